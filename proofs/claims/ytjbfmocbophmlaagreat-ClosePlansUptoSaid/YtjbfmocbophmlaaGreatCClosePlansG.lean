/- Proved: ClosePlans, for every input of bulk at most 1048576; no other condition. -/
import Derived.Test.YtjbfmocbophmlaaGreatCClosePlansF
set_option exponentiation.threshold 600
set_option linter.unusedVariables false
set_option linter.unusedSimpArgs false
set_option maxRecDepth 20000
set_option maxHeartbeats 1000000
namespace Fw
open Go Go.Proofs
theorem c_ref03_Mulr (n:Nat) (p:Rat) (x y:Int) (hp:RZ n p) (hx:Sz n x) (hy:Sz n y) (h0:0<y) (hn:n≤68719476736):Fn Tryz.prog 104 [(kPair kZ kZ).is (x,y),kRC.is (rq p)] (kRC.is (rq (rv (x,y)*p))):=by
 refine aN Tryz.func104 Z Z fun m w=>Cr<|aZ .n Z fun b1=>aZ .n Z fun b2=>aW .n ba fun b3=>Wn<|ab ?_
 refine a5 (Γ:=[.fr (VP.pt b1 0),.fr (kZ.is x),.fr (VP.pt b2 0),.fr (kC.is ((rq p).1)),.fr (kC.is (x*((rq p).1))),.fr (VP.pt b1 2),.fr (kZ.is y),.fr (VP.pt b2 2),.fr (kC.is ((rq p).2)),.fr (kC.is (y*((rq p).2))),.fr (kRC.is (rmk (x*((rq p).1)) (y*((rq p).2))))]) (aa Z (fun N=>aw Z cB Z) (aa Z (fun N=>ae (p:=kZ.is x) Z (mN N 2 Z) (aD Li) af Z) (aa Z (fun N=>aw Z cB Z) (aa Z (fun N=>ae Z (mN N 1 Z) (aD Li) af Z) (aa Z (fun N=>aB dC (aS Z (aj Z (aL (hp.a.sm (by omega))) ar)) (dy x ((rq p).1))) (aa Z (fun N=>aw Z bW Z) (aa Z (fun N=>ae (p:=kZ.is y) Z (mN N 2 Z) (am Li) af Z) (aa Z (fun N=>aw Z bW Z) (aa Z (fun N=>ae Z (mN N 1 Z) (am Li) af Z) (aa Z (fun N=>aB dC (aS Z (aj Z (aL (hp.b.sm (by omega))) ar)) (dy y ((rq p).2))) (aa Z (fun N=>aB em (aj Z (aL ((hx.mul hp.a).sm (by omega))) (aj Z (aL ((hy.mul hp.b).sm (by omega))) ar)) (d8 (x*((rq p).1)) (y*((rq p).2)) (Int.mul_ne_zero (by omega) (dZ p)))) oz)))))))))))<|fun σ1=>?_
 refine aE .n (aC (l:=kRC) (u:=rmk (x*((rq p).1)) (y*((rq p).2))) 0 Z Z Z ai Z Lr)<|Wn<|aA<|tb 0 Z (y:=(rq (rv (x,y)*p))) (by have e:=raw_mul (x:=x) (u:=(rq p).1) h0 (rq_den_pos p);rw [show ((rq p).1,(rq p).2)=rq p from rfl,rv_rq] at e;exact e) ?_
 exact Qd Z (aY Z (ag 0 Z) ai ay) ⟨Z,Z⟩
theorem c_ref05_Mu (G:Nat→Nat→Int) (n nB i j:Nat) (hs:SymG G) (hP:PosU G n) (hj:j<i) (hi:i<n) (h12:n≤12) (hD:∀k,k≤n→Sz nB (uD G k)) (hL:∀x k,x<n→k<x→Sz nB (uE G k x k)) (hB:nB≤68719476736):Fn Tryz.prog 91 [kGso.is (gDs (G) n,gLs (G) n),kN6.is (i:Int),kN6.is (j:Int)] (kRC.is (rq (frM G i j))):=by
 refine aN Tryz.func91 Z Z fun m w=>Cr<|aZ .n Z fun b1=>aW .n ba fun b2=>Wn<|ab<|Cr<|Wm Z<|Wm Z<|Ws (cq Z Z)<|Wn ?_
 refine CN Z (by omega) fun h_t9=>?_
 refine Ck<|ab ?_
 refine a5 (Γ:=[.fr (VP.pt b1 1),.fr (kMC.is (gLs (G) n)),.fr (kN6.is (i:Int)),.fr (VP.pim kVC ((gLs (G) n).getD i [])),.fr (kVC.is ((gLs (G) n).getD i [])),.fr (kN6.is (j:Int)),.fr (VP.pim kC (uE G j i j)),.fr (kC.is (uE G j i j)),.fr (VP.pt b1 0),.fr (kVC.is (gDs (G) n)),.fr (kN6.is (j:Int)),.fr (kN6.is ((j:Int)+1)),.fr (VP.pim kC (uD G (j+1))),.fr (kC.is (uD G (j+1))),.fr (kRC.is (rmk (uE G j i j) (uD G (j+1))))]) (aa Z (fun N=>aw Z ct Z) (aa Z (fun N=>ae (p:=kMC.is (gLs (G) n)) Z (mN N 1 Z) (am Li) bf Z) (om Z Z (aa Z (fun N=>aU i Z Z U22 aK Z (v:=((gLs (G) n).getD i [])) (gd [] (by rw [gLs_len];omega))) (aa Z (fun N=>aO Z aK) (om Z Z (aa Z (fun N=>aU j Z Z U23 af Z (v:=(uE G j i j)) (fQ (by omega) (by omega))) (aa Z (fun N=>aO Z af) (aa Z (fun N=>aw Z cK Z) (aa Z (fun N=>ae (p:=kVC.is (gDs (G) n)) Z (mN N 1 Z) (aD Li) aK Z) (om Z Z (aa Z (fun N=>aR Z Z (c:=((j:Int)+1)) (aH (by omega))) (aa Z (fun N=>aU (j+1) Z Z U23 af (by omega) (v:=(uD G (j+1))) (dv (by omega))) (aa Z (fun N=>aO Z af) (aa Z (fun N=>aB em (aj Z (aL ((hL i j (by omega) (by omega)).sm (by omega))) (aj Z (aL ((hD (j+1) (by omega)).sm (by omega))) ar)) (d8 (uE G j i j) (uD G (j+1)) (uD_ne hP (by omega)))) oz)))))))))))))))<|fun σ1=>?_
 refine aE .n (aC (l:=kRC) (u:=rmk (uE G j i j) (uD G (j+1))) 0 Z Z Z ai Z Lr)<|Wn<|aA<|tb 0 Z (y:=(rq (frM G i j))) (frM_rmk hs hP hj hi) ?_
 exact Qd Z (aY Z (ag 0 Z) ai ay) ⟨Z,Z⟩
theorem c_ref11_aim (G:Nat→Nat→Int) (n:Nat) (c:Nat→Rat) (r:Rat) (hP:TZ G n c) (hr:RZ 21000000000 r) (hr0:0≤(rq r).1) (i:Nat) (hi:i<n):Fn Tryz.prog 236 [kTre.is ((gDs (G) n,gLs (G) n),tcL c n,(rq r)),kN6.is (i:Int)] (kRC.is (rq (c i))):=by
 refine aN Tryz.func236 Z Z fun m w=>?_
 have hn0:=hP.n0
 have hn12:=hP.n12
 have hTl:=tcL_len c n
 have hLl:=gLs_len G n
 refine Cr<|aZ .n Z fun b1=>aW .n ba fun b2=>Wn<|ab<|Cr<|Ws (aw Z eg Z)<|Ws (ae (p:=(kSl kRC).is (tcL c n)) Z (ag 1 Z) (am (aD Li)) bN Z)<|Ws (aJ Z U26)<|Ws (cq Z Z)<|Wn ?_
 refine CN Z (by omega) fun h_t8=>?_
 refine Ck<|ab ?_
 refine a5 (Γ:=[.fr (VP.pt b1 2),.fr ((kSl kRC).is (tcL c n)),.fr (kN6.is (i:Int)),.fr (VP.pim kRC (rq (c i))),.fr (VP.pim kC ((rq (c i)).1)),.fr (kC.is ((rq (c i)).1)),.fr (VP.pt b1 2),.fr ((kSl kRC).is (tcL c n)),.fr (kN6.is (i:Int)),.fr (VP.pim kRC (rq (c i))),.fr (VP.pim kC ((rq (c i)).2)),.fr (kC.is ((rq (c i)).2)),.fr (kRC.is (rmk ((rq (c i)).1) ((rq (c i)).2)))]) (aa Z (fun N=>aw Z eg Z) (aa Z (fun N=>ae (p:=(kSl kRC).is (tcL c n)) Z (mN N 1 Z) (am (aD Li)) bN Z) (om Z Z (aa Z (fun N=>aU i Z Z U26 ai Z (v:=(rq (c i))) (fP (by omega))) (aa Z (fun N=>cQ Z cB (aD Li) Z) (aa Z (fun N=>aO Z af) (aa Z (fun N=>aw Z eg Z) (aa Z (fun N=>ae (p:=(kSl kRC).is (tcL c n)) Z (mN N 1 Z) (am (aD Li)) bN Z) (om Z Z (aa Z (fun N=>aU i Z Z U26 ai Z (v:=(rq (c i))) (fP (by omega))) (aa Z (fun N=>cQ Z bW (am Li) Z) (aa Z (fun N=>aO Z af) (aa Z (fun N=>aB em (aj Z (aL ((hP.c i hi).a.sm (by decide))) (aj Z (aL ((hP.c i hi).b.sm (by decide))) ar)) (d8 ((rq (c i)).1) ((rq (c i)).2) (dZ _))) oz)))))))))))))<|fun σ1=>?_
 refine aE .n (aC (l:=kRC) (u:=rmk ((rq (c i)).1) ((rq (c i)).2)) 0 Z Z Z ai Z Lr)<|Wn<|aA<|tb 0 Z (y:=(rq (c i))) (rmk_self _) ?_
 exact Qd Z (aY Z (ag 0 Z) ai ay) ⟨Z,Z⟩
abbrev gn:=@c_ref11_aim
theorem c_ref11_Centre (G:Nat→Nat→Int) (n:Nat) (c:Nat→Rat) (r:Rat) (hP:TZ G n c) (hr:RZ 21000000000 r) (hr0:0≤(rq r).1) (s:List Int) (hs:SzL 30000000 s) (hl:s.length<n):Fn Tryz.prog 173 [kTre.is ((gDs (G) n,gLs (G) n),tcL c n,(rq r)),kVC.is s] (kRC.is (rq (cenQ G n c (sfx s) (n-1-s.length) s.length))):=by
 refine aN Tryz.func173 Z Z fun m w=>?_
 have hn0:=hP.n0
 have hn12:=hP.n12
 have hTl:=tcL_len c n
 have hLl:=gLs_len G n
 refine Cr<|aZ .n Z fun b1=>aW .n ba fun b2=>Wr<|Ws (aw Z c7 Z)<|Ws (aw Z ct Z)<|Ws (ae (p:=kMC.is (gLs (G) n)) Z (ag 1 Z) (aD (am Li)) bf Z)<|Ws (aJ Z U22)<|Wa Z<|Wn<|ab<|tl 5 Z (y:=(n:Int)) (by rw [hLl])<|ak<|Wm Z<|Ws (bj Z Z (c:=((n:Int)-1)) (aH (by omega)))<|Wm Z<|Ws (aJ Z U23)<|Ws (bj Z Z (c:=(((n:Int)-1)-(s.length:Int))) (aH (by omega)))<|Wa Z ?_
 refine Wn<|ab<|tl 6 Z (y:=((n-1-s.length:Nat):Int)) (by omega)<|ak<|Ws (ae (p:=kTre.is ((gDs (G) n,gLs (G) n),tcL c n,(rq r))) Z (ag 1 Z) Li cL Z)<|Wm Z<|Ws (aB fn236 (aS Z (aj Z (ah (y:=(((n-1-s.length):Nat):Int)) (by rfl)) ar)) (gn G n c r hP hr hr0 (n-1-s.length) (by omega)))<|Ax (l:=kRC) (u:=rq (c (n-1-s.length))) ba Z ai (fun _=>Z) Lr fun b3=>Wn<|ab<|Cr<|Wa Z<|Wn<|aF<|tb 0 Z (y:=(rq (cenQ G n c (sfx s) (n-1-s.length) 0))) (by rw [cen_00])<|bJ (fun (k:Nat)=>k≤s.length) (fun (k:Nat)=>[(1,kVC.is s),(2,VP.pt b1 0),(4,VP.pt b2 0),(5,kN6.is (n:Int)),(6,kN6.is ((n-1-s.length:Nat):Int)),(7,VP.pt b3 0),(8,kN6.is (k:Int))]) (fun (k:Nat)=>[OB.box b3 31 kRC (rq (cenQ G n c (sfx s) (n-1-s.length) k)),OB.box b2 31 kRC (0,0),OB.box b1 33 kTre ((gDs (G) n,gLs (G) n),tcL c n,(rq r))]) (fun (k:Nat)=>s.length-k) 0 (Nat.zero_le _) (ao Z Z Z Z (ac Z (ac Z (az Z (ah (y:=(0:Int)) (by rfl)) aq)))) (aG _) ?_
 intro k hk
 refine ab<|Cr<|Wm Z<|Wm Z<|Ws (aJ Z U23)<|Ws (aX Z Z)<|Wn ?_
 refine aM Z (fun h_t26=>?_)<|fun h_t26=>?_
 ·
  refine Ck<|ab<|aF<|Cr<|Wm Z<|Ws (bj Z Z (c:=((n:Int)-1)) (aH (by omega)))<|Wm Z<|Ws (bj Z Z (c:=(((n:Int)-1)-(k:Int))) (aH (by omega)))<|Wa Z<|Wn<|ab<|tl 9 Z (y:=((n-1-k:Nat):Int)) (by omega) ?_
  refine a5 (Γ:=[.fr (kVC.is s),.fr (kN6.is (k:Int)),.fr (VP.pim kC (s.getD k 0)),.fr (kC.is (s.getD k 0)),.fr (kRC.is (rq ((s.getD k 0):Rat))),.fr (kTre.is ((gDs (G) n,gLs (G) n),tcL c n,(rq r))),.fr (kN6.is ((n-1-k:Nat):Int)),.fr (kRC.is (rq (c (n-1-k)))),.fr (kRC.is (rq (((s.getD k 0:Int):Rat)-(c (n-1-k))))),.al (fun b=>OB.box b 31 kRC (0,0))]) (om Z Z (om Z Z (aa Z (fun N=>aU k Z Z U23 af Z (v:=(s.getD k 0)) (gd 0 (by omega))) (aa Z (fun N=>aO Z af) (aa Z (fun N=>aB dK (aj Z (aL ((hs k).sm (by decide))) ar) (dH (s.getD k 0))) (aa Z (fun N=>ae (p:=kTre.is ((gDs (G) n,gLs (G) n),tcL c n,(rq r))) Z (mN N 2 Z) Li cL Z) (om Z Z (aa Z (fun N=>aB fn236 (aS Z (aj Z (ah (y:=(((n-1-k):Nat):Int)) (by rfl)) ar)) (gn G n c r hP hr hr0 (n-1-k) (by omega))) (aa Z (fun N=>aB d6 (aj Z (ah (y:=rq ((s.getD k 0:Int):Rat)) (by rfl)) (aS Z ar)) (eu 30000001 ((s.getD k 0:Int):Rat) (c (n-1-k)) (cX hs k) ((hP.c (n-1-k) (by omega)).up (by decide)) (by decide))) (oc (cR Z ba) oz))))))))))<|fun σ1=>?_
  refine aE .n (aC (l:=kRC) (u:=rq (((s.getD k 0:Int):Rat)-(c (n-1-k)))) 0 Z Z Z ai Z Lr)<|Wn<|tb 0 Z (y:=(rq (sfx s k-c (n-1-k)))) Z ?_
  refine a5 (Γ:=[.fr (kRC.is (rq (cenQ G n c (sfx s) (n-1-s.length) k))),.fr (VP.pt b1 0),.fr (kGso.is (gDs (G) n,gLs (G) n)),.fr (kN6.is ((n-1-k:Nat):Int)),.fr (kN6.is ((n-1-s.length:Nat):Int)),.fr (kRC.is (rq (frM G (n-1-k) (n-1-s.length)))),.fr (kRC.is (rq (sfx s k-c (n-1-k)))),.fr (kRC.is (rq ((frM G (n-1-k) (n-1-s.length))*(sfx s k-c (n-1-k))))),.fr (kRC.is (rq ((cenQ G n c (sfx s) (n-1-s.length) k)-(frM G (n-1-k) (n-1-s.length)*(sfx s k-c (n-1-k))))))]) (aa Z (fun N=>ae Z (mN N 1 Z) Li ai Z) (aa Z (fun N=>aw Z c7 Z) (aa Z (fun N=>ae (p:=kGso.is (gDs (G) n,gLs (G) n)) Z (mN N 3 Z) (aD Li) bl Z) (om Z Z (om Z Z (aa Z (fun N=>aB fn91 (aS Z (aj Z (ah (y:=(((n-1-k):Nat):Int)) (by rfl)) (aj Z (ah (y:=(((n-1-s.length):Nat):Int)) (by rfl)) ar))) (c_ref05_Mu G n 2300000 (n-1-k) (n-1-s.length) hP.s hP.p (by omega) (by omega) hP.n12 hP.d hP.l (by decide))) (aa Z (fun N=>ae Z (mN N 0 Z) Li ai Z) (aa Z (fun N=>f2 dk Z Z (dp 58000002 (frM G (n-1-k) (n-1-s.length)) (sfx s k-c (n-1-k)) ((hP.m (n-1-k) (n-1-s.length) (by omega) (by omega)).up (by decide)) ((cX hs k).sub2 (hP.c (n-1-k) (by omega))) (by decide))) (aa Z (fun N=>aB d6 (aS Z (aj Z (ah (y:=rq (frM G (n-1-k) (n-1-s.length)*(sfx s k-c (n-1-k)))) (by rfl)) ar)) (eu 800000000 (cenQ G n c (sfx s) (n-1-s.length) k) (frM G (n-1-k) (n-1-s.length)*(sfx s k-c (n-1-k))) (hP.cen (fun t _=>cX hs t) (by omega)) (((hP.m (n-1-k) (n-1-s.length) (by omega) (by omega)).mul ((cX hs k).sub2 (hP.c (n-1-k) (by omega)))).up (by decide)) (by decide))) oz)))))))))<|fun σ2=>?_
  refine aE .n (aC (l:=kRC) (u:=rq ((cenQ G n c (sfx s) (n-1-s.length) k)-(frM G (n-1-k) (n-1-s.length)*(sfx s k-c (n-1-k))))) 1 Z Z Z ai Z Lr)<|au<|Qb<|ak<|Wm Z<|Ws (aR Z Z (c:=((k:Int)+1)) (aH (by omega)))<|Wa Z<|au<|bg (bm [1,2,3] (by decide) Z)<|tb 0 Z (y:=(rq (cenQ G n c (sfx s) (n-1-s.length) (k+1)))) (by rw [cen_s2]) ?_
  exact bE (k+1) (by omega) (by omega) (ao Z Z Z Z (ac Z (ac Z (az Z (ah (y:=(((k+1):Nat):Int)) (by rfl)) aq))))<|aG _
 ·
  refine Ex<|ab<|tb 0 Z (y:=(rq (cenQ G n c (sfx s) (n-1-s.length) s.length))) (by rw [show k=s.length by omega])<|ak<|Ws (ae Z (ag 0 Z) Li ai Z)<|aE .n (aC (l:=kRC) (u:=(rq (cenQ G n c (sfx s) (n-1-s.length) s.length))) 1 Z Z Z ai Z Lr)<|Wn<|aA ?_
  exact Qd Z (aY Z (ag 1 Z) ai ay) ⟨Z,Z⟩
theorem c_ref11_Centreo (vs:Value) (G:Nat→Nat→Int) (n:Nat) (c:Nat→Rat) (r:Rat) (hP:TZ G n c) (hr:RZ 21000000000 r) (hr0:0≤(rq r).1) (s:List Int) (hs:SzL 30000000 s) (hl:s.length<n):Con Tryz.prog 173 [kTre.is ((gDs (G) n,gLs (G) n),tcL c n,(rq r)),VP.ex vs] [OB.row vs 29 kC s] (fun p Lo=>p=kRC.is (rq (cenQ G n c (sfx s) (n-1-s.length) s.length))∧Lo=[OB.row vs 29 kC s]∧True):=by
 refine aN Tryz.func173 Z Z fun m w=>?_
 have hn0:=hP.n0
 have hn12:=hP.n12
 have hTl:=tcL_len c n
 have hLl:=gLs_len G n
 refine Cr<|aZ .n Z fun b1=>aW .n ba fun b2=>Wr<|Ws (aw Z c7 Z)<|Ws (aw Z ct Z)<|Ws (ae (p:=kMC.is (gLs (G) n)) Z (ag 1 Z) (aD (am Li)) bf Z)<|Ws (aJ Z U22)<|Wa Z<|Wn<|ab<|tl 5 Z (y:=(n:Int)) (by rw [hLl])<|ak<|Wm Z<|Ws (bj Z Z (c:=((n:Int)-1)) (aH (by omega)))<|Wm Z<|Ws (de Z (ag 2 Z) U23)<|Ws (bj Z Z (c:=(((n:Int)-1)-(s.length:Int))) (aH (by omega)))<|Wa Z ?_
 refine Wn<|ab<|tl 6 Z (y:=((n-1-s.length:Nat):Int)) (by omega)<|ak<|Ws (ae (p:=kTre.is ((gDs (G) n,gLs (G) n),tcL c n,(rq r))) Z (ag 1 Z) Li cL Z)<|Wm Z<|Ws (aB fn236 (aS Z (aj Z (ah (y:=(((n-1-s.length):Nat):Int)) (by rfl)) ar)) (gn G n c r hP hr hr0 (n-1-s.length) (by omega)))<|Ax (l:=kRC) (u:=rq (c (n-1-s.length))) ba Z ai (fun _=>Z) Lr fun b3=>Wn<|ab<|Cr<|Wa Z<|Wn<|aF<|tb 0 Z (y:=(rq (cenQ G n c (sfx s) (n-1-s.length) 0))) (by rw [cen_00])<|bJ (fun (k:Nat)=>k≤s.length) (fun (k:Nat)=>[(1,VP.ex vs),(2,VP.pt b1 0),(4,VP.pt b2 0),(5,kN6.is (n:Int)),(6,kN6.is ((n-1-s.length:Nat):Int)),(7,VP.pt b3 0),(8,kN6.is (k:Int))]) (fun (k:Nat)=>[OB.box b3 31 kRC (rq (cenQ G n c (sfx s) (n-1-s.length) k)),OB.box b2 31 kRC (0,0),OB.box b1 33 kTre ((gDs (G) n,gLs (G) n),tcL c n,(rq r)),OB.row vs 29 kC s]) (fun (k:Nat)=>s.length-k) 0 (Nat.zero_le _) (ao Z Z Z Z (ac Z (ac Z (az Z (ah (y:=(0:Int)) (by rfl)) aq)))) (aG _) ?_
 intro k hk
 refine ab<|Cr<|Wm Z<|Wm Z<|Ws (de Z (ag 3 Z) U23)<|Ws (aX Z Z)<|Wn ?_
 refine aM Z (fun h_t26=>?_)<|fun h_t26=>?_
 ·
  refine Ck<|ab<|aF<|Cr<|Wm Z<|Ws (bj Z Z (c:=((n:Int)-1)) (aH (by omega)))<|Wm Z<|Ws (bj Z Z (c:=(((n:Int)-1)-(k:Int))) (aH (by omega)))<|Wa Z<|Wn<|ab<|tl 9 Z (y:=((n-1-k:Nat):Int)) (by omega) ?_
  refine a5 (Γ:=[.fr (VP.ex vs),.fr (kN6.is (k:Int)),.fr (VP.pel vs (k*2)),.fr (kC.is (s.getD k 0)),.fr (kRC.is (rq ((s.getD k 0):Rat))),.fr (kTre.is ((gDs (G) n,gLs (G) n),tcL c n,(rq r))),.fr (kN6.is ((n-1-k:Nat):Int)),.fr (kRC.is (rq (c (n-1-k)))),.fr (kRC.is (rq (((s.getD k 0:Int):Rat)-(c (n-1-k))))),.al (fun b=>OB.box b 31 kRC (0,0))]) (om Z Z (om Z Z (aa Z (fun N=>bb (k:=kC) (xs:=s) (n:=(k:Int)) k Z Z (mN N 3 Z) U23 af Z (by omega)) (aa Z (fun N=>bp k Z (mN N 3 Z) Li Z (y:=(s.getD k 0)) (gd 0 (by omega)) af Z) (aa Z (fun N=>aB dK (aj Z (aL ((hs k).sm (by decide))) ar) (dH (s.getD k 0))) (aa Z (fun N=>ae (p:=kTre.is ((gDs (G) n,gLs (G) n),tcL c n,(rq r))) Z (mN N 2 Z) Li cL Z) (om Z Z (aa Z (fun N=>aB fn236 (aS Z (aj Z (ah (y:=(((n-1-k):Nat):Int)) (by rfl)) ar)) (gn G n c r hP hr hr0 (n-1-k) (by omega))) (aa Z (fun N=>aB d6 (aj Z (ah (y:=rq ((s.getD k 0:Int):Rat)) (by rfl)) (aS Z ar)) (eu 30000001 ((s.getD k 0:Int):Rat) (c (n-1-k)) (cX hs k) ((hP.c (n-1-k) (by omega)).up (by decide)) (by decide))) (oc (cR Z ba) oz))))))))))<|fun σ1=>?_
  refine aE .n (aC (l:=kRC) (u:=rq (((s.getD k 0:Int):Rat)-(c (n-1-k)))) 0 Z Z Z ai Z Lr)<|Wn<|tb 0 Z (y:=(rq (sfx s k-c (n-1-k)))) Z ?_
  refine a5 (Γ:=[.fr (kRC.is (rq (cenQ G n c (sfx s) (n-1-s.length) k))),.fr (VP.pt b1 0),.fr (kGso.is (gDs (G) n,gLs (G) n)),.fr (kN6.is ((n-1-k:Nat):Int)),.fr (kN6.is ((n-1-s.length:Nat):Int)),.fr (kRC.is (rq (frM G (n-1-k) (n-1-s.length)))),.fr (kRC.is (rq (sfx s k-c (n-1-k)))),.fr (kRC.is (rq ((frM G (n-1-k) (n-1-s.length))*(sfx s k-c (n-1-k))))),.fr (kRC.is (rq ((cenQ G n c (sfx s) (n-1-s.length) k)-(frM G (n-1-k) (n-1-s.length)*(sfx s k-c (n-1-k))))))]) (aa Z (fun N=>ae Z (mN N 1 Z) Li ai Z) (aa Z (fun N=>aw Z c7 Z) (aa Z (fun N=>ae (p:=kGso.is (gDs (G) n,gLs (G) n)) Z (mN N 3 Z) (aD Li) bl Z) (om Z Z (om Z Z (aa Z (fun N=>aB fn91 (aS Z (aj Z (ah (y:=(((n-1-k):Nat):Int)) (by rfl)) (aj Z (ah (y:=(((n-1-s.length):Nat):Int)) (by rfl)) ar))) (c_ref05_Mu G n 2300000 (n-1-k) (n-1-s.length) hP.s hP.p (by omega) (by omega) hP.n12 hP.d hP.l (by decide))) (aa Z (fun N=>ae Z (mN N 0 Z) Li ai Z) (aa Z (fun N=>f2 dk Z Z (dp 58000002 (frM G (n-1-k) (n-1-s.length)) (sfx s k-c (n-1-k)) ((hP.m (n-1-k) (n-1-s.length) (by omega) (by omega)).up (by decide)) ((cX hs k).sub2 (hP.c (n-1-k) (by omega))) (by decide))) (aa Z (fun N=>aB d6 (aS Z (aj Z (ah (y:=rq (frM G (n-1-k) (n-1-s.length)*(sfx s k-c (n-1-k)))) (by rfl)) ar)) (eu 800000000 (cenQ G n c (sfx s) (n-1-s.length) k) (frM G (n-1-k) (n-1-s.length)*(sfx s k-c (n-1-k))) (hP.cen (fun t _=>cX hs t) (by omega)) (((hP.m (n-1-k) (n-1-s.length) (by omega) (by omega)).mul ((cX hs k).sub2 (hP.c (n-1-k) (by omega)))).up (by decide)) (by decide))) oz)))))))))<|fun σ2=>?_
  refine aE .n (aC (l:=kRC) (u:=rq ((cenQ G n c (sfx s) (n-1-s.length) k)-(frM G (n-1-k) (n-1-s.length)*(sfx s k-c (n-1-k))))) 1 Z Z Z ai Z Lr)<|au<|Qb<|ak<|Wm Z<|Ws (aR Z Z (c:=((k:Int)+1)) (aH (by omega)))<|Wa Z<|au<|bg (bm [1,2,3,4] (by decide) Z)<|tb 0 Z (y:=(rq (cenQ G n c (sfx s) (n-1-s.length) (k+1)))) (by rw [cen_s2]) ?_
  exact bE (k+1) (by omega) (by omega) (ao Z Z Z Z (ac Z (ac Z (az Z (ah (y:=(((k+1):Nat):Int)) (by rfl)) aq))))<|aG _
 ·
  refine Ex<|ab<|tb 0 Z (y:=(rq (cenQ G n c (sfx s) (n-1-s.length) s.length))) (by rw [show k=s.length by omega])<|ak<|Ws (ae Z (ag 0 Z) Li ai Z)<|aE .n (aC (l:=kRC) (u:=(rq (cenQ G n c (sfx s) (n-1-s.length) s.length))) 1 Z Z Z ai Z Lr)<|Wn<|aA ?_
  exact cg (.inl Z) Z (aY Z (ag 1 Z) ai ay) (a9 (OS.skip (OS.skip (OS.skip (OS.keep OS.nil))))) ⟨Z,Z,trivial⟩
theorem c_ref11_Part (G:Nat→Nat→Int) (n:Nat) (c:Nat→Rat) (r:Rat) (hP:TZ G n c) (hr:RZ 21000000000 r) (hr0:0≤(rq r).1) (s:List Int) (hs:SzL 30000000 s) (hl:s.length≤n):Fn Tryz.prog 101 [kTre.is ((gDs (G) n,gLs (G) n),tcL c n,(rq r)),kVC.is s] (kRC.is (rq (parQ G n c (sfx s) s.length))):=by
 refine aN Tryz.func101 Z Z fun m w=>?_
 have hn0:=hP.n0
 have hn12:=hP.n12
 have hTl:=tcL_len c n
 have hLl:=gLs_len G n
 refine Cr<|aZ .n Z fun b1=>aW .n ba fun b2=>Wr<|Ws (bY dQ Z br (.nil _))<|Ws (aB dK (aj Z (aL (Sm_lit (by decide))) ar) (dH 0))<|Ax (l:=kRC) (u:=rq (0:Rat)) ba Z ai (fun _=>Z) Lr fun b3=>Wn<|ab<|Cr<|Wa Z<|Wn<|aF<|tb 0 Z (y:=(rq (parQ G n c (sfx s) 0))) Z<|bJ (fun (i:Nat)=>i≤s.length) (fun (i:Nat)=>[(1,kVC.is s),(2,VP.pt b1 0),(4,VP.pt b2 0),(5,VP.pt b3 0),(6,kN6.is (i:Int))]) (fun (i:Nat)=>[OB.box b3 31 kRC (rq (parQ G n c (sfx s) i)),OB.box b2 31 kRC (0,0),OB.box b1 33 kTre ((gDs (G) n,gLs (G) n),tcL c n,(rq r))]) (fun (i:Nat)=>s.length-i) 0 (Nat.zero_le _) (ao Z Z Z Z (az Z (ah (y:=(0:Int)) (by rfl)) aq)) (aG _) ?_
 intro i hi
 refine ab<|Cr<|Wm Z<|Wm Z<|Ws (aJ Z U23)<|Ws (aX Z Z)<|Wn ?_
 refine aM Z (fun h_t14=>?_)<|fun h_t14=>?_
 ·
  refine Ck<|ab<|aF<|ab ?_
  have hce:RZ 800000000 (cenQ G n c (sfx (s.take i)) (n-1-(s.take i).length) (s.take i).length):=hP.cen (fun t _=>sfx_RZ (hs.take i) t) (by simp;omega)
  have hof:RZ 830000002 (((s.getD i 0:Int):Rat)-(cenQ G n c (sfx (s.take i)) (n-1-(s.take i).length) (s.take i).length)):=(sfx_RZ hs i).sub2 hce
  refine ak<|Ws (aw Z c7 Z)<|Ws (aw Z ct Z)<|Ws (ae (p:=kMC.is (gLs (G) n)) Z (ag 2 Z) (aD (am Li)) bf Z)<|Ws (aJ Z U22)<|Ws (bj Z Z (c:=(((gLs (G) n).length:Int)-1)) (aH (by omega)))<|Wm Z<|Ws (bj Z Z (c:=((((gLs (G) n).length:Int)-1)-(i:Int))) (aH (by omega)))<|Wa Z<|Wn<|ab<|tl 7 Z (y:=((n-1-i:Nat):Int)) (by rw [hLl];omega) ?_
  refine a5 (Γ:=[.fr (kVC.is s),.fr (kN6.is (i:Int)),.fr (VP.pim kC (s.getD i 0)),.fr (kC.is (s.getD i 0)),.fr (kRC.is (rq ((s.getD i 0):Rat))),.fr (kTre.is ((gDs (G) n,gLs (G) n),tcL c n,(rq r))),.fr (kVC.is s),.fr (kN6.is (i:Int)),.fr (kVC.is (s.take i)),.fr (kRC.is (rq (cenQ G n c (sfx (s.take i)) (n-1-(s.take i).length) (s.take i).length))),.fr (kRC.is (rq (((s.getD i 0:Int):Rat)-(cenQ G n c (sfx (s.take i)) (n-1-(s.take i).length) (s.take i).length)))),.al (fun b=>OB.box b 31 kRC (0,0))]) (om Z Z (om Z Z (aa Z (fun N=>aU i Z Z U23 af Z (v:=(s.getD i 0)) (gd 0 (by omega))) (aa Z (fun N=>aO Z af) (aa Z (fun N=>aB dK (aj Z (aL ((hs i).sm (by decide))) ar) (dH (s.getD i 0))) (aa Z (fun N=>ae (p:=kTre.is ((gDs (G) n,gLs (G) n),tcL c n,(rq r))) Z (mN N 2 Z) Li cL Z) (om Z Z (om Z Z (aa Z (fun N=>O.slH i Z Z U23 af Z (by omega)) (aa Z (fun N=>f2 fn173 Z Z (c_ref11_Centre G n c r hP hr hr0 (s.take i) (hs.take i) (by simp;omega))) (aa Z (fun N=>aB d6 (aj Z (ah (y:=rq ((s.getD i 0:Int):Rat)) (by rfl)) (aS Z ar)) (eu 800000000 ((s.getD i 0:Int):Rat) (cenQ G n c (sfx (s.take i)) (n-1-(s.take i).length) (s.take i).length) ((cX hs i).up (by decide)) hce (by decide))) (oc (cR Z ba) oz))))))))))))<|fun σ1=>?_
  refine aE .n (aC (l:=kRC) (u:=rq (((s.getD i 0:Int):Rat)-(cenQ G n c (sfx (s.take i)) (n-1-(s.take i).length) (s.take i).length))) 0 Z Z Z ai Z Lr)<|Wn ?_
  refine a5 (Γ:=[.fr (kRC.is (rq (parQ G n c (sfx s) i))),.fr (kRC.is (rq (((s.getD i 0:Int):Rat)-(cenQ G n c (sfx (s.take i)) (n-1-(s.take i).length) (s.take i).length)))),.fr (kRC.is (rq (((s.getD i 0:Int):Rat)-(cenQ G n c (sfx (s.take i)) (n-1-(s.take i).length) (s.take i).length)))),.fr (kRC.is (rq ((((s.getD i 0:Int):Rat)-(cenQ G n c (sfx (s.take i)) (n-1-(s.take i).length) (s.take i).length))*(((s.getD i 0:Int):Rat)-(cenQ G n c (sfx (s.take i)) (n-1-(s.take i).length) (s.take i).length))))),.fr (VP.pt b1 0),.fr (kGso.is (gDs (G) n,gLs (G) n)),.fr (kN6.is ((n-1-i:Nat):Int)),.fr (kRC.is (rq (frS G (n-1-i)))),.fr (kRC.is (rq (((((s.getD i 0:Int):Rat)-(cenQ G n c (sfx (s.take i)) (n-1-(s.take i).length) (s.take i).length))*(((s.getD i 0:Int):Rat)-(cenQ G n c (sfx (s.take i)) (n-1-(s.take i).length) (s.take i).length)))*(frS G (n-1-i))))),.fr (kRC.is (rq ((parQ G n c (sfx s) i)+((((s.getD i 0:Int):Rat)-(cenQ G n c (sfx (s.take i)) (n-1-(s.take i).length) (s.take i).length))*(((s.getD i 0:Int):Rat)-(cenQ G n c (sfx (s.take i)) (n-1-(s.take i).length) (s.take i).length))*frS G (n-1-i)))))]) (aa Z (fun N=>ae Z (mN N 1 Z) Li ai Z) (aa Z (fun N=>ae Z (mN N 0 Z) Li ai Z) (aa Z (fun N=>ae Z (mN N 0 Z) Li ai Z) (aa Z (fun N=>f2 dk Z Z (dp 830000002 (((s.getD i 0:Int):Rat)-(cenQ G n c (sfx (s.take i)) (n-1-(s.take i).length) (s.take i).length)) (((s.getD i 0:Int):Rat)-(cenQ G n c (sfx (s.take i)) (n-1-(s.take i).length) (s.take i).length)) hof hof (by decide))) (aa Z (fun N=>aw Z c7 Z) (aa Z (fun N=>ae (p:=kGso.is (gDs (G) n,gLs (G) n)) Z (mN N 3 Z) (aD Li) bl Z) (om Z Z (aa Z (fun N=>aB fn75 (aS Z (aj Z (ah (y:=(((n-1-i):Nat):Int)) (by rfl)) ar)) (c_ref05_Star G n 2300000 (n-1-i) hP.s hP.p (by omega) hP.n12 hP.d (by decide))) (aa Z (fun N=>f2 dk Z Z (dp 1660000004 ((((s.getD i 0:Int):Rat)-(cenQ G n c (sfx (s.take i)) (n-1-(s.take i).length) (s.take i).length))*(((s.getD i 0:Int):Rat)-(cenQ G n c (sfx (s.take i)) (n-1-(s.take i).length) (s.take i).length))) (frS G (n-1-i)) (hof.mul hof) ((hP.f (n-1-i) (by omega)).up (by decide)) (by decide))) (aa Z (fun N=>aB eE (aS Z (aj Z (ah (y:=rq ((((s.getD i 0:Int):Rat)-(cenQ G n c (sfx (s.take i)) (n-1-(s.take i).length) (s.take i).length))*(((s.getD i 0:Int):Rat)-(cenQ G n c (sfx (s.take i)) (n-1-(s.take i).length) (s.take i).length))*frS G (n-1-i))) (by rfl)) ar)) (eJ 21000000000 (parQ G n c (sfx s) i) ((((s.getD i 0:Int):Rat)-(cenQ G n c (sfx (s.take i)) (n-1-(s.take i).length) (s.take i).length))*(((s.getD i 0:Int):Rat)-(cenQ G n c (sfx (s.take i)) (n-1-(s.take i).length) (s.take i).length))*frS G (n-1-i)) (hP.par (fun t _=>cX hs t) (by omega)) (((hof.mul hof).mul (hP.f (n-1-i) (by omega))).up (by decide)) (by decide))) oz))))))))))<|fun σ2=>?_
  refine aE .n (aC (l:=kRC) (u:=rq ((parQ G n c (sfx s) i)+((((s.getD i 0:Int):Rat)-(cenQ G n c (sfx (s.take i)) (n-1-(s.take i).length) (s.take i).length))*(((s.getD i 0:Int):Rat)-(cenQ G n c (sfx (s.take i)) (n-1-(s.take i).length) (s.take i).length))*frS G (n-1-i)))) 1 Z Z Z ai Z Lr)<|au<|Qb<|ak<|Wm Z<|Ws (aR Z Z (c:=((i:Int)+1)) (aH (by omega)))<|Wa Z<|au<|bg (bm [1,2,3] (by decide) Z)<|tb 0 Z (y:=(rq (parQ G n c (sfx s) (i+1)))) (by rw [par_s (by omega)]) ?_
  exact bE (i+1) (by omega) (by omega) (ao Z Z Z Z (az Z (ah (y:=(((i+1):Nat):Int)) (by rfl)) aq))<|aG _
 ·
  refine Ex<|ab<|tb 0 Z (y:=(rq (parQ G n c (sfx s) s.length))) (by rw [show i=s.length by omega])<|ak<|Ws (ae Z (ag 0 Z) Li ai Z)<|aE .n (aC (l:=kRC) (u:=(rq (parQ G n c (sfx s) s.length))) 1 Z Z Z ai Z Lr)<|Wn<|aA ?_
  exact Qd Z (aY Z (ag 1 Z) ai ay) ⟨Z,Z⟩
theorem c_ref18_Distancea (u:List Int) (t:List (Int×Int)) (hD:DistP u t):Fn Tryz.prog 40 [kVZ.is u,(kSl (kPair kZ kZ)).is t] (kRC.is (rq (dstQ u t))):=by
 refine aN Tryz.func40 Z Z fun m w=>a8 (i:=0) Z bF fun hB0=>?_
 have hl:=hD.l
 refine Cr<|aW .n ba fun b1=>Wr<|Ws (aB fn73 ar (fC))<|Ax (l:=kRC) (u:=rq (0:Rat)) ba Z ai (fun _=>Z) Lr fun b2=>Wn<|ab<|Cr<|Wa Z<|Wn<|aF<|bJ (fun (i:Nat)=>i≤u.length) (fun (i:Nat)=>[(0,kVZ.is u),(1,(kSl (kPair kZ kZ)).is t),(4,VP.pt b1 0),(5,VP.pt b2 0),(6,kN6.is (i:Int))]) (fun (i:Nat)=>[OB.box b2 31 kRC (rq (sqQ (dfQ u t) i)),OB.box b1 31 kRC (0,0)]) (fun (i:Nat)=>u.length-i) 0 (Nat.zero_le _) (ao Z Z Z Z (az Z (ah (y:=(0:Int)) (by rfl)) aq)) (a9 (OS.keepLe (cm (by rfl)) (OS.keep OS.nil))) ?_
 intro i hi
 refine ab<|Cr<|Wm Z<|Wm Z<|Ws (aJ Z U23)<|Ws (aX Z Z)<|Wn ?_
 refine aM Z (fun h_t12=>?_)<|fun h_t12=>?_
 ·
  refine Ck<|ab<|aF<|ab ?_
  refine a5 (Γ:=[.fr (kVZ.is u),.fr (kN6.is (i:Int)),.fr (VP.pim kZ (u.getD i 0)),.fr (kZ.is (u.getD i 0)),.fr (kRC.is (rq ((u.getD i 0):Rat))),.fr ((kSl (kPair kZ kZ)).is t),.fr (kN6.is (i:Int)),.fr (VP.pim (kPair kZ kZ) (t.getD i (0,0))),.fr ((kPair kZ kZ).is (t.getD i (0,0))),.fr (kRC.is (rq (((u.getD i 0:Int):Rat)-rv (((t.getD i (0,0)).1),((t.getD i (0,0)).2))))),.al (fun b=>OB.box b 31 kRC (0,0))]) (om Z Z (om Z Z (aa Z (fun N=>aU i Z Z U23 af Z (v:=(u.getD i 0)) (gd 0 (by omega))) (aa Z (fun N=>aO Z af) (aa Z (fun N=>f1 dK Z (dH (u.getD i 0))) (om Z Z (om Z Z (aa Z (fun N=>aU i Z Z U26 ai Z (v:=(t.getD i (0,0))) (gd (0,0) (by omega))) (aa Z (fun N=>aO Z ai) (aa Z (fun N=>aB d6 (aj Z (ah (y:=rq ((u.getD i 0:Int):Rat)) (by rfl)) (aj Z (ah (y:=((t.getD i (0,0)).1,(t.getD i (0,0)).2)) (by rfl)) ar)) (c_ref03_Subr2 2147483649 ((u.getD i 0:Int):Rat) ((t.getD i (0,0)).1) ((t.getD i (0,0)).2) (fT ((hD.y i).up (by decide))) ((hD.z i (by omega)).1.up (by decide)) ((hD.z i (by omega)).2.up (by decide)) (hD.d i (by omega)) (by decide))) (oc (cR Z ba) oz)))))))))))<|fun σ1=>?_
  refine aE .n (aC (l:=kRC) (u:=rq (((u.getD i 0:Int):Rat)-rv (((t.getD i (0,0)).1),((t.getD i (0,0)).2)))) 0 Z Z Z ai Z Lr)<|Wn<|tb 0 Z (y:=(rq (dfQ u t i))) (by rw [dfQ_eq _ _ _ (by omega)]) ?_
  refine a5 (Γ:=[.fr (kRC.is (rq (sqQ (dfQ u t) i))),.fr (kRC.is (rq (dfQ u t i))),.fr (kRC.is (rq (dfQ u t i))),.fr (kRC.is (rq ((dfQ u t i)*(dfQ u t i)))),.fr (kRC.is (rq ((sqQ (dfQ u t) i)+(dfQ u t i*dfQ u t i))))]) (aa Z (fun N=>ae Z (mN N 1 Z) Li ai Z) (aa Z (fun N=>ae Z (mN N 0 Z) Li ai Z) (aa Z (fun N=>ae Z (mN N 0 Z) Li ai Z) (aa Z (fun N=>f2 dk Z Z (dp 2147483649 (dfQ u t i) (dfQ u t i) (hD.r i (by omega)) (hD.r i (by omega)) (by decide))) (aa Z (fun N=>aB eE (aS Z (aj Z (ah (y:=rq (dfQ u t i*dfQ u t i)) (by rfl)) ar)) (eJ 60000000000 (sqQ (dfQ u t) i) (dfQ u t i*dfQ u t i) (hD.s i (by omega)) (((hD.r i (by omega)).mul (hD.r i (by omega))).up (by decide)) (by decide))) oz)))))<|fun σ2=>?_
  refine aE .n (aC (l:=kRC) (u:=rq ((sqQ (dfQ u t) i)+(dfQ u t i*dfQ u t i))) 1 Z Z Z ai Z Lr)<|au<|Qb<|ak<|Wm Z<|Ws (aR Z Z (c:=((i:Int)+1)) (aH (by omega)))<|Wa Z<|au<|bg (bm [1,2] (by decide) Z)<|tb 0 Z (y:=(rq (sqQ (dfQ u t) (i+1)))) Z ?_
  exact bE (i+1) (by omega) (by omega) (ao Z Z Z Z (az Z (ah (y:=(((i+1):Nat):Int)) (by rfl)) aq))<|aG _
 ·
  refine Ex<|Cr<|Ws (ae Z (ag 0 Z) Li ai Z)<|aE .n (aC (l:=kRC) (u:=(rq (sqQ (dfQ u t) i))) 1 Z Z Z ai Z Lr)<|Wn<|aA<|tb 1 Z (y:=(rq (dstQ u t))) (by rw [show i=u.length by omega];rfl) ?_
  exact Qd Z (aY Z (ag 1 Z) ai ay) ⟨Z,Z⟩
theorem c_ref18_along (b:List (List Int)) (t:List (Int×Int)) (u:List Int) (hT:Tgt b t) (hu:SzL 264 u) (hl:u.length=t.length) (h12:t.length≤12):Fn Tryz.prog 172 [(kSl (kPair kZ kZ)).is t,kVZ.is u] (kRC.is (rq (adQ u t t.length))):=by
 refine aN Tryz.func172 Z Z fun m w=>Cr<|aW .n ba fun b1=>Wr<|Ws (aB fn73 ar (fC))<|Ax (l:=kRC) (u:=rq (0:Rat)) ba Z ai (fun _=>Z) Lr fun b2=>Wn<|ab<|Cr<|Wa Z<|Wn<|aF<|tb 0 Z (y:=(rq (adQ u t 0))) Z<|bJ (fun (i:Nat)=>i≤u.length) (fun (i:Nat)=>[(0,(kSl (kPair kZ kZ)).is t),(1,kVZ.is u),(4,VP.pt b1 0),(5,VP.pt b2 0),(6,kN6.is (i:Int))]) (fun (i:Nat)=>[OB.box b2 31 kRC (rq (adQ u t i)),OB.box b1 31 kRC (0,0)]) (fun (i:Nat)=>u.length-i) 0 (Nat.zero_le _) (ao Z Z Z Z (az Z (ah (y:=(0:Int)) (by rfl)) aq)) (aG _) ?_
 intro i hi
 refine ab<|Cr<|Wm Z<|Wm Z<|Ws (aJ Z U23)<|Ws (aX Z Z)<|Wn ?_
 refine aM Z (fun h_t11=>?_)<|fun h_t11=>?_
 ·
  refine Ck<|ab<|aF ?_
  refine a5 (Γ:=[.fr (kRC.is (rq (adQ u t i))),.fr ((kSl (kPair kZ kZ)).is t),.fr (kN6.is (i:Int)),.fr (VP.pim (kPair kZ kZ) (t.getD i (0,0))),.fr ((kPair kZ kZ).is (t.getD i (0,0))),.fr (kVZ.is u),.fr (kN6.is (i:Int)),.fr (VP.pim kZ (u.getD i 0)),.fr (kZ.is (u.getD i 0)),.fr (kRC.is (rq ((u.getD i 0):Rat))),.fr (kRC.is (rq (rv (((t.getD i (0,0)).1),((t.getD i (0,0)).2))*((u.getD i 0:Int):Rat)))),.fr (kRC.is (rq ((adQ u t i)+(rv ((t.getD i (0,0)).1,(t.getD i (0,0)).2)*((u.getD i 0:Int):Rat)))))]) (aa Z (fun N=>ae Z (mN N 0 Z) Li ai Z) (om Z Z (om Z Z (aa Z (fun N=>aU i Z Z U26 ai Z (v:=(t.getD i (0,0))) (gd (0,0) (by omega))) (aa Z (fun N=>aO Z ai) (om Z Z (om Z Z (aa Z (fun N=>aU i Z Z U23 af Z (v:=(u.getD i 0)) (gd 0 (by omega))) (aa Z (fun N=>aO Z af) (aa Z (fun N=>f1 dK Z (dH (u.getD i 0))) (aa Z (fun N=>aB dk (aj Z (ah (y:=((t.getD i (0,0)).1,(t.getD i (0,0)).2)) (by rfl)) (aj Z (ah (y:=rq ((u.getD i 0:Int):Rat)) (by rfl)) ar)) (c_ref03_Mulr 265 ((u.getD i 0:Int):Rat) ((t.getD i (0,0)).1) ((t.getD i (0,0)).2) (fT ((hu i).up (by decide))) ((hT.z i (by omega)).1.up (by decide)) ((hT.z i (by omega)).2.up (by decide)) (hT.d i (by omega)) (by decide))) (aa Z (fun N=>aB eE (aS Z (aj Z (ah (y:=rq (rv ((t.getD i (0,0)).1,(t.getD i (0,0)).2)*((u.getD i 0:Int):Rat))) (by rfl)) ar)) (eJ 6400 (adQ u t i) (rv ((t.getD i (0,0)).1,(t.getD i (0,0)).2)*((u.getD i 0:Int):Rat)) (ad_RZ hT hu h12 (by omega)) (((rv_RZ (x:=((t.getD i (0,0)).1,(t.getD i (0,0)).2)) (hT.d i (by omega)) (hT.z i (by omega)).1 (hT.z i (by omega)).2).mul (fT ((hu i).up (by decide):Sz 265 _))).up (by decide)) (by decide))) oz))))))))))))<|fun σ1=>?_
  refine aE .n (aC (l:=kRC) (u:=rq ((adQ u t i)+(rv ((t.getD i (0,0)).1,(t.getD i (0,0)).2)*((u.getD i 0:Int):Rat)))) 0 Z Z Z ai Z Lr)<|au<|Qb<|ak<|Wm Z<|Ws (aR Z Z (c:=((i:Int)+1)) (aH (by omega)))<|Wa Z<|au<|bg (bm [0,1] (by decide) Z)<|tb 0 Z (y:=(rq (adQ u t (i+1)))) (by rw [Rat.mul_comm (rv _),←tau_eq (show i<t.length by omega)];rfl) ?_
  exact bE (i+1) (by omega) (by omega) (ao Z Z Z Z (az Z (ah (y:=(((i+1):Nat):Int)) (by rfl)) aq))<|aG _
 ·
  refine Ex<|ab<|tb 0 Z (y:=(rq (adQ u t t.length))) (by rw [show i=t.length by omega])<|ak<|Ws (ae Z (ag 0 Z) Li ai Z)<|aE .n (aC (l:=kRC) (u:=(rq (adQ u t t.length))) 1 Z Z Z ai Z Lr)<|Wn<|aA ?_
  exact Qd Z (aY Z (ag 1 Z) ai ay) ⟨Z,Z⟩
theorem c_ref18_Coords (b:List (List Int)) (t:List (Int×Int)) (hT:Tgt b t):Fn Tryz.prog 100 [kMC.is (llB b),(kSl (kPair kZ kZ)).is t] (VP.tup [(kSl kRC).is (tcL (plC b t) b.length),kRC.is (rq (plH b t))]):=by
 refine aN Tryz.func100 Z Z fun m w=>?_
 have hZ:=basis_of hT.e
 have hRB:=redB_of hZ
 have hP:=plC_TZ hT
 have hlR:=hRB.len
 have hn12:=hRB.n
 have hn0:=hRB.n0
 have htl:t.length≤12:=by rw [hT.l];exact hZ.c 0
 have hCR:CR b.length t.length (llB b):=by rw [hT.l];exact hRB.r
 have hz540:∀i j,Sz 540 (plG b i j):=fun i j=>gram_Sz (m:=12) hRB.z hRB.r.rl (hRB.c 0) i j
 refine Cr<|Wa Z<|aW .n ba fun b1=>Wr<|Wm Z<|Ws (aB fn170 (aj Z (d3 (hRB.z.sm (by decide))) ar) (c_ref04_Gram b.length t.length 264 (llB b) hCR hRB.z hn0 hn12 htl (by decide)))<|Wm Z<|Ws (aP Z Z)<|Ws (aP Z Z)<|Wa Z<|Wa Z<|Wr<|Wm Z<|Ws (aB fn171 (aj Z (ah (y:=tabW b.length b.length (plG b)) (by rfl)) ar) (c_ref06_Inverse (plG b) b.length hP.s hP.p hn0 hn12 hz540 (hP.d _ (Nat.le_refl _))))<|Wm Z<|Ws (aP Z Z)<|Ws (aP Z Z) ?_
 refine Ws (aP Z Z)<|aW .n bd fun b2=>Wa Z<|aE .n (aC (l:=kC) (u:=invD (plG b) b.length) 0 Z Z Z af Z Lr)<|Wa Z<|Wr<|Wa Z<|Wn<|ab<|Cr<|Wa Z<|Wn<|aF<|bT 31 kRC<|bU (fun (i:Nat) (v:Value)=>i≤b.length) (fun (i:Nat) (v:Value)=>[(0,kMC.is (llB b)),(1,(kSl (kPair kZ kZ)).is t),(5,VP.pt b1 0),(8,kMC.is (tabW b.length b.length (invN (plG b) b.length))),(9,VP.pt b2 0),(11,VP.ex v),(12,kN6.is (i:Int))]) (fun (i:Nat) (v:Value)=>[OB.row v 31 kRC (tcL (plC b t) i),OB.box b2 29 kC (invD (plG b) b.length),OB.box b1 31 kRC (0,0)]) (fun (i:Nat) (v:Value)=>b.length-i) 0 (.slice none 0 0) (Nat.zero_le _) (ao Z Z Z Z (ac Z (ac Z (az Z (ah (y:=(0:Int)) (by rfl)) aq)))) (a9 (OS.keepLe (bi (by rfl)) (OS.keep (OS.keep OS.nil)))) ?_
 intro i v hi
 refine ab<|Cr<|Wm Z<|Wm Z<|Ws (aJ Z U22)<|Ws (aX Z Z)<|Wn ?_
 refine aM Z (fun h_t34=>?_)<|fun h_t34=>?_
 ·
  refine Ck<|ab<|aF<|Cr<|Ws (aB fn73 ar (fC))<|Ax (l:=kRC) (u:=rq (0:Rat)) ba Z ai (fun _=>Z) Lr fun b3=>Wn<|ab<|Cr<|Wa Z<|Wn<|aF<|tb 0 Z (y:=(rq (sumQ (fun x=>alQ (llB b) t.length (tau t) x*invE (plG b) b.length x i) 0))) Z<|bJ (fun (k:Nat)=>k≤b.length) (fun (k:Nat)=>[(0,kMC.is (llB b)),(1,(kSl (kPair kZ kZ)).is t),(5,VP.pt b1 0),(8,kMC.is (tabW b.length b.length (invN (plG b) b.length))),(9,VP.pt b2 0),(11,VP.ex v),(12,kN6.is (i:Int)),(13,VP.pt b3 0),(14,kN6.is (k:Int))]) (fun (k:Nat)=>[OB.box b3 31 kRC (rq (sumQ (fun x=>alQ (llB b) t.length (tau t) x*invE (plG b) b.length x i) k)),OB.row v 31 kRC (tcL (plC b t) i),OB.box b2 29 kC (invD (plG b) b.length),OB.box b1 31 kRC (0,0)]) (fun (k:Nat)=>b.length-k) 0 (Nat.zero_le _) (ao Z Z Z Z (ao Z Z Z Z (az Z (ah (y:=(0:Int)) (by rfl)) aq))) (aG _) ?_
  intro k hk
  refine ab<|Cr<|Wm Z<|Wm Z<|Ws (aJ Z U22)<|Ws (aX Z Z)<|Wn ?_
  refine aM Z (fun h_t41=>?_)<|fun h_t41=>?_
  ·
   refine Ck<|ab<|aF ?_
   refine a5 (Γ:=[.fr (kRC.is (rq (sumQ (fun x=>alQ (llB b) t.length (tau t) x*invE (plG b) b.length x i) k))),.fr ((kSl (kPair kZ kZ)).is t),.fr (kMC.is (llB b)),.fr (kN6.is (k:Int)),.fr (VP.pim kVC ((llB b).getD k [])),.fr (kVC.is ((llB b).getD k [])),.fr (kRC.is (rq (adQ ((llB b).getD k []) t t.length))),.fr (kMC.is (tabW b.length b.length (invN (plG b) b.length))),.fr (kN6.is (k:Int)),.fr (VP.pim kVC ((List.range b.length).map (invN (plG b) b.length k))),.fr (kVC.is ((List.range b.length).map (invN (plG b) b.length k))),.fr (kN6.is (i:Int)),.fr (VP.pim kC (invN (plG b) b.length k i)),.fr (kC.is (invN (plG b) b.length k i)),.fr (kC.is (invD (plG b) b.length)),.fr (kRC.is (rq (invE (plG b) b.length k i))),.fr (kRC.is (rq ((alQ (llB b) t.length (tau t) k)*(invE (plG b) b.length k i)))),.fr (kRC.is (rq ((sumQ (fun x=>alQ (llB b) t.length (tau t) x*invE (plG b) b.length x i) k)+(alQ (llB b) t.length (tau t) k*invE (plG b) b.length k i))))]) (aa Z (fun N=>ae Z (mN N 0 Z) Li ai Z) (om Z Z (om Z Z (om Z Z (aa Z (fun N=>aU k Z Z U22 aK Z (v:=((llB b).getD k [])) (gd [] (by omega))) (aa Z (fun N=>aO Z aK) (aa Z (fun N=>aB fn172 (aS Z (aj Z (dB (SzL.sm (hRB.z _) (by decide))) ar)) (c_ref18_along b t ((llB b).getD k []) hT (hRB.z k) (by rw [hRB.r.row k (by omega),hT.l]) htl)) (om Z Z (om Z Z (aa Z (fun N=>aU k Z Z U22 aK Z (v:=((List.range b.length).map (invN (plG b) b.length k))) (gc (by omega))) (aa Z (fun N=>aO Z aK) (om Z Z (aa Z (fun N=>aU i Z Z U23 af Z (v:=(invN (plG b) b.length k i)) (rgF_at (by omega))) (aa Z (fun N=>aO Z af) (aa Z (fun N=>ae Z (mN N 2 Z) Li af Z) (aa Z (fun N=>aV (aB em (aj Z (aL ((invN_Sz hP.s hP.p hP.n12 hz540 (hP.d _ (Nat.le_refl _)) (by omega) (by omega)).sm (by decide))) (aj Z (aL ((invD_Sz hP.s hP.p (hP.d _ (Nat.le_refl _))).sm (by decide))) ar)) (d8 (invN (plG b) b.length k i) (invD (plG b) b.length) (by have:=invD_pos hP.s hP.p;omega))) (ah (invN_rq hP.s hP.p (by omega) (by omega)))) (aa Z (fun N=>aB dk (aj Z (ah (y:=rq (alQ (llB b) t.length (tau t) k)) (by rfl)) (aS Z ar)) (dp 2300000 (alQ (llB b) t.length (tau t) k) (invE (plG b) b.length k i) ((ad_RZ hT (hRB.z k) htl (Nat.le_refl _)).up (by decide)) (inv_RZ hP.s hP.p hn12 hz540 k i) (by decide))) (aa Z (fun N=>aB eE (aS Z (aj Z (ah (y:=rq (alQ (llB b) t.length (tau t) k*invE (plG b) b.length k i)) (by rfl)) ar)) (eJ 28000000 (sumQ (fun x=>alQ (llB b) t.length (tau t) x*invE (plG b) b.length x i) k) (alQ (llB b) t.length (tau t) k*invE (plG b) b.length k i) (TZ.inv_s hP.s hP.p hn12 hz540 (fun x hx=>ad_RZ hT (hRB.z x) htl (Nat.le_refl _)) i (by omega)) (((ad_RZ hT (hRB.z k) htl (Nat.le_refl _)).mul (inv_RZ hP.s hP.p hn12 hz540 k i)).up (by decide)) (by decide))) oz))))))))))))))))))<|fun σ1=>?_
   refine aE .n (aC (l:=kRC) (u:=rq ((sumQ (fun x=>alQ (llB b) t.length (tau t) x*invE (plG b) b.length x i) k)+(alQ (llB b) t.length (tau t) k*invE (plG b) b.length k i))) 0 Z Z Z ai Z Lr)<|au<|Qb<|ak<|Wm Z<|Ws (aR Z Z (c:=((k:Int)+1)) (aH (by omega)))<|Wa Z<|au<|bg (bm [0,1,2,3] (by decide) Z)<|tb 0 Z (y:=(rq (sumQ (fun x=>alQ (llB b) t.length (tau t) x*invE (plG b) b.length x i) (k+1)))) Z ?_
   exact bE (k+1) (by omega) (by omega) (ao Z Z Z Z (ao Z Z Z Z (az Z (ah (y:=(((k+1):Nat):Int)) (by rfl)) aq)))<|aG _
  ·
   refine Ex<|tb 0 Z (y:=(rq (plC b t i))) (by rw [show k=b.length by omega,inv_crd2 hP.s hP.p _ i (by omega)];rfl)<|ak<|Wm Z<|Ws (ae Z (ag 0 Z) Li ai Z)<|Ws (bB U26 dn (bV Z bA) Z (by decide))<|bI 1 .n Z Z Z Lr U26 dn (by simp [tcL_len];omega) fun v4=>Wa Z<|au<|Qb<|ak<|Wm Z<|Ws (aR Z Z (c:=((i:Int)+1)) (aH (by omega)))<|Wa Z<|au<|tr 1 Z (y:=(tcL (plC b t) (i+1))) (tcL_app (plC b t) i)<|bg (bm [1,2,3] (by decide) Z) ?_
   exact bS (i+1) v4 (by omega) (by omega) (ao Z Z Z Z (ac Z (ac Z (az Z (ah (y:=(((i+1):Nat):Int)) (by rfl)) aq))))<|aG _
 ·
  refine Ex<|ab<|tr 0 Z (y:=(tcL (plC b t) b.length)) (by rw [show i=b.length by omega])<|bL 0 Z (kp 0 Z (kp 1 Z (kp 5 Z (kp 8 Z (kp 9 Z (.hit (i:=11) Z (kp 12 Z (kp 31 Z (kp 32 Z (kp 33 Z (kp 34 Z .nil)))))))))))<|ak<|Ws (aB fn73 ar (fC))<|Ax (l:=kRC) (u:=rq (0:Rat)) ba Z ai (fun _=>Z) Lr fun b5=>Wn<|ab<|Cr<|Wa Z<|Wn<|aF<|tb 0 Z (y:=(rq (hgtQ (llB b) b.length 0 (plC b t) (tau t)))) Z<|bg (bm [0,2] (by decide) Z)<|bJ (fun (i:Nat)=>i≤t.length) (fun (i:Nat)=>[(0,kMC.is (llB b)),(1,(kSl (kPair kZ kZ)).is t),(5,VP.pt b1 0),(11,(kSl kRC).is (tcL (plC b t) b.length)),(15,VP.pt b5 0),(16,kN6.is (i:Int))]) (fun (i:Nat)=>[OB.box b5 31 kRC (rq (hgtQ (llB b) b.length i (plC b t) (tau t))),OB.box b1 31 kRC (0,0)]) (fun (i:Nat)=>t.length-i) 0 (Nat.zero_le _) (ao Z Z Z Z (ac Z (az Z (ah (y:=(0:Int)) (by rfl)) aq))) (aG _) ?_
  intro i hi
  refine ab<|Cr<|Wm Z<|Wm Z<|Ws (aJ Z U26)<|Ws (aX Z Z)<|Wn ?_
  refine aM Z (fun h_t70=>?_)<|fun h_t70=>?_
  ·
   refine Ck<|ab<|aF<|Cr<|Ws (aB fn73 ar (fC))<|Ax (l:=kRC) (u:=rq (0:Rat)) ba Z ai (fun _=>Z) Lr fun b6=>Wn<|ab<|Cr<|Wa Z<|Wn<|aF<|tb 0 Z (y:=(rq (rwQ (llB b) 0 (plC b t) i))) Z<|bJ (fun (k:Nat)=>k≤b.length) (fun (k:Nat)=>[(0,kMC.is (llB b)),(1,(kSl (kPair kZ kZ)).is t),(5,VP.pt b1 0),(11,(kSl kRC).is (tcL (plC b t) b.length)),(15,VP.pt b5 0),(16,kN6.is (i:Int)),(17,VP.pt b6 0),(18,kN6.is (k:Int))]) (fun (k:Nat)=>[OB.box b6 31 kRC (rq (rwQ (llB b) k (plC b t) i)),OB.box b5 31 kRC (rq (hgtQ (llB b) b.length i (plC b t) (tau t))),OB.box b1 31 kRC (0,0)]) (fun (k:Nat)=>b.length-k) 0 (Nat.zero_le _) (ao Z Z Z Z (ac Z (ac Z (ac Z (az Z (ah (y:=(0:Int)) (by rfl)) aq))))) (aG _) ?_
   intro k hk
   refine ab<|Cr<|Wm Z<|Wm Z<|Ws (aJ Z U22)<|Ws (aX Z Z)<|Wn ?_
   refine aM Z (fun h_t77=>?_)<|fun h_t77=>?_
   ·
    refine Ck<|ab<|aF ?_
    refine a5 (Γ:=[.fr (kRC.is (rq (rwQ (llB b) k (plC b t) i))),.fr ((kSl kRC).is (tcL (plC b t) b.length)),.fr (kN6.is (k:Int)),.fr (VP.pim kRC (rq (plC b t k))),.fr (kRC.is (rq (plC b t k))),.fr (kMC.is (llB b)),.fr (kN6.is (k:Int)),.fr (VP.pim kVC ((llB b).getD k [])),.fr (kVC.is ((llB b).getD k [])),.fr (kN6.is (i:Int)),.fr (VP.pim kC (((llB b).getD k []).getD i 0)),.fr (kC.is (((llB b).getD k []).getD i 0)),.fr (kRC.is (rq ((((llB b).getD k []).getD i 0):Rat))),.fr (kRC.is (rq ((plC b t k)*((((llB b).getD k []).getD i 0:Int):Rat)))),.fr (kRC.is (rq ((rwQ (llB b) k (plC b t) i)+(plC b t k*((((llB b).getD k []).getD i 0:Int):Rat)))))]) (aa Z (fun N=>ae Z (mN N 0 Z) Li ai Z) (om Z Z (om Z Z (aa Z (fun N=>aU k Z Z U26 ai Z (v:=(rq (plC b t k))) (fP (by omega))) (aa Z (fun N=>aO Z ai) (om Z Z (om Z Z (aa Z (fun N=>aU k Z Z U22 aK Z (v:=((llB b).getD k [])) (gd [] (by omega))) (aa Z (fun N=>aO Z aK) (om Z Z (aa Z (fun N=>aU i Z Z U23 af Z (v:=(((llB b).getD k []).getD i 0)) (gd 0 (by rw [hRB.r.row k (by omega),←hT.l];omega))) (aa Z (fun N=>aO Z af) (aa Z (fun N=>aB dK (aj Z (aL ((hRB.z k i).sm (by decide))) ar) (dH (((llB b).getD k []).getD i 0))) (aa Z (fun N=>aB dk (aS Z (aj Z (ah (y:=rq ((((llB b).getD k []).getD i 0:Int):Rat)) (by rfl)) ar)) (dp 28000000 (plC b t k) ((((llB b).getD k []).getD i 0:Int):Rat) (hP.c k (by omega)) (RZ_int (by decide) ((hRB.z k i).up (by decide))) (by decide))) (aa Z (fun N=>aB eE (aS Z (aj Z (ah (y:=rq (plC b t k*((((llB b).getD k []).getD i 0:Int):Rat))) (by rfl)) ar)) (eJ 340000000 (rwQ (llB b) k (plC b t) i) (plC b t k*((((llB b).getD k []).getD i 0:Int):Rat)) (rw_RZ hT i (by omega)) (((hP.c k (by omega)).mul (RZ_int (by decide) (hRB.z k i))).up (by decide)) (by decide))) oz)))))))))))))))<|fun σ2=>?_
    refine aE .n (aC (l:=kRC) (u:=rq ((rwQ (llB b) k (plC b t) i)+(plC b t k*((((llB b).getD k []).getD i 0:Int):Rat)))) 0 Z Z Z ai Z Lr)<|au<|Qb<|ak<|Wm Z<|Ws (aR Z Z (c:=((k:Int)+1)) (aH (by omega)))<|Wa Z<|au<|bg (bm [0,1,2] (by decide) Z)<|tb 0 Z (y:=(rq (rwQ (llB b) (k+1) (plC b t) i))) Z ?_
    exact bE (k+1) (by omega) (by omega) (ao Z Z Z Z (ac Z (ac Z (ac Z (az Z (ah (y:=(((k+1):Nat):Int)) (by rfl)) aq)))))<|aG _
   ·
    refine Ex<|ab<|tb 0 Z (y:=(rq (rwQ (llB b) b.length (plC b t) i))) (by rw [show k=b.length by omega]) ?_
    refine a5 (Γ:=[.fr ((kSl (kPair kZ kZ)).is t),.fr (kN6.is (i:Int)),.fr (VP.pim (kPair kZ kZ) (t.getD i (0,0))),.fr ((kPair kZ kZ).is (t.getD i (0,0))),.fr (kRC.is (rq (rwQ (llB b) b.length (plC b t) i))),.fr (kRC.is (rq (rv (((t.getD i (0,0)).1),((t.getD i (0,0)).2))-(rwQ (llB b) b.length (plC b t) i)))),.al (fun b=>OB.box b 31 kRC (0,0))]) (om Z Z (om Z Z (aa Z (fun N=>aU i Z Z U26 ai Z (v:=(t.getD i (0,0))) (gd (0,0) (by omega))) (aa Z (fun N=>aO Z ai) (aa Z (fun N=>ae Z (mN N 0 Z) Li ai Z) (aa Z (fun N=>aB d6 (aj Z (ah (y:=((t.getD i (0,0)).1,(t.getD i (0,0)).2)) (by rfl)) (aS Z ar)) (c_ref03_Subr1 340000000 (rwQ (llB b) b.length (plC b t) i) ((t.getD i (0,0)).1) ((t.getD i (0,0)).2) (rw_RZ hT i (Nat.le_refl _)) ((hT.z i (by omega)).1.up (by decide)) ((hT.z i (by omega)).2.up (by decide)) (hT.d i (by omega)) (by decide))) (oc (cR Z ba) oz)))))))<|fun σ3=>?_
    refine aE .n (aC (l:=kRC) (u:=rq (rv (((t.getD i (0,0)).1),((t.getD i (0,0)).2))-(rwQ (llB b) b.length (plC b t) i))) 0 Z Z Z ai Z Lr)<|Wn<|tb 0 Z (y:=(rq (tau t i-rwQ (llB b) b.length (plC b t) i))) (by rw [tau_eq (show i<t.length by omega)]) ?_
    refine a5 (Γ:=[.fr (kRC.is (rq (hgtQ (llB b) b.length i (plC b t) (tau t)))),.fr (kRC.is (rq (tau t i-rwQ (llB b) b.length (plC b t) i))),.fr (kRC.is (rq (tau t i-rwQ (llB b) b.length (plC b t) i))),.fr (kRC.is (rq ((tau t i-rwQ (llB b) b.length (plC b t) i)*(tau t i-rwQ (llB b) b.length (plC b t) i)))),.fr (kRC.is (rq ((hgtQ (llB b) b.length i (plC b t) (tau t))+((tau t i-rwQ (llB b) b.length (plC b t) i)*(tau t i-rwQ (llB b) b.length (plC b t) i)))))]) (aa Z (fun N=>ae Z (mN N 2 Z) Li ai Z) (aa Z (fun N=>ae Z (mN N 0 Z) Li ai Z) (aa Z (fun N=>ae Z (mN N 0 Z) Li ai Z) (aa Z (fun N=>f2 dk Z Z (dp 341000000 (tau t i-rwQ (llB b) b.length (plC b t) i) (tau t i-rwQ (llB b) b.length (plC b t) i) (hd_RZ hT (by omega)) (hd_RZ hT (by omega)) (by decide))) (aa Z (fun N=>f2 eE Z Z (eJ 9000000000 (hgtQ (llB b) b.length i (plC b t) (tau t)) ((tau t i-rwQ (llB b) b.length (plC b t) i)*(tau t i-rwQ (llB b) b.length (plC b t) i)) (hg_RZ hT (by omega)) (((hd_RZ hT (show i<t.length by omega)).mul (hd_RZ hT (by omega))).up (by decide)) (by decide))) oz)))))<|fun σ4=>?_
    refine aE .n (aC (l:=kRC) (u:=rq ((hgtQ (llB b) b.length i (plC b t) (tau t))+((tau t i-rwQ (llB b) b.length (plC b t) i)*(tau t i-rwQ (llB b) b.length (plC b t) i)))) 2 Z Z Z ai Z Lr)<|au<|Qb<|ak<|Wm Z<|Ws (aR Z Z (c:=((i:Int)+1)) (aH (by omega)))<|Wa Z<|au<|bg (bm [2,3] (by decide) Z)<|tb 0 Z (y:=(rq (hgtQ (llB b) b.length (i+1) (plC b t) (tau t)))) Z ?_
    exact bE (i+1) (by omega) (by omega) (ao Z Z Z Z (ac Z (az Z (ah (y:=(((i+1):Nat):Int)) (by rfl)) aq)))<|aG _
  ·
   refine Ex<|ab<|tb 0 Z (y:=(rq (plH b t))) (by rw [show i=t.length by omega];rfl) ?_
   refine fj [(0,kMC.is (llB b)),(1,(kSl (kPair kZ kZ)).is t),(4,(kSl kRC).is (tcL (plC b t) b.length)),(5,VP.pt b1 0),(11,(kSl kRC).is (tcL (plC b t) b.length)),(15,VP.pt b5 0),(16,kN6.is (i:Int)),(67,kN6.is (i:Int)),(68,(kSl (kPair kZ kZ)).is t),(69,kN6.is (t.length:Int)),(70,kBool.is (decide ((i:Int)<(t.length:Int)))),(106,(kSl kRC).is (tcL (plC b t) b.length)),(107,kRC.is (rq (plH b t)))] [OB.box b5 31 kRC (rq (plH b t)),OB.box b1 31 kRC (rq (plH b t))] ?_ ?_
   ·
    refine dV (by kernel_rfl)<|bK 0 Z (by kernel_rfl) (by kernel_rfl) (by kernel_rfl) (fun _ _ _ _ _ h=>h) .n (dW Z) ?_
    refine bO 1 [2] ⟨?_,⟨?_,trivial⟩⟩
    ·
     refine aT Z .n (ae Z (ag 0 Z) Li ai Z)<|aQ 2<|aT Z .n (bt Z)<|aQ 3<|bD Z .n (aC (l:=kRC) (u:=(rq (plH b t))) 1 Z Z Z ai Z Lr)<|bu (by kernel_rfl) ?_
     exact cH (ao Z Z Z Z (ao Z Z Z Z (ao Z Z Z Z (ac Z aq))))<|aG _
    ·
     refine aT Z .n (bt Z)<|aQ 1<|aT Z .n (ae Z (ag 0 Z) Li ai Z)<|aQ 3<|bD Z .n (aC (l:=kRC) (u:=(rq (plH b t))) 1 Z Z Z ai Z Lr)<|bu (by kernel_rfl) ?_
     exact cH (ao Z Z Z Z (ao Z Z Z Z (ao Z Z Z Z (ac Z aq))))<|aG _
   refine cw<|aA ?_
   exact Qd Z (aI Z (aY Z (ag 1 Z) ai ay)) ⟨Z,Z⟩
theorem c_ref18_guess_plane (b:List (List Int)) (t:List (Int×Int)) (hT:Tgt b t) (r:Rat) (hr:RZ 21000000000 r) (hr0:0≤(rq r).1):Fn Tryz.prog 102 [kTre.is ((gDs (gram (llB b)) b.length,gLs (gram (llB b)) b.length),tcL (plC b t) b.length,(rq r)),kBool.is false] (kVC.is (plS b t false)):=by
 refine aN Tryz.func102 Z Z fun m w=>?_
 have hZ:=basis_of hT.e
 have hRB:=redB_of hZ
 have hP:=plC_TZ hT
 have hlR:=hRB.len
 have hn12:=hRB.n
 have hn0:=hRB.n0
 have htl:t.length≤12:=by rw [hT.l];exact hZ.c 0
 have hLl:=gLs_len (plG b) b.length
 have SzF:∀{k:Nat},k≤b.length→SzL 30000000 (gsL (plF (plG b) b.length (plC b t)) k):=fun h=>plF_sz hP h
 refine Cr<|aZ .n Z fun b1=>Wa Z<|Wr<|Wa Z<|Wn<|ab<|aF<|bT 29 kC<|bU (fun (i:Nat) (v:Value)=>i≤b.length) (fun (i:Nat) (v:Value)=>[(1,kBool.is false),(2,VP.pt b1 0),(5,VP.ex v)]) (fun (i:Nat) (v:Value)=>[OB.row v 29 kC (gsL (plF (plG b) b.length (plC b t)) i),OB.box b1 33 kTre ((gDs (gram (llB b)) b.length,gLs (gram (llB b)) b.length),tcL (plC b t) b.length,(rq r))]) (fun (i:Nat) (v:Value)=>b.length-i) 0 (.slice none 0 0) (Nat.zero_le _) (ac Z (ac Z (ac Z aq))) (a9 (OS.keepLe (bi (by rfl)) (OS.keep OS.nil))) ?_
 intro i v hi
 refine ab<|Cr<|Wm Z<|Ws (de Z (ag 0 Z) U23)<|tl 8 Z (y:=(i:Int)) (by rw [gsL_len])<|Ws (aw Z c7 Z)<|Ws (aw Z ct Z)<|Ws (ae (p:=kMC.is (gLs (gram (llB b)) b.length)) Z (ag 1 Z) (aD (am Li)) bf Z)<|Ws (aJ Z U22)<|tl 12 Z (y:=(b.length:Int)) (by rw [gLs_len])<|Ws (aX Z Z)<|Wn ?_
 refine aM Z (fun h_t13=>?_)<|fun h_t13=>?_
 ·
  refine Ck<|aF<|Cr<|Ws (ae (p:=kTre.is ((gDs (gram (llB b)) b.length,gLs (gram (llB b)) b.length),tcL (plC b t) b.length,(rq r))) Z (ag 1 Z) Li cL Z)<|Wm Z<|Ws (fb (b:=OB.row v 29 kC (gsL (plF (plG b) b.length (plC b t)) i)) (ag 0 Z) fn173 (aj Z (ah (y:=((gDs ((plG b)) b.length,gLs ((plG b)) b.length),tcL (plC b t) b.length,(rq r))) (by rfl)) (aS Z ar)) (c_ref11_Centreo v (plG b) b.length (plC b t) r hP hr hr0 (gsL (plF (plG b) b.length (plC b t)) i) (SzF (by omega)) (by rw [gsL_len];omega)))<|Ax (l:=kRC) (u:=rq (cenQ (plG b) b.length (plC b t) (sfx (gsL (plF (plG b) b.length (plC b t)) i)) (b.length-1-(gsL (plF (plG b) b.length (plC b t)) i).length) (gsL (plF (plG b) b.length (plC b t)) i).length)) ba Z ai (fun _=>Z) Lr fun b2=>Wn<|ab<|Cr<|Wm Z<|Wn<|dj Z<|Ck<|ak<|Wm Z<|Ws (ae Z (ag 0 Z) Li ai Z) ?_
  refine Ws (f1 fn90 Z (c_ref03_Near 800000000 (cenQ (plG b) b.length (plC b t) (sfx (gsL (plF (plG b) b.length (plC b t)) i)) (b.length-1-(gsL (plF (plG b) b.length (plC b t)) i).length) (gsL (plF (plG b) b.length (plC b t)) i).length) (hP.cen (fun x _=>cX (SzF (by omega)) x) (by rw [gsL_len];omega)) (by decide)))<|Ws (bB U23 bv (bV Z bA) Z (by decide))<|bI 1 .n Z Z Z Lr U23 bv (by simp only [gsL_len,List.length_cons,List.length_nil];omega) fun v3=>Wa Z<|au<|d4<|tr 1 Z (y:=(gsL (plF (plG b) b.length (plC b t)) (i+1))) (by rw [gsL_len];rfl)<|bg (bm [1,2] (by decide) Z) ?_
  exact bS (i+1) v3 (by omega) (by omega) (ac Z (ac Z (ac Z aq)))<|aG _
 ·
  refine Ex<|ab<|tr 0 Z (y:=(plS b t false)) (by rw [show i=b.length by omega];rfl)<|ak<|Wm Z<|Wa Z<|Wn<|aA<|bL 0 Z (kp 1 Z (kp 2 Z (.hit (i:=4) Z (.hit (i:=5) Z (.hit (i:=7) Z (kp 8 Z (kp 9 Z (kp 10 Z (kp 11 Z (kp 12 Z (kp 13 Z (.hit (i:=34) Z .nil)))))))))))) ?_
  exact Qd Z (aI Z ay) ⟨Z,Z⟩
theorem c_ref18_Plan (b:List (List Int)) (t:List (Int×Int)) (hA:askE b t=0):Fn Tryz.prog 33 [kMZ.is b,(kSl (kPair kZ kZ)).is t] (VP.tup [kTre.is ((gDs (gram (llB b)) b.length,gLs (gram (llB b)) b.length),tcL (plC b t) b.length,(rq (plP b t))),kRed.is (llB b,llU b,llV b,((llS b).length:Int)),kRC.is (rq (plH b t))]):=by
 refine aN Tryz.func33 Z Z fun m w=>?_
 have hT:=tgt_of hA
 have hZ:=basis_of hT.e
 have hRB:=redB_of hZ
 have hP:=plC_TZ hT
 have hlR:=hRB.len
 have hn12:=hRB.n
 have hn0:=hRB.n0
 have htl:t.length≤12:=by rw [hT.l];exact hZ.c 0
 refine Cr<|aW .n fo fun b1=>aW .n eR fun b2=>aW .n ba fun b3=>Wr<|Wm Z<|Ws (f1 fn50 Z (c_ref07_Reduce b hZ))<|Ax (l:=kRed) (u:=(llB b,llU b,llV b,((llS b).length:Int))) eR Z dG (fun _=>Z) Lr fun b4=>Wr<|Ws (aw Z eW Z)<|Ws (ae (p:=kMC.is (llB b)) Z (ag 0 Z) (aD Li) bf Z)<|Ws (aB fn51 (aj Z (d3 (hRB.z.sm (by decide))) ar) (c_ref05_Wide 264 (llB b) hRB.z (by decide) hRB.wide.1 (by rw [hlR];exact hRB.p) hRB.r.rl (by rw [hlR];exact hRB.n) (hRB.c 0)))<|Wm Z<|Ws (aP Z Z)<|Ws (aP Z Z)<|aW .n eo fun b5=>?_
 refine aE .n (aC (l:=kGso) (u:=(gDs (gram (llB b)) (llB b).length,gLs (gram (llB b)) (llB b).length)) 0 Z Z Z bl Z Lr)<|Wa Z<|Wn<|ab<|tb 0 Z (y:=(gDs (gram (llB b)) b.length,gLs (gram (llB b)) b.length)) (by rw [hlR])<|ak<|Ws (aw Z eW Z)<|Ws (ae (p:=kMC.is (llB b)) Z (ag 1 Z) (aD Li) bf Z)<|Wm Z<|Ws (f2 fn100 Z Z (c_ref18_Coords b t (by assumption)))<|Wm Z<|Ws (aP Z Z)<|Ws (aP Z Z)<|aW .n ba fun b6=>Wa Z<|aE .n (aC (l:=kRC) (u:=rq (plH b t)) 0 Z Z Z ai Z Lr)<|Wn<|ab ?_
 refine a5 (Γ:=[.fr (kGso.is (gDs (gram (llB b)) b.length,gLs (gram (llB b)) b.length)),.fr ((kSl kRC).is (tcL (plC b t) b.length)),.fr (kRC.is (rq (0:Rat))),.fr (kTre.is ((gDs (gram (llB b)) b.length,gLs (gram (llB b)) b.length),(tcL (plC b t) b.length,rq (0:Rat)))),.al (fun b=>OB.box b 33 kTre (([],[]),([],(0,0))))]) (aa Z (fun N=>ae (p:=kGso.is (gDs (gram (llB b)) b.length,gLs (gram (llB b)) b.length)) Z (mN N 1 Z) Li bl Z) (om Z Z (aa Z (fun N=>aB fn73 ar (fC)) (aa Z (fun N=>bY gQ Z (cy Z (cy Z (cy Z br))) (.cons Z (aD Li) (.cons Z (am (aD Li)) (.cons Z (am (am Li)) (.nil _))))) (oc (cR Z fo) oz)))))<|fun σ1=>?_
 refine aE .n (aC (l:=kTre) (u:=((gDs (gram (llB b)) b.length,gLs (gram (llB b)) b.length),(tcL (plC b t) b.length,rq (0:Rat)))) 0 Z Z Z cL Z Lr)<|Wn<|ab ?_
 refine a5 (Γ:=[.fr (kTre.is ((gDs (gram (llB b)) b.length,gLs (gram (llB b)) b.length),(tcL (plC b t) b.length,rq (0:Rat)))),.fr (kTre.is ((gDs (gram (llB b)) b.length,gLs (gram (llB b)) b.length),(tcL (plC b t) b.length,rq (0:Rat)))),.fr (kVC.is (plS b t false)),.fr (kRC.is (rq (parQ (plG b) b.length (plC b t) (sfx (plS b t false)) (plS b t false).length))),.fr (VP.pt (σ1 4) 3)]) (aa Z (fun N=>ae (p:=kTre.is ((gDs (gram (llB b)) b.length,gLs (gram (llB b)) b.length),(tcL (plC b t) b.length,rq (0:Rat)))) Z (mN N 0 Z) Li cL Z) (aa Z (fun N=>ae (p:=kTre.is ((gDs (gram (llB b)) b.length,gLs (gram (llB b)) b.length),(tcL (plC b t) b.length,rq (0:Rat)))) Z (mN N 0 Z) Li cL Z) (aa Z (fun N=>aB fn102 (aj Z (ah (y:=((gDs (gram (llB b)) b.length,gLs (gram (llB b)) b.length),tcL (plC b t) b.length,(rq ((0:Int):Rat)))) (by rfl)) (aS Z ar)) (c_ref18_guess_plane b t (by assumption) ((0:Int):Rat) (RZ0.up (by decide)) (by decide))) (aa Z (fun N=>aB fn101 (aj Z (ah (y:=((gDs ((plG b)) b.length,gLs ((plG b)) b.length),tcL (plC b t) b.length,(rq ((0:Int):Rat)))) (by rfl)) (aS Z ar)) (c_ref11_Part (plG b) b.length (plC b t) ((0:Int):Rat) hP (RZ0.up (by decide)) (by decide) (plS b t false) (plS_sz hT false) (by rw [plS_len];omega))) (aa Z (fun N=>aw Z eO Z) oz)))))<|fun σ2=>?_
 refine aE .n (dx 0 Z Z (am (am Li)) ai Z Lr)<|Wn<|ab<|tb 0 Z (y:=((gDs (gram (llB b)) b.length,gLs (gram (llB b)) b.length),tcL (plC b t) b.length,(rq (plP b t)))) (by rw [plP_len])<|bg (bm [6,5,4,0,1,2,3] (by decide) Z)<|CW.drawN (Γ:=[.fr (kTre.is ((gDs (gram (llB b)) b.length,gLs (gram (llB b)) b.length),tcL (plC b t) b.length,(rq (plP b t)))),.fr (kRed.is (llB b,llU b,llV b,((llS b).length:Int))),.fr (kRC.is (rq (plH b t))),.st 0,.st 1,.st 2]) (B:=[⟨3,OB.box b1 33 kTre (([],[]),([],(0,0))),OB.box b1 33 kTre ((gDs (gram (llB b)) b.length,gLs (gram (llB b)) b.length),tcL (plC b t) b.length,(rq (plP b t)))⟩,⟨4,OB.box b2 35 kRed ([],([],([],0))),OB.box b2 35 kRed (llB b,llU b,llV b,((llS b).length:Int))⟩,⟨5,OB.box b3 31 kRC (0,0),OB.box b3 31 kRC (rq (plH b t))⟩]) (Lr:=[OB.box (σ1 4) 33 kTre ((gDs (gram (llB b)) b.length,gLs (gram (llB b)) b.length),tcL (plC b t) b.length,(rq (plP b t))),OB.box b6 31 kRC (rq (plH b t)),OB.box b5 25 kGso (gDs (gram (llB b)) b.length,gLs (gram (llB b)) b.length),OB.box b4 35 kRed (llB b,llU b,llV b,((llS b).length:Int))]) (nf Z (fun N=>(ae (p:=kTre.is ((gDs (gram (llB b)) b.length,gLs (gram (llB b)) b.length),tcL (plC b t) b.length,(rq (plP b t)))) Z (mN N 0 Z) Li cL Z)) (nf Z (fun N=>(ae (p:=kRed.is (llB b,llU b,llV b,((llS b).length:Int))) Z (mN N 3 Z) Li dG Z)) (nf Z (fun N=>(ae Z (mN N 1 Z) Li ai Z)) (ns Z Z (fun N=>(aC (l:=kTre) (u:=((gDs (gram (llB b)) b.length,gLs (gram (llB b)) b.length),tcL (plC b t) b.length,(rq (plP b t)))) 0 Z Z Z cL Z Lr)) (ns Z Z (fun N=>(aC (l:=kRed) (u:=(llB b,llU b,llV b,((llS b).length:Int))) 0 Z Z Z dG Z Lr)) (ns Z Z (fun N=>(aC (l:=kRC) (u:=rq (plH b t)) 0 Z Z Z ai Z Lr)) nz))))))<|cw<|aA ?_
 exact Qd Z (aY Z (ag 0 Z) cL (aY Z (ag 1 Z) dG (aY Z (ag 2 Z) ai ay))) ⟨Z,Z⟩
theorem c_law18_own (z:Int):Fn Tryz.prog 60 [kZ.is z] (kZ.is z):=by
 refine aN Tryz.func60 Z Z fun m w=>c5 0 Z fun y y_v y_n y_l=>Cr<|aZ .n Z fun b1=>aW .n bd fun b2=>Wr<|Wa Z<|Wn<|ab<|bT 93 kLimb<|ak<|Wm Z<|Ws (aw Z bX Z)<|Ws (ae (p:=kN.is y.2) Z (ag 2 Z) (am Li) ca Z)<|bI 0 .n Z Z Z Lr U27 ce (by simp;omega) fun v3=>Wa Z<|Wn<|ab ?_
 refine ak<|Wm Z<|Ws (bB U27 ce (cz Z (bP (x:=77) (by omega)) (cz Z (bP (x:=78) (by omega)) (cz Z (bP (x:=79) (by omega)) (cz Z (bP (x:=80) (by omega)) (cz Z (bP (x:=81) (by omega)) (cz Z (bP (x:=82) (by omega)) (cz Z (bP (x:=83) (by omega)) (cz Z (bP (x:=84) (by omega)) (cz Z (bP (x:=85) (by omega)) bA))))))))) Z (by decide))<|bI 0 .n Z Z Z Lr U27 ce (by simp;omega) fun v4=>Wa Z<|Wn<|ab<|bL 0 Z (kp 0 Z (kp 1 Z (kp 2 Z (.hit (i:=3) Z (kp 4 Z (kp 5 Z (kp 6 Z (kp 7 Z (kp 8 Z (kp 9 Z (.hit (i:=10) Z .nil))))))))))) ?_
 refine a5 (Γ:=[.fr (VP.pt b1 0),.fr (kBool.is y.1),.fr (kN.is (y.2++[77,78,79,80,81,82,83,84,85])),.fr (VP.pt b1 1),.fr (kN.is y.2),.fr (kN6.is (y.2.length:Int)),.fr (kN.is ((y.2++[77,78,79,80,81,82,83,84,85]).take y.2.length)),.fr (kI.is (y.1,((y.2++[77,78,79,80,81,82,83,84,85]).take y.2.length)))]) (aa Z (fun N=>aw Z cT Z) (aa Z (fun N=>ae (p:=kBool.is y.1) Z (mN N 1 Z) (aD Li) cV Z) (om Z Z (aa Z (fun N=>aw Z bX Z) (aa Z (fun N=>ae (p:=kN.is y.2) Z (mN N 1 Z) (am Li) ca Z) (aa Z (fun N=>aJ Z U27) (aa Z (fun N=>O.slH y.2.length Z Z U27 a7 Z (by simp)) (aa Z (fun N=>bY fy Z (cy Z (cy Z br)) (.cons Z (aD Li) (.cons Z (am Li) (.nil _)))) oz))))))))<|fun σ1=>?_
 refine aE .n (aC (l:=kI) (u:=(y.1,((y.2++[77,78,79,80,81,82,83,84,85]).take y.2.length))) 0 Z Z Z af Z Lr)<|Wn<|aA<|ey (b':=OB.box b2 29 kZ z) 0 Z (OB.I_Z (own_val y_v) (by simp;omega)) ?_
 exact Qd Z (aY Z (ag 0 Z) af ay) ⟨Z,Z⟩
theorem c_law18_owns (xs:List Int):Fn Tryz.prog 38 [kVZ.is xs] (kVZ.is xs):=by
 refine aN Tryz.func38 Z Z fun m w=>a8 (i:=0) Z bF fun hB=>Cr<|Wa Z<|Wr<|Wa Z<|Wn<|ab<|Cr<|Wa Z<|Wn<|aF<|bT 29 kZ<|bU (fun (i:Nat) (v:Value)=>i≤xs.length) (fun (i:Nat) (v:Value)=>[(0,kVZ.is xs),(3,VP.ex v),(4,kN6.is (i:Int))]) (fun (i:Nat) (v:Value)=>[OB.row v 29 kZ (xs.take i)]) (fun (i:Nat) (v:Value)=>xs.length-i) 0 (.slice none 0 0) (by omega) (ac Z (ac Z (az Z (ah (y:=(0:Int)) (by omega)) aq))) (a9 (OS.keepLe (bi (by simp)) OS.nil)) ?_
 intro i v hR
 have htl:(xs.take i).length=i:=by simp;omega
 refine ab<|Cr<|Wm Z<|Wm Z<|Ws (aJ Z U23)<|Ws (aX Z Z)<|Wn ?_
 refine aM Z (fun h_t8=>?_)<|fun h_t8=>?_
 ·
  refine Ck<|ab<|aF<|ak<|Wm Z<|Wm Z<|Wm Z<|Ws (aU i Z Z U23 af Z (v:=(xs.getD i 0)) (gd 0 (by omega)))<|Ws (aO Z af)<|Ws (f1 fn60 Z (c_law18_own (xs.getD i 0)))<|Ws (bB U23 el29_Z (bV Z bA) Z (by decide))<|bI 0 .n Z Z Z Lr U23 el29_Z (by simp;omega) fun v1=>Wa Z<|au<|Qb<|ak<|Wm Z<|Ws (aR Z Z (c:=((i:Int)+1)) (aH (by omega)))<|Wa Z<|au<|tr 0 Z (y:=(xs.take (i+1))) (fG (by omega)) ?_
  exact bS (i+1) v1 (by omega) (by omega) (ac Z (ac Z (az Z (ah (y:=(((i+1):Nat):Int)) (by omega)) aq)))<|aG _
 ·
  refine Ex<|Cr<|Wm Z<|Wa Z<|Wn<|aA<|bL 0 Z (kp 0 Z (.hit (i:=2) Z (.hit (i:=3) Z (kp 4 Z (kp 5 Z (kp 6 Z (kp 7 Z (kp 8 Z (.hit (i:=19) Z .nil)))))))))<|tl 2 Z (y:=xs) (List.take_of_length_le (by omega)) ?_
  exact Qd Z (aI Z ay) ⟨Z,Z⟩
abbrev gO:=@c_law18_owns
theorem c_law18_eq (x y:Bool×List Nat):Fn Tryz.prog 72 [kI.is x,kI.is y] (kBool.is (decide (x=y))):=by
 refine aN Tryz.func72 Z Z fun m w=>Cr<|aZ .n Z fun b1=>aZ .n Z fun b2=>Wa Z<|Wn<|ab<|Cr<|Ws (aw Z cT Z)<|Ws (ae Z (ag 1 Z) (aD Li) cV Z)<|Ws (aw Z cT Z)<|Ws (ae Z (ag 0 Z) (aD Li) cV Z)<|Ws (O.neB Z Z U4)<|Wm Z ?_
 refine cG 11 Z (fun h_t11=>?_)<|fun h_t11=>?_
 ·
  refine Kt Z Z<|Kt Z Z<|Kt Z Z<|Kt Z Z<|Kt Z Z<|Kt Z Z<|Kt Z Z<|Ws (cE Z Z)<|Wn<|fi Z<|Cr<|Wa Z<|Wn<|aA<|a6<|tl 4 Z (y:=(decide (x=y))) (by rw [eq_comm,decide_eq_false_iff_not];intro e;exact h_t11 (by rw [e])) ?_
  exact Qd Z (aI Z ay) ⟨Z,Z⟩
 ·
  refine Wg Z Z (aw Z bX Z)<|Wg Z Z (ae Z (ag 1 Z) (am Li) ca Z)<|Wg Z Z (aJ Z U27)<|Wg Z Z (aw Z bX Z)<|Wg Z Z (ae Z (ag 0 Z) (am Li) ca Z)<|Wg Z Z (aJ Z U27)<|Wg Z Z (bG Z Z)<|Ws (cb Z Z)<|Wn ?_
  refine aM Z (fun h_t19=>?_)<|fun h_t19=>?_
  ·
   refine Cr<|Wa Z<|Wn<|aA<|a6<|tl 4 Z (y:=(decide (x=y))) (by rw [eq_comm,decide_eq_false_iff_not];intro e;exact h_t19 (by rw [e])) ?_
   exact Qd Z (aI Z ay) ⟨Z,Z⟩
  ·
   refine Ck<|ab<|ab<|a8 (i:=13) Z bF fun hB=>ak<|Wa Z<|Wn<|aF<|bJ (fun (i:Nat)=>i≤x.2.length∧x.2.take i=y.2.take i) (fun (i:Nat)=>[(2,VP.pt b1 0),(3,VP.pt b2 0),(5,kN6.is (i:Int))]) (fun (i:Nat)=>[OB.box b2 29 kI y,OB.box b1 29 kI x]) (fun (i:Nat)=>x.2.length-i) 0 ⟨Nat.zero_le _,Z⟩ (ac Z (ac Z (az Z (ah (y:=(0:Int)) (by omega)) aq))) (aG _) ?_
   intro i ⟨hi,ht⟩
   refine ab<|Cr<|Wm Z<|Ws (aw Z bX Z)<|Ws (ae Z (ag 1 Z) (am Li) ca Z)<|Ws (aJ Z U27)<|Ws (aX Z Z)<|Wn ?_
   refine aM Z (fun h_t24=>?_)<|fun h_t24=>?_
   ·
    refine Ck<|ab<|aF<|ab ?_
    refine a5 (Γ:=[.fr (VP.pt b1 1),.fr (kN.is x.2),.fr (kN6.is (i:Int)),.fr (VP.pim kLimb (x.2.getD i 0)),.fr ((kInt .u32).is ((x.2.getD i 0):Int)),.fr (VP.pt b2 1),.fr (kN.is y.2),.fr (kN6.is (i:Int)),.fr (VP.pim kLimb (y.2.getD i 0)),.fr ((kInt .u32).is ((y.2.getD i 0):Int)),.fr (kBool.is (decide (((x.2.getD i 0):Int)≠((y.2.getD i 0):Int))))]) (aa Z (fun N=>aw Z bX Z) (aa Z (fun N=>ae Z (mN N 1 Z) (am Li) ca Z) (om Z Z (aa Z (fun N=>aU i Z Z U27 a7 Z (v:=(x.2.getD i 0)) (gd 0 (by omega))) (aa Z (fun N=>aV (aO Z a7) (cf _)) (aa Z (fun N=>aw Z bX Z) (aa Z (fun N=>ae Z (mN N 0 Z) (am Li) ca Z) (om Z Z (aa Z (fun N=>aU i Z Z U27 a7 Z (v:=(y.2.getD i 0)) (gd 0 (by omega))) (aa Z (fun N=>aV (aO Z a7) (cf _)) (aa Z (fun N=>bG Z Z) oz)))))))))))<|fun σ1=>?_
    refine Wn ?_
    refine aM Z (fun h_t37=>?_)<|fun h_t37=>?_
    ·
     refine Cr<|Wa Z<|Wn<|aA<|bQ<|a6<|a6<|bQ<|a6<|tl 4 Z (y:=(decide (x=y))) (by rw [eq_comm,decide_eq_false_iff_not];intro e;exact h_t37 (by rw [e])) ?_
     exact Qd Z (aI Z ay) ⟨Z,Z⟩
    ·
     refine cx<|Qb<|ak<|Wm Z<|Ws (aR Z Z (c:=((i:Int)+1)) (aH (by omega)))<|Wa Z<|au ?_
     exact bE (i+1) (by omega) ⟨by omega,eq_take (d:=0) (by omega) (by omega) ht (by omega)⟩ (ac Z (ac Z (az Z (ah (y:=(((i+1):Nat):Int)) (by omega)) aq)))<|aG _
   ·
    refine Ex<|Cr<|Wa Z<|Wn<|aA<|tl 4 Z (y:=(decide (x=y))) (by rw [eq_comm,decide_eq_true_iff];exact Prod.ext (by simpa using h_t11) (eq_full (i:=i) (by omega) (by omega) ht)) ?_
    exact Qd Z (aI Z ay) ⟨Z,Z⟩
theorem c_law18_ownm (b:List (List Int)):Fn Tryz.prog 18 [kMZ.is b] (kMZ.is b):=by
 refine aN Tryz.func18 Z Z fun m w=>a8 (i:=0) Z bF fun hB=>Cr<|Wa Z<|Wr<|Wa Z<|Wn<|ab<|Cr<|Wa Z<|Wn<|aF<|bT 23 kVZ<|bU (fun (i:Nat) (v:Value)=>i≤b.length) (fun (i:Nat) (v:Value)=>[(0,kMZ.is b),(3,VP.ex v),(4,kN6.is (i:Int))]) (fun (i:Nat) (v:Value)=>[OB.row v 23 kVZ (b.take i)]) (fun (i:Nat) (v:Value)=>b.length-i) 0 (.slice none 0 0) (Nat.zero_le _) (ac Z (ac Z (az Z (ah (y:=(0:Int)) (by omega)) aq))) (a9 (OS.keepLe (bi (by simp)) OS.nil)) ?_
 intro i v hi
 have htl:(b.take i).length=i:=by simp;omega
 refine ab<|Cr<|Wm Z<|Wm Z<|Ws (aJ Z U22)<|Ws (aX Z Z)<|Wn ?_
 refine aM Z (fun h_t8=>?_)<|fun h_t8=>?_
 ·
  refine Ck<|ab<|aF<|ak<|Wm Z<|Wm Z<|Wm Z<|Ws (aU i Z Z U22 aK Z (v:=(b.getD i [])) (gd [] (by omega)))<|Ws (aO Z aK)<|Ws (f1 fn38 Z (gO (b.getD i [])))<|Ws (bB U22 el23_sl_Z (bV Z bA) Z (by decide))<|bI 0 .n Z Z Z Lr U22 el23_sl_Z (by simp;omega) fun v1=>Wa Z<|au<|Qb<|ak<|Wm Z<|Ws (aR Z Z (c:=((i:Int)+1)) (aH (by omega)))<|Wa Z<|au<|tr 0 Z (y:=(b.take (i+1))) (fG (by omega)) ?_
  exact bS (i+1) v1 (by omega) (by omega) (ac Z (ac Z (az Z (ah (y:=(((i+1):Nat):Int)) (by omega)) aq)))<|aG _
 ·
  refine Ex<|Cr<|Wm Z<|Wa Z<|Wn<|aA<|bL 0 Z (kp 0 Z (.hit (i:=2) Z (.hit (i:=3) Z (kp 4 Z (kp 5 Z (kp 6 Z (kp 7 Z (kp 8 Z (.hit (i:=19) Z .nil)))))))))<|tl 2 Z (y:=b) (List.take_of_length_le (by omega)) ?_
  exact Qd Z (aI Z ay) ⟨Z,Z⟩
theorem c_law18_ownt (t:List (Int×Int)):Fn Tryz.prog 19 [(kSl (kPair kZ kZ)).is t] ((kSl (kPair kZ kZ)).is t):=by
 refine aN Tryz.func19 Z Z fun m w=>a8 (i:=0) Z bF fun hB=>Cr<|Wa Z<|Wr<|Wa Z<|Wn<|ab<|Cr<|Wa Z<|Wn<|aF<|bT 31 (kPair kZ kZ)<|bU (fun (i:Nat) (v:Value)=>i≤t.length) (fun (i:Nat) (v:Value)=>[(0,(kSl (kPair kZ kZ)).is t),(3,VP.ex v),(4,kN6.is (i:Int))]) (fun (i:Nat) (v:Value)=>[OB.row v 31 (kPair kZ kZ) (t.take i)]) (fun (i:Nat) (v:Value)=>t.length-i) 0 (.slice none 0 0) (Nat.zero_le _) (ac Z (ac Z (az Z (ah (y:=(0:Int)) (by omega)) aq))) (a9 (OS.keepLe (bi (by simp)) OS.nil)) ?_
 intro i v hi
 have htl:(t.take i).length=i:=by simp;omega
 refine ab<|Cr<|Wm Z<|Wm Z<|Ws (aJ Z U26)<|Ws (aX Z Z)<|Wn ?_
 refine aM Z (fun h_t8=>?_)<|fun h_t8=>?_
 ·
  refine Ck<|ab<|aF ?_
  refine a5 (Γ:=[.fr (VP.ex v),.fr ((kSl (kPair kZ kZ)).is t),.fr (kN6.is (i:Int)),.fr (VP.pim (kPair kZ kZ) (t.getD i (0,0))),.fr (VP.pim kZ ((t.getD i (0,0)).1)),.fr (kZ.is ((t.getD i (0,0)).1)),.fr (kZ.is ((t.getD i (0,0)).1)),.fr ((kSl (kPair kZ kZ)).is t),.fr (kN6.is (i:Int)),.fr (VP.pim (kPair kZ kZ) (t.getD i (0,0))),.fr (VP.pim kZ ((t.getD i (0,0)).2)),.fr (kZ.is ((t.getD i (0,0)).2)),.fr (kZ.is ((t.getD i (0,0)).2)),.fr ((kPair kZ kZ).is ((t.getD i (0,0)).1,(t.getD i (0,0)).2)),.fr ((kSl (kPair kZ kZ)).is [((t.getD i (0,0)).1,(t.getD i (0,0)).2)])]) (om Z Z (om Z Z (om Z Z (aa Z (fun N=>aU i Z Z U26 ai Z (v:=(t.getD i (0,0))) (gd (0,0) (by omega))) (aa Z (fun N=>cQ Z cB (aD Li) Z) (aa Z (fun N=>aO Z af) (aa Z (fun N=>f1 fn60 Z (c_law18_own ((t.getD i (0,0)).1))) (om Z Z (om Z Z (aa Z (fun N=>aU i Z Z U26 ai Z (v:=(t.getD i (0,0))) (gd (0,0) (by omega))) (aa Z (fun N=>cQ Z bW (am Li) Z) (aa Z (fun N=>aO Z af) (aa Z (fun N=>f1 fn60 Z (c_law18_own ((t.getD i (0,0)).2))) (aa Z (fun N=>bY lit31_pr_Z_Z_ Z (cy Z (cy Z br)) (.cons Z (aD Li) (.cons Z (am Li) (.nil _)))) (aa Z (fun N=>bB U26 gN (bV Z bA) Z (by decide)) oz)))))))))))))))<|fun σ1=>?_
  refine bI 0 .n Z Z Z Lr U26 gN (by simp;omega) fun v1=>Wa Z<|au<|Qb<|ak<|Wm Z<|Ws (aR Z Z (c:=((i:Int)+1)) (aH (by omega)))<|Wa Z<|au<|tr 0 Z (y:=(t.take (i+1))) (fG (d:=(0,0)) (by omega)) ?_
  exact bS (i+1) v1 (by omega) (by omega) (ac Z (ac Z (az Z (ah (y:=(((i+1):Nat):Int)) (by omega)) aq)))<|aG _
 ·
  refine Ex<|Cr<|Wm Z<|Wa Z<|Wn<|aA<|bL 0 Z (kp 0 Z (.hit (i:=2) Z (.hit (i:=3) Z (kp 4 Z (kp 5 Z (kp 6 Z (kp 7 Z (kp 8 Z (.hit (i:=27) Z .nil)))))))))<|tl 2 Z (y:=t) (List.take_of_length_le (by omega)) ?_
  exact Qd Z (aI Z ay) ⟨Z,Z⟩
abbrev gl:=@c_law18_ownt
theorem c_law18_eqr (p:Int×Int):Fn Tryz.prog 23 [kRC.is p,kRC.is p] (kBool.is true):=by
 refine aN Tryz.func23 Z Z fun m w=>Cr<|aZ .n Z fun b1=>aZ .n Z fun b2=>Wa Z<|Wr<|Ws (aw Z cB Z)<|Ws (ae Z (ag 1 Z) (aD Li) af Z)<|Ws (aw Z cB Z)<|Ws (ae Z (ag 0 Z) (aD Li) af Z)<|Ws (aB fn72 (aj Z (kC_I _) (aj Z (kC_I _) ar)) (c_law18_eq (canon p.1) (canon p.1)))<|Wm Z ?_
 refine cG 10 Z (fun h_t10=>?_)<|fun h=>absurd Z h
 refine Wg Z Z (aw Z bW Z)<|Wg Z Z (ae Z (ag 1 Z) (am Li) af Z)<|Wg Z Z (aw Z bW Z)<|Wg Z Z (ae Z (ag 0 Z) (am Li) af Z)<|Wg Z Z (aB fn72 (aj Z (kC_I _) (aj Z (kC_I _) ar)) (c_law18_eq (canon p.2) (canon p.2)))<|Ws (cE Z Z)<|Wa Z<|Wn<|aA ?_
 exact Qd Z (du Z (ah (y:=true) (by simp)) ay) ⟨Z,Z⟩
abbrev eK:=@c_law18_eqr
theorem c_law18_eqs (l:List Int):Fn Tryz.prog 34 [kVC.is l,kVC.is l] (kBool.is true):=by
 refine aN Tryz.func34 Z Z fun m w=>a8 (i:=0) Z bF fun hB=>Cr<|Wa Z<|Wn<|ab<|Cr<|Wm Z<|Ws (aJ Z U23)<|Wm Z<|Ws (aJ Z U23)<|Ws (bG Z Z)<|Wn ?_
 refine CN Z (fun h=>h Z) fun h_t10=>?_
 refine Ck<|ab<|Cr<|Wa Z<|Wn<|aF<|bJ (fun (i:Nat)=>i≤l.length) (fun (i:Nat)=>[(0,kVC.is l),(1,kVC.is l),(5,kN6.is (i:Int))]) (fun (i:Nat)=>[]) (fun (i:Nat)=>l.length-i) 0 (Nat.zero_le _) (ac Z (ac Z (az Z (ah (y:=(0:Int)) (by rfl)) aq))) (aG _) ?_
 intro i hi
 refine ab<|Cr<|Wm Z<|Wm Z<|Ws (aJ Z U23)<|Ws (aX Z Z)<|Wn ?_
 refine aM Z (fun h_t14=>?_)<|fun h_t14=>?_
 ·
  refine Ck<|ab<|aF<|ab ?_
  refine a5 (Γ:=[.fr (kVC.is l),.fr (kN6.is (i:Int)),.fr (VP.pim kC (l.getD i 0)),.fr (kC.is (l.getD i 0)),.fr (kVC.is l),.fr (kN6.is (i:Int)),.fr (VP.pim kC (l.getD i 0)),.fr (kC.is (l.getD i 0)),.fr (kBool.is (decide ((canon (l.getD i 0))=(canon (l.getD i 0))))),.fr (kBool.is (!(decide ((canon (l.getD i 0))=(canon (l.getD i 0))))))]) (om Z Z (om Z Z (aa Z (fun N=>aU i Z Z U23 af Z (v:=(l.getD i 0)) (gd 0 (by omega))) (aa Z (fun N=>aO Z af) (om Z Z (om Z Z (aa Z (fun N=>aU i Z Z U23 af Z (v:=(l.getD i 0)) (gd 0 (by omega))) (aa Z (fun N=>aO Z af) (aa Z (fun N=>aB fn72 (aj Z (kC_I _) (aj Z (kC_I _) ar)) (c_law18_eq (canon (l.getD i 0)) (canon (l.getD i 0)))) (aa Z (fun N=>dh Z) oz))))))))))<|fun σ1=>?_
  refine Wn ?_
  refine eh Z (fun h=>Bool.noConfusion ((h.symm.trans (show (!(decide ((canon (l.getD i 0))=(canon (l.getD i 0)))))=false from (by simp))):true=false))<|fun h_t26=>?_
  refine cx<|Qb<|ak<|Wm Z<|Ws (aR Z Z (c:=((i:Int)+1)) (aH (by omega)))<|Wa Z<|au ?_
  exact bE (i+1) (by omega) (by omega) (ac Z (ac Z (az Z (ah (y:=(((i+1):Nat):Int)) (by rfl)) aq)))<|aG _
 ·
  refine Ex<|Cr<|Wa Z<|Wn<|aA ?_
  exact Qd Z (aI Z ay) ⟨Z,Z⟩
theorem c_law18_eqm (l:List (List Int)):Fn Tryz.prog 35 [kMC.is l,kMC.is l] (kBool.is true):=by
 refine aN Tryz.func35 Z Z fun m w=>a8 (i:=0) Z bF fun hB=>Cr<|Wa Z<|Wn<|ab<|Cr<|Wm Z<|Ws (aJ Z U22)<|Wm Z<|Ws (aJ Z U22)<|Ws (bG Z Z)<|Wn ?_
 refine CN Z (fun h=>h Z) fun h_t10=>?_
 refine Ck<|ab<|Cr<|Wa Z<|Wn<|aF<|bJ (fun (i:Nat)=>i≤l.length) (fun (i:Nat)=>[(0,kMC.is l),(1,kMC.is l),(5,kN6.is (i:Int))]) (fun (i:Nat)=>[]) (fun (i:Nat)=>l.length-i) 0 (Nat.zero_le _) (ac Z (ac Z (az Z (ah (y:=(0:Int)) (by rfl)) aq))) (aG _) ?_
 intro i hi
 refine ab<|Cr<|Wm Z<|Wm Z<|Ws (aJ Z U22)<|Ws (aX Z Z)<|Wn ?_
 refine aM Z (fun h_t14=>?_)<|fun h_t14=>?_
 ·
  refine Ck<|ab<|aF<|ab ?_
  refine a5 (Γ:=[.fr (kMC.is l),.fr (kN6.is (i:Int)),.fr (VP.pim kVC (l.getD i [])),.fr (kVC.is (l.getD i [])),.fr (kMC.is l),.fr (kN6.is (i:Int)),.fr (VP.pim kVC (l.getD i [])),.fr (kVC.is (l.getD i [])),.fr (kBool.is true),.fr (kBool.is false)]) (om Z Z (om Z Z (aa Z (fun N=>aU i Z Z U22 aK Z (v:=(l.getD i [])) (gd [] (by omega))) (aa Z (fun N=>aO Z aK) (om Z Z (om Z Z (aa Z (fun N=>aU i Z Z U22 aK Z (v:=(l.getD i [])) (gd [] (by omega))) (aa Z (fun N=>aO Z aK) (aa Z (fun N=>f2 fn34 Z Z (c_law18_eqs (l.getD i []))) (aa Z (fun N=>dh (a:=true) Z) oz))))))))))<|fun σ1=>?_
  refine Wn<|dj Z<|cx<|Qb<|ak<|Wm Z<|Ws (aR Z Z (c:=((i:Int)+1)) (aH (by omega)))<|Wa Z<|au ?_
  exact bE (i+1) (by omega) (by omega) (ac Z (ac Z (az Z (ah (y:=(((i+1):Nat):Int)) (by rfl)) aq)))<|aG _
 ·
  refine Ex<|Cr<|Wa Z<|Wn<|aA ?_
  exact Qd Z (aI Z ay) ⟨Z,Z⟩
theorem c_law18_eqrs (l:List (Int×Int)):Fn Tryz.prog 36 [(kSl kRC).is l,(kSl kRC).is l] (kBool.is true):=by
 refine aN Tryz.func36 Z Z fun m w=>a8 (i:=0) Z bF fun hB=>Cr<|Wa Z<|Wn<|ab<|Cr<|Wm Z<|Ws (aJ Z U26)<|Wm Z<|Ws (aJ Z U26)<|Ws (bG Z Z)<|Wn ?_
 refine CN Z (fun h=>h Z) fun h_t10=>?_
 refine Ck<|ab<|Cr<|Wa Z<|Wn<|aF<|bJ (fun (i:Nat)=>i≤l.length) (fun (i:Nat)=>[(0,(kSl kRC).is l),(1,(kSl kRC).is l),(5,kN6.is (i:Int))]) (fun (i:Nat)=>[]) (fun (i:Nat)=>l.length-i) 0 (Nat.zero_le _) (ac Z (ac Z (az Z (ah (y:=(0:Int)) (by rfl)) aq))) (aG _) ?_
 intro i hi
 refine ab<|Cr<|Wm Z<|Wm Z<|Ws (aJ Z U26)<|Ws (aX Z Z)<|Wn ?_
 refine aM Z (fun h_t14=>?_)<|fun h_t14=>?_
 ·
  refine Ck<|ab<|aF<|ab ?_
  refine a5 (Γ:=[.fr ((kSl kRC).is l),.fr (kN6.is (i:Int)),.fr (VP.pim kRC (l.getD i (0,0))),.fr (kRC.is (l.getD i (0,0))),.fr ((kSl kRC).is l),.fr (kN6.is (i:Int)),.fr (VP.pim kRC (l.getD i (0,0))),.fr (kRC.is (l.getD i (0,0))),.fr (kBool.is true),.fr (kBool.is false)]) (om Z Z (om Z Z (aa Z (fun N=>aU i Z Z U26 ai Z (v:=(l.getD i (0,0))) (gd (0,0) (by omega))) (aa Z (fun N=>aO Z ai) (om Z Z (om Z Z (aa Z (fun N=>aU i Z Z U26 ai Z (v:=(l.getD i (0,0))) (gd (0,0) (by omega))) (aa Z (fun N=>aO Z ai) (aa Z (fun N=>f2 fn23 Z Z (eK (l.getD i (0,0)))) (aa Z (fun N=>dh (a:=true) Z) oz))))))))))<|fun σ1=>?_
  refine Wn<|dj Z<|cx<|Qb<|ak<|Wm Z<|Ws (aR Z Z (c:=((i:Int)+1)) (aH (by omega)))<|Wa Z<|au ?_
  exact bE (i+1) (by omega) (by omega) (ac Z (ac Z (az Z (ah (y:=(((i+1):Nat):Int)) (by rfl)) aq)))<|aG _
 ·
  refine Ex<|Cr<|Wa Z<|Wn<|aA ?_
  exact Qd Z (aI Z ay) ⟨Z,Z⟩
theorem c_law18_ClosePlans (b:List (List Int)) (t:List (Int×Int)) (wv:List Int) (hw:sumS bZ wv≤33554432) (ht:sumS bR t≤33554432) (hwl:wv.length≤33554432):Fn Tryz.prog 6 [kMZ.is b,(kSl (kPair kZ kZ)).is t,kVZ.is wv] (kBool.is true):=by
 refine aN Tryz.func6 Z Z fun m w=>a8 (i:=1) Z bF fun hB1=>a8 (i:=2) Z bF fun hB2=>Cr<|Wa Z<|Wn<|ab ?_
 by_cases hA:askE b t=0
 ·
  refine ak<|Wm Z<|Ws (f1 fn18 Z (c_law18_ownm b))<|Wm Z<|Ws (f1 fn19 Z (gl t))<|Ws (f2 fn32 Z Z (c_close_Plan b t (by assumption)))<|Wm Z<|Ws (aP Z Z)<|Ws (aP Z Z)<|Ws (aP Z Z)<|Ws (aP Z Z)<|aW .n fo fun b1=>aW .n eR fun b2=>aW .n ba fun b3=>aE .n (aC (l:=kTre) (u:=((gDs (gram (llB b)) b.length,gLs (gram (llB b)) b.length),tcL (plC b t) b.length,(rq (plP b t)))) 2 Z Z Z cL Z Lr)<|aE .n (aC (l:=kRed) (u:=(llB b,llU b,llV b,((llS b).length:Int))) 1 Z Z Z dG Z Lr)<|aE .n (aC (l:=kRC) (u:=rq (plH b t)) 0 Z Z Z ai Z Lr)<|Wa Z<|Wr<|Wm Z<|Wm Z ?_
  refine Ws (f2 fn20 Z Z (c_ref18_Check b t))<|Wa Z<|Wn<|ab<|ab<|tl 11 Z (y:=0) hA<|ak<|Wm Z<|Wm Z<|Ws (bG Z Z)<|Wn ?_
  refine CN Z (fun h=>h Z) fun h_t32=>?_
  refine Ck<|ab<|Cr<|Wm Z<|Ws (bG Z Z)<|Wm Z ?_
  refine cG 35 Z (fun h=>absurd h (fun h=>h Z))<|fun h_t35=>?_
  refine Kf Z Z<|Kf Z Z<|Kf Z Z<|Kf Z Z<|Kf Z Z<|Kf Z Z<|dI Z Z<|dI Z Z<|dI Z Z<|dI Z Z<|Kf Z Z<|Kf Z Z<|dI Z Z<|dI Z Z<|dI Z Z<|dI Z Z<|Kf Z Z<|Ws (cb Z Z)<|Wn<|dj Z<|Ck<|ab ?_
  refine Cr<|Wm Z<|Ws (cq Z Z)<|Wn ?_
  refine CY Z Z fun h_t55=>?_
  refine Cr<|Wm Z<|Wm Z<|Ws (f2 fn33 Z Z (c_ref18_Plan b t (by assumption)))<|Wm Z<|Ws (aP Z Z)<|Ws (aP Z Z)<|Ws (aP Z Z)<|aW .n fo fun b4=>aW .n eR fun b5=>aW .n ba fun b6=>aE .n (aC (l:=kTre) (u:=((gDs (gram (llB b)) b.length,gLs (gram (llB b)) b.length),tcL (plC b t) b.length,(rq (plP b t)))) 2 Z Z Z cL Z Lr)<|aE .n (aC (l:=kRed) (u:=(llB b,llU b,llV b,((llS b).length:Int))) 1 Z Z Z dG Z Lr)<|aE .n (aC (l:=kRC) (u:=rq (plH b t)) 0 Z Z Z ai Z Lr)<|Wr<|Ws (aw Z c7 Z)<|Ws (aw Z cK Z)<|Ws (ae (p:=kVC.is (gDs (gram (llB b)) b.length)) Z (ag 5 Z) (aD (aD Li)) aK Z)<|Ws (aw Z c7 Z)<|Ws (aw Z cK Z) ?_
  refine Ws (ae (p:=kVC.is (gDs (gram (llB b)) b.length)) Z (ag 2 Z) (aD (aD Li)) aK Z)<|Ws (f2 fn34 Z Z (c_law18_eqs (gDs (gram (llB b)) b.length)))<|Ws (dh (a:=true) Z)<|Wm Z<|Wg Z Z (aw Z c7 Z)<|Wg Z Z (aw Z ct Z)<|Wg Z Z (ae (p:=kMC.is (gLs (gram (llB b)) b.length)) Z (ag 5 Z) (aD (am Li)) bf Z)<|Wg Z Z (aw Z c7 Z)<|Wg Z Z (aw Z ct Z)<|Wg Z Z (ae (p:=kMC.is (gLs (gram (llB b)) b.length)) Z (ag 2 Z) (aD (am Li)) bf Z)<|Wg Z Z (f2 fn35 Z Z (c_law18_eqm (gLs (gram (llB b)) b.length)))<|Wg Z Z (dh (a:=true) Z)<|Ws (cb Z Z)<|Wm Z<|Wg Z Z (aw Z eg Z)<|Wg Z Z (ae (p:=(kSl kRC).is (tcL (plC b t) b.length)) Z (ag 5 Z) (am (aD Li)) bN Z)<|Wg Z Z (aw Z eg Z)<|Wg Z Z (ae (p:=(kSl kRC).is (tcL (plC b t) b.length)) Z (ag 2 Z) (am (aD Li)) bN Z)<|Wg Z Z (f2 fn36 Z Z (c_law18_eqrs (tcL (plC b t) b.length)))<|Wg Z Z (dh (a:=true) Z)<|Ws (cb Z Z)<|Wm Z<|Wg Z Z (aw Z eO Z)<|Wg Z Z (ae (p:=kRC.is (rq (plP b t))) Z (ag 5 Z) (am (am Li)) ai Z) ?_
  refine Wg Z Z (aw Z eO Z)<|Wg Z Z (ae (p:=kRC.is (rq (plP b t))) Z (ag 2 Z) (am (am Li)) ai Z)<|Wg Z Z (f2 fn23 Z Z (eK (rq (plP b t))))<|Wg Z Z (dh (a:=true) Z)<|Ws (cb Z Z)<|Wm Z<|Wg Z Z (aw Z eW Z)<|Wg Z Z (ae (p:=kMC.is (llB b)) Z (ag 4 Z) (aD Li) bf Z)<|Wg Z Z (aw Z eW Z)<|Wg Z Z (ae (p:=kMC.is (llB b)) Z (ag 1 Z) (aD Li) bf Z)<|Wg Z Z (f2 fn35 Z Z (c_law18_eqm (llB b)))<|Wg Z Z (dh (a:=true) Z)<|Ws (cb Z Z)<|Wm Z<|Wg Z Z (aw Z fld35_1 Z)<|Wg Z Z (ae (p:=kMC.is (llU b)) Z (ag 4 Z) (am (aD Li)) bf Z)<|Wg Z Z (aw Z fld35_1 Z)<|Wg Z Z (ae (p:=kMC.is (llU b)) Z (ag 1 Z) (am (aD Li)) bf Z)<|Wg Z Z (f2 fn35 Z Z (c_law18_eqm (llU b)))<|Wg Z Z (dh (a:=true) Z)<|Ws (cb Z Z)<|Wm Z<|Wg Z Z (ae Z (ag 3 Z) Li ai Z)<|Wg Z Z (ae Z (ag 0 Z) Li ai Z) ?_
  refine Wg Z Z (f2 fn23 Z Z (eK (rq (plH b t))))<|Wg Z Z (dh (a:=true) Z)<|Ws (cb Z Z)<|Wn<|dj Z<|Ck<|Cr<|Wm Z<|Ws (f1 fn38 Z (gO wv))<|Wm Z<|Ws (f1 fn19 Z (gl t))<|Ws (f2 fn37 Z Z (c_close_Distance wv t (by assumption) (by assumption) (by assumption)))<|Wm Z<|Ws (aP Z Z)<|Ws (aP Z Z)<|Ax (l:=kRC) (u:=disV wv t) ba Z ai (fun _=>Z) Lr fun b7=>Wa Z<|Wn<|ab ?_
  refine Cr<|Wm Z<|Ws (aJ Z U23)<|Wm Z<|Ws (aJ Z U26)<|Ws (bG Z Z)<|Wn ?_
  refine aM Z (fun h_t131=>?_)<|fun h_t131=>?_
  ·
   refine ab<|tb 0 Z (y:=(0,0)) (dis_1 (by omega)).2<|ak<|Wm Z<|Ws (cq Z Z)<|Wm Z ?_
   refine cG 134 Z (fun h_t134=>?_)<|fun h=>absurd (dis_1 (by omega)).1 h
   refine Wg Z Z (ae (p:=kRC.is (0,0)) Z (ag 0 Z) Li ai Z)<|Wg Z Z (bY dP Z br (.nil _))<|Wg Z Z (f2 fn23 Z Z (eK (0,0)))<|Ws (cE Z Z)<|Wa Z<|Wn<|aA<|a6 ?_
   exact Qd Z (aI Z ay) ⟨Z,Z⟩
  ·
   refine Ck<|ab<|Cr<|Wa Z<|Wn<|aF<|bg (bm [0] (by decide) Z)<|bU (fun (i:Nat) (q:Nat)=>i≤t.length∧denB t i=true) (fun (i:Nat) (q:Nat)=>[(1,(kSl (kPair kZ kZ)).is t),(2,kVZ.is wv),(10,kN6.is (disE wv t)),(15,VP.pt q 0),(16,kN6.is (i:Int))]) (fun (i:Nat) (q:Nat)=>[OB.box q 31 kRC (disV wv t)]) (fun (i:Nat) (q:Nat)=>t.length-i) 0 b7 ⟨Nat.zero_le _,denB_0 t⟩ (ao Z Z Z Z (az Z (ah (y:=(0:Int)) (by rfl)) aq)) (aG _) ?_
   intro i q ⟨hi,hd⟩
   refine ab<|Cr<|Wm Z<|Wm Z<|Ws (aJ Z U26)<|Ws (aX Z Z)<|Wn ?_
   refine aM Z (fun h_t142=>?_)<|fun h_t142=>?_
   ·
    refine Ck<|ab<|aF<|Cr<|Wm Z<|Wm Z<|Ws (aU i Z Z U26 ai Z (v:=(t.getD i (0,0))) (gd (0,0) (by omega)))<|Ws (aO Z ai)<|Ws (aB fn39 (aj Z (ah (y:=((t.getD i (0,0)).1,(t.getD i (0,0)).2)) (by rfl)) ar) (gK ((t.getD i (0,0)).1) ((t.getD i (0,0)).2)))<|Ws (dh Z)<|Wn ?_
    refine eh Z (fun h_t150=>?_)<|fun h_t150=>?_
    ·
     refine ab<|tb 0 Z (y:=(0,0)) (dis_2 (by omega) (fk (i:=i) (by omega) (by simpa using h_t150))).2<|ak<|Wm Z<|Ws (cq Z Z)<|Wm Z ?_
     refine cG 153 Z (fun h_t153=>?_)<|fun h=>absurd (dis_2 (by omega) (fk (i:=i) (by omega) (by simpa using h_t150))).1 h
     refine Wg Z Z (ae (p:=kRC.is (0,0)) Z (ag 0 Z) Li ai Z)<|Wg Z Z (bY dP Z br (.nil _))<|Wg Z Z (f2 fn23 Z Z (eK (0,0)))<|Ws (cE Z Z)<|Wa Z<|Wn<|aA<|bQ<|a6<|a6<|bQ<|a6 ?_
     exact Qd Z (aI Z ay) ⟨Z,Z⟩
    ·
     refine cx<|Qb<|ak<|Wm Z<|Ws (aR Z Z (c:=((i:Int)+1)) (aH (by omega)))<|Wa Z<|au ?_
     exact bS (i+1) q (by omega) ⟨by omega,denB_s (by omega) hd (by simpa using h_t150)⟩ (ao Z Z Z Z (az Z (ah (y:=(((i+1):Nat):Int)) (by rfl)) aq))<|aG _
   ·
    refine Ex<|ab ?_
    have hdn:denB t t.length=true:=by rw [show t.length=i by omega];exact hd
    have hle:wv.length=t.length:=by omega
    refine tb 0 Z (y:=(rq (dstQ wv t))) (dis_3 hle hdn).2 ?_
    refine a5 (Γ:=[.fr (kN6.is (disE wv t)),.fr (kBool.is true),.fr (kBool.is true),.fr (kRC.is (rq (dstQ wv t))),.fr (kVZ.is wv),.fr ((kSl (kPair kZ kZ)).is t),.fr (kRC.is (rq (dstQ wv t))),.fr (kBool.is true),.fr (kBool.is true)]) (om Z Z (aa Z (fun N=>aV (cq Z Z) (ah (decide_eq_true (dis_3 hle hdn).1))) (om Z Z (oc (cJ Z (.g Z Z) fun N=>(ae Z (mN N 0 Z) Li ai Z)) (oc (cJ Z (.g Z Z) fun N=>(cd Z)) (oc (cJ Z (.g Z Z) fun N=>(cd Z)) (oc (cJ Z (.g Z Z) fun N=>(f2 fn40 Z Z (c_ref18_Distancea wv t (distP_of (by omega) (den_all hdn) hw ht hwl)))) (oc (cJ Z (.g Z Z) fun N=>(f2 fn23 Z Z (eK (rq (dstQ wv t))))) (aa Z (fun N=>cE Z Z) oz)))))))))<|fun σ1=>?_
    refine Wa Z<|Wn<|aA ?_
    exact Qd Z (aI Z ay) ⟨Z,Z⟩
 ·
  refine ak<|Wm Z<|Ws (f1 fn18 Z (c_law18_ownm b))<|Wm Z<|Ws (f1 fn19 Z (gl t))<|Ws (f2 fn32 Z Z (c_close_Plan_bad b t (by assumption)))<|Wm Z<|Ws (aP Z Z)<|Ws (aP Z Z)<|Ws (aP Z Z)<|Ws (aP Z Z)<|aW .n fo fun b8=>aW .n eR fun b9=>aW .n ba fun b10=>aE .n (aC (l:=kTre) (u:=(([],[]),[],(0,0))) 2 Z Z Z cL Z Lr)<|aE .n (aC (l:=kRed) (u:=([],[],[],0)) 1 Z Z Z dG Z Lr)<|aE .n (aC (l:=kRC) (u:=(0,0)) 0 Z Z Z ai Z Lr)<|Wa Z<|Wr<|Wm Z<|Wm Z ?_
  refine Ws (f2 fn20 Z Z (c_ref18_Check b t))<|Wa Z<|Wn<|ab<|Cr<|Wm Z<|Wm Z<|Ws (bG Z Z)<|Wn ?_
  refine CN Z (fun h=>h Z) fun h_t32=>?_
  refine Ck<|ab<|Cr<|Wm Z<|Ws (bG Z Z)<|Wm Z ?_
  refine cG 35 Z (fun h_t35=>?_)<|fun h=>absurd hA h
  refine Wg Z Z (aw Z c7 Z)<|Wg Z Z (aw Z cK Z)<|Wg Z Z (ae (p:=kVC.is []) Z (ag 2 Z) (aD (aD Li)) aK Z)<|Wg Z Z (aJ Z U23)<|Wg Z Z (bG Z Z)<|Wg Z Z (cd Z) ?_
  refine cG 41 Z (fun h=>absurd h (fun h=>h Z))<|fun h_t41=>?_
  refine Wg Z Z (aw Z eW Z)<|Wg Z Z (ae (p:=kMC.is []) Z (ag 1 Z) (aD Li) bf Z)<|Wg Z Z (aJ Z U22)<|Wg Z Z (bG Z Z)<|Wg Z Z (cb Z Z)<|Wg Z Z (cd Z) ?_
  refine cG 47 Z (fun h=>absurd h (fun h=>h Z))<|fun h_t47=>?_
  refine Wg Z Z (ae (p:=kRC.is (0,0)) Z (ag 0 Z) Li ai Z)<|Wg Z Z (bY dP Z br (.nil _))<|Wg Z Z (f2 fn23 Z Z (eK (0,0)))<|Wg Z Z (dh (a:=true) Z)<|Wg Z Z (cb Z Z)<|Ws (cE Z Z)<|Wn<|dj Z<|Ck<|ab<|Cr<|Wm Z<|Ws (cq Z Z)<|Wn ?_
  refine CN Z hA fun h_t55=>?_
  refine Ck<|Cr<|Wm Z<|Ws (f1 fn38 Z (gO wv))<|Wm Z<|Ws (f1 fn19 Z (gl t))<|Ws (f2 fn37 Z Z (c_close_Distance wv t (by assumption) (by assumption) (by assumption)))<|Wm Z<|Ws (aP Z Z)<|Ws (aP Z Z)<|Ax (l:=kRC) (u:=disV wv t) ba Z ai (fun _=>Z) Lr fun b11=>Wa Z<|Wn<|ab<|Cr<|Wm Z<|Ws (aJ Z U23)<|Wm Z<|Ws (aJ Z U26) ?_
  refine Ws (bG Z Z)<|Wn ?_
  refine aM Z (fun h_t131=>?_)<|fun h_t131=>?_
  ·
   refine ab<|tb 0 Z (y:=(0,0)) (dis_1 (by omega)).2<|ak<|Wm Z<|Ws (cq Z Z)<|Wm Z ?_
   refine cG 134 Z (fun h_t134=>?_)<|fun h=>absurd (dis_1 (by omega)).1 h
   refine Wg Z Z (ae (p:=kRC.is (0,0)) Z (ag 0 Z) Li ai Z)<|Wg Z Z (bY dP Z br (.nil _))<|Wg Z Z (f2 fn23 Z Z (eK (0,0)))<|Ws (cE Z Z)<|Wa Z<|Wn<|aA<|a6 ?_
   exact Qd Z (aI Z ay) ⟨Z,Z⟩
  ·
   refine Ck<|ab<|Cr<|Wa Z<|Wn<|aF<|bg (bm [0] (by decide) Z)<|bU (fun (i:Nat) (q:Nat)=>i≤t.length∧denB t i=true) (fun (i:Nat) (q:Nat)=>[(1,(kSl (kPair kZ kZ)).is t),(2,kVZ.is wv),(10,kN6.is (disE wv t)),(15,VP.pt q 0),(16,kN6.is (i:Int))]) (fun (i:Nat) (q:Nat)=>[OB.box q 31 kRC (disV wv t)]) (fun (i:Nat) (q:Nat)=>t.length-i) 0 b11 ⟨Nat.zero_le _,denB_0 t⟩ (ao Z Z Z Z (az Z (ah (y:=(0:Int)) (by rfl)) aq)) (aG _) ?_
   intro i q ⟨hi,hd⟩
   refine ab<|Cr<|Wm Z<|Wm Z<|Ws (aJ Z U26)<|Ws (aX Z Z)<|Wn ?_
   refine aM Z (fun h_t142=>?_)<|fun h_t142=>?_
   ·
    refine Ck<|ab<|aF<|Cr<|Wm Z<|Wm Z<|Ws (aU i Z Z U26 ai Z (v:=(t.getD i (0,0))) (gd (0,0) (by omega)))<|Ws (aO Z ai)<|Ws (aB fn39 (aj Z (ah (y:=((t.getD i (0,0)).1,(t.getD i (0,0)).2)) (by rfl)) ar) (gK ((t.getD i (0,0)).1) ((t.getD i (0,0)).2)))<|Ws (dh Z)<|Wn ?_
    refine eh Z (fun h_t150=>?_)<|fun h_t150=>?_
    ·
     refine ab<|tb 0 Z (y:=(0,0)) (dis_2 (by omega) (fk (i:=i) (by omega) (by simpa using h_t150))).2<|ak<|Wm Z<|Ws (cq Z Z)<|Wm Z ?_
     refine cG 153 Z (fun h_t153=>?_)<|fun h=>absurd (dis_2 (by omega) (fk (i:=i) (by omega) (by simpa using h_t150))).1 h
     refine Wg Z Z (ae (p:=kRC.is (0,0)) Z (ag 0 Z) Li ai Z)<|Wg Z Z (bY dP Z br (.nil _))<|Wg Z Z (f2 fn23 Z Z (eK (0,0)))<|Ws (cE Z Z)<|Wa Z<|Wn<|aA<|bQ<|a6<|a6<|bQ<|a6 ?_
     exact Qd Z (aI Z ay) ⟨Z,Z⟩
    ·
     refine cx<|Qb<|ak<|Wm Z<|Ws (aR Z Z (c:=((i:Int)+1)) (aH (by omega)))<|Wa Z<|au ?_
     exact bS (i+1) q (by omega) ⟨by omega,denB_s (by omega) hd (by simpa using h_t150)⟩ (ao Z Z Z Z (az Z (ah (y:=(((i+1):Nat):Int)) (by rfl)) aq))<|aG _
   ·
    refine Ex<|ab ?_
    have hdn:denB t t.length=true:=by rw [show t.length=i by omega];exact hd
    have hle:wv.length=t.length:=by omega
    refine tb 0 Z (y:=(rq (dstQ wv t))) (dis_3 hle hdn).2 ?_
    refine a5 (Γ:=[.fr (kN6.is (disE wv t)),.fr (kBool.is true),.fr (kBool.is true),.fr (kRC.is (rq (dstQ wv t))),.fr (kVZ.is wv),.fr ((kSl (kPair kZ kZ)).is t),.fr (kRC.is (rq (dstQ wv t))),.fr (kBool.is true),.fr (kBool.is true)]) (om Z Z (aa Z (fun N=>aV (cq Z Z) (ah (decide_eq_true (dis_3 hle hdn).1))) (om Z Z (oc (cJ Z (.g Z Z) fun N=>(ae Z (mN N 0 Z) Li ai Z)) (oc (cJ Z (.g Z Z) fun N=>(cd Z)) (oc (cJ Z (.g Z Z) fun N=>(cd Z)) (oc (cJ Z (.g Z Z) fun N=>(f2 fn40 Z Z (c_ref18_Distancea wv t (distP_of (by omega) (den_all hdn) hw ht hwl)))) (oc (cJ Z (.g Z Z) fun N=>(f2 fn23 Z Z (eK (rq (dstQ wv t))))) (aa Z (fun N=>cE Z Z) oz)))))))))<|fun σ2=>?_
    refine Wa Z<|Wn<|aA ?_
    exact Qd Z (aI Z ay) ⟨Z,Z⟩
end Fw
namespace Fw
open Go Go.Proofs Go.ChangeShapes Go.WideShapes Go.RowKit
section
open Go.Proofs.YtjbfmocbophmlaaGreat.Rows (uptoBulk uptoBulkAll)
theorem bulkAll_app {H:Type} (l:List (DataW H)) (y:DataW H):uptoBulkAll (l++[y])=uptoBulkAll l+uptoBulk y:=by
  induction l with
  | nil=>simp [uptoBulkAll]
  | cons x r ih=>simp only [List.cons_append,uptoBulkAll,ih];omega
def RdS (P:Program) (t:TypeId) {α:Type} (k:Kd α) (S:α→Nat):Prop:=
  ∀{H:Type} (enc:TypeId×Value→H) (w:World) (fuel:Nat) (cs:List Value) (d:DataW H) (ps:List MemPlace),DataW.trod enc P w 0 (fun _=>true) true fuel t cs=some (d,ps)→uptoBulk d≤uptoN→∃x,k.at' (snap w) cs x∧S x≤32*uptoBulk d
section
variable {P:Program} {t e:TypeId}
theorem rs_of {α:Type} {k:Kd α} {Q:α→Prop} (h:Rd P t k Q):RdS P t k (fun _=>32):=fun enc w fuel cs d ps hd hb=>by
  obtain ⟨x,h1,_⟩:=h enc w fuel cs d ps hd hb
  have:=bulk_one d
  exact ⟨x,h1,show 32≤32*uptoBulk d by omega⟩
theorem rs_0 {α:Type} {k:Kd α} {Q:α→Prop} (h:Rd P t k Q):RdS P t k (fun _=>0):=fun enc w fuel cs d ps hd hb=>by
  obtain ⟨x,h1,_⟩:=h enc w fuel cs d ps hd hb
  exact ⟨x,h1,Nat.zero_le _⟩
theorem rs_sl {α:Type} {k:Kd α} {S:α→Nat} (hu:P.underlying t=some (.slice e)) (hc:P.cellsOf e=k.sz) (h0:0<k.sz) (h:RdS P e k S):RdS P t (kSl k) (sumS S):=fun enc w fuel cs d ps hd hb=>by
  rcases DataW.trod_slice hu hd with ⟨rfl,hx⟩ | ⟨a,len,cap,elems,rest,n,rfl,rfl,hx,_,hl,hm,hlen,hel,_⟩
  · exact ⟨[],⟨none,0,rfl,by simp,by simp,.inl rfl⟩,Nat.zero_le _⟩
  · simp only [Prod.mk.injEq] at hx
    obtain ⟨rfl,_⟩:=hx
    simp only [uptoBulk] at hb
    have hbl:=bulk_len (elems.map (·.1))
    simp only [List.length_map] at hbl
    by_cases h00:len=0
    · subst h00
      exact ⟨[],⟨some a,cap,rfl,by simp,by simp,.inl rfl⟩,Nat.zero_le _⟩
    -- the cells of element i
    have hcell:∀i,i<len→∃ci,ci.length=k.sz∧(∀j,j<k.sz→w.cell? (a.add (i*k.sz+j))=ci[j]?)∧∃x,k.at' (snap w) ci x∧∃y,(elems.map (·.1))[i]?=some y∧S x≤32*uptoBulk y:=by
      intro i hi
      have h1:=hel i hi
      rw [hc] at h1
      have hlt:i<elems.length:=by omega
      rw [List.getElem?_eq_getElem hlt,Option.bind_eq_some_iff] at h1
      obtain ⟨ci,h2,h3⟩:=h1
      obtain ⟨_,h4,h5⟩:=World.cells?_some h2
      obtain ⟨x,h6,h7⟩:=h enc w n ci elems[i].1 elems[i].2 h3 (by
        have:=bulk_mem (H:=_) (d:=elems[i].1) (l:=elems.map (·.1)) (List.mem_map.2 ⟨_,List.getElem_mem hlt,rfl⟩)
        omega)
      refine ⟨ci,h4,fun j hj=>?_,x,h6,elems[i].1,by simp [hlt],h7⟩
      rw [←h5 j hj,Addr.add_add]
    obtain ⟨c0,l0,e0,x0,_⟩:=hcell 0 (by omega)
    have hv0:∃v,c0[0]?=some v:=⟨c0[0],List.getElem?_eq_getElem (by omega)⟩
    obtain ⟨v0,hv0⟩:=hv0
    have h00:=e0 0 h0
    rw [hv0] at h00
    have ha:a=⟨a.block,a.off,none⟩:=by
      have h01:=(snap_cell h00).1
      cases a with
      | mk b o s=>
        cases s with
        | none=>rfl
        | some s=>simp [Addr.add] at h01
    obtain ⟨c,hc1,_⟩:=(snap_cell h00).2
    rw [ha] at hc1 hcell ⊢
    simp only [Addr.add_lit] at hc1 hcell
    have hget:∀o v,w.cell? ⟨a.block,o,none⟩=some v→c[o]?=some v:=by
      intro o v hv
      obtain ⟨_,c',h1,h2⟩:=snap_cell hv
      simp only at h1 h2
      rw [hc1] at h1
      cases h1
      exact h2
    have key:∀m,m≤len→a.off+m*k.sz≤c.length∧∃xs:List α,xs.length=m∧Rows k (snap w) ((c.drop a.off).take (m*k.sz)) xs∧sumS S xs≤32*uptoBulkAll ((elems.map (·.1)).take m):=by
      intro m
      induction m with
      | zero=>
        intro _
        obtain ⟨ci,l1,l2,_⟩:=hcell 0 (by omega)
        have:=hget _ _ ((l2 0 h0).trans (List.getElem?_eq_getElem (by omega)))
        have:=(List.getElem?_eq_some_iff.1 this).1
        exact ⟨by omega,[],rfl,by simp [Rows],Nat.zero_le _⟩
      | succ m ih=>
        intro hm1
        obtain ⟨ih0,xs,ih1,ih2,ih3⟩:=ih (by omega)
        obtain ⟨ci,l1,l2,x,l3,y,l4,l5⟩:=hcell m (by omega)
        have hci:∀j,j<k.sz→c[a.off+(m*k.sz+j)]?=ci[j]?:=by
          intro j hj
          have h1:=l2 j hj
          rw [List.getElem?_eq_getElem (show j<ci.length by omega)] at h1 ⊢
          exact hget _ _ h1
        have hlen':a.off+(m+1)*k.sz≤c.length:=by
          have h1:=hci (k.sz-1) (by omega)
          rw [List.getElem?_eq_getElem (show k.sz-1<ci.length by omega)] at h1
          have:=(List.getElem?_eq_some_iff.1 h1).1
          rw [Nat.succ_mul]
          omega
        have hseg:(c.drop (a.off+m*k.sz)).take k.sz=ci:=by
          apply List.ext_getElem?
          intro j
          by_cases hj:j<k.sz
          · rw [List.getElem?_take_of_lt hj,List.getElem?_drop,←hci j hj,Nat.add_assoc]
          · rw [List.getElem?_eq_none (by simp;omega),List.getElem?_eq_none (by omega)]
        have hspl:(c.drop a.off).take ((m+1)*k.sz)=(c.drop a.off).take (m*k.sz)++ci:=by
          rw [Nat.succ_mul,List.take_add,List.drop_drop,hseg]
        refine ⟨hlen',xs++[x],by simp [ih1],by rw [hspl];exact ih2.append (Rows.one l3),?_⟩
        rw [List.take_add_one,l4,sumS_app]
        show _≤32*uptoBulkAll (_++[y])
        rw [bulkAll_app]
        omega
    obtain ⟨k0,xs,k1,k2,k3⟩:=key len (Nat.le_refl _)
    refine ⟨xs,⟨some ⟨a.block,a.off,none⟩,cap,by rw [k1],by unfold uptoN at hb;omega,by omega,.inr ⟨a.block,a.off,c,_,rfl,hc1,⟨c.take a.off,(c.drop a.off).drop (len*k.sz),?_,by simp;omega⟩,k2⟩⟩,?_⟩
    · rw [List.append_assoc,List.take_append_drop,List.take_append_drop]
    · rw [List.take_of_length_le (by simp;omega)] at k3
      simp only [uptoBulk];omega
def RsF (P:Program) (fs:List Field) (off:Nat) {α:Type} (k:Kd α) (S:α→Nat):Prop:=
  ∀{H:Type} (enc:TypeId×Value→H) (w:World) (n:Nat) (cs:List Value) (xs:List (DataW H×List MemPlace)),xs.length=fs.length →
    (∀(i:Nat) (f:Field),fs[i]?=some f→DataW.trod enc P w 0 (fun _=>true) true n f.type ((cs.drop f.offset).take (P.cellsOf f.type))=xs[i]?)→uptoBulkAll (xs.map (·.1))≤uptoN→off+k.sz=cs.length→∃x,k.at' (snap w) (cs.drop off) x∧S x≤32*uptoBulkAll (xs.map (·.1))
theorem rsf_last {α:Type} {k:Kd α} {S:α→Nat} {f:Field} {off:Nat} (ho:f.offset=off) (hc:P.cellsOf f.type=k.sz) (h:RdS P f.type k S):RsF P [f] off k S:=fun enc w n cs xs hl hx hb hlen=>by
  match xs,hl with
  | [y],_=>
    have h1:=hx 0 f rfl
    rw [ho,hc,List.take_of_length_le (by simp;omega)] at h1
    obtain ⟨x,h2,h3⟩:=h enc w n _ y.1 y.2 h1 (by simp [uptoBulkAll] at hb;omega)
    exact ⟨x,h2,by simp [uptoBulkAll];omega⟩
theorem rsf_cons {α β:Type} {k:Kd α} {l:Kd β} {S:α→Nat} {R:β→Nat} {f:Field} {fs:List Field} {off off':Nat} (ho:f.offset=off) (hc:P.cellsOf f.type=k.sz) (h:RdS P f.type k S) (ho':off+k.sz=off') (hr:RsF P fs off' l R):RsF P (f::fs) off (kPair k l) (fun x=>S x.1+R x.2):=fun enc w n cs xs hl hx hb hlen=>by
  match xs,hl with
  | y::ys,hl=>
    simp only [List.map_cons,uptoBulkAll] at hb
    have hlen':off+(k.sz+l.sz)=cs.length:=hlen
    have h1:=hx 0 f rfl
    rw [ho,hc] at h1
    obtain ⟨x,h2,h3⟩:=h enc w n _ y.1 y.2 h1 (by omega)
    obtain ⟨z,h4,h5⟩:=hr enc w n cs ys (by simpa using hl) (fun i g hg=>by simpa using hx (i+1) g (by simpa using hg)) (by omega) (by omega)
    refine ⟨(x,z),⟨_,_,?_,h2,h4⟩,?_⟩
    · rw [←ho',←List.drop_drop,List.take_append_drop]
    · simp only [List.map_cons,uptoBulkAll];omega
theorem rs_struct {α:Type} {k:Kd α} {S:α→Nat} {fs:List Field} (hu:P.underlying t=some (.struct fs.toArray)) (hc:P.cellsOf t=k.sz) (h:RsF P fs 0 k S):RdS P t k (fun x=>S x+1):=fun enc w fuel cs d ps hd hb=>by
  obtain ⟨xs,n,_,hx,hl,hlen,hf⟩:=DataW.trod_struct hu hd
  simp only [Prod.mk.injEq] at hx
  obtain ⟨rfl,_⟩:=hx
  simp only [uptoBulk] at hb
  obtain ⟨x,h1,h2⟩:=h enc w n cs xs (by simpa using hlen) (fun i f hi=>hf i f (by simpa using hi)) (by omega) (by omega)
  exact ⟨x,by simpa using h1,by simp only [uptoBulk];omega⟩
theorem rs_Z (h:RdS P t kI (fun x=>0+sumS (fun _=>32) x.2+1)):RdS P t kZ (fun z=>bZ z+1):=fun enc w fuel cs d ps hd hb=>by
  obtain ⟨x,h1,h2⟩:=h enc w fuel cs d ps hd hb
  have h2:0+sumS (fun _=>32) x.2+1≤32*uptoBulk d:=h2
  rw [sumS_const] at h2
  have hl:Lims x.2:=by
    obtain ⟨a,b,_,_,_,_,_,_,_,h3⟩:=h1
    rcases h3 with h3 | ⟨_,_,_,_,_,_,_,r⟩
    · intro y hy;rw [h3] at hy;cases hy
    · exact rows_lims r
  have hv:(ival x).natAbs=nval x.2:=by
    unfold ival;split <;> simp
  refine ⟨ival x,⟨x,h1,rfl,by unfold uptoN at hb;omega⟩,?_⟩
  show bZ (ival x)+1≤_
  unfold bZ
  have h3:nval x.2<2^(32*x.2.length):=by
    have:=nval_lt hl
    rwa [show (4294967296:Nat)=2^32 from rfl,←Nat.pow_mul] at this
  rw [hv]
  have:=bitlen_le h3
  omega
theorem sumS_le {α:Type} {S R:α→Nat} (h:∀x,S x≤R x):∀l:List α,sumS S l≤sumS R l
  | []=>Nat.le_refl _
  | x::r=>by have:=sumS_le h r;have:=h x;simp only [sumS];omega
theorem sumS_add {α:Type} {S:α→Nat} (c:Nat):∀l:List α,sumS (fun x=>S x+c) l=sumS S l+l.length*c
  | []=>by simp [sumS]
  | x::r=>by simp only [sumS,sumS_add c r,List.length_cons,Nat.succ_mul];omega
theorem arg_slS {α:Type} {k:Kd α} {S:List α→Nat} (hu:P.underlying t=some (.slice e)) (h:RdS P t (kSl k) S) {H:Type} {enc:TypeId×Value→H} {w:World} {base:Nat} {v:Value} {d:DataW H} {ps:List MemPlace} (hval:Value.okWide P w .any base t v) (hd:DataW.Trod enc P w 0 (fun _=>true) true t v d ps) (hb:uptoBulk d≤uptoN):∃x,((kSl k).is x).p (snap w) v∧S x≤32*uptoBulk d:=by
  obtain ⟨fuel,hd⟩:=hd
  obtain ⟨x,h1,h2⟩:=h enc w fuel _ d ps hd hb
  refine ⟨x,⟨_,?_,h1⟩,h2⟩
  obtain ⟨a,cap,h3,_⟩:=h1
  cases v with
  | slice a n c=>rfl
  | agg cs=>simp [Value.okWide,hu,Cell.okWide,Cell.ok] at hval
  | _=>simp [Value.cells] at h3
end
end
end Fw
set_option linter.unusedVariables false
namespace Go.Proofs.YtjbfmocbophmlaaGreat.closePlans
open Go.ChangeShapes Go.WideShapes Go.ChangeAt Go.RowKit Fw
theorem rd29:Rd Tryz.prog 29 kZ ZB:=rd_Z (rd_struct (fs:=[_,_]) Tryz.underlying29 (by kernel_rfl) (rdf_cons rfl (by kernel_rfl) (rd_bool Tryz.underlying4) rfl (rdf_last rfl (by kernel_rfl) (rd_sl Tryz.underlying27 (by kernel_rfl) (by decide) (rd_limb Tryz.underlying93)))))
theorem rd23:Rd Tryz.prog 23 (kSl kZ) (fun xs=>xs.length≤uptoN∧∀x∈xs,ZB x):=rd_sl Tryz.underlying23 (by kernel_rfl) (by decide) rd29
theorem rd22:Rd Tryz.prog 22 (kSl (kSl kZ)) (fun xs=>xs.length≤uptoN∧∀x∈xs,(fun xs=>xs.length≤uptoN∧∀x∈xs,ZB x) x):=rd_sl Tryz.underlying22 (by kernel_rfl) (by decide) rd23
theorem rs29:RdS Tryz.prog 29 kZ (fun z=>bZ z+1):=rs_Z (rs_struct (fs:=[_,_]) Tryz.underlying29 (by kernel_rfl) (rsf_cons rfl (by kernel_rfl) (rs_0 (rd_bool Tryz.underlying4)) rfl (rsf_last rfl (by kernel_rfl) (rs_sl Tryz.underlying27 (by kernel_rfl) (by decide) (rs_of (rd_limb Tryz.underlying93))))))
theorem rs23:RdS Tryz.prog 23 (kSl kZ) (sumS (fun z=>bZ z+1)):=rs_sl Tryz.underlying23 (by kernel_rfl) (by decide) rs29
theorem rs31:RdS Tryz.prog 31 (kPair kZ kZ) (fun x=>(bZ x.1+1)+(bZ x.2+1)+1):=rs_struct (fs:=[_,_]) Tryz.underlying31 (by kernel_rfl) (rsf_cons rfl (by kernel_rfl) rs29 rfl (rsf_last rfl (by kernel_rfl) rs29))
theorem rs26:RdS Tryz.prog 26 (kSl (kPair kZ kZ)) (sumS (fun x=>(bZ x.1+1)+(bZ x.2+1)+1)):=rs_sl Tryz.underlying26 (by kernel_rfl) (by decide) rs31
theorem own:ownKnob Tryz.prog.godebug=none:=by kernel_rfl
theorem laidOut:laidOutB Tryz.prog=true:=by kernel_rfl
set_option maxRecDepth 100000 in
theorem contract (H:Type) (enc:TypeId×Value→H) (W:World) (base:Nat) (args:Array Value) (ds gs:List (DataW H)) (before:List MemPlace)
    (hval:∀(j:Nat) t v,Tryz.f6.params[j]?=some t→args[j]?=some v→Value.okWide Tryz.prog W .any base t v)
    (hW:DataW.Whole enc Tryz.prog Tryz.f6.params.toList Rows.closePlansSpec.vars false W args.toList ds gs before) (hk:Rows.uptoSmall H (ds++gs)=true) :
    Calls Tryz.prog 6 args W fun e W'=>∃v,e = .returned v∧Rows.closePlansSpec.post enc Tryz.prog Tryz.f6 false true false false W args v W':=by
  have hW':=hW
  obtain ⟨p,q,hA0,hV,rfl,hfz,hnd⟩:=hW
  have hA:DataW.TrodAll enc Tryz.prog W 0 (fun _=>true) true Tryz.f6.params.toList args.toList ds p:=hA0
  rw [Tryz.params6] at hA hval
  obtain ⟨rfl,rfl⟩:=trodVars_none hV
  unfold Rows.uptoSmall at hk
  have hbulk:=of_decide_eq_true hk
  rw [List.append_nil] at hbulk
  obtain ⟨v0,vs0,d0,ds0,p0,q0,hargs,rfl,rfl,h0,r0⟩:=trodAll_cons hA
  obtain ⟨v1,vs1,d1,ds1,p1,q1,rfl,rfl,rfl,h1,r1⟩:=trodAll_cons r0
  obtain ⟨v2,vs2,d2,ds2,p2,q2,rfl,rfl,rfl,h2,r2⟩:=trodAll_cons r1
  obtain ⟨rfl,rfl,rfl⟩:=trodAll_nil r2
  obtain rfl:args=[v0,v1,v2].toArray:=by cases args;simp_all
  simp only [Rows.uptoBulkAll] at hbulk
  obtain ⟨x0,a0,b0⟩:=arg_sl Tryz.underlying22 rd22 (hval 0 22 v0 rfl rfl) h0 (by unfold uptoN;omega)
  obtain ⟨x1,a1,b1⟩:=arg_slS Tryz.underlying26 rs26 (hval 1 26 v1 rfl rfl) h1 (by unfold uptoN;omega)
  obtain ⟨x2,a2,b2⟩:=arg_slS Tryz.underlying23 rs23 (hval 2 23 v2 rfl rfl) h2 (by unfold uptoN;omega)
  rw [sumS_add] at b2
  have hw:sumS bZ x2≤33554432:=by omega
  have hwl:x2.length≤33554432:=by omega
  have ht:sumS bR x1≤33554432:=by
    have h5:sumS bR x1≤sumS (fun x=>(bZ x.1+1)+(bZ x.2+1)+1) x1:=sumS_le (fun x=>by unfold bR;omega) x1
    exact Nat.le_trans h5 (Nat.le_trans b1 (by omega))
  refine ((c_law18_ClosePlans x0 x1 x2 hw ht hwl).calls (vs:=[v0,v1,v2]) ⟨a0,a1,a2,trivial⟩).mono fun e W' ⟨he,bel⟩=>?_
  subst he
  exact ⟨_,rfl,_,_,_,[],_,[],hW',trodAll_mk1 (shut_bool Tryz.underlying4 _),below_all laidOut bel (by kernel_rfl) hA0 (fun x hx=>by simpa using hW'.lt x (by simpa using hx)),rfl,bel.frame _,fun h=>by cases h⟩
set_option maxRecDepth 100000 in
theorem lifted (os:Os) (started:os.Started) (H:Type) (enc:TypeId×Value→H) (F:Stop.Interp) :
    ReturnsInHanded {} Tryz.checked os 6 .any ((Rows.OpenSpec.upto Rows.closePlansSpec).pre6 enc Tryz.prog Tryz.f6 Rows.closePlansUptoRow.domain false) (((Rows.OpenSpec.upto Rows.closePlansSpec).at F).post enc Tryz.prog Tryz.f6 false true false false):=by
  refine returnsInHanded_of_cond (C:=Tryz.checked) (s:=Rows.OpenSpec.upto Rows.closePlansSpec) (k:=Rows.uptoSmall) rfl own started (by kernel_rfl) Tryz.func6
    (OpenSpec.witness (enc:=enc) (C:=Tryz.checked) (s:=Rows.OpenSpec.upto Rows.closePlansSpec) (k:=Rows.uptoSmall) rfl false ⟨#[],#[.slice none 0 0,.slice none 0 0,.slice none 0 0],[]⟩ 8 (by kernel_rfl) (by kernel_rfl) (by kernel_rfl)
      (x:=([.nil,.nil,.nil],[],[])) (by kernel_rfl) rfl (by kernel_rfl)) ?_
  intro W base args ds gs before hval hW _ hk _
  exact contract H enc W base args ds gs before hval hW hk
theorem over:Rows.closePlansUptoRow.holds Tryz.pinned (Rows.OpenSpec.upto Rows.closePlansSpec):=
  OpenClaim.holds_of_cond 6 Tryz.f6 rfl rfl rfl rfl rfl rfl rfl ⟨rfl,rfl,rfl,rfl,rfl⟩ rfl rfl rfl rfl rfl (by kernel_rfl) Tryz.func6 (by kernel_rfl)
    (of_decide_eq_true (by kernel_rfl)) (by unfold Func.isWrapper;first | (rw [if_pos (by decide +kernel)];kernel_rfl) | (rw [if_neg (by decide +kernel)];exact ⟨rfl,rfl⟩))
    (fun os started H enc _ F=>lifted os started H enc F)
theorem proved:Rows.ClosePlansUptoSaid:=over
end Go.Proofs.YtjbfmocbophmlaaGreat.closePlans
