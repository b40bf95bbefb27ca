/- Frame, facts and contracts for ClosePlans. -/
import Derived.Test.YtjbfmocbophmlaaGreatCClosePlansE
set_option exponentiation.threshold 600
set_option linter.unusedVariables false
set_option linter.unusedSimpArgs false
set_option maxRecDepth 20000
set_option maxHeartbeats 1000000
namespace Fw
open Go Go.Proofs
theorem c_tree_Valid (G:Nat→Nat→Int) (n:Nat) (c:Nat→Rat) (r:Rat) (hP:TZ G n c) (hr:RZ 21000000000 r) (hr0:0≤(rq r).1):Fn Tryz.prog 262 [kTre.is ((gDs (G) n,gLs (G) n),tcL c n,(rq r))] (kN6.is 0):=by
 refine aN Tryz.func262 Z Z fun m w=>?_
 have hn0:=hP.n0
 have hn12:=hP.n12
 have hTl:=tcL_len c n
 have hLl:=gLs_len G n
 have hr1:(rq r).2.sign=1:=Int.sign_eq_one_of_pos (rq_den_pos r)
 have hr2:0≤(rq r).1.sign:=Int.sign_nonneg_iff.2 hr0
 refine Cr<|aZ .n Z fun b1=>Wa Z<|Wr<|Ws (aw Z c7 Z)<|Ws (aw Z ct Z)<|Ws (ae (p:=kMC.is (gLs (G) n)) Z (ag 0 Z) (aD (am Li)) bf Z)<|Ws (aJ Z U22)<|Wa Z<|Wn<|ab<|ab<|tl 3 Z (y:=(n:Int)) (by rw [hLl])<|ak<|Wm Z<|Ws (cF Z Z)<|Wm Z ?_
 refine cG 14 Z (fun h_t14=>?_)<|fun h_t14=>?_
 ·
  refine Kt Z Z<|Kt Z Z<|Kt Z Z<|Kt Z Z<|Kt Z Z<|dI Z Z<|dI Z Z<|dI Z Z<|dI Z Z<|dI Z Z<|Kt Z Z<|Ws (cE Z Z)<|Wm Z<|Kt Z Z<|Kt Z Z<|Kt Z Z<|Kt Z Z<|Kt Z Z<|Ws (cE Z Z)<|Wm Z<|Kt Z Z<|Kt Z Z<|Kt Z Z<|Kt Z Z ?_
  refine Kt Z Z<|Ws (cE Z Z)<|Wn<|fi Z<|Cr<|Wa Z<|Wn<|aA<|a6 ?_
  exact Qd Z (du Z (ah (y:=0) (by omega)) ay) ⟨Z,Z⟩
 ·
  refine Wg Z Z (aw Z eg Z)<|Wg Z Z (ae (p:=(kSl kRC).is (tcL c n)) Z (ag 0 Z) (am (aD Li)) bN Z)<|Wg Z Z (aJ Z U26)<|Wg Z Z (bG Z Z)<|Wg Z Z (cd Z) ?_
  refine cG 19 Z (fun h_t19=>?_)<|fun h_t19=>?_
  ·
   refine Wg Z Z (aw Z eg Z)<|Wg Z Z (ae (p:=(kSl kRC).is (tcL c n)) Z (ag 0 Z) (am (aD Li)) bN Z)<|Wg Z Z (aJ Z U26)<|Wg Z Z (cd Z)<|Wg Z Z (bG Z Z)<|Wg Z Z (cE Z Z)<|Ws (cb Z Z)<|Wm Z ?_
   refine cG 27 Z (fun h_t27=>?_)<|fun h_t27=>?_
   ·
    refine Kt Z Z<|Kt Z Z<|Kt Z Z<|Kt Z Z<|Kt Z Z<|Ws (cE Z Z)<|Wm Z<|Kt Z Z<|Kt Z Z<|Kt Z Z<|Kt Z Z<|Kt Z Z<|Ws (cE Z Z)<|Wn<|fi Z<|Cr<|Wa Z<|Wn<|aA<|a6 ?_
    exact Qd Z (du Z (ah (y:=0) (by omega)) ay) ⟨Z,Z⟩
   ·
    refine Wg Z Z (aw Z eO Z)<|Wg Z Z (aw Z bW Z)<|Wg Z Z (ae (p:=kC.is ((rq r).2)) Z (ag 0 Z) (am (am (am Li))) af Z)<|Wg Z Z (aB db (aj Z (aL (hr.b.sm (by decide))) ar) (c9 ((rq r).2)))<|Wg Z Z (dL Z Z)<|Ws (cb Z Z)<|Wm Z ?_
    refine cG 34 Z (fun h_t34=>?_)<|fun h_t34=>?_
    ·
     refine Kt Z Z<|Kt Z Z<|Kt Z Z<|Kt Z Z<|Kt Z Z<|Ws (cE Z Z)<|Wn<|fi Z<|Cr<|Wa Z<|Wn<|aA<|a6 ?_
     exact Qd Z (du Z (ah (y:=0) (by omega)) ay) ⟨Z,Z⟩
    ·
     refine Wg Z Z (aw Z eO Z)<|Wg Z Z (aw Z cB Z)<|Wg Z Z (ae (p:=kC.is ((rq r).1)) Z (ag 0 Z) (am (am (aD Li))) af Z)<|Wg Z Z (aB db (aj Z (aL (hr.a.sm (by decide))) ar) (c9 ((rq r).1)))<|Wg Z Z (aX Z Z)<|Ws (cb Z Z)<|Wn ?_
     refine CN Z (by omega) fun h_t40=>?_
     refine Ck<|ab<|Cr<|Ws (aw Z c7 Z)<|Ws (ae (p:=kGso.is (gDs (G) n,gLs (G) n)) Z (ag 0 Z) (aD Li) bl Z)<|Ws (aB fn68 (aj Z (ah (y:=(gDs G n,gLs G n)) (by rfl)) (aj Z (ah (y:=(0:Int)) (by rfl)) ar)) (gA G n 2300000 hP.n0 hP.n12 hP.p hP.d (by decide) 0 (by omega) hP.s))<|Wm Z<|Ws (aP Z Z)<|Ws (aP Z Z)<|Ax (l:=kRC) (u:=rq (frS G 0)) ba Z ai (fun _=>Z) Lr fun b2=>Wa Z<|Wr<|Wm Z<|Ws (bG Z Z)<|Wn ?_
     refine CN Z (fun h=>h Z) fun h_t48=>?_
     refine Ck<|ab<|Cr<|Ws (aw Z eg Z)<|Ws (ae (p:=(kSl kRC).is (tcL c n)) Z (ag 1 Z) (am (aD Li)) bN Z)<|Ws (aJ Z U26)<|Wm Z<|Wn<|aF<|tl 51 Z (y:=(n:Int)) (by rw [hTl])<|bg (bm [1] (by decide) Z)<|bJ (fun (i:Nat)=>i≤n) (fun (i:Nat)=>[(1,VP.pt b1 0),(50,(kSl kRC).is (tcL c n)),(51,kN6.is (n:Int)),(52,kN6.is (i:Int))]) (fun (i:Nat)=>[OB.box b1 33 kTre ((gDs (G) n,gLs (G) n),tcL c n,(rq r))]) (fun (i:Nat)=>n-i) 0 (Nat.zero_le _) (ac Z (ac Z (ac Z (az Z (ah (y:=(0:Int)) (by rfl)) aq)))) (aG _) ?_
     intro i hi
     refine Cr<|Ws (aX Z Z)<|Wn<|ab ?_
     refine aM Z (fun h_t53=>?_)<|fun h_t53=>?_
     ·
      refine Ck<|ab<|aF<|Cr<|Ws (aU i Z Z U26 ai Z (v:=(rq (c i))) (fP (by omega)))<|Ws (aO Z ai)<|Ax (l:=kRC) (u:=(rq (c i))) ba Z ai (fun _=>Z) Lr fun b3=>Wr<|Ws (aw Z bW Z)<|Ws (ae Z (ag 0 Z) (am Li) af Z)<|Ws (aB db (aj Z (aL ((hP.c i (by omega)).b.sm (by decide))) ar) (c9 ((rq (c i)).2)))<|Ws (dL Z Z)<|Wn ?_
      refine CN Z (by have h1:=rq_den_pos (c i);have:=Int.sign_eq_one_of_pos h1;omega) fun h_t59=>?_
      refine cx<|Qb<|ak<|Ws (aR Z Z (c:=((i:Int)+1)) (aH (by omega)))<|Wm Z<|au<|bg (bm [1] (by decide) Z) ?_
      exact bE (i+1) (by omega) (by omega) (ac Z (ac Z (ac Z (az Z (ah (y:=(((i+1):Nat):Int)) (by rfl)) aq))))<|aG _
     ·
      refine Ex<|Cr<|Wa Z<|Wn<|aA ?_
      exact Qd Z (aI Z ay) ⟨Z,Z⟩
  ·
   refine Kf Z Z<|Kf Z Z<|Kf Z Z<|Kf Z Z<|Kf Z Z<|Wg Z Z (cb Z Z)<|Ws (cb Z Z)<|Wm Z<|Wg Z Z (aw Z eO Z)<|Wg Z Z (aw Z bW Z)<|Wg Z Z (ae (p:=kC.is ((rq r).2)) Z (ag 0 Z) (am (am (am Li))) af Z)<|Wg Z Z (aB db (aj Z (aL (hr.b.sm (by decide))) ar) (c9 ((rq r).2)))<|Wg Z Z (dL Z Z)<|Ws (cb Z Z)<|Wm Z ?_
   refine cG 34 Z (fun h_t34=>?_)<|fun h_t34=>?_
   ·
    refine Kt Z Z<|Kt Z Z<|Kt Z Z<|Kt Z Z<|Kt Z Z<|Ws (cE Z Z)<|Wn<|fi Z<|Cr<|Wa Z<|Wn<|aA<|a6 ?_
    exact Qd Z (du Z (ah (y:=0) (by omega)) ay) ⟨Z,Z⟩
   ·
    refine Wg Z Z (aw Z eO Z)<|Wg Z Z (aw Z cB Z)<|Wg Z Z (ae (p:=kC.is ((rq r).1)) Z (ag 0 Z) (am (am (aD Li))) af Z)<|Wg Z Z (aB db (aj Z (aL (hr.a.sm (by decide))) ar) (c9 ((rq r).1)))<|Wg Z Z (aX Z Z)<|Ws (cb Z Z)<|Wn ?_
    refine CN Z (by omega) fun h_t40=>?_
    refine Ck<|ab<|Cr<|Ws (aw Z c7 Z)<|Ws (ae (p:=kGso.is (gDs (G) n,gLs (G) n)) Z (ag 0 Z) (aD Li) bl Z)<|Ws (aB fn68 (aj Z (ah (y:=(gDs G n,gLs G n)) (by rfl)) (aj Z (ah (y:=(0:Int)) (by rfl)) ar)) (gA G n 2300000 hP.n0 hP.n12 hP.p hP.d (by decide) 0 (by omega) hP.s))<|Wm Z<|Ws (aP Z Z)<|Ws (aP Z Z)<|Ax (l:=kRC) (u:=rq (frS G 0)) ba Z ai (fun _=>Z) Lr fun b4=>Wa Z<|Wr<|Wm Z<|Ws (bG Z Z)<|Wn ?_
    refine CN Z (fun h=>h Z) fun h_t48=>?_
    refine Ck<|ab<|Cr<|Ws (aw Z eg Z)<|Ws (ae (p:=(kSl kRC).is (tcL c n)) Z (ag 1 Z) (am (aD Li)) bN Z)<|Ws (aJ Z U26)<|Wm Z<|Wn<|aF<|tl 51 Z (y:=(n:Int)) (by rw [hTl])<|bg (bm [1] (by decide) Z)<|bJ (fun (i:Nat)=>i≤n) (fun (i:Nat)=>[(1,VP.pt b1 0),(50,(kSl kRC).is (tcL c n)),(51,kN6.is (n:Int)),(52,kN6.is (i:Int))]) (fun (i:Nat)=>[OB.box b1 33 kTre ((gDs (G) n,gLs (G) n),tcL c n,(rq r))]) (fun (i:Nat)=>n-i) 0 (Nat.zero_le _) (ac Z (ac Z (ac Z (az Z (ah (y:=(0:Int)) (by rfl)) aq)))) (aG _) ?_
    intro i hi
    refine Cr<|Ws (aX Z Z)<|Wn<|ab ?_
    refine aM Z (fun h_t53=>?_)<|fun h_t53=>?_
    ·
     refine Ck<|ab<|aF<|Cr<|Ws (aU i Z Z U26 ai Z (v:=(rq (c i))) (fP (by omega)))<|Ws (aO Z ai)<|Ax (l:=kRC) (u:=(rq (c i))) ba Z ai (fun _=>Z) Lr fun b5=>Wr<|Ws (aw Z bW Z)<|Ws (ae Z (ag 0 Z) (am Li) af Z)<|Ws (aB db (aj Z (aL ((hP.c i (by omega)).b.sm (by decide))) ar) (c9 ((rq (c i)).2)))<|Ws (dL Z Z)<|Wn ?_
     refine CN Z (by have h1:=rq_den_pos (c i);have:=Int.sign_eq_one_of_pos h1;omega) fun h_t59=>?_
     refine cx<|Qb<|ak<|Ws (aR Z Z (c:=((i:Int)+1)) (aH (by omega)))<|Wm Z<|au<|bg (bm [1] (by decide) Z) ?_
     exact bE (i+1) (by omega) (by omega) (ac Z (ac Z (ac Z (az Z (ah (y:=(((i+1):Nat):Int)) (by rfl)) aq))))<|aG _
    ·
     refine Ex<|Cr<|Wa Z<|Wn<|aA ?_
     exact Qd Z (aI Z ay) ⟨Z,Z⟩
theorem c_tree_aim (G:Nat→Nat→Int) (n:Nat) (c:Nat→Rat) (r:Rat) (hP:TZ G n c) (hr:RZ 21000000000 r) (hr0:0≤(rq r).1) (i:Nat) (hi:i<n):Fn Tryz.prog 265 [kTre.is ((gDs (G) n,gLs (G) n),tcL c n,(rq r)),kN6.is (i:Int)] (kRC.is (rq (c i))):=by
 refine aN Tryz.func265 Z Z fun m w=>?_
 have hn0:=hP.n0
 have hn12:=hP.n12
 have hTl:=tcL_len c n
 have hLl:=gLs_len G n
 refine Cr<|aZ .n Z fun b1=>aW .n ba fun b2=>Wn<|ab<|Cr<|Ws (aw Z eg Z)<|Ws (ae (p:=(kSl kRC).is (tcL c n)) Z (ag 1 Z) (am (aD Li)) bN Z)<|Ws (aJ Z U26)<|Ws (cq Z Z)<|Wn ?_
 refine CN Z (by omega) fun h_t8=>?_
 refine Ck<|Cr<|Ws (aw Z eg Z)<|Ws (ae (p:=(kSl kRC).is (tcL c n)) Z (ag 1 Z) (am (aD Li)) bN Z)<|Wm Z<|Ws (aU i Z Z U26 ai Z (v:=(rq (c i))) (fP (by omega)))<|Ws (aO Z ai)<|aE .n (aC (l:=kRC) (u:=(rq (c i))) 0 Z Z Z ai Z Lr)<|Wn<|aA ?_
 exact Qd Z (aY Z (ag 0 Z) ai ay) ⟨Z,Z⟩
abbrev gx:=@c_tree_aim
theorem c_tree_centre (G:Nat→Nat→Int) (n:Nat) (c:Nat→Rat) (r:Rat) (hP:TZ G n c) (hr:RZ 21000000000 r) (hr0:0≤(rq r).1) (s:List Int) (hs:SzL 30000000 s) (hl:s.length<n):Fn Tryz.prog 237 [kTre.is ((gDs (G) n,gLs (G) n),tcL c n,(rq r)),kVC.is s] (kRC.is (rq (cenQ G n c (sfx s) (n-1-s.length) s.length))):=by
 refine aN Tryz.func237 Z Z fun m w=>?_
 have hn0:=hP.n0
 have hn12:=hP.n12
 have hTl:=tcL_len c n
 have hLl:=gLs_len G n
 refine Cr<|aZ .n Z fun b1=>aW .n ba fun b2=>Wr<|Ws (aw Z c7 Z)<|Ws (aw Z ct Z)<|Ws (ae (p:=kMC.is (gLs (G) n)) Z (ag 1 Z) (aD (am Li)) bf Z)<|Ws (aJ Z U22)<|Wa Z<|Wn<|ab<|tl 5 Z (y:=(n:Int)) (by rw [hLl])<|ak<|Wm Z<|Ws (bj Z Z (c:=((n:Int)-1)) (aH (by omega)))<|Wm Z<|Ws (aJ Z U23)<|Ws (bj Z Z (c:=(((n:Int)-1)-(s.length:Int))) (aH (by omega)))<|Wa Z ?_
 refine Wn<|ab<|tl 6 Z (y:=((n-1-s.length:Nat):Int)) (by omega)<|ak<|Ws (ae (p:=kTre.is ((gDs (G) n,gLs (G) n),tcL c n,(rq r))) Z (ag 1 Z) Li cL Z)<|Wm Z<|Ws (aB fn265 (aS Z (aj Z (ah (y:=(((n-1-s.length):Nat):Int)) (by rfl)) ar)) (gx G n c r hP hr hr0 (n-1-s.length) (by omega)))<|Ws (aB eG (aj Z (cP (by omega)) ar) (ew 0))<|Ws (aB eH (aj Z (aL (Sm_lit (by decide))) ar) (ez 0))<|Ws (aB fn135 (aS Z (aj Z (ah (y:=rq ((0:Int):Rat)) (by rfl)) ar)) (gE 28000000 (c (n-1-s.length)) ((0:Int):Rat) (hP.c _ (by omega)) (RZ0.up (by decide)) (by decide)))<|Wm Z<|Ws (aP Z Z)<|Ws (aP Z Z)<|Ax (l:=kRC) (u:=rq ((c (n-1-s.length))+((0:Int):Rat))) ba Z ai (fun _=>Z) Lr fun b3=>Wa Z<|Wn<|ab<|Cr<|Wm Z<|Ws (aJ Z U23) ?_
 refine Wm Z<|Wn<|aF<|tb 0 Z (y:=(rq (cenQ G n c (sfx s) (n-1-s.length) 0))) (by rw [cen_0 G n c (sfx s)])<|bJ (fun (k:Nat)=>k≤s.length) (fun (k:Nat)=>[(1,kVC.is s),(2,VP.pt b1 0),(4,VP.pt b2 0),(5,kN6.is (n:Int)),(6,kN6.is ((n-1-s.length:Nat):Int)),(7,VP.pt b3 0),(34,kN6.is (s.length:Int)),(35,kN6.is (k:Int))]) (fun (k:Nat)=>[OB.box b3 31 kRC (rq (cenQ G n c (sfx s) (n-1-s.length) k)),OB.box b2 31 kRC (0,0),OB.box b1 33 kTre ((gDs (G) n,gLs (G) n),tcL c n,(rq r))]) (fun (k:Nat)=>s.length-k) 0 (Nat.zero_le _) (ao Z Z Z Z (ac Z (ac Z (ac Z (az Z (ah (y:=(0:Int)) (by rfl)) aq))))) (aG _) ?_
 intro k hk
 refine Cr<|Ws (aX Z Z)<|Wn<|ab ?_
 refine aM Z (fun h_t36=>?_)<|fun h_t36=>?_
 ·
  refine Ck<|ab<|aF<|Cr<|Wm Z<|Wa Z<|Wr<|Wm Z<|Ws (bj Z Z (c:=((n:Int)-1)) (aH (by omega)))<|Wm Z<|Ws (bj Z Z (c:=(((n:Int)-1)-(k:Int))) (aH (by omega)))<|Wa Z<|Wn<|ab<|tl 10 Z (y:=((n-1-k:Nat):Int)) (by omega) ?_
  refine a5 (Γ:=[.fr (kVC.is s),.fr (kN6.is (k:Int)),.fr (VP.pim kC (s.getD k 0)),.fr (kC.is (s.getD k 0)),.fr (kRC.is (rq ((s.getD k 0):Rat))),.fr (kTre.is ((gDs (G) n,gLs (G) n),tcL c n,(rq r))),.fr (kN6.is ((n-1-k:Nat):Int)),.fr (kRC.is (rq (c (n-1-k)))),.fr (VP.tup [kRC.is (rq (((s.getD k 0:Int):Rat)-rv (((rq (c (n-1-k))).1),((rq (c (n-1-k))).2)))),kN6.is 0]),.fr (VP.tup [kRC.is (rq (((s.getD k 0:Int):Rat)-rv (((rq (c (n-1-k))).1),((rq (c (n-1-k))).2)))),kN6.is 0]),.fr (kRC.is (rq (((s.getD k 0:Int):Rat)-rv (((rq (c (n-1-k))).1),((rq (c (n-1-k))).2))))),.lt (kN6.is 0),.al (fun b=>OB.box b 31 kRC (0,0))]) (om Z Z (om Z Z (aa Z (fun N=>aU k Z Z U23 af Z (v:=(s.getD k 0)) (gd 0 (by omega))) (aa Z (fun N=>aO Z af) (aa Z (fun N=>aB eH (aj Z (aL ((hs k).sm (by decide))) ar) (ez (s.getD k 0))) (aa Z (fun N=>ae (p:=kTre.is ((gDs (G) n,gLs (G) n),tcL c n,(rq r))) Z (mN N 2 Z) Li cL Z) (om Z Z (aa Z (fun N=>aB fn265 (aS Z (aj Z (ah (y:=(((n-1-k):Nat):Int)) (by rfl)) ar)) (gx G n c r hP hr hr0 (n-1-k) (by omega))) (aa Z (fun N=>aB fn194 (aj Z (ah (y:=rq ((s.getD k 0:Int):Rat)) (by rfl)) (aj Z (d9 (eZ ((hP.c (n-1-k) (by omega)).a.sm (by decide)) ((hP.c (n-1-k) (by omega)).b.sm (by decide))) (ah (by rfl))) ar)) (fE 30000001 ((s.getD k 0:Int):Rat) ((rq (c (n-1-k))).1) ((rq (c (n-1-k))).2) (cX hs k) (((hP.c (n-1-k) (by omega)).up (by decide)).a) (((hP.c (n-1-k) (by omega)).up (by decide)).b) (eS _) (by decide))) (om Z Z (aa Z (fun N=>aP Z Z) (oc (dc Z .n (dw Z Z)) (oc (cR Z ba) oz)))))))))))))<|fun σ1=>?_
  refine aE .n (aC (l:=kRC) (u:=rq (((s.getD k 0:Int):Rat)-rv (((rq (c (n-1-k))).1),((rq (c (n-1-k))).2)))) 0 Z Z Z ai Z Lr)<|Wa Z<|Wr<|Ws (aw Z c7 Z)<|Ws (ae (p:=kGso.is (gDs (G) n,gLs (G) n)) Z (ag 3 Z) (aD Li) bl Z)<|Wm Z<|Wm Z<|Ws (aB fn143 (aj Z (ah (y:=(gDs G n,gLs G n)) (by rfl)) (aj Z (ah (y:=(((n-1-k):Nat):Int)) (by rfl)) (aj Z (ah (y:=(((n-1-s.length):Nat):Int)) (by rfl)) ar))) (c_gso_Mu G n 2300000 hP.n0 hP.n12 hP.p hP.d (by decide) (n-1-k) (n-1-s.length) (by omega) (by omega) hP.s hP.l))<|Wm Z<|Ws (aP Z Z)<|Ws (aP Z Z)<|Ax (l:=kRC) (u:=rq (frM G (n-1-k) (n-1-s.length))) ba Z ai (fun _=>Z) Lr fun b4=>Wa Z<|Wn<|ab<|tb 1 Z (y:=(rq (sfx s k-c (n-1-k)))) (by rw [sub_rv];rfl)<|ak<|Ws (ae Z (ag 1 Z) Li ai Z)<|Ws (ae Z (ag 0 Z) Li ai Z) ?_
  refine Ws (f2 fn221 Z Z (gb 58000002 (sfx s k-c (n-1-k)) (frM G (n-1-k) (n-1-s.length)) ((cX hs k).sub2 (hP.c (n-1-k) (by omega))) ((hP.m (n-1-k) (n-1-s.length) (by omega) (by omega)).up (by decide)) (by decide)))<|Wm Z<|Ws (aP Z Z)<|Ws (aP Z Z)<|aE .n (aC (l:=kRC) (u:=rq ((sfx s k-c (n-1-k))*(frM G (n-1-k) (n-1-s.length)))) 1 Z Z Z ai Z Lr)<|Wn<|ak<|Ws (ae Z (ag 2 Z) Li ai Z)<|Ws (ae Z (ag 1 Z) Li ai Z)<|Ws (aB fn194 (aS Z (aj Z (d9 (eZ (((((cX hs k).sub2 (hP.c (n-1-k) (by omega))).mul (hP.m (n-1-k) (n-1-s.length) (by omega) (by omega))).a.sm (by decide))) (((((cX hs k).sub2 (hP.c (n-1-k) (by omega))).mul (hP.m (n-1-k) (n-1-s.length) (by omega) (by omega))).b.sm (by decide)))) (ah (by rfl))) ar)) (fE 800000000 (cenQ G n c (sfx s) (n-1-s.length) k) ((rq ((sfx s k-c (n-1-k))*frM G (n-1-k) (n-1-s.length))).1) ((rq ((sfx s k-c (n-1-k))*frM G (n-1-k) (n-1-s.length))).2) (hP.cen (fun t _=>cX hs t) (by omega)) (((((cX hs k).sub2 (hP.c (n-1-k) (by omega))).mul (hP.m (n-1-k) (n-1-s.length) (by omega) (by omega))).up (by decide)).a) (((((cX hs k).sub2 (hP.c (n-1-k) (by omega))).mul (hP.m (n-1-k) (n-1-s.length) (by omega) (by omega))).up (by decide)).b) (eS _) (by decide)))<|Wm Z<|Ws (aP Z Z)<|Ws (aP Z Z)<|aE .n (aC (l:=kRC) (u:=rq ((cenQ G n c (sfx s) (n-1-s.length) k)-rv (((rq ((sfx s k-c (n-1-k))*frM G (n-1-k) (n-1-s.length))).1),((rq ((sfx s k-c (n-1-k))*frM G (n-1-k) (n-1-s.length))).2)))) 2 Z Z Z ai Z Lr)<|au<|Qb<|ak<|Ws (aR Z Z (c:=((k:Int)+1)) (aH (by omega)))<|Wm Z<|au<|bg (bm [2,3,4] (by decide) Z)<|tb 0 Z (y:=(rq (cenQ G n c (sfx s) (n-1-s.length) (k+1)))) (by rw [sub_rv,cen_s]) ?_
  exact bE (k+1) (by omega) (by omega) (ao Z Z Z Z (ac Z (ac Z (ac Z (az Z (ah (y:=(((k+1):Nat):Int)) (by rfl)) aq)))))<|aG _
 ·
  refine Ex<|Cr<|Ws (ae Z (ag 0 Z) Li ai Z)<|aE .n (aC (l:=kRC) (u:=(rq (cenQ G n c (sfx s) (n-1-s.length) k))) 1 Z Z Z ai Z Lr)<|Wn<|aA<|tb 1 Z (y:=(rq (cenQ G n c (sfx s) (n-1-s.length) s.length))) (by rw [show k=s.length by omega]) ?_
  exact Qd Z (aY Z (ag 1 Z) ai ay) ⟨Z,Z⟩
theorem c_tree_centreo (vs:Value) (G:Nat→Nat→Int) (n:Nat) (c:Nat→Rat) (r:Rat) (hP:TZ G n c) (hr:RZ 21000000000 r) (hr0:0≤(rq r).1) (s:List Int) (hs:SzL 30000000 s) (hl:s.length<n):Con Tryz.prog 237 [kTre.is ((gDs (G) n,gLs (G) n),tcL c n,(rq r)),VP.ex vs] [OB.row vs 29 kC s] (fun p Lo=>p=kRC.is (rq (cenQ G n c (sfx s) (n-1-s.length) s.length))∧Lo=[OB.row vs 29 kC s]∧True):=by
 refine aN Tryz.func237 Z Z fun m w=>?_
 have hn0:=hP.n0
 have hn12:=hP.n12
 have hTl:=tcL_len c n
 have hLl:=gLs_len G n
 refine Cr<|aZ .n Z fun b1=>aW .n ba fun b2=>Wr<|Ws (aw Z c7 Z)<|Ws (aw Z ct Z)<|Ws (ae (p:=kMC.is (gLs (G) n)) Z (ag 1 Z) (aD (am Li)) bf Z)<|Ws (aJ Z U22)<|Wa Z<|Wn<|ab<|tl 5 Z (y:=(n:Int)) (by rw [hLl])<|ak<|Wm Z<|Ws (bj Z Z (c:=((n:Int)-1)) (aH (by omega)))<|Wm Z<|Ws (de Z (ag 2 Z) U23)<|Ws (bj Z Z (c:=(((n:Int)-1)-(s.length:Int))) (aH (by omega)))<|Wa Z ?_
 refine Wn<|ab<|tl 6 Z (y:=((n-1-s.length:Nat):Int)) (by omega)<|ak<|Ws (ae (p:=kTre.is ((gDs (G) n,gLs (G) n),tcL c n,(rq r))) Z (ag 1 Z) Li cL Z)<|Wm Z<|Ws (aB fn265 (aS Z (aj Z (ah (y:=(((n-1-s.length):Nat):Int)) (by rfl)) ar)) (gx G n c r hP hr hr0 (n-1-s.length) (by omega)))<|Ws (aB eG (aj Z (cP (by omega)) ar) (ew 0))<|Ws (aB eH (aj Z (aL (Sm_lit (by decide))) ar) (ez 0))<|Ws (aB fn135 (aS Z (aj Z (ah (y:=rq ((0:Int):Rat)) (by rfl)) ar)) (gE 28000000 (c (n-1-s.length)) ((0:Int):Rat) (hP.c _ (by omega)) (RZ0.up (by decide)) (by decide)))<|Wm Z<|Ws (aP Z Z)<|Ws (aP Z Z)<|Ax (l:=kRC) (u:=rq ((c (n-1-s.length))+((0:Int):Rat))) ba Z ai (fun _=>Z) Lr fun b3=>Wa Z<|Wn<|ab<|Cr<|Wm Z<|Ws (de Z (ag 3 Z) U23) ?_
 refine Wm Z<|Wn<|aF<|tb 0 Z (y:=(rq (cenQ G n c (sfx s) (n-1-s.length) 0))) (by rw [cen_0 G n c (sfx s)])<|bJ (fun (k:Nat)=>k≤s.length) (fun (k:Nat)=>[(1,VP.ex vs),(2,VP.pt b1 0),(4,VP.pt b2 0),(5,kN6.is (n:Int)),(6,kN6.is ((n-1-s.length:Nat):Int)),(7,VP.pt b3 0),(34,kN6.is (s.length:Int)),(35,kN6.is (k:Int))]) (fun (k:Nat)=>[OB.box b3 31 kRC (rq (cenQ G n c (sfx s) (n-1-s.length) k)),OB.box b2 31 kRC (0,0),OB.box b1 33 kTre ((gDs (G) n,gLs (G) n),tcL c n,(rq r)),OB.row vs 29 kC s]) (fun (k:Nat)=>s.length-k) 0 (Nat.zero_le _) (ao Z Z Z Z (ac Z (ac Z (ac Z (az Z (ah (y:=(0:Int)) (by rfl)) aq))))) (aG _) ?_
 intro k hk
 refine Cr<|Ws (aX Z Z)<|Wn<|ab ?_
 refine aM Z (fun h_t36=>?_)<|fun h_t36=>?_
 ·
  refine Ck<|ab<|aF<|Cr<|Wm Z<|Wa Z<|Wr<|Wm Z<|Ws (bj Z Z (c:=((n:Int)-1)) (aH (by omega)))<|Wm Z<|Ws (bj Z Z (c:=(((n:Int)-1)-(k:Int))) (aH (by omega)))<|Wa Z<|Wn<|ab<|tl 10 Z (y:=((n-1-k:Nat):Int)) (by omega) ?_
  refine a5 (Γ:=[.fr (VP.ex vs),.fr (kN6.is (k:Int)),.fr (VP.pel vs (k*2)),.fr (kC.is (s.getD k 0)),.fr (kRC.is (rq ((s.getD k 0):Rat))),.fr (kTre.is ((gDs (G) n,gLs (G) n),tcL c n,(rq r))),.fr (kN6.is ((n-1-k:Nat):Int)),.fr (kRC.is (rq (c (n-1-k)))),.fr (VP.tup [kRC.is (rq (((s.getD k 0:Int):Rat)-rv (((rq (c (n-1-k))).1),((rq (c (n-1-k))).2)))),kN6.is 0]),.fr (VP.tup [kRC.is (rq (((s.getD k 0:Int):Rat)-rv (((rq (c (n-1-k))).1),((rq (c (n-1-k))).2)))),kN6.is 0]),.fr (kRC.is (rq (((s.getD k 0:Int):Rat)-rv (((rq (c (n-1-k))).1),((rq (c (n-1-k))).2))))),.lt (kN6.is 0),.al (fun b=>OB.box b 31 kRC (0,0))]) (om Z Z (om Z Z (aa Z (fun N=>bb (k:=kC) (xs:=s) (n:=(k:Int)) k Z Z (mN N 3 Z) U23 af Z (by omega)) (aa Z (fun N=>bp k Z (mN N 3 Z) Li Z (y:=(s.getD k 0)) (gd 0 (by omega)) af Z) (aa Z (fun N=>aB eH (aj Z (aL ((hs k).sm (by decide))) ar) (ez (s.getD k 0))) (aa Z (fun N=>ae (p:=kTre.is ((gDs (G) n,gLs (G) n),tcL c n,(rq r))) Z (mN N 2 Z) Li cL Z) (om Z Z (aa Z (fun N=>aB fn265 (aS Z (aj Z (ah (y:=(((n-1-k):Nat):Int)) (by rfl)) ar)) (gx G n c r hP hr hr0 (n-1-k) (by omega))) (aa Z (fun N=>aB fn194 (aj Z (ah (y:=rq ((s.getD k 0:Int):Rat)) (by rfl)) (aj Z (d9 (eZ ((hP.c (n-1-k) (by omega)).a.sm (by decide)) ((hP.c (n-1-k) (by omega)).b.sm (by decide))) (ah (by rfl))) ar)) (fE 30000001 ((s.getD k 0:Int):Rat) ((rq (c (n-1-k))).1) ((rq (c (n-1-k))).2) (cX hs k) (((hP.c (n-1-k) (by omega)).up (by decide)).a) (((hP.c (n-1-k) (by omega)).up (by decide)).b) (eS _) (by decide))) (om Z Z (aa Z (fun N=>aP Z Z) (oc (dc Z .n (dw Z Z)) (oc (cR Z ba) oz)))))))))))))<|fun σ1=>?_
  refine aE .n (aC (l:=kRC) (u:=rq (((s.getD k 0:Int):Rat)-rv (((rq (c (n-1-k))).1),((rq (c (n-1-k))).2)))) 0 Z Z Z ai Z Lr)<|Wa Z<|Wr<|Ws (aw Z c7 Z)<|Ws (ae (p:=kGso.is (gDs (G) n,gLs (G) n)) Z (ag 3 Z) (aD Li) bl Z)<|Wm Z<|Wm Z<|Ws (aB fn143 (aj Z (ah (y:=(gDs G n,gLs G n)) (by rfl)) (aj Z (ah (y:=(((n-1-k):Nat):Int)) (by rfl)) (aj Z (ah (y:=(((n-1-s.length):Nat):Int)) (by rfl)) ar))) (c_gso_Mu G n 2300000 hP.n0 hP.n12 hP.p hP.d (by decide) (n-1-k) (n-1-s.length) (by omega) (by omega) hP.s hP.l))<|Wm Z<|Ws (aP Z Z)<|Ws (aP Z Z)<|Ax (l:=kRC) (u:=rq (frM G (n-1-k) (n-1-s.length))) ba Z ai (fun _=>Z) Lr fun b4=>Wa Z<|Wn<|ab<|tb 1 Z (y:=(rq (sfx s k-c (n-1-k)))) (by rw [sub_rv];rfl)<|ak<|Ws (ae Z (ag 1 Z) Li ai Z)<|Ws (ae Z (ag 0 Z) Li ai Z) ?_
  refine Ws (f2 fn221 Z Z (gb 58000002 (sfx s k-c (n-1-k)) (frM G (n-1-k) (n-1-s.length)) ((cX hs k).sub2 (hP.c (n-1-k) (by omega))) ((hP.m (n-1-k) (n-1-s.length) (by omega) (by omega)).up (by decide)) (by decide)))<|Wm Z<|Ws (aP Z Z)<|Ws (aP Z Z)<|aE .n (aC (l:=kRC) (u:=rq ((sfx s k-c (n-1-k))*(frM G (n-1-k) (n-1-s.length)))) 1 Z Z Z ai Z Lr)<|Wn<|ak<|Ws (ae Z (ag 2 Z) Li ai Z)<|Ws (ae Z (ag 1 Z) Li ai Z)<|Ws (aB fn194 (aS Z (aj Z (d9 (eZ (((((cX hs k).sub2 (hP.c (n-1-k) (by omega))).mul (hP.m (n-1-k) (n-1-s.length) (by omega) (by omega))).a.sm (by decide))) (((((cX hs k).sub2 (hP.c (n-1-k) (by omega))).mul (hP.m (n-1-k) (n-1-s.length) (by omega) (by omega))).b.sm (by decide)))) (ah (by rfl))) ar)) (fE 800000000 (cenQ G n c (sfx s) (n-1-s.length) k) ((rq ((sfx s k-c (n-1-k))*frM G (n-1-k) (n-1-s.length))).1) ((rq ((sfx s k-c (n-1-k))*frM G (n-1-k) (n-1-s.length))).2) (hP.cen (fun t _=>cX hs t) (by omega)) (((((cX hs k).sub2 (hP.c (n-1-k) (by omega))).mul (hP.m (n-1-k) (n-1-s.length) (by omega) (by omega))).up (by decide)).a) (((((cX hs k).sub2 (hP.c (n-1-k) (by omega))).mul (hP.m (n-1-k) (n-1-s.length) (by omega) (by omega))).up (by decide)).b) (eS _) (by decide)))<|Wm Z<|Ws (aP Z Z)<|Ws (aP Z Z)<|aE .n (aC (l:=kRC) (u:=rq ((cenQ G n c (sfx s) (n-1-s.length) k)-rv (((rq ((sfx s k-c (n-1-k))*frM G (n-1-k) (n-1-s.length))).1),((rq ((sfx s k-c (n-1-k))*frM G (n-1-k) (n-1-s.length))).2)))) 2 Z Z Z ai Z Lr)<|au<|Qb<|ak<|Ws (aR Z Z (c:=((k:Int)+1)) (aH (by omega)))<|Wm Z<|au<|bg (bm [2,3,4,5] (by decide) Z)<|tb 0 Z (y:=(rq (cenQ G n c (sfx s) (n-1-s.length) (k+1)))) (by rw [sub_rv,cen_s]) ?_
  exact bE (k+1) (by omega) (by omega) (ao Z Z Z Z (ac Z (ac Z (ac Z (az Z (ah (y:=(((k+1):Nat):Int)) (by rfl)) aq)))))<|aG _
 ·
  refine Ex<|Cr<|Ws (ae Z (ag 0 Z) Li ai Z)<|aE .n (aC (l:=kRC) (u:=(rq (cenQ G n c (sfx s) (n-1-s.length) k))) 1 Z Z Z ai Z Lr)<|Wn<|aA<|tb 1 Z (y:=(rq (cenQ G n c (sfx s) (n-1-s.length) s.length))) (by rw [show k=s.length by omega]) ?_
  exact cg (.inl Z) Z (aY Z (ag 1 Z) ai ay) (a9 (OS.skip (OS.skip (OS.skip (OS.keep OS.nil))))) ⟨Z,Z,trivial⟩
theorem c_tree_grown (G:Nat→Nat→Int) (n:Nat) (c:Nat→Rat) (r:Rat) (hP:TZ G n c) (hr:RZ 21000000000 r) (hr0:0≤(rq r).1) (pt cc:Rat) (k:Nat) (x:Int) (hp:RZ 21000000000 pt) (hc:RZ 800000000 cc) (hx:Sz 30000000 x) (hk:k<n):Fn Tryz.prog 263 [kTre.is ((gDs (G) n,gLs (G) n),tcL c n,(rq r)),kRC.is (rq pt),kRC.is (rq cc),kN6.is (k:Int),kC.is x] (kRC.is (rq (pt+((x:Rat)-cc)*((x:Rat)-cc)*frS G (n-1-k)))):=by
 refine aN Tryz.func263 Z Z fun m w=>?_
 have hn0:=hP.n0
 have hn12:=hP.n12
 have hTl:=tcL_len c n
 have hLl:=gLs_len G n
 have hxq:RZ 30000001 (x:Rat):=RZ.int (hx.up (by decide))
 have hd:=hxq.sub2 hc
 refine Cr<|aZ .n Z fun b1=>aZ .n Z fun b2=>aZ .n Z fun b3=>aZ .n Z fun b4=>aW .n ba fun b5=>Wn<|ab ?_
 refine a5 (Γ:=[.fr (kC.is x),.fr (kRC.is (rq (x:Rat))),.fr (kRC.is (rq cc)),.fr (VP.tup [kRC.is (rq ((x:Rat)-rv (((rq cc).1),((rq cc).2)))),kN6.is 0]),.fr (VP.tup [kRC.is (rq ((x:Rat)-rv (((rq cc).1),((rq cc).2)))),kN6.is 0]),.fr (kRC.is (rq ((x:Rat)-rv (((rq cc).1),((rq cc).2))))),.lt (kN6.is 0),.al (fun b=>OB.box b 31 kRC (0,0))]) (aa Z (fun N=>ae Z (mN N 1 Z) Li af Z) (aa Z (fun N=>aB eH (aj Z (aL (hx.sm (by decide))) ar) (ez x)) (aa Z (fun N=>ae Z (mN N 2 Z) Li ai Z) (aa Z (fun N=>aB fn194 (aS Z (aj Z (d9 (eZ (hc.a.sm (by decide)) (hc.b.sm (by decide))) (ah (by rfl))) ar)) (fE 800000000 (x:Rat) ((rq cc).1) ((rq cc).2) (hxq.up (by decide)) hc.a hc.b (eS _) (by decide))) (om Z Z (aa Z (fun N=>aP Z Z) (oc (dc Z .n (dw Z Z)) (oc (cR Z ba) oz))))))))<|fun σ1=>?_
 refine aE .n (aC (l:=kRC) (u:=rq ((x:Rat)-rv (((rq cc).1),((rq cc).2)))) 0 Z Z Z ai Z Lr)<|Wa Z<|Wn<|ab<|tb 0 Z (y:=(rq ((x:Rat)-cc))) (by rw [sub_rv])<|ak<|Ws (ae Z (ag 0 Z) Li ai Z)<|Ws (ae Z (ag 0 Z) Li ai Z)<|Ws (f2 fn221 Z Z (gb 830000002 ((x:Rat)-cc) ((x:Rat)-cc) hd hd (by decide)))<|Wm Z<|Ws (aP Z Z)<|Ws (aP Z Z)<|aE .n (aC (l:=kRC) (u:=rq (((x:Rat)-cc)*((x:Rat)-cc))) 0 Z Z Z ai Z Lr)<|Wr<|Ws (aw Z c7 Z)<|Ws (ae (p:=kGso.is (gDs (G) n,gLs (G) n)) Z (ag 5 Z) (aD Li) bl Z)<|Ws (aw Z c7 Z)<|Ws (aw Z ct Z)<|Ws (ae (p:=kMC.is (gLs (G) n)) Z (ag 5 Z) (aD (am Li)) bf Z)<|Ws (aJ Z U22) ?_
 refine Ws (bj Z Z (c:=(((gLs (G) n).length:Int)-1)) (aH (by omega)))<|Wm Z<|Ws (bj Z Z (c:=((((gLs (G) n).length:Int)-1)-(k:Int))) (aH (by omega)))<|Ws (aB fn68 (aj Z (ah (y:=(gDs G n,gLs G n)) (by rfl)) (aj Z (ah (y:=(((n-1-k):Nat):Int)) (by omega)) ar)) (gA G n 2300000 hP.n0 hP.n12 hP.p hP.d (by decide) (n-1-k) (by omega) hP.s))<|Wm Z<|Ws (aP Z Z)<|Ws (aP Z Z)<|Ax (l:=kRC) (u:=rq (frS G (n-1-k))) ba Z ai (fun _=>Z) Lr fun b6=>Wa Z<|Wr<|Ws (ae Z (ag 1 Z) Li ai Z)<|Ws (ae Z (ag 0 Z) Li ai Z)<|Ws (f2 fn221 Z Z (gb 1660000004 (((x:Rat)-cc)*((x:Rat)-cc)) (frS G (n-1-k)) (hd.mul hd) ((hP.f (n-1-k) (by omega)).up (by decide)) (by decide)))<|Wm Z<|Ws (aP Z Z)<|Ws (aP Z Z)<|aE .n (aC (l:=kRC) (u:=rq ((((x:Rat)-cc)*((x:Rat)-cc))*(frS G (n-1-k)))) 1 Z Z Z ai Z Lr)<|Wn<|ab ?_
 refine ak<|Ws (ae Z (ag 5 Z) Li ai Z)<|Ws (ae Z (ag 1 Z) Li ai Z)<|Ws (aB fn135 (aS Z (aj Z (ah (y:=rq (((x:Rat)-cc)*((x:Rat)-cc)*frS G (n-1-k))) (by rfl)) ar)) (gE 21000000000 pt (((x:Rat)-cc)*((x:Rat)-cc)*frS G (n-1-k)) hp (((hd.mul hd).mul (hP.f (n-1-k) (by omega))).up (by decide)) (by decide)))<|Wm Z<|Ws (aP Z Z)<|Ws (aP Z Z)<|Ax (l:=kRC) (u:=rq (pt+(((x:Rat)-cc)*((x:Rat)-cc)*frS G (n-1-k)))) ba Z ai (fun _=>Z) Lr fun b7=>Wa Z<|Wr<|Ws (ae Z (ag 0 Z) Li ai Z)<|aE .n (aC (l:=kRC) (u:=rq (pt+(((x:Rat)-cc)*((x:Rat)-cc)*frS G (n-1-k)))) 3 Z Z Z ai Z Lr)<|Wn<|aA ?_
 exact Qd Z (dE Z (ag 3 Z) ai (ah (y:=rq (pt+((x:Rat)-cc)*((x:Rat)-cc)*frS G (n-1-k))) (by rfl)) ay) ⟨Z,Z⟩
theorem c_tree_part (G:Nat→Nat→Int) (n:Nat) (c:Nat→Rat) (r:Rat) (hP:TZ G n c) (hr:RZ 21000000000 r) (hr0:0≤(rq r).1) (s:List Int) (hs:SzL 30000000 s) (hl:s.length≤n):Fn Tryz.prog 233 [kTre.is ((gDs (G) n,gLs (G) n),tcL c n,(rq r)),kVC.is s] (kRC.is (rq (parQ G n c (sfx s) s.length))):=by
 refine aN Tryz.func233 Z Z fun m w=>?_
 have hn0:=hP.n0
 have hn12:=hP.n12
 have hTl:=tcL_len c n
 have hLl:=gLs_len G n
 refine Cr<|aZ .n Z fun b1=>aW .n ba fun b2=>Wr<|Ws (aB eG (aj Z (cP (by omega)) ar) (ew 0))<|Ws (aB eH (aj Z (aL (by exact Sm_lit (by decide))) ar) (ez 0))<|Ax (l:=kRC) (u:=rq (0:Rat)) ba Z ai (fun _=>Z) Lr fun b3=>Wn<|ab<|Cr<|Wm Z<|Ws (aJ Z U23)<|Wm Z<|Wn<|aF<|tb 0 Z (y:=(rq (parQ G n c (sfx s) 0))) Z ?_
 refine bJ (fun (i:Nat)=>i≤s.length) (fun (i:Nat)=>[(1,kVC.is s),(2,VP.pt b1 0),(4,VP.pt b2 0),(5,VP.pt b3 0),(10,kN6.is (s.length:Int)),(11,kN6.is (i:Int))]) (fun (i:Nat)=>[OB.box b3 31 kRC (rq (parQ G n c (sfx s) i)),OB.box b2 31 kRC (0,0),OB.box b1 33 kTre ((gDs (G) n,gLs (G) n),tcL c n,(rq r))]) (fun (i:Nat)=>s.length-i) 0 (Nat.zero_le _) (ao Z Z Z Z (ac Z (az Z (ah (y:=(0:Int)) (by rfl)) aq))) (aG _) ?_
 intro i hi
 refine Cr<|Ws (aX Z Z)<|Wn<|ab ?_
 refine aM Z (fun h_t12=>?_)<|fun h_t12=>?_
 ·
  refine Ck<|ab<|aF<|Cr<|Wm Z<|Wa Z<|Wn ?_
  refine a5 (Γ:=[.fr (kTre.is ((gDs (G) n,gLs (G) n),tcL c n,(rq r))),.fr (kRC.is (rq (parQ G n c (sfx s) i))),.fr (kTre.is ((gDs (G) n,gLs (G) n),tcL c n,(rq r))),.fr (kVC.is s),.fr (kN6.is (i:Int)),.fr (kVC.is (s.take i)),.fr (kRC.is (rq (cenQ G n c (sfx (s.take i)) (n-1-(s.take i).length) (s.take i).length))),.fr (kN6.is (i:Int)),.fr (kVC.is s),.fr (kN6.is (i:Int)),.fr (VP.pim kC (s.getD i 0)),.fr (kC.is (s.getD i 0)),.fr (kRC.is (rq ((parQ G n c (sfx s) i)+(((s.getD i 0):Rat)-(cenQ G n c (sfx (s.take i)) (n-1-(s.take i).length) (s.take i).length))*(((s.getD i 0):Rat)-(cenQ G n c (sfx (s.take i)) (n-1-(s.take i).length) (s.take i).length))*frS G (n-1-i))))]) (aa Z (fun N=>ae (p:=kTre.is ((gDs (G) n,gLs (G) n),tcL c n,(rq r))) Z (mN N 2 Z) Li cL Z) (aa Z (fun N=>ae Z (mN N 0 Z) Li ai Z) (aa Z (fun N=>ae (p:=kTre.is ((gDs (G) n,gLs (G) n),tcL c n,(rq r))) Z (mN N 2 Z) Li cL Z) (om Z Z (om Z Z (aa Z (fun N=>O.slH i Z Z U23 af Z (by omega)) (aa Z (fun N=>f2 fn237 Z Z (c_tree_centre G n c r hP hr hr0 (s.take i) (hs.take i) (by simp;omega))) (om Z Z (om Z Z (om Z Z (aa Z (fun N=>aU i Z Z U23 af Z (v:=(s.getD i 0)) (gd 0 (by omega))) (aa Z (fun N=>aO Z af) (aa Z (fun N=>aB fn263 (aS Z (aS Z (aS Z (aS Z (aS Z ar))))) (c_tree_grown G n c r hP hr hr0 (parQ G n c (sfx s) i) (cenQ G n c (sfx (s.take i)) (n-1-(s.take i).length) (s.take i).length) i (s.getD i 0) (hP.par (fun t _=>cX hs t) (by omega)) (hP.cen (fun t _=>cX (hs.take i) t) (by simp;omega)) (hs i) (by omega))) oz)))))))))))))<|fun σ1=>?_
  refine aE .n (aC (l:=kRC) (u:=rq ((parQ G n c (sfx s) i)+(((s.getD i 0):Rat)-(cenQ G n c (sfx (s.take i)) (n-1-(s.take i).length) (s.take i).length))*(((s.getD i 0):Rat)-(cenQ G n c (sfx (s.take i)) (n-1-(s.take i).length) (s.take i).length))*frS G (n-1-i))) 0 Z Z Z ai Z Lr)<|au<|Qb<|ak<|Ws (aR Z Z (c:=((i:Int)+1)) (aH (by omega)))<|Wm Z<|au<|bg (bm [0,1,2] (by decide) Z)<|tb 0 Z (y:=(rq (parQ G n c (sfx s) (i+1)))) (by rw [par_s (by omega)]) ?_
  exact bE (i+1) (by omega) (by omega) (ao Z Z Z Z (ac Z (az Z (ah (y:=(((i+1):Nat):Int)) (by rfl)) aq)))<|aG _
 ·
  refine Ex<|Cr<|Ws (ae Z (ag 0 Z) Li ai Z)<|aE .n (aC (l:=kRC) (u:=(rq (parQ G n c (sfx s) i))) 1 Z Z Z ai Z Lr)<|Wn<|aA<|tb 1 Z (y:=(rq (parQ G n c (sfx s) s.length))) (by rw [show i=s.length by omega]) ?_
  exact Qd Z (aY Z (ag 1 Z) ai ay) ⟨Z,Z⟩
theorem c_tree_fits (G:Nat→Nat→Int) (n:Nat) (c:Nat→Rat) (r:Rat) (hP:TZ G n c) (hr:RZ 21000000000 r) (hr0:0≤(rq r).1) (s:List Int) (k:Nat) (hk:s.length≤k):Fn Tryz.prog 232 [kTre.is ((gDs (G) n,gLs (G) n),tcL c n,(rq r)),kVC.is s,kN6.is (k:Int)] (kN6.is 0):=by
 refine aN Tryz.func232 Z Z fun m w=>Cr<|aZ .n Z fun b1=>Wa Z<|Wn<|ab<|Cr<|Ws (ae (p:=kTre.is ((gDs (G) n,gLs (G) n),tcL c n,(rq r))) Z (ag 0 Z) Li cL Z)<|Ws (f1 fn262 Z (c_tree_Valid G n c r (by assumption) (by assumption) (by assumption)))<|Wa Z<|Wr<|Wm Z<|Ws (bG Z Z)<|Wn ?_
 refine CN Z (fun h=>h Z) fun h_t11=>?_
 refine Ck<|ab<|Cr<|Wm Z<|Ws (aJ Z U23)<|Wm Z<|Ws (cF Z Z)<|Wn ?_
 refine CN Z (by omega) fun h_t16=>?_
 refine Ck<|Cr<|Wa Z<|Wn<|aA ?_
 exact Qd Z (aI Z ay) ⟨Z,Z⟩
theorem c_tree_fitso (vs:Value) (G:Nat→Nat→Int) (n:Nat) (c:Nat→Rat) (r:Rat) (hP:TZ G n c) (hr:RZ 21000000000 r) (hr0:0≤(rq r).1) (s:List Int) (k:Nat) (hk:s.length≤k):Con Tryz.prog 232 [kTre.is ((gDs (G) n,gLs (G) n),tcL c n,(rq r)),VP.ex vs,kN6.is (k:Int)] [OB.row vs 29 kC s] (fun p Lo=>p=kN6.is 0∧Lo=[OB.row vs 29 kC s]∧True):=by
 refine aN Tryz.func232 Z Z fun m w=>Cr<|aZ .n Z fun b1=>Wa Z<|Wn<|ab<|Cr<|Ws (ae (p:=kTre.is ((gDs (G) n,gLs (G) n),tcL c n,(rq r))) Z (ag 0 Z) Li cL Z)<|Ws (f1 fn262 Z (c_tree_Valid G n c r (by assumption) (by assumption) (by assumption)))<|Wa Z<|Wr<|Wm Z<|Ws (bG Z Z)<|Wn ?_
 refine CN Z (fun h=>h Z) fun h_t11=>?_
 refine Ck<|ab<|Cr<|Wm Z<|Ws (de Z (ag 1 Z) U23)<|Wm Z<|Ws (cF Z Z)<|Wn ?_
 refine CN Z (by omega) fun h_t16=>?_
 refine Ck<|Cr<|Wa Z<|Wn<|aA ?_
 exact cg (.inl Z) Z (aI Z ay) (a9 (OS.skip (OS.keep OS.nil))) ⟨Z,Z,trivial⟩
theorem c_tree_Part (G:Nat→Nat→Int) (n:Nat) (c:Nat→Rat) (r:Rat) (hP:TZ G n c) (hr:RZ 21000000000 r) (hr0:0≤(rq r).1) (s:List Int) (hs:SzL 30000000 s) (hl:s.length≤n):Fn Tryz.prog 169 [kTre.is ((gDs (G) n,gLs (G) n),tcL c n,(rq r)),kVC.is s] (VP.tup [kRC.is (rq (parQ G n c (sfx s) s.length)),kN6.is 0]):=by
 refine aN Tryz.func169 Z Z fun m w=>?_
 have hn0:=hP.n0
 have hn12:=hP.n12
 have hTl:=tcL_len c n
 have hLl:=gLs_len G n
 refine Cr<|aZ .n Z fun b1=>aW .n ba fun b2=>Wa Z<|Wn<|ab<|Cr<|Ws (ae (p:=kTre.is ((gDs (G) n,gLs (G) n),tcL c n,(rq r))) Z (ag 1 Z) Li cL Z)<|Wm Z<|Ws (aw Z c7 Z)<|Ws (aw Z ct Z)<|Ws (ae (p:=kMC.is (gLs (G) n)) Z (ag 1 Z) (aD (am Li)) bf Z)<|Ws (aJ Z U22)<|Ws (aB fn232 (aS Z (aS Z (aj Z (ah (y:=(n:Int)) (by omega)) ar))) (c_tree_fits G n c r (by assumption) (by assumption) (by assumption) s n (by assumption)))<|Wa Z<|Wr<|Wm Z<|Ws (bG Z Z) ?_
 refine Wn ?_
 refine CN Z (fun h=>h Z) fun h_t15=>?_
 refine Ck<|Cr<|Ws (ae (p:=kTre.is ((gDs (G) n,gLs (G) n),tcL c n,(rq r))) Z (ag 1 Z) Li cL Z)<|Wm Z<|Ws (f2 fn233 Z Z (c_tree_part G n c r (by assumption) (by assumption) (by assumption) s (by assumption) (by assumption)))<|aE .n (aC (l:=kRC) (u:=rq (parQ G n c (sfx s) s.length)) 0 Z Z Z ai Z Lr)<|Wa Z<|Wn<|aA ?_
 exact Qd Z (aY Z (ag 0 Z) ai (aI Z ay)) ⟨Z,Z⟩
theorem c_tree_Centreo (vs:Value) (G:Nat→Nat→Int) (n:Nat) (c:Nat→Rat) (r:Rat) (hP:TZ G n c) (hr:RZ 21000000000 r) (hr0:0≤(rq r).1) (s:List Int) (hs:SzL 30000000 s) (hl:s.length<n):Con Tryz.prog 178 [kTre.is ((gDs (G) n,gLs (G) n),tcL c n,(rq r)),VP.ex vs] [OB.row vs 29 kC s] (fun p Lo=>p=VP.tup [kRC.is (rq (cenQ G n c (sfx s) (n-1-s.length) s.length)),kN6.is 0]∧Lo=[OB.row vs 29 kC s]∧True):=by
 refine aN Tryz.func178 Z Z fun m w=>?_
 have hn0:=hP.n0
 have hn12:=hP.n12
 have hTl:=tcL_len c n
 have hLl:=gLs_len G n
 refine Cr<|aZ .n Z fun b1=>aW .n ba fun b2=>Wa Z<|Wn<|ab<|Cr<|Ws (ae (p:=kTre.is ((gDs (G) n,gLs (G) n),tcL c n,(rq r))) Z (ag 1 Z) Li cL Z)<|Wm Z<|Ws (aw Z c7 Z)<|Ws (aw Z ct Z)<|Ws (ae (p:=kMC.is (gLs (G) n)) Z (ag 1 Z) (aD (am Li)) bf Z)<|Ws (aJ Z U22)<|Ws (bj Z Z (c:=(((gLs (G) n).length:Int)-1)) (aH (by omega)))<|Ws (fb (b:=OB.row vs 29 kC s) (ag 2 Z) fn232 (aS Z (aS Z (aj Z (ah (y:=(((n-1):Nat):Int)) (by omega)) ar))) (c_tree_fitso vs G n c r (by assumption) (by assumption) (by assumption) s (n-1) (by omega)))<|Wa Z<|Wr<|Wm Z ?_
 refine Ws (bG Z Z)<|Wn ?_
 refine CN Z (fun h=>h Z) fun h_t16=>?_
 refine Ck<|Cr<|Ws (ae (p:=kTre.is ((gDs (G) n,gLs (G) n),tcL c n,(rq r))) Z (ag 1 Z) Li cL Z)<|Wm Z<|Ws (fb (b:=OB.row vs 29 kC s) (ag 2 Z) fn237 (aS Z (aS Z ar)) (c_tree_centreo vs G n c r (by assumption) (by assumption) (by assumption) s (by assumption) (by assumption)))<|aE .n (aC (l:=kRC) (u:=rq (cenQ G n c (sfx s) (n-1-s.length) s.length)) 0 Z Z Z ai Z Lr)<|Wa Z<|Wn<|aA ?_
 exact cg (.inl Z) Z (aY Z (ag 0 Z) ai (aI Z ay)) (a9 (OS.skip (OS.skip (OS.keep OS.nil)))) ⟨Z,Z,trivial⟩
end Fw
namespace Fw
open Go
def sumS {α:Type} (S:α→Nat):List α→Nat
  | []=>0
  | x::r=>S x+sumS S r
theorem sumS_app {α:Type} {S:α→Nat} (xs:List α) (x:α):sumS S (xs++[x])=sumS S xs+S x:=by
  induction xs with
  | nil=>simp [sumS]
  | cons y r ih=>simp only [List.cons_append,sumS,ih];omega
theorem sumS_const {α:Type} (c:Nat):∀l:List α,sumS (fun _=>c) l=l.length*c
  | []=>by simp [sumS]
  | x::r=>by simp only [sumS,sumS_const c r,List.length_cons,Nat.succ_mul];omega
theorem sumS_mem {α:Type} {S:α→Nat} {x:α} {l:List α} (h:x∈l):S x≤sumS S l:=by
  induction l with
  | nil=>cases h
  | cons y r ih=>
    simp only [sumS]
    rcases List.mem_cons.1 h with e | e
    · subst e;omega
    · have:=ih e;omega
def bZ (z:Int):Nat:=bitlen z.natAbs
def bR (x:Rw):Nat:=bZ x.1+bZ x.2
theorem bZ_Sz (z:Int):Sz (bZ z) z:=lt_bitlen _
def pS (f:Nat→Nat):Nat→Nat
  | 0=>0
  | i+1=>pS f i+f i
theorem pS_mono (f:Nat→Nat):∀{i j},i≤j→pS f i≤pS f j
  | i,0,h=>by rw [show i=0 by omega];exact Nat.le_refl _
  | i,j+1,h=>by
    by_cases e:i=j+1
    · rw [e];exact Nat.le_refl _
    · exact Nat.le_trans (pS_mono f (show i≤j by omega)) (Nat.le_add_right _ _)
theorem pS_sh (f:Nat→Nat):∀i,pS f (i+1)=f 0+pS (fun k=>f (k+1)) i
  | 0=>by simp [pS]
  | i+1=>by show pS f (i+1)+f (i+1)=f 0+(pS (fun k=>f (k+1)) i+f (i+1));rw [pS_sh f i];omega
theorem pS_sum {α:Type} (S:α→Nat) (d:α):∀l:List α,pS (fun k=>S (l.getD k d)) l.length=sumS S l
  | []=>rfl
  | x::r=>by
    rw [List.length_cons,pS_sh]
    show S x+pS (fun k=>S (r.getD k d)) r.length=_
    rw [pS_sum S d r];rfl
theorem pS_add (f g:Nat→Nat):∀i,pS (fun k=>f k+g k) i=pS f i+pS g i
  | 0=>rfl
  | i+1=>by show pS (fun k=>f k+g k) i+(f i+g i)=(pS f i+f i)+(pS g i+g i);rw [pS_add f g i];omega
theorem pS_const (c:Nat):∀i,pS (fun _=>c) i=i*c
  | 0=>by simp [pS]
  | i+1=>by show pS _ i+c=_;rw [pS_const c i,Nat.succ_mul]
theorem sqQ_RZw {d:Nat→Rat} {m:Nat→Nat} {N:Nat} (h:∀i,i<N→RZ (m i) (d i)):∀i,i≤N→RZ (1+pS (fun k=>m k+m k+1) i) (sqQ d i)
  | 0,_=>RZ0
  | i+1,hi=>((sqQ_RZw h i (by omega)).add2 ((h i (by omega)).mul (h i (by omega)))).up (by show _≤1+(pS _ i+(m i+m i+1));omega)
structure DistP (u:List Int) (t:List Rw):Prop where
  l:t.length=u.length
  d:∀i,i<t.length→0<(t.getD i (0,0)).2
  y:SzL 2147483648 u
  z:∀i,i<t.length→Sz 2147483648 (t.getD i (0,0)).1∧Sz 2147483648 (t.getD i (0,0)).2
  r:∀i,i<u.length→RZ 2147483649 (dfQ u t i)
  s:∀i,i≤u.length→RZ 60000000000 (sqQ (dfQ u t) i)
theorem getD_memR {t:List Rw} {i:Nat} (h:i<t.length):t.getD i (0,0)∈t:=by rw [gde _ _ h];exact List.getElem_mem h
theorem distP_of {u:List Int} {t:List Rw} (hl:t.length=u.length) (hd:∀i,i<t.length→0<(t.getD i (0,0)).2) (h1:sumS bZ u≤33554432) (h2:sumS bR t≤33554432) (h3:u.length≤33554432):DistP u t:=by
  have hu:∀i,Sz 33554432 (u.getD i 0):=fun i=>by
    by_cases e:i<u.length
    · exact (bZ_Sz _).up (Nat.le_trans (sumS_mem (S:=bZ) (show u.getD i 0∈u by rw [gde _ _ e];exact List.getElem_mem e)) h1)
    · rw [getD_nil_of _ _ (by omega)];exact Sz.zero _
  have hz:∀i,i<t.length→bZ (t.getD i (0,0)).1+bZ (t.getD i (0,0)).2≤33554432:=fun i hi=>Nat.le_trans (sumS_mem (S:=bR) (getD_memR hi)) h2
  have key:∀i,i<u.length→RZ (bZ (u.getD i 0)+1+bR (t.getD i (0,0))+1) (dfQ u t i):=fun i hi=>by
    have k1:RZ (bZ (u.getD i 0)+1) ((u.getD i 0:Int):Rat):=RZ.int ((bZ_Sz _).up (by omega))
    have k2:=rv_RZ (n:=bR (t.getD i (0,0))) (x:=t.getD i (0,0)) (hd i (by omega)) ((bZ_Sz _).up (by unfold bR;omega)) ((bZ_Sz _).up (by unfold bR;omega))
    have k3:=k1.sub2 k2
    unfold dfQ
    rwa [show t.getD i (0,1)=t.getD i (0,0) by rw [gde _ _ (by omega),gde _ _ (by omega)]]
  refine ⟨hl,hd,fun i=>(hu i).up (by decide),fun i hi=>⟨(bZ_Sz _).up (by have:=hz i hi;omega),(bZ_Sz _).up (by have:=hz i hi;omega)⟩,fun i hi=>(key i hi).up ?_,fun i hi=>(sqQ_RZw key i hi).up ?_⟩
  · have k1:=hz i (by omega)
    have k2:bZ (u.getD i 0)≤33554432:=Nat.le_trans (sumS_mem (S:=bZ) (show u.getD i 0∈u by rw [gde _ _ hi];exact List.getElem_mem hi)) h1
    unfold bR;omega
  · have k0:=pS_mono (fun k=>bZ (u.getD k 0)+1+bR (t.getD k (0,0))+1+(bZ (u.getD k 0)+1+bR (t.getD k (0,0))+1)+1) hi
    have k1:=pS_sum bZ 0 u
    have k2:=pS_sum bR (0,0) t
    rw [hl] at k2
    have k3:pS (fun k=>bZ (u.getD k 0)+1+bR (t.getD k (0,0))+1+(bZ (u.getD k 0)+1+bR (t.getD k (0,0))+1)+1) u.length=2*(sumS bZ u+sumS bR t)+u.length*5:=by
      rw [show (fun k=>bZ (u.getD k 0)+1+bR (t.getD k (0,0))+1+(bZ (u.getD k 0)+1+bR (t.getD k (0,0))+1)+1)=fun k=>(bZ (u.getD k 0)+bR (t.getD k (0,0))+(bZ (u.getD k 0)+bR (t.getD k (0,0))))+5 by funext k;omega,pS_add,pS_const,pS_add,pS_add,k1,k2];omega
    rw [k3] at k0
    omega
theorem distP_12 {u:List Int} {t:List Rw} (hl:t.length=u.length) (h12:u.length≤12) (hu:SzL 30000300 u) (hd:∀i,i<t.length→0<(t.getD i (0,0)).2) (hz:∀i,i<t.length→Sz 30000300 (t.getD i (0,0)).1∧Sz 30000300 (t.getD i (0,0)).2):DistP u t:=by
  have hR:∀i,i<u.length→RZ (30000300+30000300+1) (dfQ u t i):=fun i hi=>dfQ_RZ (by decide) hl hu hd hz hi
  exact ⟨hl,hd,fun i=>(hu i).up (by decide),fun i hi=>⟨(hz i hi).1.up (by decide),(hz i hi).2.up (by decide)⟩,fun i hi=>(hR i hi).up (by decide),fun i hi=>(sqQ_RZ hR i hi).up (Nat.le_trans (szQ_le (by omega)) (by decide))⟩
def rvI (s:List Int) (i:Nat):List Int:=(List.range s.length).map (fun k=>if k<i∨s.length-1-i<k then s.getD (s.length-1-k) 0 else s.getD k 0)
theorem rvI_len (s i):(rvI s i).length=s.length:=by simp [rvI]
theorem rvI_get {s:List Int} {i k:Nat} (hk:k<s.length):(rvI s i).getD k 0=if k<i∨s.length-1-i<k then s.getD (s.length-1-k) 0 else s.getD k 0:=by
  rw [gde _ _ (by rw [rvI_len];exact hk)];simp [rvI]
theorem list_eq {l r:List Int} (h:l.length=r.length) (hk:∀k,k<l.length→l.getD k 0=r.getD k 0):l=r:=by
  apply List.ext_getElem h
  intro k h1 h2
  have:=hk k h1
  rwa [gde _ _ h1,gde _ _ h2] at this
theorem rvI_0 (s):s=rvI s 0:=list_eq (by rw [rvI_len]) fun k hk=>by
  rw [rvI_get hk,if_neg (by omega)]
theorem getD_set {l:List Int} {i k:Nat} {y:Int} (h:i<l.length):(l.set i y).getD k 0=if i=k then y else l.getD k 0:=by
  rw [List.getD_eq_getElem?_getD,List.getElem?_set]
  by_cases e:i=k
  · subst e;simp [h]
  · simp [e]
theorem rvI_s {s:List Int} {i:Nat} (h:i<s.length-1-i):((rvI s i).set i ((rvI s i).getD (s.length-1-i) 0)).set (s.length-1-i) ((rvI s i).getD i 0)=rvI s (i+1):=list_eq (by simp [rvI_len]) fun k hk=>by
  simp [rvI_len] at hk
  rw [getD_set (by simp [rvI_len];omega),getD_set (by rw [rvI_len];omega),rvI_get hk,rvI_get (show i<s.length by omega),rvI_get (show s.length-1-i<s.length by omega),if_neg (show ¬(i<i∨s.length-1-i<i) by omega),if_neg (show ¬(s.length-1-i<i∨s.length-1-i<s.length-1-i) by omega),rvI_get hk]
  by_cases e1:s.length-1-i=k
  · rw [if_pos e1,if_pos (by omega),show s.length-1-k=i by omega]
  · rw [if_neg e1]
    by_cases e2:i=k
    · rw [if_pos e2,if_pos (by omega),e2]
    · rw [if_neg e2]
      by_cases e3:k<i∨s.length-1-i<k
      · rw [if_pos e3,if_pos (by omega)]
      · rw [if_neg e3,if_neg (by omega)]
theorem rvI_end {s:List Int} {i:Nat} (h:¬i<s.length-1-i):rvI s i=s.reverse:=list_eq (by simp [rvI_len]) fun k hk=>by
  rw [rvI_len] at hk
  rw [rvI_get hk,gde s.reverse _ (by simpa using hk),List.getElem_reverse]
  split
  · rw [gde _ _ (by omega)]
  · rw [gde _ _ hk];congr 1;omega
theorem SzL.rev {n:Nat} {s:List Int} (h:SzL n s):SzL n s.reverse:=fun i=>by
  by_cases e:i<s.length
  · rw [rev_at rfl e];exact h _
  · rw [getD_nil_of _ _ (by simp;omega)];exact Sz.zero _
theorem plD_P {b:List (List Int)} {t:List Rw} (hT:Tgt b t) {x:List Int} (hx:SzL 30000000 x) (hl:x.length=b.length):DistP (combA x (llB b)) t:=by
  have hZ:=basis_of hT.e
  have hR:=redB_of hZ
  have hcx:combOk x (llB b):=⟨rect_iff.2 hR.r.rl,by rw [hl,hR.len]⟩
  have hcl:(combA x (llB b)).length=t.length:=by rw [comb_len (comb_yes hcx).2,hR.r.row 0 hR.n0,hT.l]
  have h12:=hR.n
  have hlR:=hR.len
  refine distP_12 hcl.symm (by rw [hcl,hT.l];exact hZ.c 0) ((combA_Sz hx hR.z).up (by omega)) hT.d (fun i hi=>⟨(hT.z i hi).1.up (by decide),(hT.z i hi).2.up (by decide)⟩)
theorem plP_len {b:List (List Int)} {t:List Rw}:rq (plP b t)=rq (parQ (plG b) b.length (plC b t) (sfx (plS b t false)) (plS b t false).length):=by
  rw [plS_len];rfl
theorem plH_eq {b:List (List Int)} {t:List Rw} (hT:Tgt b t):rq (dstQ (combA (plS b t false).reverse (llB b)) t-rv ((rq (plP b t)).1,(rq (plP b t)).2))=rq (plH b t):=by
  rw [sub_rv,←hgt_ok hT (plS_len b t false)];rfl
def disE (w:List Int) (t:List Rw):Int:=if w.length≠t.length then 8 else if denB t t.length=true then 0 else 30
noncomputable def disV (w:List Int) (t:List Rw):Int×Int:=if w.length≠t.length then (0,0) else if denB t t.length=true then rq (dstQ w t) else (0,0)
section
variable {w:List Int} {t:List Rw}
theorem dis_1 (h:w.length≠t.length):disE w t=8∧disV w t=(0,0):=⟨if_pos h,if_pos h⟩
theorem dis_2 (h:w.length=t.length) (hd:¬denB t t.length=true):disE w t=30∧disV w t=(0,0):=by
  unfold disE disV
  simp [h,hd]
theorem dis_3 (h:w.length=t.length) (hd:denB t t.length=true):disE w t=0∧disV w t=rq (dstQ w t):=by
  unfold disE disV
  simp [h,hd]
theorem den_all (hd:denB t t.length=true):∀i,i<t.length→0<(t.getD i (0,0)).2:=fun i hi=>by
  unfold denB at hd
  rw [List.take_length,List.all_eq_true] at hd
  have:=hd _ (getD_memR hi)
  simpa using this
end
theorem rmk_self (p:Rat):rmk (rq p).1 (rq p).2=rq p:=by rw [rmk_rq (rq_den_ne p),rq_val]
theorem cen_00 (G:Fi) (n:Nat) (c s:Nat→Rat) (i:Nat):cenQ G n c s i 0=c i:=by
  show c i-0=c i
  grind
theorem run_equalIn_sln {P:Program} {t e:TypeId} (hu:P.underlying t=some (.slice e)) (a:Addr) (n c:Nat) (w:World) (d:Nat):(Op.equalIn (d+1) t (.slice (some a) n c) (.slice none 0 0)).run P w = .ok false w:=by
  simp [Op.equalIn,run_underlying hu]
theorem run_equal_sln {P:Program} {t e:TypeId} (hu:P.underlying t=some (.slice e)) (a:Addr) (n c:Nat) (w:World):(Op.equal t (.slice (some a) n c) (.slice none 0 0)).run P w = .ok false w:=run_equalIn_sln hu a n c w 9999
section
variable {C:Ctx} {ρ:Env} {L:List OB} {dst:Option Tmp} {ty:TypeId} {pos:String} {after:Array Edge} {g:Option (Nat×Bool)}
theorem O.eqN {α:Type} {k:Kd α} {xs:List α} {x y:Operand} {T yt e:TypeId} (hx:ev ρ x=some ((kSl k).is xs)) (hy:ev ρ y=some (VP.ex (.slice none 0 0))) (hu:C.P.underlying T=some (.slice e)) (h0:0<xs.length):OpOk C ⟨dst,.binOp .eql T x y yt,ty,pos,after,g⟩ ρ L (kBool.is false) L:=OpOk.val fun m w f s t=>by
  obtain ⟨a,cap,h1,_,_,h4⟩:=Kd.is_sl (t.evl hx)
  rcases h4 with rfl | ⟨b',o,c,cells,rfl,_⟩
  · exact absurd h0 (by simp)
  · have h:=run_equal_sln hu ⟨b',o,none⟩ xs.length cap w
    refine ⟨.bool false,?_,bool_p ..⟩
    simp only [execOp,t.ex hy,h1];simp only [eqGuard,binOp];simp [h]
end
end Fw
namespace Fw
open Go Go.Proofs
theorem c_close_plane (n:Nat) (c:Rat) (hc:RZ n c) (k:Int) (hn:n≤68719476736):Fn Tryz.prog 167 [kRC.is (rq c),kN6.is k] (kC.is (nearQ c)):=by
 refine aN Tryz.func167 Z Z fun m w=>Cr<|aZ .n Z fun b1=>aW .n bd fun b2=>Wr<|Ws (ae Z (ag 1 Z) Li ai Z)<|Ws (f1 fn144 Z (c_rat_Near n c hc hn))<|Wm Z<|Ws (aP Z Z)<|Ws (aP Z Z)<|Ax (l:=kC) (u:=nearQ c) bd Z af (fun _=>Z) Lr fun b3=>Wa Z<|Wr<|Ws (ae Z (ag 0 Z) Li af Z)<|aE .n (aC (l:=kC) (u:=nearQ c) 1 Z Z Z af Z Lr)<|au ?_
 refine cw<|aA ?_
 exact Qd Z (aY Z (ag 1 Z) af ay) ⟨Z,Z⟩
theorem c_close_guess_plane (pw:Nat) (b:List (List Int)) (t:List (Int×Int)) (hT:Tgt b t) (r:Rat) (hr:RZ 21000000000 r) (hr0:0≤(rq r).1) (hh:Int×Int):Con Tryz.prog 106 [VP.pt pw 0] [OB.box pw 141 (kPair kRed (kPair kTre (kPair kRC (kPair (kSl (kPair kZ kZ)) kVal)))) ((llB b,llU b,llV b,((llS b).length:Int)),((gDs (gram (llB b)) b.length,gLs (gram (llB b)) b.length),tcL (plC b t) b.length,(rq r)),hh,t,(.func (.func 167) #[] #[]))] (fun p Lo=>p=kVC.is (plS b t false)∧Lo=[OB.box pw 141 (kPair kRed (kPair kTre (kPair kRC (kPair (kSl (kPair kZ kZ)) kVal)))) ((llB b,llU b,llV b,((llS b).length:Int)),((gDs (gram (llB b)) b.length,gLs (gram (llB b)) b.length),tcL (plC b t) b.length,(rq r)),hh,t,(.func (.func 167) #[] #[]))]∧True):=by
 refine aN Tryz.func106 Z Z fun m w=>?_
 have hZ:=basis_of hT.e
 have hRB:=redB_of hZ
 have hP:=plC_TZ hT
 have hlR:=hRB.len
 have hn12:=hRB.n
 have hn0:=hRB.n0
 have htl:t.length≤12:=by rw [hT.l];exact hZ.c 0
 have SzF:∀{k:Nat},k≤b.length→SzL 30000000 (gsL (plF (plG b) b.length (plC b t)) k):=fun h=>plF_sz hP h
 refine Cr<|Wa Z<|Wr<|Wa Z<|Wn<|ab<|Cr<|Wm Z<|Ws (cM Z)<|Ws (aw Z fx Z)<|Ws (aw Z eW Z)<|Ws (ae (p:=kMC.is (llB b)) Z (ag 0 Z) (aD (aD Li)) bf Z)<|Ws (aJ Z U22)<|Ws (bj Z Z (c:=(((llB b).length:Int)-1)) (aH (by omega)))<|Wa Z<|Wn<|aF ?_
 refine bT 29 kC<|tl 4 Z (y:=((b.length:Int)-1)) (by rw [hlR])<|tr 0 Z (y:=(gsL (plF (plG b) b.length (plC b t)) (b.length-b.length))) (by rw [Nat.sub_self];rfl)<|bU (fun (i:Nat) (v:Value)=>i≤b.length) (fun (i:Nat) (v:Value)=>[(0,VP.pt pw 0),(3,VP.ex v),(4,kN6.is ((i:Int)-1))]) (fun (i:Nat) (v:Value)=>[OB.row v 29 kC (gsL (plF (plG b) b.length (plC b t)) (b.length-i)),OB.box pw 141 (kPair kRed (kPair kTre (kPair kRC (kPair (kSl (kPair kZ kZ)) kVal)))) ((llB b,llU b,llV b,((llS b).length:Int)),((gDs (gram (llB b)) b.length,gLs (gram (llB b)) b.length),tcL (plC b t) b.length,(rq r)),hh,t,(.func (.func 167) #[] #[]))]) (fun (i:Nat) (v:Value)=>i) b.length (.slice none 0 0) (Nat.le_refl _) (ac Z (ac Z (az Z (ah (y:=(((b.length:Nat):Int)-1)) (by rfl)) aq))) (aG _) ?_
 intro i v hi
 refine ab<|Cr<|Wm Z<|Ws (di Z Z)<|Wn ?_
 refine aM Z (fun h_t15=>?_)<|fun h_t15=>?_
 ·
  refine Ck<|ab<|aF<|ab<|tl 4 Z (y:=((i-1:Nat):Int)) (by omega)<|ak<|Wm Z<|Ws (cM Z)<|Ws (aw Z eV Z)<|Ws (ae (p:=kTre.is ((gDs (gram (llB b)) b.length,gLs (gram (llB b)) b.length),tcL (plC b t) b.length,(rq r))) Z (ag 1 Z) (am (aD Li)) cL Z)<|Wm Z<|Ws (fb (b:=OB.row v 29 kC (gsL (plF (plG b) b.length (plC b t)) (b.length-i))) (ag 0 Z) fn178 (aj Z (ah (y:=((gDs ((plG b)) b.length,gLs ((plG b)) b.length),tcL (plC b t) b.length,(rq r))) (by rfl)) (aS Z ar)) (c_tree_Centreo v (plG b) b.length (plC b t) r hP hr hr0 (gsL (plF (plG b) b.length (plC b t)) (b.length-i)) (SzF (by omega)) (by rw [gsL_len];omega)))<|Wm Z<|Ws (aP Z Z)<|Ws (aP Z Z)<|Ax (l:=kRC) (u:=rq (cenQ (plG b) b.length (plC b t) (sfx (gsL (plF (plG b) b.length (plC b t)) (b.length-i))) (b.length-1-(gsL (plF (plG b) b.length (plC b t)) (b.length-i)).length) (gsL (plF (plG b) b.length (plC b t)) (b.length-i)).length)) ba Z ai (fun _=>Z) Lr fun b1=>Wa Z<|Wn ?_
  refine a5 (Γ:=[.lt (VP.ex v),.fr (VP.pt pw 0),.fr (VP.pt pw 0),.fr (VP.pt pw 16),.fr (VP.ex (.func (.func 167) #[] #[])),.fr (kRC.is (rq (cenQ (plG b) b.length (plC b t) (sfx (gsL (plF (plG b) b.length (plC b t)) (b.length-i))) (b.length-1-(gsL (plF (plG b) b.length (plC b t)) (b.length-i)).length) (gsL (plF (plG b) b.length (plC b t)) (b.length-i)).length))),.fr (kN6.is ((i-1:Nat):Int))]) (oc (dc Z .n (dW Z)) (om Z Z (ch Z Z (aa Z (fun N=>aw Z fld141_4 Z) (aa Z (fun N=>aV (ae (p:=kVal.is (.func (.func 167) #[] #[])) Z (mN N 2 Z) (am (am (am (am Li)))) ty139 Z) (bc _)) (aa Z (fun N=>ae Z (mN N 0 Z) Li ai Z) (om Z Z oz)))))))<|fun σ1=>?_
  refine Ws (O.fv Z fn167 (aS Z (aS Z ar)) (c_close_plane 800000000 (cenQ (plG b) b.length (plC b t) (sfx (gsL (plF (plG b) b.length (plC b t)) (b.length-i))) (b.length-1-(gsL (plF (plG b) b.length (plC b t)) (b.length-i)).length) (gsL (plF (plG b) b.length (plC b t)) (b.length-i)).length) (hP.cen (fun x _=>cX (SzF (by omega)) x) (by rw [gsL_len];omega)) ((i-1:Nat):Int) (by decide)))<|Ws (bB U23 bv (bV Z bA) Z (by decide))<|bI 1 .n Z Z Z Lr U23 bv (by simp only [gsL_len,List.length_cons,List.length_nil];omega) fun v2=>Wa Z<|au<|Qb<|ak<|Wm Z<|Ws (bj Z Z (c:=(((i-1:Nat):Int)-1)) (aH (by omega)))<|Wa Z<|au<|tr 1 Z (y:=(gsL (plF (plG b) b.length (plC b t)) (b.length-(i-1)))) (by rw [show b.length-(i-1)=b.length-i+1 by omega,gsL_len];rfl)<|bg (bm [1,2] (by decide) Z) ?_
  exact bS (i-1) v2 (by omega) (by omega) (ac Z (ac Z (az Z (ah (y:=((((i-1):Nat):Int)-1)) (by rfl)) aq)))<|aG _
 ·
  refine Ex<|ab<|tr 0 Z (y:=(plS b t false)) (by rw [show i=0 by omega];rfl)<|ak<|Wm Z<|Wa Z<|Wn<|aA<|bL 0 Z (kp 0 Z (.hit (i:=2) Z (.hit (i:=3) Z (kp 4 Z (kp 14 Z (kp 15 Z (.hit (i:=37) Z .nil))))))) ?_
  exact cg (.inl Z) Z (aI Z ay) (aG _) ⟨Z,Z,trivial⟩
theorem c_slices_CloneZ (s:List Int) (h0:0<s.length):Con Tryz.prog 175 [kVC.is s] [] (fun p Lo=>∃(v:Value),p=VP.ex v∧Lo=[OB.row v 29 kC s]∧True):=by
 refine aN Tryz.func175 Z Z fun m w=>a8 (i:=0) Z bF fun hB0=>Cr<|Wa Z<|Wn<|ab<|Cr<|Wm Z<|Ws (O.eqN Z Z U23 (by assumption))<|Wn<|dj Z<|Ck<|Cr<|WP.bso .n U23 bv bA Z (by decide) fun v1=>Wm Z<|bI 0 .n Z Z Z Lr U23 bv (by simp;omega) fun v2=>Wa Z<|au ?_
 refine cw<|aA ?_
 exact cg (.inl Z) Z (aI Z ay) (aG _) ⟨v2,Z,Z,trivial⟩
theorem c_slices_ReverseZ (vs:Value) (s:List Int) (hs:s.length≤4294967296):Con Tryz.prog 176 [VP.ex vs] [OB.row vs 29 kC s] (fun p Lo=>p=VP.tup []∧Lo=[OB.row vs 29 kC s.reverse]∧True):=by
 refine aN Tryz.func176 Z Z fun m w=>Cr<|Wm Z<|Ws (de Z (ag 0 Z) U23)<|Ws (bj Z Z (c:=((s.length:Int)-1)) (aH (by omega)))<|Wa Z<|Wa Z<|Wn<|aF<|tr 0 Z (y:=(rvI s 0)) (rvI_0 s)<|bJ (fun (i:Nat)=>i≤s.length) (fun (i:Nat)=>[(0,VP.ex vs),(2,kN6.is (i:Int)),(3,kN6.is ((s.length:Int)-1-(i:Int)))]) (fun (i:Nat)=>[OB.row vs 29 kC (rvI s i)]) (fun (i:Nat)=>s.length-i) 0 (Nat.zero_le _) (ac Z (az Z (ah (y:=(0:Int)) (by rfl)) (az Z (ah (y:=((s.length:Int)-1-(0:Int))) (by omega)) aq))) (aG _) ?_
 intro i hi
 refine ab<|Cr<|Wm Z<|Wm Z<|Ws (aX Z Z)<|Wn ?_
 refine aM Z (fun h_t9=>?_)<|fun h_t9=>?_
 ·
  refine Ck<|ab<|aF<|tl 3 Z (y:=((s.length-1-i:Nat):Int)) (by omega) ?_
  refine a5 (Γ:=[.fr (VP.ex vs),.fr (kN6.is (i:Int)),.lt (VP.ex vs),.lt (kN6.is ((s.length-1-i:Nat):Int)),.fr (VP.ex vs),.fr (kN6.is ((s.length-1-i:Nat):Int)),.fr (VP.pel vs ((s.length-1-i:Nat)*2)),.fr (kC.is ((rvI s i).getD (s.length-1-i:Nat) 0)),.fr (VP.ex vs),.fr (kN6.is (i:Int)),.fr (VP.pel vs (i*2)),.fr (kC.is ((rvI s i).getD i 0)),.fr (VP.pel vs (i*2))]) (om Z Z (om Z Z (oc (dc Z .n (dW Z)) (oc (dc Z .n (dW Z)) (om Z Z (om Z Z (aa Z (fun N=>bb (k:=kC) (xs:=(rvI s i)) (n:=((s.length-1-i:Nat):Int)) (s.length-1-i:Nat) Z Z (mN N 0 Z) U23 af Z (by rw [rvI_len];omega)) (aa Z (fun N=>bp (s.length-1-i:Nat) Z (mN N 0 Z) Li Z (y:=((rvI s i).getD (s.length-1-i:Nat) 0)) (gd 0 (by rw [rvI_len];omega)) af Z) (om Z Z (om Z Z (aa Z (fun N=>bb (k:=kC) (xs:=(rvI s i)) (n:=(i:Int)) i Z Z (mN N 0 Z) U23 af Z (by rw [rvI_len];omega)) (aa Z (fun N=>bp i Z (mN N 0 Z) Li Z (y:=((rvI s i).getD i 0)) (gd 0 (by rw [rvI_len];omega)) af Z) (aa Z (fun N=>bb (k:=kC) (xs:=(rvI s i)) (n:=(i:Int)) i Z Z (mN N 0 Z) U23 af Z (by rw [rvI_len];omega)) oz)))))))))))))<|fun σ1=>?_
  refine aE .n (co 0 i Z Z Li Z (y0:=((rvI s i).getD i 0)) (gd 0 (by rw [rvI_len];omega)) af Z Lr)<|Ws (bb (k:=kC) (xs:=((rvI s i).set i ((rvI s i).getD (s.length-1-i:Nat) 0))) (n:=((s.length-1-i:Nat):Int)) (s.length-1-i:Nat) Z Z (ag 0 Z) U23 af Z (by simp [rvI_len];omega))<|aE .n (co 0 (s.length-1-i:Nat) Z Z Li Z (y0:=(((rvI s i).set i ((rvI s i).getD (s.length-1-i:Nat) 0)).getD (s.length-1-i:Nat) 0)) (gd 0 (by simp [rvI_len];omega)) af Z Lr)<|au<|Qb<|ak<|Wm Z<|Ws (aR Z Z (c:=((i:Int)+1)) (aH (by omega)))<|Wm Z<|Ws (bj Z Z (c:=(((s.length-1-i:Nat):Int)-1)) (aH (by omega)))<|Wa Z<|Wa Z<|au<|tr 0 Z (y:=(rvI s (i+1))) (rvI_s (by omega)) ?_
  exact bE (i+1) (by omega) (by omega) (ac Z (az Z (ah (y:=(((i+1):Nat):Int)) (by rfl)) (az Z (ah (y:=((s.length:Int)-1-(((i+1):Nat):Int))) (by omega)) aq)))<|aG _
 ·
  refine dS<|da<|da<|dR<|tr 0 Z (y:=s.reverse) (rvI_end (by omega)) ?_
  exact cg (.inr Z) Z ay (aG _) ⟨Z,Z,trivial⟩
theorem c_close_squaresa (m0:Nat) (d:Nat→Rat) (hd:∀i,i<m0→RZ 2147483649 (d i)) (hS:∀i,i≤m0→RZ 60000000000 (sqQ d i)):Fn Tryz.prog 124 [(kSl kRC).is ((List.range m0).map (fun k=>rq (d k)))] (kRC.is (rq (sqQ d m0))):=by
 refine aN Tryz.func124 Z Z fun m w=>a8 (i:=0) Z bF fun hB0=>?_
 have hB1:m0≤1099511627776:=by simpa using hB0
 refine Cr<|aW .n ba fun b1=>Wr<|Ws (bY dQ Z br (.nil _))<|Ws (aB eH (aj Z (aL (by exact Sm_lit (by decide))) ar) (ez 0))<|Ax (l:=kRC) (u:=rq (0:Rat)) ba Z ai (fun _=>Z) Lr fun b2=>Wn<|ab<|Cr<|Wm Z<|Ws (aJ Z U26)<|Wm Z<|Wn<|aF<|tl 9 Z (y:=(m0:Int)) (by simp)<|tb 0 Z (y:=(rq (sqQ d 0))) (by exact rq_int 0) ?_
 refine bU (fun (i:Nat) (q:Nat)=>i≤m0) (fun (i:Nat) (q:Nat)=>[(2,VP.pt b1 0),(3,VP.pt b2 0),(8,(kSl kRC).is ((List.range m0).map (fun k=>rq (d k)))),(9,kN6.is (m0:Int)),(10,kN6.is (i:Int))]) (fun (i:Nat) (q:Nat)=>[OB.box b2 31 kRC (rq (sqQ d i)),OB.box b1 31 kRC (0,0)]) (fun (i:Nat) (q:Nat)=>m0-i) 0 0 (Nat.zero_le _) (ao Z Z Z Z (az Z (ah (y:=(0:Int)) (by rfl)) aq)) (aG _) ?_
 intro i q hi
 refine Cr<|Ws (aX Z Z)<|Wn<|ab ?_
 refine aM Z (fun h_t11=>?_)<|fun h_t11=>?_
 ·
  refine Ck<|ab<|aF<|Cr<|Ws (aU i Z Z U26 ai Z (v:=(rq (d i))) (rng_at (f:=fun k=>rq (d k)) (by omega)))<|Ws (aO Z ai)<|Ax (l:=kRC) (u:=(rq (d i))) ba Z ai (fun _=>Z) Lr fun b3=>Wn ?_
  refine a5 (Γ:=[.fr (kRC.is (rq (sqQ d i))),.fr (kRC.is (rq (d i))),.fr (kRC.is (rq (d i))),.fr (kRC.is (rq ((d i)*(d i)))),.fr (kRC.is (rq ((sqQ d i)+(d i*d i))))]) (aa Z (fun N=>ae Z (mN N 1 Z) Li ai Z) (aa Z (fun N=>ae Z (mN N 0 Z) Li ai Z) (aa Z (fun N=>ae Z (mN N 0 Z) Li ai Z) (aa Z (fun N=>f2 fn195 Z Z (c_close_mul 2147483649 (d i) (d i) (hd i (by omega)) (hd i (by omega)) (by omega))) (aa Z (fun N=>aB fn69 (aS Z (aj Z (ah (y:=rq (d i*d i)) (by rfl)) ar)) (c_close_add 60000000000 (sqQ d i) (d i*d i) (hS i (by omega)) (((hd i (by omega)).mul (hd i (by omega))).up (by omega)) (by omega))) oz)))))<|fun σ1=>?_
  refine aE .n (aC (l:=kRC) (u:=rq ((sqQ d i)+(d i*d i))) 1 Z Z Z ai Z Lr)<|au<|Qb<|ak<|Ws (aR Z Z (c:=((i:Int)+1)) (aH (by omega)))<|Wm Z<|au<|bg (bm [1,2] (by decide) Z)<|tb 0 Z (y:=(rq (sqQ d (i+1)))) Z ?_
  exact bS (i+1) q (by omega) (by omega) (ao Z Z Z Z (az Z (ah (y:=(((i+1):Nat):Int)) (by rfl)) aq))<|aG _
 ·
  refine Ex<|Cr<|Ws (ae Z (ag 0 Z) Li ai Z)<|aE .n (aC (l:=kRC) (u:=(rq (sqQ d i))) 1 Z Z Z ai Z Lr)<|Wn<|aA<|tb 1 Z (y:=(rq (sqQ d m0))) (by rw [show i=m0 by omega]) ?_
  exact Qd Z (aY Z (ag 1 Z) ai ay) ⟨Z,Z⟩
theorem c_close_distancea (u:List Int) (t:List (Int×Int)) (hD:DistP u t):Fn Tryz.prog 59 [kVZ.is u,(kSl (kPair kZ kZ)).is t] (kRC.is (rq (dstQ u t))):=by
 refine aN Tryz.func59 Z Z fun m w=>a8 (i:=0) Z bF fun hB0=>?_
 have hl:=hD.l
 refine Cr<|aW .n ba fun b1=>Wr<|Wa Z<|Wn<|ab<|Cr<|Wm Z<|Ws (aJ Z U23)<|Wm Z<|Wn<|aF<|bT 31 kRC<|bU (fun (i:Nat) (v:Value)=>i≤u.length) (fun (i:Nat) (v:Value)=>[(0,kVZ.is u),(1,(kSl (kPair kZ kZ)).is t),(4,VP.pt b1 0),(5,VP.ex v),(8,kN6.is (u.length:Int)),(9,kN6.is (i:Int))]) (fun (i:Nat) (v:Value)=>[OB.row v 31 kRC (dfL u t i),OB.box b1 31 kRC (0,0)]) (fun (i:Nat) (v:Value)=>u.length-i) 0 (.slice none 0 0) (Nat.zero_le _) (ao Z Z Z Z (ac Z (az Z (ah (y:=(0:Int)) (by rfl)) aq))) (a9 (OS.keepLe (bi (by rfl)) (OS.keep OS.nil))) ?_
 intro i v hi
 refine Cr<|Ws (aX Z Z)<|Wn<|ab ?_
 refine aM Z (fun h_t10=>?_)<|fun h_t10=>?_
 ·
  refine Ck<|ab<|aF<|Cr<|Wm Z<|Wa Z<|Wn ?_
  refine a5 (Γ:=[.fr (VP.ex v),.fr (kVZ.is u),.fr (kN6.is (i:Int)),.fr (VP.pim kZ (u.getD i 0)),.fr (kZ.is (u.getD i 0)),.fr (kRC.is (rq ((u.getD i 0):Rat))),.fr ((kSl (kPair kZ kZ)).is t),.fr (kN6.is (i:Int)),.fr (VP.pim (kPair kZ kZ) (t.getD i (0,0))),.fr ((kPair kZ kZ).is (t.getD i (0,0))),.fr (kRC.is (rq (((u.getD i 0:Int):Rat)-rv (((t.getD i (0,0)).1),((t.getD i (0,0)).2))))),.fr ((kSl kRC).is [rq (((u.getD i 0:Int):Rat)-rv (((t.getD i (0,0)).1),((t.getD i (0,0)).2)))])]) (om Z Z (om Z Z (om Z Z (aa Z (fun N=>aU i Z Z U23 af Z (v:=(u.getD i 0)) (gd 0 (by omega))) (aa Z (fun N=>aO Z af) (aa Z (fun N=>f1 eH Z (ez (u.getD i 0))) (om Z Z (om Z Z (aa Z (fun N=>aU i Z Z U26 ai Z (v:=(t.getD i (0,0))) (gd (0,0) (by omega))) (aa Z (fun N=>aO Z ai) (aa Z (fun N=>aB fn123 (aj Z (ah (y:=rq ((u.getD i 0:Int):Rat)) (by rfl)) (aj Z (ah (y:=((t.getD i (0,0)).1,(t.getD i (0,0)).2)) (by rfl)) ar)) (gm 2147483649 ((u.getD i 0:Int):Rat) ((t.getD i (0,0)).1) ((t.getD i (0,0)).2) (fT ((hD.y i).up (by decide))) ((hD.z i (by omega)).1.up (by decide)) ((hD.z i (by omega)).2.up (by decide)) (hD.d i (by omega)) (by decide))) (aa Z (fun N=>bB U26 dn (bV Z bA) Z (by decide)) oz))))))))))))<|fun σ1=>?_
  refine bI 0 .n Z Z Z Lr U26 dn (by simp [dfL_len];omega) fun v2=>Wa Z<|au<|Qb<|ak<|Ws (aR Z Z (c:=((i:Int)+1)) (aH (by omega)))<|Wm Z<|au<|tr 0 Z (y:=(dfL u t (i+1))) (by rw [←dfL_app,←dfQ_eq u t i (by omega)]) ?_
  exact bS (i+1) v2 (by omega) (by omega) (ao Z Z Z Z (ac Z (az Z (ah (y:=(((i+1):Nat):Int)) (by rfl)) aq)))<|aG _
 ·
  refine Ex<|ab<|tr 0 Z (y:=((List.range u.length).map (fun k=>rq (dfQ u t k)))) (by rw [show i=u.length by omega];rfl)<|ak<|Wm Z<|bL 0 Z (kp 0 Z (kp 1 Z (kp 4 Z (.hit (i:=5) Z (kp 8 Z (kp 9 Z (kp 10 Z (.hit (i:=26) Z .nil))))))))<|Ws (aB fn124 (aj Z (ah (y:=((List.range u.length).map (fun k=>rq ((dfQ u t) k)))) (by rfl)) ar) (c_close_squaresa u.length (dfQ u t) hD.r hD.s))<|aE .n (aC (l:=kRC) (u:=rq (sqQ (dfQ u t) u.length)) 0 Z Z Z ai Z Lr)<|Wn<|aA<|tb 0 Z (y:=(rq (dstQ u t))) Z ?_
  exact Qd Z (aY Z (ag 0 Z) ai ay) ⟨Z,Z⟩
theorem c_close_vector (pw:Nat) (b:List (List Int)) (t:List (Int×Int)) (hT:Tgt b t) (r hh:Int×Int) (fv:Value) (x:List Int) (hx:SzL 30000000 x) (hl:x.length=b.length):Con Tryz.prog 177 [VP.pt pw 0,kVC.is x] [OB.box pw 141 (kPair kRed (kPair kTre (kPair kRC (kPair (kSl (kPair kZ kZ)) kVal)))) ((llB b,llU b,llV b,((llS b).length:Int)),((gDs (gram (llB b)) b.length,gLs (gram (llB b)) b.length),tcL (plC b t) b.length,r),hh,t,fv)] (fun p Lo=>p=(kPair kVC (kPair kVC kRC)).is (combA x (llB b),combA x (llU b),(rq (dstQ (combA x (llB b)) t)))∧Lo=[OB.box pw 141 (kPair kRed (kPair kTre (kPair kRC (kPair (kSl (kPair kZ kZ)) kVal)))) ((llB b,llU b,llV b,((llS b).length:Int)),((gDs (gram (llB b)) b.length,gLs (gram (llB b)) b.length),tcL (plC b t) b.length,r),hh,t,fv)]∧True):=by
 refine aN Tryz.func177 Z Z fun m w=>?_
 have hZ:=basis_of hT.e
 have hRB:=redB_of hZ
 have hP:=plC_TZ hT
 have hlR:=hRB.len
 have hn12:=hRB.n
 have hn0:=hRB.n0
 have htl:t.length≤12:=by rw [hT.l];exact hZ.c 0
 have hDP:DistP (combA x (llB b)) t:=plD_P hT hx hl
 refine Cr<|aW .n gS fun b1=>Wr<|Wm Z<|Wm Z<|Ws (cM Z)<|Ws (aw Z fx Z)<|Ws (aw Z eW Z)<|Ws (ae (p:=kMC.is (llB b)) Z (ag 1 Z) (aD (aD Li)) bf Z)<|Ws (aB fn55 (aj Z (dB (SzL.sm hx (by decide))) (aj Z (d3 (hRB.z.sm (by decide))) ar)) (c_mat_Combine 30000000 x (llB b) hx (hRB.z.up (by decide)) (by omega)))<|Wm Z<|Ws (aP Z Z)<|Ws (aP Z Z)<|Wa Z<|Wa Z<|Wr<|Wm Z ?_
 refine Wm Z<|Ws (cM Z)<|Ws (aw Z fx Z)<|Ws (aw Z fld35_1 Z)<|Ws (ae (p:=kMC.is (llU b)) Z (ag 1 Z) (aD (am (aD Li))) bf Z)<|Ws (aB fn55 (aj Z (dB (SzL.sm hx (by decide))) (aj Z (d3 (hRB.zu.sm (by decide))) ar)) (c_mat_Combine 2147483656 x (llU b) (hx.up (by decide)) hRB.zu (by have:=hRB.u.len;omega)))<|Wm Z<|Ws (aP Z Z)<|Ws (aP Z Z)<|Wa Z<|Wa Z<|Wr<|Wm Z<|Wm Z<|Wm Z<|Wm Z<|Ws (cM Z)<|Ws (aw Z fld141_3 Z)<|Ws (ae (p:=(kSl (kPair kZ kZ)).is t) Z (ag 1 Z) (am (am (am (aD Li)))) bN Z)<|Ws (aB fn59 (aj Z (dB (SzL.sm ((combA_Sz hx hRB.z)) (by omega))) (aS Z ar)) (c_close_distancea (combA x (llB b)) t (by assumption)))<|Ws (bY lit53_pr_sl_C_pr_sl_C_pr_C_C___ Z (cy Z (cy Z (cy Z br))) (.cons Z (aD Li) (.cons Z (am (aD Li)) (.cons Z (am (am Li)) (.nil _))))) ?_
 refine aE .n (aC (l:=(kPair kVC (kPair kVC kRC))) (u:=(combA x (llB b),(combA x (llU b),rq (dstQ (combA x (llB b)) t)))) 0 Z Z Z ty53 Z Lr)<|Wn<|aA ?_
 exact cg (.inl Z) Z (dE Z (ag 0 Z) ty53 (ah (y:=(combA x (llB b),combA x (llU b),(rq (dstQ (combA x (llB b)) t)))) (by rfl)) ay) (a9 (OS.skip (OS.keep OS.nil))) ⟨Z,Z,trivial⟩
theorem c_close_told (pw:Nat) (b:List (List Int)) (t:List (Int×Int)) (hT:Tgt b t) (r hh:Int×Int) (fv:Value) (s:List Int) (hs:SzL 30000000 s) (hl:s.length=b.length):Con Tryz.prog 105 [VP.pt pw 0,kVC.is s] [OB.box pw 141 (kPair kRed (kPair kTre (kPair kRC (kPair (kSl (kPair kZ kZ)) kVal)))) ((llB b,llU b,llV b,((llS b).length:Int)),((gDs (gram (llB b)) b.length,gLs (gram (llB b)) b.length),tcL (plC b t) b.length,r),hh,t,fv)] (fun p Lo=>p=(kPair kVC (kPair kVC kRC)).is (combA s.reverse (llB b),combA s.reverse (llU b),(rq (dstQ (combA s.reverse (llB b)) t)))∧Lo=[OB.box pw 141 (kPair kRed (kPair kTre (kPair kRC (kPair (kSl (kPair kZ kZ)) kVal)))) ((llB b,llU b,llV b,((llS b).length:Int)),((gDs (gram (llB b)) b.length,gLs (gram (llB b)) b.length),tcL (plC b t) b.length,r),hh,t,fv)]∧True):=by
 refine aN Tryz.func105 Z Z fun m w=>?_
 have hZ:=basis_of hT.e
 have hRB:=redB_of hZ
 have hP:=plC_TZ hT
 have hlR:=hRB.len
 have hn12:=hRB.n
 have hn0:=hRB.n0
 have htl:t.length≤12:=by rw [hT.l];exact hZ.c 0
 refine Cr<|aW .n gS fun b1=>Wr<|Wm Z<|cC (Li:=[]) (L:=[OB.box b1 53 (kPair kVC (kPair kVC kRC)) ([],([],(0,0))),OB.box pw 141 (kPair kRed (kPair kTre (kPair kRC (kPair (kSl (kPair kZ kZ)) kVal)))) ((llB b,llU b,llV b,((llS b).length:Int)),((gDs (gram (llB b)) b.length,gLs (gram (llB b)) b.length),tcL (plC b t) b.length,r),hh,t,fv)]) .n fn175 (aS Z ar) (c_slices_CloneZ s (by omega)) fun p_ Lo_ hp_=>?_
 obtain ⟨v,rfl,rfl,hx7⟩:=hp_
 refine Wa Z<|Wr<|Wm Z<|cC (Li:=[OB.row v 29 kC s]) (L:=[OB.box b1 53 (kPair kVC (kPair kVC kRC)) ([],([],(0,0))),OB.box pw 141 (kPair kRed (kPair kTre (kPair kRC (kPair (kSl (kPair kZ kZ)) kVal)))) ((llB b,llU b,llV b,((llS b).length:Int)),((gDs (gram (llB b)) b.length,gLs (gram (llB b)) b.length),tcL (plC b t) b.length,r),hh,t,fv)]) .n fn176 (aS Z ar) (c_slices_ReverseZ v s (by omega)) fun p_ Lo_ hp_=>?_
 obtain ⟨rfl,rfl,hx_t9⟩:=hp_
 refine Wr<|Wm Z<|Wm Z<|bL 0 Z (kp 0 Z (kp 1 Z (kp 4 Z (.hit (i:=5) Z (kp 6 Z (.hit (i:=7) Z (.hit (i:=8) Z (kp 9 Z (kp 10 Z (.hit (i:=11) Z .nil))))))))))<|Ws (fb (b:=OB.box pw 141 (kPair kRed (kPair kTre (kPair kRC (kPair (kSl (kPair kZ kZ)) kVal)))) ((llB b,llU b,llV b,((llS b).length:Int)),((gDs (gram (llB b)) b.length,gLs (gram (llB b)) b.length),tcL (plC b t) b.length,r),hh,t,fv)) (ag 1 Z) fn177 (aS Z (aS Z ar)) (c_close_vector pw (by assumption) t (by assumption) r hh fv s.reverse (hs.rev) (by simp;omega)))<|aE .n (aC (l:=(kPair kVC (kPair kVC kRC))) (u:=(combA s.reverse (llB b),combA s.reverse (llU b),(rq (dstQ (combA s.reverse (llB b)) t)))) 0 Z Z Z ty53 Z Lr)<|Wn<|aA ?_
 exact cg (.inl Z) Z (aY Z (ag 0 Z) ty53 ay) (a9 (OS.skip (OS.keep OS.nil))) ⟨Z,Z,trivial⟩
theorem c_close_planned (b:List (List Int)) (t:List (Int×Int)) (hA:askE b t=0):Con Tryz.prog 99 [kMZ.is b,(kSl (kPair kZ kZ)).is t] [] (fun p Lo=>∃(pw:Nat),p=VP.tup [VP.pt pw 0,kN6.is 0]∧Lo=[OB.box pw 141 (kPair kRed (kPair kTre (kPair kRC (kPair (kSl (kPair kZ kZ)) kVal)))) ((llB b,llU b,llV b,((llS b).length:Int)),((gDs (gram (llB b)) b.length,gLs (gram (llB b)) b.length),tcL (plC b t) b.length,(rq (plP b t))),(rq (plH b t)),t,(.func (.func 167) #[] #[]))]∧True):=by
 refine aN Tryz.func99 Z Z fun m w=>?_
 have hT:=tgt_of hA
 have hZ:=basis_of hT.e
 have hRB:=redB_of hZ
 have hP:=plC_TZ hT
 have hlR:=hRB.len
 have hn12:=hRB.n
 have hn0:=hRB.n0
 have htl:t.length≤12:=by rw [hT.l];exact hZ.c 0
 refine Cr<|Wa Z<|Wa Z<|Wn<|ab<|Cr<|Wm Z<|Wm Z<|Ws (f2 fn54 Z Z (c_close_asked b t))<|Wa Z<|Wr<|Wm Z<|Ws (bG Z Z)<|Wn ?_
 refine CN Z (fun h=>h hA) fun h_t14=>?_
 refine Ck<|Cr<|Wm Z<|Ws (bY lit141_pr_pr_sl_sl_C_pr_sl_sl_C_pr_sl_sl_C_int____pr_pr_pr_sl_C_sl_sl_C__pr_sl_pr_C_C__pr_C_C____pr_pr_C_C__pr_sl_pr_Z_Z__val____ Z (bC Z (bn (by rfl)) (cy Z br)) (.cons Z (am (am (am (am Li)))) (.cons Z (am (am (am (aD Li)))) (.nil _))))<|aZ .n Z fun b1=>Wa Z<|Wr<|Wm Z<|Wm Z<|Ws (f1 fn65 Z (c_lll_Reduce b (by assumption) (hT.e)))<|Wm Z<|Ws (aP Z Z)<|Ws (aP Z Z)<|Ws (cM Z)<|Ws (aw Z fx Z)<|aE .n (dx 0 Z Z (aD Li) dG Z Lr)<|Wn<|ab ?_
 refine ak<|Wm Z<|Wm Z<|Ws (cM Z)<|Ws (aw Z fx Z)<|Ws (aw Z eW Z)<|Ws (ae (p:=kMC.is (llB b)) Z (ag 0 Z) (aD (aD Li)) bf Z)<|Ws (aB fn66 (aj Z (d3 (hRB.z.sm (by decide))) ar) (c_gso_Wide 264 (llB b) hRB.z (by decide)))<|Wm Z<|Ws (aP Z Z)<|Ws (aP Z Z)<|Ws (cM Z)<|Ws (aw Z eV Z)<|Ws (aw Z c7 Z)<|aE .n (dx 0 Z Z (am (aD (aD Li))) bl Z Lr)<|Wn<|ab<|tb 0 Z (y:=((llB b,llU b,llV b,((llS b).length:Int)),((gDs (gram (llB b)) b.length,gLs (gram (llB b)) b.length),[],(0,0)),(0,0),t,(.func (.func 167) #[] #[]))) (by rw [hRB.wide.2]) ?_
 refine a5 (Γ:=[.fr (VP.pt b1 0),.fr (VP.pt b1 0),.fr (VP.pt b1 0),.fr (VP.pt b1 0),.fr (VP.pt b1 0),.fr (kMC.is (llB b)),.fr (VP.pt b1 0),.fr (VP.pt b1 0),.fr (VP.pt b1 4),.fr (VP.pt b1 4),.fr (kGso.is (gDs (gram (llB b)) b.length,gLs (gram (llB b)) b.length)),.fr ((kSl (kPair kZ kZ)).is t),.fr ((kSl kRC).is (tcL (plC b t) b.length)),.fr (VP.pt b1 0),.fr (VP.pt b1 4),.fr (VP.pt b1 6)]) (om Z Z (om Z Z (ch Z Z (aa Z (fun N=>aw Z fx Z) (aa Z (fun N=>aw Z eW Z) (aa Z (fun N=>ae (p:=kMC.is (llB b)) Z (mN N 0 Z) (aD (aD Li)) bf Z) (om Z Z (ch Z Z (aa Z (fun N=>aw Z eV Z) (aa Z (fun N=>aw Z c7 Z) (aa Z (fun N=>ae (p:=kGso.is (gDs (gram (llB b)) b.length,gLs (gram (llB b)) b.length)) Z (mN N 0 Z) (am (aD (aD Li))) bl Z) (om Z Z (aa Z (fun N=>aB fn168 (aS Z (aS Z (aS Z ar))) (c_close_coords (by assumption) t (by assumption))) (ch Z Z (aa Z (fun N=>aw Z eV Z) (aa Z (fun N=>aw Z eg Z) oz))))))))))))))))<|fun σ1=>?_
 refine aE .n (dx 0 Z Z (am (aD (am (aD Li)))) bN Z Lr)<|Wr<|Wm Z<|Ws (bY dQ Z br (.nil _))<|Ws (aB eH (aj Z (aL (Sm_lit (by decide))) ar) (ez 0))<|Ws (cM Z)<|Ws (aw Z eV Z)<|Ws (aw Z eO Z)<|aE .n (dx 0 Z Z (am (aD (am (am Li)))) ai Z Lr)<|Wr<|Wm Z<|Ws (fb (b:=OB.box b1 141 (kPair kRed (kPair kTre (kPair kRC (kPair (kSl (kPair kZ kZ)) kVal)))) ((llB b,llU b,llV b,((llS b).length:Int)),(((gDs (gram (llB b)) b.length,gLs (gram (llB b)) b.length),(tcL (plC b t) b.length,rq (0:Rat))),((0,0),t,(.func (.func 167) #[] #[]))))) (ag 0 Z) fn106 (aS Z ar) (c_close_guess_plane b1 (by assumption) t (by assumption) ((0:Int):Rat) (RZ0.up (by decide)) (by decide) (0,0)))<|Wa Z<|Wr<|Wm Z ?_
 refine Wm Z<|Ws (cM Z)<|Ws (aw Z eV Z)<|Ws (ae (p:=kTre.is ((gDs (gram (llB b)) b.length,gLs (gram (llB b)) b.length),(tcL (plC b t) b.length,rq (0:Rat)))) Z (ag 0 Z) (am (aD Li)) cL Z)<|Wm Z<|Ws (aB fn169 (aj Z (ah (y:=((gDs ((plG b)) b.length,gLs ((plG b)) b.length),tcL (plC b t) b.length,(rq ((0:Int):Rat)))) (by rfl)) (aS Z ar)) (c_tree_Part (plG b) b.length (plC b t) ((0:Int):Rat) hP (RZ0.up (by decide)) (by decide) (plS b t false) (plS_sz hT false) (by rw [plS_len];omega)))<|Wm Z<|Ws (aP Z Z)<|Ws (aP Z Z)<|Ws (cM Z)<|Ws (aw Z eV Z)<|Ws (aw Z eO Z)<|aE .n (dx 0 Z Z (am (aD (am (am Li)))) ai Z Lr)<|Wn<|ab<|tb 0 Z (y:=((llB b,llU b,llV b,((llS b).length:Int)),((gDs (gram (llB b)) b.length,gLs (gram (llB b)) b.length),tcL (plC b t) b.length,(rq (plP b t))),(0,0),t,(.func (.func 167) #[] #[]))) (by rw [plP_len])<|ak<|Wm Z<|Wm Z<|Ws (fb (b:=OB.box b1 141 (kPair kRed (kPair kTre (kPair kRC (kPair (kSl (kPair kZ kZ)) kVal)))) ((llB b,llU b,llV b,((llS b).length:Int)),((gDs (gram (llB b)) b.length,gLs (gram (llB b)) b.length),tcL (plC b t) b.length,(rq (plP b t))),(0,0),t,(.func (.func 167) #[] #[]))) (ag 0 Z) fn105 (aS Z (aS Z ar)) (c_close_told b1 (by assumption) t (by assumption) (rq (plP b t)) (0,0) (.func (.func 167) #[] #[]) (plS b t false) (plS_sz hT false) (plS_len b t false)))<|Ws (O.fld Z Z prt53_2 (am (am Li)) Z)<|Ax (l:=kRC) (u:=(rq (dstQ (combA (plS b t false).reverse (llB b)) t))) ba Z ai (fun _=>Z) Lr fun b2=>?_
 refine Wn<|ab ?_
 have hPz:RZ 21000000000 (plP b t):=hP.par (fun x _=>sfx_RZ (plS_sz hT false) x) (Nat.le_refl _)
 have hDz:RZ 60000000000 (dstQ (combA (plS b t false).reverse (llB b)) t):=(plD_P hT (plS_sz hT false).rev (by rw [List.length_reverse];exact plS_len b t false)).s _ (Nat.le_refl _)
 refine a5 (Γ:=[.fr (VP.pt b1 0),.fr (kRC.is (rq (dstQ (combA (plS b t false).reverse (llB b)) t))),.fr (VP.pt b1 0),.fr (VP.pt b1 0),.fr (VP.pt b1 4),.fr (VP.pt b1 7),.fr (kRC.is (rq (plP b t))),.fr (kRC.is (rq ((dstQ (combA (plS b t false).reverse (llB b)) t)-rv (((rq (plP b t)).1),((rq (plP b t)).2))))),.fr (VP.pt b1 0),.fr (VP.pt b1 11)]) (om Z Z (aa Z (fun N=>ae Z (mN N 0 Z) Li ai Z) (om Z Z (ch Z Z (aa Z (fun N=>aw Z eV Z) (aa Z (fun N=>aw Z eO Z) (aa Z (fun N=>ae (p:=kRC.is (rq (plP b t))) Z (mN N 1 Z) (am (aD (am (am Li)))) ai Z) (aa Z (fun N=>aB fn123 (aS Z (aj Z (d9 (eZ (hPz.a.sm (by decide)) (hPz.b.sm (by decide))) (ah (by rfl))) ar)) (gm 60000000000 (dstQ (combA (plS b t false).reverse (llB b)) t) ((rq (plP b t)).1) ((rq (plP b t)).2) hDz ((hPz.up (by decide)).a) ((hPz.up (by decide)).b) (eS _) (by decide))) (ch Z Z (aa Z (fun N=>aw Z fld141_2 Z) oz))))))))))<|fun σ2=>?_
 refine aE .n (dx 1 Z Z (am (am (aD Li))) ai Z Lr)<|Wr<|Wm Z<|Wa Z<|Wa Z<|Wn<|aA<|tb 1 Z (y:=((llB b,llU b,llV b,((llS b).length:Int)),((gDs (gram (llB b)) b.length,gLs (gram (llB b)) b.length),tcL (plC b t) b.length,(rq (plP b t))),(rq (plH b t)),t,(.func (.func 167) #[] #[]))) (by rw [plH_eq hT])<|bg (bm [1] (by decide) Z) ?_
 exact cg (.inl Z) Z (aI Z (aI Z ay)) (aG _) ⟨b1,Z,Z,trivial⟩
theorem c_close_planned_bad (b:List (List Int)) (t:List (Int×Int)) (hA:askE b t≠0):Fn Tryz.prog 99 [kMZ.is b,(kSl (kPair kZ kZ)).is t] (VP.tup [VP.ex (.pointer none),kN6.is (askE b t)]):=by
 refine aN Tryz.func99 Z Z fun m w=>Cr<|Wa Z<|Wa Z<|Wn<|ab<|Cr<|Wm Z<|Wm Z<|Ws (f2 fn54 Z Z (c_close_asked b t))<|Wa Z<|Wr<|Wm Z<|Ws (bG Z Z)<|Wn ?_
 refine CY Z hA fun h_t14=>?_
 refine Cr<|Wm Z<|Wa Z<|Wa Z<|Wn<|aA<|a6 ?_
 exact Qd Z (aI Z (aI Z ay)) ⟨Z,Z⟩
theorem c_close_Plan (b:List (List Int)) (t:List (Int×Int)) (hA:askE b t=0):Fn Tryz.prog 32 [kMZ.is b,(kSl (kPair kZ kZ)).is t] (VP.tup [kTre.is ((gDs (gram (llB b)) b.length,gLs (gram (llB b)) b.length),tcL (plC b t) b.length,(rq (plP b t))),kRed.is (llB b,llU b,llV b,((llS b).length:Int)),kRC.is (rq (plH b t)),kN6.is 0]):=by
 refine aN Tryz.func32 Z Z fun m w=>?_
 have hT:=tgt_of hA
 have hZ:=basis_of hT.e
 have hRB:=redB_of hZ
 have hP:=plC_TZ hT
 have hlR:=hRB.len
 have hn12:=hRB.n
 have hn0:=hRB.n0
 have htl:t.length≤12:=by rw [hT.l];exact hZ.c 0
 refine Cr<|aW .n fo fun b1=>aW .n eR fun b2=>aW .n ba fun b3=>Wa Z<|Wr<|Wm Z<|Wm Z<|cC (Li:=[]) (L:=[OB.box b3 31 kRC (0,0),OB.box b2 35 kRed ([],([],([],0))),OB.box b1 33 kTre (([],[]),([],(0,0)))]) .n fn99 (aS Z (aS Z ar)) (c_close_planned b t (by assumption)) fun p_ Lo_ hp_=>?_
 obtain ⟨pw_t13,rfl,rfl,hx_t13⟩:=hp_
 refine Wm Z<|Ws (aP Z Z)<|Ws (aP Z Z)<|Wa Z<|Wa Z<|Wn<|ab<|Cr<|Wm Z<|Ws (bG Z Z)<|Wn ?_
 refine CN Z (fun h=>h Z) fun h_t17=>?_
 refine Ck<|ab<|ST.imp (ρ':=[(0,kMZ.is b),(1,(kSl (kPair kZ kZ)).is t),(4,VP.pt b1 0),(5,VP.pt b2 0),(6,VP.pt b3 0),(11,kMZ.is b),(12,(kSl (kPair kZ kZ)).is t),(13,VP.tup [VP.pt pw_t13 0,kN6.is 0]),(10,VP.tup [VP.pt pw_t13 0,kN6.is 0]),(14,VP.pt pw_t13 0),(15,kN6.is 0),(8,VP.pt pw_t13 0),(9,kN6.is 0),(16,kN6.is 0),(17,kBool.is (decide (0≠0)))]) (ao Z Z Z Z (ao Z Z Z Z (ao Z Z Z Z (ac Z (ac Z (ac Z aq))))))<|bg (bm [3,2,1,0] (by decide) Z)<|CW.drawN (Γ:=[.fr (VP.pt pw_t13 0),.fr (VP.pt pw_t13 0),.fr (VP.pt pw_t13 4),.fr (kTre.is ((gDs (gram (llB b)) b.length,gLs (gram (llB b)) b.length),tcL (plC b t) b.length,(rq (plP b t)))),.fr (VP.pt pw_t13 0),.fr (VP.pt pw_t13 0),.fr (VP.pt pw_t13 0),.fr (kRed.is (llB b,llU b,llV b,((llS b).length:Int))),.fr (VP.pt pw_t13 0),.fr (VP.pt pw_t13 0),.fr (VP.pt pw_t13 11),.fr (kRC.is (rq (plH b t))),.st 0,.st 1,.st 2,.fr (kN6.is 0)]) (B:=[⟨12,OB.box b1 33 kTre (([],[]),([],(0,0))),OB.box b1 33 kTre ((gDs (gram (llB b)) b.length,gLs (gram (llB b)) b.length),tcL (plC b t) b.length,(rq (plP b t)))⟩,⟨13,OB.box b2 35 kRed ([],([],([],0))),OB.box b2 35 kRed (llB b,llU b,llV b,((llS b).length:Int))⟩,⟨14,OB.box b3 31 kRC (0,0),OB.box b3 31 kRC (rq (plH b t))⟩]) (Lr:=[OB.box pw_t13 141 (kPair kRed (kPair kTre (kPair kRC (kPair (kSl (kPair kZ kZ)) kVal)))) ((llB b,llU b,llV b,((llS b).length:Int)),((gDs (gram (llB b)) b.length,gLs (gram (llB b)) b.length),tcL (plC b t) b.length,(rq (plP b t))),(rq (plH b t)),t,(.func (.func 167) #[] #[]))]) (nm Z Z (nf Z (fun N=>(cM Z)) (nf Z (fun N=>(aw Z eV Z)) (nf Z (fun N=>(ae (p:=kTre.is ((gDs (gram (llB b)) b.length,gLs (gram (llB b)) b.length),tcL (plC b t) b.length,(rq (plP b t)))) Z (mN N 0 Z) (am (aD Li)) cL Z)) (nm Z Z (nf Z (fun N=>(cM Z)) (nf Z (fun N=>(aw Z fx Z)) (nf Z (fun N=>(ae (p:=kRed.is (llB b,llU b,llV b,((llS b).length:Int))) Z (mN N 0 Z) (aD Li) dG Z)) (nm Z Z (nf Z (fun N=>(cM Z)) (nf Z (fun N=>(aw Z fld141_2 Z)) (nf Z (fun N=>(ae (p:=kRC.is (rq (plH b t))) Z (mN N 0 Z) (am (am (aD Li))) ai Z)) (ns Z Z (fun N=>(aC (l:=kTre) (u:=((gDs (gram (llB b)) b.length,gLs (gram (llB b)) b.length),tcL (plC b t) b.length,(rq (plP b t)))) 0 Z Z Z cL Z Lr)) (ns Z Z (fun N=>(aC (l:=kRed) (u:=(llB b,llU b,llV b,((llS b).length:Int))) 0 Z Z Z dG Z Lr)) (ns Z Z (fun N=>(aC (l:=kRC) (u:=(rq (plH b t))) 0 Z Z Z ai Z Lr)) (nf Z (fun N=>(bt Z)) nz))))))))))))))))<|cw<|aA ?_
 exact Qd Z (aY Z (ag 0 Z) cL (aY Z (ag 1 Z) dG (aY Z (ag 2 Z) ai (aI Z ay)))) ⟨Z,Z⟩
theorem c_close_Plan_bad (b:List (List Int)) (t:List (Int×Int)) (hA:askE b t≠0):Fn Tryz.prog 32 [kMZ.is b,(kSl (kPair kZ kZ)).is t] (VP.tup [kTre.is (([],[]),[],(0,0)),kRed.is ([],[],[],0),kRC.is (0,0),kN6.is (askE b t)]):=by
 refine aN Tryz.func32 Z Z fun m w=>Cr<|aW .n fo fun b1=>aW .n eR fun b2=>aW .n ba fun b3=>Wa Z<|Wr<|Wm Z<|Wm Z<|Ws (f2 fn99 Z Z (c_close_planned_bad b t (by assumption)))<|Wm Z<|Ws (aP Z Z)<|Ws (aP Z Z)<|Wa Z<|Wa Z<|Wn<|ab<|Cr ?_
 refine Wm Z<|Ws (bG Z Z)<|Wn ?_
 refine CY Z hA fun h_t17=>?_
 refine Cr<|Ws (bY gQ Z br (.nil _))<|Ws (bY gH Z br (.nil _))<|Ws (bY dP Z br (.nil _))<|Wm Z<|aE .n (aC (l:=kTre) (u:=(([],[]),([],(0,0)))) 2 Z Z Z cL Z Lr)<|aE .n (aC (l:=kRed) (u:=([],([],([],0)))) 1 Z Z Z dG Z Lr)<|aE .n (aC (l:=kRC) (u:=(0,0)) 0 Z Z Z ai Z Lr)<|Wa Z<|Wn<|aA<|a6 ?_
 exact Qd Z (dE Z (ag 2 Z) cL (ah (y:=(([],[]),[],(0,0))) (by rfl)) (dE Z (ag 1 Z) dG (ah (y:=([],[],[],0)) (by rfl)) (aY Z (ag 0 Z) ai (aI Z ay)))) ⟨Z,Z⟩
theorem c_close_Distance (wv:List Int) (t:List (Int×Int)) (hw:sumS bZ wv≤33554432) (ht:sumS bR t≤33554432) (hwl:wv.length≤33554432):Fn Tryz.prog 37 [kVZ.is wv,(kSl (kPair kZ kZ)).is t] (VP.tup [kRC.is (disV wv t),kN6.is (disE wv t)]):=by
 refine aN Tryz.func37 Z Z fun m w=>a8 (i:=0) Z bF fun hB0=>a8 (i:=1) Z bF fun hB1=>Cr<|aW .n ba fun b1=>Wa Z<|Wn<|ab<|Cr<|Wm Z<|Ws (aJ Z U23)<|Wm Z<|Ws (aJ Z U26)<|Ws (bG Z Z)<|Wn ?_
 refine aM Z (fun h_t12=>?_)<|fun h_t12=>?_
 ·
  refine Cr<|Ws (bY dP Z br (.nil _))<|aE .n (aC (l:=kRC) (u:=(0,0)) 0 Z Z Z ai Z Lr)<|Wa Z<|Wn<|aA<|a6<|tb 0 Z (y:=(disV wv t)) (dis_1 (by omega)).2.symm<|tl 5 Z (y:=(disE wv t)) (dis_1 (by omega)).1.symm ?_
  exact Qd Z (aY Z (ag 0 Z) ai (aI Z ay)) ⟨Z,Z⟩
 ·
  refine Ck<|ab<|Cr<|Wm Z<|Ws (aJ Z U26)<|Wm Z<|Wn<|aF<|bJ (fun (i:Nat)=>i≤t.length∧denB t i=true) (fun (i:Nat)=>[(0,kVZ.is wv),(1,(kSl (kPair kZ kZ)).is t),(4,VP.pt b1 0),(5,kN6.is 0),(14,(kSl (kPair kZ kZ)).is t),(15,kN6.is (t.length:Int)),(16,kN6.is (i:Int))]) (fun (i:Nat)=>[OB.box b1 31 kRC (0,0)]) (fun (i:Nat)=>t.length-i) 0 ⟨Nat.zero_le _,denB_0 t⟩ (ao Z Z Z Z (ac Z (ac Z (az Z (ah (y:=(0:Int)) (by rfl)) aq)))) (aG _) ?_
  intro i ⟨hi,hd⟩
  refine Cr<|Ws (aX Z Z)<|Wn<|ab ?_
  refine aM Z (fun h_t17=>?_)<|fun h_t17=>?_
  ·
   refine Ck<|ab<|aF<|Cr<|Ws (aU i Z Z U26 ai Z (v:=(t.getD i (0,0))) (gd (0,0) (by omega)))<|Ws (aO Z ai)<|Ax (l:=(kPair kZ kZ)) (u:=(t.getD i (0,0))) z31_pr_Z_Z_ Z ai (fun _=>Z) Lr fun b2=>Wr<|Ws (aw Z bW Z)<|Ws (ae Z (ag 0 Z) (am Li) af Z)<|Ws (f1 db Z (c9 ((t.getD i (0,0)).2)))<|Ws (dL Z Z)<|Wn ?_
   refine aM Z (fun h_t23=>?_)<|fun h_t23=>?_
   ·
    refine Cr<|Ws (bY dP Z br (.nil _))<|aE .n (aC (l:=kRC) (u:=(0,0)) 1 Z Z Z ai Z Lr)<|Wa Z<|Wn<|aA<|bQ<|a6<|a6<|bQ<|a6<|tb 1 Z (y:=(disV wv t)) (dis_2 (by omega) (fk (i:=i) (by omega) (sgn_npos h_t23))).2.symm<|tl 5 Z (y:=(disE wv t)) (dis_2 (by omega) (fk (i:=i) (by omega) (sgn_npos h_t23))).1.symm ?_
    exact Qd Z (aY Z (ag 1 Z) ai (aI Z ay)) ⟨Z,Z⟩
   ·
    refine cx<|Qb<|ak<|Ws (aR Z Z (c:=((i:Int)+1)) (aH (by omega)))<|Wm Z<|au ?_
    exact bE (i+1) (by omega) ⟨by omega,denB_s (by omega) hd (sgn_pos0 h_t23)⟩ (ao Z Z Z Z (ac Z (ac Z (az Z (ah (y:=(((i+1):Nat):Int)) (by rfl)) aq))))<|a9<|OS.skip<|OS.keep OS.nil
  ·
   refine Ex<|ab ?_
   have hdn:denB t t.length=true:=by rw [show t.length=i by omega];exact hd
   have hle:wv.length=t.length:=by omega
   refine ak<|Wm Z<|Wm Z<|Ws (f2 fn59 Z Z (c_close_distancea wv t (distP_of (by omega) (den_all hdn) hw ht hwl)))<|aE .n (aC (l:=kRC) (u:=rq (dstQ wv t)) 0 Z Z Z ai Z Lr)<|Wa Z<|Wn<|aA<|tb 0 Z (y:=(disV wv t)) (dis_3 (by omega) hdn).2.symm<|tl 5 Z (y:=(disE wv t)) (dis_3 (by omega) hdn).1.symm ?_
   exact Qd Z (aY Z (ag 0 Z) ai (aI Z ay)) ⟨Z,Z⟩
end Fw
namespace Fw
open Go
section
variable {G:Fi} {n:Nat}
end
def uniF:Fi:=fun i k=>if i=k then 1 else 0
def augZ (G:Fi) (n:Nat):Fi:=fun i k=>if k<n then G i k else if k=n+i then 1 else 0
def tabW (r c:Nat) (f:Fi):List (List Int):=(List.range r).map (fun i=>(List.range c).map (f i))
theorem tabW_len (r c f):(tabW r c f).length=r:=by simp [tabW]
theorem tabW_row {r c:Nat} {f:Fi} {i:Nat} (h:i<r):(tabW r c f).getD i []=(List.range c).map (f i):=by
  rw [gde _ [] (by rw [tabW_len];exact h)];simp [tabW]
theorem tabW_get {r c:Nat} {f:Fi} {i:Nat} (h:i<r):(tabW r c f)[i]?=some ((List.range c).map (f i)):=by simp [tabW,h]
abbrev gc:=@tabW_get
theorem tabW_rlen {r c:Nat} {f:Fi} {i:Nat} (h:i<r):((tabW r c f).getD i []).length=c:=by rw [tabW_row h];simp
theorem tabW_app (r c:Nat) (f:Fi):tabW r c f++[(List.range c).map (f r)]=tabW (r+1) c f:=by simp [tabW,List.range_succ]
theorem tabW_rect (r c:Nat) (f:Fi):RectL (tabW r c f):=fun i hi=>by
  rw [tabW_len] at hi
  rw [tabW_rlen hi,tabW_rlen (by omega)]
theorem rgF_at {c k:Nat} {f:Nat→Int} (h:k<c):((List.range c).map f)[k]?=some (f k):=by simp [h]
theorem rgF_len {c:Nat} {f:Nat→Int}:((List.range c).map f).length=c:=by simp
theorem rgF_get {c k:Nat} {f:Nat→Int} (h:k<c):((List.range c).map f).getD k 0=f k:=by simp [h]
theorem SzL_rg {c s:Nat} {f:Nat→Int} (h:∀k,Sz s (f k)):SzL s ((List.range c).map f):=fun k=>by
  by_cases e:k<c
  · rw [rgF_get e];exact h k
  · rw [getD_nil_of _ _ (by simp;omega)];exact Sz.zero _
theorem tabW_Sz {r c s:Nat} {f:Fi} (h:∀i k,Sz s (f i k)):SzM s (tabW r c f):=fun i k=>by
  by_cases e:i<r
  · rw [tabW_row e];exact SzL_rg (h i) k
  · rw [show (tabW r c f).getD i []=[] by rw [List.getD_eq_getElem?_getD,List.getElem?_eq_none (by rw [tabW_len];omega)];rfl];exact Sz.zero _
theorem tabW_sh {r c:Nat} {f:Fi} (h0:0<r):shN (tabW r c f)=(r:Int)∧shM (tabW r c f)=(c:Int)∧shE (tabW r c f)=0:=by
  have hr:=rect_iff.2 (tabW_rect r c f)
  unfold shN shM shE
  rw [if_pos hr,if_pos hr,if_pos hr,tabW_rlen h0,tabW_len];exact ⟨rfl,rfl,rfl⟩
theorem aug_app (G:Fi) (n i:Nat):(List.range n).map (G i)++(List.range n).map (uniF i)=(List.range (2*n)).map (augZ G n i):=by
  apply List.ext_getElem
  · simp;omega
  · intro k h1 h2
    simp at h1
    simp only [List.getElem_map,List.getElem_range]
    unfold augZ
    by_cases e:k<n
    · rw [List.getElem_append_left (by simp;exact e),if_pos e];simp
    · rw [List.getElem_append_right (by simp;omega),if_neg e]
      simp only [List.getElem_map,List.getElem_range,List.length_map,List.length_range]
      unfold uniF
      by_cases e2:k=n+i
      · rw [if_pos e2,if_pos (by omega)]
      · rw [if_neg e2,if_neg (by omega)]
theorem augZ_q (G:Fi) (n:Nat):(fun i k=>((augZ G n i k:Int):Rat))=augQ G n:=by
  funext i k
  unfold augZ augQ
  split
  · rfl
  · split <;> rfl
theorem augZ_Sz {G:Fi} {n s:Nat} (h:∀i k,Sz s (G i k)) (h1:2≤s) (i k:Nat):Sz s (augZ G n i k):=by
  unfold augZ
  split
  · exact h i k
  · split
    · exact Sz.up (n:=2) (show (1:Int).natAbs<2^2 by decide) h1
    · exact Sz.zero _
theorem qF_RZ {f:Fi} {s:Nat} (h:∀i k,Sz s (f i k)) (i k:Nat):RZ (s+1) ((f i k:Int):Rat):=RZ.int ((h i k).up (by omega))
def invR (G:Fi) (n i:Nat):List Rat:=(List.range n).map (invE G n i)
def invL (G:Fi) (n:Nat):Nat→List Rat
  | 0=>[]
  | i+1=>invL G n i++invR G n i
theorem invL_len (G n):∀i,(invL G n i).length=i*n
  | 0=>by simp [invL]
  | i+1=>by show (invL G n i++invR G n i).length=_;rw [List.length_append,invL_len G n i,Nat.succ_mul];simp [invR]
theorem invL_at {G:Fi} {n:Nat}:∀{i x k:Nat},x<i→k<n→(invL G n i).getD (x*n+k) 0=invE G n x k
  | 0,_,_,h,_=>absurd h (by omega)
  | i+1,x,k,h,hk=>by
    show (invL G n i++invR G n i).getD (x*n+k) 0=_
    by_cases e:x<i
    · have h1:x*n+k<i*n:=by have:=Nat.mul_le_mul_right n (show x+1≤i by omega);rw [Nat.succ_mul] at this;omega
      rw [List.getD_eq_getElem?_getD,List.getElem?_append_left (by rw [invL_len];exact h1),←List.getD_eq_getElem?_getD,invL_at e hk]
    · have e2:x=i:=by omega
      subst e2
      rw [List.getD_eq_getElem?_getD,List.getElem?_append_right (by rw [invL_len];omega),invL_len,Nat.add_sub_cancel_left]
      simp [invR,hk]
theorem invL_rq (G:Fi) (n i:Nat):(invL G n i).map rq++(List.range n).map (fun k=>rq (invE G n i k))=(invL G n (i+1)).map rq:=by
  show _=(invL G n i++invR G n i).map rq
  rw [List.map_append];congr 1;simp [invR]
theorem inv_row {G:Fi} {n i:Nat} {f:Fq} (h:RedJ G n (augQ G n) n f) (hs:SymG G) (hp:PosU G n) (hi:i<n):((tabR n (2*n) f).getD i []).drop n=(List.range n).map (fun k=>rq (invE G n i k)):=by
  rw [tabR_row hi]
  apply List.ext_getElem
  · simp;omega
  · intro k h1 h2
    simp at h2
    simp only [List.getElem_drop,List.getElem_map,List.getElem_range]
    rw [h.inv_eq hs hp hi h2]
theorem inv_low {G:Fi} {n:Nat} (hs:SymG G) (hp:PosU G n) (i:Nat):LowOk (invL G n i) (uD G n):=by
  refine ⟨hp.uD (Nat.le_refl n),fun k hk=>?_⟩
  rw [invL_len] at hk
  have h0:0<n:=Nat.pos_of_ne_zero fun e=>by rw [e] at hk;omega
  have e:k=k/n*n+k%n:=by rw [Nat.mul_comm];exact (Nat.div_add_mod k n).symm
  rw [e,invL_at ((Nat.div_lt_iff_lt_mul h0).2 hk) (Nat.mod_lt _ h0)]
  exact invE_den hs hp _ _
theorem inv_RZ2 {G:Fi} {n:Nat} (hs:SymG G) (hp:PosU G n) (h12:n≤12) (hz:∀i j,Sz 540 (G i j)) (i k:Nat):RZ 2300000 ((invL G n i).getD k 0):=by
  by_cases hk:k<i*n
  · have h0:0<n:=Nat.pos_of_ne_zero fun e=>by rw [e] at hk;omega
    have e:k=k/n*n+k%n:=by rw [Nat.mul_comm];exact (Nat.div_add_mod k n).symm
    rw [e,invL_at ((Nat.div_lt_iff_lt_mul h0).2 hk) (Nat.mod_lt _ h0)]
    exact inv_RZ hs hp h12 hz _ _
  · rw [List.getD_eq_getElem?_getD,List.getElem?_eq_none (by rw [invL_len];omega)]
    exact RZ0.up (by decide)
def invN (G:Fi) (n i k:Nat):Int:=lowF (invL G n n) (i*n+k)
def invD (G:Fi) (n:Nat):Int:=lowD (invL G n n)
theorem invN_row {G:Fi} {n i:Nat} (hi:i<n):((lowN (invL G n n)).take ((i+1)*n)).drop (i*n)=(List.range n).map (invN G n i):=by
  have h1:=Nat.mul_le_mul_right n (show i+1≤n by omega)
  rw [Nat.succ_mul] at h1
  apply List.ext_getElem
  · simp [lowN_len,invL_len,Nat.succ_mul];omega
  · intro k h2 h3
    simp at h3
    simp only [List.getElem_drop,List.getElem_take,lowN,List.getElem_map,List.getElem_range]
    rfl
theorem invN_rq {G:Fi} {n i k:Nat} (hs:SymG G) (hp:PosU G n) (hi:i<n) (hk:k<n):rmk (invN G n i k) (invD G n)=rq (invE G n i k):=by
  have h1:i*n+k<(invL G n n).length:=by rw [invL_len];have:=Nat.mul_le_mul_right n (show i+1≤n by omega);rw [Nat.succ_mul] at this;omega
  have:=(inv_low hs hp n).rq h1
  rw [invL_at hi hk] at this
  exact this
theorem invD_pos {G:Fi} {n:Nat} (hs:SymG G) (hp:PosU G n):0<invD G n:=((inv_low hs hp n).f _ (Nat.le_refl _)).1
theorem lowF_Sz {ps:List Rat} {D:Int} {s nD k:Nat} (h:LowOk ps D) (hD:Sz nD D) (hk:k<ps.length) (hz:RZ s (ps.getD k 0)):Sz (s+nD) (lowF ps k):=hz.a.mul (h.q hD hk)
theorem Sz.up2 {a b c:Nat} {z:Int} (h:Sz (a+b) z) (e:a+b=c):Sz c z:=e▸h
theorem invN_Sz {G:Fi} {n i k:Nat} (hs:SymG G) (hp:PosU G n) (h12:n≤12) (hz:∀i j,Sz 540 (G i j)) (hD:Sz 2300000 (uD G n)) (hi:i<n) (hk:k<n):Sz 4600000 (invN G n i k):=
  Sz.up2 (a:=2300000) (b:=2300000) (lowF_Sz (inv_low hs hp n) hD (by rw [invL_len];have:=Nat.mul_le_mul_right n (show i+1≤n by omega);rw [Nat.succ_mul] at this;omega) (inv_RZ2 hs hp h12 hz n _)) rfl
theorem invD_Sz {G:Fi} {n:Nat} (hs:SymG G) (hp:PosU G n) (hD:Sz 2300000 (uD G n)):Sz 2300000 (invD G n):=(inv_low hs hp n).le hD (Nat.le_refl _)
theorem dvA_RZ {s:Nat} {f:Fq} (h:∀i k,RZ s (f i k)) {top c:Nat} (h0:f top c≠0) (i k):RZ (s+s) (divA f top (f top c) i k):=by
  have:=dvF_RZ h (p:=top) (top:=top) (c:=c) h0 i k
  unfold dvF at this;rwa [swapF_self] at this
theorem dvA_RZ1 {s:Nat} {f:Fq} (h:∀i k,RZ s (f i k)) {top c i:Nat} (hi:i≠top) (k):RZ s (divA f top (f top c) i k):=by
  unfold divA;rw [if_neg hi];exact h i k
theorem RedP.step2 {G:Fi} {n s c top:Nat} {f0 f:Fq} {d:Rat} (h:RedP G n f0 s top f d) (e:top=c) (hs:SymG G) (hp:PosU G n) (hc:c<n):RedP G n f0 s (top+1) (elimF (divA f top (f top c)) top c n) (d*f top c):=by
  subst e
  have:=h.step hs hp hc
  unfold rdcF at this
  rwa [swapF_self] at this
theorem RedP.ne {G:Fi} {n s c top:Nat} {f0 f:Fq} {d:Rat} (h:RedP G n f0 s top f d) (e:top=c) (hs:SymG G) (hp:PosU G n) (hc:c<n):f top c≠0:=by
  subst e;exact (h.j.piv hs hp hc).2
theorem map_rq_at {ps:List Rat} {k:Nat} (h:k<ps.length):(ps.map rq)[k]?=some (rq (ps.getD k 0)):=by
  rw [List.getElem?_map,List.getElem?_eq_getElem h,gde _ _ h];rfl
abbrev gD:=@map_rq_at
theorem gcd_Sz {s:Nat} {a b:Int} (h:Sz s b) (h0:0<b):Sz s ((Int.gcd a b:Nat):Int):=by
  refine h.le ?_
  have h1:((Int.gcd a b:Nat):Int)∣b:=Int.gcd_dvd_right ..
  have:=Int.le_of_dvd h0 h1
  omega
theorem gcd_ne2 {a b:Int} (h:b≠0):((Int.gcd a b:Nat):Int)≠0:=by
  intro e
  have h1:((Int.gcd a b:Nat):Int)∣b:=Int.gcd_dvd_right ..
  rw [e] at h1
  exact h (Int.zero_dvd.1 h1)
theorem fdiv_Sz {s:Nat} {a b:Int} (h:Sz s a) (h0:0≤a) (hb:0≤b):Sz s (a.fdiv b):=by
  refine h.le ?_
  rw [Int.fdiv_eq_ediv_of_nonneg _ hb]
  have h5:=Int.ediv_le_self b h0
  have h6:=Int.ediv_nonneg h0 hb
  omega
theorem w64m {a b:Nat} (h:a*b≤1099511627776):IntKind.i64.wrap ((a:Int)*(b:Int))=((a*b:Nat):Int):=by
  rw [←Int.natCast_mul]
  exact w64 (by omega)
end Fw
namespace Fw
open Go Go.Proofs
theorem c_ref06_zero (n:Nat) (p:Rat) (hp:RZ n p) (hn:n≤68719476736):Fn Tryz.prog 260 [kRC.is (rq p)] (kBool.is (decide (p=0))):=by
 refine aN Tryz.func260 Z Z fun m w=>Cr<|aZ .n Z fun b1=>Wa Z<|Wr<|Ws (aw Z cB Z)<|Ws (ae Z (ag 0 Z) (aD Li) af Z)<|Ws (aB eD (aj Z (aL (by exact hp.a.sm (by omega))) ar) (er ((rq p).1)))<|Ws (cq Z Z)<|Wa Z<|Wn<|aA<|tl 2 Z (y:=(decide (p=0))) (decide_eq_decide.2 rq_zero) ?_
 exact Qd Z (aI Z ay) ⟨Z,Z⟩
theorem c_ref06_losep (n mc s i k:Nat) (f:Fq) (q:Rat) (vO:Value) (vs:List Value) (hv:vs.length=n) (hi:i<n) (hk:k<n) (hik:i≠k) (hmc:mc≤24) (hs:s≤9082066261) (hf:∀b,RZ s (f i b)) (hfk:∀b,RZ (s+s) (f k b)) (hq:RZ s q):Con Tryz.prog 261 [VP.ex vO,kN6.is (i:Int),kN6.is (k:Int),kRC.is (rq q)] [OB.row vO 26 kVal vs,OB.fam vs 31 kRC (tabR n mc f)] (fun p Lo=>p=VP.tup []∧Lo=[OB.row vO 26 kVal vs,OB.fam vs 31 kRC (tabR n mc (loseF f i k q mc))]∧True):=by
 refine aN Tryz.func261 Z Z fun m w=>Cr<|aZ .n Z fun b1=>Wr<|Wa Z<|Wn<|aF<|tf 2 Z (y:=(tabR n mc (loseF f i k q 0))) (by rw [loseF_0])<|bJ (fun (c:Nat)=>c≤mc) (fun (c:Nat)=>[(0,VP.ex vO),(1,kN6.is (i:Int)),(2,kN6.is (k:Int)),(7,VP.pt b1 0),(8,kN6.is (c:Int))]) (fun (c:Nat)=>[OB.box b1 31 kRC (rq q),OB.row vO 26 kVal vs,OB.fam vs 31 kRC (tabR n mc (loseF f i k q c))]) (fun (c:Nat)=>mc-c) 0 (by omega) (ao Z Z Z Z (az Z (ah (y:=(0:Int)) (by rfl)) aq)) (aG _) ?_
 intro c hc
 refine ab<|Cr<|Wm Z<|Wm Z<|Wm Z<|Ws (bb (k:=kVal) (xs:=vs) (n:=(i:Int)) i Z Z (ag 1 Z) U148 bN Z (by omega))<|Ws (aV (bp i Z (ag 1 Z) Li Z (y:=(vs.getD i nilV)) (gd nilV (by omega)) bN Z) (bc _))<|Ws (O.lenF i Z (ag 2 Z) Z (by omega) U26)<|tl 14 Z (y:=(mc:Int)) (by rw [tabR_rlen hi])<|Ws (aX Z Z)<|Wn ?_
 refine aM Z (fun h_t15=>?_)<|fun h_t15=>?_
 ·
  refine Ck<|ab<|aF ?_
  refine a5 (Γ:=[.fr (VP.ex vO),.fr (kN6.is (i:Int)),.fr (VP.pel vO (i*1)),.fr (VP.ex (vs.getD i nilV)),.fr (kN6.is (c:Int)),.fr (VP.ex vO),.fr (kN6.is (i:Int)),.fr (VP.pel vO (i*1)),.fr (VP.ex (vs.getD i nilV)),.fr (kN6.is (c:Int)),.fr (VP.pel (vs.getD i nilV) (c*4)),.fr (kRC.is (rq (f i c))),.fr (kRC.is (rq q)),.fr (VP.ex vO),.fr (kN6.is (k:Int)),.fr (VP.pel vO (k*1)),.fr (VP.ex (vs.getD k nilV)),.fr (kN6.is (c:Int)),.fr (VP.pel (vs.getD k nilV) (c*4)),.fr (kRC.is (rq (f k c))),.fr (kRC.is (rq (q*(f k c)))),.fr (kRC.is (rq ((f i c)-(q*f k c)))),.fr (VP.pel (vs.getD i nilV) (c*4))]) (om Z Z (om Z Z (aa Z (fun N=>bb (k:=kVal) (xs:=vs) (n:=(i:Int)) i Z Z (mN N 1 Z) U148 bN Z (by omega)) (aa Z (fun N=>aV (bp i Z (mN N 1 Z) Li Z (y:=(vs.getD i nilV)) (gd nilV (by omega)) bN Z) (bc _)) (om Z Z (om Z Z (om Z Z (aa Z (fun N=>bb (k:=kVal) (xs:=vs) (n:=(i:Int)) i Z Z (mN N 1 Z) U148 bN Z (by omega)) (aa Z (fun N=>aV (bp i Z (mN N 1 Z) Li Z (y:=(vs.getD i nilV)) (gd nilV (by omega)) bN Z) (bc _)) (om Z Z (aa Z (fun N=>cZ (e:=31) (k:=kRC) (xss:=(tabR n mc (loseF f i k q c))) (n:=(c:Int)) i c Z Z (mN N 2 Z) Z (by omega) U26 ai Z (by rw [tabR_rlen (by omega)];omega)) (aa Z (fun N=>dJ (k:=kRC) (xss:=(tabR n mc (loseF f i k q c))) i c Z (mN N 2 Z) Z (by omega) Li Z (y:=(rq (f i c))) (gg (f i c) (by omega) (by omega) loseF_at) ai Z) (aa Z (fun N=>ae Z (mN N 0 Z) Li ai Z) (om Z Z (om Z Z (aa Z (fun N=>bb (k:=kVal) (xs:=vs) (n:=(k:Int)) k Z Z (mN N 1 Z) U148 bN Z (by omega)) (aa Z (fun N=>aV (bp k Z (mN N 1 Z) Li Z (y:=(vs.getD k nilV)) (gd nilV (by omega)) bN Z) (bc _)) (om Z Z (aa Z (fun N=>cZ (e:=31) (k:=kRC) (xss:=(tabR n mc (loseF f i k q c))) (n:=(c:Int)) k c Z Z (mN N 2 Z) Z (by omega) U26 ai Z (by rw [tabR_rlen (by omega)];omega)) (aa Z (fun N=>dJ (k:=kRC) (xss:=(tabR n mc (loseF f i k q c))) k c Z (mN N 2 Z) Z (by omega) Li Z (y:=(rq (f k c))) (gg (f k c) (by omega) (by omega) (loseF_k hik)) ai Z) (aa Z (fun N=>f2 dk Z Z (dp (s+s) q (f k c) (hq.up (by omega)) (hfk c) (by omega))) (aa Z (fun N=>aB d6 (aS Z (aj Z (ah (y:=rq (q*f k c)) (by rfl)) ar)) (eu (s+s+s) (f i c) (q*f k c) ((hf c).up (by omega)) ((hq.mul (hfk c)).up (by omega)) (by omega))) (aa Z (fun N=>cZ (e:=31) (k:=kRC) (xss:=(tabR n mc (loseF f i k q c))) (n:=(c:Int)) i c Z Z (mN N 2 Z) Z (by omega) U26 ai Z (by rw [tabR_rlen (by omega)];omega)) oz)))))))))))))))))))))))<|fun σ1=>?_
  refine aE .n (d7 2 i c Z Z Z (by omega) Li Z (y0:=(((tabR n mc (loseF f i k q c)).getD i []).getD c (0,0))) (gd (0,0) (by rw [tabR_rlen (by omega)];omega)) ai Z Lr)<|au<|Qb<|ak<|Wm Z<|Ws (aR Z Z (c:=((c:Int)+1)) (aH (by omega)))<|Wa Z<|au<|tf 2 Z (y:=(tabR n mc (loseF f i k q (c+1)))) (by rw [tabR_set (f i c-q*f k c) (by omega) (by omega),loseF_upd]) ?_
  exact bE (c+1) (by omega) (by omega) (ao Z Z Z Z (az Z (ah (y:=(((c+1):Nat):Int)) (by rfl)) aq))<|aG _
 ·
  refine dS<|da<|da<|dR<|tf 2 Z (y:=(tabR n mc (loseF f i k q mc))) (by rw [show c=mc by omega]) ?_
  exact cg (.inr Z) Z ay (a9 (OS.skip (OS.keep (OS.keep OS.nil)))) ⟨Z,Z,trivial⟩
theorem c_ref06_ratsp (n mc:Nat) (f:Fi) (hn:n≤12) (hmc:mc≤24):Con Tryz.prog 230 [kMZ.is (tabW n mc f)] [] (fun p Lo=>∃(vO:Value) (vs:List Value),p=VP.ex vO∧Lo=[OB.row vO 26 kVal vs,OB.fam vs 31 kRC (tabR n mc (fun i k=>((f i k:Int):Rat)))]∧vs.length=n):=by
 refine aN Tryz.func230 Z Z fun m w=>Cr<|Wa Z<|Wr<|Wa Z<|Wn<|ab<|Cr<|Wa Z<|Wn<|aF<|bT 26 kVal<|gG 31 kRC<|dz (fun (i:Nat) (v:Value) (us:List Value)=>i≤n∧us.length=i) (fun (i:Nat) (v:Value) (us:List Value)=>[(0,kMZ.is (tabW n mc f)),(3,VP.ex v),(4,kN6.is (i:Int))]) (fun (i:Nat) (v:Value) (us:List Value)=>[OB.fam us 31 kRC ((tabR n mc (fun i k=>((f i k:Int):Rat))).take i),OB.row v 26 kVal us]) (fun (i:Nat) (v:Value) (us:List Value)=>n-i) 0 (.slice none 0 0) [] ⟨Nat.zero_le _,Z⟩ (ac Z (ac Z (az Z (ah (y:=(0:Int)) (by rfl)) aq))) (a9 (OS.keepLe (ff (by rfl) (by rfl)) (OS.keep OS.nil))) ?_
 intro i v us ⟨hi,hvs⟩
 refine ab<|Cr<|Wm Z<|Wm Z<|Ws (aJ Z U22)<|tl 9 Z (y:=(n:Int)) (by rw [tabW_len])<|Ws (aX Z Z)<|Wn ?_
 refine aM Z (fun h_t10=>?_)<|fun h_t10=>?_
 ·
  refine Ck<|ab<|aF<|Cr<|Wa Z<|Wn<|ab<|Cr<|Wa Z<|Wn<|aF<|bT 31 kRC<|bU (fun (k:Nat) (u:Value)=>k≤mc) (fun (k:Nat) (u:Value)=>[(0,kMZ.is (tabW n mc f)),(3,VP.ex v),(4,kN6.is (i:Int)),(5,VP.ex u),(6,kN6.is (k:Int))]) (fun (k:Nat) (u:Value)=>[OB.row u 31 kRC (((tabR n mc (fun i k=>((f i k:Int):Rat))).getD i []).take k),OB.fam us 31 kRC ((tabR n mc (fun i k=>((f i k:Int):Rat))).take i),OB.row v 26 kVal us]) (fun (k:Nat) (u:Value)=>mc-k) 0 (.slice none 0 0) (by omega) (ao Z Z Z Z (az Z (ah (y:=(0:Int)) (by rfl)) aq)) (a9 (OS.keepLe (bi (by rfl)) (OS.keepLe (ff (by rfl) (by rfl)) (OS.keep OS.nil)))) ?_
  intro k u hk
  refine ab<|Cr<|Wm Z<|Wm Z<|Wm Z<|Ws (aU i Z Z U22 aK Z (v:=((List.range mc).map (f i))) (gc (by omega)))<|Ws (aO Z aK)<|Ws (aJ Z U23)<|tl 18 Z (y:=(mc:Int)) (by rw [rgF_len])<|Ws (aX Z Z)<|Wn ?_
  refine aM Z (fun h_t19=>?_)<|fun h_t19=>?_
  ·
   refine Ck<|ab<|aF<|ak<|Wm Z<|Wm Z<|Wm Z<|Ws (aU i Z Z U22 aK Z (v:=((List.range mc).map (f i))) (gc (by omega)))<|Ws (aO Z aK)<|Wm Z<|Ws (aU k Z Z U23 af Z (v:=(f i k)) (rgF_at (by omega)))<|Ws (aO Z af)<|Ws (f1 dK Z (dH (f i k)))<|Ws (bB U26 dn (bV Z bA) Z (by decide))<|bI 0 .n Z Z Z Lr U26 dn (by simp only [List.length_cons,List.length_nil,List.length_take];omega) fun v1=>Wa Z<|au<|Qb<|ak<|Wm Z<|Ws (aR Z Z (c:=((k:Int)+1)) (aH (by omega)))<|Wa Z ?_
   refine au<|tr 0 Z (y:=(((tabR n mc (fun i k=>((f i k:Int):Rat))).getD i []).take (k+1))) (take_app2 (tabR_at (by omega) (by omega))) ?_
   exact bS (k+1) v1 (by omega) (by omega) (ao Z Z Z Z (az Z (ah (y:=(((k+1):Nat):Int)) (by rfl)) aq))<|a9<|OS.keepLe (bi (by rfl))<|OS.keepLe (ff (by rfl) (by rfl))<|OS.keep OS.nil
  ·
   refine Ex<|ak<|Wm Z<|Wm Z<|bo 0 Z fun hcell_=>Ws (bB U148 el26_val (cz Z (bn (by assumption)) bA) Z (by decide))<|bI 2 .n Z Z Z Lr U148 el26_val (by simp only [List.length_cons,List.length_nil,List.length_take];omega) fun v2=>Wa Z<|au<|Qb<|ak<|Wm Z<|Ws (aR Z Z (c:=((i:Int)+1)) (aH (by omega)))<|Wa Z<|au<|tr 0 Z (y:=((tabR n mc (fun i k=>((f i k:Int):Rat))).getD i [])) (List.take_of_length_le (by rw [tabR_rlen (by omega)];omega))<|bg (fam_push 0 Z)<|tf 0 Z (y:=((tabR n mc (fun i k=>((f i k:Int):Rat))).take (i+1))) (fG (by rw [tabR_len];omega)) ?_
   exact dd (i+1) v2 (us++[u]) (by omega) ⟨by omega,by simp [hvs]⟩ (ac Z (ac Z (az Z (ah (y:=(((i+1):Nat):Int)) (by rfl)) aq)))<|a9<|OS.keepLe (ff (by rfl) (by rfl))<|OS.keep OS.nil
 ·
  refine Ex<|Cr<|Wm Z<|Wa Z<|Wn<|aA ?_
  have hvl:us.length=n:=by omega
  refine tf 0 Z (y:=(tabR n mc (fun i k=>((f i k:Int):Rat)))) (List.take_of_length_le (by rw [tabR_len];omega))<|bg (bm [1,0] (by decide) Z) ?_
  exact cg (.inl Z) Z (aI Z ay) (aG _) ⟨v,us,Z,Z,hvl⟩
set_option maxHeartbeats 4000000 in
theorem c_ref06_reducedp (G:Fi) (n:Nat) (hs:SymG G) (hp:PosU G n) (h0:0<n) (h12:n≤12) (hz:∀i j,Sz 540 (G i j)) (mc:Nat) (f0:Fq) (hnm:n≤mc) (hmc:mc≤24) (hf0:∀i k,i<n→k<n→f0 i k=(G i k:Rat)) (hfz:∀i k,RZ 541 (f0 i k)) (vO:Value) (vs0:List Value) (hv0:vs0.length=n):Con Tryz.prog 229 [VP.ex vO,kN6.is (mc:Int)] [OB.row vO 26 kVal vs0,OB.fam vs0 31 kRC (tabR n mc f0)] (fun p Lo=>∃(f:Fq) (hd:List Int) (d:Rat),p=VP.tup [(kSl (kSl kRC)).is (tabR n mc f),(kSl kI64).is hd,kRC.is (rq d)]∧Lo=[]∧RedJ G n f0 n f∧hd.length=n):=by
 refine aN Tryz.func229 Z Z fun m w=>?_
 have hsz:∀c,c<n→4*szE 541 c+1≤9082066261:=fun c hc=>szE_lt (by omega)
 refine Cr<|Wa Z<|Wa Z<|aW .n ba fun b1=>Wr<|Ws (aB dO (aj Z (cP (by omega)) ar) (dM 1))<|Ws (aB dK (aj Z (aL (by exact Sm_lit (by decide))) ar) (dH 1))<|Ax (l:=kRC) (u:=rq (1:Rat)) ba Z ai (fun _=>Z) Lr fun b2=>Wr<|Wa Z<|Wr<|Wa Z<|au ?_
 refine cw<|ab<|Cr<|Wa Z<|Wn<|aF<|bT 3 kI64<|tb 1 Z (y:=(rq 1)) Z<|CW.loop6 (fun (c:Nat) (top:Nat) (f:Fq) (d:Rat) (vh:Value) (hs1:List Int)=>c≤mc∧top=min c n∧RedP G n f0 541 top f d∧hs1.length=top) (fun (c:Nat) (top:Nat) (f:Fq) (d:Rat) (vh:Value) (hs1:List Int)=>[(0,VP.ex vO),(1,kN6.is (mc:Int)),(6,VP.pt b1 0),(7,VP.pt b2 0),(8,VP.ex vh),(9,kN6.is (top:Int)),(10,kN6.is (c:Int))]) (fun (c:Nat) (top:Nat) (f:Fq) (d:Rat) (vh:Value) (hs1:List Int)=>[OB.row vh 3 kI64 hs1,OB.box b2 31 kRC (rq d),OB.box b1 31 kRC (0,0),OB.row vO 26 kVal vs0,OB.fam vs0 31 kRC (tabR n mc f)]) (fun (c:Nat) (top:Nat) (f:Fq) (d:Rat) (vh:Value) (hs1:List Int)=>mc-c) 0 0 f0 1 (.slice none 0 0) [] ⟨Nat.zero_le _,by omega,redP_0 hf0 hfz (by decide),Z⟩ (ao Z Z Z Z (ac Z (az Z (ah (y:=(0:Int)) (by rfl)) (az Z (ah (y:=(0:Int)) (by rfl)) aq)))) (aG _) ?_
 intro c top f d vh hs1 ⟨hc,htop,hR,hhs⟩
 refine ab<|Cr<|Wm Z<|Wm Z<|Ws (aX Z Z)<|Wn ?_
 refine aM Z (fun h_t19=>?_)<|fun h_t19=>?_
 ·
  refine Ck<|ab<|aF<|Cr<|Wm Z<|Wa Z<|Wn<|ab<|aF<|bJ (fun (zz:Nat)=>True) (fun (zz:Nat)=>[(0,VP.ex vO),(1,kN6.is (mc:Int)),(6,VP.pt b1 0),(7,VP.pt b2 0),(8,VP.ex vh),(9,kN6.is (top:Int)),(10,kN6.is (c:Int)),(11,kN6.is (top:Int))]) (fun (zz:Nat)=>[OB.row vh 3 kI64 hs1,OB.box b2 31 kRC (rq d),OB.box b1 31 kRC (0,0),OB.row vO 26 kVal vs0,OB.fam vs0 31 kRC (tabR n mc f)]) (fun (zz:Nat)=>0) 0 trivial (ao Z Z Z Z (ac Z (ac Z (ac Z (ac Z aq))))) (aG _) ?_
  intro zz _
  refine ab<|Cr<|Wm Z<|Wm Z<|Ws (de Z (ag 3 Z) U148)<|Ws (aX Z Z)<|Wm Z ?_
  refine cG 27 Z (fun h_t27=>?_)<|fun h_t27=>?_
  ·
   have htc:top=c:=by omega
   have hne:f top c≠0:=hR.ne htc hs hp (by omega)
   refine Wg Z Z (cd Z)<|Wg Z Z (cd Z)<|Wg Z Z (bb (k:=kVal) (xs:=vs0) (n:=(top:Int)) top Z Z (ag 3 Z) U148 bN Z (by omega))<|Wg Z Z (aV (bp top Z (ag 3 Z) Li Z (y:=(vs0.getD top nilV)) (gd nilV (by omega)) bN Z) (bc _))<|Wg Z Z (cd Z)<|Wg Z Z (cZ (e:=31) (k:=kRC) (xss:=(tabR n mc f)) (n:=(c:Int)) top c Z Z (ag 4 Z) Z (by omega) U26 ai Z (by rw [tabR_rlen (by omega)];omega))<|Wg Z Z (dJ (k:=kRC) (xss:=(tabR n mc f)) top c Z (ag 4 Z) Z (by omega) Li Z (y:=(rq (f top c))) (tabR_at (by omega) (by omega)) ai Z)<|Wg Z Z (f1 fn260 Z (c_ref06_zero (szE 541 top) (f top c) (hR.z top c) (by have:=hsz top (by omega);omega)))<|Ws (cE Z Z)<|Wn ?_
   refine CN Z hne fun h_t36=>?_
   refine Ex<|ab<|Cr<|Wm Z<|Wm Z<|Ws (de Z (ag 3 Z) U148)<|Ws (cq Z Z)<|Wn ?_
   refine CN Z (by omega) fun h_t42=>?_
   refine Ck<|ab<|Cr<|Wm Z<|Wm Z<|Ws (bG Z Z)<|Wn ?_
   refine CN Z (fun h=>h Z) fun h_t47=>?_
   refine Ck<|Cr<|Wm Z<|Wm Z<|Ws (bb (k:=kVal) (xs:=vs0) (n:=(top:Int)) top Z Z (ag 3 Z) U148 bN Z (by omega))<|Ws (aV (bp top Z (ag 3 Z) Li Z (y:=(vs0.getD top nilV)) (gd nilV (by omega)) bN Z) (bc _))<|Wm Z<|Ws (cZ (e:=31) (k:=kRC) (xss:=(tabR n mc f)) (n:=(c:Int)) top c Z Z (ag 4 Z) Z (by omega) U26 ai Z (by rw [tabR_rlen (by omega)];omega))<|Ws (dJ (k:=kRC) (xss:=(tabR n mc f)) top c Z (ag 4 Z) Z (by omega) Li Z (y:=(rq (f top c))) (tabR_at (by omega) (by omega)) ai Z)<|Ax (l:=kRC) (u:=(rq (f top c))) ba Z ai (fun _=>Z) Lr fun b3=>Wr<|Ws (ae Z (ag 2 Z) Li ai Z)<|Ws (ae Z (ag 0 Z) Li ai Z)<|Ws (f2 dk Z Z (dp (szE 541 top+1) d (f top c) hR.zd ((hR.z top c).up (by omega)) (by have:=hsz top (by omega);omega)))<|aE .n (aC (l:=kRC) (u:=rq (d*(f top c))) 2 Z Z Z ai Z Lr)<|Wn<|ab ?_
   refine Cr<|Wa Z<|Wn<|aF<|tf 5 Z (y:=(tabR n mc (divF f top (f top c) 0))) (by rw [divF_0])<|bJ (fun (k:Nat)=>k≤mc) (fun (k:Nat)=>[(0,VP.ex vO),(1,kN6.is (mc:Int)),(6,VP.pt b1 0),(7,VP.pt b2 0),(8,VP.ex vh),(9,kN6.is (top:Int)),(10,kN6.is (c:Int)),(12,VP.pt b3 0),(13,kN6.is (k:Int))]) (fun (k:Nat)=>[OB.box b3 31 kRC (rq (f top c)),OB.row vh 3 kI64 hs1,OB.box b2 31 kRC (rq (d*f top c)),OB.box b1 31 kRC (0,0),OB.row vO 26 kVal vs0,OB.fam vs0 31 kRC (tabR n mc (divF f top (f top c) k))]) (fun (k:Nat)=>mc-k) 0 (by omega) (ao Z Z Z Z (ao Z Z Z Z (az Z (ah (y:=(0:Int)) (by rfl)) aq))) (a9 (OS.keep (OS.keep (OS.keepLe (cm (by rfl)) (OS.keep (OS.keep (OS.keep OS.nil))))))) ?_
   intro k hk
   refine ab<|Cr<|Wm Z<|Wm Z<|Ws (aX Z Z)<|Wn ?_
   refine aM Z (fun h_t76=>?_)<|fun h_t76=>?_
   ·
    refine Ck<|ab<|aF ?_
    refine a5 (Γ:=[.fr (VP.ex vO),.fr (kN6.is (top:Int)),.fr (VP.pel vO (top*1)),.fr (VP.ex (vs0.getD top nilV)),.fr (kN6.is (k:Int)),.fr (VP.ex vO),.fr (kN6.is (top:Int)),.fr (VP.pel vO (top*1)),.fr (VP.ex (vs0.getD top nilV)),.fr (kN6.is (k:Int)),.fr (VP.pel (vs0.getD top nilV) (k*4)),.fr (kRC.is (rq (f top k))),.fr (kRC.is (rq (f top c))),.fr (kRC.is (rq ((f top k)/(f top c)))),.fr (VP.pel (vs0.getD top nilV) (k*4))]) (om Z Z (om Z Z (aa Z (fun N=>bb (k:=kVal) (xs:=vs0) (n:=(top:Int)) top Z Z (mN N 4 Z) U148 bN Z (by omega)) (aa Z (fun N=>aV (bp top Z (mN N 4 Z) Li Z (y:=(vs0.getD top nilV)) (gd nilV (by omega)) bN Z) (bc _)) (om Z Z (om Z Z (om Z Z (aa Z (fun N=>bb (k:=kVal) (xs:=vs0) (n:=(top:Int)) top Z Z (mN N 4 Z) U148 bN Z (by omega)) (aa Z (fun N=>aV (bp top Z (mN N 4 Z) Li Z (y:=(vs0.getD top nilV)) (gd nilV (by omega)) bN Z) (bc _)) (om Z Z (aa Z (fun N=>cZ (e:=31) (k:=kRC) (xss:=(tabR n mc (divF f top (f top c) k))) (n:=(k:Int)) top k Z Z (mN N 5 Z) Z (by omega) U26 ai Z (by rw [tabR_rlen (by omega)];omega)) (aa Z (fun N=>dJ (k:=kRC) (xss:=(tabR n mc (divF f top (f top c) k))) top k Z (mN N 5 Z) Z (by omega) Li Z (y:=(rq (f top k))) (gg (f top k) (by omega) (by omega) divF_at) ai Z) (aa Z (fun N=>ae Z (mN N 0 Z) Li ai Z) (aa Z (fun N=>f2 fn76 Z Z (c_ref03_Div (szE 541 top) (f top k) (f top c) (hR.z top k) (hR.z top c) (by have:=hsz top (by omega);omega) hne)) (aa Z (fun N=>cZ (e:=31) (k:=kRC) (xss:=(tabR n mc (divF f top (f top c) k))) (n:=(k:Int)) top k Z Z (mN N 5 Z) Z (by omega) U26 ai Z (by rw [tabR_rlen (by omega)];omega)) oz)))))))))))))))<|fun σ1=>?_
    refine aE .n (d7 5 top k Z Z Z (by omega) Li Z (y0:=(((tabR n mc (divF f top (f top c) k)).getD top []).getD k (0,0))) (gd (0,0) (by rw [tabR_rlen (by omega)];omega)) ai Z Lr)<|au<|Qb<|ak<|Wm Z<|Ws (aR Z Z (c:=((k:Int)+1)) (aH (by omega)))<|Wa Z<|au<|tf 5 Z (y:=(tabR n mc (divF f top (f top c) (k+1)))) (by rw [tabR_set (f top k/f top c) (by omega) (by omega),divF_upd]) ?_
    exact bE (k+1) (by omega) (by omega) (ao Z Z Z Z (ao Z Z Z Z (az Z (ah (y:=(((k+1):Nat):Int)) (by rfl)) aq)))<|aG _
   ·
    refine Ex<|ab<|Cr<|Wa Z<|Wn<|aF<|tf 5 Z (y:=(tabR n mc (elimF (divA f top (f top c)) top c 0))) (by rw [elimF_0,show k=mc by omega];exact tabR_div)<|bJ (fun (i:Nat)=>i≤n) (fun (i:Nat)=>[(0,VP.ex vO),(1,kN6.is (mc:Int)),(6,VP.pt b1 0),(7,VP.pt b2 0),(8,VP.ex vh),(9,kN6.is (top:Int)),(10,kN6.is (c:Int)),(14,kN6.is (i:Int))]) (fun (i:Nat)=>[OB.row vh 3 kI64 hs1,OB.box b2 31 kRC (rq (d*f top c)),OB.box b1 31 kRC (0,0),OB.row vO 26 kVal vs0,OB.fam vs0 31 kRC (tabR n mc (elimF (divA f top (f top c)) top c i))]) (fun (i:Nat)=>n-i) 0 (by omega) (ao Z Z Z Z (ac Z (ac Z (ac Z (az Z (ah (y:=(0:Int)) (by rfl)) aq))))) (a9 (OS.skip (OS.keep (OS.keep (OS.keep (OS.keep (OS.keep OS.nil))))))) ?_
    intro i hi
    refine ab<|Cr<|Wm Z<|Wm Z<|Ws (de Z (ag 3 Z) U148)<|Ws (aX Z Z)<|Wn ?_
    refine aM Z (fun h_t97=>?_)<|fun h_t97=>?_
    ·
     refine Ck<|ab<|aF<|Cr<|Wm Z<|Wm Z<|Ws (bG Z Z)<|Wm Z ?_
     refine cG 103 Z (fun h_t103=>?_)<|fun h_t103=>?_
     ·
      refine Wg Z Z (cd Z)<|Wg Z Z (cd Z)<|Wg Z Z (bb (k:=kVal) (xs:=vs0) (n:=(i:Int)) i Z Z (ag 3 Z) U148 bN Z (by omega))<|Wg Z Z (aV (bp i Z (ag 3 Z) Li Z (y:=(vs0.getD i nilV)) (gd nilV (by omega)) bN Z) (bc _))<|Wg Z Z (cd Z)<|Wg Z Z (cZ (e:=31) (k:=kRC) (xss:=(tabR n mc (elimF (divA f top (f top c)) top c i))) (n:=(c:Int)) i c Z Z (ag 4 Z) Z (by omega) U26 ai Z (by rw [tabR_rlen (by omega)];omega))<|Wg Z Z (dJ (k:=kRC) (xss:=(tabR n mc (elimF (divA f top (f top c)) top c i))) i c Z (ag 4 Z) Z (by omega) Li Z (y:=(rq (divA f top (f top c) i c))) (gg (divA f top (f top c) i c) (by omega) (by omega) elimF_i) ai Z)<|Wg Z Z (f1 fn260 Z (c_ref06_zero (szE 541 top) (divA f top (f top c) i c) (dvA_RZ1 hR.z (by omega) c) (by have:=hsz top (by omega);omega)))<|Wg Z Z (dh Z)<|Ws (cE Z Z)<|Wn ?_
      refine eh Z (fun h_t113=>?_)<|fun h_t113=>?_
      ·
       refine ak<|Wm Z<|Wm Z<|Wm Z<|Wm Z<|Wm Z<|Ws (bb (k:=kVal) (xs:=vs0) (n:=(i:Int)) i Z Z (ag 3 Z) U148 bN Z (by omega))<|Ws (aV (bp i Z (ag 3 Z) Li Z (y:=(vs0.getD i nilV)) (gd nilV (by omega)) bN Z) (bc _))<|Wm Z<|Ws (cZ (e:=31) (k:=kRC) (xss:=(tabR n mc (elimF (divA f top (f top c)) top c i))) (n:=(c:Int)) i c Z Z (ag 4 Z) Z (by omega) U26 ai Z (by rw [tabR_rlen (by omega)];omega))<|Ws (dJ (k:=kRC) (xss:=(tabR n mc (elimF (divA f top (f top c)) top c i))) i c Z (ag 4 Z) Z (by omega) Li Z (y:=(rq (divA f top (f top c) i c))) (gg (divA f top (f top c) i c) (by omega) (by omega) elimF_i) ai Z)<|bg (bm [3,4,0,1,2] (by decide) Z)<|cC (Li:=[OB.row vO 26 kVal vs0,OB.fam vs0 31 kRC (tabR n mc (elimF (divA f top (f top c)) top c i))]) (L:=[OB.row vh 3 kI64 hs1,OB.box b2 31 kRC (rq (d*f top c)),OB.box b1 31 kRC (0,0)]) .n fn261 (aS Z (aS Z (aS Z (aS Z ar)))) (c_ref06_losep n mc (szE 541 top) i top (elimF (divA f top (f top c)) top c i) (divA f top (f top c) i c) vO vs0 (by omega) (by omega) (by omega) (by omega) hmc (by have:=hsz top (by omega);omega) (fun x=>by rw [elimF_i];exact dvA_RZ1 hR.z (by omega) x) (fun x=>by rw [elimF_top];exact dvA_RZ hR.z hne top x) (dvA_RZ1 hR.z (by omega) c)) fun p_ Lo_ hp_=>?_
       obtain ⟨rfl,rfl,hx_t124⟩:=hp_
       refine au<|Qb<|ak<|Wm Z<|Ws (aR Z Z (c:=((i:Int)+1)) (aH (by omega)))<|Wa Z<|au<|bg (bm [2,3,4,0,1] (by decide) Z)<|tf 4 Z (y:=(tabR n mc (elimF (divA f top (f top c)) top c (i+1)))) (elimF_lose2 (by omega)) ?_
       exact bE (i+1) (by omega) (by omega) (ao Z Z Z Z (ac Z (ac Z (ac Z (az Z (ah (y:=(((i+1):Nat):Int)) (by rfl)) aq)))))<|aG _
      ·
       refine cx<|Qb<|ak<|Wm Z<|Ws (aR Z Z (c:=((i:Int)+1)) (aH (by omega)))<|Wa Z<|au<|tf 4 Z (y:=(tabR n mc (elimF (divA f top (f top c)) top c (i+1)))) (by rw [elimF_skip (.inr (by simpa using h_t113))]) ?_
       exact bE (i+1) (by omega) (by omega) (ao Z Z Z Z (ac Z (ac Z (ac Z (az Z (ah (y:=(((i+1):Nat):Int)) (by rfl)) aq)))))<|aG _
     ·
      refine Kf Z Z<|Kf Z Z<|Kf Z Z<|Kf Z Z<|Kf Z Z<|Kf Z Z<|Kf Z Z<|Kf Z Z<|Kf Z Z<|Ws (cb Z Z)<|Wn<|dj Z<|cx<|Qb<|ak<|Wm Z<|Ws (aR Z Z (c:=((i:Int)+1)) (aH (by omega)))<|Wa Z<|au<|tf 4 Z (y:=(tabR n mc (elimF (divA f top (f top c)) top c (i+1)))) (by rw [elimF_skip (.inl (by omega))]) ?_
      exact bE (i+1) (by omega) (by omega) (ao Z Z Z Z (ac Z (ac Z (ac Z (az Z (ah (y:=(((i+1):Nat):Int)) (by rfl)) aq)))))<|aG _
    ·
     refine Ex<|Cr<|Wm Z<|Wm Z<|Ws (bB U155 fN (cz Z (cP (by omega)) bA) Z (by decide))<|bI 0 .n Z Z Z Lr U155 fN (by simp;omega) fun v4=>Wa Z<|Wn<|ak<|Wm Z<|Ws (aR Z Z (c:=((top:Int)+1)) (aH (by omega)))<|Wa Z<|au<|Qb<|ak<|Wm Z<|Ws (aR Z Z (c:=((c:Int)+1)) (aH (by omega))) ?_
     refine Wa Z<|au<|tf 4 Z (y:=(tabR n mc (elimF (divA f top (f top c)) top c n))) (by rw [show i=n by omega]) ?_
     exact ft (c+1) (top+1) (elimF (divA f top (f top c)) top c n) (d*f top c) v4 (hs1++[(c:Int)]) (by omega) ⟨by omega,by omega,hR.step2 htc hs hp (by omega),by simp [hhs]⟩ (ao Z Z Z Z (ac Z (az Z (ah (y:=(((top+1):Nat):Int)) (by rfl)) (az Z (ah (y:=(((c+1):Nat):Int)) (by rfl)) aq))))<|aG _
  ·
   refine Kf Z Z<|Kf Z Z<|Kf Z Z<|Kf Z Z<|Kf Z Z<|Kf Z Z<|Kf Z Z<|Kf Z Z<|Ws (cb Z Z)<|Wn<|dj Z<|Ex<|ab<|Cr<|Wm Z<|Wm Z<|Ws (de Z (ag 3 Z) U148)<|Ws (cq Z Z) ?_
   refine Wn ?_
   refine CY Z (by omega) fun h_t42=>?_
   refine Cr<|Ws (aB dO (aj Z (cP (by omega)) ar) (dM 0))<|Ws (aB dK (aj Z (aL (by exact Sm_lit (by decide))) ar) (dH 0))<|aE .n (aC (l:=kRC) (u:=rq (0:Rat)) 1 Z Z Z ai Z Lr)<|Wn<|dS<|da<|dR<|cw<|ak<|Wm Z<|Ws (aR Z Z (c:=((c:Int)+1)) (aH (by omega)))<|Wa Z<|au<|tb 1 Z (y:=(rq 0)) Z ?_
   exact ft (c+1) top f 0 vh hs1 (by omega) ⟨by omega,by omega,hR.zero (c2:=c),hhs⟩ (ao Z Z Z Z (ac Z (ac Z (az Z (ah (y:=(((c+1):Nat):Int)) (by rfl)) aq))))<|aG _
 ·
  refine Ex<|ab ?_
  have htn:top=n:=by omega
  refine ST.freezeM 4 3 Z Z (.hit (i:=0) Z (kp 1 Z (kp 6 Z (kp 7 Z (kp 8 Z (kp 9 Z (kp 10 Z (kp 17 Z (kp 18 Z (kp 19 Z .nil))))))))))<|bg (bm [2,0,1] (by decide) Z)<|CW.drawN (Γ:=[.fr ((kSl (kSl kRC)).is (tabR n mc f)),.fr (kN6.is (top:Int)),.fr ((kSl (kSl kRC)).is ((tabR n mc f).take top)),.fr (VP.ex vh),.fr (kRC.is (rq d)),.fr ((kSl (kSl kRC)).is ((tabR n mc f).take top)),.fr (VP.ex vh),.st 0]) (B:=[⟨7,OB.box b1 31 kRC (0,0),OB.box b1 31 kRC (rq d)⟩]) (Lr:=[OB.row vh 3 kI64 hs1,OB.box b2 31 kRC (rq d)]) (nm Z Z (nm Z Z (nf Z (fun N=>(O.slH top Z Z U148 bN Z (by simp only [tabW_len,tabR_len,rgF_len];omega))) (nm Z Z (nf Z (fun N=>(ae Z (mN N 1 Z) Li ai Z)) (nf Z (fun N=>(bt Z)) (nf Z (fun N=>(bt Z)) (ns Z Z (fun N=>(aC (l:=kRC) (u:=(rq d)) 0 Z Z Z ai Z Lr)) nz))))))))<|cw<|aA<|bL 1 Z (kp 0 Z (kp 1 Z (kp 4 Z (.hit (i:=5) Z (kp 6 Z (kp 7 Z (.hit (i:=8) Z (kp 9 Z (kp 10 Z (kp 17 Z (kp 18 Z (kp 19 Z (kp 131 Z (kp 132 Z (kp 133 Z (.hit (i:=134) Z (kp 135 Z .nil)))))))))))))))))<|tl 4 Z (y:=(tabR n mc f)) (by rw [htn];exact List.take_of_length_le (by rw [tabR_len];omega)) ?_
  exact cg (.inl Z) Z (aI Z (aI Z (aY Z (ag 0 Z) ai ay))) (fL (List.nil_sublist _)) ⟨f,hs1,d,Z,Z,⟨(htn▸hR).j,by omega⟩⟩
theorem c_ref06_Checkp (n c:Nat) (f:Fi) (h0:0<n) (h12:n≤12) (hc:c≤24):Fn Tryz.prog 227 [kMZ.is (tabW n c f)] (kN6.is 0):=by
 refine aN Tryz.func227 Z Z fun m w=>?_
 have hsh:=tabW_sh (c:=c) (f:=f) h0
 refine Cr<|Wa Z<|Wr<|Wm Z<|Ws (f1 fn126 Z (gJ (tabW n c f)))<|Wm Z<|Ws (aP Z Z)<|Ws (aP Z Z)<|Ws (aP Z Z)<|Wa Z<|Wa Z<|Wa Z<|Wn<|ab<|Cr<|Wm Z<|Ws (bG Z Z)<|au ?_
 refine cw ?_
 refine CN Z (by omega) fun h_t13=>?_
 refine Ck<|ab<|Cr<|Wm Z<|Ws (cF Z Z)<|Wm Z ?_
 refine cG 16 Z (fun h=>absurd h (by omega))<|fun h_t16=>?_
 refine Wg Z Z (cd Z)<|Wg Z Z (cF Z Z)<|Ws (cb Z Z)<|Wn ?_
 refine CN Z (by omega) fun h_t19=>?_
 refine Ck<|Cr<|Wa Z<|Wn<|aA ?_
 exact Qd Z (aI Z ay) ⟨Z,Z⟩
theorem c_ref06_colsp (n c:Nat) (f:Fi) (h0:0<n):Fn Tryz.prog 228 [kMZ.is (tabW n c f)] (kN6.is (c:Int)):=by
 refine aN Tryz.func228 Z Z fun m w=>?_
 have hsh:=tabW_sh (c:=c) (f:=f) h0
 refine Cr<|Wa Z<|Wr<|Wm Z<|Ws (f1 fn126 Z (gJ (tabW n c f)))<|Wm Z<|Ws (aP Z Z)<|Ws (aP Z Z)<|Ws (aP Z Z)<|Wa Z<|Wa Z<|Wa Z<|Wr<|Wm Z<|Wa Z<|Wn ?_
 refine aA ?_
 exact Qd Z (du Z (ah (y:=(c:Int)) (by omega)) ay) ⟨Z,Z⟩
theorem c_ref06_Rank (G:Fi) (n:Nat) (hs:SymG G) (hp:PosU G n) (h0:0<n) (h12:n≤12) (hz:∀i j,Sz 540 (G i j)):Fn Tryz.prog 234 [kMZ.is (tabW n n G)] (VP.tup [kN6.is (n:Int),kN6.is 0]):=by
 refine aN Tryz.func234 Z Z fun m w=>Cr<|Wa Z<|Wa Z<|Wr<|Wm Z<|Ws (f1 fn227 Z (c_ref06_Checkp n n G (by assumption) (by assumption) (by omega)))<|Wa Z<|Wn<|ab<|Cr<|Wm Z<|Ws (bG Z Z)<|Wn ?_
 refine CN Z (fun h=>h Z) fun h_t11=>?_
 refine Ck<|Cr<|Wm Z<|cC (Li:=[]) (L:=[]) .n fn230 (aS Z ar) (c_ref06_ratsp n n G (by assumption) (by omega)) fun p_ Lo_ hp_=>?_
 obtain ⟨vO,vs,rfl,rfl,hvs⟩:=hp_
 refine Wm Z<|Ws (f1 fn228 Z (c_ref06_colsp n n G (by assumption)))<|cC (Li:=[OB.row vO 26 kVal vs,OB.fam vs 31 kRC (tabR n n (fun i k=>((G i k:Int):Rat)))]) (L:=[]) .n fn229 (aS Z (aS Z ar)) (c_ref06_reducedp G n (by assumption) (by assumption) (by assumption) (by assumption) (by assumption) n (fun i k=>((G i k:Int):Rat)) (by omega) (by omega) (fun i k _ _=>Z) (qF_RZ hz) vO vs hvs) fun p_ Lo_ hp_=>?_
 obtain ⟨f,hd,d,rfl,rfl,hx⟩:=hp_
 refine Wm Z<|Ws (aP Z Z)<|Ws (aP Z Z)<|Ws (aP Z Z)<|aW .n ba fun b1=>Wa Z<|Wa Z<|aE .n (aC (l:=kRC) (u:=rq d) 0 Z Z Z ai Z Lr)<|Wn<|ab ?_
 obtain ⟨hx1,hx2⟩:=hx
 refine ak<|Wm Z<|Ws (aJ Z U155)<|tl 23 Z (y:=(n:Int)) (by rw [hx2])<|Wa Z<|Wa Z<|Wn<|aA ?_
 exact Qd Z (aI Z (aI Z ay)) ⟨Z,Z⟩
theorem c_ref06_lowest (ps:List Rat) (D:Int) (s nD:Nat) (h:LowOk ps D) (hD:Sz nD D) (hz:∀k,RZ s (ps.getD k 0)) (hs:s≤68719476736) (hn:nD≤68719476736):Fn Tryz.prog 235 [(kSl kRC).is (ps.map rq)] (VP.tup [kVC.is (lowN ps),kC.is (lowD ps)]):=by
 refine aN Tryz.func235 Z Z fun m w=>a8 (i:=0) Z bF fun hB0=>?_
 have hB1:ps.length≤1099511627776:=by simpa using hB0
 have hml:(ps.map rq).length=ps.length:=by simp
 have hgz:∀i,i<ps.length→Sz s ((Int.gcd (lcmF ps i) (rq (ps.getD i 0)).2:Nat):Int):=fun i hi=>gcd_Sz (hz i).b (rq_den_pos _)
 have hfz:∀i,Sz s ((rq (ps.getD i 0)).2.fdiv ((Int.gcd (lcmF ps i) (rq (ps.getD i 0)).2:Nat):Int)):=fun i=>fdiv_Sz (hz i).b (by have:=rq_den_pos (ps.getD i 0);omega) (Int.natCast_nonneg _)
 refine Cr<|Wa Z<|aW .n bd fun b1=>Wr<|Ws (aB dO (aj Z (cP (by omega)) ar) (dM 1))<|Ax (l:=kC) (u:=1) bd Z af (fun _=>Z) Lr fun b2=>Wn<|ab<|Cr<|Wa Z<|Wn<|aF<|tb 0 Z (y:=(lcmF ps 0)) Z<|bJ (fun (i:Nat)=>i≤ps.length) (fun (i:Nat)=>[(0,(kSl kRC).is (ps.map rq)),(3,VP.pt b1 0),(4,VP.pt b2 0),(5,kN6.is (i:Int))]) (fun (i:Nat)=>[OB.box b2 29 kC (lcmF ps i),OB.box b1 29 kC 0]) (fun (i:Nat)=>ps.length-i) 0 (Nat.zero_le _) (ac Z (ac Z (ac Z (az Z (ah (y:=(0:Int)) (by rfl)) aq)))) (aG _) ?_
 intro i hi
 refine ab<|Cr<|Wm Z<|Wm Z<|Ws (aJ Z U26)<|tl 16 Z (y:=(ps.length:Int)) (by rw [hml])<|Ws (aX Z Z)<|Wn ?_
 refine aM Z (fun h_t17=>?_)<|fun h_t17=>?_
 ·
  refine Ck<|ab<|aF<|ab ?_
  refine a5 (Γ:=[.fr (kC.is (lcmF ps i)),.fr ((kSl kRC).is (ps.map rq)),.fr (kN6.is (i:Int)),.fr (VP.pim kRC (rq (ps.getD i 0))),.fr (VP.pim kC ((rq (ps.getD i 0)).2)),.fr (kC.is ((rq (ps.getD i 0)).2)),.fr (kC.is (Int.gcd (lcmF ps i) ((rq (ps.getD i 0)).2):Int)),.al (fun b=>OB.box b 29 kC 0)]) (aa Z (fun N=>ae Z (mN N 0 Z) Li af Z) (om Z Z (om Z Z (aa Z (fun N=>aU i Z Z U26 ai Z (v:=(rq (ps.getD i 0))) (gD (by omega))) (aa Z (fun N=>cQ Z bW (am Li) Z) (aa Z (fun N=>aO Z af) (aa Z (fun N=>aB fn264 (aj Z (aL ((h.le hD (by omega)).sm (by omega))) (aj Z (aL ((hz i).b.sm (by omega))) ar)) (c_ref02_Gcd (lcmF ps i) ((rq (ps.getD i 0)).2))) (oc (cR Z bd) oz))))))))<|fun σ1=>?_
  refine aE .n (aC (l:=kC) (u:=(Int.gcd (lcmF ps i) ((rq (ps.getD i 0)).2):Int)) 0 Z Z Z af Z Lr)<|Wn<|ab ?_
  refine a5 (Γ:=[.fr ((kSl kRC).is (ps.map rq)),.fr (kN6.is (i:Int)),.fr (VP.pim kRC (rq (ps.getD i 0))),.fr (VP.pim kC ((rq (ps.getD i 0)).2)),.fr (kC.is ((rq (ps.getD i 0)).2)),.fr (kC.is (Int.gcd (lcmF ps i) ((rq (ps.getD i 0)).2):Int)),.fr (VP.tup [kC.is (((rq (ps.getD i 0)).2).fdiv (Int.gcd (lcmF ps i) ((rq (ps.getD i 0)).2):Int)),kC.is (((rq (ps.getD i 0)).2).fmod (Int.gcd (lcmF ps i) ((rq (ps.getD i 0)).2):Int))]),.fr (VP.tup [kC.is (((rq (ps.getD i 0)).2).fdiv (Int.gcd (lcmF ps i) ((rq (ps.getD i 0)).2):Int)),kC.is (((rq (ps.getD i 0)).2).fmod (Int.gcd (lcmF ps i) ((rq (ps.getD i 0)).2):Int))]),.fr (kC.is (((rq (ps.getD i 0)).2).fdiv (Int.gcd (lcmF ps i) ((rq (ps.getD i 0)).2):Int))),.lt (kC.is (((rq (ps.getD i 0)).2).fmod (Int.gcd (lcmF ps i) ((rq (ps.getD i 0)).2):Int))),.al (fun b=>OB.box b 29 kC 0),.al (fun b=>OB.box b 29 kC 0)]) (om Z Z (om Z Z (aa Z (fun N=>aU i Z Z U26 ai Z (v:=(rq (ps.getD i 0))) (gD (by omega))) (aa Z (fun N=>cQ Z bW (am Li) Z) (aa Z (fun N=>aO Z af) (aa Z (fun N=>ae Z (mN N 0 Z) Li af Z) (aa Z (fun N=>aB fn162 (aj Z (aL ((hz i).b.sm (by omega))) (aj Z (aL ((hgz i (by omega)).sm (by omega))) ar)) (gM ((rq (ps.getD i 0)).2) (Int.gcd (lcmF ps i) ((rq (ps.getD i 0)).2):Int) (gcd_ne2 (dZ _)))) (om Z Z (aa Z (fun N=>aP Z Z) (oc (dc Z .n (dw Z Z)) (oc (cR Z bd) (oc (cR Z bd) oz))))))))))))<|fun σ2=>?_
  refine aE .n (aC (l:=kC) (u:=((rq (ps.getD i 0)).2).fdiv (Int.gcd (lcmF ps i) ((rq (ps.getD i 0)).2):Int)) 0 Z Z Z af Z Lr)<|aE .n (aC (l:=kC) (u:=((rq (ps.getD i 0)).2).fmod (Int.gcd (lcmF ps i) ((rq (ps.getD i 0)).2):Int)) 1 Z Z Z af Z Lr)<|Wn<|ak<|Ws (ae Z (ag 3 Z) Li af Z)<|Ws (ae Z (ag 0 Z) Li af Z)<|Ws (aB dC (aj Z (aL ((h.le hD (by omega)).sm (by omega))) (aj Z (aL ((hfz i).sm (by omega))) ar)) (dy (lcmF ps i) (((rq (ps.getD i 0)).2).fdiv (Int.gcd (lcmF ps i) ((rq (ps.getD i 0)).2):Int))))<|aE .n (aC (l:=kC) (u:=(lcmF ps i)*(((rq (ps.getD i 0)).2).fdiv (Int.gcd (lcmF ps i) ((rq (ps.getD i 0)).2):Int))) 3 Z Z Z af Z Lr)<|au<|Qb<|ak<|Wm Z<|Ws (aR Z Z (c:=((i:Int)+1)) (aH (by omega)))<|Wa Z<|au<|tb 3 Z (y:=(lcmF ps (i+1))) Z<|bg (bm [3,4] (by decide) Z) ?_
  exact bE (i+1) (by omega) (by omega) (ac Z (ac Z (ac Z (az Z (ah (y:=(((i+1):Nat):Int)) (by rfl)) aq))))<|aG _
 ·
  refine Ex<|ab<|tb 0 Z (y:=(lowD ps)) (by rw [show i=ps.length by omega];rfl)<|ak<|Wa Z<|Wn<|ab<|Cr<|Wa Z<|Wn<|aF<|bT 29 kC<|bU (fun (i:Nat) (v:Value)=>i≤ps.length) (fun (i:Nat) (v:Value)=>[(0,(kSl kRC).is (ps.map rq)),(3,VP.pt b1 0),(4,VP.pt b2 0),(9,VP.ex v),(10,kN6.is (i:Int))]) (fun (i:Nat) (v:Value)=>[OB.row v 29 kC ((lowN ps).take i),OB.box b2 29 kC (lowD ps),OB.box b1 29 kC 0]) (fun (i:Nat) (v:Value)=>ps.length-i) 0 (.slice none 0 0) (Nat.zero_le _) (ao Z Z Z Z (az Z (ah (y:=(0:Int)) (by rfl)) aq)) (a9 (OS.keepLe (bi (by rfl)) (OS.keep (OS.keep OS.nil)))) ?_
  intro i v hi
  refine ab<|Cr<|Wm Z<|Wm Z<|Ws (aJ Z U26)<|tl 42 Z (y:=(ps.length:Int)) (by rw [hml])<|Ws (aX Z Z)<|Wn ?_
  refine aM Z (fun h_t43=>?_)<|fun h_t43=>?_
  ·
   refine Ck<|ab<|aF<|ab ?_
   refine a5 (Γ:=[.fr (kC.is (lowD ps)),.fr ((kSl kRC).is (ps.map rq)),.fr (kN6.is (i:Int)),.fr (VP.pim kRC (rq (ps.getD i 0))),.fr (VP.pim kC ((rq (ps.getD i 0)).2)),.fr (kC.is ((rq (ps.getD i 0)).2)),.fr (VP.tup [kC.is ((lowD ps).fdiv ((rq (ps.getD i 0)).2)),kC.is ((lowD ps).fmod ((rq (ps.getD i 0)).2))]),.fr (VP.tup [kC.is ((lowD ps).fdiv ((rq (ps.getD i 0)).2)),kC.is ((lowD ps).fmod ((rq (ps.getD i 0)).2))]),.fr (kC.is ((lowD ps).fdiv ((rq (ps.getD i 0)).2))),.lt (kC.is ((lowD ps).fmod ((rq (ps.getD i 0)).2))),.al (fun b=>OB.box b 29 kC 0),.al (fun b=>OB.box b 29 kC 0)]) (aa Z (fun N=>ae Z (mN N 1 Z) Li af Z) (om Z Z (om Z Z (aa Z (fun N=>aU i Z Z U26 ai Z (v:=(rq (ps.getD i 0))) (gD (by omega))) (aa Z (fun N=>cQ Z bW (am Li) Z) (aa Z (fun N=>aO Z af) (aa Z (fun N=>aB fn162 (aj Z (aL ((h.le hD (by omega)).sm (by omega))) (aj Z (aL ((hz i).b.sm (by omega))) ar)) (gM (lowD ps) ((rq (ps.getD i 0)).2) (dZ _))) (om Z Z (aa Z (fun N=>aP Z Z) (oc (dc Z .n (dw Z Z)) (oc (cR Z bd) (oc (cR Z bd) oz))))))))))))<|fun σ3=>?_
   refine aE .n (aC (l:=kC) (u:=(lowD ps).fdiv ((rq (ps.getD i 0)).2)) 0 Z Z Z af Z Lr)<|aE .n (aC (l:=kC) (u:=(lowD ps).fmod ((rq (ps.getD i 0)).2)) 1 Z Z Z af Z Lr)<|Wn ?_
   refine a5 (Γ:=[.fr (VP.ex v),.fr ((kSl kRC).is (ps.map rq)),.fr (kN6.is (i:Int)),.fr (VP.pim kRC (rq (ps.getD i 0))),.fr (VP.pim kC ((rq (ps.getD i 0)).1)),.fr (kC.is ((rq (ps.getD i 0)).1)),.fr (kC.is ((lowD ps).fdiv ((rq (ps.getD i 0)).2))),.fr (kC.is (((rq (ps.getD i 0)).1)*((lowD ps).fdiv ((rq (ps.getD i 0)).2)))),.fr (kVC.is [((rq (ps.getD i 0)).1)*((lowD ps).fdiv ((rq (ps.getD i 0)).2))])]) (om Z Z (om Z Z (om Z Z (aa Z (fun N=>aU i Z Z U26 ai Z (v:=(rq (ps.getD i 0))) (gD (by omega))) (aa Z (fun N=>cQ Z cB (aD Li) Z) (aa Z (fun N=>aO Z af) (aa Z (fun N=>ae Z (mN N 0 Z) Li af Z) (aa Z (fun N=>aB dC (aj Z (aL ((hz i).a.sm (by omega))) (aj Z (aL ((h.q hD (by omega)).sm (by omega))) ar)) (dy ((rq (ps.getD i 0)).1) ((lowD ps).fdiv ((rq (ps.getD i 0)).2)))) (aa Z (fun N=>bB U23 bv (bV Z bA) Z (by decide)) oz)))))))))<|fun σ4=>?_
   refine bI 2 .n Z Z Z Lr U23 bv (by simp;omega) fun v3=>Wa Z<|au<|Qb<|ak<|Wm Z<|Ws (aR Z Z (c:=((i:Int)+1)) (aH (by omega)))<|Wa Z<|au<|tr 2 Z (y:=((lowN ps).take (i+1))) (take_app2 (lowN_at (by omega)))<|bg (bm [2,3,4] (by decide) Z) ?_
   exact bS (i+1) v3 (by omega) (by omega) (ao Z Z Z Z (az Z (ah (y:=(((i+1):Nat):Int)) (by rfl)) aq))<|aG _
  ·
   refine Ex<|ab<|tr 0 Z (y:=(lowN ps)) (List.take_of_length_le (by rw [lowN_len];omega))<|bL 0 Z (kp 0 Z (kp 3 Z (kp 4 Z (.hit (i:=9) Z (kp 10 Z (kp 40 Z (kp 41 Z (kp 42 Z (kp 43 Z .nil))))))))) ?_
   refine fj [(0,(kSl kRC).is (ps.map rq)),(2,kVC.is (lowN ps)),(3,VP.pt b1 0),(4,VP.pt b2 0),(9,kVC.is (lowN ps)),(10,kN6.is (i:Int)),(40,kN6.is (i:Int)),(41,(kSl kRC).is (ps.map rq)),(42,kN6.is (ps.length:Int)),(43,kBool.is (decide ((i:Int)<(ps.length:Int)))),(66,kVC.is (lowN ps)),(67,kC.is (lowD ps))] [OB.box b2 29 kC (lowD ps),OB.box b1 29 kC (lowD ps)] ?_ ?_
   ·
    refine dV (by kernel_rfl)<|bK 0 Z (by kernel_rfl) (by kernel_rfl) (by kernel_rfl) (fun _ _ _ _ _ h=>h) .n (dW Z) ?_
    refine bO 1 [2] ⟨?_,⟨?_,trivial⟩⟩
    ·
     refine aT Z .n (ae Z (ag 0 Z) Li af Z)<|aQ 2<|aT Z .n (bt Z)<|aQ 3<|bD Z .n (aC (l:=kC) (u:=(lowD ps)) 1 Z Z Z af Z Lr)<|bu (by kernel_rfl) ?_
     exact cH (ao Z Z Z Z (ao Z Z Z Z (ac Z (ac Z (ac Z (ac Z aq))))))<|aG _
    ·
     refine aT Z .n (bt Z)<|aQ 1<|aT Z .n (ae Z (ag 0 Z) Li af Z)<|aQ 3<|bD Z .n (aC (l:=kC) (u:=(lowD ps)) 1 Z Z Z af Z Lr)<|bu (by kernel_rfl) ?_
     exact cH (ao Z Z Z Z (ao Z Z Z Z (ac Z (ac Z (ac Z (ac Z aq))))))<|aG _
   refine cw<|aA ?_
   exact Qd Z (aI Z (aY Z (ag 1 Z) af ay)) ⟨Z,Z⟩
theorem c_ref04_Gram (n mc nb:Nat) (R:List (List Int)) (hr:CR n mc R) (hz:SzM nb R) (h0:0<n) (hn:n≤12) (hmc:mc≤12) (hnb:nb≤1048576):Fn Tryz.prog 170 [kMZ.is R] (VP.tup [kMC.is (tabW n n (gram R)),kN6.is 0]):=by
 refine aN Tryz.func170 Z Z fun m w=>?_
 have hl:=hr.len
 have hsh:shE R=0:=by unfold shE;rw [if_pos (rect_iff.2 hr.rl)]
 refine Cr<|Wa Z<|Wa Z<|Wr<|Wm Z<|Ws (f1 fn126 Z (gJ R))<|Wm Z<|Ws (aP Z Z)<|Ws (aP Z Z)<|Ws (aP Z Z)<|Wa Z<|Wa Z<|Wa Z<|Wn<|ab<|Cr<|Wm Z<|Ws (bG Z Z) ?_
 refine Wn ?_
 refine CN Z (by omega) fun h_t20=>?_
 refine Ck<|Cr<|Wa Z<|Wn<|ab<|Cr<|Wa Z<|Wn<|aF<|bT 23 kVC<|bU (fun (i:Nat) (v:Value)=>i≤n) (fun (i:Nat) (v:Value)=>[(0,kMZ.is R),(7,VP.ex v),(8,kN6.is (i:Int))]) (fun (i:Nat) (v:Value)=>[OB.row v 23 kVC (tabW i n (gram R))]) (fun (i:Nat) (v:Value)=>n-i) 0 (.slice none 0 0) (Nat.zero_le _) (ac Z (ac Z (az Z (ah (y:=(0:Int)) (by rfl)) aq))) (a9 (OS.keepLe (bi (by rfl)) OS.nil)) ?_
 intro i v hi
 refine ab<|Cr<|Wm Z<|Wm Z<|Ws (aJ Z U22)<|Ws (aX Z Z)<|Wn ?_
 refine aM Z (fun h_t24=>?_)<|fun h_t24=>?_
 ·
  refine Ck<|ab<|aF<|Cr<|Wa Z<|Wn<|ab<|Cr<|Wa Z<|Wn<|aF<|bT 29 kC<|bU (fun (k:Nat) (u:Value)=>k≤n) (fun (k:Nat) (u:Value)=>[(0,kMZ.is R),(7,VP.ex v),(8,kN6.is (i:Int)),(9,VP.ex u),(10,kN6.is (k:Int))]) (fun (k:Nat) (u:Value)=>[OB.row u 29 kC ((List.range k).map (gram R i)),OB.row v 23 kVC (tabW i n (gram R))]) (fun (k:Nat) (u:Value)=>n-k) 0 (.slice none 0 0) (Nat.zero_le _) (ao Z Z Z Z (az Z (ah (y:=(0:Int)) (by rfl)) aq)) (a9 (OS.keepLe (bi (by rfl)) (OS.keep OS.nil))) ?_
  intro k u hk
  refine ab<|Cr<|Wm Z<|Wm Z<|Ws (aJ Z U22)<|Ws (aX Z Z)<|Wn ?_
  refine aM Z (fun h_t30=>?_)<|fun h_t30=>?_
  ·
   refine Ck<|ab<|aF<|ab ?_
   refine a5 (Γ:=[.fr (kMZ.is R),.fr (kN6.is (i:Int)),.fr (VP.pim kVZ (R.getD i [])),.fr (kVZ.is (R.getD i [])),.fr (kMZ.is R),.fr (kN6.is (k:Int)),.fr (VP.pim kVZ (R.getD k [])),.fr (kVZ.is (R.getD k [])),.fr (VP.tup [kC.is (if (R.getD i []).length=(R.getD k []).length then dotV (R.getD i []) (R.getD k []) else 0),kN6.is (if (R.getD i []).length=(R.getD k []).length then 0 else 8)]),.fr (VP.tup [kC.is (if (R.getD i []).length=(R.getD k []).length then dotV (R.getD i []) (R.getD k []) else 0),kN6.is (if (R.getD i []).length=(R.getD k []).length then 0 else 8)]),.fr (kC.is (if (R.getD i []).length=(R.getD k []).length then dotV (R.getD i []) (R.getD k []) else 0)),.lt (kN6.is (if (R.getD i []).length=(R.getD k []).length then 0 else 8)),.al (fun b=>OB.box b 29 kC 0)]) (om Z Z (om Z Z (aa Z (fun N=>aU i Z Z U22 aK Z (v:=(R.getD i [])) (gd [] (by omega))) (aa Z (fun N=>aO Z aK) (om Z Z (om Z Z (aa Z (fun N=>aU k Z Z U22 aK Z (v:=(R.getD k [])) (gd [] (by omega))) (aa Z (fun N=>aO Z aK) (aa Z (fun N=>f2 fn115 Z Z (c_ref04_Dot nb (R.getD i []) (R.getD k []) (hz _) (hz _) (by rw [hr.row i (by omega)];omega))) (om Z Z (aa Z (fun N=>aP Z Z) (oc (dc Z .n (dw Z Z)) (oc (cR Z bd) oz)))))))))))))<|fun σ1=>?_
   refine aE .n (aC (l:=kC) (u:=if (R.getD i []).length=(R.getD k []).length then dotV (R.getD i []) (R.getD k []) else 0) 0 Z Z Z af Z Lr)<|Wa Z<|Wn<|tb 0 Z (y:=(gram R i k)) (if_pos (by rw [hr.row i (by omega),hr.row k (by omega)]))<|ak<|Wm Z<|Ws (ae Z (ag 0 Z) Li af Z)<|Ws (bB U23 bv (bV Z bA) Z (by decide))<|bI 1 .n Z Z Z Lr U23 bv (by simp [tabW_len];omega) fun v1=>Wa Z<|au<|Qb<|ak<|Wm Z<|Ws (aR Z Z (c:=((k:Int)+1)) (aH (by omega)))<|Wa Z<|au<|tr 1 Z (y:=((List.range (k+1)).map (gram R i))) (fq (gram R i) k)<|bg (bm [1,2] (by decide) Z) ?_
   exact bS (k+1) v1 (by omega) (by omega) (ao Z Z Z Z (az Z (ah (y:=(((k+1):Nat):Int)) (by rfl)) aq))<|aG _
  ·
   refine Ex<|tr 0 Z (y:=((List.range n).map (gram R i))) (by rw [show k=n by omega])<|bL 0 Z (kp 0 Z (kp 7 Z (kp 8 Z (.hit (i:=9) Z (kp 10 Z (kp 27 Z (kp 28 Z (kp 29 Z (kp 30 Z .nil)))))))))<|ak<|Wm Z<|Wm Z<|Ws (bB U22 c6 (bV Z bA) Z (by decide))<|bI 0 .n Z Z Z Lr U22 c6 (by simp [tabW_len];omega) fun v2=>Wa Z<|au<|Qb<|ak<|Wm Z<|Ws (aR Z Z (c:=((i:Int)+1)) (aH (by omega)))<|Wa Z<|au<|tr 0 Z (y:=(tabW (i+1) n (gram R))) (tabW_app i n (gram R)) ?_
   exact bS (i+1) v2 (by omega) (by omega) (ac Z (ac Z (az Z (ah (y:=(((i+1):Nat):Int)) (by rfl)) aq)))<|aG _
 ·
  refine Ex<|ab<|tr 0 Z (y:=(tabW n n (gram R))) (by rw [show i=n by omega])<|bL 0 Z (kp 0 Z (.hit (i:=7) Z (kp 8 Z (kp 21 Z (kp 22 Z (kp 23 Z (kp 24 Z .nil)))))))<|ak<|Wm Z<|Wa Z<|Wa Z<|Wn<|aA ?_
  exact Qd Z (aI Z (aI Z ay)) ⟨Z,Z⟩
theorem c_ref04_Unit (n:Nat) (hn:n≤12):Fn Tryz.prog 89 [kN6.is (n:Int)] (VP.tup [kMC.is (tabW n n uniF),kN6.is 0]):=by
 refine aN Tryz.func89 Z Z fun m w=>Cr<|Wa Z<|Wa Z<|Wn<|ab<|Cr<|Wm Z<|Ws (aX Z Z)<|Wn ?_
 refine CN Z (by omega) fun h_t9=>?_
 refine Ck<|ab<|Cr<|Wm Z<|Ws (cF Z Z)<|Wn ?_
 refine CN Z (by omega) fun h_t11=>?_
 refine Ck<|Cr<|Wa Z<|Wn<|ab<|Cr<|Wa Z<|Wn<|aF<|bT 23 kVC<|bU (fun (i:Nat) (v:Value)=>i≤n) (fun (i:Nat) (v:Value)=>[(0,kN6.is (n:Int)),(4,VP.ex v),(5,kN6.is (i:Int))]) (fun (i:Nat) (v:Value)=>[OB.row v 23 kVC (tabW i n uniF)]) (fun (i:Nat) (v:Value)=>n-i) 0 (.slice none 0 0) (Nat.zero_le _) (ac Z (ac Z (az Z (ah (y:=(0:Int)) (by rfl)) aq))) (a9 (OS.keepLe (bi (by rfl)) OS.nil)) ?_
 intro i v hi
 refine ab<|Cr<|Wm Z<|Wm Z<|Ws (aX Z Z)<|Wn ?_
 refine aM Z (fun h_t14=>?_)<|fun h_t14=>?_
 ·
  refine Ck<|ab<|aF<|Cr<|Wa Z<|Wn<|ab<|Cr<|Wa Z<|Wn<|aF<|bT 29 kC<|bU (fun (k:Nat) (u:Value)=>k≤n) (fun (k:Nat) (u:Value)=>[(0,kN6.is (n:Int)),(4,VP.ex v),(5,kN6.is (i:Int)),(6,VP.ex u),(7,kN6.is (k:Int))]) (fun (k:Nat) (u:Value)=>[OB.row u 29 kC ((List.range k).map (uniF i)),OB.row v 23 kVC (tabW i n uniF)]) (fun (k:Nat) (u:Value)=>n-k) 0 (.slice none 0 0) (Nat.zero_le _) (ao Z Z Z Z (az Z (ah (y:=(0:Int)) (by rfl)) aq)) (a9 (OS.keepLe (bi (by rfl)) (OS.keep OS.nil))) ?_
  intro k u hk
  refine ab<|Cr<|Wm Z<|Wm Z<|Ws (aX Z Z)<|Wn ?_
  refine aM Z (fun h_t19=>?_)<|fun h_t19=>?_
  ·
   refine Ck<|ab<|aF<|Cr<|Wm Z<|Wm Z<|Ws (cq Z Z)<|Wn ?_
   refine aM Z (fun h_t24=>?_)<|fun h_t24=>?_
   ·
    refine ak<|Wm Z<|Ws (aB dO (aj Z (cP (by omega)) ar) (dM 1))<|Ws (bB U23 bv (bV Z bA) Z (by decide))<|bI 0 .n Z Z Z Lr U23 bv (by simp [tabW_len];omega) fun v1=>Wa Z<|au<|Qb<|ak<|Wm Z<|Ws (aR Z Z (c:=((k:Int)+1)) (aH (by omega)))<|Wa Z<|au<|tr 0 Z (y:=((List.range (k+1)).map (uniF i))) (by rw [←range_app];congr 2;unfold uniF;rw [if_pos (by omega)]) ?_
    exact bS (k+1) v1 (by omega) (by omega) (ao Z Z Z Z (az Z (ah (y:=(((k+1):Nat):Int)) (by rfl)) aq))<|aG _
   ·
    refine ak<|Wm Z<|Ws (aB dO (aj Z (cP (by omega)) ar) (dM 0))<|Ws (bB U23 bv (bV Z bA) Z (by decide))<|bI 0 .n Z Z Z Lr U23 bv (by simp [tabW_len];omega) fun v2=>Wa Z<|au<|Qb<|ak<|Wm Z<|Ws (aR Z Z (c:=((k:Int)+1)) (aH (by omega)))<|Wa Z<|au<|tr 0 Z (y:=((List.range (k+1)).map (uniF i))) (by rw [←range_app];congr 2;unfold uniF;rw [if_neg (by omega)]) ?_
    exact bS (k+1) v2 (by omega) (by omega) (ao Z Z Z Z (az Z (ah (y:=(((k+1):Nat):Int)) (by rfl)) aq))<|aG _
  ·
   refine Ex<|tr 0 Z (y:=((List.range n).map (uniF i))) (by rw [show k=n by omega])<|bL 0 Z (kp 0 Z (kp 4 Z (kp 5 Z (.hit (i:=6) Z (kp 7 Z (kp 17 Z (kp 18 Z (kp 19 Z .nil))))))))<|ak<|Wm Z<|Wm Z<|Ws (bB U22 c6 (bV Z bA) Z (by decide))<|bI 0 .n Z Z Z Lr U22 c6 (by simp [tabW_len];omega) fun v3=>Wa Z<|au<|Qb<|ak<|Wm Z<|Ws (aR Z Z (c:=((i:Int)+1)) (aH (by omega)))<|Wa Z<|au<|tr 0 Z (y:=(tabW (i+1) n uniF)) (tabW_app i n uniF) ?_
   exact bS (i+1) v3 (by omega) (by omega) (ac Z (ac Z (az Z (ah (y:=(((i+1):Nat):Int)) (by rfl)) aq)))<|aG _
 ·
  refine Ex<|ab<|tr 0 Z (y:=(tabW n n uniF)) (by rw [show i=n by omega])<|bL 0 Z (kp 0 Z (.hit (i:=4) Z (kp 5 Z (kp 12 Z (kp 13 Z (kp 14 Z .nil))))))<|ak<|Wm Z<|Wa Z<|Wa Z<|Wn<|aA ?_
  exact Qd Z (aI Z (aI Z ay)) ⟨Z,Z⟩
theorem c_ref06_Inverse (G:Fi) (n:Nat) (hs:SymG G) (hp:PosU G n) (h0:0<n) (h12:n≤12) (hz:∀i j,Sz 540 (G i j)) (hD:Sz 2300000 (uD G n)):Fn Tryz.prog 171 [kMC.is (tabW n n G)] (VP.tup [kMC.is (tabW n n (invN G n)),kC.is (invD G n),kN6.is 0]):=by
 refine aN Tryz.func171 Z Z fun m w=>Cr<|Wa Z<|aW .n bd fun b1=>Wa Z<|Wr<|Wm Z<|Ws (aB fn227 (aj Z (d3 ((tabW_Sz hz).sm (by decide))) ar) (c_ref06_Checkp n n G (by assumption) (by assumption) (by omega)))<|Wa Z<|Wn<|ab<|Cr<|Wm Z<|Ws (bG Z Z)<|Wn ?_
 refine CN Z (fun h=>h Z) fun h_t26=>?_
 refine Ck<|Cr<|Wm Z<|Ws (aJ Z U22)<|Wa Z<|Wn<|ab<|ab<|tl 6 Z (y:=(n:Int)) (by rw [tabW_len])<|ak<|Wm Z<|Wm Z<|Ws (aB fn228 (aj Z (d3 ((tabW_Sz hz).sm (by decide))) ar) (c_ref06_colsp n n G (by assumption)))<|Ws (bG Z Z)<|Wn ?_
 refine CN Z (fun h=>h Z) fun h_t34=>?_
 refine Ck<|Cr<|Wm Z<|Ws (aB fn234 (aj Z (d3 ((tabW_Sz hz).sm (by decide))) ar) (c_ref06_Rank G n (by assumption) (by assumption) (by assumption) (by assumption) (by assumption)))<|Wm Z<|Ws (aP Z Z)<|Ws (aP Z Z)<|Wa Z<|Wa Z<|Wn<|ab<|Cr<|Wm Z<|Wm Z<|Ws (aX Z Z)<|Wn ?_
 refine CN Z (by omega) fun h_t43=>?_
 refine Ck<|Cr<|Wm Z<|Ws (f1 fn89 Z (c_ref04_Unit n (by assumption)))<|Wm Z<|Ws (aP Z Z)<|Ws (aP Z Z)<|Wa Z<|Wa Z<|Wr<|Wa Z<|Wn<|ab<|Cr<|Wa Z<|Wn ?_
 refine aF<|bT 23 kVC<|bU (fun (i:Nat) (v:Value)=>i≤n) (fun (i:Nat) (v:Value)=>[(0,kMC.is (tabW n n G)),(3,VP.pt b1 0),(6,kN6.is (n:Int)),(9,kMC.is (tabW n n uniF)),(11,VP.ex v),(12,kN6.is (i:Int))]) (fun (i:Nat) (v:Value)=>[OB.row v 23 kVC (tabW i (2*n) (augZ G n)),OB.box b1 29 kC 0]) (fun (i:Nat) (v:Value)=>n-i) 0 (.slice none 0 0) (Nat.zero_le _) (ao Z Z Z Z (ac Z (az Z (ah (y:=(0:Int)) (by rfl)) aq))) (a9 (OS.keepLe (bi (by rfl)) (OS.keep OS.nil))) ?_
 intro i v hi
 refine ab<|Cr<|Wm Z<|Wm Z<|Ws (aX Z Z)<|Wn ?_
 refine aM Z (fun h_t52=>?_)<|fun h_t52=>?_
 ·
  refine Ck<|ab<|aF<|Cr<|Wa Z<|Wn<|ab<|bT 29 kC<|ak<|Wm Z<|Wm Z<|Wm Z<|Ws (aU i Z Z U22 aK Z (v:=((List.range n).map (G i))) (gc (by omega)))<|Ws (aO Z aK)<|bI 0 .n Z Z Z Lr U23 bv (by simp [tabW_len,invL_len];omega) fun v2=>Wa Z<|Wn<|tr 0 Z (y:=((List.range n).map (G i))) (by simp)<|ak<|Wm Z ?_
  refine Wm Z<|Wm Z<|Wm Z<|Ws (aU i Z Z U22 aK Z (v:=((List.range n).map (uniF i))) (gc (by omega)))<|Ws (aO Z aK)<|bI 0 .n Z Z Z Lr U23 bv (by simp [tabW_len,invL_len];omega) fun v3=>tr 0 Z (y:=((List.range (2*n)).map (augZ G n i))) (aug_app G n i)<|bL 0 Z (kp 0 Z (kp 3 Z (kp 6 Z (kp 9 Z (kp 11 Z (kp 12 Z (kp 13 Z (kp 50 Z (kp 51 Z (kp 52 Z (kp 55 Z (kp 56 Z (kp 57 Z (kp 58 Z (kp 59 Z (kp 60 Z (kp 61 Z (kp 62 Z (kp 63 Z (kp 64 Z (kp 65 Z (kp 66 Z (.hit (i:=67) Z .nil)))))))))))))))))))))))<|Ws (bB U22 c6 (bV Z bA) Z (by decide))<|bI 0 .n Z Z Z Lr U22 c6 (by simp [tabW_len,invL_len];omega) fun v4=>Wa Z<|au<|Qb<|ak<|Wm Z<|Ws (aR Z Z (c:=((i:Int)+1)) (aH (by omega)))<|Wa Z<|au<|tr 0 Z (y:=(tabW (i+1) (2*n) (augZ G n))) (tabW_app i (2*n) (augZ G n)) ?_
  exact bS (i+1) v4 (by omega) (by omega) (ao Z Z Z Z (ac Z (az Z (ah (y:=(((i+1):Nat):Int)) (by rfl)) aq)))<|aG _
 ·
  refine Ex<|ab<|tr 0 Z (y:=(tabW n (2*n) (augZ G n))) (by rw [show i=n by omega])<|bL 0 Z (kp 0 Z (kp 3 Z (kp 6 Z (kp 9 Z (.hit (i:=11) Z (kp 12 Z (kp 50 Z (kp 51 Z (kp 52 Z .nil)))))))))<|tl 6 Z (y:=(n:Int)) Z<|ak<|Wm Z<|cC (Li:=[]) (L:=[OB.box b1 29 kC 0]) .n fn230 (aj Z (d3 ((tabW_Sz (augZ_Sz hz (by decide))).sm (by decide))) ar) (c_ref06_ratsp n (2*n) (augZ G n) (by assumption) (by omega)) fun p_ Lo_ hp_=>?_
  obtain ⟨vO,vs,rfl,rfl,hvs⟩:=hp_
  refine Wm Z<|Ws (dX Z Z (c:=(2*(n:Int))) (aH (by omega)))<|cC (Li:=[OB.row vO 26 kVal vs,OB.fam vs 31 kRC (tabR n (2*n) (fun i k=>(((augZ G n) i k:Int):Rat)))]) (L:=[OB.box b1 29 kC 0]) .n fn229 (aS Z (aj Z (ah (y:=(((2*n):Nat):Int)) (by rfl)) ar)) (c_ref06_reducedp G n (by assumption) (by assumption) (by assumption) (by assumption) (by assumption) (2*n) (fun i k=>((augZ G n i k:Int):Rat)) (by omega) (by omega) (fun i k _ hk=>by unfold augZ;rw [if_pos hk]) (qF_RZ (augZ_Sz hz (by decide))) vO vs hvs) fun p_ Lo_ hp_=>?_
  obtain ⟨f,hd,d,rfl,rfl,hx⟩:=hp_
  refine Wm Z<|Ws (aP Z Z)<|Ws (aP Z Z)<|Ws (aP Z Z)<|aW .n ba fun b5=>Wa Z<|Wa Z<|aE .n (aC (l:=kRC) (u:=rq d) 0 Z Z Z ai Z Lr)<|Wn<|ab ?_
  obtain ⟨hx1,hx2⟩:=hx
  rw [augZ_q] at hx1
  refine ak<|Wa Z<|Wn<|ab<|Cr<|Wa Z<|Wn<|aF<|bT 31 kRC<|bU (fun (i:Nat) (v:Value)=>i≤n) (fun (i:Nat) (v:Value)=>[(0,kMC.is (tabW n n G)),(3,VP.pt b1 0),(6,kN6.is (n:Int)),(14,(kSl (kSl kRC)).is (tabR n (2*n) f)),(17,VP.ex v),(18,kN6.is (i:Int))]) (fun (i:Nat) (v:Value)=>[OB.row v 31 kRC ((invL G n i).map rq),OB.box b1 29 kC 0]) (fun (i:Nat) (v:Value)=>n-i) 0 (.slice none 0 0) (Nat.zero_le _) (ao Z Z Z Z (ac Z (az Z (ah (y:=(0:Int)) (by rfl)) aq))) (a9 (OS.keepLe (bi (by rfl)) (OS.skip (OS.keep OS.nil)))) ?_
  intro i v hi
  have hnn:n*n≤144:=Nat.mul_le_mul h12 h12
  have hin0:i*n≤n*n:=Nat.mul_le_mul_right n hi
  refine ab<|Cr<|Wm Z<|Wm Z<|Ws (aX Z Z)<|Wn ?_
  refine aM Z (fun h_t81=>?_)<|fun h_t81=>?_
  ·
   refine Ck<|ab<|aF<|ak<|Wm Z<|Wm Z<|Wm Z<|Ws (aU i Z Z U148 bN Z (v:=((tabR n (2*n) f).getD i [])) (gd [] (by rw [tabR_len];omega)))<|Ws (aO Z bN)<|Wm Z<|Ws (O.slL n Z Z U26 ai Z (by rw [tabR_rlen (by omega)];omega))<|tl 90 Z (y:=((List.range n).map (fun k=>rq (invE G n i k)))) (inv_row hx1 hs hp (by omega))<|bI 0 .n Z Z Z Lr U26 dn (by simp [tabW_len,invL_len];omega) fun v6=>Wa Z<|au<|Qb<|ak<|Wm Z<|Ws (aR Z Z (c:=((i:Int)+1)) (aH (by omega)))<|Wa Z<|au<|tr 0 Z (y:=((invL G n (i+1)).map rq)) (invL_rq G n i) ?_
   refine bg (bm [0,1] (by decide) Z) ?_
   exact bS (i+1) v6 (by omega) (by omega) (ao Z Z Z Z (ac Z (az Z (ah (y:=(((i+1):Nat):Int)) (by rfl)) aq)))<|aG _
  ·
   refine Ex<|ab<|tr 0 Z (y:=((invL G n n).map rq)) (by rw [show i=n by omega])<|bL 0 Z (kp 0 Z (kp 3 Z (kp 6 Z (kp 14 Z (.hit (i:=17) Z (kp 18 Z (kp 79 Z (kp 80 Z (kp 81 Z .nil)))))))))<|ak<|Wm Z<|Ws (f1 fn235 Z (c_ref06_lowest (invL G n n) (uD G n) 2300000 2300000 (inv_low hs hp n) hD (inv_RZ2 hs hp h12 hz n) (by decide) (by decide)))<|Wm Z<|Ws (aP Z Z)<|Ws (aP Z Z)<|aW .n bd fun b7=>Wa Z<|aE .n (aC (l:=kC) (u:=lowD (invL G n n)) 0 Z Z Z af Z Lr)<|Wr<|Wa Z<|Wn ?_
   refine ab<|Cr<|Wa Z<|Wn<|aF<|bT 23 kVC<|tb 1 Z (y:=(invD G n)) Z<|bU (fun (i:Nat) (v:Value)=>i≤n) (fun (i:Nat) (v:Value)=>[(3,VP.pt b1 0),(6,kN6.is (n:Int)),(19,kVC.is (lowN (invL G n n))),(20,VP.pt b7 0),(21,VP.ex v),(22,kN6.is (i:Int))]) (fun (i:Nat) (v:Value)=>[OB.row v 23 kVC (tabW i n (invN G n)),OB.box b7 29 kC (invD G n),OB.box b1 29 kC 0]) (fun (i:Nat) (v:Value)=>n-i) 0 (.slice none 0 0) (Nat.zero_le _) (ao Z Z Z Z (ac Z (az Z (ah (y:=(0:Int)) (by rfl)) aq))) (a9 (OS.keepLe (bi (by rfl)) (OS.keep (OS.keep OS.nil)))) ?_
   intro i v hi
   refine ab<|Cr<|Wm Z<|Wm Z<|Ws (aX Z Z)<|Wn ?_
   refine aM Z (fun h_t99=>?_)<|fun h_t99=>?_
   ·
    refine Ck<|ab<|aF<|ak<|Wm Z<|Wm Z<|Wm Z<|Wm Z ?_
    have hin:(i+1)*n≤n*n:=Nat.mul_le_mul_right n (by omega)
    have hi2:i*n≤(i+1)*n:=Nat.mul_le_mul_right n (by omega)
    have hnn:n*n≤144:=Nat.mul_le_mul h12 h12
    have hll:(lowN (invL G n n)).length=n*n:=by rw [lowN_len,invL_len]
    refine Ws (dX Z Z (c:=((i*n:Nat):Int)) (w64m (by omega)))<|Wm Z<|Ws (aR Z Z (c:=((i:Int)+1)) (aH (by omega)))<|Wm Z<|tl 108 Z (y:=((i+1:Nat):Int)) (by omega)<|Ws (dX Z Z (c:=(((i+1)*n:Nat):Int)) (w64m (by omega)))<|Ws (O.slLH (i*n) ((i+1)*n) Z Z Z U23 af (by omega) (by omega) (by omega) (by omega))<|tl 111 Z (y:=((List.range n).map (invN G n i))) (invN_row (by omega))<|Ws (bB U22 c6 (bV Z bA) Z (by decide))<|bI 0 .n Z Z Z Lr U22 c6 (by simp [tabW_len,invL_len];omega) fun v8=>Wa Z<|au<|Qb<|ak<|Wm Z<|Ws (aR Z Z (c:=((i:Int)+1)) (aH (by omega)))<|Wa Z<|au<|tr 0 Z (y:=(tabW (i+1) n (invN G n))) (tabW_app i n (invN G n))<|bg (bm [0,1,2] (by decide) Z) ?_
    exact bS (i+1) v8 (by omega) (by omega) (ao Z Z Z Z (ac Z (az Z (ah (y:=(((i+1):Nat):Int)) (by rfl)) aq)))<|aG _
   ·
    refine Ex<|ab<|tr 0 Z (y:=(tabW n n (invN G n))) (by rw [show i=n by omega])<|bL 0 Z (kp 3 Z (kp 6 Z (kp 19 Z (kp 20 Z (.hit (i:=21) Z (kp 22 Z (kp 97 Z (kp 98 Z (kp 99 Z .nil))))))))) ?_
    refine fj [(2,kMC.is (tabW n n (invN G n))),(3,VP.pt b1 0),(4,kN6.is 0),(6,kN6.is (n:Int)),(19,kVC.is (lowN (invL G n n))),(20,VP.pt b7 0),(21,kMC.is (tabW n n (invN G n))),(22,kN6.is (i:Int)),(97,kN6.is (i:Int)),(98,kN6.is (n:Int)),(99,kBool.is (decide ((i:Int)<(n:Int)))),(114,kMC.is (tabW n n (invN G n))),(115,kC.is (invD G n))] [OB.box b7 29 kC (invD G n),OB.box b1 29 kC (invD G n)] ?_ ?_
    ·
     refine dV (by kernel_rfl)<|bK 0 Z (by kernel_rfl) (by kernel_rfl) (by kernel_rfl) (fun _ _ _ _ _ h=>h) .n (dW Z) ?_
     refine bO 1 [2] ⟨?_,⟨?_,trivial⟩⟩
     ·
      refine aT Z .n (ae Z (ag 0 Z) Li af Z)<|aQ 2<|aT Z .n (bt Z)<|aQ 3<|bD Z .n (aC (l:=kC) (u:=(invD G n)) 1 Z Z Z af Z Lr)<|aQ 4<|aT Z .n (bt Z)<|bu (by kernel_rfl) ?_
      exact cH (ao Z Z Z Z (ao Z Z Z Z (ao Z Z Z Z (ac Z aq))))<|aG _
     ·
      refine aT Z .n (bt Z)<|aQ 1<|aT Z .n (ae Z (ag 0 Z) Li af Z)<|aQ 3<|bD Z .n (aC (l:=kC) (u:=(invD G n)) 1 Z Z Z af Z Lr)<|aQ 4<|aT Z .n (bt Z)<|bu (by kernel_rfl) ?_
      exact cH (ao Z Z Z Z (ao Z Z Z Z (ao Z Z Z Z (ac Z aq))))<|aG _
    refine cw<|aA ?_
    exact Qd Z (aI Z (aY Z (ag 1 Z) af (aI Z ay))) ⟨Z,Z⟩
theorem c_ref03_Floor (n:Nat) (p:Rat) (hp:RZ n p) (hn:n≤68719476736):Fn Tryz.prog 159 [kRC.is (rq p)] (kC.is (floorQ p)):=by
 refine aN Tryz.func159 Z Z fun m w=>Cr<|aZ .n Z fun b1=>aW .n bd fun b2=>Wr<|Ws (aw Z cB Z)<|Ws (ae Z (ag 1 Z) (aD Li) af Z)<|Ws (aw Z bW Z)<|Ws (ae Z (ag 1 Z) (am Li) af Z)<|Ws (aB fn162 (aj Z (aL (hp.a.sm (by omega))) (aj Z (aL (hp.b.sm (by omega))) ar)) (gM ((rq p).1) ((rq p).2) (dZ p)))<|Wm Z<|Ws (aP Z Z)<|Ws (aP Z Z)<|aW .n bd fun b3=>aW .n bd fun b4=>aE .n (aC (l:=kC) (u:=((rq p).1).fdiv ((rq p).2)) 1 Z Z Z af Z Lr)<|aE .n (aC (l:=kC) (u:=((rq p).1).fmod ((rq p).2)) 0 Z Z Z af Z Lr)<|Wn<|ab ?_
 refine ak<|Ws (ae Z (ag 1 Z) Li af Z)<|aE .n (aC (l:=kC) (u:=((rq p).1).fdiv ((rq p).2)) 2 Z Z Z af Z Lr)<|Wn<|aA<|tb 2 Z (y:=(floorQ p)) Z ?_
 exact Qd Z (aY Z (ag 2 Z) af ay) ⟨Z,Z⟩
abbrev gL:=@c_ref03_Floor
theorem c_ref03_Half  : Fn Tryz.prog 160 [] (kRC.is (rq (1/2:Rat))):=by
 refine aN Tryz.func160 Z Z fun m w=>Cr<|aW .n ba fun b1=>Wr<|Ws (aB fn114 ar (c_ref03_one))<|Ws (aB dO (aj Z (cP (by omega)) ar) (dM 2))<|Ws (bY dP Z (cy Z (cy Z br)) (.cons Z (aD Li) (.cons Z (am Li) (.nil _))))<|aE .n (aC (l:=kRC) (u:=(1,2)) 0 Z Z Z ai Z Lr)<|Wn<|aA<|tb 0 Z (y:=(rq (1/2:Rat))) (by decide +kernel) ?_
 exact Qd Z (aY Z (ag 0 Z) ai ay) ⟨Z,Z⟩
theorem c_ref03_Near (n:Nat) (p:Rat) (hp:RZ n p) (hn:n≤17179869184):Fn Tryz.prog 90 [kRC.is (rq p)] (kC.is (nearQ p)):=by
 refine aN Tryz.func90 Z Z fun m w=>?_
 have rH:RZ 3 (1/2:Rat):=RZ.of (n:=1) (d:=2) (by decide) (by decide +kernel) (show (1:Int).natAbs<2^3 by decide) (show (2:Int).natAbs<2^3 by decide)
 have rS:=(hp.up (show n≤n+3 by omega)).add (rH.up (show 3≤n+3 by omega))
 refine Cr<|aZ .n Z fun b1=>aW .n bd fun b2=>Wn<|ab ?_
 refine a5 (Γ:=[.fr (kRC.is (rq p)),.fr (kRC.is (rq (1/2:Rat))),.fr (kRC.is (rq (p+(1/2:Rat)))),.fr (kC.is (floorQ (p+1/2)))]) (aa Z (fun N=>ae Z (mN N 1 Z) Li ai Z) (aa Z (fun N=>aB fn160 ar (c_ref03_Half)) (aa Z (fun N=>f2 eE Z Z (eJ (n+3) p (1/2:Rat) (hp.up (by omega)) (rH.up (by omega)) (by omega))) (aa Z (fun N=>aB fn159 (aj Z (ah (y:=rq (p+1/2)) (by rfl)) ar) (gL (n+3+(n+3)+1) (p+1/2) rS (by omega))) oz))))<|fun σ1=>?_
 refine aE .n (aC (l:=kC) (u:=floorQ (p+1/2)) 0 Z Z Z af Z Lr)<|Wn<|aA<|tb 0 Z (y:=(nearQ p)) (floor_near p) ?_
 exact Qd Z (aY Z (ag 0 Z) af ay) ⟨Z,Z⟩
theorem c_ref03_Cmp (n:Nat) (p q:Rat) (hp:RZ n p) (hq:RZ n q) (hn:n≤68719476736):Fn Tryz.prog 64 [kRC.is (rq p),kRC.is (rq q)] (kN6.is ((rq (p-q)).1.sign)):=by
 refine aN Tryz.func64 Z Z fun m w=>?_
 have rD:=hp.sub2 hq
 refine Cr<|aZ .n Z fun b1=>aZ .n Z fun b2=>Wa Z<|Wr<|Ws (ae Z (ag 1 Z) Li ai Z)<|Ws (ae Z (ag 0 Z) Li ai Z)<|Ws (f2 d6 Z Z (eu n p q (by assumption) (by assumption) (by assumption)))<|Ws (O.fld Z Z prt31_0 (aD Li) Z)<|Ws (aB eD (aj Z (aL (by exact rD.a.sm (by omega))) ar) (er ((rq (p-q)).1)))<|Wa Z<|Wn<|aA ?_
 exact Qd Z (du Z (ah (y:=(rq (p-q)).1.sign) (by rfl)) ay) ⟨Z,Z⟩
theorem c_ref05_times (n:Nat) (p:Rat) (z:Int) (hp:RZ n p) (hz:Sz n z) (h1:1≤n) (hn:n≤68719476736):Fn Tryz.prog 187 [kRC.is (rq p),kC.is z] (kRC.is (rq (p*(z:Rat)))):=by
 refine aN Tryz.func187 Z Z fun m w=>?_
 have hzq:RZ n (z:Rat):=by obtain ⟨k,rfl⟩:∃k,n=k+1:=⟨n-1,by omega⟩;exact RZ.int hz
 refine Cr<|aZ .n Z fun b1=>aZ .n Z fun b2=>aW .n ba fun b3=>Wn<|ab ?_
 refine a5 (Γ:=[.fr (kRC.is (rq p)),.fr (kC.is z),.fr (kRC.is (rq (z:Rat))),.fr (kRC.is (rq (p*(z:Rat))))]) (aa Z (fun N=>ae Z (mN N 2 Z) Li ai Z) (aa Z (fun N=>ae Z (mN N 1 Z) Li af Z) (aa Z (fun N=>aB dK (aj Z (aL (by exact hz.sm (by omega))) ar) (dH z)) (aa Z (fun N=>f2 dk Z Z (dp n p (z:Rat) (by assumption) (by assumption) (by assumption))) oz))))<|fun σ1=>?_
 refine aE .n (aC (l:=kRC) (u:=rq (p*(z:Rat))) 0 Z Z Z ai Z Lr)<|Wn<|aA ?_
 exact Qd Z (aY Z (ag 0 Z) ai ay) ⟨Z,Z⟩
theorem c_ref05_data (G:Nat→Nat→Int) (n nB:Nat) (hs:SymG G) (hP:PosU G n) (h12:n≤12) (hD:∀k,k≤n→Sz nB (uD G k)) (hS:∀k,k<n→RZ nB (frS G k)) (hM:∀x k,x<n→k<x→RZ nB (frM G x k)) (h1:1≤nB) (hB:nB≤34359738368):Fn Tryz.prog 112 [kFrm.is (frMus (G) n,frSts (G) n)] (kGso.is (gDs (G) n,gLs (G) n)):=by
 refine aN Tryz.func112 Z Z fun m w=>?_
 have hfl:=frSts_len G n
 refine Cr<|aZ .n Z fun b1=>aW .n eo fun b2=>Wr<|aW .n c8 fun b3=>Wr<|Ws (aB dO (aj Z (cP (by omega)) ar) (dM 1))<|Ax (l:=kC) (u:=1) bd Z af (fun _=>Z) Lr fun b4=>Wn<|ab<|bT 29 kC<|ak<|Ws (aw Z cK Z)<|Ws (aV (ae (p:=kVal.is (.slice none 0 0)) Z (ag 2 Z) (aD Li) aK Z) (bc _))<|Ws (ae Z (ag 1 Z) Li af Z) ?_
 refine Ws (bB U23 bv (bV Z bA) Z (by decide))<|bI 0 .n Z Z Z Lr U23 bv (by simp only [frRow_len,frMus_len,frSts_len,gRow_len,gDs_len,gLs_len,List.length_cons,List.length_nil];omega) fun v5=>Ws (aw Z cK Z)<|bo 0 Z fun hcell_=>aE .n (dx 2 Z Z (aD Li) aK Z (bn (by assumption)))<|Wn<|ab<|ab<|bT 23 kVC<|ak<|Wa Z<|Wn<|aF<|dz (fun (i:Nat) (vD:Value) (vL:Value)=>i≤n) (fun (i:Nat) (vD:Value) (vL:Value)=>[(1,VP.pt b1 0),(2,VP.pt b2 0),(3,VP.pt b3 0),(4,VP.pt b4 0),(5,kN6.is (i:Int))]) (fun (i:Nat) (vD:Value) (vL:Value)=>[OB.row vL 23 kVC (gLs G i),OB.row vD 29 kC (gDs G i),OB.box b4 29 kC (uD G i),OB.box b3 25 (kPair kVal kVal) (vD,vL),OB.box b2 25 kGso ([],[]),OB.box b1 150 kFrm (frMus (G) n,frSts (G) n)]) (fun (i:Nat) (vD:Value) (vL:Value)=>n-i) 0 v5 (.slice none 0 0) (Nat.zero_le _) (ao Z Z Z Z (az Z (ah (y:=(0:Int)) (by rfl)) aq)) (a9 (OS.keepLe (bi (by rfl)) (OS.keepLe (bi (by rfl)) (OS.keepLe (cm (by rfl)) (OS.keep (OS.keep (OS.keep OS.nil))))))) ?_
 intro i vD vL hi
 refine ab<|Cr<|Wm Z<|Ws (aw Z dN Z)<|Ws (ae (p:=(kSl kRC).is (frSts (G) n)) Z (ag 5 Z) (am Li) bN Z)<|Ws (aJ Z U26)<|Ws (aX Z Z)<|Wn ?_
 refine aM Z (fun h_t19=>?_)<|fun h_t19=>?_
 ·
  refine Ck<|ab<|aF<|Cr<|Wa Z<|Wn<|ab<|Cr<|Wa Z<|Wn<|aF<|bT 29 kC<|bU (fun (j:Nat) (v:Value)=>j≤i) (fun (j:Nat) (v:Value)=>[(1,VP.pt b1 0),(2,VP.pt b2 0),(3,VP.pt b3 0),(4,VP.pt b4 0),(5,kN6.is (i:Int)),(6,VP.ex v),(7,kN6.is (j:Int))]) (fun (j:Nat) (v:Value)=>[OB.row v 29 kC (gRow G i j),OB.row vL 23 kVC (gLs G i),OB.row vD 29 kC (gDs G i),OB.box b4 29 kC (uD G i),OB.box b3 25 (kPair kVal kVal) (vD,vL),OB.box b2 25 kGso ([],[]),OB.box b1 150 kFrm (frMus (G) n,frSts (G) n)]) (fun (j:Nat) (v:Value)=>i-j) 0 (.slice none 0 0) (by omega) (ao Z Z Z Z (ac Z (ac Z (az Z (ah (y:=(0:Int)) (by rfl)) aq)))) (a9 (OS.keepLe (bi (by rfl)) (OS.keep (OS.keep (OS.keep (OS.keep (OS.keep (OS.keep OS.nil)))))))) ?_
  intro j v hj
  refine ab<|Cr<|Wm Z<|Wm Z<|Ws (aX Z Z)<|Wn ?_
  refine aM Z (fun h_t24=>?_)<|fun h_t24=>?_
  ·
   refine Ck<|ab<|aF ?_
   refine a5 (Γ:=[.fr (VP.ex v),.fr (VP.pt b1 0),.fr ((kSl (kSl kRC)).is (frMus (G) n)),.fr (kN6.is (i:Int)),.fr (VP.pim (kSl kRC) ((frMus (G) n).getD i [])),.fr ((kSl kRC).is ((frMus (G) n).getD i [])),.fr (kN6.is (j:Int)),.fr (VP.pim kRC (rq (frM G i j))),.fr (kRC.is (rq (frM G i j))),.fr (VP.pt b3 0),.fr (VP.ex vD),.fr (kN6.is (j:Int)),.fr (kN6.is ((j:Int)+1)),.fr (VP.pel vD ((j+1)*2)),.fr (kC.is (uD G (j+1))),.fr (kRC.is (rq ((frM G i j)*((uD G (j+1)):Rat)))),.fr (kC.is (floorQ (frM G i j*(uD G (j+1):Rat)))),.fr (kVC.is [floorQ (frM G i j*(uD G (j+1):Rat))])]) (om Z Z (aa Z (fun N=>aw Z eU Z) (aa Z (fun N=>ae (p:=(kSl (kSl kRC)).is (frMus (G) n)) Z (mN N 6 Z) (aD Li) eX Z) (om Z Z (aa Z (fun N=>aU i Z Z U148 bN Z (v:=((frMus (G) n).getD i [])) (gd [] (by simp only [frRow_len,frMus_len,frSts_len,gRow_len,gDs_len,gLs_len];omega))) (aa Z (fun N=>aO Z bN) (om Z Z (aa Z (fun N=>aU j Z Z U26 ai Z (v:=(rq (frM G i j))) (gh (by omega) (by omega))) (aa Z (fun N=>aO Z ai) (aa Z (fun N=>aw Z cK Z) (aa Z (fun N=>aV (ae (p:=kVal.is vD) Z (mN N 4 Z) (aD Li) aK Z) (bc _)) (om Z Z (aa Z (fun N=>aR Z Z (c:=((j:Int)+1)) (aH (by omega))) (aa Z (fun N=>bb (k:=kC) (xs:=(gDs G i)) (n:=((j:Int)+1)) (j+1) Z Z (mN N 2 Z) U23 af (by omega) (by simp only [frRow_len,frMus_len,frSts_len,gRow_len,gDs_len,gLs_len];omega)) (aa Z (fun N=>bp (k:=kC) (xs:=(gDs G i)) (j+1) Z (mN N 2 Z) Li (ho:=Z) (y:=(uD G (j+1))) (dv (by omega)) af Z) (aa Z (fun N=>f2 fn187 Z Z (c_ref05_times nB (frM G i j) (uD G (j+1)) (hM i j (by omega) (by omega)) (hD (j+1) (by omega)) (by assumption) (by omega))) (aa Z (fun N=>aB fn159 (aj Z (ah (y:=rq (frM G i j*(uD G (j+1):Rat))) (by rfl)) ar) (gL (nB+nB) (frM G i j*(uD G (j+1):Rat)) ((hM i j (by omega) (by omega)).mul (RZ_int h1 (hD (j+1) (by omega)))) (by omega))) (aa Z (fun N=>bB U23 bv (bV Z bA) Z (by decide)) oz))))))))))))))))))<|fun σ1=>?_
   refine bI 0 .n Z Z Z Lr U23 bv (by simp only [frRow_len,frMus_len,frSts_len,gRow_len,gDs_len,gLs_len,List.length_cons,List.length_nil];omega) fun v6=>Wa Z<|au<|Qb<|ak<|Wm Z<|Ws (aR Z Z (c:=((j:Int)+1)) (aH (by omega)))<|Wa Z<|au<|tr 0 Z (y:=(gRow G i (j+1))) (by rw [data_L hs hP (by omega) (by omega)];exact gRow_app G i j) ?_
   exact bS (j+1) v6 (by omega) (by omega) (ao Z Z Z Z (ac Z (ac Z (az Z (ah (y:=(((j+1):Nat):Int)) (by rfl)) aq))))<|aG _
  ·
   refine Ex<|ab<|tr 0 Z (y:=(gRow G i i)) (by rw [show j=i by omega])<|bL 0 Z (kp 1 Z (kp 2 Z (kp 3 Z (kp 4 Z (kp 5 Z (.hit (i:=6) Z (kp 7 Z (kp 22 Z (kp 23 Z (kp 24 Z .nil))))))))))<|ak<|Ws (aw Z ct Z)<|Ws (aV (ae (p:=kVal.is vL) Z (ag 3 Z) (am Li) bf Z) (bc _))<|Wm Z<|Ws (bB U22 c6 (bV Z bA) Z (by decide))<|bI 0 .n Z Z Z Lr U22 c6 (by simp only [frRow_len,frMus_len,frSts_len,gRow_len,gDs_len,gLs_len,List.length_cons,List.length_nil];omega) fun v7=>Ws (aw Z ct Z)<|bo 0 Z fun hcell_=>aE .n (dx 3 Z Z (am Li) bf Z (bn (by assumption)))<|Wn<|ab ?_
   refine a5 (Γ:=[.fr (VP.pt b1 1),.fr ((kSl kRC).is (frSts (G) n)),.fr (kN6.is (i:Int)),.fr (VP.pim kRC (rq (frS G i))),.fr (kRC.is (rq (frS G i))),.fr (kC.is (uD G i)),.fr (kRC.is (rq ((frS G i)*((uD G i):Rat)))),.fr (kC.is (floorQ (frS G i*(uD G i:Rat))))]) (aa Z (fun N=>aw Z dN Z) (aa Z (fun N=>ae (p:=(kSl kRC).is (frSts (G) n)) Z (mN N 5 Z) (am Li) bN Z) (om Z Z (aa Z (fun N=>aU i Z Z U26 ai Z (v:=(rq (frS G i))) (eL (by omega))) (aa Z (fun N=>aO Z ai) (aa Z (fun N=>ae Z (mN N 2 Z) Li af Z) (aa Z (fun N=>f2 fn187 Z Z (c_ref05_times nB (frS G i) (uD G i) (hS i (by omega)) (hD i (by omega)) (by assumption) (by omega))) (aa Z (fun N=>aB fn159 (aj Z (ah (y:=rq (frS G i*(uD G i:Rat))) (by rfl)) ar) (gL (nB+nB) (frS G i*(uD G i:Rat)) ((hS i (by omega)).mul (RZ_int h1 (hD i (by omega)))) (by omega))) oz))))))))<|fun σ2=>?_
   refine aE .n (aC (l:=kC) (u:=floorQ (frS G i*(uD G i:Rat))) 2 Z Z Z af Z Lr)<|Wn<|tb 2 Z (y:=(uD G (i+1))) (data_D hs hP (by omega))<|ak<|Ws (aw Z cK Z)<|Ws (aV (ae (p:=kVal.is vD) Z (ag 3 Z) (aD Li) aK Z) (bc _))<|Ws (ae Z (ag 2 Z) Li af Z)<|Ws (bB U23 bv (bV Z bA) Z (by decide))<|bI 1 .n Z Z Z Lr U23 bv (by simp only [frRow_len,frMus_len,frSts_len,gRow_len,gDs_len,gLs_len,List.length_cons,List.length_nil];omega) fun v8=>Ws (aw Z cK Z)<|bo 1 Z fun hcell_=>aE .n (dx 3 Z Z (aD Li) aK Z (bn (by assumption)))<|au<|Qb<|ak<|Wm Z<|Ws (aR Z Z (c:=((i:Int)+1)) (aH (by omega)))<|Wa Z<|au<|tr 1 Z (y:=(gDs G (i+1))) (gDs_app G i)<|tr 0 Z (y:=(gLs G (i+1))) (gLs_app G i) ?_
   exact dd (i+1) v8 v7 (by omega) (by omega) (ao Z Z Z Z (az Z (ah (y:=(((i+1):Nat):Int)) (by rfl)) aq))<|aG _
 ·
  refine Ex<|ab<|tr 1 Z (y:=(gDs G n)) (by rw [show i=n by omega])<|tr 0 Z (y:=(gLs G n)) (by rw [show i=n by omega])<|eb (k2:=(kPair kVC kVal)) ((gDs G n),vL) 1 2 Z Z (fun m_ cs_ h_ c_=>fB m_ cs_ h_ c_) (kp 1 Z (kp 2 Z (kp 3 Z (kp 4 Z (kp 5 Z (kp 15 Z (kp 16 Z (kp 17 Z (kp 18 Z (kp 19 Z .nil))))))))))<|eb (k2:=kGso) ((gDs G n),(gLs G n)) 0 1 Z Z (fun m_ cs_ h_ c_=>fA m_ cs_ h_ c_) (kp 1 Z (kp 2 Z (kp 3 Z (kp 4 Z (kp 5 Z (kp 15 Z (kp 16 Z (kp 17 Z (kp 18 Z (kp 19 Z .nil))))))))))<|ak<|Ws (ae (p:=kGso.is ((gDs G n),(gLs G n))) Z (ag 1 Z) Li bl Z)<|aE .n (aC (l:=kGso) (u:=((gDs G n),(gLs G n))) 2 Z Z Z bl Z Lr)<|Wn<|aA ?_
  exact Qd Z (dE Z (ag 2 Z) bl (ah (y:=(gDs (G) n,gLs (G) n)) (by rfl)) ay) ⟨Z,Z⟩
theorem c_ref05_Wide (n:Nat) (b:List (List Int)) (hb:SzM n b) (hn:n≤1048576) (hE:gsoE b false=0) (hP:PosU (gram b) b.length) (hr:RectL b) (h12:b.length≤12) (hc:(b.getD 0 []).length≤12):Fn Tryz.prog 51 [kMZ.is b] (VP.tup [kGso.is (gDs (gram b) b.length,gLs (gram b) b.length),kN6.is 0]):=by
 refine aN Tryz.func51 Z Z fun m w=>Cr<|aW .n eo fun b1=>Wa Z<|Wr<|Wm Z<|Ws (f2 fn110 Z Z (c_ref05_check n b false (fun _=>hb) hn))<|Wm Z<|Ws (aP Z Z)<|Ws (aP Z Z)<|Ax (l:=kFrm) (u:=frR b false) fc Z dg (fun _=>Z) Lr fun b2=>Wa Z<|Wn<|ab<|ab<|tb 0 Z (y:=(frMus (gram b) b.length,frSts (gram b) b.length)) (frR_ok hE hP)<|ak<|Wm Z ?_
 refine Ws (bG Z Z)<|Wn ?_
 refine CN Z (fun h=>h hE) fun h_t12=>?_
 refine Ck<|Cr<|Ws (ae (p:=kFrm.is (frMus (gram b) b.length,frSts (gram b) b.length)) Z (ag 0 Z) Li dg Z)<|Ws (aB fn112 (aj Z (ah (y:=(frMus ((gram b)) b.length,frSts ((gram b)) b.length)) (by rfl)) ar) (c_ref05_data (gram b) b.length 8590000128 (gram_symG hr) hP h12 ((wide_sz hb hr hc hP h12 hn).1) ((wide_sz hb hr hc hP h12 hn).2.1) ((wide_sz hb hr hc hP h12 hn).2.2) (by decide) (by decide)))<|aE .n (aC (l:=kGso) (u:=(gDs ((gram b)) b.length,gLs ((gram b)) b.length)) 1 Z Z Z bl Z Lr)<|Wa Z<|Wn<|aA ?_
 exact Qd Z (dE Z (ag 1 Z) bl (ah (y:=(gDs (gram b) b.length,gLs (gram b) b.length)) (by rfl)) (aI Z ay)) ⟨Z,Z⟩
theorem c_ref05_Makeo (vB:Value) (n:Nat) (b:List (List Int)) (hb:SzM n b) (hr:RectL b) (hl:b.length≤12) (hc:(b.getD 0 []).length≤12) (hn:n≤34359738368) (hPn:PosU (gram b) b.length) (hSn:∀k,k<b.length→RZ 8590000128 (frS (gram b) k)) (hMn:∀x k,x<b.length→k<x→RZ 8590000128 (frM (gram b) x k)) (hEn:∀i k j,i<b.length→k≤i→k≤j→j≤i→RZ 8590000128 (gsE (qG (gram b)) k i j)):Con Tryz.prog 181 [VP.ex vB] [OB.row vB 23 kVC b] (fun p Lo=>p=VP.tup [kFrm.is (frMus (gram b) b.length,frSts (gram b) b.length),kBool.is true]∧Lo=[OB.row vB 23 kVC b]∧True):=by
 refine aN Tryz.func181 Z Z fun m w=>?_
 have hs:=gram_symG hr
 have hz:∀i j,Sz (n+n+12) (gram b i j):=fun i j=>gram_Sz hb hr hc i j
 refine Cr<|aW .n fc fun b1=>Wa Z<|Wr<|aW .n z150_pr_val_val_ fun b2=>Wn<|ab<|Cr<|Wa Z<|Wn<|aF<|bT 31 kRC<|bT 26 (kSl kRC)<|dz (fun (i:Nat) (vM:Value) (vS:Value)=>i≤b.length) (fun (i:Nat) (vM:Value) (vS:Value)=>[(0,VP.ex vB),(2,VP.pt b1 0),(3,kBool.is false),(4,VP.pt b2 0),(5,kN6.is (i:Int))]) (fun (i:Nat) (vM:Value) (vS:Value)=>[OB.row vM 26 (kSl kRC) (frMus (gram b) i),OB.row vS 31 kRC (frSts (gram b) i),OB.box b2 150 (kPair kVal kVal) (vM,vS),OB.box b1 150 kFrm ([],[]),OB.row vB 23 kVC b]) (fun (i:Nat) (vM:Value) (vS:Value)=>b.length-i) 0 (.slice none 0 0) (.slice none 0 0) (Nat.zero_le _) (ao Z Z Z Z (az Z (ah (y:=(0:Int)) (by rfl)) aq)) (a9 (OS.keepLe (bi (by rfl)) (OS.keepLe (bi (by rfl)) (OS.keep (OS.keep (OS.keep OS.nil)))))) ?_
 intro i vM vS hi
 have hP:PosU (gram b) i:=hPn.le hi
 refine ab<|Cr<|Wm Z<|Wm Z<|Ws (de Z (ag 4 Z) U22)<|Ws (aX Z Z)<|Wn ?_
 refine aM Z (fun h_t15=>?_)<|fun h_t15=>?_
 ·
  refine Ck<|ab<|aF<|Cr<|Wa Z<|Wn<|ab<|Cr<|Wa Z<|Wn<|aF<|bT 31 kRC ?_
  have hE:∀k j,k≤i→k≤j→j≤i→RZ 8590000128 (gsE (qG (gram b)) k i j):=fun k j h1 h2 h3=>hEn i k j (by omega) h1 h2 h3
  have hS:∀k,k<i→RZ 8590000128 (frS (gram b) k):=fun k hk=>hSn k (by omega)
  have hM:∀x k,x<b.length→k<x→RZ 8590000128 (frM (gram b) x k):=hMn
  refine bU (fun (j:Nat) (v:Value)=>j≤i) (fun (j:Nat) (v:Value)=>[(0,VP.ex vB),(2,VP.pt b1 0),(3,kBool.is false),(4,VP.pt b2 0),(5,kN6.is (i:Int)),(6,VP.ex v),(7,kN6.is (j:Int))]) (fun (j:Nat) (v:Value)=>[OB.row v 31 kRC (frRow (gram b) i j),OB.row vM 26 (kSl kRC) (frMus (gram b) i),OB.row vS 31 kRC (frSts (gram b) i),OB.box b2 150 (kPair kVal kVal) (vM,vS),OB.box b1 150 kFrm ([],[]),OB.row vB 23 kVC b]) (fun (j:Nat) (v:Value)=>i-j) 0 (.slice none 0 0) (by omega) (ao Z Z Z Z (ac Z (ac Z (az Z (ah (y:=(0:Int)) (by rfl)) aq)))) (a9 (OS.keepLe (bi (by rfl)) (OS.keep (OS.keep (OS.keep (OS.keep (OS.keep OS.nil))))))) ?_
  intro j v hj
  refine ab<|Cr<|Wm Z<|Wm Z<|Ws (aX Z Z)<|Wn ?_
  refine aM Z (fun h_t20=>?_)<|fun h_t20=>?_
  ·
   refine Ck<|ab<|aF<|ab ?_
   refine a5 (Γ:=[.fr (VP.ex vB),.fr (kN6.is (i:Int)),.fr (VP.pel vB (i*1)),.fr (kVC.is (b.getD i [])),.fr (VP.ex vB),.fr (kN6.is (j:Int)),.fr (VP.pel vB (j*1)),.fr (kVC.is (b.getD j [])),.fr (kC.is (dotV (b.getD i []) (b.getD j []))),.fr (kRC.is (rq (gsE (qG (gram b)) 0 i j))),.al (fun b=>OB.box b 31 kRC (0,0))]) (om Z Z (om Z Z (aa Z (fun N=>bb (k:=kVC) (xs:=b) (n:=(i:Int)) i Z Z (mN N 5 Z) U22 aK Z (by omega)) (aa Z (fun N=>bp i Z (mN N 5 Z) Li Z (y:=(b.getD i [])) (gd [] (by omega)) aK Z) (om Z Z (om Z Z (aa Z (fun N=>bb (k:=kVC) (xs:=b) (n:=(j:Int)) j Z Z (mN N 5 Z) U22 aK Z (by omega)) (aa Z (fun N=>bp j Z (mN N 5 Z) Li Z (y:=(b.getD j [])) (gd [] (by omega)) aK Z) (aa Z (fun N=>aB fn238 (aj Z (dB ((hb i).sm (by omega))) (aj Z (dB ((hb j).sm (by omega))) ar)) (gp n (b.getD i []) (b.getD j []) (hb i) (hb j) (by have:=row_le hr hc i;omega) (by rw [hr i (by omega),hr j (by omega)];exact Nat.le_refl _))) (aa Z (fun N=>aV (aB dK (aj Z (aL ((hz i j).sm (by omega))) ar) (dH (dotV (b.getD i []) (b.getD j [])))) (ah Z)) (oc (cR Z ba) oz)))))))))))<|fun σ1=>?_
   refine aE .n (aC (l:=kRC) (u:=rq (gsE (qG (gram b)) 0 i j)) 0 Z Z Z ai Z Lr)<|Wn<|ab<|Cr<|Wa Z<|Wn<|aF<|bU (fun (k:Nat) (p:Nat)=>k≤j) (fun (k:Nat) (p:Nat)=>[(0,VP.ex vB),(2,VP.pt b1 0),(3,kBool.is false),(4,VP.pt b2 0),(5,kN6.is (i:Int)),(6,VP.ex v),(7,kN6.is (j:Int)),(8,VP.pt p 0),(9,kN6.is (k:Int))]) (fun (k:Nat) (p:Nat)=>[OB.box p 31 kRC (rq (gsE (qG (gram b)) k i j)),OB.row v 31 kRC (frRow (gram b) i j),OB.row vM 26 (kSl kRC) (frMus (gram b) i),OB.row vS 31 kRC (frSts (gram b) i),OB.box b2 150 (kPair kVal kVal) (vM,vS),OB.box b1 150 kFrm ([],[]),OB.row vB 23 kVC b]) (fun (k:Nat) (p:Nat)=>j-k) 0 (σ1 10) (by omega) (ao Z Z Z Z (ao Z Z Z Z (az Z (ah (y:=(0:Int)) (by rfl)) aq))) (aG _) ?_
   intro k p hk
   refine ab<|Cr<|Wm Z<|Wm Z<|Ws (aX Z Z)<|Wn ?_
   refine aM Z (fun h_t35=>?_)<|fun h_t35=>?_
   ·
    refine Ck<|ab<|aF ?_
    refine a5 (Γ:=[.fr (kRC.is (rq (gsE (qG (gram b)) k i j))),.fr (VP.pt b2 0),.fr (VP.ex vM),.fr (kN6.is (j:Int)),.fr (VP.pel vM (j*1)),.fr ((kSl kRC).is ((frMus (gram b) i).getD j [])),.fr (kN6.is (k:Int)),.fr (VP.pim kRC (rq (frM (gram b) j k))),.fr (kRC.is (rq (frM (gram b) j k))),.fr (VP.ex v),.fr (kN6.is (k:Int)),.fr (VP.pel v (k*4)),.fr (kRC.is (rq (frM (gram b) i k))),.fr (kRC.is (rq ((frM (gram b) j k)*(frM (gram b) i k)))),.fr (VP.pt b2 1),.fr (VP.ex vS),.fr (kN6.is (k:Int)),.fr (VP.pel vS (k*4)),.fr (kRC.is (rq (frS (gram b) k))),.fr (kRC.is (rq ((frM (gram b) j k*frM (gram b) i k)*(frS (gram b) k)))),.fr (kRC.is (rq ((gsE (qG (gram b)) k i j)-(frM (gram b) j k*frM (gram b) i k*frS (gram b) k))))]) (aa Z (fun N=>ae Z (mN N 0 Z) Li ai Z) (aa Z (fun N=>aw Z eU Z) (aa Z (fun N=>aV (ae (p:=kVal.is vM) Z (mN N 4 Z) (aD Li) eX Z) (bc _)) (om Z Z (aa Z (fun N=>bb (k:=(kSl kRC)) (xs:=(frMus (gram b) i)) (n:=(j:Int)) j Z Z (mN N 2 Z) U148 bN Z (by simp only [frRow_len,frMus_len,frSts_len];omega)) (aa Z (fun N=>bp j Z (mN N 2 Z) Li Z (y:=((frMus (gram b) i).getD j [])) (gd [] (by simp only [frRow_len,frMus_len,frSts_len];omega)) bN Z) (om Z Z (aa Z (fun N=>aU k Z Z U26 ai Z (v:=(rq (frM (gram b) j k))) (gh (by omega) (by omega))) (aa Z (fun N=>aO Z ai) (om Z Z (om Z Z (aa Z (fun N=>bb (k:=kRC) (xs:=(frRow (gram b) i j)) (n:=(k:Int)) k Z Z (mN N 1 Z) U26 ai Z (by simp only [frRow_len,frMus_len,frSts_len];omega)) (aa Z (fun N=>bp (k:=kRC) (xs:=(frRow (gram b) i j)) k Z (mN N 1 Z) Li (ho:=Z) (y:=(rq (frM (gram b) i k))) (frRow_at (by omega)) ai Z) (aa Z (fun N=>f2 dk Z Z (dp 8590000128 (frM (gram b) j k) (frM (gram b) i k) (hM j k (by omega) (by omega)) (hM i k (by omega) (by omega)) (by omega))) (aa Z (fun N=>aw Z dN Z) (aa Z (fun N=>aV (ae (p:=kVal.is vS) Z (mN N 4 Z) (am Li) bN Z) (bc _)) (om Z Z (aa Z (fun N=>bb (k:=kRC) (xs:=(frSts (gram b) i)) (n:=(k:Int)) k Z Z (mN N 3 Z) U26 ai Z (by simp only [frRow_len,frMus_len,frSts_len];omega)) (aa Z (fun N=>bp (k:=kRC) (xs:=(frSts (gram b) i)) k Z (mN N 3 Z) Li (ho:=Z) (y:=(rq (frS (gram b) k))) (eL (by omega)) ai Z) (aa Z (fun N=>aB dk (aj Z (ah (y:=rq (frM (gram b) j k*frM (gram b) i k)) (by rfl)) (aS Z ar)) (dp 17180000256 (frM (gram b) j k*frM (gram b) i k) (frS (gram b) k) ((hM j k (by omega) (by omega)).mul (hM i k (by omega) (by omega))) ((hS k (by omega)).up (by omega)) (by omega))) (aa Z (fun N=>aB d6 (aS Z (aj Z (ah (y:=rq (frM (gram b) j k*frM (gram b) i k*frS (gram b) k)) (by rfl)) ar)) (eu 25770000384 (gsE (qG (gram b)) k i j) (frM (gram b) j k*frM (gram b) i k*frS (gram b) k) ((hE k j (by omega) (by omega) (by omega)).up (by omega)) (((hM j k (by omega) (by omega)).mul (hM i k (by omega) (by omega))).mul (hS k (by omega))) (by omega))) oz)))))))))))))))))))))<|fun σ2=>?_
    refine aE .n (aC (l:=kRC) (u:=rq ((gsE (qG (gram b)) k i j)-(frM (gram b) j k*frM (gram b) i k*frS (gram b) k))) 0 Z Z Z ai Z Lr)<|au<|Qb<|ak<|Wm Z<|Ws (aR Z Z (c:=((k:Int)+1)) (aH (by omega)))<|Wa Z<|au<|tb 0 Z (y:=(rq (gsE (qG (gram b)) (k+1) i j))) (by rw [fr_step hs (hP.le (by omega))]) ?_
    exact bS (k+1) p (by omega) (by omega) (ao Z Z Z Z (ao Z Z Z Z (az Z (ah (y:=(((k+1):Nat):Int)) (by rfl)) aq)))<|aG _
   ·
    refine Ex<|tb 0 Z (y:=(rq (gsE (qG (gram b)) j i j))) (by rw [show k=j by omega]) ?_
    refine a5 (Γ:=[.fr (VP.ex v),.fr (kRC.is (rq (gsE (qG (gram b)) j i j))),.fr (VP.pt b2 1),.fr (VP.ex vS),.fr (kN6.is (j:Int)),.fr (VP.pel vS (j*4)),.fr (kRC.is (rq (frS (gram b) j))),.fr (kRC.is (rq ((gsE (qG (gram b)) j i j)/(frS (gram b) j)))),.fr ((kSl kRC).is [rq ((gsE (qG (gram b)) j i j)/(frS (gram b) j))])]) (om Z Z (aa Z (fun N=>ae Z (mN N 0 Z) Li ai Z) (aa Z (fun N=>aw Z dN Z) (aa Z (fun N=>aV (ae (p:=kVal.is vS) Z (mN N 4 Z) (am Li) bN Z) (bc _)) (om Z Z (aa Z (fun N=>bb (k:=kRC) (xs:=(frSts (gram b) i)) (n:=(j:Int)) j Z Z (mN N 3 Z) U26 ai Z (by simp only [frRow_len,frMus_len,frSts_len];omega)) (aa Z (fun N=>bp (k:=kRC) (xs:=(frSts (gram b) i)) j Z (mN N 3 Z) Li (ho:=Z) (y:=(rq (frS (gram b) j))) (eL (by omega)) ai Z) (aa Z (fun N=>f2 fn76 Z Z (c_ref03_Div 8590000128 (gsE (qG (gram b)) j i j) (frS (gram b) j) (hE j j (by omega) (by omega) (by omega)) (hS j (by omega)) (by omega) (frS_ne hs (hP.le (by omega))))) (aa Z (fun N=>bB U26 dn (bV Z bA) Z (by decide)) oz)))))))))<|fun σ3=>?_
    refine bI 1 .n Z Z Z Lr U26 dn (by simp only [frRow_len,frMus_len,frSts_len,List.length_cons,List.length_nil];omega) fun v3=>Wa Z<|au<|Qb<|ak<|Wm Z<|Ws (aR Z Z (c:=((j:Int)+1)) (aH (by omega)))<|Wa Z<|au<|tr 1 Z (y:=(frRow (gram b) i (j+1))) (frRow_app (gram b) i j) ?_
    exact bS (j+1) v3 (by omega) (by omega) (ao Z Z Z Z (ac Z (ac Z (az Z (ah (y:=(((j+1):Nat):Int)) (by rfl)) aq))))<|a9<|OS.skip<|OS.keep<|OS.keep<|OS.keep<|OS.keep<|OS.keep<|OS.keep OS.nil
  ·
   refine Ex<|ab<|tr 0 Z (y:=(frRow (gram b) i i)) (by rw [show j=i by omega]) ?_
   refine a5 (Γ:=[.fr (VP.ex vB),.fr (kN6.is (i:Int)),.fr (VP.pel vB (i*1)),.fr (kVC.is (b.getD i [])),.fr (VP.ex vB),.fr (kN6.is (i:Int)),.fr (VP.pel vB (i*1)),.fr (kVC.is (b.getD i [])),.fr (kC.is (dotV (b.getD i []) (b.getD i []))),.fr (kRC.is (rq (gsE (qG (gram b)) 0 i i))),.al (fun b=>OB.box b 31 kRC (0,0))]) (om Z Z (om Z Z (aa Z (fun N=>bb (k:=kVC) (xs:=b) (n:=(i:Int)) i Z Z (mN N 5 Z) U22 aK Z (by omega)) (aa Z (fun N=>bp i Z (mN N 5 Z) Li Z (y:=(b.getD i [])) (gd [] (by omega)) aK Z) (om Z Z (om Z Z (aa Z (fun N=>bb (k:=kVC) (xs:=b) (n:=(i:Int)) i Z Z (mN N 5 Z) U22 aK Z (by omega)) (aa Z (fun N=>bp i Z (mN N 5 Z) Li Z (y:=(b.getD i [])) (gd [] (by omega)) aK Z) (aa Z (fun N=>aB fn238 (aj Z (dB ((hb i).sm (by omega))) (aj Z (dB ((hb i).sm (by omega))) ar)) (gp n (b.getD i []) (b.getD i []) (hb i) (hb i) (by have:=row_le hr hc i;omega) (Nat.le_refl _))) (aa Z (fun N=>aV (aB dK (aj Z (aL ((hz i i).sm (by omega))) ar) (dH (dotV (b.getD i []) (b.getD i [])))) (ah Z)) (oc (cR Z ba) oz)))))))))))<|fun σ4=>?_
   refine aE .n (aC (l:=kRC) (u:=rq (gsE (qG (gram b)) 0 i i)) 0 Z Z Z ai Z Lr)<|Wn<|ab<|Cr<|Wa Z<|Wn<|aF<|bU (fun (l:Nat) (p:Nat)=>l≤i) (fun (l:Nat) (p:Nat)=>[(0,VP.ex vB),(2,VP.pt b1 0),(3,kBool.is false),(4,VP.pt b2 0),(5,kN6.is (i:Int)),(6,VP.ex v),(10,VP.pt p 0),(11,kN6.is (l:Int))]) (fun (l:Nat) (p:Nat)=>[OB.box p 31 kRC (rq (gsE (qG (gram b)) l i i)),OB.row v 31 kRC (frRow (gram b) i i),OB.row vM 26 (kSl kRC) (frMus (gram b) i),OB.row vS 31 kRC (frSts (gram b) i),OB.box b2 150 (kPair kVal kVal) (vM,vS),OB.box b1 150 kFrm ([],[]),OB.row vB 23 kVC b]) (fun (l:Nat) (p:Nat)=>i-l) 0 (σ4 10) (by omega) (ao Z Z Z Z (ac Z (ac Z (ac Z (az Z (ah (y:=(0:Int)) (by rfl)) aq))))) (aG _) ?_
   intro l p hl2
   refine ab<|Cr<|Wm Z<|Wm Z<|Ws (aX Z Z)<|Wn ?_
   refine aM Z (fun h_t81=>?_)<|fun h_t81=>?_
   ·
    refine Ck<|ab<|aF ?_
    refine a5 (Γ:=[.fr (kRC.is (rq (gsE (qG (gram b)) l i i))),.fr (VP.ex v),.fr (kN6.is (l:Int)),.fr (VP.pel v (l*4)),.fr (kRC.is (rq (frM (gram b) i l))),.fr (kRC.is (rq ((frM (gram b) i l)*(frM (gram b) i l)))),.fr (VP.pt b2 1),.fr (VP.ex vS),.fr (kN6.is (l:Int)),.fr (VP.pel vS (l*4)),.fr (kRC.is (rq (frS (gram b) l))),.fr (kRC.is (rq ((frM (gram b) i l*frM (gram b) i l)*(frS (gram b) l)))),.fr (kRC.is (rq ((gsE (qG (gram b)) l i i)-(frM (gram b) i l*frM (gram b) i l*frS (gram b) l))))]) (aa Z (fun N=>ae Z (mN N 0 Z) Li ai Z) (om Z Z (om Z Z (aa Z (fun N=>bb (k:=kRC) (xs:=(frRow (gram b) i i)) (n:=(l:Int)) l Z Z (mN N 1 Z) U26 ai Z (by simp only [frRow_len,frMus_len,frSts_len];omega)) (aa Z (fun N=>bp (k:=kRC) (xs:=(frRow (gram b) i i)) l Z (mN N 1 Z) Li (ho:=Z) (y:=(rq (frM (gram b) i l))) (frRow_at (by omega)) ai Z) (aa Z (fun N=>f1 fn239 Z (c_ref05_square 8590000128 (frM (gram b) i l) (hM i l (by omega) (by omega)) (by omega))) (aa Z (fun N=>aw Z dN Z) (aa Z (fun N=>aV (ae (p:=kVal.is vS) Z (mN N 4 Z) (am Li) bN Z) (bc _)) (om Z Z (aa Z (fun N=>bb (k:=kRC) (xs:=(frSts (gram b) i)) (n:=(l:Int)) l Z Z (mN N 3 Z) U26 ai Z (by simp only [frRow_len,frMus_len,frSts_len];omega)) (aa Z (fun N=>bp (k:=kRC) (xs:=(frSts (gram b) i)) l Z (mN N 3 Z) Li (ho:=Z) (y:=(rq (frS (gram b) l))) (eL (by omega)) ai Z) (aa Z (fun N=>aB dk (aj Z (ah (y:=rq (frM (gram b) i l*frM (gram b) i l)) (by rfl)) (aS Z ar)) (dp 17180000256 (frM (gram b) i l*frM (gram b) i l) (frS (gram b) l) ((hM i l (by omega) (by omega)).mul (hM i l (by omega) (by omega))) ((hS l (by omega)).up (by omega)) (by omega))) (aa Z (fun N=>aB d6 (aS Z (aj Z (ah (y:=rq (frM (gram b) i l*frM (gram b) i l*frS (gram b) l)) (by rfl)) ar)) (eu 25770000384 (gsE (qG (gram b)) l i i) (frM (gram b) i l*frM (gram b) i l*frS (gram b) l) ((hE l i (by omega) (by omega) (by omega)).up (by omega)) (((hM i l (by omega) (by omega)).mul (hM i l (by omega) (by omega))).mul (hS l (by omega))) (by omega))) oz)))))))))))))<|fun σ5=>?_
    refine aE .n (aC (l:=kRC) (u:=rq ((gsE (qG (gram b)) l i i)-(frM (gram b) i l*frM (gram b) i l*frS (gram b) l))) 0 Z Z Z ai Z Lr)<|au<|Qb<|ak<|Wm Z<|Ws (aR Z Z (c:=((l:Int)+1)) (aH (by omega)))<|Wa Z<|au<|tb 0 Z (y:=(rq (gsE (qG (gram b)) (l+1) i i))) (by rw [fr_step hs (hP.le (by omega))]) ?_
    exact bS (l+1) p (by omega) (by omega) (ao Z Z Z Z (ac Z (ac Z (ac Z (az Z (ah (y:=(((l+1):Nat):Int)) (by rfl)) aq)))))<|aG _
   ·
    refine Ex<|ab<|ab ?_
    have hSi:RZ 8590000128 (frS (gram b) i):=hSn i (by omega)
    refine tb 0 Z (y:=(rq (frS (gram b) i))) (by rw [show l=i by omega];rfl)<|ak<|Ws (aw Z cB Z)<|Ws (ae Z (ag 0 Z) (aD Li) af Z)<|Ws (aB eD (aj Z (aL (hSi.a.sm (by omega))) ar) (er ((rq (frS (gram b) i)).1)))<|Ws (dL Z Z)<|Wn ?_
    refine CN Z (fun h=>(frS_sgn hs hP).1 h (hPn i (by omega))) fun h_t100=>?_
    refine Ck<|ab<|bL 1 Z (kp 0 Z (kp 2 Z (kp 3 Z (kp 4 Z (kp 5 Z (.hit (i:=6) Z (kp 10 Z (kp 11 Z (kp 79 Z (kp 80 Z (kp 81 Z (kp 97 Z (kp 98 Z (kp 99 Z (kp 100 Z .nil)))))))))))))))<|ak<|Ws (aw Z eU Z)<|Ws (aV (ae (p:=kVal.is vM) Z (ag 3 Z) (aD Li) eX Z) (bc _))<|Wm Z<|Ws (bB U148 gk (bV Z bA) Z (by decide))<|bI 1 .n Z Z Z Lr U148 gk (by simp only [frRow_len,frMus_len,frSts_len,List.length_cons,List.length_nil];omega) fun v4=>Ws (aw Z eU Z)<|bo 1 Z fun hcell_=>aE .n (dx 3 Z Z (aD Li) eX Z (bn (by assumption)))<|Wn<|ak<|Ws (aw Z dN Z)<|Ws (aV (ae (p:=kVal.is vS) Z (ag 3 Z) (am Li) bN Z) (bc _))<|Ws (ae Z (ag 0 Z) Li ai Z)<|Ws (bB U26 dn (bV Z bA) Z (by decide))<|bI 2 .n Z Z Z Lr U26 dn (by simp only [frRow_len,frMus_len,frSts_len,List.length_cons,List.length_nil];omega) fun v5=>Ws (aw Z dN Z)<|bo 2 Z fun hcell_=>aE .n (dx 3 Z Z (am Li) bN Z (bn (by assumption))) ?_
    refine au<|Qb<|ak<|Wm Z<|Ws (aR Z Z (c:=((i:Int)+1)) (aH (by omega)))<|Wa Z<|au<|tr 1 Z (y:=(frMus (gram b) (i+1))) (frMus_app (gram b) i)<|tr 2 Z (y:=(frSts (gram b) (i+1))) (frSts_app (gram b) i) ?_
    exact dd (i+1) v4 v5 (by omega) (by omega) (ao Z Z Z Z (az Z (ah (y:=(((i+1):Nat):Int)) (by rfl)) aq))<|a9<|OS.skip<|OS.keep<|OS.keep<|OS.keep<|OS.keep<|OS.keep OS.nil
 ·
  refine Ex<|ab<|eb (k2:=(kPair (kSl (kSl kRC)) kVal)) ((frMus (gram b) i),vS) 0 1 Z Z (fun m_ cs_ h_ c_=>fB m_ cs_ h_ c_) (kp 0 Z (kp 2 Z (kp 3 Z (kp 4 Z (kp 5 Z (kp 12 Z (kp 13 Z (kp 14 Z (kp 15 Z .nil)))))))))<|eb (k2:=kFrm) ((frMus (gram b) i),(frSts (gram b) i)) 0 0 Z Z (fun m_ cs_ h_ c_=>fA m_ cs_ h_ c_) (kp 0 Z (kp 2 Z (kp 3 Z (kp 4 Z (kp 5 Z (kp 12 Z (kp 13 Z (kp 14 Z (kp 15 Z .nil))))))))) ?_
  have hib:i=b.length:=by omega
  refine ak<|Ws (ae (p:=kFrm.is ((frMus (gram b) i),(frSts (gram b) i))) Z (ag 0 Z) Li dg Z)<|aE .n (aC (l:=kFrm) (u:=((frMus (gram b) i),(frSts (gram b) i))) 1 Z Z Z dg Z Lr)<|Wa Z<|Wn<|aA<|tb 1 Z (y:=(frMus (gram b) b.length,frSts (gram b) b.length)) (by rw [←hib])<|bg (bm [2,1] (by decide) Z) ?_
  exact cg (.inl Z) Z (aY Z (ag 1 Z) dg (aI Z ay)) (a9 (OS.keep (OS.skip OS.nil))) ⟨Z,Z,trivial⟩
theorem c_ref05_Rowsx (b:List (List Int)):Con Tryz.prog 240 [kMZ.is b] [] (fun p Lo=>∃(v:Value),p=VP.ex v∧Lo=[OB.row v 23 kVC b]∧True):=by
 refine aN Tryz.func240 Z Z fun m w=>a8 (i:=0) Z bF fun hB=>a8 (i:=0) Z fg fun hlc=>Cr<|Wa Z<|Wr<|Wa Z<|Wn<|ab<|Cr<|Wa Z<|Wn<|aF<|bT 23 kVC<|bU (fun (i:Nat) (v:Value)=>i≤b.length) (fun (i:Nat) (v:Value)=>[(0,kMZ.is b),(3,VP.ex v),(4,kN6.is (i:Int))]) (fun (i:Nat) (v:Value)=>[OB.row v 23 kVC (b.take i)]) (fun (i:Nat) (v:Value)=>b.length-i) 0 (.slice none 0 0) (Nat.zero_le _) (ac Z (ac Z (az Z (ah (y:=(0:Int)) (by rfl)) aq))) (a9 (OS.keepLe (bi (by rfl)) OS.nil)) ?_
 intro i v hi
 refine ab<|Cr<|Wm Z<|Wm Z<|Ws (aJ Z U22)<|Ws (aX Z Z)<|Wn ?_
 refine aM Z (fun h_t10=>?_)<|fun h_t10=>?_
 ·
  refine Ck<|ab<|aF<|Cr<|Wa Z<|Wn<|ab<|Cr<|Wa Z<|Wn<|aF ?_
  have hlci:=hlc i
  refine bT 29 kC<|bU (fun (k:Nat) (u:Value)=>k≤(b.getD i []).length) (fun (k:Nat) (u:Value)=>[(0,kMZ.is b),(3,VP.ex v),(4,kN6.is (i:Int)),(5,VP.ex u),(6,kN6.is (k:Int))]) (fun (k:Nat) (u:Value)=>[OB.row u 29 kC ((b.getD i []).take k),OB.row v 23 kVC (b.take i)]) (fun (k:Nat) (u:Value)=>(b.getD i []).length-k) 0 (.slice none 0 0) (Nat.zero_le _) (ao Z Z Z Z (az Z (ah (y:=(0:Int)) (by rfl)) aq)) (a9 (OS.keepLe (bi (by rfl)) (OS.keep OS.nil))) ?_
  intro k u hk
  refine ab<|Cr<|Wm Z<|Wm Z<|Wm Z<|Ws (aU i Z Z U22 aK Z (v:=(b.getD i [])) (gd [] (by omega)))<|Ws (aO Z aK)<|Ws (aJ Z U23)<|Ws (aX Z Z)<|Wn ?_
  refine aM Z (fun h_t19=>?_)<|fun h_t19=>?_
  ·
   refine Ck<|ab<|aF<|ak<|Wm Z<|Wm Z<|Wm Z<|Ws (aU i Z Z U22 aK Z (v:=(b.getD i [])) (gd [] (by omega)))<|Ws (aO Z aK)<|Wm Z<|Ws (aU k Z Z U23 af Z (v:=((b.getD i []).getD k 0)) (gd 0 (by omega)))<|Ws (aO Z af)<|Ws (f1 fn113 Z (fX ((b.getD i []).getD k 0)))<|Ws (bB U23 bv (bV Z bA) Z (by decide))<|bI 0 .n Z Z Z Lr U23 bv (by simp;omega) fun v1=>Wa Z<|au<|Qb<|ak<|Wm Z<|Ws (aR Z Z (c:=((k:Int)+1)) (aH (by omega)))<|Wa Z ?_
   refine au<|tr 0 Z (y:=((b.getD i []).take (k+1))) (fG (by omega)) ?_
   exact bS (k+1) v1 (by omega) (by omega) (ao Z Z Z Z (az Z (ah (y:=(((k+1):Nat):Int)) (by rfl)) aq))<|aG _
  ·
   refine Ex<|tr 0 Z (y:=(b.getD i [])) (List.take_of_length_le (by omega))<|bL 0 Z (kp 0 Z (kp 3 Z (kp 4 Z (.hit (i:=5) Z (kp 6 Z (kp 13 Z (kp 14 Z (kp 15 Z (kp 16 Z (kp 17 Z (kp 18 Z (kp 19 Z .nil))))))))))))<|ak<|Wm Z<|Wm Z<|Ws (bB U22 c6 (bV Z bA) Z (by decide))<|bI 0 .n Z Z Z Lr U22 c6 (by simp;omega) fun v2=>Wa Z<|au<|Qb<|ak<|Wm Z<|Ws (aR Z Z (c:=((i:Int)+1)) (aH (by omega)))<|Wa Z<|au<|tr 0 Z (y:=(b.take (i+1))) (fG (by omega)) ?_
   exact bS (i+1) v2 (by omega) (by omega) (ac Z (ac Z (az Z (ah (y:=(((i+1):Nat):Int)) (by rfl)) aq)))<|aG _
 ·
  refine Ex<|Cr<|Wm Z<|Wa Z<|Wn<|aA<|tr 0 Z (y:=b) (List.take_of_length_le (by omega)) ?_
  exact cg (.inl Z) Z (aI Z ay) (aG _) ⟨v,Z,Z,trivial⟩
theorem c_ref05_Grown (n:Nat) (u v:List Int) (q:Int) (hu:SzL n u) (hv:SzL n v) (hq:Sz n q) (hl:u.length≤v.length) (hn:n≤137438953472):Fn Tryz.prog 266 [kVZ.is u,kZ.is q,kVZ.is v] (kVC.is (pairV (fun x y=>x+q*y) u v)):=by
 refine aN Tryz.func266 Z Z fun m w=>a8 (i:=0) Z bF fun hB=>Cr<|aZ .n Z fun b1=>Wa Z<|Wr<|Wa Z<|Wn<|ab<|Cr<|Wa Z<|Wn<|aF<|bT 29 kC<|bU (fun (i:Nat) (vW:Value)=>i≤u.length) (fun (i:Nat) (vW:Value)=>[(0,kVZ.is u),(2,kVZ.is v),(4,VP.pt b1 0),(7,VP.ex vW),(8,kN6.is (i:Int))]) (fun (i:Nat) (vW:Value)=>[OB.row vW 29 kC ((List.range i).map (fun l=>u.getD l 0+q*v.getD l 0)),OB.box b1 29 kZ q]) (fun (i:Nat) (vW:Value)=>u.length-i) 0 (.slice none 0 0) (Nat.zero_le _) (ao Z Z Z Z (az Z (ah (y:=(0:Int)) (by rfl)) aq)) (a9 (OS.keepLe (bi (by rfl)) (OS.keep OS.nil))) ?_
 intro i vW hi
 refine ab<|Cr<|Wm Z<|Wm Z<|Ws (aJ Z U23)<|Ws (aX Z Z)<|Wn ?_
 refine aM Z (fun h_t12=>?_)<|fun h_t12=>?_
 ·
  refine Ck<|ab<|aF ?_
  refine a5 (Γ:=[.fr (VP.ex vW),.fr (kVZ.is u),.fr (kN6.is (i:Int)),.fr (VP.pim kZ (u.getD i 0)),.fr (kZ.is (u.getD i 0)),.fr (kZ.is q),.fr (kVZ.is v),.fr (kN6.is (i:Int)),.fr (VP.pim kZ (v.getD i 0)),.fr (kZ.is (v.getD i 0)),.fr (kC.is (q*(v.getD i 0))),.fr (kC.is ((u.getD i 0)+(q*(v.getD i 0)))),.fr (kVC.is [(u.getD i 0)+(q*(v.getD i 0))])]) (om Z Z (om Z Z (om Z Z (aa Z (fun N=>aU i Z Z U23 af Z (v:=(u.getD i 0)) (gd 0 (by omega))) (aa Z (fun N=>aO Z af) (aa Z (fun N=>ae Z (mN N 1 Z) Li af Z) (om Z Z (om Z Z (aa Z (fun N=>aU i Z Z U23 af Z (v:=(v.getD i 0)) (gd 0 (by omega))) (aa Z (fun N=>aO Z af) (aa Z (fun N=>f2 dC Z Z (dy q (v.getD i 0))) (aa Z (fun N=>aB fm (aS Z (aj Z (aL ((hq.mul (hv i)).sm (by omega))) ar)) (fe (u.getD i 0) (q*(v.getD i 0)))) (aa Z (fun N=>bB U23 bv (bV Z bA) Z (by decide)) oz)))))))))))))<|fun σ1=>?_
  refine bI 0 .n Z Z Z Lr U23 bv (by simp;omega) fun v2=>Wa Z<|au<|Qb<|ak<|Wm Z<|Ws (aR Z Z (c:=((i:Int)+1)) (aH (by omega)))<|Wa Z<|au<|tr 0 Z (y:=((List.range (i+1)).map (fun l=>u.getD l 0+q*v.getD l 0))) (fq (fun l=>u.getD l 0+q*v.getD l 0) i) ?_
  exact bS (i+1) v2 (by omega) (by omega) (ao Z Z Z Z (az Z (ah (y:=(((i+1):Nat):Int)) (by rfl)) aq))<|aG _
 ·
  refine Ex<|Cr<|Wm Z<|Wa Z<|Wn<|aA<|bL 0 Z (kp 0 Z (kp 2 Z (kp 4 Z (.hit (i:=6) Z (.hit (i:=7) Z (kp 8 Z (kp 9 Z (kp 10 Z (kp 11 Z (kp 12 Z (.hit (i:=29) Z .nil)))))))))))<|tl 6 Z (y:=(pairV (fun x y=>x+q*y) u v)) (by rw [show i=u.length by omega];rfl) ?_
  exact Qd Z (aI Z ay) ⟨Z,Z⟩
theorem c_ref07_Unitx (n:Nat) (hn:n≤12):Con Tryz.prog 183 [kN6.is (n:Int)] [] (fun p Lo=>∃(v:Value),p=VP.ex v∧Lo=[OB.row v 23 kVC (unitV n)]∧True):=by
 refine aN Tryz.func183 Z Z fun m w=>Cr<|Wa Z<|Wr<|Wa Z<|Wn<|ab<|Cr<|Wa Z<|Wn<|aF<|bT 23 kVC<|bU (fun (i:Nat) (v:Value)=>i≤n) (fun (i:Nat) (v:Value)=>[(0,kN6.is (n:Int)),(3,VP.ex v),(4,kN6.is (i:Int))]) (fun (i:Nat) (v:Value)=>[OB.row v 23 kVC ((List.range i).map (fun x=>(List.replicate n 0).set x 1))]) (fun (i:Nat) (v:Value)=>n-i) 0 (.slice none 0 0) (Nat.zero_le _) (ac Z (ac Z (az Z (ah (y:=(0:Int)) (by rfl)) aq))) (a9 (OS.keepLe (bi (by rfl)) OS.nil)) ?_
 intro i v hi
 refine ab<|Cr<|Wm Z<|Wm Z<|Ws (aX Z Z)<|Wn ?_
 refine aM Z (fun h_t9=>?_)<|fun h_t9=>?_
 ·
  refine Ck<|ab<|aF<|Cr<|Wa Z<|Wn<|ab<|Cr<|Wa Z<|Wn<|aF<|bT 29 kC<|bU (fun (k:Nat) (u:Value)=>k≤n) (fun (k:Nat) (u:Value)=>[(0,kN6.is (n:Int)),(3,VP.ex v),(4,kN6.is (i:Int)),(5,VP.ex u),(6,kN6.is (k:Int))]) (fun (k:Nat) (u:Value)=>[OB.row u 29 kC (((List.replicate n 0).set i 1).take k),OB.row v 23 kVC ((List.range i).map (fun x=>(List.replicate n 0).set x 1))]) (fun (k:Nat) (u:Value)=>n-k) 0 (.slice none 0 0) (Nat.zero_le _) (ao Z Z Z Z (az Z (ah (y:=(0:Int)) (by rfl)) aq)) (a9 (OS.keepLe (bi (by rfl)) (OS.keep OS.nil))) ?_
  intro k u hk
  refine ab<|Cr<|Wm Z<|Wm Z<|Ws (aX Z Z)<|Wn ?_
  refine aM Z (fun h_t14=>?_)<|fun h_t14=>?_
  ·
   refine Ck<|ab<|aF<|Cr<|Wm Z<|Wm Z<|Ws (cq Z Z)<|Wn ?_
   refine aM Z (fun h_t19=>?_)<|fun h_t19=>?_
   ·
    refine ak<|Wm Z<|Ws (aB dO (aj Z (cP (by omega)) ar) (dM 1))<|Ws (bB U23 bv (bV Z bA) Z (by decide))<|bI 0 .n Z Z Z Lr U23 bv (by simp;omega) fun v1=>Wa Z<|au<|Qb<|ak<|Wm Z<|Ws (aR Z Z (c:=((k:Int)+1)) (aH (by omega)))<|Wa Z<|au<|tr 0 Z (y:=(((List.replicate n 0).set i 1).take (k+1))) (unit_app (by omega) (by omega) (by rw [if_pos (by omega)])) ?_
    exact bS (k+1) v1 (by omega) (by omega) (ao Z Z Z Z (az Z (ah (y:=(((k+1):Nat):Int)) (by rfl)) aq))<|aG _
   ·
    refine ak<|Wm Z<|Ws (bY dQ Z br (.nil _))<|Ws (bB U23 bv (bV Z bA) Z (by decide))<|bI 0 .n Z Z Z Lr U23 bv (by simp;omega) fun v2=>Wa Z<|au<|Qb<|ak<|Wm Z<|Ws (aR Z Z (c:=((k:Int)+1)) (aH (by omega)))<|Wa Z<|au<|tr 0 Z (y:=(((List.replicate n 0).set i 1).take (k+1))) (unit_app (by omega) (by omega) (by rw [if_neg (by omega)])) ?_
    exact bS (k+1) v2 (by omega) (by omega) (ao Z Z Z Z (az Z (ah (y:=(((k+1):Nat):Int)) (by rfl)) aq))<|aG _
  ·
   refine Ex<|tr 0 Z (y:=((List.replicate n 0).set i 1)) (List.take_of_length_le (by simp;omega))<|bL 0 Z (kp 0 Z (kp 3 Z (kp 4 Z (.hit (i:=5) Z (kp 6 Z (kp 12 Z (kp 13 Z (kp 14 Z .nil))))))))<|ak<|Wm Z<|Wm Z<|Ws (bB U22 c6 (bV Z bA) Z (by decide))<|bI 0 .n Z Z Z Lr U22 c6 (by simp;omega) fun v3=>Wa Z<|au<|Qb<|ak<|Wm Z<|Ws (aR Z Z (c:=((i:Int)+1)) (aH (by omega)))<|Wa Z<|au<|tr 0 Z (y:=((List.range (i+1)).map (fun x=>(List.replicate n 0).set x 1))) (fq (fun x=>(List.replicate n (0:Int)).set x 1) i) ?_
   exact bS (i+1) v3 (by omega) (by omega) (ac Z (ac Z (az Z (ah (y:=(((i+1):Nat):Int)) (by rfl)) aq)))<|aG _
 ·
  refine Ex<|Cr<|Wm Z<|Wa Z<|Wn<|aA<|tr 0 Z (y:=(unitV n)) (by rw [show i=n by omega];rfl) ?_
  exact cg (.inl Z) Z (aI Z ay) (aG _) ⟨v,Z,Z,trivial⟩
theorem c_ref07_Unitf (n:Nat) (hn:n≤12):Con Tryz.prog 183 [kN6.is (n:Int)] [] (fun p Lo=>∃(v:Value) (vs:List Value),p=VP.ex v∧Lo=[OB.row v 23 kVal vs,OB.fam vs 29 kC (unitV n)]∧vs.length=n):=by
 refine aN Tryz.func183 Z Z fun m w=>Cr<|Wa Z<|Wr<|Wa Z<|Wn<|ab<|Cr<|Wa Z<|Wn<|aF<|bT 23 kVal<|gG 29 kC<|dz (fun (i:Nat) (v:Value) (vs:List Value)=>i≤n∧vs.length=i) (fun (i:Nat) (v:Value) (vs:List Value)=>[(0,kN6.is (n:Int)),(3,VP.ex v),(4,kN6.is (i:Int))]) (fun (i:Nat) (v:Value) (vs:List Value)=>[OB.fam vs 29 kC ((List.range i).map (fun x=>(List.replicate n 0).set x 1)),OB.row v 23 kVal vs]) (fun (i:Nat) (v:Value) (vs:List Value)=>n-i) 0 (.slice none 0 0) [] ⟨Nat.zero_le _,Z⟩ (ac Z (ac Z (az Z (ah (y:=(0:Int)) (by rfl)) aq))) (a9 (OS.keepLe (ff (by rfl) (by rfl)) (OS.keep OS.nil))) ?_
 intro i v vs ⟨hi,hvs⟩
 refine ab<|Cr<|Wm Z<|Wm Z<|Ws (aX Z Z)<|Wn ?_
 refine aM Z (fun h_t9=>?_)<|fun h_t9=>?_
 ·
  refine Ck<|ab<|aF<|Cr<|Wa Z<|Wn<|ab<|Cr<|Wa Z<|Wn<|aF<|bT 29 kC<|bU (fun (k:Nat) (u:Value)=>k≤n) (fun (k:Nat) (u:Value)=>[(0,kN6.is (n:Int)),(3,VP.ex v),(4,kN6.is (i:Int)),(5,VP.ex u),(6,kN6.is (k:Int))]) (fun (k:Nat) (u:Value)=>[OB.row u 29 kC (((List.replicate n 0).set i 1).take k),OB.fam vs 29 kC ((List.range i).map (fun x=>(List.replicate n 0).set x 1)),OB.row v 23 kVal vs]) (fun (k:Nat) (u:Value)=>n-k) 0 (.slice none 0 0) (Nat.zero_le _) (ao Z Z Z Z (az Z (ah (y:=(0:Int)) (by rfl)) aq)) (a9 (OS.keepLe (bi (by rfl)) (OS.keep (OS.keep OS.nil)))) ?_
  intro k u hk
  refine ab<|Cr<|Wm Z<|Wm Z<|Ws (aX Z Z)<|Wn ?_
  refine aM Z (fun h_t14=>?_)<|fun h_t14=>?_
  ·
   refine Ck<|ab<|aF<|Cr<|Wm Z<|Wm Z<|Ws (cq Z Z)<|Wn ?_
   refine aM Z (fun h_t19=>?_)<|fun h_t19=>?_
   ·
    refine ak<|Wm Z<|Ws (aB dO (aj Z (cP (by omega)) ar) (dM 1))<|Ws (bB U23 bv (bV Z bA) Z (by decide))<|bI 0 .n Z Z Z Lr U23 bv (by simp;omega) fun v1=>Wa Z<|au<|Qb<|ak<|Wm Z<|Ws (aR Z Z (c:=((k:Int)+1)) (aH (by omega)))<|Wa Z<|au<|tr 0 Z (y:=(((List.replicate n 0).set i 1).take (k+1))) (unit_app (by omega) (by omega) (by rw [if_pos (by omega)])) ?_
    exact bS (k+1) v1 (by omega) (by omega) (ao Z Z Z Z (az Z (ah (y:=(((k+1):Nat):Int)) (by rfl)) aq))<|aG _
   ·
    refine ak<|Wm Z<|Ws (bY dQ Z br (.nil _))<|Ws (bB U23 bv (bV Z bA) Z (by decide))<|bI 0 .n Z Z Z Lr U23 bv (by simp;omega) fun v2=>Wa Z<|au<|Qb<|ak<|Wm Z<|Ws (aR Z Z (c:=((k:Int)+1)) (aH (by omega)))<|Wa Z<|au<|tr 0 Z (y:=(((List.replicate n 0).set i 1).take (k+1))) (unit_app (by omega) (by omega) (by rw [if_neg (by omega)])) ?_
    exact bS (k+1) v2 (by omega) (by omega) (ao Z Z Z Z (az Z (ah (y:=(((k+1):Nat):Int)) (by rfl)) aq))<|aG _
  ·
   refine Ex<|tr 0 Z (y:=((List.replicate n 0).set i 1)) (List.take_of_length_le (by simp;omega))<|ak<|Wm Z<|Wm Z<|bo 0 Z fun hcell_=>Ws (bB U22 cD (cz Z (bn (by assumption)) bA) Z (by decide))<|bI 2 .n Z Z Z Lr U22 cD (by simp;omega) fun v3=>Wa Z<|au<|Qb<|ak<|Wm Z<|Ws (aR Z Z (c:=((i:Int)+1)) (aH (by omega)))<|Wa Z<|au<|bg (fam_push 0 Z)<|tf 0 Z (y:=((List.range (i+1)).map (fun x=>(List.replicate n 0).set x 1))) (fq (fun x=>(List.replicate n (0:Int)).set x 1) i) ?_
   exact dd (i+1) v3 (vs++[u]) (by omega) ⟨by omega,by simp [hvs]⟩ (ac Z (ac Z (az Z (ah (y:=(((i+1):Nat):Int)) (by rfl)) aq)))<|aG _
 ·
  refine Ex<|Cr<|Wm Z<|Wa Z<|Wn<|aA ?_
  have hvl:vs.length=n:=by omega
  refine tf 0 Z (y:=(unitV n)) (by rw [show i=n by omega];rfl)<|bg (bm [1,0] (by decide) Z) ?_
  exact cg (.inl Z) Z (aI Z ay) (aG _) ⟨v,vs,Z,Z,hvl⟩
theorem c_ref07_lose (pw:Nat) (vB vU vV vS:Value) (vs:List Value) (B U V:List (List Int)) (n mc nB k j:Nat) (q:Int) (hrB:CR n mc B) (hrU:CU n U) (hrV:CU n V) (hvl:vs.length=n) (h12:n≤12) (hq:Sz nB q) (zB:SzM nB B) (zU:SzM nB U) (zV:SzM nB V) (hj:j<k) (hk:k<n) (hN:nB≤34359738368):Con Tryz.prog 241 [VP.pt pw 0,kN6.is (k:Int),kN6.is (j:Int),kZ.is q] [OB.box pw 157 (kPair kVal (kPair kVal (kPair kVal kVal))) (vB,vU,vV,vS),OB.row vB 23 kVC B,OB.row vU 23 kVC U,OB.row vV 23 kVal vs,OB.fam vs 29 kC V] (fun p Lo=>p=VP.tup []∧Lo=[OB.box pw 157 (kPair kVal (kPair kVal (kPair kVal kVal))) (vB,vU,vV,vS),OB.row vB 23 kVC (rowU B k j (-q)),OB.row vU 23 kVC (rowU U k j (-q)),OB.row vV 23 kVal vs,OB.fam vs 29 kC (colV V k j q)]∧True):=by
 refine aN Tryz.func241 Z Z fun m w=>?_
 have hlB:=hrB.len
 have hlU:=hrU.len
 have hlV:=hrV.len
 refine Cr<|aZ .n Z fun b1=>Wn<|ab ?_
 refine a5 (Γ:=[.fr (VP.pt pw 0),.fr (VP.pt pw 0),.fr (VP.pt pw 0),.fr (VP.ex vB),.fr (kN6.is (k:Int)),.fr (VP.pt pw 0),.fr (VP.pt pw 0),.fr (VP.pt pw 0),.fr (VP.ex vB),.fr (kN6.is (k:Int)),.fr (VP.pel vB (k*1)),.fr (kVC.is (B.getD k [])),.fr (kZ.is q),.fr (kC.is (-q)),.fr (VP.pt pw 0),.fr (VP.pt pw 0),.fr (VP.pt pw 0),.fr (VP.ex vB),.fr (kN6.is (j:Int)),.fr (VP.pel vB (j*1)),.fr (kVC.is (B.getD j [])),.fr (kVC.is (pairV (fun x y=>x+(-q)*y) (B.getD k []) (B.getD j []))),.fr (VP.pel vB (k*1))]) (om Z Z (ch Z Z (aa Z (fun N=>aw Z eN Z) (aa Z (fun N=>aV (ae (p:=kVal.is vB) Z (mN N 1 Z) (aD Li) bf Z) (bc _)) (om Z Z (om Z Z (ch Z Z (aa Z (fun N=>aw Z eN Z) (aa Z (fun N=>aV (ae (p:=kVal.is vB) Z (mN N 1 Z) (aD Li) bf Z) (bc _)) (om Z Z (aa Z (fun N=>bb (k:=kVC) (xs:=B) (n:=(k:Int)) k Z Z (mN N 2 Z) U22 aK Z (by omega)) (aa Z (fun N=>bp k Z (mN N 2 Z) Li Z (y:=(B.getD k [])) (gd [] (by omega)) aK Z) (aa Z (fun N=>ae Z (mN N 0 Z) Li af Z) (aa Z (fun N=>f1 fn209 Z (fp q)) (om Z Z (ch Z Z (aa Z (fun N=>aw Z eN Z) (aa Z (fun N=>aV (ae (p:=kVal.is vB) Z (mN N 1 Z) (aD Li) bf Z) (bc _)) (om Z Z (aa Z (fun N=>bb (k:=kVC) (xs:=B) (n:=(j:Int)) j Z Z (mN N 2 Z) U22 aK Z (by omega)) (aa Z (fun N=>bp j Z (mN N 2 Z) Li Z (y:=(B.getD j [])) (gd [] (by omega)) aK Z) (aa Z (fun N=>aB fn266 (aj Z (dB ((zB _).sm (by omega))) (aj Z (aL (hq.neg.sm (by omega))) (aj Z (dB ((zB _).sm (by omega))) ar))) (c_ref05_Grown nB (B.getD k []) (B.getD j []) (-q) (zB _) (zB _) hq.neg (by rw [hrB.row k hk,hrB.row j (by omega)];exact Nat.le_refl _) (by omega))) (aa Z (fun N=>bb (k:=kVC) (xs:=B) (n:=(k:Int)) k Z Z (mN N 2 Z) U22 aK Z (by omega)) oz)))))))))))))))))))))))<|fun σ1=>?_
 refine aE .n (co 2 k Z Z Li Z (y0:=(B.getD k [])) (gd [] (by omega)) aK Z Lr)<|Wn<|ab<|tr 2 Z (y:=(rowU B k j (-q))) (by rw [grown_row];rfl) ?_
 refine a5 (Γ:=[.fr (VP.pt pw 0),.fr (VP.pt pw 0),.fr (VP.pt pw 1),.fr (VP.ex vU),.fr (kN6.is (k:Int)),.fr (VP.pt pw 0),.fr (VP.pt pw 0),.fr (VP.pt pw 1),.fr (VP.ex vU),.fr (kN6.is (k:Int)),.fr (VP.pel vU (k*1)),.fr (kVC.is (U.getD k [])),.fr (kZ.is q),.fr (kC.is (-q)),.fr (VP.pt pw 0),.fr (VP.pt pw 0),.fr (VP.pt pw 1),.fr (VP.ex vU),.fr (kN6.is (j:Int)),.fr (VP.pel vU (j*1)),.fr (kVC.is (U.getD j [])),.fr (kVC.is (pairV (fun x y=>x+(-q)*y) (U.getD k []) (U.getD j []))),.fr (VP.pel vU (k*1))]) (om Z Z (ch Z Z (aa Z (fun N=>aw Z fh Z) (aa Z (fun N=>aV (ae (p:=kVal.is vU) Z (mN N 1 Z) (am (aD Li)) bf Z) (bc _)) (om Z Z (om Z Z (ch Z Z (aa Z (fun N=>aw Z fh Z) (aa Z (fun N=>aV (ae (p:=kVal.is vU) Z (mN N 1 Z) (am (aD Li)) bf Z) (bc _)) (om Z Z (aa Z (fun N=>bb (k:=kVC) (xs:=U) (n:=(k:Int)) k Z Z (mN N 3 Z) U22 aK Z (by omega)) (aa Z (fun N=>bp k Z (mN N 3 Z) Li Z (y:=(U.getD k [])) (gd [] (by omega)) aK Z) (aa Z (fun N=>ae Z (mN N 0 Z) Li af Z) (aa Z (fun N=>f1 fn209 Z (fp q)) (om Z Z (ch Z Z (aa Z (fun N=>aw Z fh Z) (aa Z (fun N=>aV (ae (p:=kVal.is vU) Z (mN N 1 Z) (am (aD Li)) bf Z) (bc _)) (om Z Z (aa Z (fun N=>bb (k:=kVC) (xs:=U) (n:=(j:Int)) j Z Z (mN N 3 Z) U22 aK Z (by omega)) (aa Z (fun N=>bp j Z (mN N 3 Z) Li Z (y:=(U.getD j [])) (gd [] (by omega)) aK Z) (aa Z (fun N=>aB fn266 (aj Z (dB ((zU _).sm (by omega))) (aj Z (aL (hq.neg.sm (by omega))) (aj Z (dB ((zU _).sm (by omega))) ar))) (c_ref05_Grown nB (U.getD k []) (U.getD j []) (-q) (zU _) (zU _) hq.neg (by rw [hrU.row k hk,hrU.row j (by omega)];exact Nat.le_refl _) (by omega))) (aa Z (fun N=>bb (k:=kVC) (xs:=U) (n:=(k:Int)) k Z Z (mN N 3 Z) U22 aK Z (by omega)) oz)))))))))))))))))))))))<|fun σ2=>?_
 refine aE .n (co 3 k Z Z Li Z (y0:=(U.getD k [])) (gd [] (by omega)) aK Z Lr)<|Wn<|ab<|tr 3 Z (y:=(rowU U k j (-q))) (by rw [grown_row];rfl)<|ak<|Wa Z<|Wn<|aF<|tf 5 Z (y:=(mapN (colF k j q) 0 V)) (mapN_0 _ _).symm<|bJ (fun (i:Nat)=>i≤n) (fun (i:Nat)=>[(0,VP.pt pw 0),(1,kN6.is (k:Int)),(2,kN6.is (j:Int)),(7,VP.pt b1 0),(8,kN6.is (i:Int))]) (fun (i:Nat)=>[OB.box b1 29 kZ q,OB.box pw 157 (kPair kVal (kPair kVal (kPair kVal kVal))) (vB,vU,vV,vS),OB.row vB 23 kVC (rowU B k j (-q)),OB.row vU 23 kVC (rowU U k j (-q)),OB.row vV 23 kVal vs,OB.fam vs 29 kC (mapN (colF k j q) i V)]) (fun (i:Nat)=>n-i) 0 (Nat.zero_le _) (ao Z Z Z Z (az Z (ah (y:=(0:Int)) (by rfl)) aq)) (aG _) ?_
 intro i hi
 refine ab<|Cr<|Wm Z<|Wm Z<|Ws (cM Z)<|Ws (aw Z eM Z)<|Ws (aV (ae (p:=kVal.is vV) Z (ag 1 Z) (am (am (aD Li))) bf Z) (bc _))<|Ws (de Z (ag 4 Z) U22)<|Ws (aX Z Z)<|Wn ?_
 refine aM Z (fun h_t61=>?_)<|fun h_t61=>?_
 ·
  refine Ck<|ab<|aF ?_
  refine a5 (Γ:=[.fr (VP.pt pw 0),.fr (VP.pt pw 0),.fr (VP.pt pw 2),.fr (VP.ex vV),.fr (kN6.is (i:Int)),.fr (VP.pel vV (i*1)),.fr (VP.ex (vs.getD i nilV)),.fr (kN6.is (j:Int)),.fr (VP.pt pw 0),.fr (VP.pt pw 0),.fr (VP.pt pw 2),.fr (VP.ex vV),.fr (kN6.is (i:Int)),.fr (VP.pel vV (i*1)),.fr (VP.ex (vs.getD i nilV)),.fr (kN6.is (j:Int)),.fr (VP.pel (vs.getD i nilV) (j*2)),.fr (kC.is ((V.getD i []).getD j 0)),.fr (kZ.is q),.fr (VP.pt pw 0),.fr (VP.pt pw 0),.fr (VP.pt pw 2),.fr (VP.ex vV),.fr (kN6.is (i:Int)),.fr (VP.pel vV (i*1)),.fr (VP.ex (vs.getD i nilV)),.fr (kN6.is (k:Int)),.fr (VP.pel (vs.getD i nilV) (k*2)),.fr (kC.is ((V.getD i []).getD k 0)),.fr (kC.is (q*((V.getD i []).getD k 0))),.fr (kC.is (((V.getD i []).getD j 0)+(q*((V.getD i []).getD k 0)))),.fr (VP.pel (vs.getD i nilV) (j*2))]) (om Z Z (ch Z Z (aa Z (fun N=>aw Z eM Z) (aa Z (fun N=>aV (ae (p:=kVal.is vV) Z (mN N 1 Z) (am (am (aD Li))) bf Z) (bc _)) (om Z Z (aa Z (fun N=>bb (k:=kVal) (xs:=vs) (n:=(i:Int)) i Z Z (mN N 4 Z) U22 aK Z (by omega)) (aa Z (fun N=>aV (bp i Z (mN N 4 Z) Li Z (y:=(vs.getD i nilV)) (gd nilV (by omega)) aK Z) (bc _)) (om Z Z (om Z Z (ch Z Z (aa Z (fun N=>aw Z eM Z) (aa Z (fun N=>aV (ae (p:=kVal.is vV) Z (mN N 1 Z) (am (am (aD Li))) bf Z) (bc _)) (om Z Z (aa Z (fun N=>bb (k:=kVal) (xs:=vs) (n:=(i:Int)) i Z Z (mN N 4 Z) U22 aK Z (by omega)) (aa Z (fun N=>aV (bp i Z (mN N 4 Z) Li Z (y:=(vs.getD i nilV)) (gd nilV (by omega)) aK Z) (bc _)) (om Z Z (aa Z (fun N=>cZ (e:=29) (k:=kC) (xss:=(mapN (colF k j q) i V)) (n:=(j:Int)) i j Z Z (mN N 5 Z) Z (by omega) U23 af Z (by rw [mapN_at (by rw [hrV.len];omega),hrV.row _ (by omega)];omega)) (aa Z (fun N=>dJ (k:=kC) (xss:=(mapN (colF k j q) i V)) i j Z (mN N 5 Z) Z (by omega) Li Z (y:=((V.getD i []).getD j 0)) (fH (by omega) (by rw [hrV.row i (by omega)];omega)) af Z) (aa Z (fun N=>ae Z (mN N 0 Z) Li af Z) (om Z Z (ch Z Z (aa Z (fun N=>aw Z eM Z) (aa Z (fun N=>aV (ae (p:=kVal.is vV) Z (mN N 1 Z) (am (am (aD Li))) bf Z) (bc _)) (om Z Z (aa Z (fun N=>bb (k:=kVal) (xs:=vs) (n:=(i:Int)) i Z Z (mN N 4 Z) U22 aK Z (by omega)) (aa Z (fun N=>aV (bp i Z (mN N 4 Z) Li Z (y:=(vs.getD i nilV)) (gd nilV (by omega)) aK Z) (bc _)) (om Z Z (aa Z (fun N=>cZ (e:=29) (k:=kC) (xss:=(mapN (colF k j q) i V)) (n:=(k:Int)) i k Z Z (mN N 5 Z) Z (by omega) U23 af Z (by rw [mapN_at (by rw [hrV.len];omega),hrV.row _ (by omega)];omega)) (aa Z (fun N=>dJ (k:=kC) (xss:=(mapN (colF k j q) i V)) i k Z (mN N 5 Z) Z (by omega) Li Z (y:=((V.getD i []).getD k 0)) (fH (by omega) (by rw [hrV.row i (by omega)];omega)) af Z) (aa Z (fun N=>aB dC (aS Z (aj Z (aL ((zV i k).sm (by omega))) ar)) (dy q ((V.getD i []).getD k 0))) (aa Z (fun N=>aB fm (aj Z (aL ((zV i j).sm (by omega))) (aj Z (aL ((hq.mul (zV i k)).sm (by omega))) ar)) (fe ((V.getD i []).getD j 0) (q*((V.getD i []).getD k 0)))) (aa Z (fun N=>cZ (e:=29) (k:=kC) (xss:=(mapN (colF k j q) i V)) (n:=(j:Int)) i j Z Z (mN N 5 Z) Z (by omega) U23 af Z (by rw [mapN_at (by rw [hrV.len];omega),hrV.row _ (by omega)];omega)) oz))))))))))))))))))))))))))))))))<|fun σ3=>?_
  refine aE .n (d7 5 i j Z Z Z (by omega) Li Z (y0:=(((mapN (colF k j q) i V).getD i []).getD j 0)) (gd 0 (by rw [mapN_at (by rw [hrV.len];omega),hrV.row _ (by omega)];omega)) af Z Lr)<|au<|Qb<|ak<|Wm Z<|Ws (aR Z Z (c:=((i:Int)+1)) (aH (by omega)))<|Wa Z<|au<|tf 5 Z (y:=(mapN (colF k j q) (i+1) V)) (mapN_set (by omega) (by rw [mapN_at (by omega)];rfl)) ?_
  exact bE (i+1) (by omega) (by omega) (ao Z Z Z Z (az Z (ah (y:=(((i+1):Nat):Int)) (by rfl)) aq))<|aG _
 ·
  refine dS<|da<|da<|dR<|tf 5 Z (y:=(colV V k j q)) (mapN_end (by omega))<|bg (bm [1,2,3,4,5] (by decide) Z) ?_
  exact cg (.inr Z) Z ay (aG _) ⟨Z,Z,trivial⟩
theorem c_ref07_swap (pw:Nat) (vB vU vV vS:Value) (vs:List Value) (B U V:List (List Int)) (S:List Int) (n mc c:Nat) (hrB:CR n mc B) (hrU:CU n U) (hrV:CU n V) (hvl:vs.length=n) (h12:n≤12) (hc:c+1<n) (hS:S.length≤79200002):Con Tryz.prog 186 [VP.pt pw 0,kN6.is ((c:Int)+1)] [OB.box pw 157 (kPair kVal (kPair kVal (kPair kVal kVal))) (vB,vU,vV,vS),OB.row vB 23 kVC B,OB.row vU 23 kVC U,OB.row vV 23 kVal vs,OB.fam vs 29 kC V,OB.row vS 3 kI64 S] (fun p Lo=>∃(vT:Value),p=VP.tup []∧Lo=[OB.box pw 157 (kPair kVal (kPair kVal (kPair kVal kVal))) (vB,vU,vV,vT),OB.row vB 23 kVC (swpU B c),OB.row vU 23 kVC (swpU U c),OB.row vV 23 kVal vs,OB.fam vs 29 kC (colS V (c+1)),OB.row vT 3 kI64 (S++[((c:Int)+1)])]∧True):=by
 refine aN Tryz.func186 Z Z fun m w=>?_
 have hlB:=hrB.len
 have hlU:=hrU.len
 have hlV:=hrV.len
 refine Cr<|Wm Z<|Ws (cM Z)<|Ws (aw Z eN Z)<|Ws (aV (ae (p:=kVal.is vB) Z (ag 0 Z) (aD Li) bf Z) (bc _))<|Wm Z<|Ws (bb (k:=kVC) (xs:=B) (n:=((c:Int)+1)) (c+1) Z Z (ag 1 Z) U22 aK (by omega) (by omega))<|Ws (bp (c+1) Z (ag 1 Z) Li Z (y:=(B.getD (c+1) [])) (gd [] (by omega)) aK Z)<|Wa Z<|Wn<|ab ?_
 refine a5 (Γ:=[.fr (VP.pt pw 0),.fr (VP.pt pw 0),.fr (VP.pt pw 0),.fr (VP.ex vB),.fr (kN6.is ((c:Int)+1)),.fr (VP.pt pw 0),.fr (VP.pt pw 0),.fr (VP.pt pw 0),.fr (VP.ex vB),.fr (kN6.is ((c:Int)+1)),.fr (kN6.is (((c:Int)+1)-1)),.fr (VP.pel vB (c*1)),.fr (kVC.is (B.getD c [])),.fr (VP.pel vB ((c+1)*1))]) (om Z Z (ch Z Z (aa Z (fun N=>aw Z eN Z) (aa Z (fun N=>aV (ae (p:=kVal.is vB) Z (mN N 0 Z) (aD Li) bf Z) (bc _)) (om Z Z (om Z Z (ch Z Z (aa Z (fun N=>aw Z eN Z) (aa Z (fun N=>aV (ae (p:=kVal.is vB) Z (mN N 0 Z) (aD Li) bf Z) (bc _)) (om Z Z (aa Z (fun N=>bj Z Z (c:=(((c:Int)+1)-1)) (aH (by omega))) (aa Z (fun N=>bb (k:=kVC) (xs:=B) (n:=(((c:Int)+1)-1)) c Z Z (mN N 1 Z) U22 aK (by omega) (by omega)) (aa Z (fun N=>bp c Z (mN N 1 Z) Li Z (y:=(B.getD c [])) (gd [] (by omega)) aK Z) (aa Z (fun N=>bb (k:=kVC) (xs:=B) (n:=((c:Int)+1)) (c+1) Z Z (mN N 1 Z) U22 aK (by omega) (by omega)) oz))))))))))))))<|fun σ1=>?_
 refine aE .n (co 1 (c+1) Z Z Li Z (y0:=(B.getD (c+1) [])) (gd [] (by omega)) aK Z Lr)<|Wr<|Wm Z<|Ws (cM Z)<|Ws (aw Z eN Z)<|Ws (aV (ae (p:=kVal.is vB) Z (ag 0 Z) (aD Li) bf Z) (bc _))<|Wm Z<|Ws (bj Z Z (c:=(((c:Int)+1)-1)) (aH (by omega)))<|Wm Z<|Ws (bb (k:=kVC) (xs:=(B.set (c+1) (B.getD c []))) (n:=(((c:Int)+1)-1)) c Z Z (ag 1 Z) U22 aK (by omega) (by rw [List.length_set,hrB.len];omega))<|aE .n (co 1 c Z Z Li Z (y0:=((B.set (c+1) (B.getD c [])).getD c [])) (gd [] (by rw [List.length_set,hrB.len];omega)) aK Z Lr)<|Wn<|ab<|tr 1 Z (y:=(swpU B c)) Z<|ak<|Wm Z<|Ws (cM Z)<|Ws (aw Z fh Z)<|Ws (aV (ae (p:=kVal.is vU) Z (ag 0 Z) (am (aD Li)) bf Z) (bc _))<|Wm Z ?_
 refine Ws (bb (k:=kVC) (xs:=U) (n:=((c:Int)+1)) (c+1) Z Z (ag 2 Z) U22 aK (by omega) (by omega))<|Ws (bp (c+1) Z (ag 2 Z) Li Z (y:=(U.getD (c+1) [])) (gd [] (by omega)) aK Z)<|Wa Z<|Wn<|ab ?_
 refine a5 (Γ:=[.fr (VP.pt pw 0),.fr (VP.pt pw 0),.fr (VP.pt pw 1),.fr (VP.ex vU),.fr (kN6.is ((c:Int)+1)),.fr (VP.pt pw 0),.fr (VP.pt pw 0),.fr (VP.pt pw 1),.fr (VP.ex vU),.fr (kN6.is ((c:Int)+1)),.fr (kN6.is (((c:Int)+1)-1)),.fr (VP.pel vU (c*1)),.fr (kVC.is (U.getD c [])),.fr (VP.pel vU ((c+1)*1))]) (om Z Z (ch Z Z (aa Z (fun N=>aw Z fh Z) (aa Z (fun N=>aV (ae (p:=kVal.is vU) Z (mN N 0 Z) (am (aD Li)) bf Z) (bc _)) (om Z Z (om Z Z (ch Z Z (aa Z (fun N=>aw Z fh Z) (aa Z (fun N=>aV (ae (p:=kVal.is vU) Z (mN N 0 Z) (am (aD Li)) bf Z) (bc _)) (om Z Z (aa Z (fun N=>bj Z Z (c:=(((c:Int)+1)-1)) (aH (by omega))) (aa Z (fun N=>bb (k:=kVC) (xs:=U) (n:=(((c:Int)+1)-1)) c Z Z (mN N 2 Z) U22 aK (by omega) (by omega)) (aa Z (fun N=>bp c Z (mN N 2 Z) Li Z (y:=(U.getD c [])) (gd [] (by omega)) aK Z) (aa Z (fun N=>bb (k:=kVC) (xs:=U) (n:=((c:Int)+1)) (c+1) Z Z (mN N 2 Z) U22 aK (by omega) (by omega)) oz))))))))))))))<|fun σ2=>?_
 refine aE .n (co 2 (c+1) Z Z Li Z (y0:=(U.getD (c+1) [])) (gd [] (by omega)) aK Z Lr)<|Wr<|Wm Z<|Ws (cM Z)<|Ws (aw Z fh Z)<|Ws (aV (ae (p:=kVal.is vU) Z (ag 0 Z) (am (aD Li)) bf Z) (bc _))<|Wm Z<|Ws (bj Z Z (c:=(((c:Int)+1)-1)) (aH (by omega)))<|Wm Z<|Ws (bb (k:=kVC) (xs:=(U.set (c+1) (U.getD c []))) (n:=(((c:Int)+1)-1)) c Z Z (ag 2 Z) U22 aK (by omega) (by rw [List.length_set,hrU.len];omega))<|aE .n (co 2 c Z Z Li Z (y0:=((U.set (c+1) (U.getD c [])).getD c [])) (gd [] (by rw [List.length_set,hrU.len];omega)) aK Z Lr)<|Wn<|ab<|ab<|tr 2 Z (y:=(swpU U c)) Z<|ak<|Wa Z<|Wn<|aF ?_
 refine tf 4 Z (y:=(mapN (colG (c+1)) 0 V)) (mapN_0 _ _).symm<|bJ (fun (i:Nat)=>i≤n) (fun (i:Nat)=>[(0,VP.pt pw 0),(1,kN6.is ((c:Int)+1)),(5,kN6.is (i:Int))]) (fun (i:Nat)=>[OB.box pw 157 (kPair kVal (kPair kVal (kPair kVal kVal))) (vB,vU,vV,vS),OB.row vB 23 kVC (swpU B c),OB.row vU 23 kVC (swpU U c),OB.row vV 23 kVal vs,OB.fam vs 29 kC (mapN (colG (c+1)) i V),OB.row vS 3 kI64 S]) (fun (i:Nat)=>n-i) 0 (Nat.zero_le _) (ac Z (ac Z (az Z (ah (y:=(0:Int)) (by rfl)) aq))) (aG _) ?_
 intro i hi
 refine ab<|Cr<|Wm Z<|Wm Z<|Ws (cM Z)<|Ws (aw Z eM Z)<|Ws (aV (ae (p:=kVal.is vV) Z (ag 0 Z) (am (am (aD Li))) bf Z) (bc _))<|Ws (de Z (ag 3 Z) U22)<|Ws (aX Z Z)<|Wn ?_
 refine aM Z (fun h_t71=>?_)<|fun h_t71=>?_
 ·
  refine Ck<|ab<|aF<|Cr<|Wm Z<|Ws (cM Z)<|Ws (aw Z eM Z)<|Ws (aV (ae (p:=kVal.is vV) Z (ag 0 Z) (am (am (aD Li))) bf Z) (bc _))<|Wm Z<|Ws (bb (k:=kVal) (xs:=vs) (n:=(i:Int)) i Z Z (ag 3 Z) U22 aK Z (by omega))<|Ws (aV (bp i Z (ag 3 Z) Li Z (y:=(vs.getD i nilV)) (gd nilV (by omega)) aK Z) (bc _))<|Wm Z<|Ws (cZ (e:=29) (k:=kC) (xss:=(mapN (colG (c+1)) i V)) (n:=((c:Int)+1)) i (c+1) Z Z (ag 4 Z) Z (by omega) U23 af (by omega) (by rw [mapN_at (by rw [hrV.len];omega),hrV.row _ (by omega)];omega))<|Ws (dJ (k:=kC) (xss:=(mapN (colG (c+1)) i V)) i (c+1) Z (ag 4 Z) Z (by omega) Li Z (y:=((V.getD i []).getD (c+1) 0)) (fH (by omega) (by rw [hrV.row i (by omega)];omega)) af Z)<|Ax (l:=kC) (u:=((V.getD i []).getD (c+1) 0)) bd Z af (fun _=>Z) Lr fun b1=>Wn<|ab ?_
  refine a5 (Γ:=[.fr (VP.pt pw 0),.fr (VP.pt pw 0),.fr (VP.pt pw 2),.fr (VP.ex vV),.fr (kN6.is (i:Int)),.fr (VP.pel vV (i*1)),.fr (VP.ex (vs.getD i nilV)),.fr (kN6.is ((c:Int)+1)),.fr (VP.pt pw 0),.fr (VP.pt pw 0),.fr (VP.pt pw 2),.fr (VP.ex vV),.fr (kN6.is (i:Int)),.fr (VP.pel vV (i*1)),.fr (VP.ex (vs.getD i nilV)),.fr (kN6.is ((c:Int)+1)),.fr (kN6.is (((c:Int)+1)-1)),.fr (VP.pel (vs.getD i nilV) (c*2)),.fr (kC.is ((V.getD i []).getD c 0)),.fr (VP.pel (vs.getD i nilV) ((c+1)*2))]) (om Z Z (ch Z Z (aa Z (fun N=>aw Z eM Z) (aa Z (fun N=>aV (ae (p:=kVal.is vV) Z (mN N 1 Z) (am (am (aD Li))) bf Z) (bc _)) (om Z Z (aa Z (fun N=>bb (k:=kVal) (xs:=vs) (n:=(i:Int)) i Z Z (mN N 4 Z) U22 aK Z (by omega)) (aa Z (fun N=>aV (bp i Z (mN N 4 Z) Li Z (y:=(vs.getD i nilV)) (gd nilV (by omega)) aK Z) (bc _)) (om Z Z (om Z Z (ch Z Z (aa Z (fun N=>aw Z eM Z) (aa Z (fun N=>aV (ae (p:=kVal.is vV) Z (mN N 1 Z) (am (am (aD Li))) bf Z) (bc _)) (om Z Z (aa Z (fun N=>bb (k:=kVal) (xs:=vs) (n:=(i:Int)) i Z Z (mN N 4 Z) U22 aK Z (by omega)) (aa Z (fun N=>aV (bp i Z (mN N 4 Z) Li Z (y:=(vs.getD i nilV)) (gd nilV (by omega)) aK Z) (bc _)) (om Z Z (aa Z (fun N=>bj Z Z (c:=(((c:Int)+1)-1)) (aH (by omega))) (aa Z (fun N=>cZ (e:=29) (k:=kC) (xss:=(mapN (colG (c+1)) i V)) (n:=(((c:Int)+1)-1)) i c Z Z (mN N 5 Z) Z (by omega) U23 af (by omega) (by rw [mapN_at (by rw [hrV.len];omega),hrV.row _ (by omega)];omega)) (aa Z (fun N=>dJ (k:=kC) (xss:=(mapN (colG (c+1)) i V)) i c Z (mN N 5 Z) Z (by omega) Li Z (y:=((V.getD i []).getD c 0)) (fH (by omega) (by rw [hrV.row i (by omega)];omega)) af Z) (aa Z (fun N=>cZ (e:=29) (k:=kC) (xss:=(mapN (colG (c+1)) i V)) (n:=((c:Int)+1)) i (c+1) Z Z (mN N 5 Z) Z (by omega) U23 af (by omega) (by rw [mapN_at (by rw [hrV.len];omega),hrV.row _ (by omega)];omega)) oz))))))))))))))))))))<|fun σ3=>?_
  refine aE .n (d7 5 i (c+1) Z Z Z (by omega) Li Z (y0:=(((mapN (colG (c+1)) i V).getD i []).getD (c+1) 0)) (gd 0 (by rw [mapN_at (by rw [hrV.len];omega),hrV.row _ (by omega)];omega)) af Z Lr)<|Wn ?_
  refine a5 (Γ:=[.fr (VP.pt pw 0),.fr (VP.pt pw 0),.fr (VP.pt pw 2),.fr (VP.ex vV),.fr (kN6.is (i:Int)),.fr (VP.pel vV (i*1)),.fr (VP.ex (vs.getD i nilV)),.fr (kN6.is ((c:Int)+1)),.fr (kN6.is (((c:Int)+1)-1)),.fr (kC.is ((V.getD i []).getD (c+1) 0)),.fr (VP.pel (vs.getD i nilV) (c*2))]) (om Z Z (ch Z Z (aa Z (fun N=>aw Z eM Z) (aa Z (fun N=>aV (ae (p:=kVal.is vV) Z (mN N 1 Z) (am (am (aD Li))) bf Z) (bc _)) (om Z Z (aa Z (fun N=>bb (k:=kVal) (xs:=vs) (n:=(i:Int)) i Z Z (mN N 4 Z) U22 aK Z (by omega)) (aa Z (fun N=>aV (bp i Z (mN N 4 Z) Li Z (y:=(vs.getD i nilV)) (gd nilV (by omega)) aK Z) (bc _)) (om Z Z (aa Z (fun N=>bj Z Z (c:=(((c:Int)+1)-1)) (aH (by omega))) (aa Z (fun N=>ae Z (mN N 0 Z) Li af Z) (aa Z (fun N=>cZ (e:=29) (k:=kC) (xss:=((mapN (colG (c+1)) i V).set i (((mapN (colG (c+1)) i V).getD i []).set (c+1) ((V.getD i []).getD c 0)))) (n:=(((c:Int)+1)-1)) i c Z Z (mN N 5 Z) Z (by omega) U23 af (by omega) (by rw [mapN_at (by rw [hrV.len];omega),mapN_len2 (by rw [hrV.len];omega),hrV.row _ (by omega)];omega)) oz)))))))))))<|fun σ4=>?_
  refine aE .n (d7 5 i c Z Z Z (by omega) Li Z (y0:=((((mapN (colG (c+1)) i V).set i (((mapN (colG (c+1)) i V).getD i []).set (c+1) ((V.getD i []).getD c 0))).getD i []).getD c 0)) (gd 0 (by rw [mapN_at (by rw [hrV.len];omega),mapN_len2 (by rw [hrV.len];omega),hrV.row _ (by omega)];omega)) af Z Lr)<|au<|Qb<|ak<|Wm Z<|Ws (aR Z Z (c:=((i:Int)+1)) (aH (by omega)))<|Wa Z<|au<|bg (bm [1,2,3,4,5,6] (by decide) Z)<|tf 4 Z (y:=(mapN (colG (c+1)) (i+1) V)) (mapN_set2 (by omega)) ?_
  exact bE (i+1) (by omega) (by omega) (ac Z (ac Z (az Z (ah (y:=(((i+1):Nat):Int)) (by rfl)) aq)))<|aG _
 ·
  refine Ex<|tf 4 Z (y:=(colS V (c+1))) (mapN_end (by omega))<|ak<|Wm Z<|Wm Z<|Ws (cM Z)<|Ws (aw Z fld157_3 Z)<|Ws (aV (ae (p:=kVal.is vS) Z (ag 0 Z) (am (am (am Li))) ty155 Z) (bc _))<|Wm Z<|Ws (bB U155 fN (cz Z (cP (by omega)) bA) Z (by decide))<|bI 5 .n Z Z Z Lr U155 fN (by simp;omega) fun v2=>Ws (cM Z)<|Ws (aw Z fld157_3 Z)<|bo 5 Z fun hcell_=>aE .n (dx 0 Z Z (am (am (am Li))) ty155 Z (bn (by assumption)))<|au<|bg (bm [0,1,2,3,4,5] (by decide) Z) ?_
  exact cg (.inr Z) Z ay (a9 (OS.keepLe (cm (by rfl)) (OS.keep (OS.keep (OS.keep (OS.keep (OS.keep OS.nil))))))) ⟨v2,Z,Z,trivial⟩
theorem c_ref07_step (G:Nat→Nat→Int) (n nB p:Nat) (h12:n≤12) (hp1:p+1<n) (hS:∀k,k<n→RZ nB (frS G k)) (hM:∀x k,x<n→k<x→RZ nB (frM G x k)) (hB:nB≤4294967296):Fn Tryz.prog 185 [kFrm.is (frMus (G) n,frSts (G) n),kN6.is ((p:Int)+1)] (kBool.is (decide (lov G (p+1)))):=by
 refine aN Tryz.func185 Z Z fun m w=>?_
 have hfl:=frSts_len G n
 have rM:=hM (p+1) p hp1 (by omega)
 have rQ:RZ 3 (3/4:Rat):=RZ.of (n:=3) (d:=4) (by decide) (by decide +kernel) (show (3:Int).natAbs<2^3 by decide) (show (4:Int).natAbs<2^3 by decide)
 have r1:=hS p (by omega)
 have r2:=hS (p+1) hp1
 have r3:=(rM.mul rM)
 have r4:=(r3.mul r1)
 have r5:=(r2.up (show nB≤nB+nB+nB by omega)).add r4
 have r6:=rQ.mul r1
 refine Cr<|aZ .n Z fun b1=>Wa Z<|Wn<|ab ?_
 refine a5 (Γ:=[.fr (kC.is 3),.fr (kC.is 4),.fr (kRC.is (rq (3/4:Rat))),.fr (VP.pt b1 1),.fr ((kSl kRC).is (frSts (G) n)),.fr (kN6.is ((p:Int)+1)),.fr (kN6.is (((p:Int)+1)-1)),.fr (VP.pim kRC (rq (frS G p))),.fr (kRC.is (rq (frS G p))),.fr (kRC.is (rq ((3/4:Rat)*(frS G p)))),.al (fun b=>OB.box b 31 kRC (0,0))]) (aa Z (fun N=>aB dO (aj Z (cP (by omega)) ar) (dM 3)) (aa Z (fun N=>aB dO (aj Z (cP (by omega)) ar) (dM 4)) (aa Z (fun N=>aV (aB em (aj Z (aL (by exact Sm_lit (by decide))) (aj Z (aL (by exact Sm_lit (by decide))) ar)) (d8 3 4 (by omega))) (ah (by decide +kernel))) (aa Z (fun N=>aw Z dN Z) (aa Z (fun N=>ae (p:=(kSl kRC).is (frSts (G) n)) Z (mN N 0 Z) (am Li) bN Z) (om Z Z (aa Z (fun N=>bj Z Z (c:=(((p:Int)+1)-1)) (aH (by omega))) (aa Z (fun N=>aU p Z Z U26 ai (by omega) (v:=(rq (frS G p))) (eL (by omega))) (aa Z (fun N=>aO Z ai) (aa Z (fun N=>f2 dk Z Z (dp (nB+3) (3/4:Rat) (frS G p) (rQ.up (by omega)) (r1.up (by omega)) (by omega))) (oc (cR Z ba) oz)))))))))))<|fun σ1=>?_
 refine aE .n (aC (l:=kRC) (u:=rq ((3/4:Rat)*(frS G p))) 0 Z Z Z ai Z Lr)<|Wr<|Ws (aw Z eU Z)<|Ws (ae (p:=(kSl (kSl kRC)).is (frMus (G) n)) Z (ag 1 Z) (aD Li) eX Z)<|Wm Z<|Ws (aU (p+1) Z Z U148 bN (by omega) (v:=((frMus (G) n).getD (p+1) [])) (gd [] (by simp only [frRow_len,frMus_len,frSts_len];omega)))<|Ws (aO Z bN)<|Wm Z<|Ws (bj Z Z (c:=(((p:Int)+1)-1)) (aH (by omega)))<|Ws (aU p Z Z U26 ai (by omega) (v:=(rq (frM G (p+1) p))) (gh (by omega) (by omega)))<|Ws (aO Z ai)<|Ax (l:=kRC) (u:=(rq (frM G (p+1) p))) ba Z ai (fun _=>Z) Lr fun b2=>Wn<|ab ?_
 refine a5 (Γ:=[.fr (VP.pt b1 1),.fr ((kSl kRC).is (frSts (G) n)),.fr (kN6.is ((p:Int)+1)),.fr (VP.pim kRC (rq (frS G (p+1)))),.fr (kRC.is (rq (frS G (p+1)))),.fr (kRC.is (rq (frM G (p+1) p))),.fr (kRC.is (rq (frM G (p+1) p))),.fr (kRC.is (rq ((frM G (p+1) p)*(frM G (p+1) p)))),.fr (VP.pt b1 1),.fr ((kSl kRC).is (frSts (G) n)),.fr (kN6.is ((p:Int)+1)),.fr (kN6.is (((p:Int)+1)-1)),.fr (VP.pim kRC (rq (frS G p))),.fr (kRC.is (rq (frS G p))),.fr (kRC.is (rq ((frM G (p+1) p*frM G (p+1) p)*(frS G p)))),.fr (kRC.is (rq ((frS G (p+1))+(frM G (p+1) p*frM G (p+1) p*frS G p)))),.al (fun b=>OB.box b 31 kRC (0,0))]) (aa Z (fun N=>aw Z dN Z) (aa Z (fun N=>ae (p:=(kSl kRC).is (frSts (G) n)) Z (mN N 2 Z) (am Li) bN Z) (om Z Z (aa Z (fun N=>aU (p+1) Z Z U26 ai (by omega) (v:=(rq (frS G (p+1)))) (eL (by omega))) (aa Z (fun N=>aO Z ai) (aa Z (fun N=>ae Z (mN N 0 Z) Li ai Z) (aa Z (fun N=>ae Z (mN N 0 Z) Li ai Z) (aa Z (fun N=>f2 dk Z Z (dp nB (frM G (p+1) p) (frM G (p+1) p) rM rM (by omega))) (aa Z (fun N=>aw Z dN Z) (aa Z (fun N=>ae (p:=(kSl kRC).is (frSts (G) n)) Z (mN N 2 Z) (am Li) bN Z) (om Z Z (aa Z (fun N=>bj Z Z (c:=(((p:Int)+1)-1)) (aH (by omega))) (aa Z (fun N=>aU p Z Z U26 ai (by omega) (v:=(rq (frS G p))) (eL (by omega))) (aa Z (fun N=>aO Z ai) (aa Z (fun N=>aB dk (aj Z (ah (y:=rq (frM G (p+1) p*frM G (p+1) p)) (by rfl)) (aS Z ar)) (dp (nB+nB) (frM G (p+1) p*frM G (p+1) p) (frS G p) r3 (r1.up (by omega)) (by omega))) (aa Z (fun N=>aB eE (aS Z (aj Z (ah (y:=rq (frM G (p+1) p*frM G (p+1) p*frS G p)) (by rfl)) ar)) (eJ (nB+nB+nB) (frS G (p+1)) (frM G (p+1) p*frM G (p+1) p*frS G p) (r2.up (by omega)) r4 (by omega))) (oc (cR Z ba) oz)))))))))))))))))<|fun σ2=>?_
 refine aE .n (aC (l:=kRC) (u:=rq ((frS G (p+1))+(frM G (p+1) p*frM G (p+1) p*frS G p))) 0 Z Z Z ai Z Lr)<|Wr<|Ws (ae Z (ag 2 Z) Li ai Z)<|Ws (ae Z (ag 0 Z) Li ai Z)<|Ws (aB fn64 (aj Z (ah (y:=rq (3/4*frS G p)) (by rfl)) (aj Z (ah (y:=rq (frS G (p+1)+frM G (p+1) p*frM G (p+1) p*frS G p)) (by rfl)) ar)) (c_ref03_Cmp (nB+nB+nB+(nB+nB+nB)+1+3) (3/4*frS G p) (frS G (p+1)+frM G (p+1) p*frM G (p+1) p*frS G p) (r6.up (by omega)) (r5.up (by omega)) (by omega)))<|Ws (dL Z Z)<|Wa Z<|Wn<|aA<|tl 4 Z (y:=(decide (lov G (p+1)))) (decide_eq_decide.2 (rq_cmp0 _ _)) ?_
 exact Qd Z (aI Z ay) ⟨Z,Z⟩
theorem c_ref07_sizes (pw:Nat) (vB vU vV vS:Value) (vs:List Value) (b:List (List Int)) (M Dm P:Int) (nz K:Nat) (hZ:Basis b) (hL:LS b M Dm P nz K) (B0 U0 V0:List (List Int)) (S:List Int) (k:Nat) (hI:WI b M Dm P B0 U0 V0 S k) (hk:k<b.length) (hvl:vs.length=b.length):Con Tryz.prog 184 [VP.pt pw 0,kN6.is (k:Int)] [OB.box pw 157 (kPair kVal (kPair kVal (kPair kVal kVal))) (vB,vU,vV,vS),OB.row vB 23 kVC B0,OB.row vU 23 kVC U0,OB.row vV 23 kVal vs,OB.fam vs 29 kC V0] (fun p Lo=>∃(B:List (List Int)) (U:List (List Int)) (V:List (List Int)),p=VP.tup []∧Lo=[OB.box pw 157 (kPair kVal (kPair kVal (kPair kVal kVal))) (vB,vU,vV,vS),OB.row vB 23 kVC B,OB.row vU 23 kVC U,OB.row vV 23 kVal vs,OB.fam vs 29 kC V]∧WK b M Dm P B0 U0 V0 B U V S k):=by
 refine aN Tryz.func184 Z Z fun m w=>?_
 have hb12:=hZ.n
 refine Cr<|Wm Z<|Ws (bj Z Z (c:=((k:Int)-1)) (aH (by omega)))<|Wa Z<|Wn<|aF<|CW.loop4 (fun (c:Nat) (B:List (List Int)) (U:List (List Int)) (V:List (List Int))=>WJ b M Dm P B0 U0 V0 B U V S k c) (fun (c:Nat) (B:List (List Int)) (U:List (List Int)) (V:List (List Int))=>[(0,VP.pt pw 0),(1,kN6.is (k:Int)),(4,kN6.is ((c:Int)-1))]) (fun (c:Nat) (B:List (List Int)) (U:List (List Int)) (V:List (List Int))=>[OB.box pw 157 (kPair kVal (kPair kVal (kPair kVal kVal))) (vB,vU,vV,vS),OB.row vB 23 kVC B,OB.row vU 23 kVC U,OB.row vV 23 kVal vs,OB.fam vs 29 kC V]) (fun (c:Nat) (B:List (List Int)) (U:List (List Int)) (V:List (List Int))=>c) k B0 U0 V0 (hI.begin hk) (ac Z (ac Z (ac Z aq))) (aG _) ?_
 intro c B U V hJ
 have hck:=hJ.ck
 have hlB:=hJ.wc.rb.len
 refine ab<|Cr<|Wm Z<|Ws (di Z Z)<|Wn ?_
 refine aM Z (fun h_t11=>?_)<|fun h_t11=>?_
 ·
  refine Ck<|ab<|aF<|ab ?_
  have hCC:=hJ.l.c
  have hNn:=hL.lb.n
  have hdi:=hJ.l.dia hL.lb (show k<b.length by omega) hb12
  obtain ⟨hFS,hFM,hFE⟩:=fr_sz hCC hL.lb hb12 hdi
  have hzB:=hJ.wc.szB hL.lb hdi
  have hzU:=hJ.wc.szU (gram_symG hZ.r) hZ.p hb12 hL.lb hL.m hL.d hdi
  have hzV:=hJ.wc.szV hCC hb12 hL.lb hL.m hdi
  have hqz:=sz_q hCC hL.lb hdi (show c-1<k by omega) (by omega)
  refine ak<|Wm Z<|Ws (cM Z)<|Ws (aw Z eN Z)<|Ws (aV (ae (p:=kVal.is vB) Z (ag 0 Z) (aD Li) bf Z) (bc _))<|Ws (fb (b:=OB.row vB 23 kVC B) (ag 1 Z) fn181 (aS Z ar) (c_ref05_Makeo vB (4*nz+8) B hzB hJ.wc.rb.rl (by omega) (by rw [hJ.wc.rb.row 0 hZ.n0];exact hZ.c 0) (by omega) (by rw [hlB];exact hCC.p) (fun k hk=>(hFS k (by omega)).up (by omega)) (fun x k hx hk=>(hFM x k (by omega) hk).up (by omega)) (fun i k j hi h1 h2 h3=>(hFE i k j (by omega) h1 h2 h3).up (by omega))))<|Wm Z<|Ws (aP Z Z)<|Ws (aP Z Z)<|Ax (l:=kFrm) (u:=(frMus (gram B) B.length,frSts (gram B) B.length)) fc Z dg (fun _=>Z) Lr fun b1=>Wa Z<|Wr<|Ws (aw Z eU Z)<|Ws (ae (p:=(kSl (kSl kRC)).is (frMus (gram B) B.length)) Z (ag 0 Z) (aD Li) eX Z)<|Wm Z<|Ws (aU k Z Z U148 bN (by omega) (v:=((frMus (gram B) B.length).getD k [])) (gd [] (by simp only [frRow_len,frMus_len,frSts_len];omega)))<|Ws (aO Z bN)<|Wm Z<|Ws (aU (c-1) Z Z U26 ai (by omega) (v:=(rq (frM (gram B) k (c-1)))) (gh (by omega) (by omega)))<|Ws (aO Z ai) ?_
  refine Ws (f1 fn90 Z (c_ref03_Near (4*nz+8) (frM (gram B) k (c-1)) (hFM k (c-1) hk (by omega)) (by omega)))<|Ax (l:=kC) (u:=nearQ (frM (gram B) k (c-1))) bd Z af (fun _=>Z) Lr fun b2=>Wr<|Ws (ae Z (ag 0 Z) Li af Z)<|Ws (aB eD (aj Z (aL (hqz.sm (by omega))) ar) (er (nearQ (frM (gram B) k (c-1)))))<|Ws (bG Z Z)<|Wn ?_
  refine aM Z (fun h_t33=>?_)<|fun h_t33=>?_
  ·
   refine ak<|Wm Z<|Wm Z<|Wm Z<|Ws (ae Z (ag 0 Z) Li af Z)<|bg (bm [2,3,4,5,6,0,1] (by decide) Z)<|cC (Li:=[OB.box pw 157 (kPair kVal (kPair kVal (kPair kVal kVal))) (vB,vU,vV,vS),OB.row vB 23 kVC B,OB.row vU 23 kVC U,OB.row vV 23 kVal vs,OB.fam vs 29 kC V]) (L:=[OB.box b2 29 kC (nearQ (frM (gram B) k (c-1))),OB.box b1 150 kFrm (frMus (gram B) B.length,frSts (gram B) B.length)]) .n fn241 (aS Z (aS Z (aj Z (ah (y:=(((c-1):Nat):Int)) (by omega)) (aj Z (aL (hqz.sm (by omega))) ar)))) (c_ref07_lose pw vB vU vV vS vs B U V b.length ((b.getD 0 []).length) (4*nz+8) k (c-1) (nearQ (frM (gram B) k (c-1))) hJ.wc.rb hJ.wc.ru hJ.wc.rv (by assumption) hb12 hqz hzB hzU hzV (by omega) (by assumption) (by omega)) fun p_ Lo_ hp_=>?_
   obtain ⟨rfl,rfl,hx_t38⟩:=hp_
   refine au<|Qb<|ak<|Wm Z<|Ws (bj Z Z (c:=(((c:Int)-1)-1)) (aH (by omega)))<|Wa Z<|au<|bg (bm [0,1,2,3,4] (by decide) Z) ?_
   exact eT (c-1) (rowU B k (c-1) (-(nearQ (frM (gram B) k (c-1))))) (rowU U k (c-1) (-(nearQ (frM (gram B) k (c-1))))) (colV V k (c-1) (nearQ (frM (gram B) k (c-1)))) (by omega) (hJ.lose (by omega) hk (fun h=>h_t33 (by rw [h];rfl))) (ac Z (ac Z (az Z (ah (y:=((((c-1):Nat):Int)-1)) (by omega)) aq)))<|aG _
  ·
   refine cx<|Qb<|ak<|Wm Z<|Ws (bj Z Z (c:=(((c:Int)-1)-1)) (aH (by omega)))<|Wa Z<|au<|bg (bm [2,3,4,5,6] (by decide) Z) ?_
   exact eT (c-1) B U V (by omega) (hJ.zero (by omega) hk (Int.sign_eq_zero_iff_zero.1 (by omega))) (ac Z (ac Z (az Z (ah (y:=((((c-1):Nat):Int)-1)) (by omega)) aq)))<|aG _
 ·
  refine dS<|da<|da<|dR ?_
  have hK:=(show WJ b M Dm P B0 U0 V0 B U V S k 0 by rw [show c=0 by omega] at hJ;exact hJ).fin hk hZ.n
  exact cg (.inr Z) Z ay (aG _) ⟨B,U,V,Z,Z,hK⟩
theorem c_ref07_Rowsx (b:List (List Int)):Con Tryz.prog 182 [kMZ.is b] [] (fun p Lo=>∃(v:Value),p=VP.ex v∧Lo=[OB.row v 23 kVC b]∧True):=by
 refine aN Tryz.func182 Z Z fun m w=>Cr<|Wa Z<|Wr<|Wm Z<|cC (Li:=[]) (L:=[]) .n fn240 (aS Z ar) (c_ref05_Rowsx b) fun p_ Lo_ hp_=>?_
 obtain ⟨v1,rfl,rfl,hx_t4⟩:=hp_
 refine Wa Z<|Wn<|aA ?_
 exact cg (.inl Z) Z (aI Z ay) (aG _) ⟨v1,Z,Z,trivial⟩
theorem c_ref07_run (b:List (List Int)) (M Dm P:Int) (nz K:Nat) (hZ:Basis b) (hL:LS b M Dm P nz K):Con Tryz.prog 111 [kMZ.is b] [] (fun p Lo=>∃(pw:Nat) (vB:Value) (vU:Value) (vV:Value) (vS:Value) (vs:List Value) (B:List (List Int)) (U:List (List Int)) (V:List (List Int)) (S:List Int),p=VP.pt pw 0∧Lo=[OB.box pw 157 (kPair kVal (kPair kVal (kPair kVal kVal))) (vB,vU,vV,vS),OB.row vB 23 kVC B,OB.row vU 23 kVC U,OB.row vV 23 kVal vs,OB.fam vs 29 kC V,OB.row vS 3 kI64 S]∧vs.length=b.length∧WI b M Dm P B U V S b.length):=by
 refine aN Tryz.func111 Z Z fun m w=>a8 (i:=0) Z bF fun hB=>a8 (i:=0) Z fg fun hlc=>?_
 have hb12:=hZ.n
 refine Cr<|Wa Z<|Wr<|Wm Z<|cC (Li:=[]) (L:=[]) .n fn182 (aS Z ar) (c_ref07_Rowsx b) fun p_ Lo_ hp_=>?_
 obtain ⟨vB,rfl,rfl,hxB⟩:=hp_
 refine Wm Z<|Ws (aJ Z U22)<|cC (Li:=[]) (L:=[OB.row vB 23 kVC b]) .n fn183 (aj Z (ah (y:=((b.length:Nat):Int)) (by rfl)) ar) (c_ref07_Unitx b.length (by assumption)) fun p_ Lo_ hp_=>?_
 obtain ⟨vU,rfl,rfl,hxU⟩:=hp_
 refine Wm Z<|Ws (aJ Z U22)<|cC (Li:=[]) (L:=[OB.row vU 23 kVC (unitV b.length),OB.row vB 23 kVC b]) .n fn183 (aj Z (ah (y:=((b.length:Nat):Int)) (by rfl)) ar) (c_ref07_Unitf b.length (by assumption)) fun p_ Lo_ hp_=>?_
 obtain ⟨vV,vs,rfl,rfl,hvl⟩:=hp_
 refine bo 3 Z fun hcell_=>bo 2 Z fun hcell_=>bo 0 Z fun hcell_=>Ws (bY lit157_pr_val_pr_val_pr_val_val___ Z (bC Z (bn (by assumption)) (bC Z (bn (by assumption)) (bC Z (bn (by assumption)) br))) (.cons Z (aD Li) (.cons Z (am (aD Li)) (.cons Z (am (am (aD Li))) (.nil _)))))<|aZ .n Z fun b1=>Wa Z<|Wr<|Wa Z<|Wn<|ab<|aF<|bT 3 kI64<|bg (bm [1,5,4,2,3,0] (by decide) Z)<|CW.loop6 (fun (k:Nat) (B:List (List Int)) (U:List (List Int)) (V:List (List Int)) (S:List Int) (vT:Value)=>WI b M Dm P B U V S k) (fun (k:Nat) (B:List (List Int)) (U:List (List Int)) (V:List (List Int)) (S:List Int) (vT:Value)=>[(0,kMZ.is b),(3,VP.pt b1 0),(4,kN6.is (k:Int))]) (fun (k:Nat) (B:List (List Int)) (U:List (List Int)) (V:List (List Int)) (S:List Int) (vT:Value)=>[OB.box b1 157 (kPair kVal (kPair kVal (kPair kVal kVal))) (vB,vU,vV,vT),OB.row vB 23 kVC B,OB.row vU 23 kVC U,OB.row vV 23 kVal vs,OB.fam vs 29 kC V,OB.row vT 3 kI64 S]) (fun (k:Nat) (B:List (List Int)) (U:List (List Int)) (V:List (List Int)) (S:List Int) (vT:Value)=>muL (gram B) b.length k) 1 b (unitV b.length) (unitV b.length) [] (.slice none 0 0) (by have:=WI.init hZ hL.m hL.d hL.lb;rw [←hL.pe] at this;exact this) (ac Z (ac Z (az Z (ah (y:=(1:Int)) (by rfl)) aq))) (a9 (OS.keepLe (cm (by rfl)) (OS.keep (OS.keep (OS.keep (OS.keep (OS.keep OS.nil))))))) ?_
 intro k B U V S vT hI
 have hkn:=hI.kn
 have hk0:=hI.k0
 have hlB:=hI.wc.rb.len
 refine ab<|Cr<|Wm Z<|Wm Z<|Ws (aJ Z U22)<|Ws (aX Z Z)<|Wn ?_
 refine aM Z (fun h_t20=>?_)<|fun h_t20=>?_
 ·
  have hkl:k<b.length:=by omega
  refine Ck<|aF<|Cr<|Wm Z<|Wm Z<|cC (Li:=[OB.box b1 157 (kPair kVal (kPair kVal (kPair kVal kVal))) (vB,vU,vV,vT),OB.row vB 23 kVC B,OB.row vU 23 kVC U,OB.row vV 23 kVal vs,OB.fam vs 29 kC V]) (L:=[OB.row vT 3 kI64 S]) .n fn184 (aS Z (aS Z ar)) (c_ref07_sizes b1 vB vU vV vT vs b M Dm P nz K (by assumption) (by assumption) B U V S k hI (by assumption) (by assumption)) fun p_ Lo_ hp_=>?_
  obtain ⟨B1,U1,V1,rfl,rfl,hK⟩:=hp_
  refine Wn<|ab ?_
  have hCC:=hK.l.c
  have hNn:=hL.lb.n
  have hdi:=hK.l.dia hL.lb
  obtain ⟨hFS,hFM,hFE⟩:=fr_sz hCC hL.lb hb12 hdi
  have hzB:=hK.wc.szB hL.lb hdi
  have hlB1:=hK.wc.rb.len
  refine ak<|Wm Z<|Ws (cM Z)<|Ws (aw Z eN Z)<|Ws (aV (ae (p:=kVal.is vB) Z (ag 0 Z) (aD Li) bf Z) (bc _))<|Ws (fb (b:=OB.row vB 23 kVC B1) (ag 1 Z) fn181 (aS Z ar) (c_ref05_Makeo vB (4*nz+8) B1 hzB hK.wc.rb.rl (by omega) (by rw [hK.wc.rb.row 0 hZ.n0];exact hZ.c 0) (by omega) (by rw [hlB1];exact hCC.p) (fun k hk=>(hFS k (by omega)).up (by omega)) (fun x k hx hk=>(hFM x k (by omega) hk).up (by omega)) (fun i k j hi h1 h2 h3=>(hFE i k j (by omega) h1 h2 h3).up (by omega))))<|Wm Z<|Ws (aP Z Z)<|Ws (aP Z Z)<|Ax (l:=kFrm) (u:=(frMus (gram B1) B1.length,frSts (gram B1) B1.length)) fc Z dg (fun _=>Z) Lr fun b2=>Wa Z<|Wn<|ab<|Cr<|Ws (ae (p:=kFrm.is (frMus (gram B1) B1.length,frSts (gram B1) B1.length)) Z (ag 0 Z) Li dg Z)<|Wm Z<|Ws (aB fn185 (aj Z (ah (y:=(frMus ((gram B1)) B1.length,frSts ((gram B1)) B1.length)) (by rfl)) (aj Z (ah (y:=((((k-1):Nat):Int)+1)) (by omega)) ar)) (c_ref07_step (gram B1) B1.length (4*nz+8) (k-1) (by omega) (by omega) (fun k hk=>hFS k (by omega)) (fun x k hx hk=>hFM x k (by omega) hk) (by omega)))<|Wn ?_
  refine aM Z (fun h_t34=>?_)<|fun h_t34=>?_
  ·
   refine Cr<|Wm Z<|Ws (aR Z Z (c:=((k:Int)+1)) (aH (by omega)))<|Wa Z<|Wn<|dS<|da<|dR<|bg (bm [1,2,3,4,5,6] (by decide) Z) ?_
   exact ft (k+1) B1 U1 V1 S vT (hK.mu_yes (by omega)) (hK.yes hI (by omega) (by rw [show k=k-1+1 by omega];exact h_t34)) (ac Z (ac Z (az Z (ah (y:=(((k+1):Nat):Int)) (by rfl)) aq)))<|aG _
  ·
   refine Ck<|Cr<|Wm Z<|Wm Z<|bg (bm [1,2,3,4,5,6,0] (by decide) Z)<|cC (Li:=[OB.box b1 157 (kPair kVal (kPair kVal (kPair kVal kVal))) (vB,vU,vV,vT),OB.row vB 23 kVC B1,OB.row vU 23 kVC U1,OB.row vV 23 kVal vs,OB.fam vs 29 kC V1,OB.row vT 3 kI64 S]) (L:=[OB.box b2 150 kFrm (frMus (gram B1) B1.length,frSts (gram B1) B1.length)]) .n fn186 (aS Z (aj Z (ah (y:=((((k-1):Nat):Int)+1)) (by omega)) ar)) (c_ref07_swap b1 vB vU vV vT vs B1 U1 V1 S b.length ((b.getD 0 []).length) (k-1) hK.wc.rb hK.wc.ru hK.wc.rv (by assumption) (by assumption) (by omega) (hI.swn hL)) fun p_ Lo_ hp_=>?_
   obtain ⟨vT2,rfl,rfl,hx39⟩:=hp_
   refine Wr<|Wm Z<|Ws (cF Z Z)<|Wn ?_
   refine aM Z (fun h_t41=>?_)<|fun h_t41=>?_
   ·
    refine ak<|Wm Z<|Ws (bj Z Z (c:=((k:Int)-1)) (aH (by omega)))<|Wa Z<|au<|d4<|bg (bm [0,1,2,3,4,5] (by decide) Z)<|tf 4 Z (y:=(colS V1 k)) (by rw [show k-1+1=k by omega])<|tr 5 Z (y:=(S++[(k:Int)])) (by rw [show ((k-1:Nat):Int)+1=(k:Int) by omega]) ?_
    exact ft (k-1) (swpU B1 (k-1)) (swpU U1 (k-1)) (colS V1 k) (S++[(k:Int)]) vT2 (by exact hK.mu_no (by omega) (by omega) (by rw [show k=k-1+1 by omega];exact h_t34) _) (by have:=hK.no hI (by omega) (by rw [show k=k-1+1 by omega];exact h_t34);rw [show max (k-1) 1=k-1 by omega] at this;exact this) (ac Z (ac Z (az Z (ah (y:=(((k-1):Nat):Int)) (by omega)) aq)))<|aG _
   ·
    refine cx<|d4<|bg (bm [0,1,2,3,4,5] (by decide) Z)<|tf 4 Z (y:=(colS V1 k)) (by rw [show k-1+1=k by omega])<|tr 5 Z (y:=(S++[(k:Int)])) (by rw [show ((k-1:Nat):Int)+1=(k:Int) by omega]) ?_
    exact ft k (swpU B1 (k-1)) (swpU U1 (k-1)) (colS V1 k) (S++[(k:Int)]) vT2 (by exact hK.mu_no (by omega) (by omega) (by rw [show k=k-1+1 by omega];exact h_t34) _) (by have:=hK.no hI (by omega) (by rw [show k=k-1+1 by omega];exact h_t34);rw [show max (k-1) 1=k by omega] at this;exact this) (ac Z (ac Z (ac Z aq)))<|aG _
 ·
  refine Ex<|Cr<|Wm Z<|Wa Z<|Wn<|aA ?_
  exact cg (.inl Z) Z (aI Z ay) (aG _) ⟨b1,vB,vU,vV,vT,vs,B,U,V,S,Z,Z,⟨hvl,by rw [show k=b.length by omega] at hI;exact hI⟩⟩
theorem c_ref07_Reduce (b:List (List Int)) (hZ:Basis b):Fn Tryz.prog 50 [kMZ.is b] (kRed.is (llB b,llU b,llV b,((llS b).length:Int))):=by
 refine aN Tryz.func50 Z Z fun m w=>?_
 obtain ⟨M,Dm,P,nz,K,hL⟩:=basis_LS hZ
 refine Cr<|aW .n eR fun b1=>Wr<|Wm Z<|cC (Li:=[]) (L:=[OB.box b1 35 kRed ([],([],([],0)))]) .n fn111 (aS Z ar) (c_ref07_run b M Dm P nz K (by assumption) (by assumption)) fun p_ Lo_ hp_=>?_
 obtain ⟨pw,vB,vU,vV,vS,vs,B,U,V,S,rfl,rfl,hx⟩:=hp_
 refine Wa Z<|Wn<|ab ?_
 obtain ⟨hvl,hI⟩:=hx
 obtain ⟨e1,e2,e3,e4⟩:=ll_eq hI
 have hsl:=hI.swn hL
 refine a5 (Γ:=[.fr (VP.pt pw 0),.fr (VP.pt pw 0),.fr (VP.pt pw 0),.fr (VP.ex vB),.fr (VP.pt pw 0),.fr (VP.pt pw 0),.fr (VP.pt pw 1),.fr (VP.ex vU),.fr (VP.pt pw 0),.fr (VP.pt pw 0),.fr (VP.pt pw 2),.fr (VP.ex vV),.fr (VP.pt pw 0),.fr (VP.pt pw 0),.fr (VP.pt pw 3),.fr (VP.ex vS),.fr (kN6.is (S.length:Int))]) (om Z Z (ch Z Z (aa Z (fun N=>aw Z eN Z) (aa Z (fun N=>aV (ae (p:=kVal.is vB) Z (mN N 0 Z) (aD Li) bf Z) (bc _)) (om Z Z (ch Z Z (aa Z (fun N=>aw Z fh Z) (aa Z (fun N=>aV (ae (p:=kVal.is vU) Z (mN N 0 Z) (am (aD Li)) bf Z) (bc _)) (om Z Z (ch Z Z (aa Z (fun N=>aw Z eM Z) (aa Z (fun N=>aV (ae (p:=kVal.is vV) Z (mN N 0 Z) (am (am (aD Li))) bf Z) (bc _)) (om Z Z (ch Z Z (aa Z (fun N=>aw Z fld157_3 Z) (aa Z (fun N=>aV (ae (p:=kVal.is vS) Z (mN N 0 Z) (am (am (am Li))) ty155 Z) (bc _)) (aa Z (fun N=>de Z (mN N 5 Z) U155) oz)))))))))))))))))<|fun σ1=>?_
 refine bL 1 Z (kp 0 Z (kp 2 Z (kp 3 Z (kp 4 Z (kp 5 Z (kp 6 Z (kp 7 Z (kp 8 Z (.hit (i:=9) Z (kp 10 Z (kp 11 Z (kp 12 Z (kp 13 Z (kp 14 Z (kp 15 Z (kp 16 Z (kp 17 Z (kp 18 Z (kp 19 Z (kp 20 Z (kp 21 Z (kp 22 Z .nil))))))))))))))))))))))<|bL 1 Z (kp 0 Z (kp 2 Z (kp 3 Z (kp 4 Z (kp 5 Z (kp 6 Z (kp 7 Z (kp 8 Z (kp 9 Z (kp 10 Z (kp 11 Z (kp 12 Z (.hit (i:=13) Z (kp 14 Z (kp 15 Z (kp 16 Z (kp 17 Z (kp 18 Z (kp 19 Z (kp 20 Z (kp 21 Z (kp 22 Z .nil))))))))))))))))))))))<|ST.freezeM 2 1 Z Z (kp 0 Z (kp 2 Z (kp 3 Z (kp 4 Z (kp 5 Z (kp 6 Z (kp 7 Z (kp 8 Z (kp 9 Z (kp 10 Z (kp 11 Z (kp 12 Z (kp 13 Z (kp 14 Z (kp 15 Z (kp 16 Z (.hit (i:=17) Z (kp 18 Z (kp 19 Z (kp 20 Z (kp 21 Z (kp 22 Z .nil))))))))))))))))))))))<|Ws (bY gH Z (cy Z (cy Z (cy Z (bC Z (cP (by omega)) br)))) (.cons Z (aD Li) (.cons Z (am (aD Li)) (.cons Z (am (am (aD Li))) (.cons Z (am (am (am Li))) (.nil _))))))<|aE .n (aC (l:=kRed) (u:=(B,(U,(V,(S.length:Int))))) 2 Z Z Z dG Z Lr)<|Wn<|aA<|tb 2 Z (y:=(llB b,llU b,llV b,((llS b).length:Int))) (by rw [←e1,←e2,←e3,←e4]) ?_
 exact Qd Z (aY Z (ag 2 Z) dG ay) ⟨Z,Z⟩
theorem c_ref03_Valid (x y:Int):Fn Tryz.prog 39 [(kPair kZ kZ).is (x,y)] (kBool.is (decide (0<y))):=by
 refine aN Tryz.func39 Z Z fun m w=>Cr<|aZ .n Z fun b1=>Wa Z<|Wr<|Ws (aw Z bW Z)<|Ws (ae (p:=kZ.is y) Z (ag 0 Z) (am Li) af Z)<|Ws (f1 eD Z (er y))<|Ws (cF Z Z)<|Wa Z<|Wn<|aA ?_
 exact Qd Z (du Z (ah (y:=decide (0<y)) (decide_eq_decide.2 sgn_pos_iff)) ay) ⟨Z,Z⟩
abbrev gK:=@c_ref03_Valid
theorem c_ref03_Negr (n:Nat) (x y:Int) (hx:Sz n x) (hy:Sz n y) (h0:0<y) (hn:n≤68719476736):Fn Tryz.prog 174 [(kPair kZ kZ).is (x,y)] (kRC.is (rq (-rv (x,y)))):=by
 refine aN Tryz.func174 Z Z fun m w=>Cr<|aZ .n Z fun b1=>aW .n ba fun b2=>Wn<|ab ?_
 refine a5 (Γ:=[.fr (VP.pt b1 0),.fr (kZ.is x),.fr (kC.is (-x)),.fr (VP.pt b1 2),.fr (kZ.is y),.fr (kRC.is (rmk (-x) y))]) (aa Z (fun N=>aw Z cB Z) (aa Z (fun N=>ae (p:=kZ.is x) Z (mN N 1 Z) (aD Li) af Z) (aa Z (fun N=>f1 fn209 Z (fp x)) (aa Z (fun N=>aw Z bW Z) (aa Z (fun N=>ae (p:=kZ.is y) Z (mN N 1 Z) (am Li) af Z) (aa Z (fun N=>aB em (aj Z (aL (hx.neg.sm (by omega))) (aS Z ar)) (d8 (-x) y (by omega))) oz))))))<|fun σ1=>?_
 refine aE .n (aC (l:=kRC) (u:=rmk (-x) y) 0 Z Z Z ai Z Lr)<|Wn<|aA<|tb 0 Z (y:=(rq (-rv (x,y)))) (raw_neg h0) ?_
 exact Qd Z (aY Z (ag 0 Z) ai ay) ⟨Z,Z⟩
theorem c_ref03_Addr (n:Nat) (p:Rat) (x y:Int) (hp:RZ n p) (hx:Sz n x) (hy:Sz n y) (h0:0<y) (hn:n≤68719476736):Fn Tryz.prog 74 [(kPair kZ kZ).is (x,y),kRC.is (rq p)] (kRC.is (rq (rv (x,y)+p))):=by
 refine aN Tryz.func74 Z Z fun m w=>Cr<|aZ .n Z fun b1=>aZ .n Z fun b2=>aW .n ba fun b3=>Wr<|Ws (aw Z cB Z)<|Ws (ae (p:=kZ.is x) Z (ag 2 Z) (aD Li) af Z)<|Ws (aw Z bW Z)<|Ws (ae Z (ag 1 Z) (am Li) af Z)<|Ws (aB dC (aS Z (aj Z (aL (hp.b.sm (by omega))) ar)) (dy x ((rq p).2)))<|Ax (l:=kC) (u:=x*((rq p).2)) bd Z af (fun _=>Z) Lr fun b4=>Wr<|Ws (aw Z cB Z)<|Ws (ae Z (ag 2 Z) (aD Li) af Z)<|Ws (aw Z bW Z) ?_
 refine Ws (ae (p:=kZ.is y) Z (ag 3 Z) (am Li) af Z)<|Ws (aB dC (aj Z (aL (hp.a.sm (by omega))) (aS Z ar)) (dy ((rq p).1) y))<|Ax (l:=kC) (u:=((rq p).1)*y) bd Z af (fun _=>Z) Lr fun b5=>Wn<|ab ?_
 refine a5 (Γ:=[.fr (kC.is (x*((rq p).2))),.fr (kC.is (((rq p).1)*y)),.fr (kC.is ((x*((rq p).2))+(((rq p).1)*y))),.fr (VP.pt b1 2),.fr (kZ.is y),.fr (VP.pt b2 2),.fr (kC.is ((rq p).2)),.fr (kC.is (y*((rq p).2))),.fr (kRC.is (rmk ((x*((rq p).2))+(((rq p).1)*y)) (y*((rq p).2))))]) (aa Z (fun N=>ae Z (mN N 1 Z) Li af Z) (aa Z (fun N=>ae Z (mN N 0 Z) Li af Z) (aa Z (fun N=>aB fm (aj Z (aL ((hx.mul hp.b).sm (by omega))) (aj Z (aL ((hp.a.mul hy).sm (by omega))) ar)) (fe (x*((rq p).2)) (((rq p).1)*y))) (aa Z (fun N=>aw Z bW Z) (aa Z (fun N=>ae (p:=kZ.is y) Z (mN N 4 Z) (am Li) af Z) (aa Z (fun N=>aw Z bW Z) (aa Z (fun N=>ae Z (mN N 3 Z) (am Li) af Z) (aa Z (fun N=>aB dC (aS Z (aj Z (aL (hp.b.sm (by omega))) ar)) (dy y ((rq p).2))) (aa Z (fun N=>aB em (aj Z (aL (((hx.mul hp.b).add (hp.a.mul hy)).sm (by omega))) (aj Z (aL ((hy.mul hp.b).sm (by omega))) ar)) (d8 ((x*((rq p).2))+(((rq p).1)*y)) (y*((rq p).2)) (Int.mul_ne_zero (by omega) (dZ p)))) oz)))))))))<|fun σ1=>?_
 refine aE .n (aC (l:=kRC) (u:=rmk ((x*((rq p).2))+(((rq p).1)*y)) (y*((rq p).2))) 2 Z Z Z ai Z Lr)<|Wn<|aA<|tb 2 Z (y:=(rq (rv (x,y)+p))) (by have e:=raw_add (x:=x) (u:=(rq p).1) h0 (rq_den_pos p);rw [show ((rq p).1,(rq p).2)=rq p from rfl,rv_rq] at e;exact e) ?_
 exact Qd Z (aY Z (ag 2 Z) ai ay) ⟨Z,Z⟩
theorem c_ref03_Subr1 (n:Nat) (p:Rat) (x y:Int) (hp:RZ n p) (hx:Sz n x) (hy:Sz n y) (h0:0<y) (hn:n≤68719476736):Fn Tryz.prog 103 [(kPair kZ kZ).is (x,y),kRC.is (rq p)] (kRC.is (rq (rv (x,y)-p))):=by
 refine aN Tryz.func103 Z Z fun m w=>Cr<|aZ .n Z fun b1=>aZ .n Z fun b2=>aW .n ba fun b3=>Wn<|ab ?_
 refine a5 (Γ:=[.fr ((kPair kZ kZ).is (x,y)),.fr (kRC.is (rq p)),.fr (kRC.is (rq (-p))),.fr (kRC.is (rq (rv (x,y)+(-p))))]) (aa Z (fun N=>ae (p:=(kPair kZ kZ).is (x,y)) Z (mN N 2 Z) Li ai Z) (aa Z (fun N=>ae Z (mN N 1 Z) Li ai Z) (aa Z (fun N=>f1 fn174 Z (c_ref03_Neg n p hp hn)) (aa Z (fun N=>f2 eE Z Z (c_ref03_Addr n (-p) x y hp.neg hx hy h0 hn)) oz))))<|fun σ1=>?_
 refine aE .n (aC (l:=kRC) (u:=rq (rv (x,y)+(-p))) 0 Z Z Z ai Z Lr)<|Wn<|aA<|tb 0 Z (y:=(rq (rv (x,y)-p))) (by rw [Rat.sub_eq_add_neg]) ?_
 exact Qd Z (aY Z (ag 0 Z) ai ay) ⟨Z,Z⟩
theorem c_ref03_Subr2 (n:Nat) (p:Rat) (x y:Int) (hp:RZ n p) (hx:Sz n x) (hy:Sz n y) (h0:0<y) (hn:n≤68719476736):Fn Tryz.prog 103 [kRC.is (rq p),(kPair kZ kZ).is (x,y)] (kRC.is (rq (p-rv (x,y)))):=by
 refine aN Tryz.func103 Z Z fun m w=>Cr<|aZ .n Z fun b1=>aZ .n Z fun b2=>aW .n ba fun b3=>Wn<|ab ?_
 refine a5 (Γ:=[.fr (kRC.is (rq p)),.fr ((kPair kZ kZ).is (x,y)),.fr (kRC.is (rq (-rv (x,y)))),.fr (kRC.is (rq (p+(-rv (x,y)))))]) (aa Z (fun N=>ae Z (mN N 2 Z) Li ai Z) (aa Z (fun N=>ae (p:=(kPair kZ kZ).is (x,y)) Z (mN N 1 Z) Li ai Z) (aa Z (fun N=>f1 fn174 Z (c_ref03_Negr n x y hx hy h0 hn)) (aa Z (fun N=>f2 eE Z Z (eJ n p (-rv (x,y)) hp ((rv_RZ (x:=(x,y)) h0 hx hy).neg) hn)) oz))))<|fun σ1=>?_
 refine aE .n (aC (l:=kRC) (u:=rq (p+(-rv (x,y)))) 0 Z Z Z ai Z Lr)<|Wn<|aA<|tb 0 Z (y:=(rq (p-rv (x,y)))) (by rw [Rat.sub_eq_add_neg]) ?_
 exact Qd Z (aY Z (ag 0 Z) ai ay) ⟨Z,Z⟩
theorem c_ref18_zero  : Fn Tryz.prog 73 [] (kRC.is (rq (0:Rat))):=by
 refine aN Tryz.func73 Z Z fun m w=>Cr<|aW .n ba fun b1=>Wr<|Ws (aB dO (aj Z (cP (by omega)) ar) (dM 0))<|Ws (aB dK (aj Z (aL (by exact Sm_lit (by decide))) ar) (dH 0))<|aE .n (aC (l:=kRC) (u:=rq (0:Rat)) 0 Z Z Z ai Z Lr)<|Wn<|aA<|tb 0 Z (y:=(rq (0:Rat))) Z ?_
 exact Qd Z (aY Z (ag 0 Z) ai ay) ⟨Z,Z⟩
abbrev fC:=@c_ref18_zero
theorem c_ref18_Check (b:List (List Int)) (t:List (Int×Int)):Fn Tryz.prog 20 [kMZ.is b,(kSl (kPair kZ kZ)).is t] (kN6.is (askE b t)):=by
 refine aN Tryz.func20 Z Z fun m w=>a8 (i:=1) Z bF fun hB1=>a8 (i:=0) Z bF fun hB0=>a8 (i:=0) Z fg fun hlc=>Cr<|Wa Z<|Wr<|Wm Z<|Ws (f1 fn48 Z (c_ref05_Valid b))<|Wa Z<|Wn<|ab<|Cr<|Wm Z<|Ws (bG Z Z)<|Wn ?_
 refine aM Z (fun h_t11=>?_)<|fun h_t11=>?_
 ·
  refine Cr<|Wm Z<|Wa Z<|Wn<|aA<|a6<|tl 4 Z (y:=(askE b t)) (askE_1 h_t11).symm ?_
  exact Qd Z (aI Z ay) ⟨Z,Z⟩
 ·
  refine Ck<|ab<|ab ?_
  have hlc0:=hlc 0
  have hb0:=(basis_of (b:=b) (by omega)).n0
  refine ak<|Wm Z<|Ws (aJ Z U26)<|Wm Z<|Ws (aU 0 Z Z U22 aK Z (v:=(b.getD 0 [])) (gd [] (by omega)))<|Ws (aO Z aK)<|Ws (aJ Z U23)<|Ws (bG Z Z)<|Wn ?_
  refine aM Z (fun h_t19=>?_)<|fun h_t19=>?_
  ·
   refine Cr<|Wa Z<|Wn<|aA<|a6<|tl 4 Z (y:=(askE b t)) (askE_2 h_t11 (by omega)).symm ?_
   exact Qd Z (aI Z ay) ⟨Z,Z⟩
  ·
   refine Ck<|ab<|Cr<|Wa Z<|Wn<|aF<|bJ (fun (i:Nat)=>i≤t.length∧denB t i=true) (fun (i:Nat)=>[(0,kMZ.is b),(1,(kSl (kPair kZ kZ)).is t),(6,kN6.is (i:Int))]) (fun (i:Nat)=>[]) (fun (i:Nat)=>t.length-i) 0 ⟨Nat.zero_le _,denB_0 t⟩ (ac Z (ac Z (az Z (ah (y:=(0:Int)) (by rfl)) aq))) (aG _) ?_
   intro i ⟨hi,hd⟩
   refine ab<|Cr<|Wm Z<|Wm Z<|Ws (aJ Z U26)<|Ws (aX Z Z)<|Wn ?_
   refine aM Z (fun h_t23=>?_)<|fun h_t23=>?_
   ·
    refine Ck<|ab<|aF<|Cr<|Wm Z<|Wm Z<|Ws (aU i Z Z U26 ai Z (v:=(t.getD i (0,0))) (gd (0,0) (by omega)))<|Ws (aO Z ai)<|Ws (aB fn39 (aj Z (ah (y:=((t.getD i (0,0)).1,(t.getD i (0,0)).2)) (by rfl)) ar) (gK ((t.getD i (0,0)).1) ((t.getD i (0,0)).2)))<|Ws (dh Z)<|Wn ?_
    refine eh Z (fun h_t31=>?_)<|fun h_t31=>?_
    ·
     refine Cr<|Wa Z<|Wn<|aA<|bQ<|a6<|a6<|bQ<|a6<|tl 4 Z (y:=(askE b t)) (askE_3 h_t11 (by omega) (fk (i:=i) (by omega) (by simpa using h_t31))).symm ?_
     exact Qd Z (aI Z ay) ⟨Z,Z⟩
    ·
     refine cx<|Qb<|ak<|Wm Z<|Ws (aR Z Z (c:=((i:Int)+1)) (aH (by omega)))<|Wa Z<|au ?_
     exact bE (i+1) (by omega) ⟨by omega,denB_s (by omega) hd (by simpa using h_t31)⟩ (ac Z (ac Z (az Z (ah (y:=(((i+1):Nat):Int)) (by rfl)) aq)))<|aG _
   ·
    refine Ex<|ab<|ab ?_
    have hdn:denB t t.length=true:=by rw [show t.length=i by omega];exact hd
    refine ak<|Wa Z<|Wn<|aF<|bJ (fun (j:Nat)=>j≤t.length∧bitB t j=true) (fun (j:Nat)=>[(0,kMZ.is b),(1,(kSl (kPair kZ kZ)).is t),(7,kN6.is (j:Int))]) (fun (j:Nat)=>[]) (fun (j:Nat)=>t.length-j) 0 ⟨Nat.zero_le _,bitB_0 t⟩ (ac Z (ac Z (az Z (ah (y:=(0:Int)) (by rfl)) aq))) (aG _) ?_
    intro j ⟨hj,hb⟩
    refine ab<|Cr<|Wm Z<|Wm Z<|Ws (aJ Z U26)<|Ws (aX Z Z)<|Wn ?_
    refine aM Z (fun h_t35=>?_)<|fun h_t35=>?_
    ·
     refine Ck<|ab<|aF<|Cr<|Wm Z<|Wm Z<|Ws (aU j Z Z U26 ai Z (v:=(t.getD j (0,0))) (gd (0,0) (by omega)))<|Ws (cQ Z cB (aD Li) Z)<|Ws (aO Z af)<|Ws (f1 fn61 Z (c_ref02_Bits ((t.getD j (0,0)).1)))<|Ws (cF Z Z)<|Wm Z ?_
     refine cG 45 Z (fun h_t45=>?_)<|fun h_t45=>?_
     ·
      refine Kt Z Z<|Kt Z Z<|Kt Z Z<|Kt Z Z<|Kt Z Z<|Kt Z Z<|Kt Z Z<|Ws (cE Z Z)<|Wn<|fi Z<|Cr<|Wa Z<|Wn<|aA<|bQ<|a6<|a6<|bQ<|a6<|tl 4 Z (y:=(askE b t)) (askE_4 h_t11 (by omega) hdn (bitB_n (i:=j) (by omega) (.inl h_t45))).symm ?_
      exact Qd Z (aI Z ay) ⟨Z,Z⟩
     ·
      refine Wg Z Z (cd Z)<|Wg Z Z (cd Z)<|Wg Z Z (aU j Z Z U26 ai Z (v:=(t.getD j (0,0))) (gd (0,0) (by omega)))<|Wg Z Z (cQ Z bW (am Li) Z)<|Wg Z Z (aO Z af)<|Wg Z Z (f1 fn61 Z (c_ref02_Bits ((t.getD j (0,0)).2)))<|Wg Z Z (cF Z Z)<|Ws (cb Z Z)<|Wn ?_
      refine aM Z (fun h_t53=>?_)<|fun h_t53=>?_
      ·
       refine Cr<|Wa Z<|Wn<|aA<|bQ<|a6<|a6<|bQ<|a6<|tl 4 Z (y:=(askE b t)) (askE_4 h_t11 (by omega) hdn (bitB_n (i:=j) (by omega) (.inr (by simpa using h_t53)))).symm ?_
       exact Qd Z (aI Z ay) ⟨Z,Z⟩
      ·
       refine cx<|Qb<|ak<|Wm Z<|Ws (aR Z Z (c:=((j:Int)+1)) (aH (by omega)))<|Wa Z<|au ?_
       exact bE (j+1) (by omega) ⟨by omega,bitB_s (by omega) hb h_t45 (by simpa using h_t53)⟩ (ac Z (ac Z (az Z (ah (y:=(((j+1):Nat):Int)) (by rfl)) aq)))<|aG _
    ·
     refine Ex<|ab ?_
     have hbn:bitB t t.length=true:=by rw [show t.length=j by omega];exact hb
     refine ak<|Wa Z<|Wn<|aA<|tl 4 Z (y:=(askE b t)) (askE_5 h_t11 (by omega) hdn hbn).symm ?_
     exact Qd Z (aI Z ay) ⟨Z,Z⟩
theorem c_ref05_Star (G:Nat→Nat→Int) (n nB i:Nat) (hs:SymG G) (hP:PosU G n) (hi:i<n) (h12:n≤12) (hD:∀k,k≤n→Sz nB (uD G k)) (hB:nB≤68719476736):Fn Tryz.prog 75 [kGso.is (gDs (G) n,gLs (G) n),kN6.is (i:Int)] (kRC.is (rq (frS G i))):=by
 refine aN Tryz.func75 Z Z fun m w=>Cr<|aZ .n Z fun b1=>aW .n ba fun b2=>Wn<|ab ?_
 refine a5 (Γ:=[.fr (VP.pt b1 0),.fr (kVC.is (gDs (G) n)),.fr (kN6.is (i:Int)),.fr (kN6.is ((i:Int)+1)),.fr (VP.pim kC (uD G (i+1))),.fr (kC.is (uD G (i+1))),.fr (VP.pt b1 0),.fr (kVC.is (gDs (G) n)),.fr (kN6.is (i:Int)),.fr (VP.pim kC (uD G i)),.fr (kC.is (uD G i)),.fr (kRC.is (rmk (uD G (i+1)) (uD G i)))]) (aa Z (fun N=>aw Z cK Z) (aa Z (fun N=>ae (p:=kVC.is (gDs (G) n)) Z (mN N 1 Z) (aD Li) aK Z) (om Z Z (aa Z (fun N=>aR Z Z (c:=((i:Int)+1)) (aH (by omega))) (aa Z (fun N=>aU (i+1) Z Z U23 af (by omega) (v:=(uD G (i+1))) (dv (by omega))) (aa Z (fun N=>aO Z af) (aa Z (fun N=>aw Z cK Z) (aa Z (fun N=>ae (p:=kVC.is (gDs (G) n)) Z (mN N 1 Z) (aD Li) aK Z) (om Z Z (aa Z (fun N=>aU i Z Z U23 af (by omega) (v:=(uD G i)) (dv (by omega))) (aa Z (fun N=>aO Z af) (aa Z (fun N=>aB em (aj Z (aL ((hD (i+1) (by omega)).sm (by omega))) (aj Z (aL ((hD i (by omega)).sm (by omega))) ar)) (d8 (uD G (i+1)) (uD G i) (uD_ne hP (by omega)))) oz))))))))))))<|fun σ1=>?_
 refine aE .n (aC (l:=kRC) (u:=rmk (uD G (i+1)) (uD G i)) 0 Z Z Z ai Z Lr)<|Wn<|aA<|tb 0 Z (y:=(rq (frS G i))) (frS_rmk hs hP hi) ?_
 exact Qd Z (aY Z (ag 0 Z) ai ay) ⟨Z,Z⟩
end Fw
