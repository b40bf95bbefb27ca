/- Frame, facts and contracts for CloseGuesses. -/
import Derived.Test.YtjbfmocbophmlaaGreatCCloseGuessesE
set_option exponentiation.threshold 600
set_option linter.unusedVariables false
set_option linter.unusedSimpArgs false
set_option maxRecDepth 20000
set_option maxHeartbeats 1000000
namespace Fw
open Go Go.Proofs
theorem c_rat_Mul1r (n:Nat) (p:Rat) (x y:Int) (hp:RZ n p) (hx:Sz n x) (hy:Sz n y) (h0:0<y) (hn:n≤68719476736):Fn Tryz.prog 258 [VP.pim kRC (rq p),VP.pim (kPair kZ kZ) (x,y)] (kRC.is (rq (p*rv (x,y)))):=by
 refine aO Tryz.func258 Z Z fun m w=>Cr<|aX .n ba fun b1=>Wn<|ab ?_
 refine a5 (Γ:=[.fr (VP.pim kC ((rq p).1)),.fr (kC.is ((rq p).1)),.fr (VP.pim kZ x),.fr (kZ.is x),.fr (kC.is (((rq p).1)*x)),.fr (VP.pim kC ((rq p).2)),.fr (kC.is ((rq p).2)),.fr (VP.pim kZ y),.fr (kZ.is y),.fr (kC.is (((rq p).2)*y)),.fr (kRC.is (rmk (((rq p).1)*x) (((rq p).2)*y)))]) (aa Z (fun N=>cL Z cx (aC Li) Z) (aa Z (fun N=>aQ Z ae) (aa Z (fun N=>cL Z cx (aC Li) Z) (aa Z (fun N=>aQ Z ae) (aa Z (fun N=>aB cV (ai Z (aL (hp.a.sm (by omega))) (aP Z ao)) (cT ((rq p).1) x)) (aa Z (fun N=>cL Z bX (am Li) Z) (aa Z (fun N=>aQ Z ae) (aa Z (fun N=>cL Z bX (am Li) Z) (aa Z (fun N=>aQ Z ae) (aa Z (fun N=>aB cV (ai Z (aL (hp.b.sm (by omega))) (aP Z ao)) (cT ((rq p).2) y)) (aa Z (fun N=>aB fn136 (ai Z (aL ((hp.a.mul hx).sm (by omega))) (ai Z (aL ((hp.b.mul hy).sm (by omega))) ao)) (fD (((rq p).1)*x) (((rq p).2)*y) (by exact Int.mul_ne_zero (rq_den_ne p) (by omega)))) oz)))))))))))<|fun σ1=>?_
 refine aE .n (aD (l:=kRC) (u:=rmk (((rq p).1)*x) (((rq p).2)*y)) 0 Z Z Z aj Z Lr)<|Wn<|aA<|tb 0 Z (y:=(rq (p*rv (x,y)))) (by have e:=raw_mul (x:=(rq p).1) (u:=x) (rq_den_pos p) h0;rw [show ((rq p).1,(rq p).2)=rq p from rfl,rv_rq] at e;exact e) ?_
 exact Qd Z (aZ Z (ag 0 Z) aj ay) ⟨Z,Z⟩
theorem c_rat_Mulr (n:Nat) (p:Rat) (x y:Int) (hp:RZ n p) (hx:Sz n x) (hy:Sz n y) (h0:0<y) (hn:n≤68719476736):Fn Tryz.prog 221 [kRC.is (rq p),(kPair kZ kZ).is (x,y)] (VP.tup [kRC.is (rq (p*rv (x,y))),kN6.is 0]):=by
 refine aO Tryz.func221 Z Z fun m w=>Cr<|aY .n Z fun b1=>aY .n Z fun b2=>aX .n ba fun b3=>Wa Z<|Wr<|Ws (af Z (ag 2 Z) Li aj Z)<|Ws (af (p:=(kPair kZ kZ).is (x,y)) Z (ag 1 Z) Li aj Z)<|d9 2 Z (kp 0 Z (kp 1 Z (.hit (i:=2) Z (kp 3 Z (kp 4 Z (kp 5 Z (kp 6 Z (kp 7 Z .nil))))))))<|d9 1 Z (kp 0 Z (kp 1 Z (kp 2 Z (.hit (i:=3) Z (kp 4 Z (kp 5 Z (kp 6 Z (kp 7 Z .nil))))))))<|Ws (O.mkf (aP Z (aP Z ao)))<|Ws (aB fn205 (aP Z (aP Z (aP Z ao))) (c_rat_twor n p (p*rv (x,y)) x y 258 [VP.pim kRC (rq p),VP.pim (kPair kZ kZ) (x,y)] fn258 (c_rat_Mul1r n p x y hp hx hy h0 hn) hp h0 hn))<|Ws (aN Z Z)<|Ws (aN Z Z)<|aE .n (aD (l:=kRC) (u:=rq (p*rv (x,y))) 0 Z Z Z aj Z Lr)<|Wa Z<|Wn<|aA ?_
 exact Qd Z (aZ Z (ag 0 Z) aj (aI Z ay)) ⟨Z,Z⟩
theorem c_close_mulr (n:Nat) (p:Rat) (x y:Int) (hp:RZ n p) (hx:Sz n x) (hy:Sz n y) (h0:0<y) (hn:n≤68719476736):Fn Tryz.prog 195 [kRC.is (rq p),(kPair kZ kZ).is (x,y)] (kRC.is (rq (p*rv (x,y)))):=by
 refine aO Tryz.func195 Z Z fun m w=>Cr<|aY .n Z fun b1=>aY .n Z fun b2=>aX .n ba fun b3=>Wr<|Ws (af Z (ag 2 Z) Li aj Z)<|Ws (af (p:=(kPair kZ kZ).is (x,y)) Z (ag 1 Z) Li aj Z)<|Ws (f2 fn221 Z Z (c_rat_Mulr n p x y (by assumption) (by assumption) (by assumption) (by assumption) (by assumption)))<|Wm Z<|Ws (aN Z Z)<|Ws (aN Z Z)<|Ax (l:=kRC) (u:=rq (p*rv (x,y))) ba Z aj (fun _=>Z) Lr fun b4=>Wa Z<|Wr<|Ws (af Z (ag 0 Z) Li aj Z) ?_
 refine aE .n (aD (l:=kRC) (u:=rq (p*rv (x,y))) 1 Z Z Z aj Z Lr)<|Wn<|aA ?_
 exact Qd Z (aZ Z (ag 1 Z) aj ay) ⟨Z,Z⟩
theorem c_close_along (b:List (List Int)) (t:List (Int×Int)) (u:List Int) (hT:Tgt b t) (hu:SzL 264 u) (hl:u.length=t.length) (h12:t.length≤12):Fn Tryz.prog 231 [kVZ.is u,(kSl (kPair kZ kZ)).is t] (kRC.is (rq (adQ u t t.length))):=by
 refine aO Tryz.func231 Z Z fun m w=>Cr<|aX .n ba fun b1=>Wr<|Ws (cd dP Z bz (.nil _))<|Ws (aB eE (ai Z (aL (by exact Sm_lit (by decide))) ao) (es 0))<|Ax (l:=kRC) (u:=rq (0:Rat)) ba Z aj (fun _=>Z) Lr fun b2=>Wn<|ab<|Cr<|Wm Z<|Ws (aK Z U23)<|Wm Z<|Wn<|aF<|tb 0 Z (y:=(rq (adQ u t 0))) (by exact rq_int 0) ?_
 refine bL (fun (i:Nat)=>i≤u.length) (fun (i:Nat)=>[(0,kVZ.is u),(1,(kSl (kPair kZ kZ)).is t),(4,VP.pt b1 0),(5,VP.pt b2 0),(10,kN6.is (u.length:Int)),(11,kN6.is (i:Int))]) (fun (i:Nat)=>[OB.box b2 31 kRC (rq (adQ u t i)),OB.box b1 31 kRC (0,0)]) (fun (i:Nat)=>u.length-i) 0 (Nat.zero_le _) (aq Z Z Z Z (ac Z (az Z (ah (y:=(0:Int)) (by rfl)) ar))) (aH _) ?_
 intro i hi
 refine Cr<|Ws (aW Z Z)<|Wn<|ab ?_
 refine aM Z (fun h_t12=>?_)<|fun h_t12=>?_
 ·
  refine Ck<|ab<|aF<|Cr<|Wm Z<|Wa Z<|Wn ?_
  refine a5 (Γ:=[.fr (kRC.is (rq (adQ u t i))),.fr (kVZ.is u),.fr (kN6.is (i:Int)),.fr (VP.pim kZ (u.getD i 0)),.fr (kZ.is (u.getD i 0)),.fr (kRC.is (rq ((u.getD i 0):Rat))),.fr ((kSl (kPair kZ kZ)).is t),.fr (kN6.is (i:Int)),.fr (VP.pim (kPair kZ kZ) (t.getD i (0,0))),.fr ((kPair kZ kZ).is (t.getD i (0,0))),.fr (kRC.is (rq (((u.getD i 0:Int):Rat)*rv (((t.getD i (0,0)).1),((t.getD i (0,0)).2))))),.fr (kRC.is (rq ((adQ u t i)+(((u.getD i 0:Int):Rat)*rv ((t.getD i (0,0)).1,(t.getD i (0,0)).2)))))]) (aa Z (fun N=>af Z (mN N 0 Z) Li aj Z) (om Z Z (om Z Z (aa Z (fun N=>aU i Z Z U23 ae Z (v:=(u.getD i 0)) (gd 0 (by omega))) (aa Z (fun N=>aQ Z ae) (aa Z (fun N=>f1 eE Z (es (u.getD i 0))) (om Z Z (om Z Z (aa Z (fun N=>aU i Z Z U26 aj Z (v:=(t.getD i (0,0))) (gd (0,0) (by omega))) (aa Z (fun N=>aQ Z aj) (aa Z (fun N=>aB fn195 (ai Z (ah (y:=rq ((u.getD i 0:Int):Rat)) (by rfl)) (ai Z (ah (y:=((t.getD i (0,0)).1,(t.getD i (0,0)).2)) (by rfl)) ao)) (c_close_mulr 265 ((u.getD i 0:Int):Rat) ((t.getD i (0,0)).1) ((t.getD i (0,0)).2) (fS ((hu i).up (by decide))) ((hT.z i (by omega)).1.up (by decide)) ((hT.z i (by omega)).2.up (by decide)) (hT.d i (by omega)) (by decide))) (aa Z (fun N=>aB fn69 (aP Z (ai Z (ah (y:=rq (((u.getD i 0:Int):Rat)*rv ((t.getD i (0,0)).1,(t.getD i (0,0)).2))) (by rfl)) ao)) (c_close_add 6400 (adQ u t i) (((u.getD i 0:Int):Rat)*rv ((t.getD i (0,0)).1,(t.getD i (0,0)).2)) (ad_RZ hT hu h12 (by omega)) (((fS ((hu i).up (by decide):Sz 265 _)).mul (rv_RZ (x:=((t.getD i (0,0)).1,(t.getD i (0,0)).2)) (hT.d i (by omega)) (hT.z i (by omega)).1 (hT.z i (by omega)).2)).up (by decide)) (by decide))) oz))))))))))))<|fun σ1=>?_
  refine aE .n (aD (l:=kRC) (u:=rq ((adQ u t i)+(((u.getD i 0:Int):Rat)*rv ((t.getD i (0,0)).1,(t.getD i (0,0)).2)))) 0 Z Z Z aj Z Lr)<|au<|Qb<|ak<|Ws (aS Z Z (c:=((i:Int)+1)) (aG (by omega)))<|Wm Z<|au<|bi (bj [0,1] (by decide) Z)<|tb 0 Z (y:=(rq (adQ u t (i+1)))) (by rw [←tau_eq (show i<t.length by omega)];rfl) ?_
  exact bF (i+1) (by omega) (by omega) (aq Z Z Z Z (ac Z (az Z (ah (y:=(((i+1):Nat):Int)) (by rfl)) ar)))<|aH _
 ·
  refine Ex<|Cr<|Ws (af Z (ag 0 Z) Li aj Z)<|aE .n (aD (l:=kRC) (u:=(rq (adQ u t i))) 1 Z Z Z aj Z Lr)<|Wn<|aA<|tb 1 Z (y:=(rq (adQ u t t.length))) (by rw [show i=t.length by omega]) ?_
  exact Qd Z (aZ Z (ag 1 Z) aj ay) ⟨Z,Z⟩
theorem c_close_coords (b:List (List Int)) (t:List (Int×Int)) (hT:Tgt b t):Fn Tryz.prog 168 [kMC.is (llB b),kGso.is (gDs (gram (llB b)) b.length,gLs (gram (llB b)) b.length),(kSl (kPair kZ kZ)).is t] ((kSl kRC).is (tcL (plC b t) b.length)):=by
 refine aO Tryz.func168 Z Z fun m w=>?_
 have hZ:=basis_of hT.e
 have hRB:=redB_of hZ
 have hP:=plC_TZ hT
 have hlR:=hRB.len
 have hn12:=hRB.n
 have hn0:=hRB.n0
 have htl:t.length≤12:=by rw [hT.l];exact hZ.c 0
 refine Cr<|aY .n Z fun b1=>Wa Z<|Wr<|Wm Z<|Ws (aK Z U22)<|Wa Z<|Wr<|Wa Z<|Wn<|ab<|Cr<|Wm Z<|Wm Z<|au ?_
 refine co<|aF<|bQ 31 kRC<|tl 7 Z (y:=(b.length:Int)) (by rw [hlR])<|tl 23 Z (y:=(b.length:Int)) (by rw [hlR])<|bT (fun (i:Nat) (v:Value)=>i≤b.length) (fun (i:Nat) (v:Value)=>[(0,kMC.is (llB b)),(2,(kSl (kPair kZ kZ)).is t),(4,VP.pt b1 0),(7,kN6.is (b.length:Int)),(8,VP.ex v),(23,kN6.is (b.length:Int)),(24,kN6.is (i:Int))]) (fun (i:Nat) (v:Value)=>[OB.row v 31 kRC (plA b t i),OB.box b1 25 kGso (gDs (gram (llB b)) b.length,gLs (gram (llB b)) b.length)]) (fun (i:Nat) (v:Value)=>b.length-i) 0 (.slice none 0 0) (Nat.zero_le _) (aq Z Z Z Z (ac Z (ac Z (az Z (ah (y:=(0:Int)) (by rfl)) ar)))) (a6 (OS.keepLe (bl (by rfl)) (OS.keep OS.nil))) ?_
 intro i v hi
 refine Cr<|Ws (aW Z Z)<|Wn<|ab ?_
 refine aM Z (fun h_t25=>?_)<|fun h_t25=>?_
 ·
  refine Ck<|ab<|aF<|Cr<|Wm Z<|Wa Z<|Wr<|Wm Z<|Wm Z<|Ws (aU i Z Z U22 aJ Z (v:=((llB b).getD i [])) (gd [] (by omega)))<|Ws (aQ Z aJ)<|Wm Z<|Ws (aB fn231 (ai Z (c6 (et (hRB.z i) (by decide))) (aP Z ao)) (c_close_along b t ((llB b).getD i []) hT (hRB.z i) (by rw [hRB.r.row i (by omega),hT.l]) htl))<|Ax (l:=kRC) (u:=rq (adQ ((llB b).getD i []) t t.length)) ba Z aj (fun _=>Z) Lr fun b2=>Wn<|ab<|ab ?_
  refine ak<|Wm Z<|Wm Z<|Wn<|aF<|tb 0 Z (y:=(rq (axQ (plG b) b.length (plC b t) 0 i))) (plA_0 hT (by omega))<|bL (fun (j:Nat)=>j≤i) (fun (j:Nat)=>[(0,kMC.is (llB b)),(2,(kSl (kPair kZ kZ)).is t),(4,VP.pt b1 0),(7,kN6.is (b.length:Int)),(8,VP.ex v),(9,kN6.is (i:Int)),(10,VP.pt b2 0),(23,kN6.is (b.length:Int)),(24,kN6.is (i:Int)),(33,kN6.is (i:Int)),(34,kN6.is (j:Int))]) (fun (j:Nat)=>[OB.box b2 31 kRC (rq (axQ (plG b) b.length (plC b t) j i)),OB.row v 31 kRC (plA b t i),OB.box b1 25 kGso (gDs (gram (llB b)) b.length,gLs (gram (llB b)) b.length)]) (fun (j:Nat)=>i-j) 0 (Nat.zero_le _) (aq Z Z Z Z (aq Z Z Z Z (ac Z (ac Z (az Z (ah (y:=(0:Int)) (by rfl)) ar))))) (aH _) ?_
  intro j hj
  refine Cr<|Ws (aW Z Z)<|Wn<|ab ?_
  refine aM Z (fun h_t35=>?_)<|fun h_t35=>?_
  ·
   refine Ck<|ab<|aF<|Cr<|Wm Z<|Wa Z<|Wr<|Ws (af (p:=kGso.is (gDs (gram (llB b)) b.length,gLs (gram (llB b)) b.length)) Z (ag 2 Z) Li bm Z)<|Wm Z<|Wm Z<|Ws (aB fn143 (ai Z (ah (y:=(gDs (plG b) b.length,gLs (plG b) b.length)) (by rfl)) (aP Z (aP Z ao))) (c_gso_Mu (plG b) b.length 2300000 hP.n0 hP.n12 hP.p hP.d (by decide) i j (by omega) (by omega) hP.s hP.l))<|Wm Z<|Ws (aN Z Z)<|Ws (aN Z Z)<|Ax (l:=kRC) (u:=rq (frM (plG b) i j)) ba Z aj (fun _=>Z) Lr fun b3=>Wa Z<|Wn ?_
   refine a5 (Γ:=[.fr (kRC.is (rq (axQ (plG b) b.length (plC b t) j i))),.fr (kRC.is (rq (frM (plG b) i j))),.fr (VP.ex v),.fr (kN6.is (j:Int)),.fr (VP.pel v (j*4)),.fr (kRC.is (rq (axQ (plG b) b.length (plC b t) j j))),.fr (kRC.is (rq ((frM (plG b) i j)*(axQ (plG b) b.length (plC b t) j j)))),.fr (kRC.is (rq ((axQ (plG b) b.length (plC b t) j i)-rv (((rq (frM (plG b) i j*axQ (plG b) b.length (plC b t) j j)).1),((rq (frM (plG b) i j*axQ (plG b) b.length (plC b t) j j)).2)))))]) (aa Z (fun N=>af Z (mN N 1 Z) Li aj Z) (aa Z (fun N=>af Z (mN N 0 Z) Li aj Z) (om Z Z (om Z Z (aa Z (fun N=>bb (k:=kRC) (xs:=(plA b t i)) (n:=(j:Int)) j Z Z (mN N 2 Z) U26 aj Z (by simp only [plA_len];omega)) (aa Z (fun N=>bq (k:=kRC) (xs:=(plA b t i)) j Z (mN N 2 Z) Li (ho:=Z) (y:=(rq (axQ (plG b) b.length (plC b t) j j))) (plA_at (by omega)) aj Z) (aa Z (fun N=>f2 fn195 Z Z (c_close_mul 402300000 (frM (plG b) i j) (axQ (plG b) b.length (plC b t) j j) ((hP.m i j (by omega) (by omega)).up (by decide)) ((hP.ax j (Nat.le_refl j) (by omega)).up (by decide)) (by decide))) (aa Z (fun N=>aB fn123 (aP Z (ai Z (dO (eZ ((((hP.m i j (by omega) (by omega)).mul (hP.ax j (Nat.le_refl j) (by omega))).a.sm (by decide))) ((((hP.m i j (by omega) (by omega)).mul (hP.ax j (Nat.le_refl j) (by omega))).b.sm (by decide)))) (ah (by rfl))) ao)) (gr 402300000 (axQ (plG b) b.length (plC b t) j i) ((rq (frM (plG b) i j*axQ (plG b) b.length (plC b t) j j)).1) ((rq (frM (plG b) i j*axQ (plG b) b.length (plC b t) j j)).2) ((hP.ax j (show j≤i by omega) (by omega)).up (by decide)) ((((hP.m i j (by omega) (by omega)).mul (hP.ax j (Nat.le_refl j) (by omega))).up (by decide)).a) ((((hP.m i j (by omega) (by omega)).mul (hP.ax j (Nat.le_refl j) (by omega))).up (by decide)).b) (eR _) (by decide))) oz))))))))<|fun σ1=>?_
   refine aE .n (aD (l:=kRC) (u:=rq ((axQ (plG b) b.length (plC b t) j i)-rv (((rq (frM (plG b) i j*axQ (plG b) b.length (plC b t) j j)).1),((rq (frM (plG b) i j*axQ (plG b) b.length (plC b t) j j)).2)))) 1 Z Z Z aj Z Lr)<|au<|Qb<|ak<|Ws (aS Z Z (c:=((j:Int)+1)) (aG (by omega)))<|Wm Z<|au<|bi (bj [1,2,3] (by decide) Z)<|tb 0 Z (y:=(rq (axQ (plG b) b.length (plC b t) (j+1) i))) (by rw [axQ_s hP.s hP.p (show j<b.length by omega),sub_rv]) ?_
   exact bF (j+1) (by omega) (by omega) (aq Z Z Z Z (aq Z Z Z Z (ac Z (ac Z (az Z (ah (y:=(((j+1):Nat):Int)) (by rfl)) ar)))))<|aH _
  ·
   refine Ex<|tb 0 Z (y:=(rq (axQ (plG b) b.length (plC b t) i i))) (by rw [show j=i by omega])<|ak<|Wm Z<|Ws (af Z (ag 0 Z) Li aj Z)<|Ws (bw U26 dk (bS Z bt) Z (by decide))<|bD 1 .n Z Z Z Lr U26 dk (by simp [plA];omega) fun v4=>Wa Z<|au<|Qb<|ak<|Ws (aS Z Z (c:=((i:Int)+1)) (aG (by omega)))<|Wm Z<|au<|bi (bj [1,2] (by decide) Z)<|tr 0 Z (y:=(plA b t (i+1))) (plA_app b t i) ?_
   exact bP (i+1) v4 (by omega) (by omega) (aq Z Z Z Z (ac Z (ac Z (az Z (ah (y:=(((i+1):Nat):Int)) (by rfl)) ar))))<|aH _
 ·
  refine Ex<|ab<|tr 0 Z (y:=(plA b t b.length)) (by rw [show i=b.length by omega])<|bJ 0 Z (kp 0 Z (kp 2 Z (kp 4 Z (kp 7 Z (.hit (i:=8) Z (kp 23 Z (kp 24 Z (kp 25 Z .nil))))))))<|ak<|Wm Z<|bH b.length .n Z Z Z (by omega) U26 dk ba fun v5=>Wa Z<|Wn<|ab<|Cr<|Wm Z<|Ws (bf Z Z (c:=((b.length:Int)-1)) (aG (by omega)))<|Wa Z<|Wn<|aF<|tr 0 Z (y:=(plM b t b.length)) (plM_0 b t) ?_
  refine bT (fun (i:Nat) (u:Value)=>i≤b.length) (fun (i:Nat) (u:Value)=>[(4,VP.pt b1 0),(7,kN6.is (b.length:Int)),(8,(kSl kRC).is (plA b t b.length)),(14,VP.ex u),(15,kN6.is ((i:Int)-1))]) (fun (i:Nat) (u:Value)=>[OB.row u 31 kRC (plM b t i),OB.box b1 25 kGso (gDs (gram (llB b)) b.length,gLs (gram (llB b)) b.length)]) (fun (i:Nat) (u:Value)=>i) b.length v5 (Nat.le_refl _) (aq Z Z Z Z (az Z (ah (y:=(((b.length:Nat):Int)-1)) (by rfl)) ar)) (aH _) ?_
  intro i u hi
  refine ab<|Cr<|Wm Z<|Ws (cZ Z Z)<|Wn ?_
  refine aM Z (fun h_t63=>?_)<|fun h_t63=>?_
  ·
   refine Ck<|ab<|aF<|Cr<|Ws (af (p:=kGso.is (gDs (gram (llB b)) b.length,gLs (gram (llB b)) b.length)) Z (ag 1 Z) Li bm Z)<|Wm Z<|Ws (aB fn68 (ai Z (ah (y:=(gDs (plG b) b.length,gLs (plG b) b.length)) (by rfl)) (ai Z (ah (y:=(((i-1):Nat):Int)) (by omega)) ao)) (gF (plG b) b.length 2300000 hP.n0 hP.n12 hP.p hP.d (by decide) (i-1) (by omega) hP.s))<|Wm Z<|Ws (aN Z Z)<|Ws (aN Z Z)<|Ax (l:=kRC) (u:=rq (frS (plG b) (i-1))) ba Z aj (fun _=>Z) Lr fun b6=>Wa Z<|Wn<|ab ?_
   refine a5 (Γ:=[.fr (VP.ex u),.fr (kN6.is ((i:Int)-1)),.fr ((kSl kRC).is (plA b t b.length)),.fr (kN6.is ((i:Int)-1)),.fr (VP.pim kRC (rq (axQ (plG b) b.length (plC b t) (i-1) (i-1)))),.fr (kRC.is (rq (axQ (plG b) b.length (plC b t) (i-1) (i-1)))),.fr (kRC.is (rq (frS (plG b) (i-1)))),.fr (VP.tup [kRC.is (rq ((axQ (plG b) b.length (plC b t) (i-1) (i-1))/(frS (plG b) (i-1)))),kN6.is 0]),.fr (VP.tup [kRC.is (rq ((axQ (plG b) b.length (plC b t) (i-1) (i-1))/(frS (plG b) (i-1)))),kN6.is 0]),.fr (kRC.is (rq ((axQ (plG b) b.length (plC b t) (i-1) (i-1))/(frS (plG b) (i-1))))),.lt (kN6.is 0),.fr (VP.pel u ((i-1)*4))]) (om Z Z (om Z Z (om Z Z (om Z Z (aa Z (fun N=>aU (i-1) Z Z U26 aj (by omega) (v:=(rq (axQ (plG b) b.length (plC b t) (i-1) (i-1)))) (plA_at (by omega))) (aa Z (fun N=>aQ Z aj) (aa Z (fun N=>af Z (mN N 0 Z) Li aj Z) (aa Z (fun N=>f2 fn70 Z Z (c_rat_Div 400000000 (axQ (plG b) b.length (plC b t) (i-1) (i-1)) (frS (plG b) (i-1)) (hP.ax (i-1) (Nat.le_refl _) (by omega)) ((hP.f (i-1) (by omega)).up (by decide)) (pos_ne (frS_p hP.s hP.p (by omega))) (by decide))) (om Z Z (aa Z (fun N=>aN Z Z) (oc (c7 Z .n (dw Z Z)) (aa Z (fun N=>bb (k:=kRC) (xs:=(plM b t i)) (n:=((i:Int)-1)) (i-1) Z Z (mN N 1 Z) U26 aj (by omega) (by simp only [plM_len,List.length_set];omega)) oz))))))))))))<|fun σ2=>?_
   refine aE .n (ch 1 (i-1) Z Z Li Z (y0:=((plM b t i).getD (i-1) (0,0))) (gd (0,0) (by simp only [plM_len,List.length_set];omega)) aj Z Lr)<|Wr<|Wm Z<|Ws (aS Z Z (c:=(((i:Int)-1)+1)) (aG (by omega)))<|Wa Z<|Wn<|aF<|tr 1 Z (y:=((plM b t i).set (i-1) (rq (bkQ (plG b) b.length (plC b t) (i-1) i)))) (by rw [show bkQ (plG b) b.length (plC b t) (i-1) i=axQ (plG b) b.length (plC b t) (i-1) (i-1)/frS (plG b) (i-1) by rw [bk_0 hP.s hP.p _ (show i-1<b.length by omega),show i-1+1=i by omega]])<|bi (bj [1,2] (by decide) Z)<|bL (fun (J:Nat)=>i≤J∧J≤b.length) (fun (J:Nat)=>[(4,VP.pt b1 0),(7,kN6.is (b.length:Int)),(8,(kSl kRC).is (plA b t b.length)),(14,VP.ex u),(15,kN6.is ((i:Int)-1)),(18,kN6.is (J:Int))]) (fun (J:Nat)=>[OB.row u 31 kRC ((plM b t i).set (i-1) (rq (bkQ (plG b) b.length (plC b t) (i-1) J))),OB.box b1 25 kGso (gDs (gram (llB b)) b.length,gLs (gram (llB b)) b.length)]) (fun (J:Nat)=>b.length-J) i ⟨Nat.le_refl _,hi⟩ (aq Z Z Z Z (ac Z (az Z (ah (y:=(i:Int)) (by omega)) ar))) (aH _) ?_
   intro J ⟨hJ,hJn⟩
   refine ab<|Cr<|Wm Z<|Wm Z<|Ws (aW Z Z)<|Wn ?_
   refine aM Z (fun h_t88=>?_)<|fun h_t88=>?_
   ·
    refine Ck<|ab<|aF<|Cr<|Ws (af (p:=kGso.is (gDs (gram (llB b)) b.length,gLs (gram (llB b)) b.length)) Z (ag 1 Z) Li bm Z)<|Wm Z<|Wm Z<|Ws (aB fn143 (ai Z (ah (y:=(gDs (plG b) b.length,gLs (plG b) b.length)) (by rfl)) (aP Z (ai Z (ah (y:=(((i-1):Nat):Int)) (by omega)) ao))) (c_gso_Mu (plG b) b.length 2300000 hP.n0 hP.n12 hP.p hP.d (by decide) J (i-1) (by omega) (by omega) hP.s hP.l))<|Wm Z<|Ws (aN Z Z)<|Ws (aN Z Z)<|Ax (l:=kRC) (u:=rq (frM (plG b) J (i-1))) ba Z aj (fun _=>Z) Lr fun b7=>Wa Z<|Wn ?_
    refine a5 (Γ:=[.fr (VP.ex u),.fr (kN6.is ((i:Int)-1)),.fr (VP.ex u),.fr (kN6.is ((i:Int)-1)),.fr (VP.pel u ((i-1)*4)),.fr (kRC.is (rq (bkQ (plG b) b.length (plC b t) (i-1) J))),.fr (kRC.is (rq (frM (plG b) J (i-1)))),.fr (VP.ex u),.fr (kN6.is (J:Int)),.fr (VP.pel u (J*4)),.fr (kRC.is (rq (plC b t J))),.fr (kRC.is (rq ((frM (plG b) J (i-1))*(plC b t J)))),.fr (kRC.is (rq ((bkQ (plG b) b.length (plC b t) (i-1) J)-rv (((rq (frM (plG b) J (i-1)*plC b t J)).1),((rq (frM (plG b) J (i-1)*plC b t J)).2))))),.fr (VP.pel u ((i-1)*4))]) (om Z Z (om Z Z (om Z Z (om Z Z (aa Z (fun N=>bb (k:=kRC) (xs:=((plM b t i).set (i-1) (rq (bkQ (plG b) b.length (plC b t) (i-1) J)))) (n:=((i:Int)-1)) (i-1) Z Z (mN N 1 Z) U26 aj (by omega) (by simp only [plM_len,List.length_set];omega)) (aa Z (fun N=>bq (k:=kRC) (xs:=((plM b t i).set (i-1) (rq (bkQ (plG b) b.length (plC b t) (i-1) J)))) (i-1) Z (mN N 1 Z) Li (ho:=Z) (y:=(rq (bkQ (plG b) b.length (plC b t) (i-1) J))) (set_at (by rw [plM_len];omega)) aj Z) (aa Z (fun N=>af Z (mN N 0 Z) Li aj Z) (om Z Z (om Z Z (aa Z (fun N=>bb (k:=kRC) (xs:=((plM b t i).set (i-1) (rq (bkQ (plG b) b.length (plC b t) (i-1) J)))) (n:=(J:Int)) J Z Z (mN N 1 Z) U26 aj (by omega) (by simp only [plM_len,List.length_set];omega)) (aa Z (fun N=>bq (k:=kRC) (xs:=((plM b t i).set (i-1) (rq (bkQ (plG b) b.length (plC b t) (i-1) J)))) J Z (mN N 1 Z) Li (ho:=Z) (y:=(rq (plC b t J))) (plM_at2 (by omega) (by omega) (by omega)) aj Z) (aa Z (fun N=>f2 fn195 Z Z (c_close_mul 30300000 (frM (plG b) J (i-1)) (plC b t J) ((hP.m J (i-1) (by omega) (by omega)).up (by decide)) ((hP.c J (by omega)).up (by decide)) (by decide))) (aa Z (fun N=>aB fn123 (aP Z (ai Z (dO (eZ ((((hP.m J (i-1) (by omega) (by omega)).mul (hP.c J (by omega))).a.sm (by decide))) ((((hP.m J (i-1) (by omega) (by omega)).mul (hP.c J (by omega))).b.sm (by decide)))) (ah (by rfl))) ao)) (gr 400000000 (bkQ (plG b) b.length (plC b t) (i-1) J) ((rq (frM (plG b) J (i-1)*plC b t J)).1) ((rq (frM (plG b) J (i-1)*plC b t J)).2) (hP.bk (show i-1<b.length by omega) (show i-1<J by omega)) ((((hP.m J (i-1) (by omega) (by omega)).mul (hP.c J (by omega))).up (by decide)).a) ((((hP.m J (i-1) (by omega) (by omega)).mul (hP.c J (by omega))).up (by decide)).b) (eR _) (by decide))) (aa Z (fun N=>bb (k:=kRC) (xs:=((plM b t i).set (i-1) (rq (bkQ (plG b) b.length (plC b t) (i-1) J)))) (n:=((i:Int)-1)) (i-1) Z Z (mN N 1 Z) U26 aj (by omega) (by simp only [plM_len,List.length_set];omega)) oz))))))))))))))<|fun σ3=>?_
    refine aE .n (ch 1 (i-1) Z Z Li Z (y0:=(((plM b t i).set (i-1) (rq (bkQ (plG b) b.length (plC b t) (i-1) J))).getD (i-1) (0,0))) (gd (0,0) (by simp only [plM_len,List.length_set];omega)) aj Z Lr)<|au<|Qb<|ak<|Wm Z<|Ws (aS Z Z (c:=((J:Int)+1)) (aG (by omega)))<|Wa Z<|au<|bi (bj [1,2] (by decide) Z)<|tr 0 Z (y:=((plM b t i).set (i-1) (rq (bkQ (plG b) b.length (plC b t) (i-1) (J+1))))) (by rw [List.set_set,sub_rv,←bk_s (G:=plG b) (plC b t) (i:=i-1) (show J<b.length by omega)]) ?_
    exact bF (J+1) (by omega) (by omega) (aq Z Z Z Z (ac Z (az Z (ah (y:=(((J+1):Nat):Int)) (by rfl)) ar)))<|aH _
   ·
    refine dS<|c9<|c9<|dR<|Qb<|ak<|Wm Z<|Ws (bf Z Z (c:=(((i:Int)-1)-1)) (aG (by omega)))<|Wa Z<|au<|tr 0 Z (y:=(plM b t (i-1))) (by rw [show J=b.length by omega,bk_end];exact plM_set (by omega) (by omega)) ?_
    exact bP (i-1) u (by omega) (by omega) (aq Z Z Z Z (az Z (ah (y:=((((i-1):Nat):Int)-1)) (by omega)) ar))<|aH _
  ·
   refine Ex<|ab<|tr 0 Z (y:=(tcL (plC b t) b.length)) (by rw [show i=0 by omega];exact plM_end b t)<|bJ 0 Z (kp 4 Z (kp 7 Z (kp 8 Z (.hit (i:=14) Z (kp 15 Z (kp 62 Z (kp 63 Z .nil)))))))<|ak<|Wm Z<|Wa Z<|Wn<|aA ?_
   exact Qd Z (aI Z ay) ⟨Z,Z⟩
theorem c_tree_Valid (G:Nat→Nat→Int) (n:Nat) (c:Nat→Rat) (r:Rat) (hP:TZ G n c) (hr:RZ 21000000000 r) (hr0:0≤(rq r).1):Fn Tryz.prog 262 [kTre.is ((gDs (G) n,gLs (G) n),tcL c n,(rq r))] (kN6.is 0):=by
 refine aO Tryz.func262 Z Z fun m w=>?_
 have hn0:=hP.n0
 have hn12:=hP.n12
 have hTl:=tcL_len c n
 have hLl:=gLs_len G n
 have hr1:(rq r).2.sign=1:=Int.sign_eq_one_of_pos (rq_den_pos r)
 have hr2:0≤(rq r).1.sign:=Int.sign_nonneg_iff.2 hr0
 refine Cr<|aY .n Z fun b1=>Wa Z<|Wr<|Ws (aw Z dm Z)<|Ws (aw Z cm Z)<|Ws (af (p:=kMC.is (gLs (G) n)) Z (ag 0 Z) (aC (am Li)) bg Z)<|Ws (aK Z U22)<|Wa Z<|Wn<|ab<|ab<|tl 3 Z (y:=(n:Int)) (by rw [hLl])<|ak<|Wm Z<|Ws (cz Z Z)<|Wm Z ?_
 refine cN 14 Z (fun h_t14=>?_)<|fun h_t14=>?_
 ·
  refine Kt Z Z<|Kt Z Z<|Kt Z Z<|Kt Z Z<|Kt Z Z<|fk Z Z<|fk Z Z<|fk Z Z<|fk Z Z<|fk Z Z<|Kt Z Z<|Ws (cC Z Z)<|Wm Z<|Kt Z Z<|Kt Z Z<|Kt Z Z<|Kt Z Z<|Kt Z Z<|Ws (cC Z Z)<|Wm Z<|Kt Z Z<|Kt Z Z<|Kt Z Z<|Kt Z Z ?_
  refine Kt Z Z<|Ws (cC Z Z)<|Wn<|eM Z<|Cr<|Wa Z<|Wn<|aA<|a8 ?_
  exact Qd Z (du Z (ah (y:=0) (by omega)) ay) ⟨Z,Z⟩
 ·
  refine Wg Z Z (aw Z dY Z)<|Wg Z Z (af (p:=(kSl kRC).is (tcL c n)) Z (ag 0 Z) (am (aC Li)) bM Z)<|Wg Z Z (aK Z U26)<|Wg Z Z (bG Z Z)<|Wg Z Z (bY Z) ?_
  refine cN 19 Z (fun h_t19=>?_)<|fun h_t19=>?_
  ·
   refine Wg Z Z (aw Z dY Z)<|Wg Z Z (af (p:=(kSl kRC).is (tcL c n)) Z (ag 0 Z) (am (aC Li)) bM Z)<|Wg Z Z (aK Z U26)<|Wg Z Z (bY Z)<|Wg Z Z (bG Z Z)<|Wg Z Z (cC Z Z)<|Ws (cg Z Z)<|Wm Z ?_
   refine cN 27 Z (fun h_t27=>?_)<|fun h_t27=>?_
   ·
    refine Kt Z Z<|Kt Z Z<|Kt Z Z<|Kt Z Z<|Kt Z Z<|Ws (cC Z Z)<|Wm Z<|Kt Z Z<|Kt Z Z<|Kt Z Z<|Kt Z Z<|Kt Z Z<|Ws (cC Z Z)<|Wn<|eM Z<|Cr<|Wa Z<|Wn<|aA<|a8 ?_
    exact Qd Z (du Z (ah (y:=0) (by omega)) ay) ⟨Z,Z⟩
   ·
    refine Wg Z Z (aw Z ff Z)<|Wg Z Z (aw Z bX Z)<|Wg Z Z (af (p:=kC.is ((rq r).2)) Z (ag 0 Z) (am (am (am Li))) ae Z)<|Wg Z Z (aB dg (ai Z (aL (hr.b.sm (by decide))) ao) (db ((rq r).2)))<|Wg Z Z (dN Z Z)<|Ws (cg Z Z)<|Wm Z ?_
    refine cN 34 Z (fun h_t34=>?_)<|fun h_t34=>?_
    ·
     refine Kt Z Z<|Kt Z Z<|Kt Z Z<|Kt Z Z<|Kt Z Z<|Ws (cC Z Z)<|Wn<|eM Z<|Cr<|Wa Z<|Wn<|aA<|a8 ?_
     exact Qd Z (du Z (ah (y:=0) (by omega)) ay) ⟨Z,Z⟩
    ·
     refine Wg Z Z (aw Z ff Z)<|Wg Z Z (aw Z cx Z)<|Wg Z Z (af (p:=kC.is ((rq r).1)) Z (ag 0 Z) (am (am (aC Li))) ae Z)<|Wg Z Z (aB dg (ai Z (aL (hr.a.sm (by decide))) ao) (db ((rq r).1)))<|Wg Z Z (aW Z Z)<|Ws (cg Z Z)<|Wn ?_
     refine CN Z (by omega) fun h_t40=>?_
     refine Ck<|ab<|Cr<|Ws (aw Z dm Z)<|Ws (af (p:=kGso.is (gDs (G) n,gLs (G) n)) Z (ag 0 Z) (aC Li) bm Z)<|Ws (aB fn68 (ai Z (ah (y:=(gDs G n,gLs G n)) (by rfl)) (ai Z (ah (y:=(0:Int)) (by rfl)) ao)) (gF G n 2300000 hP.n0 hP.n12 hP.p hP.d (by decide) 0 (by omega) hP.s))<|Wm Z<|Ws (aN Z Z)<|Ws (aN Z Z)<|Ax (l:=kRC) (u:=rq (frS G 0)) ba Z aj (fun _=>Z) Lr fun b2=>Wa Z<|Wr<|Wm Z<|Ws (bG Z Z)<|Wn ?_
     refine CN Z (fun h=>h Z) fun h_t48=>?_
     refine Ck<|ab<|Cr<|Ws (aw Z dY Z)<|Ws (af (p:=(kSl kRC).is (tcL c n)) Z (ag 1 Z) (am (aC Li)) bM Z)<|Ws (aK Z U26)<|Wm Z<|Wn<|aF<|tl 51 Z (y:=(n:Int)) (by rw [hTl])<|bi (bj [1] (by decide) Z)<|bL (fun (i:Nat)=>i≤n) (fun (i:Nat)=>[(1,VP.pt b1 0),(50,(kSl kRC).is (tcL c n)),(51,kN6.is (n:Int)),(52,kN6.is (i:Int))]) (fun (i:Nat)=>[OB.box b1 33 kTre ((gDs (G) n,gLs (G) n),tcL c n,(rq r))]) (fun (i:Nat)=>n-i) 0 (Nat.zero_le _) (ac Z (ac Z (ac Z (az Z (ah (y:=(0:Int)) (by rfl)) ar)))) (aH _) ?_
     intro i hi
     refine Cr<|Ws (aW Z Z)<|Wn<|ab ?_
     refine aM Z (fun h_t53=>?_)<|fun h_t53=>?_
     ·
      refine Ck<|ab<|aF<|Cr<|Ws (aU i Z Z U26 aj Z (v:=(rq (c i))) (fi (by omega)))<|Ws (aQ Z aj)<|Ax (l:=kRC) (u:=(rq (c i))) ba Z aj (fun _=>Z) Lr fun b3=>Wr<|Ws (aw Z bX Z)<|Ws (af Z (ag 0 Z) (am Li) ae Z)<|Ws (aB dg (ai Z (aL ((hP.c i (by omega)).b.sm (by decide))) ao) (db ((rq (c i)).2)))<|Ws (dN Z Z)<|Wn ?_
      refine CN Z (by have h1:=rq_den_pos (c i);have:=Int.sign_eq_one_of_pos h1;omega) fun h_t59=>?_
      refine cB<|Qb<|ak<|Ws (aS Z Z (c:=((i:Int)+1)) (aG (by omega)))<|Wm Z<|au<|bi (bj [1] (by decide) Z) ?_
      exact bF (i+1) (by omega) (by omega) (ac Z (ac Z (ac Z (az Z (ah (y:=(((i+1):Nat):Int)) (by rfl)) ar))))<|aH _
     ·
      refine Ex<|Cr<|Wa Z<|Wn<|aA ?_
      exact Qd Z (aI Z ay) ⟨Z,Z⟩
  ·
   refine Kf Z Z<|Kf Z Z<|Kf Z Z<|Kf Z Z<|Kf Z Z<|Wg Z Z (cg Z Z)<|Ws (cg Z Z)<|Wm Z<|Wg Z Z (aw Z ff Z)<|Wg Z Z (aw Z bX Z)<|Wg Z Z (af (p:=kC.is ((rq r).2)) Z (ag 0 Z) (am (am (am Li))) ae Z)<|Wg Z Z (aB dg (ai Z (aL (hr.b.sm (by decide))) ao) (db ((rq r).2)))<|Wg Z Z (dN Z Z)<|Ws (cg Z Z)<|Wm Z ?_
   refine cN 34 Z (fun h_t34=>?_)<|fun h_t34=>?_
   ·
    refine Kt Z Z<|Kt Z Z<|Kt Z Z<|Kt Z Z<|Kt Z Z<|Ws (cC Z Z)<|Wn<|eM Z<|Cr<|Wa Z<|Wn<|aA<|a8 ?_
    exact Qd Z (du Z (ah (y:=0) (by omega)) ay) ⟨Z,Z⟩
   ·
    refine Wg Z Z (aw Z ff Z)<|Wg Z Z (aw Z cx Z)<|Wg Z Z (af (p:=kC.is ((rq r).1)) Z (ag 0 Z) (am (am (aC Li))) ae Z)<|Wg Z Z (aB dg (ai Z (aL (hr.a.sm (by decide))) ao) (db ((rq r).1)))<|Wg Z Z (aW Z Z)<|Ws (cg Z Z)<|Wn ?_
    refine CN Z (by omega) fun h_t40=>?_
    refine Ck<|ab<|Cr<|Ws (aw Z dm Z)<|Ws (af (p:=kGso.is (gDs (G) n,gLs (G) n)) Z (ag 0 Z) (aC Li) bm Z)<|Ws (aB fn68 (ai Z (ah (y:=(gDs G n,gLs G n)) (by rfl)) (ai Z (ah (y:=(0:Int)) (by rfl)) ao)) (gF G n 2300000 hP.n0 hP.n12 hP.p hP.d (by decide) 0 (by omega) hP.s))<|Wm Z<|Ws (aN Z Z)<|Ws (aN Z Z)<|Ax (l:=kRC) (u:=rq (frS G 0)) ba Z aj (fun _=>Z) Lr fun b4=>Wa Z<|Wr<|Wm Z<|Ws (bG Z Z)<|Wn ?_
    refine CN Z (fun h=>h Z) fun h_t48=>?_
    refine Ck<|ab<|Cr<|Ws (aw Z dY Z)<|Ws (af (p:=(kSl kRC).is (tcL c n)) Z (ag 1 Z) (am (aC Li)) bM Z)<|Ws (aK Z U26)<|Wm Z<|Wn<|aF<|tl 51 Z (y:=(n:Int)) (by rw [hTl])<|bi (bj [1] (by decide) Z)<|bL (fun (i:Nat)=>i≤n) (fun (i:Nat)=>[(1,VP.pt b1 0),(50,(kSl kRC).is (tcL c n)),(51,kN6.is (n:Int)),(52,kN6.is (i:Int))]) (fun (i:Nat)=>[OB.box b1 33 kTre ((gDs (G) n,gLs (G) n),tcL c n,(rq r))]) (fun (i:Nat)=>n-i) 0 (Nat.zero_le _) (ac Z (ac Z (ac Z (az Z (ah (y:=(0:Int)) (by rfl)) ar)))) (aH _) ?_
    intro i hi
    refine Cr<|Ws (aW Z Z)<|Wn<|ab ?_
    refine aM Z (fun h_t53=>?_)<|fun h_t53=>?_
    ·
     refine Ck<|ab<|aF<|Cr<|Ws (aU i Z Z U26 aj Z (v:=(rq (c i))) (fi (by omega)))<|Ws (aQ Z aj)<|Ax (l:=kRC) (u:=(rq (c i))) ba Z aj (fun _=>Z) Lr fun b5=>Wr<|Ws (aw Z bX Z)<|Ws (af Z (ag 0 Z) (am Li) ae Z)<|Ws (aB dg (ai Z (aL ((hP.c i (by omega)).b.sm (by decide))) ao) (db ((rq (c i)).2)))<|Ws (dN Z Z)<|Wn ?_
     refine CN Z (by have h1:=rq_den_pos (c i);have:=Int.sign_eq_one_of_pos h1;omega) fun h_t59=>?_
     refine cB<|Qb<|ak<|Ws (aS Z Z (c:=((i:Int)+1)) (aG (by omega)))<|Wm Z<|au<|bi (bj [1] (by decide) Z) ?_
     exact bF (i+1) (by omega) (by omega) (ac Z (ac Z (ac Z (az Z (ah (y:=(((i+1):Nat):Int)) (by rfl)) ar))))<|aH _
    ·
     refine Ex<|Cr<|Wa Z<|Wn<|aA ?_
     exact Qd Z (aI Z ay) ⟨Z,Z⟩
theorem c_tree_aim (G:Nat→Nat→Int) (n:Nat) (c:Nat→Rat) (r:Rat) (hP:TZ G n c) (hr:RZ 21000000000 r) (hr0:0≤(rq r).1) (i:Nat) (hi:i<n):Fn Tryz.prog 265 [kTre.is ((gDs (G) n,gLs (G) n),tcL c n,(rq r)),kN6.is (i:Int)] (kRC.is (rq (c i))):=by
 refine aO Tryz.func265 Z Z fun m w=>?_
 have hn0:=hP.n0
 have hn12:=hP.n12
 have hTl:=tcL_len c n
 have hLl:=gLs_len G n
 refine Cr<|aY .n Z fun b1=>aX .n ba fun b2=>Wn<|ab<|Cr<|Ws (aw Z dY Z)<|Ws (af (p:=(kSl kRC).is (tcL c n)) Z (ag 1 Z) (am (aC Li)) bM Z)<|Ws (aK Z U26)<|Ws (cE Z Z)<|Wn ?_
 refine CN Z (by omega) fun h_t8=>?_
 refine Ck<|Cr<|Ws (aw Z dY Z)<|Ws (af (p:=(kSl kRC).is (tcL c n)) Z (ag 1 Z) (am (aC Li)) bM Z)<|Wm Z<|Ws (aU i Z Z U26 aj Z (v:=(rq (c i))) (fi (by omega)))<|Ws (aQ Z aj)<|aE .n (aD (l:=kRC) (u:=(rq (c i))) 0 Z Z Z aj Z Lr)<|Wn<|aA ?_
 exact Qd Z (aZ Z (ag 0 Z) aj ay) ⟨Z,Z⟩
abbrev gD:=@c_tree_aim
theorem c_tree_centre (G:Nat→Nat→Int) (n:Nat) (c:Nat→Rat) (r:Rat) (hP:TZ G n c) (hr:RZ 21000000000 r) (hr0:0≤(rq r).1) (s:List Int) (hs:SzL 30000000 s) (hl:s.length<n):Fn Tryz.prog 237 [kTre.is ((gDs (G) n,gLs (G) n),tcL c n,(rq r)),kVC.is s] (kRC.is (rq (cenQ G n c (sfx s) (n-1-s.length) s.length))):=by
 refine aO Tryz.func237 Z Z fun m w=>?_
 have hn0:=hP.n0
 have hn12:=hP.n12
 have hTl:=tcL_len c n
 have hLl:=gLs_len G n
 refine Cr<|aY .n Z fun b1=>aX .n ba fun b2=>Wr<|Ws (aw Z dm Z)<|Ws (aw Z cm Z)<|Ws (af (p:=kMC.is (gLs (G) n)) Z (ag 1 Z) (aC (am Li)) bg Z)<|Ws (aK Z U22)<|Wa Z<|Wn<|ab<|tl 5 Z (y:=(n:Int)) (by rw [hLl])<|ak<|Wm Z<|Ws (bf Z Z (c:=((n:Int)-1)) (aG (by omega)))<|Wm Z<|Ws (aK Z U23)<|Ws (bf Z Z (c:=(((n:Int)-1)-(s.length:Int))) (aG (by omega)))<|Wa Z ?_
 refine Wn<|ab<|tl 6 Z (y:=((n-1-s.length:Nat):Int)) (by omega)<|ak<|Ws (af (p:=kTre.is ((gDs (G) n,gLs (G) n),tcL c n,(rq r))) Z (ag 1 Z) Li cH Z)<|Wm Z<|Ws (aB fn265 (aP Z (ai Z (ah (y:=(((n-1-s.length):Nat):Int)) (by rfl)) ao)) (gD G n c r hP hr hr0 (n-1-s.length) (by omega)))<|Ws (aB eD (ai Z (cF (by omega)) ao) (eo 0))<|Ws (aB eE (ai Z (aL (Sm_lit (by decide))) ao) (es 0))<|Ws (aB fn135 (aP Z (ai Z (ah (y:=rq ((0:Int):Rat)) (by rfl)) ao)) (gJ 28000000 (c (n-1-s.length)) ((0:Int):Rat) (hP.c _ (by omega)) (RZ0.up (by decide)) (by decide)))<|Wm Z<|Ws (aN Z Z)<|Ws (aN Z Z)<|Ax (l:=kRC) (u:=rq ((c (n-1-s.length))+((0:Int):Rat))) ba Z aj (fun _=>Z) Lr fun b3=>Wa Z<|Wn<|ab<|Cr<|Wm Z<|Ws (aK Z U23) ?_
 refine Wm Z<|Wn<|aF<|tb 0 Z (y:=(rq (cenQ G n c (sfx s) (n-1-s.length) 0))) (by rw [cen_0 G n c (sfx s)])<|bL (fun (k:Nat)=>k≤s.length) (fun (k:Nat)=>[(1,kVC.is s),(2,VP.pt b1 0),(4,VP.pt b2 0),(5,kN6.is (n:Int)),(6,kN6.is ((n-1-s.length:Nat):Int)),(7,VP.pt b3 0),(34,kN6.is (s.length:Int)),(35,kN6.is (k:Int))]) (fun (k:Nat)=>[OB.box b3 31 kRC (rq (cenQ G n c (sfx s) (n-1-s.length) k)),OB.box b2 31 kRC (0,0),OB.box b1 33 kTre ((gDs (G) n,gLs (G) n),tcL c n,(rq r))]) (fun (k:Nat)=>s.length-k) 0 (Nat.zero_le _) (aq Z Z Z Z (ac Z (ac Z (ac Z (az Z (ah (y:=(0:Int)) (by rfl)) ar))))) (aH _) ?_
 intro k hk
 refine Cr<|Ws (aW Z Z)<|Wn<|ab ?_
 refine aM Z (fun h_t36=>?_)<|fun h_t36=>?_
 ·
  refine Ck<|ab<|aF<|Cr<|Wm Z<|Wa Z<|Wr<|Wm Z<|Ws (bf Z Z (c:=((n:Int)-1)) (aG (by omega)))<|Wm Z<|Ws (bf Z Z (c:=(((n:Int)-1)-(k:Int))) (aG (by omega)))<|Wa Z<|Wn<|ab<|tl 10 Z (y:=((n-1-k:Nat):Int)) (by omega) ?_
  refine a5 (Γ:=[.fr (kVC.is s),.fr (kN6.is (k:Int)),.fr (VP.pim kC (s.getD k 0)),.fr (kC.is (s.getD k 0)),.fr (kRC.is (rq ((s.getD k 0):Rat))),.fr (kTre.is ((gDs (G) n,gLs (G) n),tcL c n,(rq r))),.fr (kN6.is ((n-1-k:Nat):Int)),.fr (kRC.is (rq (c (n-1-k)))),.fr (VP.tup [kRC.is (rq (((s.getD k 0:Int):Rat)-rv (((rq (c (n-1-k))).1),((rq (c (n-1-k))).2)))),kN6.is 0]),.fr (VP.tup [kRC.is (rq (((s.getD k 0:Int):Rat)-rv (((rq (c (n-1-k))).1),((rq (c (n-1-k))).2)))),kN6.is 0]),.fr (kRC.is (rq (((s.getD k 0:Int):Rat)-rv (((rq (c (n-1-k))).1),((rq (c (n-1-k))).2))))),.lt (kN6.is 0),.al (fun b=>OB.box b 31 kRC (0,0))]) (om Z Z (om Z Z (aa Z (fun N=>aU k Z Z U23 ae Z (v:=(s.getD k 0)) (gd 0 (by omega))) (aa Z (fun N=>aQ Z ae) (aa Z (fun N=>aB eE (ai Z (aL ((hs k).sm (by decide))) ao) (es (s.getD k 0))) (aa Z (fun N=>af (p:=kTre.is ((gDs (G) n,gLs (G) n),tcL c n,(rq r))) Z (mN N 2 Z) Li cH Z) (om Z Z (aa Z (fun N=>aB fn265 (aP Z (ai Z (ah (y:=(((n-1-k):Nat):Int)) (by rfl)) ao)) (gD G n c r hP hr hr0 (n-1-k) (by omega))) (aa Z (fun N=>aB fn194 (ai Z (ah (y:=rq ((s.getD k 0:Int):Rat)) (by rfl)) (ai Z (dO (eZ ((hP.c (n-1-k) (by omega)).a.sm (by decide)) ((hP.c (n-1-k) (by omega)).b.sm (by decide))) (ah (by rfl))) ao)) (fE 30000001 ((s.getD k 0:Int):Rat) ((rq (c (n-1-k))).1) ((rq (c (n-1-k))).2) (cU hs k) (((hP.c (n-1-k) (by omega)).up (by decide)).a) (((hP.c (n-1-k) (by omega)).up (by decide)).b) (eR _) (by decide))) (om Z Z (aa Z (fun N=>aN Z Z) (oc (c7 Z .n (dw Z Z)) (oc (cM Z ba) oz)))))))))))))<|fun σ1=>?_
  refine aE .n (aD (l:=kRC) (u:=rq (((s.getD k 0:Int):Rat)-rv (((rq (c (n-1-k))).1),((rq (c (n-1-k))).2)))) 0 Z Z Z aj Z Lr)<|Wa Z<|Wr<|Ws (aw Z dm Z)<|Ws (af (p:=kGso.is (gDs (G) n,gLs (G) n)) Z (ag 3 Z) (aC Li) bm Z)<|Wm Z<|Wm Z<|Ws (aB fn143 (ai Z (ah (y:=(gDs G n,gLs G n)) (by rfl)) (ai Z (ah (y:=(((n-1-k):Nat):Int)) (by rfl)) (ai Z (ah (y:=(((n-1-s.length):Nat):Int)) (by rfl)) ao))) (c_gso_Mu G n 2300000 hP.n0 hP.n12 hP.p hP.d (by decide) (n-1-k) (n-1-s.length) (by omega) (by omega) hP.s hP.l))<|Wm Z<|Ws (aN Z Z)<|Ws (aN Z Z)<|Ax (l:=kRC) (u:=rq (frM G (n-1-k) (n-1-s.length))) ba Z aj (fun _=>Z) Lr fun b4=>Wa Z<|Wn<|ab<|tb 1 Z (y:=(rq (sfx s k-c (n-1-k)))) (by rw [sub_rv];rfl)<|ak<|Ws (af Z (ag 1 Z) Li aj Z)<|Ws (af Z (ag 0 Z) Li aj Z) ?_
  refine Ws (f2 fn221 Z Z (ga 58000002 (sfx s k-c (n-1-k)) (frM G (n-1-k) (n-1-s.length)) ((cU hs k).sub2 (hP.c (n-1-k) (by omega))) ((hP.m (n-1-k) (n-1-s.length) (by omega) (by omega)).up (by decide)) (by decide)))<|Wm Z<|Ws (aN Z Z)<|Ws (aN Z Z)<|aE .n (aD (l:=kRC) (u:=rq ((sfx s k-c (n-1-k))*(frM G (n-1-k) (n-1-s.length)))) 1 Z Z Z aj Z Lr)<|Wn<|ak<|Ws (af Z (ag 2 Z) Li aj Z)<|Ws (af Z (ag 1 Z) Li aj Z)<|Ws (aB fn194 (aP Z (ai Z (dO (eZ (((((cU hs k).sub2 (hP.c (n-1-k) (by omega))).mul (hP.m (n-1-k) (n-1-s.length) (by omega) (by omega))).a.sm (by decide))) (((((cU hs k).sub2 (hP.c (n-1-k) (by omega))).mul (hP.m (n-1-k) (n-1-s.length) (by omega) (by omega))).b.sm (by decide)))) (ah (by rfl))) ao)) (fE 800000000 (cenQ G n c (sfx s) (n-1-s.length) k) ((rq ((sfx s k-c (n-1-k))*frM G (n-1-k) (n-1-s.length))).1) ((rq ((sfx s k-c (n-1-k))*frM G (n-1-k) (n-1-s.length))).2) (hP.cen (fun t _=>cU hs t) (by omega)) (((((cU hs k).sub2 (hP.c (n-1-k) (by omega))).mul (hP.m (n-1-k) (n-1-s.length) (by omega) (by omega))).up (by decide)).a) (((((cU hs k).sub2 (hP.c (n-1-k) (by omega))).mul (hP.m (n-1-k) (n-1-s.length) (by omega) (by omega))).up (by decide)).b) (eR _) (by decide)))<|Wm Z<|Ws (aN Z Z)<|Ws (aN Z Z)<|aE .n (aD (l:=kRC) (u:=rq ((cenQ G n c (sfx s) (n-1-s.length) k)-rv (((rq ((sfx s k-c (n-1-k))*frM G (n-1-k) (n-1-s.length))).1),((rq ((sfx s k-c (n-1-k))*frM G (n-1-k) (n-1-s.length))).2)))) 2 Z Z Z aj Z Lr)<|au<|Qb<|ak<|Ws (aS Z Z (c:=((k:Int)+1)) (aG (by omega)))<|Wm Z<|au<|bi (bj [2,3,4] (by decide) Z)<|tb 0 Z (y:=(rq (cenQ G n c (sfx s) (n-1-s.length) (k+1)))) (by rw [sub_rv,cen_s]) ?_
  exact bF (k+1) (by omega) (by omega) (aq Z Z Z Z (ac Z (ac Z (ac Z (az Z (ah (y:=(((k+1):Nat):Int)) (by rfl)) ar)))))<|aH _
 ·
  refine Ex<|Cr<|Ws (af Z (ag 0 Z) Li aj Z)<|aE .n (aD (l:=kRC) (u:=(rq (cenQ G n c (sfx s) (n-1-s.length) k))) 1 Z Z Z aj Z Lr)<|Wn<|aA<|tb 1 Z (y:=(rq (cenQ G n c (sfx s) (n-1-s.length) s.length))) (by rw [show k=s.length by omega]) ?_
  exact Qd Z (aZ Z (ag 1 Z) aj ay) ⟨Z,Z⟩
theorem c_tree_centreo (vs:Value) (G:Nat→Nat→Int) (n:Nat) (c:Nat→Rat) (r:Rat) (hP:TZ G n c) (hr:RZ 21000000000 r) (hr0:0≤(rq r).1) (s:List Int) (hs:SzL 30000000 s) (hl:s.length<n):Con Tryz.prog 237 [kTre.is ((gDs (G) n,gLs (G) n),tcL c n,(rq r)),VP.ex vs] [OB.row vs 29 kC s] (fun p Lo=>p=kRC.is (rq (cenQ G n c (sfx s) (n-1-s.length) s.length))∧Lo=[OB.row vs 29 kC s]∧True):=by
 refine aO Tryz.func237 Z Z fun m w=>?_
 have hn0:=hP.n0
 have hn12:=hP.n12
 have hTl:=tcL_len c n
 have hLl:=gLs_len G n
 refine Cr<|aY .n Z fun b1=>aX .n ba fun b2=>Wr<|Ws (aw Z dm Z)<|Ws (aw Z cm Z)<|Ws (af (p:=kMC.is (gLs (G) n)) Z (ag 1 Z) (aC (am Li)) bg Z)<|Ws (aK Z U22)<|Wa Z<|Wn<|ab<|tl 5 Z (y:=(n:Int)) (by rw [hLl])<|ak<|Wm Z<|Ws (bf Z Z (c:=((n:Int)-1)) (aG (by omega)))<|Wm Z<|Ws (c5 Z (ag 2 Z) U23)<|Ws (bf Z Z (c:=(((n:Int)-1)-(s.length:Int))) (aG (by omega)))<|Wa Z ?_
 refine Wn<|ab<|tl 6 Z (y:=((n-1-s.length:Nat):Int)) (by omega)<|ak<|Ws (af (p:=kTre.is ((gDs (G) n,gLs (G) n),tcL c n,(rq r))) Z (ag 1 Z) Li cH Z)<|Wm Z<|Ws (aB fn265 (aP Z (ai Z (ah (y:=(((n-1-s.length):Nat):Int)) (by rfl)) ao)) (gD G n c r hP hr hr0 (n-1-s.length) (by omega)))<|Ws (aB eD (ai Z (cF (by omega)) ao) (eo 0))<|Ws (aB eE (ai Z (aL (Sm_lit (by decide))) ao) (es 0))<|Ws (aB fn135 (aP Z (ai Z (ah (y:=rq ((0:Int):Rat)) (by rfl)) ao)) (gJ 28000000 (c (n-1-s.length)) ((0:Int):Rat) (hP.c _ (by omega)) (RZ0.up (by decide)) (by decide)))<|Wm Z<|Ws (aN Z Z)<|Ws (aN Z Z)<|Ax (l:=kRC) (u:=rq ((c (n-1-s.length))+((0:Int):Rat))) ba Z aj (fun _=>Z) Lr fun b3=>Wa Z<|Wn<|ab<|Cr<|Wm Z<|Ws (c5 Z (ag 3 Z) U23) ?_
 refine Wm Z<|Wn<|aF<|tb 0 Z (y:=(rq (cenQ G n c (sfx s) (n-1-s.length) 0))) (by rw [cen_0 G n c (sfx s)])<|bL (fun (k:Nat)=>k≤s.length) (fun (k:Nat)=>[(1,VP.ex vs),(2,VP.pt b1 0),(4,VP.pt b2 0),(5,kN6.is (n:Int)),(6,kN6.is ((n-1-s.length:Nat):Int)),(7,VP.pt b3 0),(34,kN6.is (s.length:Int)),(35,kN6.is (k:Int))]) (fun (k:Nat)=>[OB.box b3 31 kRC (rq (cenQ G n c (sfx s) (n-1-s.length) k)),OB.box b2 31 kRC (0,0),OB.box b1 33 kTre ((gDs (G) n,gLs (G) n),tcL c n,(rq r)),OB.row vs 29 kC s]) (fun (k:Nat)=>s.length-k) 0 (Nat.zero_le _) (aq Z Z Z Z (ac Z (ac Z (ac Z (az Z (ah (y:=(0:Int)) (by rfl)) ar))))) (aH _) ?_
 intro k hk
 refine Cr<|Ws (aW Z Z)<|Wn<|ab ?_
 refine aM Z (fun h_t36=>?_)<|fun h_t36=>?_
 ·
  refine Ck<|ab<|aF<|Cr<|Wm Z<|Wa Z<|Wr<|Wm Z<|Ws (bf Z Z (c:=((n:Int)-1)) (aG (by omega)))<|Wm Z<|Ws (bf Z Z (c:=(((n:Int)-1)-(k:Int))) (aG (by omega)))<|Wa Z<|Wn<|ab<|tl 10 Z (y:=((n-1-k:Nat):Int)) (by omega) ?_
  refine a5 (Γ:=[.fr (VP.ex vs),.fr (kN6.is (k:Int)),.fr (VP.pel vs (k*2)),.fr (kC.is (s.getD k 0)),.fr (kRC.is (rq ((s.getD k 0):Rat))),.fr (kTre.is ((gDs (G) n,gLs (G) n),tcL c n,(rq r))),.fr (kN6.is ((n-1-k:Nat):Int)),.fr (kRC.is (rq (c (n-1-k)))),.fr (VP.tup [kRC.is (rq (((s.getD k 0:Int):Rat)-rv (((rq (c (n-1-k))).1),((rq (c (n-1-k))).2)))),kN6.is 0]),.fr (VP.tup [kRC.is (rq (((s.getD k 0:Int):Rat)-rv (((rq (c (n-1-k))).1),((rq (c (n-1-k))).2)))),kN6.is 0]),.fr (kRC.is (rq (((s.getD k 0:Int):Rat)-rv (((rq (c (n-1-k))).1),((rq (c (n-1-k))).2))))),.lt (kN6.is 0),.al (fun b=>OB.box b 31 kRC (0,0))]) (om Z Z (om Z Z (aa Z (fun N=>bb (k:=kC) (xs:=s) (n:=(k:Int)) k Z Z (mN N 3 Z) U23 ae Z (by omega)) (aa Z (fun N=>bq k Z (mN N 3 Z) Li Z (y:=(s.getD k 0)) (gd 0 (by omega)) ae Z) (aa Z (fun N=>aB eE (ai Z (aL ((hs k).sm (by decide))) ao) (es (s.getD k 0))) (aa Z (fun N=>af (p:=kTre.is ((gDs (G) n,gLs (G) n),tcL c n,(rq r))) Z (mN N 2 Z) Li cH Z) (om Z Z (aa Z (fun N=>aB fn265 (aP Z (ai Z (ah (y:=(((n-1-k):Nat):Int)) (by rfl)) ao)) (gD G n c r hP hr hr0 (n-1-k) (by omega))) (aa Z (fun N=>aB fn194 (ai Z (ah (y:=rq ((s.getD k 0:Int):Rat)) (by rfl)) (ai Z (dO (eZ ((hP.c (n-1-k) (by omega)).a.sm (by decide)) ((hP.c (n-1-k) (by omega)).b.sm (by decide))) (ah (by rfl))) ao)) (fE 30000001 ((s.getD k 0:Int):Rat) ((rq (c (n-1-k))).1) ((rq (c (n-1-k))).2) (cU hs k) (((hP.c (n-1-k) (by omega)).up (by decide)).a) (((hP.c (n-1-k) (by omega)).up (by decide)).b) (eR _) (by decide))) (om Z Z (aa Z (fun N=>aN Z Z) (oc (c7 Z .n (dw Z Z)) (oc (cM Z ba) oz)))))))))))))<|fun σ1=>?_
  refine aE .n (aD (l:=kRC) (u:=rq (((s.getD k 0:Int):Rat)-rv (((rq (c (n-1-k))).1),((rq (c (n-1-k))).2)))) 0 Z Z Z aj Z Lr)<|Wa Z<|Wr<|Ws (aw Z dm Z)<|Ws (af (p:=kGso.is (gDs (G) n,gLs (G) n)) Z (ag 3 Z) (aC Li) bm Z)<|Wm Z<|Wm Z<|Ws (aB fn143 (ai Z (ah (y:=(gDs G n,gLs G n)) (by rfl)) (ai Z (ah (y:=(((n-1-k):Nat):Int)) (by rfl)) (ai Z (ah (y:=(((n-1-s.length):Nat):Int)) (by rfl)) ao))) (c_gso_Mu G n 2300000 hP.n0 hP.n12 hP.p hP.d (by decide) (n-1-k) (n-1-s.length) (by omega) (by omega) hP.s hP.l))<|Wm Z<|Ws (aN Z Z)<|Ws (aN Z Z)<|Ax (l:=kRC) (u:=rq (frM G (n-1-k) (n-1-s.length))) ba Z aj (fun _=>Z) Lr fun b4=>Wa Z<|Wn<|ab<|tb 1 Z (y:=(rq (sfx s k-c (n-1-k)))) (by rw [sub_rv];rfl)<|ak<|Ws (af Z (ag 1 Z) Li aj Z)<|Ws (af Z (ag 0 Z) Li aj Z) ?_
  refine Ws (f2 fn221 Z Z (ga 58000002 (sfx s k-c (n-1-k)) (frM G (n-1-k) (n-1-s.length)) ((cU hs k).sub2 (hP.c (n-1-k) (by omega))) ((hP.m (n-1-k) (n-1-s.length) (by omega) (by omega)).up (by decide)) (by decide)))<|Wm Z<|Ws (aN Z Z)<|Ws (aN Z Z)<|aE .n (aD (l:=kRC) (u:=rq ((sfx s k-c (n-1-k))*(frM G (n-1-k) (n-1-s.length)))) 1 Z Z Z aj Z Lr)<|Wn<|ak<|Ws (af Z (ag 2 Z) Li aj Z)<|Ws (af Z (ag 1 Z) Li aj Z)<|Ws (aB fn194 (aP Z (ai Z (dO (eZ (((((cU hs k).sub2 (hP.c (n-1-k) (by omega))).mul (hP.m (n-1-k) (n-1-s.length) (by omega) (by omega))).a.sm (by decide))) (((((cU hs k).sub2 (hP.c (n-1-k) (by omega))).mul (hP.m (n-1-k) (n-1-s.length) (by omega) (by omega))).b.sm (by decide)))) (ah (by rfl))) ao)) (fE 800000000 (cenQ G n c (sfx s) (n-1-s.length) k) ((rq ((sfx s k-c (n-1-k))*frM G (n-1-k) (n-1-s.length))).1) ((rq ((sfx s k-c (n-1-k))*frM G (n-1-k) (n-1-s.length))).2) (hP.cen (fun t _=>cU hs t) (by omega)) (((((cU hs k).sub2 (hP.c (n-1-k) (by omega))).mul (hP.m (n-1-k) (n-1-s.length) (by omega) (by omega))).up (by decide)).a) (((((cU hs k).sub2 (hP.c (n-1-k) (by omega))).mul (hP.m (n-1-k) (n-1-s.length) (by omega) (by omega))).up (by decide)).b) (eR _) (by decide)))<|Wm Z<|Ws (aN Z Z)<|Ws (aN Z Z)<|aE .n (aD (l:=kRC) (u:=rq ((cenQ G n c (sfx s) (n-1-s.length) k)-rv (((rq ((sfx s k-c (n-1-k))*frM G (n-1-k) (n-1-s.length))).1),((rq ((sfx s k-c (n-1-k))*frM G (n-1-k) (n-1-s.length))).2)))) 2 Z Z Z aj Z Lr)<|au<|Qb<|ak<|Ws (aS Z Z (c:=((k:Int)+1)) (aG (by omega)))<|Wm Z<|au<|bi (bj [2,3,4,5] (by decide) Z)<|tb 0 Z (y:=(rq (cenQ G n c (sfx s) (n-1-s.length) (k+1)))) (by rw [sub_rv,cen_s]) ?_
  exact bF (k+1) (by omega) (by omega) (aq Z Z Z Z (ac Z (ac Z (ac Z (az Z (ah (y:=(((k+1):Nat):Int)) (by rfl)) ar)))))<|aH _
 ·
  refine Ex<|Cr<|Ws (af Z (ag 0 Z) Li aj Z)<|aE .n (aD (l:=kRC) (u:=(rq (cenQ G n c (sfx s) (n-1-s.length) k))) 1 Z Z Z aj Z Lr)<|Wn<|aA<|tb 1 Z (y:=(rq (cenQ G n c (sfx s) (n-1-s.length) s.length))) (by rw [show k=s.length by omega]) ?_
  exact bZ (.inl Z) Z (aZ Z (ag 1 Z) aj ay) (a6 (OS.skip (OS.skip (OS.skip (OS.keep OS.nil))))) ⟨Z,Z,trivial⟩
theorem c_tree_grown (G:Nat→Nat→Int) (n:Nat) (c:Nat→Rat) (r:Rat) (hP:TZ G n c) (hr:RZ 21000000000 r) (hr0:0≤(rq r).1) (pt cc:Rat) (k:Nat) (x:Int) (hp:RZ 21000000000 pt) (hc:RZ 800000000 cc) (hx:Sz 30000000 x) (hk:k<n):Fn Tryz.prog 263 [kTre.is ((gDs (G) n,gLs (G) n),tcL c n,(rq r)),kRC.is (rq pt),kRC.is (rq cc),kN6.is (k:Int),kC.is x] (kRC.is (rq (pt+((x:Rat)-cc)*((x:Rat)-cc)*frS G (n-1-k)))):=by
 refine aO Tryz.func263 Z Z fun m w=>?_
 have hn0:=hP.n0
 have hn12:=hP.n12
 have hTl:=tcL_len c n
 have hLl:=gLs_len G n
 have hxq:RZ 30000001 (x:Rat):=RZ.int (hx.up (by decide))
 have hd:=hxq.sub2 hc
 refine Cr<|aY .n Z fun b1=>aY .n Z fun b2=>aY .n Z fun b3=>aY .n Z fun b4=>aX .n ba fun b5=>Wn<|ab ?_
 refine a5 (Γ:=[.fr (kC.is x),.fr (kRC.is (rq (x:Rat))),.fr (kRC.is (rq cc)),.fr (VP.tup [kRC.is (rq ((x:Rat)-rv (((rq cc).1),((rq cc).2)))),kN6.is 0]),.fr (VP.tup [kRC.is (rq ((x:Rat)-rv (((rq cc).1),((rq cc).2)))),kN6.is 0]),.fr (kRC.is (rq ((x:Rat)-rv (((rq cc).1),((rq cc).2))))),.lt (kN6.is 0),.al (fun b=>OB.box b 31 kRC (0,0))]) (aa Z (fun N=>af Z (mN N 1 Z) Li ae Z) (aa Z (fun N=>aB eE (ai Z (aL (hx.sm (by decide))) ao) (es x)) (aa Z (fun N=>af Z (mN N 2 Z) Li aj Z) (aa Z (fun N=>aB fn194 (aP Z (ai Z (dO (eZ (hc.a.sm (by decide)) (hc.b.sm (by decide))) (ah (by rfl))) ao)) (fE 800000000 (x:Rat) ((rq cc).1) ((rq cc).2) (hxq.up (by decide)) hc.a hc.b (eR _) (by decide))) (om Z Z (aa Z (fun N=>aN Z Z) (oc (c7 Z .n (dw Z Z)) (oc (cM Z ba) oz))))))))<|fun σ1=>?_
 refine aE .n (aD (l:=kRC) (u:=rq ((x:Rat)-rv (((rq cc).1),((rq cc).2)))) 0 Z Z Z aj Z Lr)<|Wa Z<|Wn<|ab<|tb 0 Z (y:=(rq ((x:Rat)-cc))) (by rw [sub_rv])<|ak<|Ws (af Z (ag 0 Z) Li aj Z)<|Ws (af Z (ag 0 Z) Li aj Z)<|Ws (f2 fn221 Z Z (ga 830000002 ((x:Rat)-cc) ((x:Rat)-cc) hd hd (by decide)))<|Wm Z<|Ws (aN Z Z)<|Ws (aN Z Z)<|aE .n (aD (l:=kRC) (u:=rq (((x:Rat)-cc)*((x:Rat)-cc))) 0 Z Z Z aj Z Lr)<|Wr<|Ws (aw Z dm Z)<|Ws (af (p:=kGso.is (gDs (G) n,gLs (G) n)) Z (ag 5 Z) (aC Li) bm Z)<|Ws (aw Z dm Z)<|Ws (aw Z cm Z)<|Ws (af (p:=kMC.is (gLs (G) n)) Z (ag 5 Z) (aC (am Li)) bg Z)<|Ws (aK Z U22) ?_
 refine Ws (bf Z Z (c:=(((gLs (G) n).length:Int)-1)) (aG (by omega)))<|Wm Z<|Ws (bf Z Z (c:=((((gLs (G) n).length:Int)-1)-(k:Int))) (aG (by omega)))<|Ws (aB fn68 (ai Z (ah (y:=(gDs G n,gLs G n)) (by rfl)) (ai Z (ah (y:=(((n-1-k):Nat):Int)) (by omega)) ao)) (gF G n 2300000 hP.n0 hP.n12 hP.p hP.d (by decide) (n-1-k) (by omega) hP.s))<|Wm Z<|Ws (aN Z Z)<|Ws (aN Z Z)<|Ax (l:=kRC) (u:=rq (frS G (n-1-k))) ba Z aj (fun _=>Z) Lr fun b6=>Wa Z<|Wr<|Ws (af Z (ag 1 Z) Li aj Z)<|Ws (af Z (ag 0 Z) Li aj Z)<|Ws (f2 fn221 Z Z (ga 1660000004 (((x:Rat)-cc)*((x:Rat)-cc)) (frS G (n-1-k)) (hd.mul hd) ((hP.f (n-1-k) (by omega)).up (by decide)) (by decide)))<|Wm Z<|Ws (aN Z Z)<|Ws (aN Z Z)<|aE .n (aD (l:=kRC) (u:=rq ((((x:Rat)-cc)*((x:Rat)-cc))*(frS G (n-1-k)))) 1 Z Z Z aj Z Lr)<|Wn<|ab ?_
 refine ak<|Ws (af Z (ag 5 Z) Li aj Z)<|Ws (af Z (ag 1 Z) Li aj Z)<|Ws (aB fn135 (aP Z (ai Z (ah (y:=rq (((x:Rat)-cc)*((x:Rat)-cc)*frS G (n-1-k))) (by rfl)) ao)) (gJ 21000000000 pt (((x:Rat)-cc)*((x:Rat)-cc)*frS G (n-1-k)) hp (((hd.mul hd).mul (hP.f (n-1-k) (by omega))).up (by decide)) (by decide)))<|Wm Z<|Ws (aN Z Z)<|Ws (aN Z Z)<|Ax (l:=kRC) (u:=rq (pt+(((x:Rat)-cc)*((x:Rat)-cc)*frS G (n-1-k)))) ba Z aj (fun _=>Z) Lr fun b7=>Wa Z<|Wr<|Ws (af Z (ag 0 Z) Li aj Z)<|aE .n (aD (l:=kRC) (u:=rq (pt+(((x:Rat)-cc)*((x:Rat)-cc)*frS G (n-1-k)))) 3 Z Z Z aj Z Lr)<|Wn<|aA ?_
 exact Qd Z (dy Z (ag 3 Z) aj (ah (y:=rq (pt+((x:Rat)-cc)*((x:Rat)-cc)*frS G (n-1-k))) (by rfl)) ay) ⟨Z,Z⟩
theorem c_tree_part (G:Nat→Nat→Int) (n:Nat) (c:Nat→Rat) (r:Rat) (hP:TZ G n c) (hr:RZ 21000000000 r) (hr0:0≤(rq r).1) (s:List Int) (hs:SzL 30000000 s) (hl:s.length≤n):Fn Tryz.prog 233 [kTre.is ((gDs (G) n,gLs (G) n),tcL c n,(rq r)),kVC.is s] (kRC.is (rq (parQ G n c (sfx s) s.length))):=by
 refine aO Tryz.func233 Z Z fun m w=>?_
 have hn0:=hP.n0
 have hn12:=hP.n12
 have hTl:=tcL_len c n
 have hLl:=gLs_len G n
 refine Cr<|aY .n Z fun b1=>aX .n ba fun b2=>Wr<|Ws (aB eD (ai Z (cF (by omega)) ao) (eo 0))<|Ws (aB eE (ai Z (aL (by exact Sm_lit (by decide))) ao) (es 0))<|Ax (l:=kRC) (u:=rq (0:Rat)) ba Z aj (fun _=>Z) Lr fun b3=>Wn<|ab<|Cr<|Wm Z<|Ws (aK Z U23)<|Wm Z<|Wn<|aF<|tb 0 Z (y:=(rq (parQ G n c (sfx s) 0))) Z ?_
 refine bL (fun (i:Nat)=>i≤s.length) (fun (i:Nat)=>[(1,kVC.is s),(2,VP.pt b1 0),(4,VP.pt b2 0),(5,VP.pt b3 0),(10,kN6.is (s.length:Int)),(11,kN6.is (i:Int))]) (fun (i:Nat)=>[OB.box b3 31 kRC (rq (parQ G n c (sfx s) i)),OB.box b2 31 kRC (0,0),OB.box b1 33 kTre ((gDs (G) n,gLs (G) n),tcL c n,(rq r))]) (fun (i:Nat)=>s.length-i) 0 (Nat.zero_le _) (aq Z Z Z Z (ac Z (az Z (ah (y:=(0:Int)) (by rfl)) ar))) (aH _) ?_
 intro i hi
 refine Cr<|Ws (aW Z Z)<|Wn<|ab ?_
 refine aM Z (fun h_t12=>?_)<|fun h_t12=>?_
 ·
  refine Ck<|ab<|aF<|Cr<|Wm Z<|Wa Z<|Wn ?_
  refine a5 (Γ:=[.fr (kTre.is ((gDs (G) n,gLs (G) n),tcL c n,(rq r))),.fr (kRC.is (rq (parQ G n c (sfx s) i))),.fr (kTre.is ((gDs (G) n,gLs (G) n),tcL c n,(rq r))),.fr (kVC.is s),.fr (kN6.is (i:Int)),.fr (kVC.is (s.take i)),.fr (kRC.is (rq (cenQ G n c (sfx (s.take i)) (n-1-(s.take i).length) (s.take i).length))),.fr (kN6.is (i:Int)),.fr (kVC.is s),.fr (kN6.is (i:Int)),.fr (VP.pim kC (s.getD i 0)),.fr (kC.is (s.getD i 0)),.fr (kRC.is (rq ((parQ G n c (sfx s) i)+(((s.getD i 0):Rat)-(cenQ G n c (sfx (s.take i)) (n-1-(s.take i).length) (s.take i).length))*(((s.getD i 0):Rat)-(cenQ G n c (sfx (s.take i)) (n-1-(s.take i).length) (s.take i).length))*frS G (n-1-i))))]) (aa Z (fun N=>af (p:=kTre.is ((gDs (G) n,gLs (G) n),tcL c n,(rq r))) Z (mN N 2 Z) Li cH Z) (aa Z (fun N=>af Z (mN N 0 Z) Li aj Z) (aa Z (fun N=>af (p:=kTre.is ((gDs (G) n,gLs (G) n),tcL c n,(rq r))) Z (mN N 2 Z) Li cH Z) (om Z Z (om Z Z (aa Z (fun N=>O.slH i Z Z U23 ae Z (by omega)) (aa Z (fun N=>f2 fn237 Z Z (c_tree_centre G n c r hP hr hr0 (s.take i) (hs.take i) (by simp;omega))) (om Z Z (om Z Z (om Z Z (aa Z (fun N=>aU i Z Z U23 ae Z (v:=(s.getD i 0)) (gd 0 (by omega))) (aa Z (fun N=>aQ Z ae) (aa Z (fun N=>aB fn263 (aP Z (aP Z (aP Z (aP Z (aP Z ao))))) (c_tree_grown G n c r hP hr hr0 (parQ G n c (sfx s) i) (cenQ G n c (sfx (s.take i)) (n-1-(s.take i).length) (s.take i).length) i (s.getD i 0) (hP.par (fun t _=>cU hs t) (by omega)) (hP.cen (fun t _=>cU (hs.take i) t) (by simp;omega)) (hs i) (by omega))) oz)))))))))))))<|fun σ1=>?_
  refine aE .n (aD (l:=kRC) (u:=rq ((parQ G n c (sfx s) i)+(((s.getD i 0):Rat)-(cenQ G n c (sfx (s.take i)) (n-1-(s.take i).length) (s.take i).length))*(((s.getD i 0):Rat)-(cenQ G n c (sfx (s.take i)) (n-1-(s.take i).length) (s.take i).length))*frS G (n-1-i))) 0 Z Z Z aj Z Lr)<|au<|Qb<|ak<|Ws (aS Z Z (c:=((i:Int)+1)) (aG (by omega)))<|Wm Z<|au<|bi (bj [0,1,2] (by decide) Z)<|tb 0 Z (y:=(rq (parQ G n c (sfx s) (i+1)))) (by rw [par_s (by omega)]) ?_
  exact bF (i+1) (by omega) (by omega) (aq Z Z Z Z (ac Z (az Z (ah (y:=(((i+1):Nat):Int)) (by rfl)) ar)))<|aH _
 ·
  refine Ex<|Cr<|Ws (af Z (ag 0 Z) Li aj Z)<|aE .n (aD (l:=kRC) (u:=(rq (parQ G n c (sfx s) i))) 1 Z Z Z aj Z Lr)<|Wn<|aA<|tb 1 Z (y:=(rq (parQ G n c (sfx s) s.length))) (by rw [show i=s.length by omega]) ?_
  exact Qd Z (aZ Z (ag 1 Z) aj ay) ⟨Z,Z⟩
theorem c_tree_fits (G:Nat→Nat→Int) (n:Nat) (c:Nat→Rat) (r:Rat) (hP:TZ G n c) (hr:RZ 21000000000 r) (hr0:0≤(rq r).1) (s:List Int) (k:Nat) (hk:s.length≤k):Fn Tryz.prog 232 [kTre.is ((gDs (G) n,gLs (G) n),tcL c n,(rq r)),kVC.is s,kN6.is (k:Int)] (kN6.is 0):=by
 refine aO Tryz.func232 Z Z fun m w=>Cr<|aY .n Z fun b1=>Wa Z<|Wn<|ab<|Cr<|Ws (af (p:=kTre.is ((gDs (G) n,gLs (G) n),tcL c n,(rq r))) Z (ag 0 Z) Li cH Z)<|Ws (f1 fn262 Z (c_tree_Valid G n c r (by assumption) (by assumption) (by assumption)))<|Wa Z<|Wr<|Wm Z<|Ws (bG Z Z)<|Wn ?_
 refine CN Z (fun h=>h Z) fun h_t11=>?_
 refine Ck<|ab<|Cr<|Wm Z<|Ws (aK Z U23)<|Wm Z<|Ws (cz Z Z)<|Wn ?_
 refine CN Z (by omega) fun h_t16=>?_
 refine Ck<|Cr<|Wa Z<|Wn<|aA ?_
 exact Qd Z (aI Z ay) ⟨Z,Z⟩
theorem c_tree_fitso (vs:Value) (G:Nat→Nat→Int) (n:Nat) (c:Nat→Rat) (r:Rat) (hP:TZ G n c) (hr:RZ 21000000000 r) (hr0:0≤(rq r).1) (s:List Int) (k:Nat) (hk:s.length≤k):Con Tryz.prog 232 [kTre.is ((gDs (G) n,gLs (G) n),tcL c n,(rq r)),VP.ex vs,kN6.is (k:Int)] [OB.row vs 29 kC s] (fun p Lo=>p=kN6.is 0∧Lo=[OB.row vs 29 kC s]∧True):=by
 refine aO Tryz.func232 Z Z fun m w=>Cr<|aY .n Z fun b1=>Wa Z<|Wn<|ab<|Cr<|Ws (af (p:=kTre.is ((gDs (G) n,gLs (G) n),tcL c n,(rq r))) Z (ag 0 Z) Li cH Z)<|Ws (f1 fn262 Z (c_tree_Valid G n c r (by assumption) (by assumption) (by assumption)))<|Wa Z<|Wr<|Wm Z<|Ws (bG Z Z)<|Wn ?_
 refine CN Z (fun h=>h Z) fun h_t11=>?_
 refine Ck<|ab<|Cr<|Wm Z<|Ws (c5 Z (ag 1 Z) U23)<|Wm Z<|Ws (cz Z Z)<|Wn ?_
 refine CN Z (by omega) fun h_t16=>?_
 refine Ck<|Cr<|Wa Z<|Wn<|aA ?_
 exact bZ (.inl Z) Z (aI Z ay) (a6 (OS.skip (OS.keep OS.nil))) ⟨Z,Z,trivial⟩
theorem c_tree_Part (G:Nat→Nat→Int) (n:Nat) (c:Nat→Rat) (r:Rat) (hP:TZ G n c) (hr:RZ 21000000000 r) (hr0:0≤(rq r).1) (s:List Int) (hs:SzL 30000000 s) (hl:s.length≤n):Fn Tryz.prog 169 [kTre.is ((gDs (G) n,gLs (G) n),tcL c n,(rq r)),kVC.is s] (VP.tup [kRC.is (rq (parQ G n c (sfx s) s.length)),kN6.is 0]):=by
 refine aO Tryz.func169 Z Z fun m w=>?_
 have hn0:=hP.n0
 have hn12:=hP.n12
 have hTl:=tcL_len c n
 have hLl:=gLs_len G n
 refine Cr<|aY .n Z fun b1=>aX .n ba fun b2=>Wa Z<|Wn<|ab<|Cr<|Ws (af (p:=kTre.is ((gDs (G) n,gLs (G) n),tcL c n,(rq r))) Z (ag 1 Z) Li cH Z)<|Wm Z<|Ws (aw Z dm Z)<|Ws (aw Z cm Z)<|Ws (af (p:=kMC.is (gLs (G) n)) Z (ag 1 Z) (aC (am Li)) bg Z)<|Ws (aK Z U22)<|Ws (aB fn232 (aP Z (aP Z (ai Z (ah (y:=(n:Int)) (by omega)) ao))) (c_tree_fits G n c r (by assumption) (by assumption) (by assumption) s n (by assumption)))<|Wa Z<|Wr<|Wm Z<|Ws (bG Z Z) ?_
 refine Wn ?_
 refine CN Z (fun h=>h Z) fun h_t15=>?_
 refine Ck<|Cr<|Ws (af (p:=kTre.is ((gDs (G) n,gLs (G) n),tcL c n,(rq r))) Z (ag 1 Z) Li cH Z)<|Wm Z<|Ws (f2 fn233 Z Z (c_tree_part G n c r (by assumption) (by assumption) (by assumption) s (by assumption) (by assumption)))<|aE .n (aD (l:=kRC) (u:=rq (parQ G n c (sfx s) s.length)) 0 Z Z Z aj Z Lr)<|Wa Z<|Wn<|aA ?_
 exact Qd Z (aZ Z (ag 0 Z) aj (aI Z ay)) ⟨Z,Z⟩
theorem c_tree_Centreo (vs:Value) (G:Nat→Nat→Int) (n:Nat) (c:Nat→Rat) (r:Rat) (hP:TZ G n c) (hr:RZ 21000000000 r) (hr0:0≤(rq r).1) (s:List Int) (hs:SzL 30000000 s) (hl:s.length<n):Con Tryz.prog 178 [kTre.is ((gDs (G) n,gLs (G) n),tcL c n,(rq r)),VP.ex vs] [OB.row vs 29 kC s] (fun p Lo=>p=VP.tup [kRC.is (rq (cenQ G n c (sfx s) (n-1-s.length) s.length)),kN6.is 0]∧Lo=[OB.row vs 29 kC s]∧True):=by
 refine aO Tryz.func178 Z Z fun m w=>?_
 have hn0:=hP.n0
 have hn12:=hP.n12
 have hTl:=tcL_len c n
 have hLl:=gLs_len G n
 refine Cr<|aY .n Z fun b1=>aX .n ba fun b2=>Wa Z<|Wn<|ab<|Cr<|Ws (af (p:=kTre.is ((gDs (G) n,gLs (G) n),tcL c n,(rq r))) Z (ag 1 Z) Li cH Z)<|Wm Z<|Ws (aw Z dm Z)<|Ws (aw Z cm Z)<|Ws (af (p:=kMC.is (gLs (G) n)) Z (ag 1 Z) (aC (am Li)) bg Z)<|Ws (aK Z U22)<|Ws (bf Z Z (c:=(((gLs (G) n).length:Int)-1)) (aG (by omega)))<|Ws (dM (b:=OB.row vs 29 kC s) (ag 2 Z) fn232 (aP Z (aP Z (ai Z (ah (y:=(((n-1):Nat):Int)) (by omega)) ao))) (c_tree_fitso vs G n c r (by assumption) (by assumption) (by assumption) s (n-1) (by omega)))<|Wa Z<|Wr<|Wm Z ?_
 refine Ws (bG Z Z)<|Wn ?_
 refine CN Z (fun h=>h Z) fun h_t16=>?_
 refine Ck<|Cr<|Ws (af (p:=kTre.is ((gDs (G) n,gLs (G) n),tcL c n,(rq r))) Z (ag 1 Z) Li cH Z)<|Wm Z<|Ws (dM (b:=OB.row vs 29 kC s) (ag 2 Z) fn237 (aP Z (aP Z ao)) (c_tree_centreo vs G n c r (by assumption) (by assumption) (by assumption) s (by assumption) (by assumption)))<|aE .n (aD (l:=kRC) (u:=rq (cenQ G n c (sfx s) (n-1-s.length) s.length)) 0 Z Z Z aj Z Lr)<|Wa Z<|Wn<|aA ?_
 exact bZ (.inl Z) Z (aZ Z (ag 0 Z) aj (aI Z ay)) (a6 (OS.skip (OS.skip (OS.keep OS.nil)))) ⟨Z,Z,trivial⟩
end Fw
namespace Fw
open Go
structure DistP (u:List Int) (t:List Rw):Prop where
  l:t.length=u.length
  d:∀i,i<t.length→0<(t.getD i (0,0)).2
  y:SzL 2147483648 u
  z:∀i,i<t.length→Sz 2147483648 (t.getD i (0,0)).1∧Sz 2147483648 (t.getD i (0,0)).2
  r:∀i,i<u.length→RZ 2147483649 (dfQ u t i)
  s:∀i,i≤u.length→RZ 60000000000 (sqQ (dfQ u t) i)
theorem distP_12 {u:List Int} {t:List Rw} (hl:t.length=u.length) (h12:u.length≤12) (hu:SzL 30000300 u) (hd:∀i,i<t.length→0<(t.getD i (0,0)).2) (hz:∀i,i<t.length→Sz 30000300 (t.getD i (0,0)).1∧Sz 30000300 (t.getD i (0,0)).2):DistP u t:=by
  have hR:∀i,i<u.length→RZ (30000300+30000300+1) (dfQ u t i):=fun i hi=>dfQ_RZ (by decide) hl hu hd hz hi
  exact ⟨hl,hd,fun i=>(hu i).up (by decide),fun i hi=>⟨(hz i hi).1.up (by decide),(hz i hi).2.up (by decide)⟩,fun i hi=>(hR i hi).up (by decide),fun i hi=>(sqQ_RZ hR i hi).up (Nat.le_trans (szQ_le (by omega)) (by decide))⟩
def rvI (s:List Int) (i:Nat):List Int:=(List.range s.length).map (fun k=>if k<i∨s.length-1-i<k then s.getD (s.length-1-k) 0 else s.getD k 0)
theorem rvI_len (s i):(rvI s i).length=s.length:=by simp [rvI]
theorem rvI_get {s:List Int} {i k:Nat} (hk:k<s.length):(rvI s i).getD k 0=if k<i∨s.length-1-i<k then s.getD (s.length-1-k) 0 else s.getD k 0:=by
  rw [gde _ _ (by rw [rvI_len];exact hk)];simp [rvI]
theorem list_eq {l r:List Int} (h:l.length=r.length) (hk:∀k,k<l.length→l.getD k 0=r.getD k 0):l=r:=by
  apply List.ext_getElem h
  intro k h1 h2
  have:=hk k h1
  rwa [gde _ _ h1,gde _ _ h2] at this
theorem rvI_0 (s):s=rvI s 0:=list_eq (by rw [rvI_len]) fun k hk=>by
  rw [rvI_get hk,if_neg (by omega)]
theorem getD_set {l:List Int} {i k:Nat} {y:Int} (h:i<l.length):(l.set i y).getD k 0=if i=k then y else l.getD k 0:=by
  rw [List.getD_eq_getElem?_getD,List.getElem?_set]
  by_cases e:i=k
  · subst e;simp [h]
  · simp [e]
theorem rvI_s {s:List Int} {i:Nat} (h:i<s.length-1-i):((rvI s i).set i ((rvI s i).getD (s.length-1-i) 0)).set (s.length-1-i) ((rvI s i).getD i 0)=rvI s (i+1):=list_eq (by simp [rvI_len]) fun k hk=>by
  simp [rvI_len] at hk
  rw [getD_set (by simp [rvI_len];omega),getD_set (by rw [rvI_len];omega),rvI_get hk,rvI_get (show i<s.length by omega),rvI_get (show s.length-1-i<s.length by omega),if_neg (show ¬(i<i∨s.length-1-i<i) by omega),if_neg (show ¬(s.length-1-i<i∨s.length-1-i<s.length-1-i) by omega),rvI_get hk]
  by_cases e1:s.length-1-i=k
  · rw [if_pos e1,if_pos (by omega),show s.length-1-k=i by omega]
  · rw [if_neg e1]
    by_cases e2:i=k
    · rw [if_pos e2,if_pos (by omega),e2]
    · rw [if_neg e2]
      by_cases e3:k<i∨s.length-1-i<k
      · rw [if_pos e3,if_pos (by omega)]
      · rw [if_neg e3,if_neg (by omega)]
theorem rvI_end {s:List Int} {i:Nat} (h:¬i<s.length-1-i):rvI s i=s.reverse:=list_eq (by simp [rvI_len]) fun k hk=>by
  rw [rvI_len] at hk
  rw [rvI_get hk,gde s.reverse _ (by simpa using hk),List.getElem_reverse]
  split
  · rw [gde _ _ (by omega)]
  · rw [gde _ _ hk];congr 1;omega
theorem SzL.rev {n:Nat} {s:List Int} (h:SzL n s):SzL n s.reverse:=fun i=>by
  by_cases e:i<s.length
  · rw [rev_at rfl e];exact h _
  · rw [getD_nil_of _ _ (by simp;omega)];exact Sz.zero _
theorem plD_P {b:List (List Int)} {t:List Rw} (hT:Tgt b t) {x:List Int} (hx:SzL 30000000 x) (hl:x.length=b.length):DistP (combA x (llB b)) t:=by
  have hZ:=basis_of hT.e
  have hR:=redB_of hZ
  have hcx:combOk x (llB b):=⟨rect_iff.2 hR.r.rl,by rw [hl,hR.len]⟩
  have hcl:(combA x (llB b)).length=t.length:=by rw [comb_len (comb_yes hcx).2,hR.r.row 0 hR.n0,hT.l]
  have h12:=hR.n
  have hlR:=hR.len
  refine distP_12 hcl.symm (by rw [hcl,hT.l];exact hZ.c 0) ((combA_Sz hx hR.z).up (by omega)) hT.d (fun i hi=>⟨(hT.z i hi).1.up (by decide),(hT.z i hi).2.up (by decide)⟩)
theorem plP_nn {b:List (List Int)} {t:List Rw} (hT:Tgt b t):0≤plP b t:=by
  have hP:=plC_TZ hT
  refine sumQ_nonneg fun x hx=>Rat.mul_nonneg ?_ (Rat.le_of_lt (frS_p hP.s hP.p (by omega)))
  generalize sfx (plS b t false) x-_=q
  exact sq_nonneg q
theorem rq_num_nn {q:Rat} (h:0≤q):0≤(rq q).1:=Rat.num_nonneg.2 h
abbrev gH:=@rq_num_nn
theorem plP_len {b:List (List Int)} {t:List Rw}:rq (plP b t)=rq (parQ (plG b) b.length (plC b t) (sfx (plS b t false)) (plS b t false).length):=by
  rw [plS_len];rfl
theorem plH_eq {b:List (List Int)} {t:List Rw} (hT:Tgt b t):rq (dstQ (combA (plS b t false).reverse (llB b)) t-rv ((rq (plP b t)).1,(rq (plP b t)).2))=rq (plH b t):=by
  rw [sub_rv,←hgt_ok hT (plS_len b t false)];rfl
noncomputable def disV (w:List Int) (t:List Rw):Int×Int:=if w.length≠t.length then (0,0) else if denB t t.length=true then rq (dstQ w t) else (0,0)
section
variable {w:List Int} {t:List Rw}
end
theorem rmk_self (p:Rat):rmk (rq p).1 (rq p).2=rq p:=by rw [rmk_rq (rq_den_ne p),rq_val]
theorem cen_00 (G:Fi) (n:Nat) (c s:Nat→Rat) (i:Nat):cenQ G n c s i 0=c i:=by
  show c i-0=c i
  grind
theorem rev_app {s:List Int} {n i:Nat} (hl:s.length=n) (h0:0<i) (hi:i≤n):s.reverse.take (n-i)++[s.getD (i-1) 0]=s.reverse.take (n-(i-1)):=by
  have h:s.reverse[n-i]?=some (s.getD (i-1) 0):=by
    rw [List.getElem?_eq_getElem (by simp;omega),List.getElem_reverse,gde _ _ (by omega)]
    congr 2;omega
  rw [take_app2 h,show n-(i-1)=n-i+1 by omega]
theorem bnd_ex {f:FuncId} {b:Nat}:VP.le (VP.bnd f [VP.pt b 0]) (VP.ex (.func (.func f) #[.pointer (some ⟨b,0,none⟩)] #[])):=by
  rintro m v ⟨vs,rfl,h⟩
  match vs,h with
  | [u],⟨h1,_⟩=>cases h1;rfl
theorem ex_bnd {f:FuncId} {b:Nat}:VP.le (VP.ex (.func (.func f) #[.pointer (some ⟨b,0,none⟩)] #[])) (VP.bnd f [VP.pt b 0]):=by
  rintro m v rfl
  exact ⟨[.pointer (some ⟨b,0,none⟩)],rfl,rfl,trivial⟩
theorem run_equalIn_sln {P:Program} {t e:TypeId} (hu:P.underlying t=some (.slice e)) (a:Addr) (n c:Nat) (w:World) (d:Nat):(Op.equalIn (d+1) t (.slice (some a) n c) (.slice none 0 0)).run P w = .ok false w:=by
  simp [Op.equalIn,run_underlying hu]
theorem run_equal_sln {P:Program} {t e:TypeId} (hu:P.underlying t=some (.slice e)) (a:Addr) (n c:Nat) (w:World):(Op.equal t (.slice (some a) n c) (.slice none 0 0)).run P w = .ok false w:=run_equalIn_sln hu a n c w 9999
section
variable {C:Ctx} {ρ:Env} {L:List OB} {dst:Option Tmp} {ty:TypeId} {pos:String} {after:Array Edge} {g:Option (Nat×Bool)}
theorem O.eqN {α:Type} {k:Kd α} {xs:List α} {x y:Operand} {T yt e:TypeId} (hx:ev ρ x=some ((kSl k).is xs)) (hy:ev ρ y=some (VP.ex (.slice none 0 0))) (hu:C.P.underlying T=some (.slice e)) (h0:0<xs.length):OpOk C ⟨dst,.binOp .eql T x y yt,ty,pos,after,g⟩ ρ L (kBool.is false) L:=OpOk.val fun m w f s t=>by
  obtain ⟨a,cap,h1,_,_,h4⟩:=Kd.is_sl (t.evl hx)
  rcases h4 with rfl | ⟨b',o,c,cells,rfl,_⟩
  · exact absurd h0 (by simp)
  · have h:=run_equal_sln hu ⟨b',o,none⟩ xs.length cap w
    refine ⟨.bool false,?_,bool_p ..⟩
    simp only [execOp,t.ex hy,h1];simp only [eqGuard,binOp];simp [h]
end
end Fw
namespace Fw
open Go Go.Proofs
theorem c_close_plane (n:Nat) (c:Rat) (hc:RZ n c) (k:Int) (hn:n≤68719476736):Fn Tryz.prog 167 [kRC.is (rq c),kN6.is k] (kC.is (nearQ c)):=by
 refine aO Tryz.func167 Z Z fun m w=>Cr<|aY .n Z fun b1=>aX .n bc fun b2=>Wr<|Ws (af Z (ag 1 Z) Li aj Z)<|Ws (f1 fn144 Z (c_rat_Near n c hc hn))<|Wm Z<|Ws (aN Z Z)<|Ws (aN Z Z)<|Ax (l:=kC) (u:=nearQ c) bc Z ae (fun _=>Z) Lr fun b3=>Wa Z<|Wr<|Ws (af Z (ag 0 Z) Li ae Z)<|aE .n (aD (l:=kC) (u:=nearQ c) 1 Z Z Z ae Z Lr)<|au ?_
 refine co<|aA ?_
 exact Qd Z (aZ Z (ag 1 Z) ae ay) ⟨Z,Z⟩
theorem c_close_rounded (pw:Nat) (b:List (List Int)) (t:List (Int×Int)) (hT:Tgt b t) (r:Rat) (hh:Int×Int) (q:Rat) (k:Nat) (hk:k<b.length):Con Tryz.prog 107 [VP.pt pw 0,kRC.is (rq q),kN6.is (k:Int)] [OB.box pw 141 (kPair kRed (kPair kTre (kPair kRC (kPair (kSl (kPair kZ kZ)) kVal)))) ((llB b,llU b,llV b,((llS b).length:Int)),((gDs (gram (llB b)) b.length,gLs (gram (llB b)) b.length),tcL (plC b t) b.length,(rq r)),hh,t,(.func (.func 107) #[.pointer (some ⟨pw,0,none⟩)] #[]))] (fun p Lo=>p=kC.is (nearQ (plC b t k))∧Lo=[OB.box pw 141 (kPair kRed (kPair kTre (kPair kRC (kPair (kSl (kPair kZ kZ)) kVal)))) ((llB b,llU b,llV b,((llS b).length:Int)),((gDs (gram (llB b)) b.length,gLs (gram (llB b)) b.length),tcL (plC b t) b.length,(rq r)),hh,t,(.func (.func 107) #[.pointer (some ⟨pw,0,none⟩)] #[]))]∧True):=by
 refine aO Tryz.func107 Z Z fun m w=>?_
 have hZ:=basis_of hT.e
 have hRB:=redB_of hZ
 have hP:=plC_TZ hT
 have hlR:=hRB.len
 have hn12:=hRB.n
 have hn0:=hRB.n0
 have htl:t.length≤12:=by rw [hT.l];exact hZ.c 0
 refine Cr<|aY .n Z fun b1=>aX .n bc fun b2=>Wr<|Wm Z<|Ws (cD Z)<|Ws (aw Z eL Z)<|Ws (aw Z dY Z)<|Ws (af (p:=(kSl kRC).is (tcL (plC b t) b.length)) Z (ag 2 Z) (am (aC (am (aC Li)))) bM Z)<|Wm Z<|Ws (aU k Z Z U26 aj Z (v:=(rq (plC b t k))) (fi (by omega)))<|Ws (aQ Z aj)<|Ws (f1 fn144 Z (c_rat_Near 28000000 (plC b t k) (hP.c k (by omega)) (by decide)))<|Wm Z<|Ws (aN Z Z)<|Ws (aN Z Z)<|Ax (l:=kC) (u:=nearQ (plC b t k)) bc Z ae (fun _=>Z) Lr fun b3=>Wa Z<|au ?_
 refine co<|Cr<|Ws (af Z (ag 0 Z) Li ae Z)<|aE .n (aD (l:=kC) (u:=nearQ (plC b t k)) 1 Z Z Z ae Z Lr)<|Wn<|aA ?_
 exact bZ (.inl Z) Z (aZ Z (ag 1 Z) ae ay) (a6 (OS.skip (OS.skip (OS.skip (OS.keep OS.nil))))) ⟨Z,Z,trivial⟩
theorem c_close_guess_plane (pw:Nat) (b:List (List Int)) (t:List (Int×Int)) (hT:Tgt b t) (r:Rat) (hr:RZ 21000000000 r) (hr0:0≤(rq r).1) (hh:Int×Int):Con Tryz.prog 106 [VP.pt pw 0] [OB.box pw 141 (kPair kRed (kPair kTre (kPair kRC (kPair (kSl (kPair kZ kZ)) kVal)))) ((llB b,llU b,llV b,((llS b).length:Int)),((gDs (gram (llB b)) b.length,gLs (gram (llB b)) b.length),tcL (plC b t) b.length,(rq r)),hh,t,(.func (.func 167) #[] #[]))] (fun p Lo=>p=kVC.is (plS b t false)∧Lo=[OB.box pw 141 (kPair kRed (kPair kTre (kPair kRC (kPair (kSl (kPair kZ kZ)) kVal)))) ((llB b,llU b,llV b,((llS b).length:Int)),((gDs (gram (llB b)) b.length,gLs (gram (llB b)) b.length),tcL (plC b t) b.length,(rq r)),hh,t,(.func (.func 167) #[] #[]))]∧True):=by
 refine aO Tryz.func106 Z Z fun m w=>?_
 have hZ:=basis_of hT.e
 have hRB:=redB_of hZ
 have hP:=plC_TZ hT
 have hlR:=hRB.len
 have hn12:=hRB.n
 have hn0:=hRB.n0
 have htl:t.length≤12:=by rw [hT.l];exact hZ.c 0
 have SzF:∀{k:Nat},k≤b.length→SzL 30000000 (gsL (plF (plG b) b.length (plC b t)) k):=fun h=>plF_sz hP h
 refine Cr<|Wa Z<|Wr<|Wa Z<|Wn<|ab<|Cr<|Wm Z<|Ws (cD Z)<|Ws (aw Z fu Z)<|Ws (aw Z eV Z)<|Ws (af (p:=kMC.is (llB b)) Z (ag 0 Z) (aC (aC Li)) bg Z)<|Ws (aK Z U22)<|Ws (bf Z Z (c:=(((llB b).length:Int)-1)) (aG (by omega)))<|Wa Z<|Wn<|aF ?_
 refine bQ 29 kC<|tl 4 Z (y:=((b.length:Int)-1)) (by rw [hlR])<|tr 0 Z (y:=(gsL (plF (plG b) b.length (plC b t)) (b.length-b.length))) (by rw [Nat.sub_self];rfl)<|bT (fun (i:Nat) (v:Value)=>i≤b.length) (fun (i:Nat) (v:Value)=>[(0,VP.pt pw 0),(3,VP.ex v),(4,kN6.is ((i:Int)-1))]) (fun (i:Nat) (v:Value)=>[OB.row v 29 kC (gsL (plF (plG b) b.length (plC b t)) (b.length-i)),OB.box pw 141 (kPair kRed (kPair kTre (kPair kRC (kPair (kSl (kPair kZ kZ)) kVal)))) ((llB b,llU b,llV b,((llS b).length:Int)),((gDs (gram (llB b)) b.length,gLs (gram (llB b)) b.length),tcL (plC b t) b.length,(rq r)),hh,t,(.func (.func 167) #[] #[]))]) (fun (i:Nat) (v:Value)=>i) b.length (.slice none 0 0) (Nat.le_refl _) (ac Z (ac Z (az Z (ah (y:=(((b.length:Nat):Int)-1)) (by rfl)) ar))) (aH _) ?_
 intro i v hi
 refine ab<|Cr<|Wm Z<|Ws (cZ Z Z)<|Wn ?_
 refine aM Z (fun h_t15=>?_)<|fun h_t15=>?_
 ·
  refine Ck<|ab<|aF<|ab<|tl 4 Z (y:=((i-1:Nat):Int)) (by omega)<|ak<|Wm Z<|Ws (cD Z)<|Ws (aw Z eL Z)<|Ws (af (p:=kTre.is ((gDs (gram (llB b)) b.length,gLs (gram (llB b)) b.length),tcL (plC b t) b.length,(rq r))) Z (ag 1 Z) (am (aC Li)) cH Z)<|Wm Z<|Ws (dM (b:=OB.row v 29 kC (gsL (plF (plG b) b.length (plC b t)) (b.length-i))) (ag 0 Z) fn178 (ai Z (ah (y:=((gDs ((plG b)) b.length,gLs ((plG b)) b.length),tcL (plC b t) b.length,(rq r))) (by rfl)) (aP Z ao)) (c_tree_Centreo v (plG b) b.length (plC b t) r hP hr hr0 (gsL (plF (plG b) b.length (plC b t)) (b.length-i)) (SzF (by omega)) (by rw [gsL_len];omega)))<|Wm Z<|Ws (aN Z Z)<|Ws (aN Z Z)<|Ax (l:=kRC) (u:=rq (cenQ (plG b) b.length (plC b t) (sfx (gsL (plF (plG b) b.length (plC b t)) (b.length-i))) (b.length-1-(gsL (plF (plG b) b.length (plC b t)) (b.length-i)).length) (gsL (plF (plG b) b.length (plC b t)) (b.length-i)).length)) ba Z aj (fun _=>Z) Lr fun b1=>Wa Z<|Wn ?_
  refine a5 (Γ:=[.lt (VP.ex v),.fr (VP.pt pw 0),.fr (VP.pt pw 0),.fr (VP.pt pw 16),.fr (VP.ex (.func (.func 167) #[] #[])),.fr (kRC.is (rq (cenQ (plG b) b.length (plC b t) (sfx (gsL (plF (plG b) b.length (plC b t)) (b.length-i))) (b.length-1-(gsL (plF (plG b) b.length (plC b t)) (b.length-i)).length) (gsL (plF (plG b) b.length (plC b t)) (b.length-i)).length))),.fr (kN6.is ((i-1:Nat):Int))]) (oc (c7 Z .n (dL Z)) (om Z Z (cf Z Z (aa Z (fun N=>aw Z fld141_4 Z) (aa Z (fun N=>aV (af (p:=kVal.is (.func (.func 167) #[] #[])) Z (mN N 2 Z) (am (am (am (am Li)))) ty139 Z) (bd _)) (aa Z (fun N=>af Z (mN N 0 Z) Li aj Z) (om Z Z oz)))))))<|fun σ1=>?_
  refine Ws (O.fv Z fn167 (aP Z (aP Z ao)) (c_close_plane 800000000 (cenQ (plG b) b.length (plC b t) (sfx (gsL (plF (plG b) b.length (plC b t)) (b.length-i))) (b.length-1-(gsL (plF (plG b) b.length (plC b t)) (b.length-i)).length) (gsL (plF (plG b) b.length (plC b t)) (b.length-i)).length) (hP.cen (fun x _=>cU (SzF (by omega)) x) (by rw [gsL_len];omega)) ((i-1:Nat):Int) (by decide)))<|Ws (bw U23 bn (bS Z bt) Z (by decide))<|bD 1 .n Z Z Z Lr U23 bn (by simp only [gsL_len,List.length_cons,List.length_nil];omega) fun v2=>Wa Z<|au<|Qb<|ak<|Wm Z<|Ws (bf Z Z (c:=(((i-1:Nat):Int)-1)) (aG (by omega)))<|Wa Z<|au<|tr 1 Z (y:=(gsL (plF (plG b) b.length (plC b t)) (b.length-(i-1)))) (by rw [show b.length-(i-1)=b.length-i+1 by omega,gsL_len];rfl)<|bi (bj [1,2] (by decide) Z) ?_
  exact bP (i-1) v2 (by omega) (by omega) (ac Z (ac Z (az Z (ah (y:=((((i-1):Nat):Int)-1)) (by rfl)) ar)))<|aH _
 ·
  refine Ex<|ab<|tr 0 Z (y:=(plS b t false)) (by rw [show i=0 by omega];rfl)<|ak<|Wm Z<|Wa Z<|Wn<|aA<|bJ 0 Z (kp 0 Z (.hit (i:=2) Z (.hit (i:=3) Z (kp 4 Z (kp 14 Z (kp 15 Z (.hit (i:=37) Z .nil))))))) ?_
  exact bZ (.inl Z) Z (aI Z ay) (aH _) ⟨Z,Z,trivial⟩
theorem c_close_guess_round (pw:Nat) (b:List (List Int)) (t:List (Int×Int)) (hT:Tgt b t) (r:Rat) (hr:RZ 21000000000 r) (hr0:0≤(rq r).1) (hh:Int×Int):Con Tryz.prog 106 [VP.pt pw 0] [OB.box pw 141 (kPair kRed (kPair kTre (kPair kRC (kPair (kSl (kPair kZ kZ)) kVal)))) ((llB b,llU b,llV b,((llS b).length:Int)),((gDs (gram (llB b)) b.length,gLs (gram (llB b)) b.length),tcL (plC b t) b.length,(rq r)),hh,t,(.func (.func 107) #[.pointer (some ⟨pw,0,none⟩)] #[]))] (fun p Lo=>p=kVC.is (plS b t true)∧Lo=[OB.box pw 141 (kPair kRed (kPair kTre (kPair kRC (kPair (kSl (kPair kZ kZ)) kVal)))) ((llB b,llU b,llV b,((llS b).length:Int)),((gDs (gram (llB b)) b.length,gLs (gram (llB b)) b.length),tcL (plC b t) b.length,(rq r)),hh,t,(.func (.func 107) #[.pointer (some ⟨pw,0,none⟩)] #[]))]∧True):=by
 refine aO Tryz.func106 Z Z fun m w=>?_
 have hZ:=basis_of hT.e
 have hRB:=redB_of hZ
 have hP:=plC_TZ hT
 have hlR:=hRB.len
 have hn12:=hRB.n
 have hn0:=hRB.n0
 have htl:t.length≤12:=by rw [hT.l];exact hZ.c 0
 have SzF:∀{k:Nat},k≤b.length→SzL 30000000 (gsL (rdF b.length (plC b t)) k):=fun h=>rdF_sz hP h
 refine Cr<|Wa Z<|Wr<|Wa Z<|Wn<|ab<|Cr<|Wm Z<|Ws (cD Z)<|Ws (aw Z fu Z)<|Ws (aw Z eV Z)<|Ws (af (p:=kMC.is (llB b)) Z (ag 0 Z) (aC (aC Li)) bg Z)<|Ws (aK Z U22)<|Ws (bf Z Z (c:=(((llB b).length:Int)-1)) (aG (by omega)))<|Wa Z<|Wn<|aF ?_
 refine bQ 29 kC<|tl 4 Z (y:=((b.length:Int)-1)) (by rw [hlR])<|tr 0 Z (y:=(gsL (rdF b.length (plC b t)) (b.length-b.length))) (by rw [Nat.sub_self];rfl)<|bT (fun (i:Nat) (v:Value)=>i≤b.length) (fun (i:Nat) (v:Value)=>[(0,VP.pt pw 0),(3,VP.ex v),(4,kN6.is ((i:Int)-1))]) (fun (i:Nat) (v:Value)=>[OB.row v 29 kC (gsL (rdF b.length (plC b t)) (b.length-i)),OB.box pw 141 (kPair kRed (kPair kTre (kPair kRC (kPair (kSl (kPair kZ kZ)) kVal)))) ((llB b,llU b,llV b,((llS b).length:Int)),((gDs (gram (llB b)) b.length,gLs (gram (llB b)) b.length),tcL (plC b t) b.length,(rq r)),hh,t,(.func (.func 107) #[.pointer (some ⟨pw,0,none⟩)] #[]))]) (fun (i:Nat) (v:Value)=>i) b.length (.slice none 0 0) (Nat.le_refl _) (ac Z (ac Z (az Z (ah (y:=(((b.length:Nat):Int)-1)) (by rfl)) ar))) (aH _) ?_
 intro i v hi
 refine ab<|Cr<|Wm Z<|Ws (cZ Z Z)<|Wn ?_
 refine aM Z (fun h_t15=>?_)<|fun h_t15=>?_
 ·
  refine Ck<|ab<|aF<|ab<|tl 4 Z (y:=((i-1:Nat):Int)) (by omega)<|ak<|Wm Z<|Ws (cD Z)<|Ws (aw Z eL Z)<|Ws (af (p:=kTre.is ((gDs (gram (llB b)) b.length,gLs (gram (llB b)) b.length),tcL (plC b t) b.length,(rq r))) Z (ag 1 Z) (am (aC Li)) cH Z)<|Wm Z<|Ws (dM (b:=OB.row v 29 kC (gsL (rdF b.length (plC b t)) (b.length-i))) (ag 0 Z) fn178 (ai Z (ah (y:=((gDs ((plG b)) b.length,gLs ((plG b)) b.length),tcL (plC b t) b.length,(rq r))) (by rfl)) (aP Z ao)) (c_tree_Centreo v (plG b) b.length (plC b t) r hP hr hr0 (gsL (rdF b.length (plC b t)) (b.length-i)) (SzF (by omega)) (by rw [gsL_len];omega)))<|Wm Z<|Ws (aN Z Z)<|Ws (aN Z Z)<|Ax (l:=kRC) (u:=rq (cenQ (plG b) b.length (plC b t) (sfx (gsL (rdF b.length (plC b t)) (b.length-i))) (b.length-1-(gsL (rdF b.length (plC b t)) (b.length-i)).length) (gsL (rdF b.length (plC b t)) (b.length-i)).length)) ba Z aj (fun _=>Z) Lr fun b1=>Wa Z<|Wn ?_
  refine a5 (Γ:=[.lt (VP.ex v),.fr (VP.pt pw 0),.fr (VP.pt pw 0),.fr (VP.pt pw 16),.fr (VP.ex (.func (.func 107) #[.pointer (some ⟨pw,0,none⟩)] #[])),.fr (kRC.is (rq (cenQ (plG b) b.length (plC b t) (sfx (gsL (rdF b.length (plC b t)) (b.length-i))) (b.length-1-(gsL (rdF b.length (plC b t)) (b.length-i)).length) (gsL (rdF b.length (plC b t)) (b.length-i)).length))),.fr (kN6.is ((i-1:Nat):Int))]) (oc (c7 Z .n (dL Z)) (om Z Z (cf Z Z (aa Z (fun N=>aw Z fld141_4 Z) (aa Z (fun N=>aV (af (p:=kVal.is (.func (.func 107) #[.pointer (some ⟨pw,0,none⟩)] #[])) Z (mN N 2 Z) (am (am (am (am Li)))) ty139 Z) (bd _)) (aa Z (fun N=>af Z (mN N 0 Z) Li aj Z) (om Z Z oz)))))))<|fun σ1=>?_
  refine dd (q:=VP.bnd 107 [VP.pt pw 0]) 31 Z ex_bnd<|bi (bj [2,0,1] (by decide) Z)<|WP.callb (Li:=[OB.box pw 141 (kPair kRed (kPair kTre (kPair kRC (kPair (kSl (kPair kZ kZ)) kVal)))) ((llB b,llU b,llV b,((llS b).length:Int)),((gDs (gram (llB b)) b.length,gLs (gram (llB b)) b.length),tcL (plC b t) b.length,(rq r)),hh,t,(.func (.func 107) #[.pointer (some ⟨pw,0,none⟩)] #[]))]) (L:=[OB.box b1 31 kRC (rq (cenQ (plG b) b.length (plC b t) (sfx (gsL (rdF b.length (plC b t)) (b.length-i))) (b.length-1-(gsL (rdF b.length (plC b t)) (b.length-i)).length) (gsL (rdF b.length (plC b t)) (b.length-i)).length)),OB.row v 29 kC (gsL (rdF b.length (plC b t)) (b.length-i))]) .n Z fn107 (aP Z (ai Z (ah (y:=(((i-1):Nat):Int)) (by rfl)) ao)) (c_close_rounded pw b t hT r hh (cenQ (plG b) b.length (plC b t) (sfx (gsL (rdF b.length (plC b t)) (b.length-i))) (b.length-1-(gsL (rdF b.length (plC b t)) (b.length-i)).length) (gsL (rdF b.length (plC b t)) (b.length-i)).length) (i-1) (by omega)) fun p_ Lo_ hp_=>?_
  obtain ⟨rfl,rfl,hx_t34⟩:=hp_
  refine Ws (bw U23 bn (bS Z bt) Z (by decide))<|bD 2 .n Z Z Z Lr U23 bn (by simp only [gsL_len,List.length_cons,List.length_nil];omega) fun v2=>Wa Z<|au<|Qb<|ak<|Wm Z<|Ws (bf Z Z (c:=(((i-1:Nat):Int)-1)) (aG (by omega)))<|Wa Z<|au<|tr 2 Z (y:=(gsL (rdF b.length (plC b t)) (b.length-(i-1)))) (by rw [show b.length-(i-1)=b.length-i+1 by omega];show _=gsL (rdF b.length (plC b t)) (b.length-i)++[nearQ (plC b t (b.length-1-(b.length-i)))];rw [show b.length-1-(b.length-i)=i-1 by omega])<|bi (bj [2,0] (by decide) Z) ?_
  exact bP (i-1) v2 (by omega) (by omega) (ac Z (ac Z (az Z (ah (y:=((((i-1):Nat):Int)-1)) (by rfl)) ar)))<|aH _
 ·
  refine Ex<|ab<|tr 0 Z (y:=(plS b t true)) (by rw [show i=0 by omega];rfl)<|ak<|Wm Z<|Wa Z<|Wn<|aA<|bJ 0 Z (kp 0 Z (.hit (i:=2) Z (.hit (i:=3) Z (kp 4 Z (kp 14 Z (kp 15 Z (.hit (i:=37) Z .nil))))))) ?_
  exact bZ (.inl Z) Z (aI Z ay) (aH _) ⟨Z,Z,trivial⟩
theorem c_slices_CloneZ (s:List Int) (h0:0<s.length):Con Tryz.prog 175 [kVC.is s] [] (fun p Lo=>∃(v:Value),p=VP.ex v∧Lo=[OB.row v 29 kC s]∧True):=by
 refine aO Tryz.func175 Z Z fun m w=>a9 (i:=0) Z bI fun hB0=>Cr<|Wa Z<|Wn<|ab<|Cr<|Wm Z<|Ws (O.eqN Z Z U23 (by assumption))<|Wn<|dB Z<|Ck<|Cr<|WP.bso .n U23 bn bt Z (by decide) fun v1=>Wm Z<|bD 0 .n Z Z Z Lr U23 bn (by simp;omega) fun v2=>Wa Z<|au ?_
 refine co<|aA ?_
 exact bZ (.inl Z) Z (aI Z ay) (aH _) ⟨v2,Z,Z,trivial⟩
theorem c_slices_ReverseZ (vs:Value) (s:List Int) (hs:s.length≤4294967296):Con Tryz.prog 176 [VP.ex vs] [OB.row vs 29 kC s] (fun p Lo=>p=VP.tup []∧Lo=[OB.row vs 29 kC s.reverse]∧True):=by
 refine aO Tryz.func176 Z Z fun m w=>Cr<|Wm Z<|Ws (c5 Z (ag 0 Z) U23)<|Ws (bf Z Z (c:=((s.length:Int)-1)) (aG (by omega)))<|Wa Z<|Wa Z<|Wn<|aF<|tr 0 Z (y:=(rvI s 0)) (rvI_0 s)<|bL (fun (i:Nat)=>i≤s.length) (fun (i:Nat)=>[(0,VP.ex vs),(2,kN6.is (i:Int)),(3,kN6.is ((s.length:Int)-1-(i:Int)))]) (fun (i:Nat)=>[OB.row vs 29 kC (rvI s i)]) (fun (i:Nat)=>s.length-i) 0 (Nat.zero_le _) (ac Z (az Z (ah (y:=(0:Int)) (by rfl)) (az Z (ah (y:=((s.length:Int)-1-(0:Int))) (by omega)) ar))) (aH _) ?_
 intro i hi
 refine ab<|Cr<|Wm Z<|Wm Z<|Ws (aW Z Z)<|Wn ?_
 refine aM Z (fun h_t9=>?_)<|fun h_t9=>?_
 ·
  refine Ck<|ab<|aF<|tl 3 Z (y:=((s.length-1-i:Nat):Int)) (by omega) ?_
  refine a5 (Γ:=[.fr (VP.ex vs),.fr (kN6.is (i:Int)),.lt (VP.ex vs),.lt (kN6.is ((s.length-1-i:Nat):Int)),.fr (VP.ex vs),.fr (kN6.is ((s.length-1-i:Nat):Int)),.fr (VP.pel vs ((s.length-1-i:Nat)*2)),.fr (kC.is ((rvI s i).getD (s.length-1-i:Nat) 0)),.fr (VP.ex vs),.fr (kN6.is (i:Int)),.fr (VP.pel vs (i*2)),.fr (kC.is ((rvI s i).getD i 0)),.fr (VP.pel vs (i*2))]) (om Z Z (om Z Z (oc (c7 Z .n (dL Z)) (oc (c7 Z .n (dL Z)) (om Z Z (om Z Z (aa Z (fun N=>bb (k:=kC) (xs:=(rvI s i)) (n:=((s.length-1-i:Nat):Int)) (s.length-1-i:Nat) Z Z (mN N 0 Z) U23 ae Z (by rw [rvI_len];omega)) (aa Z (fun N=>bq (s.length-1-i:Nat) Z (mN N 0 Z) Li Z (y:=((rvI s i).getD (s.length-1-i:Nat) 0)) (gd 0 (by rw [rvI_len];omega)) ae Z) (om Z Z (om Z Z (aa Z (fun N=>bb (k:=kC) (xs:=(rvI s i)) (n:=(i:Int)) i Z Z (mN N 0 Z) U23 ae Z (by rw [rvI_len];omega)) (aa Z (fun N=>bq i Z (mN N 0 Z) Li Z (y:=((rvI s i).getD i 0)) (gd 0 (by rw [rvI_len];omega)) ae Z) (aa Z (fun N=>bb (k:=kC) (xs:=(rvI s i)) (n:=(i:Int)) i Z Z (mN N 0 Z) U23 ae Z (by rw [rvI_len];omega)) oz)))))))))))))<|fun σ1=>?_
  refine aE .n (ch 0 i Z Z Li Z (y0:=((rvI s i).getD i 0)) (gd 0 (by rw [rvI_len];omega)) ae Z Lr)<|Ws (bb (k:=kC) (xs:=((rvI s i).set i ((rvI s i).getD (s.length-1-i:Nat) 0))) (n:=((s.length-1-i:Nat):Int)) (s.length-1-i:Nat) Z Z (ag 0 Z) U23 ae Z (by simp [rvI_len];omega))<|aE .n (ch 0 (s.length-1-i:Nat) Z Z Li Z (y0:=(((rvI s i).set i ((rvI s i).getD (s.length-1-i:Nat) 0)).getD (s.length-1-i:Nat) 0)) (gd 0 (by simp [rvI_len];omega)) ae Z Lr)<|au<|Qb<|ak<|Wm Z<|Ws (aS Z Z (c:=((i:Int)+1)) (aG (by omega)))<|Wm Z<|Ws (bf Z Z (c:=(((s.length-1-i:Nat):Int)-1)) (aG (by omega)))<|Wa Z<|Wa Z<|au<|tr 0 Z (y:=(rvI s (i+1))) (rvI_s (by omega)) ?_
  exact bF (i+1) (by omega) (by omega) (ac Z (az Z (ah (y:=(((i+1):Nat):Int)) (by rfl)) (az Z (ah (y:=((s.length:Int)-1-(((i+1):Nat):Int))) (by omega)) ar)))<|aH _
 ·
  refine dS<|c9<|c9<|dR<|tr 0 Z (y:=s.reverse) (rvI_end (by omega)) ?_
  exact bZ (.inr Z) Z ay (aH _) ⟨Z,Z,trivial⟩
theorem c_close_squaresa (m0:Nat) (d:Nat→Rat) (hd:∀i,i<m0→RZ 2147483649 (d i)) (hS:∀i,i≤m0→RZ 60000000000 (sqQ d i)):Fn Tryz.prog 124 [(kSl kRC).is ((List.range m0).map (fun k=>rq (d k)))] (kRC.is (rq (sqQ d m0))):=by
 refine aO Tryz.func124 Z Z fun m w=>a9 (i:=0) Z bI fun hB0=>?_
 have hB1:m0≤1099511627776:=by simpa using hB0
 refine Cr<|aX .n ba fun b1=>Wr<|Ws (cd dP Z bz (.nil _))<|Ws (aB eE (ai Z (aL (by exact Sm_lit (by decide))) ao) (es 0))<|Ax (l:=kRC) (u:=rq (0:Rat)) ba Z aj (fun _=>Z) Lr fun b2=>Wn<|ab<|Cr<|Wm Z<|Ws (aK Z U26)<|Wm Z<|Wn<|aF<|tl 9 Z (y:=(m0:Int)) (by simp)<|tb 0 Z (y:=(rq (sqQ d 0))) (by exact rq_int 0) ?_
 refine bT (fun (i:Nat) (q:Nat)=>i≤m0) (fun (i:Nat) (q:Nat)=>[(2,VP.pt b1 0),(3,VP.pt b2 0),(8,(kSl kRC).is ((List.range m0).map (fun k=>rq (d k)))),(9,kN6.is (m0:Int)),(10,kN6.is (i:Int))]) (fun (i:Nat) (q:Nat)=>[OB.box b2 31 kRC (rq (sqQ d i)),OB.box b1 31 kRC (0,0)]) (fun (i:Nat) (q:Nat)=>m0-i) 0 0 (Nat.zero_le _) (aq Z Z Z Z (az Z (ah (y:=(0:Int)) (by rfl)) ar)) (aH _) ?_
 intro i q hi
 refine Cr<|Ws (aW Z Z)<|Wn<|ab ?_
 refine aM Z (fun h_t11=>?_)<|fun h_t11=>?_
 ·
  refine Ck<|ab<|aF<|Cr<|Ws (aU i Z Z U26 aj Z (v:=(rq (d i))) (rng_at (f:=fun k=>rq (d k)) (by omega)))<|Ws (aQ Z aj)<|Ax (l:=kRC) (u:=(rq (d i))) ba Z aj (fun _=>Z) Lr fun b3=>Wn ?_
  refine a5 (Γ:=[.fr (kRC.is (rq (sqQ d i))),.fr (kRC.is (rq (d i))),.fr (kRC.is (rq (d i))),.fr (kRC.is (rq ((d i)*(d i)))),.fr (kRC.is (rq ((sqQ d i)+(d i*d i))))]) (aa Z (fun N=>af Z (mN N 1 Z) Li aj Z) (aa Z (fun N=>af Z (mN N 0 Z) Li aj Z) (aa Z (fun N=>af Z (mN N 0 Z) Li aj Z) (aa Z (fun N=>f2 fn195 Z Z (c_close_mul 2147483649 (d i) (d i) (hd i (by omega)) (hd i (by omega)) (by omega))) (aa Z (fun N=>aB fn69 (aP Z (ai Z (ah (y:=rq (d i*d i)) (by rfl)) ao)) (c_close_add 60000000000 (sqQ d i) (d i*d i) (hS i (by omega)) (((hd i (by omega)).mul (hd i (by omega))).up (by omega)) (by omega))) oz)))))<|fun σ1=>?_
  refine aE .n (aD (l:=kRC) (u:=rq ((sqQ d i)+(d i*d i))) 1 Z Z Z aj Z Lr)<|au<|Qb<|ak<|Ws (aS Z Z (c:=((i:Int)+1)) (aG (by omega)))<|Wm Z<|au<|bi (bj [1,2] (by decide) Z)<|tb 0 Z (y:=(rq (sqQ d (i+1)))) Z ?_
  exact bP (i+1) q (by omega) (by omega) (aq Z Z Z Z (az Z (ah (y:=(((i+1):Nat):Int)) (by rfl)) ar))<|aH _
 ·
  refine Ex<|Cr<|Ws (af Z (ag 0 Z) Li aj Z)<|aE .n (aD (l:=kRC) (u:=(rq (sqQ d i))) 1 Z Z Z aj Z Lr)<|Wn<|aA<|tb 1 Z (y:=(rq (sqQ d m0))) (by rw [show i=m0 by omega]) ?_
  exact Qd Z (aZ Z (ag 1 Z) aj ay) ⟨Z,Z⟩
theorem c_close_distancea (u:List Int) (t:List (Int×Int)) (hD:DistP u t):Fn Tryz.prog 59 [kVZ.is u,(kSl (kPair kZ kZ)).is t] (kRC.is (rq (dstQ u t))):=by
 refine aO Tryz.func59 Z Z fun m w=>a9 (i:=0) Z bI fun hB0=>?_
 have hl:=hD.l
 refine Cr<|aX .n ba fun b1=>Wr<|Wa Z<|Wn<|ab<|Cr<|Wm Z<|Ws (aK Z U23)<|Wm Z<|Wn<|aF<|bQ 31 kRC<|bT (fun (i:Nat) (v:Value)=>i≤u.length) (fun (i:Nat) (v:Value)=>[(0,kVZ.is u),(1,(kSl (kPair kZ kZ)).is t),(4,VP.pt b1 0),(5,VP.ex v),(8,kN6.is (u.length:Int)),(9,kN6.is (i:Int))]) (fun (i:Nat) (v:Value)=>[OB.row v 31 kRC (dfL u t i),OB.box b1 31 kRC (0,0)]) (fun (i:Nat) (v:Value)=>u.length-i) 0 (.slice none 0 0) (Nat.zero_le _) (aq Z Z Z Z (ac Z (az Z (ah (y:=(0:Int)) (by rfl)) ar))) (a6 (OS.keepLe (bl (by rfl)) (OS.keep OS.nil))) ?_
 intro i v hi
 refine Cr<|Ws (aW Z Z)<|Wn<|ab ?_
 refine aM Z (fun h_t10=>?_)<|fun h_t10=>?_
 ·
  refine Ck<|ab<|aF<|Cr<|Wm Z<|Wa Z<|Wn ?_
  refine a5 (Γ:=[.fr (VP.ex v),.fr (kVZ.is u),.fr (kN6.is (i:Int)),.fr (VP.pim kZ (u.getD i 0)),.fr (kZ.is (u.getD i 0)),.fr (kRC.is (rq ((u.getD i 0):Rat))),.fr ((kSl (kPair kZ kZ)).is t),.fr (kN6.is (i:Int)),.fr (VP.pim (kPair kZ kZ) (t.getD i (0,0))),.fr ((kPair kZ kZ).is (t.getD i (0,0))),.fr (kRC.is (rq (((u.getD i 0:Int):Rat)-rv (((t.getD i (0,0)).1),((t.getD i (0,0)).2))))),.fr ((kSl kRC).is [rq (((u.getD i 0:Int):Rat)-rv (((t.getD i (0,0)).1),((t.getD i (0,0)).2)))])]) (om Z Z (om Z Z (om Z Z (aa Z (fun N=>aU i Z Z U23 ae Z (v:=(u.getD i 0)) (gd 0 (by omega))) (aa Z (fun N=>aQ Z ae) (aa Z (fun N=>f1 eE Z (es (u.getD i 0))) (om Z Z (om Z Z (aa Z (fun N=>aU i Z Z U26 aj Z (v:=(t.getD i (0,0))) (gd (0,0) (by omega))) (aa Z (fun N=>aQ Z aj) (aa Z (fun N=>aB fn123 (ai Z (ah (y:=rq ((u.getD i 0:Int):Rat)) (by rfl)) (ai Z (ah (y:=((t.getD i (0,0)).1,(t.getD i (0,0)).2)) (by rfl)) ao)) (gr 2147483649 ((u.getD i 0:Int):Rat) ((t.getD i (0,0)).1) ((t.getD i (0,0)).2) (fS ((hD.y i).up (by decide))) ((hD.z i (by omega)).1.up (by decide)) ((hD.z i (by omega)).2.up (by decide)) (hD.d i (by omega)) (by decide))) (aa Z (fun N=>bw U26 dk (bS Z bt) Z (by decide)) oz))))))))))))<|fun σ1=>?_
  refine bD 0 .n Z Z Z Lr U26 dk (by simp [dfL_len];omega) fun v2=>Wa Z<|au<|Qb<|ak<|Ws (aS Z Z (c:=((i:Int)+1)) (aG (by omega)))<|Wm Z<|au<|tr 0 Z (y:=(dfL u t (i+1))) (by rw [←dfL_app,←dfQ_eq u t i (by omega)]) ?_
  exact bP (i+1) v2 (by omega) (by omega) (aq Z Z Z Z (ac Z (az Z (ah (y:=(((i+1):Nat):Int)) (by rfl)) ar)))<|aH _
 ·
  refine Ex<|ab<|tr 0 Z (y:=((List.range u.length).map (fun k=>rq (dfQ u t k)))) (by rw [show i=u.length by omega];rfl)<|ak<|Wm Z<|bJ 0 Z (kp 0 Z (kp 1 Z (kp 4 Z (.hit (i:=5) Z (kp 8 Z (kp 9 Z (kp 10 Z (.hit (i:=26) Z .nil))))))))<|Ws (aB fn124 (ai Z (ah (y:=((List.range u.length).map (fun k=>rq ((dfQ u t) k)))) (by rfl)) ao) (c_close_squaresa u.length (dfQ u t) hD.r hD.s))<|aE .n (aD (l:=kRC) (u:=rq (sqQ (dfQ u t) u.length)) 0 Z Z Z aj Z Lr)<|Wn<|aA<|tb 0 Z (y:=(rq (dstQ u t))) Z ?_
  exact Qd Z (aZ Z (ag 0 Z) aj ay) ⟨Z,Z⟩
theorem c_close_vector (pw:Nat) (b:List (List Int)) (t:List (Int×Int)) (hT:Tgt b t) (r hh:Int×Int) (fv:Value) (x:List Int) (hx:SzL 30000000 x) (hl:x.length=b.length):Con Tryz.prog 177 [VP.pt pw 0,kVC.is x] [OB.box pw 141 (kPair kRed (kPair kTre (kPair kRC (kPair (kSl (kPair kZ kZ)) kVal)))) ((llB b,llU b,llV b,((llS b).length:Int)),((gDs (gram (llB b)) b.length,gLs (gram (llB b)) b.length),tcL (plC b t) b.length,r),hh,t,fv)] (fun p Lo=>p=(kPair kVC (kPair kVC kRC)).is (combA x (llB b),combA x (llU b),(rq (dstQ (combA x (llB b)) t)))∧Lo=[OB.box pw 141 (kPair kRed (kPair kTre (kPair kRC (kPair (kSl (kPair kZ kZ)) kVal)))) ((llB b,llU b,llV b,((llS b).length:Int)),((gDs (gram (llB b)) b.length,gLs (gram (llB b)) b.length),tcL (plC b t) b.length,r),hh,t,fv)]∧True):=by
 refine aO Tryz.func177 Z Z fun m w=>?_
 have hZ:=basis_of hT.e
 have hRB:=redB_of hZ
 have hP:=plC_TZ hT
 have hlR:=hRB.len
 have hn12:=hRB.n
 have hn0:=hRB.n0
 have htl:t.length≤12:=by rw [hT.l];exact hZ.c 0
 have hDP:DistP (combA x (llB b)) t:=plD_P hT hx hl
 refine Cr<|aX .n d5 fun b1=>Wr<|Wm Z<|Wm Z<|Ws (cD Z)<|Ws (aw Z fu Z)<|Ws (aw Z eV Z)<|Ws (af (p:=kMC.is (llB b)) Z (ag 1 Z) (aC (aC Li)) bg Z)<|Ws (aB fn55 (ai Z (c6 (et hx (by decide))) (ai Z (dC (hRB.z.sm (by decide))) ao)) (c_mat_Combine 30000000 x (llB b) hx (hRB.z.up (by decide)) (by omega)))<|Wm Z<|Ws (aN Z Z)<|Ws (aN Z Z)<|Wa Z<|Wa Z<|Wr<|Wm Z ?_
 refine Wm Z<|Ws (cD Z)<|Ws (aw Z fu Z)<|Ws (aw Z fld35_1 Z)<|Ws (af (p:=kMC.is (llU b)) Z (ag 1 Z) (aC (am (aC Li))) bg Z)<|Ws (aB fn55 (ai Z (c6 (et hx (by decide))) (ai Z (dC (hRB.zu.sm (by decide))) ao)) (c_mat_Combine 2147483656 x (llU b) (hx.up (by decide)) hRB.zu (by have:=hRB.u.len;omega)))<|Wm Z<|Ws (aN Z Z)<|Ws (aN Z Z)<|Wa Z<|Wa Z<|Wr<|Wm Z<|Wm Z<|Wm Z<|Wm Z<|Ws (cD Z)<|Ws (aw Z fld141_3 Z)<|Ws (af (p:=(kSl (kPair kZ kZ)).is t) Z (ag 1 Z) (am (am (am (aC Li)))) bM Z)<|Ws (aB fn59 (ai Z (c6 (et ((combA_Sz hx hRB.z)) (by omega))) (aP Z ao)) (c_close_distancea (combA x (llB b)) t (by assumption)))<|Ws (cd fl Z (cb Z (cb Z (cb Z bz))) (.cons Z (aC Li) (.cons Z (am (aC Li)) (.cons Z (am (am Li)) (.nil _))))) ?_
 refine aE .n (aD (l:=(kPair kVC (kPair kVC kRC))) (u:=(combA x (llB b),(combA x (llU b),rq (dstQ (combA x (llB b)) t)))) 0 Z Z Z da Z Lr)<|Wn<|aA ?_
 exact bZ (.inl Z) Z (dy Z (ag 0 Z) da (ah (y:=(combA x (llB b),combA x (llU b),(rq (dstQ (combA x (llB b)) t)))) (by rfl)) ay) (a6 (OS.skip (OS.keep OS.nil))) ⟨Z,Z,trivial⟩
theorem c_close_told (pw:Nat) (b:List (List Int)) (t:List (Int×Int)) (hT:Tgt b t) (r hh:Int×Int) (fv:Value) (s:List Int) (hs:SzL 30000000 s) (hl:s.length=b.length):Con Tryz.prog 105 [VP.pt pw 0,kVC.is s] [OB.box pw 141 (kPair kRed (kPair kTre (kPair kRC (kPair (kSl (kPair kZ kZ)) kVal)))) ((llB b,llU b,llV b,((llS b).length:Int)),((gDs (gram (llB b)) b.length,gLs (gram (llB b)) b.length),tcL (plC b t) b.length,r),hh,t,fv)] (fun p Lo=>p=(kPair kVC (kPair kVC kRC)).is (combA s.reverse (llB b),combA s.reverse (llU b),(rq (dstQ (combA s.reverse (llB b)) t)))∧Lo=[OB.box pw 141 (kPair kRed (kPair kTre (kPair kRC (kPair (kSl (kPair kZ kZ)) kVal)))) ((llB b,llU b,llV b,((llS b).length:Int)),((gDs (gram (llB b)) b.length,gLs (gram (llB b)) b.length),tcL (plC b t) b.length,r),hh,t,fv)]∧True):=by
 refine aO Tryz.func105 Z Z fun m w=>?_
 have hZ:=basis_of hT.e
 have hRB:=redB_of hZ
 have hP:=plC_TZ hT
 have hlR:=hRB.len
 have hn12:=hRB.n
 have hn0:=hRB.n0
 have htl:t.length≤12:=by rw [hT.l];exact hZ.c 0
 refine Cr<|aX .n d5 fun b1=>Wr<|Wm Z<|ct (Li:=[]) (L:=[OB.box b1 53 (kPair kVC (kPair kVC kRC)) ([],([],(0,0))),OB.box pw 141 (kPair kRed (kPair kTre (kPair kRC (kPair (kSl (kPair kZ kZ)) kVal)))) ((llB b,llU b,llV b,((llS b).length:Int)),((gDs (gram (llB b)) b.length,gLs (gram (llB b)) b.length),tcL (plC b t) b.length,r),hh,t,fv)]) .n fn175 (aP Z ao) (c_slices_CloneZ s (by omega)) fun p_ Lo_ hp_=>?_
 obtain ⟨v,rfl,rfl,hx7⟩:=hp_
 refine Wa Z<|Wr<|Wm Z<|ct (Li:=[OB.row v 29 kC s]) (L:=[OB.box b1 53 (kPair kVC (kPair kVC kRC)) ([],([],(0,0))),OB.box pw 141 (kPair kRed (kPair kTre (kPair kRC (kPair (kSl (kPair kZ kZ)) kVal)))) ((llB b,llU b,llV b,((llS b).length:Int)),((gDs (gram (llB b)) b.length,gLs (gram (llB b)) b.length),tcL (plC b t) b.length,r),hh,t,fv)]) .n fn176 (aP Z ao) (c_slices_ReverseZ v s (by omega)) fun p_ Lo_ hp_=>?_
 obtain ⟨rfl,rfl,hx_t9⟩:=hp_
 refine Wr<|Wm Z<|Wm Z<|bJ 0 Z (kp 0 Z (kp 1 Z (kp 4 Z (.hit (i:=5) Z (kp 6 Z (.hit (i:=7) Z (.hit (i:=8) Z (kp 9 Z (kp 10 Z (.hit (i:=11) Z .nil))))))))))<|Ws (dM (b:=OB.box pw 141 (kPair kRed (kPair kTre (kPair kRC (kPair (kSl (kPair kZ kZ)) kVal)))) ((llB b,llU b,llV b,((llS b).length:Int)),((gDs (gram (llB b)) b.length,gLs (gram (llB b)) b.length),tcL (plC b t) b.length,r),hh,t,fv)) (ag 1 Z) fn177 (aP Z (aP Z ao)) (c_close_vector pw (by assumption) t (by assumption) r hh fv s.reverse (hs.rev) (by simp;omega)))<|aE .n (aD (l:=(kPair kVC (kPair kVC kRC))) (u:=(combA s.reverse (llB b),combA s.reverse (llU b),(rq (dstQ (combA s.reverse (llB b)) t)))) 0 Z Z Z da Z Lr)<|Wn<|aA ?_
 exact bZ (.inl Z) Z (aZ Z (ag 0 Z) da ay) (a6 (OS.skip (OS.keep OS.nil))) ⟨Z,Z,trivial⟩
abbrev gR:=@c_close_told
theorem c_close_planned (b:List (List Int)) (t:List (Int×Int)) (hA:askE b t=0):Con Tryz.prog 99 [kMZ.is b,(kSl (kPair kZ kZ)).is t] [] (fun p Lo=>∃(pw:Nat),p=VP.tup [VP.pt pw 0,kN6.is 0]∧Lo=[OB.box pw 141 (kPair kRed (kPair kTre (kPair kRC (kPair (kSl (kPair kZ kZ)) kVal)))) ((llB b,llU b,llV b,((llS b).length:Int)),((gDs (gram (llB b)) b.length,gLs (gram (llB b)) b.length),tcL (plC b t) b.length,(rq (plP b t))),(rq (plH b t)),t,(.func (.func 167) #[] #[]))]∧True):=by
 refine aO Tryz.func99 Z Z fun m w=>?_
 have hT:=tgt_of hA
 have hZ:=basis_of hT.e
 have hRB:=redB_of hZ
 have hP:=plC_TZ hT
 have hlR:=hRB.len
 have hn12:=hRB.n
 have hn0:=hRB.n0
 have htl:t.length≤12:=by rw [hT.l];exact hZ.c 0
 refine Cr<|Wa Z<|Wa Z<|Wn<|ab<|Cr<|Wm Z<|Wm Z<|Ws (f2 fn54 Z Z (c_close_asked b t))<|Wa Z<|Wr<|Wm Z<|Ws (bG Z Z)<|Wn ?_
 refine CN Z (fun h=>h hA) fun h_t14=>?_
 refine Ck<|Cr<|Wm Z<|Ws (cd lit141_pr_pr_sl_sl_C_pr_sl_sl_C_pr_sl_sl_C_int____pr_pr_pr_sl_C_sl_sl_C__pr_sl_pr_C_C__pr_C_C____pr_pr_C_C__pr_sl_pr_Z_Z__val____ Z (bC Z (bo (by rfl)) (cb Z bz)) (.cons Z (am (am (am (am Li)))) (.cons Z (am (am (am (aC Li)))) (.nil _))))<|aY .n Z fun b1=>Wa Z<|Wr<|Wm Z<|Wm Z<|Ws (f1 fn65 Z (c_lll_Reduce b (by assumption) (hT.e)))<|Wm Z<|Ws (aN Z Z)<|Ws (aN Z Z)<|Ws (cD Z)<|Ws (aw Z fu Z)<|aE .n (dp 0 Z Z (aC Li) eA Z Lr)<|Wn<|ab ?_
 refine ak<|Wm Z<|Wm Z<|Ws (cD Z)<|Ws (aw Z fu Z)<|Ws (aw Z eV Z)<|Ws (af (p:=kMC.is (llB b)) Z (ag 0 Z) (aC (aC Li)) bg Z)<|Ws (aB fn66 (ai Z (dC (hRB.z.sm (by decide))) ao) (c_gso_Wide 264 (llB b) hRB.z (by decide)))<|Wm Z<|Ws (aN Z Z)<|Ws (aN Z Z)<|Ws (cD Z)<|Ws (aw Z eL Z)<|Ws (aw Z dm Z)<|aE .n (dp 0 Z Z (am (aC (aC Li))) bm Z Lr)<|Wn<|ab<|tb 0 Z (y:=((llB b,llU b,llV b,((llS b).length:Int)),((gDs (gram (llB b)) b.length,gLs (gram (llB b)) b.length),[],(0,0)),(0,0),t,(.func (.func 167) #[] #[]))) (by rw [hRB.wide.2]) ?_
 refine a5 (Γ:=[.fr (VP.pt b1 0),.fr (VP.pt b1 0),.fr (VP.pt b1 0),.fr (VP.pt b1 0),.fr (VP.pt b1 0),.fr (kMC.is (llB b)),.fr (VP.pt b1 0),.fr (VP.pt b1 0),.fr (VP.pt b1 4),.fr (VP.pt b1 4),.fr (kGso.is (gDs (gram (llB b)) b.length,gLs (gram (llB b)) b.length)),.fr ((kSl (kPair kZ kZ)).is t),.fr ((kSl kRC).is (tcL (plC b t) b.length)),.fr (VP.pt b1 0),.fr (VP.pt b1 4),.fr (VP.pt b1 6)]) (om Z Z (om Z Z (cf Z Z (aa Z (fun N=>aw Z fu Z) (aa Z (fun N=>aw Z eV Z) (aa Z (fun N=>af (p:=kMC.is (llB b)) Z (mN N 0 Z) (aC (aC Li)) bg Z) (om Z Z (cf Z Z (aa Z (fun N=>aw Z eL Z) (aa Z (fun N=>aw Z dm Z) (aa Z (fun N=>af (p:=kGso.is (gDs (gram (llB b)) b.length,gLs (gram (llB b)) b.length)) Z (mN N 0 Z) (am (aC (aC Li))) bm Z) (om Z Z (aa Z (fun N=>aB fn168 (aP Z (aP Z (aP Z ao))) (c_close_coords (by assumption) t (by assumption))) (cf Z Z (aa Z (fun N=>aw Z eL Z) (aa Z (fun N=>aw Z dY Z) oz))))))))))))))))<|fun σ1=>?_
 refine aE .n (dp 0 Z Z (am (aC (am (aC Li)))) bM Z Lr)<|Wr<|Wm Z<|Ws (cd dP Z bz (.nil _))<|Ws (aB eE (ai Z (aL (Sm_lit (by decide))) ao) (es 0))<|Ws (cD Z)<|Ws (aw Z eL Z)<|Ws (aw Z ff Z)<|aE .n (dp 0 Z Z (am (aC (am (am Li)))) aj Z Lr)<|Wr<|Wm Z<|Ws (dM (b:=OB.box b1 141 (kPair kRed (kPair kTre (kPair kRC (kPair (kSl (kPair kZ kZ)) kVal)))) ((llB b,llU b,llV b,((llS b).length:Int)),(((gDs (gram (llB b)) b.length,gLs (gram (llB b)) b.length),(tcL (plC b t) b.length,rq (0:Rat))),((0,0),t,(.func (.func 167) #[] #[]))))) (ag 0 Z) fn106 (aP Z ao) (c_close_guess_plane b1 (by assumption) t (by assumption) ((0:Int):Rat) (RZ0.up (by decide)) (by decide) (0,0)))<|Wa Z<|Wr<|Wm Z ?_
 refine Wm Z<|Ws (cD Z)<|Ws (aw Z eL Z)<|Ws (af (p:=kTre.is ((gDs (gram (llB b)) b.length,gLs (gram (llB b)) b.length),(tcL (plC b t) b.length,rq (0:Rat)))) Z (ag 0 Z) (am (aC Li)) cH Z)<|Wm Z<|Ws (aB fn169 (ai Z (ah (y:=((gDs ((plG b)) b.length,gLs ((plG b)) b.length),tcL (plC b t) b.length,(rq ((0:Int):Rat)))) (by rfl)) (aP Z ao)) (c_tree_Part (plG b) b.length (plC b t) ((0:Int):Rat) hP (RZ0.up (by decide)) (by decide) (plS b t false) (plS_sz hT false) (by rw [plS_len];omega)))<|Wm Z<|Ws (aN Z Z)<|Ws (aN Z Z)<|Ws (cD Z)<|Ws (aw Z eL Z)<|Ws (aw Z ff Z)<|aE .n (dp 0 Z Z (am (aC (am (am Li)))) aj Z Lr)<|Wn<|ab<|tb 0 Z (y:=((llB b,llU b,llV b,((llS b).length:Int)),((gDs (gram (llB b)) b.length,gLs (gram (llB b)) b.length),tcL (plC b t) b.length,(rq (plP b t))),(0,0),t,(.func (.func 167) #[] #[]))) (by rw [plP_len])<|ak<|Wm Z<|Wm Z<|Ws (dM (b:=OB.box b1 141 (kPair kRed (kPair kTre (kPair kRC (kPair (kSl (kPair kZ kZ)) kVal)))) ((llB b,llU b,llV b,((llS b).length:Int)),((gDs (gram (llB b)) b.length,gLs (gram (llB b)) b.length),tcL (plC b t) b.length,(rq (plP b t))),(0,0),t,(.func (.func 167) #[] #[]))) (ag 0 Z) fn105 (aP Z (aP Z ao)) (gR b1 (by assumption) t (by assumption) (rq (plP b t)) (0,0) (.func (.func 167) #[] #[]) (plS b t false) (plS_sz hT false) (plS_len b t false)))<|Ws (O.fld Z Z prt53_2 (am (am Li)) Z)<|Ax (l:=kRC) (u:=(rq (dstQ (combA (plS b t false).reverse (llB b)) t))) ba Z aj (fun _=>Z) Lr fun b2=>?_
 refine Wn<|ab ?_
 have hPz:RZ 21000000000 (plP b t):=hP.par (fun x _=>sfx_RZ (plS_sz hT false) x) (Nat.le_refl _)
 have hDz:RZ 60000000000 (dstQ (combA (plS b t false).reverse (llB b)) t):=(plD_P hT (plS_sz hT false).rev (by rw [List.length_reverse];exact plS_len b t false)).s _ (Nat.le_refl _)
 refine a5 (Γ:=[.fr (VP.pt b1 0),.fr (kRC.is (rq (dstQ (combA (plS b t false).reverse (llB b)) t))),.fr (VP.pt b1 0),.fr (VP.pt b1 0),.fr (VP.pt b1 4),.fr (VP.pt b1 7),.fr (kRC.is (rq (plP b t))),.fr (kRC.is (rq ((dstQ (combA (plS b t false).reverse (llB b)) t)-rv (((rq (plP b t)).1),((rq (plP b t)).2))))),.fr (VP.pt b1 0),.fr (VP.pt b1 11)]) (om Z Z (aa Z (fun N=>af Z (mN N 0 Z) Li aj Z) (om Z Z (cf Z Z (aa Z (fun N=>aw Z eL Z) (aa Z (fun N=>aw Z ff Z) (aa Z (fun N=>af (p:=kRC.is (rq (plP b t))) Z (mN N 1 Z) (am (aC (am (am Li)))) aj Z) (aa Z (fun N=>aB fn123 (aP Z (ai Z (dO (eZ (hPz.a.sm (by decide)) (hPz.b.sm (by decide))) (ah (by rfl))) ao)) (gr 60000000000 (dstQ (combA (plS b t false).reverse (llB b)) t) ((rq (plP b t)).1) ((rq (plP b t)).2) hDz ((hPz.up (by decide)).a) ((hPz.up (by decide)).b) (eR _) (by decide))) (cf Z Z (aa Z (fun N=>aw Z fld141_2 Z) oz))))))))))<|fun σ2=>?_
 refine aE .n (dp 1 Z Z (am (am (aC Li))) aj Z Lr)<|Wr<|Wm Z<|Wa Z<|Wa Z<|Wn<|aA<|tb 1 Z (y:=((llB b,llU b,llV b,((llS b).length:Int)),((gDs (gram (llB b)) b.length,gLs (gram (llB b)) b.length),tcL (plC b t) b.length,(rq (plP b t))),(rq (plH b t)),t,(.func (.func 167) #[] #[]))) (by rw [plH_eq hT])<|bi (bj [1] (by decide) Z) ?_
 exact bZ (.inl Z) Z (aI Z (aI Z ay)) (aH _) ⟨b1,Z,Z,trivial⟩
theorem c_close_planned_bad (b:List (List Int)) (t:List (Int×Int)) (hA:askE b t≠0):Fn Tryz.prog 99 [kMZ.is b,(kSl (kPair kZ kZ)).is t] (VP.tup [VP.ex (.pointer none),kN6.is (askE b t)]):=by
 refine aO Tryz.func99 Z Z fun m w=>Cr<|Wa Z<|Wa Z<|Wn<|ab<|Cr<|Wm Z<|Wm Z<|Ws (f2 fn54 Z Z (c_close_asked b t))<|Wa Z<|Wr<|Wm Z<|Ws (bG Z Z)<|Wn ?_
 refine CY Z hA fun h_t14=>?_
 refine Cr<|Wm Z<|Wa Z<|Wa Z<|Wn<|aA<|a8 ?_
 exact Qd Z (aI Z (aI Z ay)) ⟨Z,Z⟩
theorem c_close_Plane (b:List (List Int)) (t:List (Int×Int)) (hA:askE b t=0):Fn Tryz.prog 41 [kMZ.is b,(kSl (kPair kZ kZ)).is t] (VP.tup [(kPair kVC (kPair kVC kRC)).is (combA (plS b t false).reverse (llB b),combA (plS b t false).reverse (llU b),(rq (dstQ (combA (plS b t false).reverse (llB b)) t))),kN6.is 0]):=by
 refine aO Tryz.func41 Z Z fun m w=>?_
 have hT:=tgt_of hA
 have hZ:=basis_of hT.e
 have hRB:=redB_of hZ
 have hP:=plC_TZ hT
 have hlR:=hRB.len
 have hn12:=hRB.n
 have hn0:=hRB.n0
 have htl:t.length≤12:=by rw [hT.l];exact hZ.c 0
 refine Cr<|aX .n d5 fun b1=>Wa Z<|Wr<|Wm Z<|Wm Z<|ct (Li:=[]) (L:=[OB.box b1 53 (kPair kVC (kPair kVC kRC)) ([],([],(0,0)))]) .n fn99 (aP Z (aP Z ao)) (c_close_planned b t (by assumption)) fun p_ Lo_ hp_=>?_
 obtain ⟨pw,rfl,rfl,hx11⟩:=hp_
 refine Wm Z<|Ws (aN Z Z)<|Ws (aN Z Z)<|Wa Z<|Wa Z<|Wn<|ab<|Cr<|Wm Z<|Ws (bG Z Z)<|Wn ?_
 refine CN Z (fun h=>h Z) fun h_t15=>?_
 refine Ck<|ab ?_
 have hPz:RZ 21000000000 (plP b t):=hP.par (fun x _=>sfx_RZ (plS_sz hT false) x) (Nat.le_refl _)
 have hP0:0≤plP b t:=plP_nn hT
 refine ak<|Wm Z<|Wm Z<|Ws (dM (b:=OB.box pw 141 (kPair kRed (kPair kTre (kPair kRC (kPair (kSl (kPair kZ kZ)) kVal)))) ((llB b,llU b,llV b,((llS b).length:Int)),((gDs (gram (llB b)) b.length,gLs (gram (llB b)) b.length),tcL (plC b t) b.length,(rq (plP b t))),(rq (plH b t)),t,(.func (.func 167) #[] #[]))) (ag 0 Z) fn106 (aP Z ao) (c_close_guess_plane pw (by assumption) t (by assumption) (plP b t) hPz (gH hP0) (rq (plH b t))))<|Ws (dM (b:=OB.box pw 141 (kPair kRed (kPair kTre (kPair kRC (kPair (kSl (kPair kZ kZ)) kVal)))) ((llB b,llU b,llV b,((llS b).length:Int)),((gDs (gram (llB b)) b.length,gLs (gram (llB b)) b.length),tcL (plC b t) b.length,(rq (plP b t))),(rq (plH b t)),t,(.func (.func 167) #[] #[]))) (ag 0 Z) fn105 (aP Z (aP Z ao)) (gR pw (by assumption) t (by assumption) (rq (plP b t)) (rq (plH b t)) (.func (.func 167) #[] #[]) (plS b t false) (plS_sz hT false) (plS_len b t false)))<|aE .n (aD (l:=(kPair kVC (kPair kVC kRC))) (u:=(combA (plS b t false).reverse (llB b),combA (plS b t false).reverse (llU b),(rq (dstQ (combA (plS b t false).reverse (llB b)) t)))) 1 Z Z Z da Z Lr)<|Wa Z<|Wn<|aA ?_
 exact Qd Z (aZ Z (ag 1 Z) da (aI Z ay)) ⟨Z,Z⟩
theorem c_close_Plane_bad (b:List (List Int)) (t:List (Int×Int)) (hA:askE b t≠0):Fn Tryz.prog 41 [kMZ.is b,(kSl (kPair kZ kZ)).is t] (VP.tup [(kPair kVC (kPair kVC kRC)).is ([],[],(0,0)),kN6.is (askE b t)]):=by
 refine aO Tryz.func41 Z Z fun m w=>Cr<|aX .n d5 fun b1=>Wa Z<|Wr<|Wm Z<|Wm Z<|Ws (f2 fn99 Z Z (c_close_planned_bad b t (by assumption)))<|Wm Z<|Ws (aN Z Z)<|Ws (aN Z Z)<|Wa Z<|Wa Z<|Wn<|ab<|Cr<|Wm Z<|Ws (bG Z Z) ?_
 refine Wn ?_
 refine CY Z hA fun h_t15=>?_
 refine Cr<|Ws (cd fl Z bz (.nil _))<|Wm Z<|aE .n (aD (l:=(kPair kVC (kPair kVC kRC))) (u:=([],([],(0,0)))) 0 Z Z Z da Z Lr)<|Wa Z<|Wn<|aA<|a8 ?_
 exact Qd Z (dy Z (ag 0 Z) da (ah (y:=([],[],(0,0))) (by rfl)) (aI Z ay)) ⟨Z,Z⟩
theorem c_close_Round (b:List (List Int)) (t:List (Int×Int)) (hA:askE b t=0):Fn Tryz.prog 42 [kMZ.is b,(kSl (kPair kZ kZ)).is t] (VP.tup [(kPair kVC (kPair kVC kRC)).is (combA (plS b t true).reverse (llB b),combA (plS b t true).reverse (llU b),(rq (dstQ (combA (plS b t true).reverse (llB b)) t))),kN6.is 0]):=by
 refine aO Tryz.func42 Z Z fun m w=>?_
 have hT:=tgt_of hA
 have hZ:=basis_of hT.e
 have hRB:=redB_of hZ
 have hP:=plC_TZ hT
 have hlR:=hRB.len
 have hn12:=hRB.n
 have hn0:=hRB.n0
 have htl:t.length≤12:=by rw [hT.l];exact hZ.c 0
 refine Cr<|aX .n d5 fun b1=>Wa Z<|Wr<|Wm Z<|Wm Z<|ct (Li:=[]) (L:=[OB.box b1 53 (kPair kVC (kPair kVC kRC)) ([],([],(0,0)))]) .n fn99 (aP Z (aP Z ao)) (c_close_planned b t (by assumption)) fun p_ Lo_ hp_=>?_
 obtain ⟨pw,rfl,rfl,hx11⟩:=hp_
 refine Wm Z<|Ws (aN Z Z)<|Ws (aN Z Z)<|Wa Z<|Wa Z<|Wn<|ab<|Cr<|Wm Z<|Ws (bG Z Z)<|Wn ?_
 refine CN Z (fun h=>h Z) fun h_t15=>?_
 refine Ck<|ab ?_
 have hPz:RZ 21000000000 (plP b t):=hP.par (fun x _=>sfx_RZ (plS_sz hT false) x) (Nat.le_refl _)
 have hP0:0≤plP b t:=plP_nn hT
 refine ak<|Wm Z<|Wm Z<|Ws (O.mkb (aP Z ao))<|Ws (cD Z)<|Ws (aw Z fld141_4 Z)<|dd (q:=VP.ex (.func (.func 107) #[.pointer (some ⟨pw,0,none⟩)] #[])) 20 Z bnd_ex<|aE .n (dp 0 Z Z (am (am (am (am Li)))) ty139 Z (bo (by rfl)))<|Wr<|Wm Z<|Wm Z<|Ws (dM (b:=OB.box pw 141 (kPair kRed (kPair kTre (kPair kRC (kPair (kSl (kPair kZ kZ)) kVal)))) ((llB b,llU b,llV b,((llS b).length:Int)),(((gDs (gram (llB b)) b.length,gLs (gram (llB b)) b.length),tcL (plC b t) b.length,(rq (plP b t))),((rq (plH b t)),(t,(.func (.func 107) #[.pointer (some ⟨pw,0,none⟩)] #[])))))) (ag 0 Z) fn106 (aP Z ao) (c_close_guess_round pw (by assumption) t (by assumption) (plP b t) hPz (gH hP0) (rq (plH b t))))<|Ws (dM (b:=OB.box pw 141 (kPair kRed (kPair kTre (kPair kRC (kPair (kSl (kPair kZ kZ)) kVal)))) ((llB b,llU b,llV b,((llS b).length:Int)),(((gDs (gram (llB b)) b.length,gLs (gram (llB b)) b.length),tcL (plC b t) b.length,(rq (plP b t))),((rq (plH b t)),(t,(.func (.func 107) #[.pointer (some ⟨pw,0,none⟩)] #[])))))) (ag 0 Z) fn105 (aP Z (aP Z ao)) (gR pw (by assumption) t (by assumption) (rq (plP b t)) (rq (plH b t)) (.func (.func 107) #[.pointer (some ⟨pw,0,none⟩)] #[]) (plS b t true) (plS_sz hT true) (plS_len b t true)))<|aE .n (aD (l:=(kPair kVC (kPair kVC kRC))) (u:=(combA (plS b t true).reverse (llB b),combA (plS b t true).reverse (llU b),(rq (dstQ (combA (plS b t true).reverse (llB b)) t)))) 1 Z Z Z da Z Lr)<|Wa Z<|Wn<|aA ?_
 exact Qd Z (aZ Z (ag 1 Z) da (aI Z ay)) ⟨Z,Z⟩
theorem c_close_Round_bad (b:List (List Int)) (t:List (Int×Int)) (hA:askE b t≠0):Fn Tryz.prog 42 [kMZ.is b,(kSl (kPair kZ kZ)).is t] (VP.tup [(kPair kVC (kPair kVC kRC)).is ([],[],(0,0)),kN6.is (askE b t)]):=by
 refine aO Tryz.func42 Z Z fun m w=>Cr<|aX .n d5 fun b1=>Wa Z<|Wr<|Wm Z<|Wm Z<|Ws (f2 fn99 Z Z (c_close_planned_bad b t (by assumption)))<|Wm Z<|Ws (aN Z Z)<|Ws (aN Z Z)<|Wa Z<|Wa Z<|Wn<|ab<|Cr<|Wm Z<|Ws (bG Z Z) ?_
 refine Wn ?_
 refine CY Z hA fun h_t15=>?_
 refine Cr<|Ws (cd fl Z bz (.nil _))<|Wm Z<|aE .n (aD (l:=(kPair kVC (kPair kVC kRC))) (u:=([],([],(0,0)))) 0 Z Z Z da Z Lr)<|Wa Z<|Wn<|aA<|a8 ?_
 exact Qd Z (dy Z (ag 0 Z) da (ah (y:=([],[],(0,0))) (by rfl)) (aI Z ay)) ⟨Z,Z⟩
end Fw
namespace Fw
open Go
section
variable {G:Fi} {n:Nat}
end
def uniF:Fi:=fun i k=>if i=k then 1 else 0
def augZ (G:Fi) (n:Nat):Fi:=fun i k=>if k<n then G i k else if k=n+i then 1 else 0
def tabW (r c:Nat) (f:Fi):List (List Int):=(List.range r).map (fun i=>(List.range c).map (f i))
theorem tabW_len (r c f):(tabW r c f).length=r:=by simp [tabW]
theorem tabW_row {r c:Nat} {f:Fi} {i:Nat} (h:i<r):(tabW r c f).getD i []=(List.range c).map (f i):=by
  rw [gde _ [] (by rw [tabW_len];exact h)];simp [tabW]
theorem tabW_get {r c:Nat} {f:Fi} {i:Nat} (h:i<r):(tabW r c f)[i]?=some ((List.range c).map (f i)):=by simp [tabW,h]
abbrev gb:=@tabW_get
theorem tabW_rlen {r c:Nat} {f:Fi} {i:Nat} (h:i<r):((tabW r c f).getD i []).length=c:=by rw [tabW_row h];simp
theorem tabW_app (r c:Nat) (f:Fi):tabW r c f++[(List.range c).map (f r)]=tabW (r+1) c f:=by simp [tabW,List.range_succ]
theorem tabW_rect (r c:Nat) (f:Fi):RectL (tabW r c f):=fun i hi=>by
  rw [tabW_len] at hi
  rw [tabW_rlen hi,tabW_rlen (by omega)]
theorem rgF_at {c k:Nat} {f:Nat→Int} (h:k<c):((List.range c).map f)[k]?=some (f k):=by simp [h]
theorem rgF_len {c:Nat} {f:Nat→Int}:((List.range c).map f).length=c:=by simp
theorem rgF_get {c k:Nat} {f:Nat→Int} (h:k<c):((List.range c).map f).getD k 0=f k:=by simp [h]
theorem SzL_rg {c s:Nat} {f:Nat→Int} (h:∀k,Sz s (f k)):SzL s ((List.range c).map f):=fun k=>by
  by_cases e:k<c
  · rw [rgF_get e];exact h k
  · rw [getD_nil_of _ _ (by simp;omega)];exact Sz.zero _
theorem tabW_Sz {r c s:Nat} {f:Fi} (h:∀i k,Sz s (f i k)):SzM s (tabW r c f):=fun i k=>by
  by_cases e:i<r
  · rw [tabW_row e];exact SzL_rg (h i) k
  · rw [show (tabW r c f).getD i []=[] by rw [List.getD_eq_getElem?_getD,List.getElem?_eq_none (by rw [tabW_len];omega)];rfl];exact Sz.zero _
theorem tabW_sh {r c:Nat} {f:Fi} (h0:0<r):shN (tabW r c f)=(r:Int)∧shM (tabW r c f)=(c:Int)∧shE (tabW r c f)=0:=by
  have hr:=rect_iff.2 (tabW_rect r c f)
  unfold shN shM shE
  rw [if_pos hr,if_pos hr,if_pos hr,tabW_rlen h0,tabW_len];exact ⟨rfl,rfl,rfl⟩
theorem aug_app (G:Fi) (n i:Nat):(List.range n).map (G i)++(List.range n).map (uniF i)=(List.range (2*n)).map (augZ G n i):=by
  apply List.ext_getElem
  · simp;omega
  · intro k h1 h2
    simp at h1
    simp only [List.getElem_map,List.getElem_range]
    unfold augZ
    by_cases e:k<n
    · rw [List.getElem_append_left (by simp;exact e),if_pos e];simp
    · rw [List.getElem_append_right (by simp;omega),if_neg e]
      simp only [List.getElem_map,List.getElem_range,List.length_map,List.length_range]
      unfold uniF
      by_cases e2:k=n+i
      · rw [if_pos e2,if_pos (by omega)]
      · rw [if_neg e2,if_neg (by omega)]
theorem augZ_q (G:Fi) (n:Nat):(fun i k=>((augZ G n i k:Int):Rat))=augQ G n:=by
  funext i k
  unfold augZ augQ
  split
  · rfl
  · split <;> rfl
theorem augZ_Sz {G:Fi} {n s:Nat} (h:∀i k,Sz s (G i k)) (h1:2≤s) (i k:Nat):Sz s (augZ G n i k):=by
  unfold augZ
  split
  · exact h i k
  · split
    · exact Sz.up (n:=2) (show (1:Int).natAbs<2^2 by decide) h1
    · exact Sz.zero _
theorem qF_RZ {f:Fi} {s:Nat} (h:∀i k,Sz s (f i k)) (i k:Nat):RZ (s+1) ((f i k:Int):Rat):=RZ.int ((h i k).up (by omega))
def invR (G:Fi) (n i:Nat):List Rat:=(List.range n).map (invE G n i)
def invL (G:Fi) (n:Nat):Nat→List Rat
  | 0=>[]
  | i+1=>invL G n i++invR G n i
theorem invL_len (G n):∀i,(invL G n i).length=i*n
  | 0=>by simp [invL]
  | i+1=>by show (invL G n i++invR G n i).length=_;rw [List.length_append,invL_len G n i,Nat.succ_mul];simp [invR]
theorem invL_at {G:Fi} {n:Nat}:∀{i x k:Nat},x<i→k<n→(invL G n i).getD (x*n+k) 0=invE G n x k
  | 0,_,_,h,_=>absurd h (by omega)
  | i+1,x,k,h,hk=>by
    show (invL G n i++invR G n i).getD (x*n+k) 0=_
    by_cases e:x<i
    · have h1:x*n+k<i*n:=by have:=Nat.mul_le_mul_right n (show x+1≤i by omega);rw [Nat.succ_mul] at this;omega
      rw [List.getD_eq_getElem?_getD,List.getElem?_append_left (by rw [invL_len];exact h1),←List.getD_eq_getElem?_getD,invL_at e hk]
    · have e2:x=i:=by omega
      subst e2
      rw [List.getD_eq_getElem?_getD,List.getElem?_append_right (by rw [invL_len];omega),invL_len,Nat.add_sub_cancel_left]
      simp [invR,hk]
theorem invL_rq (G:Fi) (n i:Nat):(invL G n i).map rq++(List.range n).map (fun k=>rq (invE G n i k))=(invL G n (i+1)).map rq:=by
  show _=(invL G n i++invR G n i).map rq
  rw [List.map_append];congr 1;simp [invR]
theorem inv_row {G:Fi} {n i:Nat} {f:Fq} (h:RedJ G n (augQ G n) n f) (hs:SymG G) (hp:PosU G n) (hi:i<n):((tabR n (2*n) f).getD i []).drop n=(List.range n).map (fun k=>rq (invE G n i k)):=by
  rw [tabR_row hi]
  apply List.ext_getElem
  · simp;omega
  · intro k h1 h2
    simp at h2
    simp only [List.getElem_drop,List.getElem_map,List.getElem_range]
    rw [h.inv_eq hs hp hi h2]
theorem inv_low {G:Fi} {n:Nat} (hs:SymG G) (hp:PosU G n) (i:Nat):LowOk (invL G n i) (uD G n):=by
  refine ⟨hp.uD (Nat.le_refl n),fun k hk=>?_⟩
  rw [invL_len] at hk
  have h0:0<n:=Nat.pos_of_ne_zero fun e=>by rw [e] at hk;omega
  have e:k=k/n*n+k%n:=by rw [Nat.mul_comm];exact (Nat.div_add_mod k n).symm
  rw [e,invL_at ((Nat.div_lt_iff_lt_mul h0).2 hk) (Nat.mod_lt _ h0)]
  exact invE_den hs hp _ _
theorem inv_RZ2 {G:Fi} {n:Nat} (hs:SymG G) (hp:PosU G n) (h12:n≤12) (hz:∀i j,Sz 540 (G i j)) (i k:Nat):RZ 2300000 ((invL G n i).getD k 0):=by
  by_cases hk:k<i*n
  · have h0:0<n:=Nat.pos_of_ne_zero fun e=>by rw [e] at hk;omega
    have e:k=k/n*n+k%n:=by rw [Nat.mul_comm];exact (Nat.div_add_mod k n).symm
    rw [e,invL_at ((Nat.div_lt_iff_lt_mul h0).2 hk) (Nat.mod_lt _ h0)]
    exact inv_RZ hs hp h12 hz _ _
  · rw [List.getD_eq_getElem?_getD,List.getElem?_eq_none (by rw [invL_len];omega)]
    exact RZ0.up (by decide)
def invN (G:Fi) (n i k:Nat):Int:=lowF (invL G n n) (i*n+k)
def invD (G:Fi) (n:Nat):Int:=lowD (invL G n n)
theorem invN_row {G:Fi} {n i:Nat} (hi:i<n):((lowN (invL G n n)).take ((i+1)*n)).drop (i*n)=(List.range n).map (invN G n i):=by
  have h1:=Nat.mul_le_mul_right n (show i+1≤n by omega)
  rw [Nat.succ_mul] at h1
  apply List.ext_getElem
  · simp [lowN_len,invL_len,Nat.succ_mul];omega
  · intro k h2 h3
    simp at h3
    simp only [List.getElem_drop,List.getElem_take,lowN,List.getElem_map,List.getElem_range]
    rfl
theorem invN_rq {G:Fi} {n i k:Nat} (hs:SymG G) (hp:PosU G n) (hi:i<n) (hk:k<n):rmk (invN G n i k) (invD G n)=rq (invE G n i k):=by
  have h1:i*n+k<(invL G n n).length:=by rw [invL_len];have:=Nat.mul_le_mul_right n (show i+1≤n by omega);rw [Nat.succ_mul] at this;omega
  have:=(inv_low hs hp n).rq h1
  rw [invL_at hi hk] at this
  exact this
theorem invD_pos {G:Fi} {n:Nat} (hs:SymG G) (hp:PosU G n):0<invD G n:=((inv_low hs hp n).f _ (Nat.le_refl _)).1
theorem lowF_Sz {ps:List Rat} {D:Int} {s nD k:Nat} (h:LowOk ps D) (hD:Sz nD D) (hk:k<ps.length) (hz:RZ s (ps.getD k 0)):Sz (s+nD) (lowF ps k):=hz.a.mul (h.q hD hk)
theorem Sz.up2 {a b c:Nat} {z:Int} (h:Sz (a+b) z) (e:a+b=c):Sz c z:=e▸h
theorem invN_Sz {G:Fi} {n i k:Nat} (hs:SymG G) (hp:PosU G n) (h12:n≤12) (hz:∀i j,Sz 540 (G i j)) (hD:Sz 2300000 (uD G n)) (hi:i<n) (hk:k<n):Sz 4600000 (invN G n i k):=
  Sz.up2 (a:=2300000) (b:=2300000) (lowF_Sz (inv_low hs hp n) hD (by rw [invL_len];have:=Nat.mul_le_mul_right n (show i+1≤n by omega);rw [Nat.succ_mul] at this;omega) (inv_RZ2 hs hp h12 hz n _)) rfl
theorem invD_Sz {G:Fi} {n:Nat} (hs:SymG G) (hp:PosU G n) (hD:Sz 2300000 (uD G n)):Sz 2300000 (invD G n):=(inv_low hs hp n).le hD (Nat.le_refl _)
theorem dvA_RZ {s:Nat} {f:Fq} (h:∀i k,RZ s (f i k)) {top c:Nat} (h0:f top c≠0) (i k):RZ (s+s) (divA f top (f top c) i k):=by
  have:=dvF_RZ h (p:=top) (top:=top) (c:=c) h0 i k
  unfold dvF at this;rwa [swapF_self] at this
theorem dvA_RZ1 {s:Nat} {f:Fq} (h:∀i k,RZ s (f i k)) {top c i:Nat} (hi:i≠top) (k):RZ s (divA f top (f top c) i k):=by
  unfold divA;rw [if_neg hi];exact h i k
theorem RedP.step2 {G:Fi} {n s c top:Nat} {f0 f:Fq} {d:Rat} (h:RedP G n f0 s top f d) (e:top=c) (hs:SymG G) (hp:PosU G n) (hc:c<n):RedP G n f0 s (top+1) (elimF (divA f top (f top c)) top c n) (d*f top c):=by
  subst e
  have:=h.step hs hp hc
  unfold rdcF at this
  rwa [swapF_self] at this
theorem RedP.ne {G:Fi} {n s c top:Nat} {f0 f:Fq} {d:Rat} (h:RedP G n f0 s top f d) (e:top=c) (hs:SymG G) (hp:PosU G n) (hc:c<n):f top c≠0:=by
  subst e;exact (h.j.piv hs hp hc).2
theorem map_rq_at {ps:List Rat} {k:Nat} (h:k<ps.length):(ps.map rq)[k]?=some (rq (ps.getD k 0)):=by
  rw [List.getElem?_map,List.getElem?_eq_getElem h,gde _ _ h];rfl
abbrev gI:=@map_rq_at
theorem gcd_Sz {s:Nat} {a b:Int} (h:Sz s b) (h0:0<b):Sz s ((Int.gcd a b:Nat):Int):=by
  refine h.le ?_
  have h1:((Int.gcd a b:Nat):Int)∣b:=Int.gcd_dvd_right ..
  have:=Int.le_of_dvd h0 h1
  omega
theorem gcd_ne2 {a b:Int} (h:b≠0):((Int.gcd a b:Nat):Int)≠0:=by
  intro e
  have h1:((Int.gcd a b:Nat):Int)∣b:=Int.gcd_dvd_right ..
  rw [e] at h1
  exact h (Int.zero_dvd.1 h1)
theorem fdiv_Sz {s:Nat} {a b:Int} (h:Sz s a) (h0:0≤a) (hb:0≤b):Sz s (a.fdiv b):=by
  refine h.le ?_
  rw [Int.fdiv_eq_ediv_of_nonneg _ hb]
  have h5:=Int.ediv_le_self b h0
  have h6:=Int.ediv_nonneg h0 hb
  omega
theorem w64m {a b:Nat} (h:a*b≤1099511627776):IntKind.i64.wrap ((a:Int)*(b:Int))=((a*b:Nat):Int):=by
  rw [←Int.natCast_mul]
  exact w64 (by omega)
end Fw
namespace Fw
open Go Go.Proofs
theorem c_ref06_zero (n:Nat) (p:Rat) (hp:RZ n p) (hn:n≤68719476736):Fn Tryz.prog 260 [kRC.is (rq p)] (kBool.is (decide (p=0))):=by
 refine aO Tryz.func260 Z Z fun m w=>Cr<|aY .n Z fun b1=>Wa Z<|Wr<|Ws (aw Z cx Z)<|Ws (af Z (ag 0 Z) (aC Li) ae Z)<|Ws (aB eB (ai Z (aL (by exact hp.a.sm (by omega))) ao) (eh ((rq p).1)))<|Ws (cE Z Z)<|Wa Z<|Wn<|aA<|tl 2 Z (y:=(decide (p=0))) (decide_eq_decide.2 rq_zero) ?_
 exact Qd Z (aI Z ay) ⟨Z,Z⟩
theorem c_ref06_losep (n mc s i k:Nat) (f:Fq) (q:Rat) (vO:Value) (vs:List Value) (hv:vs.length=n) (hi:i<n) (hk:k<n) (hik:i≠k) (hmc:mc≤24) (hs:s≤9082066261) (hf:∀b,RZ s (f i b)) (hfk:∀b,RZ (s+s) (f k b)) (hq:RZ s q):Con Tryz.prog 261 [VP.ex vO,kN6.is (i:Int),kN6.is (k:Int),kRC.is (rq q)] [OB.row vO 26 kVal vs,OB.fam vs 31 kRC (tabR n mc f)] (fun p Lo=>p=VP.tup []∧Lo=[OB.row vO 26 kVal vs,OB.fam vs 31 kRC (tabR n mc (loseF f i k q mc))]∧True):=by
 refine aO Tryz.func261 Z Z fun m w=>Cr<|aY .n Z fun b1=>Wr<|Wa Z<|Wn<|aF<|tf 2 Z (y:=(tabR n mc (loseF f i k q 0))) (by rw [loseF_0])<|bL (fun (c:Nat)=>c≤mc) (fun (c:Nat)=>[(0,VP.ex vO),(1,kN6.is (i:Int)),(2,kN6.is (k:Int)),(7,VP.pt b1 0),(8,kN6.is (c:Int))]) (fun (c:Nat)=>[OB.box b1 31 kRC (rq q),OB.row vO 26 kVal vs,OB.fam vs 31 kRC (tabR n mc (loseF f i k q c))]) (fun (c:Nat)=>mc-c) 0 (by omega) (aq Z Z Z Z (az Z (ah (y:=(0:Int)) (by rfl)) ar)) (aH _) ?_
 intro c hc
 refine ab<|Cr<|Wm Z<|Wm Z<|Wm Z<|Ws (bb (k:=kVal) (xs:=vs) (n:=(i:Int)) i Z Z (ag 1 Z) U148 bM Z (by omega))<|Ws (aV (bq i Z (ag 1 Z) Li Z (y:=(vs.getD i nilV)) (gd nilV (by omega)) bM Z) (bd _))<|Ws (O.lenF i Z (ag 2 Z) Z (by omega) U26)<|tl 14 Z (y:=(mc:Int)) (by rw [tabR_rlen hi])<|Ws (aW Z Z)<|Wn ?_
 refine aM Z (fun h_t15=>?_)<|fun h_t15=>?_
 ·
  refine Ck<|ab<|aF ?_
  refine a5 (Γ:=[.fr (VP.ex vO),.fr (kN6.is (i:Int)),.fr (VP.pel vO (i*1)),.fr (VP.ex (vs.getD i nilV)),.fr (kN6.is (c:Int)),.fr (VP.ex vO),.fr (kN6.is (i:Int)),.fr (VP.pel vO (i*1)),.fr (VP.ex (vs.getD i nilV)),.fr (kN6.is (c:Int)),.fr (VP.pel (vs.getD i nilV) (c*4)),.fr (kRC.is (rq (f i c))),.fr (kRC.is (rq q)),.fr (VP.ex vO),.fr (kN6.is (k:Int)),.fr (VP.pel vO (k*1)),.fr (VP.ex (vs.getD k nilV)),.fr (kN6.is (c:Int)),.fr (VP.pel (vs.getD k nilV) (c*4)),.fr (kRC.is (rq (f k c))),.fr (kRC.is (rq (q*(f k c)))),.fr (kRC.is (rq ((f i c)-(q*f k c)))),.fr (VP.pel (vs.getD i nilV) (c*4))]) (om Z Z (om Z Z (aa Z (fun N=>bb (k:=kVal) (xs:=vs) (n:=(i:Int)) i Z Z (mN N 1 Z) U148 bM Z (by omega)) (aa Z (fun N=>aV (bq i Z (mN N 1 Z) Li Z (y:=(vs.getD i nilV)) (gd nilV (by omega)) bM Z) (bd _)) (om Z Z (om Z Z (om Z Z (aa Z (fun N=>bb (k:=kVal) (xs:=vs) (n:=(i:Int)) i Z Z (mN N 1 Z) U148 bM Z (by omega)) (aa Z (fun N=>aV (bq i Z (mN N 1 Z) Li Z (y:=(vs.getD i nilV)) (gd nilV (by omega)) bM Z) (bd _)) (om Z Z (aa Z (fun N=>cW (e:=31) (k:=kRC) (xss:=(tabR n mc (loseF f i k q c))) (n:=(c:Int)) i c Z Z (mN N 2 Z) Z (by omega) U26 aj Z (by rw [tabR_rlen (by omega)];omega)) (aa Z (fun N=>dH (k:=kRC) (xss:=(tabR n mc (loseF f i k q c))) i c Z (mN N 2 Z) Z (by omega) Li Z (y:=(rq (f i c))) (gc (f i c) (by omega) (by omega) loseF_at) aj Z) (aa Z (fun N=>af Z (mN N 0 Z) Li aj Z) (om Z Z (om Z Z (aa Z (fun N=>bb (k:=kVal) (xs:=vs) (n:=(k:Int)) k Z Z (mN N 1 Z) U148 bM Z (by omega)) (aa Z (fun N=>aV (bq k Z (mN N 1 Z) Li Z (y:=(vs.getD k nilV)) (gd nilV (by omega)) bM Z) (bd _)) (om Z Z (aa Z (fun N=>cW (e:=31) (k:=kRC) (xss:=(tabR n mc (loseF f i k q c))) (n:=(c:Int)) k c Z Z (mN N 2 Z) Z (by omega) U26 aj Z (by rw [tabR_rlen (by omega)];omega)) (aa Z (fun N=>dH (k:=kRC) (xss:=(tabR n mc (loseF f i k q c))) k c Z (mN N 2 Z) Z (by omega) Li Z (y:=(rq (f k c))) (gc (f k c) (by omega) (by omega) (loseF_k hik)) aj Z) (aa Z (fun N=>f2 dh Z Z (dl (s+s) q (f k c) (hq.up (by omega)) (hfk c) (by omega))) (aa Z (fun N=>aB d3 (aP Z (ai Z (ah (y:=rq (q*f k c)) (by rfl)) ao)) (em (s+s+s) (f i c) (q*f k c) ((hf c).up (by omega)) ((hq.mul (hfk c)).up (by omega)) (by omega))) (aa Z (fun N=>cW (e:=31) (k:=kRC) (xss:=(tabR n mc (loseF f i k q c))) (n:=(c:Int)) i c Z Z (mN N 2 Z) Z (by omega) U26 aj Z (by rw [tabR_rlen (by omega)];omega)) oz)))))))))))))))))))))))<|fun σ1=>?_
  refine aE .n (d4 2 i c Z Z Z (by omega) Li Z (y0:=(((tabR n mc (loseF f i k q c)).getD i []).getD c (0,0))) (gd (0,0) (by rw [tabR_rlen (by omega)];omega)) aj Z Lr)<|au<|Qb<|ak<|Wm Z<|Ws (aS Z Z (c:=((c:Int)+1)) (aG (by omega)))<|Wa Z<|au<|tf 2 Z (y:=(tabR n mc (loseF f i k q (c+1)))) (by rw [tabR_set (f i c-q*f k c) (by omega) (by omega),loseF_upd]) ?_
  exact bF (c+1) (by omega) (by omega) (aq Z Z Z Z (az Z (ah (y:=(((c+1):Nat):Int)) (by rfl)) ar))<|aH _
 ·
  refine dS<|c9<|c9<|dR<|tf 2 Z (y:=(tabR n mc (loseF f i k q mc))) (by rw [show c=mc by omega]) ?_
  exact bZ (.inr Z) Z ay (a6 (OS.skip (OS.keep (OS.keep OS.nil)))) ⟨Z,Z,trivial⟩
theorem c_ref06_ratsp (n mc:Nat) (f:Fi) (hn:n≤12) (hmc:mc≤24):Con Tryz.prog 230 [kMZ.is (tabW n mc f)] [] (fun p Lo=>∃(vO:Value) (vs:List Value),p=VP.ex vO∧Lo=[OB.row vO 26 kVal vs,OB.fam vs 31 kRC (tabR n mc (fun i k=>((f i k:Int):Rat)))]∧vs.length=n):=by
 refine aO Tryz.func230 Z Z fun m w=>Cr<|Wa Z<|Wr<|Wa Z<|Wn<|ab<|Cr<|Wa Z<|Wn<|aF<|bQ 26 kVal<|gL 31 kRC<|dz (fun (i:Nat) (v:Value) (us:List Value)=>i≤n∧us.length=i) (fun (i:Nat) (v:Value) (us:List Value)=>[(0,kMZ.is (tabW n mc f)),(3,VP.ex v),(4,kN6.is (i:Int))]) (fun (i:Nat) (v:Value) (us:List Value)=>[OB.fam us 31 kRC ((tabR n mc (fun i k=>((f i k:Int):Rat))).take i),OB.row v 26 kVal us]) (fun (i:Nat) (v:Value) (us:List Value)=>n-i) 0 (.slice none 0 0) [] ⟨Nat.zero_le _,Z⟩ (ac Z (ac Z (az Z (ah (y:=(0:Int)) (by rfl)) ar))) (a6 (OS.keepLe (fc (by rfl) (by rfl)) (OS.keep OS.nil))) ?_
 intro i v us ⟨hi,hvs⟩
 refine ab<|Cr<|Wm Z<|Wm Z<|Ws (aK Z U22)<|tl 9 Z (y:=(n:Int)) (by rw [tabW_len])<|Ws (aW Z Z)<|Wn ?_
 refine aM Z (fun h_t10=>?_)<|fun h_t10=>?_
 ·
  refine Ck<|ab<|aF<|Cr<|Wa Z<|Wn<|ab<|Cr<|Wa Z<|Wn<|aF<|bQ 31 kRC<|bT (fun (k:Nat) (u:Value)=>k≤mc) (fun (k:Nat) (u:Value)=>[(0,kMZ.is (tabW n mc f)),(3,VP.ex v),(4,kN6.is (i:Int)),(5,VP.ex u),(6,kN6.is (k:Int))]) (fun (k:Nat) (u:Value)=>[OB.row u 31 kRC (((tabR n mc (fun i k=>((f i k:Int):Rat))).getD i []).take k),OB.fam us 31 kRC ((tabR n mc (fun i k=>((f i k:Int):Rat))).take i),OB.row v 26 kVal us]) (fun (k:Nat) (u:Value)=>mc-k) 0 (.slice none 0 0) (by omega) (aq Z Z Z Z (az Z (ah (y:=(0:Int)) (by rfl)) ar)) (a6 (OS.keepLe (bl (by rfl)) (OS.keepLe (fc (by rfl) (by rfl)) (OS.keep OS.nil)))) ?_
  intro k u hk
  refine ab<|Cr<|Wm Z<|Wm Z<|Wm Z<|Ws (aU i Z Z U22 aJ Z (v:=((List.range mc).map (f i))) (gb (by omega)))<|Ws (aQ Z aJ)<|Ws (aK Z U23)<|tl 18 Z (y:=(mc:Int)) (by rw [rgF_len])<|Ws (aW Z Z)<|Wn ?_
  refine aM Z (fun h_t19=>?_)<|fun h_t19=>?_
  ·
   refine Ck<|ab<|aF<|ak<|Wm Z<|Wm Z<|Wm Z<|Ws (aU i Z Z U22 aJ Z (v:=((List.range mc).map (f i))) (gb (by omega)))<|Ws (aQ Z aJ)<|Wm Z<|Ws (aU k Z Z U23 ae Z (v:=(f i k)) (rgF_at (by omega)))<|Ws (aQ Z ae)<|Ws (f1 dJ Z (dE (f i k)))<|Ws (bw U26 dk (bS Z bt) Z (by decide))<|bD 0 .n Z Z Z Lr U26 dk (by simp only [List.length_cons,List.length_nil,List.length_take];omega) fun v1=>Wa Z<|au<|Qb<|ak<|Wm Z<|Ws (aS Z Z (c:=((k:Int)+1)) (aG (by omega)))<|Wa Z ?_
   refine au<|tr 0 Z (y:=(((tabR n mc (fun i k=>((f i k:Int):Rat))).getD i []).take (k+1))) (take_app2 (tabR_at (by omega) (by omega))) ?_
   exact bP (k+1) v1 (by omega) (by omega) (aq Z Z Z Z (az Z (ah (y:=(((k+1):Nat):Int)) (by rfl)) ar))<|a6<|OS.keepLe (bl (by rfl))<|OS.keepLe (fc (by rfl) (by rfl))<|OS.keep OS.nil
  ·
   refine Ex<|ak<|Wm Z<|Wm Z<|bp 0 Z fun hcell_=>Ws (bw U148 el26_val (cq Z (bo (by assumption)) bt) Z (by decide))<|bD 2 .n Z Z Z Lr U148 el26_val (by simp only [List.length_cons,List.length_nil,List.length_take];omega) fun v2=>Wa Z<|au<|Qb<|ak<|Wm Z<|Ws (aS Z Z (c:=((i:Int)+1)) (aG (by omega)))<|Wa Z<|au<|tr 0 Z (y:=((tabR n mc (fun i k=>((f i k:Int):Rat))).getD i [])) (List.take_of_length_le (by rw [tabR_rlen (by omega)];omega))<|bi (fam_push 0 Z)<|tf 0 Z (y:=((tabR n mc (fun i k=>((f i k:Int):Rat))).take (i+1))) (fG (by rw [tabR_len];omega)) ?_
   exact dc (i+1) v2 (us++[u]) (by omega) ⟨by omega,by simp [hvs]⟩ (ac Z (ac Z (az Z (ah (y:=(((i+1):Nat):Int)) (by rfl)) ar)))<|a6<|OS.keepLe (fc (by rfl) (by rfl))<|OS.keep OS.nil
 ·
  refine Ex<|Cr<|Wm Z<|Wa Z<|Wn<|aA ?_
  have hvl:us.length=n:=by omega
  refine tf 0 Z (y:=(tabR n mc (fun i k=>((f i k:Int):Rat)))) (List.take_of_length_le (by rw [tabR_len];omega))<|bi (bj [1,0] (by decide) Z) ?_
  exact bZ (.inl Z) Z (aI Z ay) (aH _) ⟨v,us,Z,Z,hvl⟩
set_option maxHeartbeats 4000000 in
theorem c_ref06_reducedp (G:Fi) (n:Nat) (hs:SymG G) (hp:PosU G n) (h0:0<n) (h12:n≤12) (hz:∀i j,Sz 540 (G i j)) (mc:Nat) (f0:Fq) (hnm:n≤mc) (hmc:mc≤24) (hf0:∀i k,i<n→k<n→f0 i k=(G i k:Rat)) (hfz:∀i k,RZ 541 (f0 i k)) (vO:Value) (vs0:List Value) (hv0:vs0.length=n):Con Tryz.prog 229 [VP.ex vO,kN6.is (mc:Int)] [OB.row vO 26 kVal vs0,OB.fam vs0 31 kRC (tabR n mc f0)] (fun p Lo=>∃(f:Fq) (hd:List Int) (d:Rat),p=VP.tup [(kSl (kSl kRC)).is (tabR n mc f),(kSl kI64).is hd,kRC.is (rq d)]∧Lo=[]∧RedJ G n f0 n f∧hd.length=n):=by
 refine aO Tryz.func229 Z Z fun m w=>?_
 have hsz:∀c,c<n→4*szE 541 c+1≤9082066261:=fun c hc=>szE_lt (by omega)
 refine Cr<|Wa Z<|Wa Z<|aX .n ba fun b1=>Wr<|Ws (aB dI (ai Z (cF (by omega)) ao) (dF 1))<|Ws (aB dJ (ai Z (aL (by exact Sm_lit (by decide))) ao) (dE 1))<|Ax (l:=kRC) (u:=rq (1:Rat)) ba Z aj (fun _=>Z) Lr fun b2=>Wr<|Wa Z<|Wr<|Wa Z<|au ?_
 refine co<|ab<|Cr<|Wa Z<|Wn<|aF<|bQ 3 kI64<|tb 1 Z (y:=(rq 1)) Z<|CW.loop6 (fun (c:Nat) (top:Nat) (f:Fq) (d:Rat) (vh:Value) (hs1:List Int)=>c≤mc∧top=min c n∧RedP G n f0 541 top f d∧hs1.length=top) (fun (c:Nat) (top:Nat) (f:Fq) (d:Rat) (vh:Value) (hs1:List Int)=>[(0,VP.ex vO),(1,kN6.is (mc:Int)),(6,VP.pt b1 0),(7,VP.pt b2 0),(8,VP.ex vh),(9,kN6.is (top:Int)),(10,kN6.is (c:Int))]) (fun (c:Nat) (top:Nat) (f:Fq) (d:Rat) (vh:Value) (hs1:List Int)=>[OB.row vh 3 kI64 hs1,OB.box b2 31 kRC (rq d),OB.box b1 31 kRC (0,0),OB.row vO 26 kVal vs0,OB.fam vs0 31 kRC (tabR n mc f)]) (fun (c:Nat) (top:Nat) (f:Fq) (d:Rat) (vh:Value) (hs1:List Int)=>mc-c) 0 0 f0 1 (.slice none 0 0) [] ⟨Nat.zero_le _,by omega,redP_0 hf0 hfz (by decide),Z⟩ (aq Z Z Z Z (ac Z (az Z (ah (y:=(0:Int)) (by rfl)) (az Z (ah (y:=(0:Int)) (by rfl)) ar)))) (aH _) ?_
 intro c top f d vh hs1 ⟨hc,htop,hR,hhs⟩
 refine ab<|Cr<|Wm Z<|Wm Z<|Ws (aW Z Z)<|Wn ?_
 refine aM Z (fun h_t19=>?_)<|fun h_t19=>?_
 ·
  refine Ck<|ab<|aF<|Cr<|Wm Z<|Wa Z<|Wn<|ab<|aF<|bL (fun (zz:Nat)=>True) (fun (zz:Nat)=>[(0,VP.ex vO),(1,kN6.is (mc:Int)),(6,VP.pt b1 0),(7,VP.pt b2 0),(8,VP.ex vh),(9,kN6.is (top:Int)),(10,kN6.is (c:Int)),(11,kN6.is (top:Int))]) (fun (zz:Nat)=>[OB.row vh 3 kI64 hs1,OB.box b2 31 kRC (rq d),OB.box b1 31 kRC (0,0),OB.row vO 26 kVal vs0,OB.fam vs0 31 kRC (tabR n mc f)]) (fun (zz:Nat)=>0) 0 trivial (aq Z Z Z Z (ac Z (ac Z (ac Z (ac Z ar))))) (aH _) ?_
  intro zz _
  refine ab<|Cr<|Wm Z<|Wm Z<|Ws (c5 Z (ag 3 Z) U148)<|Ws (aW Z Z)<|Wm Z ?_
  refine cN 27 Z (fun h_t27=>?_)<|fun h_t27=>?_
  ·
   have htc:top=c:=by omega
   have hne:f top c≠0:=hR.ne htc hs hp (by omega)
   refine Wg Z Z (bY Z)<|Wg Z Z (bY Z)<|Wg Z Z (bb (k:=kVal) (xs:=vs0) (n:=(top:Int)) top Z Z (ag 3 Z) U148 bM Z (by omega))<|Wg Z Z (aV (bq top Z (ag 3 Z) Li Z (y:=(vs0.getD top nilV)) (gd nilV (by omega)) bM Z) (bd _))<|Wg Z Z (bY Z)<|Wg Z Z (cW (e:=31) (k:=kRC) (xss:=(tabR n mc f)) (n:=(c:Int)) top c Z Z (ag 4 Z) Z (by omega) U26 aj Z (by rw [tabR_rlen (by omega)];omega))<|Wg Z Z (dH (k:=kRC) (xss:=(tabR n mc f)) top c Z (ag 4 Z) Z (by omega) Li Z (y:=(rq (f top c))) (tabR_at (by omega) (by omega)) aj Z)<|Wg Z Z (f1 fn260 Z (c_ref06_zero (szE 541 top) (f top c) (hR.z top c) (by have:=hsz top (by omega);omega)))<|Ws (cC Z Z)<|Wn ?_
   refine CN Z hne fun h_t36=>?_
   refine Ex<|ab<|Cr<|Wm Z<|Wm Z<|Ws (c5 Z (ag 3 Z) U148)<|Ws (cE Z Z)<|Wn ?_
   refine CN Z (by omega) fun h_t42=>?_
   refine Ck<|ab<|Cr<|Wm Z<|Wm Z<|Ws (bG Z Z)<|Wn ?_
   refine CN Z (fun h=>h Z) fun h_t47=>?_
   refine Ck<|Cr<|Wm Z<|Wm Z<|Ws (bb (k:=kVal) (xs:=vs0) (n:=(top:Int)) top Z Z (ag 3 Z) U148 bM Z (by omega))<|Ws (aV (bq top Z (ag 3 Z) Li Z (y:=(vs0.getD top nilV)) (gd nilV (by omega)) bM Z) (bd _))<|Wm Z<|Ws (cW (e:=31) (k:=kRC) (xss:=(tabR n mc f)) (n:=(c:Int)) top c Z Z (ag 4 Z) Z (by omega) U26 aj Z (by rw [tabR_rlen (by omega)];omega))<|Ws (dH (k:=kRC) (xss:=(tabR n mc f)) top c Z (ag 4 Z) Z (by omega) Li Z (y:=(rq (f top c))) (tabR_at (by omega) (by omega)) aj Z)<|Ax (l:=kRC) (u:=(rq (f top c))) ba Z aj (fun _=>Z) Lr fun b3=>Wr<|Ws (af Z (ag 2 Z) Li aj Z)<|Ws (af Z (ag 0 Z) Li aj Z)<|Ws (f2 dh Z Z (dl (szE 541 top+1) d (f top c) hR.zd ((hR.z top c).up (by omega)) (by have:=hsz top (by omega);omega)))<|aE .n (aD (l:=kRC) (u:=rq (d*(f top c))) 2 Z Z Z aj Z Lr)<|Wn<|ab ?_
   refine Cr<|Wa Z<|Wn<|aF<|tf 5 Z (y:=(tabR n mc (divF f top (f top c) 0))) (by rw [divF_0])<|bL (fun (k:Nat)=>k≤mc) (fun (k:Nat)=>[(0,VP.ex vO),(1,kN6.is (mc:Int)),(6,VP.pt b1 0),(7,VP.pt b2 0),(8,VP.ex vh),(9,kN6.is (top:Int)),(10,kN6.is (c:Int)),(12,VP.pt b3 0),(13,kN6.is (k:Int))]) (fun (k:Nat)=>[OB.box b3 31 kRC (rq (f top c)),OB.row vh 3 kI64 hs1,OB.box b2 31 kRC (rq (d*f top c)),OB.box b1 31 kRC (0,0),OB.row vO 26 kVal vs0,OB.fam vs0 31 kRC (tabR n mc (divF f top (f top c) k))]) (fun (k:Nat)=>mc-k) 0 (by omega) (aq Z Z Z Z (aq Z Z Z Z (az Z (ah (y:=(0:Int)) (by rfl)) ar))) (a6 (OS.keep (OS.keep (OS.keepLe (ce (by rfl)) (OS.keep (OS.keep (OS.keep OS.nil))))))) ?_
   intro k hk
   refine ab<|Cr<|Wm Z<|Wm Z<|Ws (aW Z Z)<|Wn ?_
   refine aM Z (fun h_t76=>?_)<|fun h_t76=>?_
   ·
    refine Ck<|ab<|aF ?_
    refine a5 (Γ:=[.fr (VP.ex vO),.fr (kN6.is (top:Int)),.fr (VP.pel vO (top*1)),.fr (VP.ex (vs0.getD top nilV)),.fr (kN6.is (k:Int)),.fr (VP.ex vO),.fr (kN6.is (top:Int)),.fr (VP.pel vO (top*1)),.fr (VP.ex (vs0.getD top nilV)),.fr (kN6.is (k:Int)),.fr (VP.pel (vs0.getD top nilV) (k*4)),.fr (kRC.is (rq (f top k))),.fr (kRC.is (rq (f top c))),.fr (kRC.is (rq ((f top k)/(f top c)))),.fr (VP.pel (vs0.getD top nilV) (k*4))]) (om Z Z (om Z Z (aa Z (fun N=>bb (k:=kVal) (xs:=vs0) (n:=(top:Int)) top Z Z (mN N 4 Z) U148 bM Z (by omega)) (aa Z (fun N=>aV (bq top Z (mN N 4 Z) Li Z (y:=(vs0.getD top nilV)) (gd nilV (by omega)) bM Z) (bd _)) (om Z Z (om Z Z (om Z Z (aa Z (fun N=>bb (k:=kVal) (xs:=vs0) (n:=(top:Int)) top Z Z (mN N 4 Z) U148 bM Z (by omega)) (aa Z (fun N=>aV (bq top Z (mN N 4 Z) Li Z (y:=(vs0.getD top nilV)) (gd nilV (by omega)) bM Z) (bd _)) (om Z Z (aa Z (fun N=>cW (e:=31) (k:=kRC) (xss:=(tabR n mc (divF f top (f top c) k))) (n:=(k:Int)) top k Z Z (mN N 5 Z) Z (by omega) U26 aj Z (by rw [tabR_rlen (by omega)];omega)) (aa Z (fun N=>dH (k:=kRC) (xss:=(tabR n mc (divF f top (f top c) k))) top k Z (mN N 5 Z) Z (by omega) Li Z (y:=(rq (f top k))) (gc (f top k) (by omega) (by omega) divF_at) aj Z) (aa Z (fun N=>af Z (mN N 0 Z) Li aj Z) (aa Z (fun N=>f2 fn76 Z Z (c_ref03_Div (szE 541 top) (f top k) (f top c) (hR.z top k) (hR.z top c) (by have:=hsz top (by omega);omega) hne)) (aa Z (fun N=>cW (e:=31) (k:=kRC) (xss:=(tabR n mc (divF f top (f top c) k))) (n:=(k:Int)) top k Z Z (mN N 5 Z) Z (by omega) U26 aj Z (by rw [tabR_rlen (by omega)];omega)) oz)))))))))))))))<|fun σ1=>?_
    refine aE .n (d4 5 top k Z Z Z (by omega) Li Z (y0:=(((tabR n mc (divF f top (f top c) k)).getD top []).getD k (0,0))) (gd (0,0) (by rw [tabR_rlen (by omega)];omega)) aj Z Lr)<|au<|Qb<|ak<|Wm Z<|Ws (aS Z Z (c:=((k:Int)+1)) (aG (by omega)))<|Wa Z<|au<|tf 5 Z (y:=(tabR n mc (divF f top (f top c) (k+1)))) (by rw [tabR_set (f top k/f top c) (by omega) (by omega),divF_upd]) ?_
    exact bF (k+1) (by omega) (by omega) (aq Z Z Z Z (aq Z Z Z Z (az Z (ah (y:=(((k+1):Nat):Int)) (by rfl)) ar)))<|aH _
   ·
    refine Ex<|ab<|Cr<|Wa Z<|Wn<|aF<|tf 5 Z (y:=(tabR n mc (elimF (divA f top (f top c)) top c 0))) (by rw [elimF_0,show k=mc by omega];exact tabR_div)<|bL (fun (i:Nat)=>i≤n) (fun (i:Nat)=>[(0,VP.ex vO),(1,kN6.is (mc:Int)),(6,VP.pt b1 0),(7,VP.pt b2 0),(8,VP.ex vh),(9,kN6.is (top:Int)),(10,kN6.is (c:Int)),(14,kN6.is (i:Int))]) (fun (i:Nat)=>[OB.row vh 3 kI64 hs1,OB.box b2 31 kRC (rq (d*f top c)),OB.box b1 31 kRC (0,0),OB.row vO 26 kVal vs0,OB.fam vs0 31 kRC (tabR n mc (elimF (divA f top (f top c)) top c i))]) (fun (i:Nat)=>n-i) 0 (by omega) (aq Z Z Z Z (ac Z (ac Z (ac Z (az Z (ah (y:=(0:Int)) (by rfl)) ar))))) (a6 (OS.skip (OS.keep (OS.keep (OS.keep (OS.keep (OS.keep OS.nil))))))) ?_
    intro i hi
    refine ab<|Cr<|Wm Z<|Wm Z<|Ws (c5 Z (ag 3 Z) U148)<|Ws (aW Z Z)<|Wn ?_
    refine aM Z (fun h_t97=>?_)<|fun h_t97=>?_
    ·
     refine Ck<|ab<|aF<|Cr<|Wm Z<|Wm Z<|Ws (bG Z Z)<|Wm Z ?_
     refine cN 103 Z (fun h_t103=>?_)<|fun h_t103=>?_
     ·
      refine Wg Z Z (bY Z)<|Wg Z Z (bY Z)<|Wg Z Z (bb (k:=kVal) (xs:=vs0) (n:=(i:Int)) i Z Z (ag 3 Z) U148 bM Z (by omega))<|Wg Z Z (aV (bq i Z (ag 3 Z) Li Z (y:=(vs0.getD i nilV)) (gd nilV (by omega)) bM Z) (bd _))<|Wg Z Z (bY Z)<|Wg Z Z (cW (e:=31) (k:=kRC) (xss:=(tabR n mc (elimF (divA f top (f top c)) top c i))) (n:=(c:Int)) i c Z Z (ag 4 Z) Z (by omega) U26 aj Z (by rw [tabR_rlen (by omega)];omega))<|Wg Z Z (dH (k:=kRC) (xss:=(tabR n mc (elimF (divA f top (f top c)) top c i))) i c Z (ag 4 Z) Z (by omega) Li Z (y:=(rq (divA f top (f top c) i c))) (gc (divA f top (f top c) i c) (by omega) (by omega) elimF_i) aj Z)<|Wg Z Z (f1 fn260 Z (c_ref06_zero (szE 541 top) (divA f top (f top c) i c) (dvA_RZ1 hR.z (by omega) c) (by have:=hsz top (by omega);omega)))<|Wg Z Z (ez Z)<|Ws (cC Z Z)<|Wn ?_
      refine eN Z (fun h_t113=>?_)<|fun h_t113=>?_
      ·
       refine ak<|Wm Z<|Wm Z<|Wm Z<|Wm Z<|Wm Z<|Ws (bb (k:=kVal) (xs:=vs0) (n:=(i:Int)) i Z Z (ag 3 Z) U148 bM Z (by omega))<|Ws (aV (bq i Z (ag 3 Z) Li Z (y:=(vs0.getD i nilV)) (gd nilV (by omega)) bM Z) (bd _))<|Wm Z<|Ws (cW (e:=31) (k:=kRC) (xss:=(tabR n mc (elimF (divA f top (f top c)) top c i))) (n:=(c:Int)) i c Z Z (ag 4 Z) Z (by omega) U26 aj Z (by rw [tabR_rlen (by omega)];omega))<|Ws (dH (k:=kRC) (xss:=(tabR n mc (elimF (divA f top (f top c)) top c i))) i c Z (ag 4 Z) Z (by omega) Li Z (y:=(rq (divA f top (f top c) i c))) (gc (divA f top (f top c) i c) (by omega) (by omega) elimF_i) aj Z)<|bi (bj [3,4,0,1,2] (by decide) Z)<|ct (Li:=[OB.row vO 26 kVal vs0,OB.fam vs0 31 kRC (tabR n mc (elimF (divA f top (f top c)) top c i))]) (L:=[OB.row vh 3 kI64 hs1,OB.box b2 31 kRC (rq (d*f top c)),OB.box b1 31 kRC (0,0)]) .n fn261 (aP Z (aP Z (aP Z (aP Z ao)))) (c_ref06_losep n mc (szE 541 top) i top (elimF (divA f top (f top c)) top c i) (divA f top (f top c) i c) vO vs0 (by omega) (by omega) (by omega) (by omega) hmc (by have:=hsz top (by omega);omega) (fun x=>by rw [elimF_i];exact dvA_RZ1 hR.z (by omega) x) (fun x=>by rw [elimF_top];exact dvA_RZ hR.z hne top x) (dvA_RZ1 hR.z (by omega) c)) fun p_ Lo_ hp_=>?_
       obtain ⟨rfl,rfl,hx_t124⟩:=hp_
       refine au<|Qb<|ak<|Wm Z<|Ws (aS Z Z (c:=((i:Int)+1)) (aG (by omega)))<|Wa Z<|au<|bi (bj [2,3,4,0,1] (by decide) Z)<|tf 4 Z (y:=(tabR n mc (elimF (divA f top (f top c)) top c (i+1)))) (elimF_lose2 (by omega)) ?_
       exact bF (i+1) (by omega) (by omega) (aq Z Z Z Z (ac Z (ac Z (ac Z (az Z (ah (y:=(((i+1):Nat):Int)) (by rfl)) ar)))))<|aH _
      ·
       refine cB<|Qb<|ak<|Wm Z<|Ws (aS Z Z (c:=((i:Int)+1)) (aG (by omega)))<|Wa Z<|au<|tf 4 Z (y:=(tabR n mc (elimF (divA f top (f top c)) top c (i+1)))) (by rw [elimF_skip (.inr (by simpa using h_t113))]) ?_
       exact bF (i+1) (by omega) (by omega) (aq Z Z Z Z (ac Z (ac Z (ac Z (az Z (ah (y:=(((i+1):Nat):Int)) (by rfl)) ar)))))<|aH _
     ·
      refine Kf Z Z<|Kf Z Z<|Kf Z Z<|Kf Z Z<|Kf Z Z<|Kf Z Z<|Kf Z Z<|Kf Z Z<|Kf Z Z<|Ws (cg Z Z)<|Wn<|dB Z<|cB<|Qb<|ak<|Wm Z<|Ws (aS Z Z (c:=((i:Int)+1)) (aG (by omega)))<|Wa Z<|au<|tf 4 Z (y:=(tabR n mc (elimF (divA f top (f top c)) top c (i+1)))) (by rw [elimF_skip (.inl (by omega))]) ?_
      exact bF (i+1) (by omega) (by omega) (aq Z Z Z Z (ac Z (ac Z (ac Z (az Z (ah (y:=(((i+1):Nat):Int)) (by rfl)) ar)))))<|aH _
    ·
     refine Ex<|Cr<|Wm Z<|Wm Z<|Ws (bw U155 fN (cq Z (cF (by omega)) bt) Z (by decide))<|bD 0 .n Z Z Z Lr U155 fN (by simp;omega) fun v4=>Wa Z<|Wn<|ak<|Wm Z<|Ws (aS Z Z (c:=((top:Int)+1)) (aG (by omega)))<|Wa Z<|au<|Qb<|ak<|Wm Z<|Ws (aS Z Z (c:=((c:Int)+1)) (aG (by omega))) ?_
     refine Wa Z<|au<|tf 4 Z (y:=(tabR n mc (elimF (divA f top (f top c)) top c n))) (by rw [show i=n by omega]) ?_
     exact fp (c+1) (top+1) (elimF (divA f top (f top c)) top c n) (d*f top c) v4 (hs1++[(c:Int)]) (by omega) ⟨by omega,by omega,hR.step2 htc hs hp (by omega),by simp [hhs]⟩ (aq Z Z Z Z (ac Z (az Z (ah (y:=(((top+1):Nat):Int)) (by rfl)) (az Z (ah (y:=(((c+1):Nat):Int)) (by rfl)) ar))))<|aH _
  ·
   refine Kf Z Z<|Kf Z Z<|Kf Z Z<|Kf Z Z<|Kf Z Z<|Kf Z Z<|Kf Z Z<|Kf Z Z<|Ws (cg Z Z)<|Wn<|dB Z<|Ex<|ab<|Cr<|Wm Z<|Wm Z<|Ws (c5 Z (ag 3 Z) U148)<|Ws (cE Z Z) ?_
   refine Wn ?_
   refine CY Z (by omega) fun h_t42=>?_
   refine Cr<|Ws (aB dI (ai Z (cF (by omega)) ao) (dF 0))<|Ws (aB dJ (ai Z (aL (by exact Sm_lit (by decide))) ao) (dE 0))<|aE .n (aD (l:=kRC) (u:=rq (0:Rat)) 1 Z Z Z aj Z Lr)<|Wn<|dS<|c9<|dR<|co<|ak<|Wm Z<|Ws (aS Z Z (c:=((c:Int)+1)) (aG (by omega)))<|Wa Z<|au<|tb 1 Z (y:=(rq 0)) Z ?_
   exact fp (c+1) top f 0 vh hs1 (by omega) ⟨by omega,by omega,hR.zero (c2:=c),hhs⟩ (aq Z Z Z Z (ac Z (ac Z (az Z (ah (y:=(((c+1):Nat):Int)) (by rfl)) ar))))<|aH _
 ·
  refine Ex<|ab ?_
  have htn:top=n:=by omega
  refine ST.freezeM 4 3 Z Z (.hit (i:=0) Z (kp 1 Z (kp 6 Z (kp 7 Z (kp 8 Z (kp 9 Z (kp 10 Z (kp 17 Z (kp 18 Z (kp 19 Z .nil))))))))))<|bi (bj [2,0,1] (by decide) Z)<|CW.drawN (Γ:=[.fr ((kSl (kSl kRC)).is (tabR n mc f)),.fr (kN6.is (top:Int)),.fr ((kSl (kSl kRC)).is ((tabR n mc f).take top)),.fr (VP.ex vh),.fr (kRC.is (rq d)),.fr ((kSl (kSl kRC)).is ((tabR n mc f).take top)),.fr (VP.ex vh),.st 0]) (B:=[⟨7,OB.box b1 31 kRC (0,0),OB.box b1 31 kRC (rq d)⟩]) (Lr:=[OB.row vh 3 kI64 hs1,OB.box b2 31 kRC (rq d)]) (nm Z Z (nm Z Z (nf Z (fun N=>(O.slH top Z Z U148 bM Z (by simp only [tabW_len,tabR_len,rgF_len];omega))) (nm Z Z (nf Z (fun N=>(af Z (mN N 1 Z) Li aj Z)) (nf Z (fun N=>(bu Z)) (nf Z (fun N=>(bu Z)) (ns Z Z (fun N=>(aD (l:=kRC) (u:=(rq d)) 0 Z Z Z aj Z Lr)) nz))))))))<|co<|aA<|bJ 1 Z (kp 0 Z (kp 1 Z (kp 4 Z (.hit (i:=5) Z (kp 6 Z (kp 7 Z (.hit (i:=8) Z (kp 9 Z (kp 10 Z (kp 17 Z (kp 18 Z (kp 19 Z (kp 131 Z (kp 132 Z (kp 133 Z (.hit (i:=134) Z (kp 135 Z .nil)))))))))))))))))<|tl 4 Z (y:=(tabR n mc f)) (by rw [htn];exact List.take_of_length_le (by rw [tabR_len];omega)) ?_
  exact bZ (.inl Z) Z (aI Z (aI Z (aZ Z (ag 0 Z) aj ay))) (fL (List.nil_sublist _)) ⟨f,hs1,d,Z,Z,⟨(htn▸hR).j,by omega⟩⟩
theorem c_ref06_Checkp (n c:Nat) (f:Fi) (h0:0<n) (h12:n≤12) (hc:c≤24):Fn Tryz.prog 227 [kMZ.is (tabW n c f)] (kN6.is 0):=by
 refine aO Tryz.func227 Z Z fun m w=>?_
 have hsh:=tabW_sh (c:=c) (f:=f) h0
 refine Cr<|Wa Z<|Wr<|Wm Z<|Ws (f1 fn126 Z (gm (tabW n c f)))<|Wm Z<|Ws (aN Z Z)<|Ws (aN Z Z)<|Ws (aN Z Z)<|Wa Z<|Wa Z<|Wa Z<|Wn<|ab<|Cr<|Wm Z<|Ws (bG Z Z)<|au ?_
 refine co ?_
 refine CN Z (by omega) fun h_t13=>?_
 refine Ck<|ab<|Cr<|Wm Z<|Ws (cz Z Z)<|Wm Z ?_
 refine cN 16 Z (fun h=>absurd h (by omega))<|fun h_t16=>?_
 refine Wg Z Z (bY Z)<|Wg Z Z (cz Z Z)<|Ws (cg Z Z)<|Wn ?_
 refine CN Z (by omega) fun h_t19=>?_
 refine Ck<|Cr<|Wa Z<|Wn<|aA ?_
 exact Qd Z (aI Z ay) ⟨Z,Z⟩
theorem c_ref06_colsp (n c:Nat) (f:Fi) (h0:0<n):Fn Tryz.prog 228 [kMZ.is (tabW n c f)] (kN6.is (c:Int)):=by
 refine aO Tryz.func228 Z Z fun m w=>?_
 have hsh:=tabW_sh (c:=c) (f:=f) h0
 refine Cr<|Wa Z<|Wr<|Wm Z<|Ws (f1 fn126 Z (gm (tabW n c f)))<|Wm Z<|Ws (aN Z Z)<|Ws (aN Z Z)<|Ws (aN Z Z)<|Wa Z<|Wa Z<|Wa Z<|Wr<|Wm Z<|Wa Z<|Wn ?_
 refine aA ?_
 exact Qd Z (du Z (ah (y:=(c:Int)) (by omega)) ay) ⟨Z,Z⟩
theorem c_ref06_Rank (G:Fi) (n:Nat) (hs:SymG G) (hp:PosU G n) (h0:0<n) (h12:n≤12) (hz:∀i j,Sz 540 (G i j)):Fn Tryz.prog 234 [kMZ.is (tabW n n G)] (VP.tup [kN6.is (n:Int),kN6.is 0]):=by
 refine aO Tryz.func234 Z Z fun m w=>Cr<|Wa Z<|Wa Z<|Wr<|Wm Z<|Ws (f1 fn227 Z (c_ref06_Checkp n n G (by assumption) (by assumption) (by omega)))<|Wa Z<|Wn<|ab<|Cr<|Wm Z<|Ws (bG Z Z)<|Wn ?_
 refine CN Z (fun h=>h Z) fun h_t11=>?_
 refine Ck<|Cr<|Wm Z<|ct (Li:=[]) (L:=[]) .n fn230 (aP Z ao) (c_ref06_ratsp n n G (by assumption) (by omega)) fun p_ Lo_ hp_=>?_
 obtain ⟨vO,vs,rfl,rfl,hvs⟩:=hp_
 refine Wm Z<|Ws (f1 fn228 Z (c_ref06_colsp n n G (by assumption)))<|ct (Li:=[OB.row vO 26 kVal vs,OB.fam vs 31 kRC (tabR n n (fun i k=>((G i k:Int):Rat)))]) (L:=[]) .n fn229 (aP Z (aP Z ao)) (c_ref06_reducedp G n (by assumption) (by assumption) (by assumption) (by assumption) (by assumption) n (fun i k=>((G i k:Int):Rat)) (by omega) (by omega) (fun i k _ _=>Z) (qF_RZ hz) vO vs hvs) fun p_ Lo_ hp_=>?_
 obtain ⟨f,hd,d,rfl,rfl,hx⟩:=hp_
 refine Wm Z<|Ws (aN Z Z)<|Ws (aN Z Z)<|Ws (aN Z Z)<|aX .n ba fun b1=>Wa Z<|Wa Z<|aE .n (aD (l:=kRC) (u:=rq d) 0 Z Z Z aj Z Lr)<|Wn<|ab ?_
 obtain ⟨hx1,hx2⟩:=hx
 refine ak<|Wm Z<|Ws (aK Z U155)<|tl 23 Z (y:=(n:Int)) (by rw [hx2])<|Wa Z<|Wa Z<|Wn<|aA ?_
 exact Qd Z (aI Z (aI Z ay)) ⟨Z,Z⟩
theorem c_ref06_lowest (ps:List Rat) (D:Int) (s nD:Nat) (h:LowOk ps D) (hD:Sz nD D) (hz:∀k,RZ s (ps.getD k 0)) (hs:s≤68719476736) (hn:nD≤68719476736):Fn Tryz.prog 235 [(kSl kRC).is (ps.map rq)] (VP.tup [kVC.is (lowN ps),kC.is (lowD ps)]):=by
 refine aO Tryz.func235 Z Z fun m w=>a9 (i:=0) Z bI fun hB0=>?_
 have hB1:ps.length≤1099511627776:=by simpa using hB0
 have hml:(ps.map rq).length=ps.length:=by simp
 have hgz:∀i,i<ps.length→Sz s ((Int.gcd (lcmF ps i) (rq (ps.getD i 0)).2:Nat):Int):=fun i hi=>gcd_Sz (hz i).b (rq_den_pos _)
 have hfz:∀i,Sz s ((rq (ps.getD i 0)).2.fdiv ((Int.gcd (lcmF ps i) (rq (ps.getD i 0)).2:Nat):Int)):=fun i=>fdiv_Sz (hz i).b (by have:=rq_den_pos (ps.getD i 0);omega) (Int.natCast_nonneg _)
 refine Cr<|Wa Z<|aX .n bc fun b1=>Wr<|Ws (aB dI (ai Z (cF (by omega)) ao) (dF 1))<|Ax (l:=kC) (u:=1) bc Z ae (fun _=>Z) Lr fun b2=>Wn<|ab<|Cr<|Wa Z<|Wn<|aF<|tb 0 Z (y:=(lcmF ps 0)) Z<|bL (fun (i:Nat)=>i≤ps.length) (fun (i:Nat)=>[(0,(kSl kRC).is (ps.map rq)),(3,VP.pt b1 0),(4,VP.pt b2 0),(5,kN6.is (i:Int))]) (fun (i:Nat)=>[OB.box b2 29 kC (lcmF ps i),OB.box b1 29 kC 0]) (fun (i:Nat)=>ps.length-i) 0 (Nat.zero_le _) (ac Z (ac Z (ac Z (az Z (ah (y:=(0:Int)) (by rfl)) ar)))) (aH _) ?_
 intro i hi
 refine ab<|Cr<|Wm Z<|Wm Z<|Ws (aK Z U26)<|tl 16 Z (y:=(ps.length:Int)) (by rw [hml])<|Ws (aW Z Z)<|Wn ?_
 refine aM Z (fun h_t17=>?_)<|fun h_t17=>?_
 ·
  refine Ck<|ab<|aF<|ab ?_
  refine a5 (Γ:=[.fr (kC.is (lcmF ps i)),.fr ((kSl kRC).is (ps.map rq)),.fr (kN6.is (i:Int)),.fr (VP.pim kRC (rq (ps.getD i 0))),.fr (VP.pim kC ((rq (ps.getD i 0)).2)),.fr (kC.is ((rq (ps.getD i 0)).2)),.fr (kC.is (Int.gcd (lcmF ps i) ((rq (ps.getD i 0)).2):Int)),.al (fun b=>OB.box b 29 kC 0)]) (aa Z (fun N=>af Z (mN N 0 Z) Li ae Z) (om Z Z (om Z Z (aa Z (fun N=>aU i Z Z U26 aj Z (v:=(rq (ps.getD i 0))) (gI (by omega))) (aa Z (fun N=>cL Z bX (am Li) Z) (aa Z (fun N=>aQ Z ae) (aa Z (fun N=>aB fn264 (ai Z (aL ((h.le hD (by omega)).sm (by omega))) (ai Z (aL ((hz i).b.sm (by omega))) ao)) (c_ref02_Gcd (lcmF ps i) ((rq (ps.getD i 0)).2))) (oc (cM Z bc) oz))))))))<|fun σ1=>?_
  refine aE .n (aD (l:=kC) (u:=(Int.gcd (lcmF ps i) ((rq (ps.getD i 0)).2):Int)) 0 Z Z Z ae Z Lr)<|Wn<|ab ?_
  refine a5 (Γ:=[.fr ((kSl kRC).is (ps.map rq)),.fr (kN6.is (i:Int)),.fr (VP.pim kRC (rq (ps.getD i 0))),.fr (VP.pim kC ((rq (ps.getD i 0)).2)),.fr (kC.is ((rq (ps.getD i 0)).2)),.fr (kC.is (Int.gcd (lcmF ps i) ((rq (ps.getD i 0)).2):Int)),.fr (VP.tup [kC.is (((rq (ps.getD i 0)).2).fdiv (Int.gcd (lcmF ps i) ((rq (ps.getD i 0)).2):Int)),kC.is (((rq (ps.getD i 0)).2).fmod (Int.gcd (lcmF ps i) ((rq (ps.getD i 0)).2):Int))]),.fr (VP.tup [kC.is (((rq (ps.getD i 0)).2).fdiv (Int.gcd (lcmF ps i) ((rq (ps.getD i 0)).2):Int)),kC.is (((rq (ps.getD i 0)).2).fmod (Int.gcd (lcmF ps i) ((rq (ps.getD i 0)).2):Int))]),.fr (kC.is (((rq (ps.getD i 0)).2).fdiv (Int.gcd (lcmF ps i) ((rq (ps.getD i 0)).2):Int))),.lt (kC.is (((rq (ps.getD i 0)).2).fmod (Int.gcd (lcmF ps i) ((rq (ps.getD i 0)).2):Int))),.al (fun b=>OB.box b 29 kC 0),.al (fun b=>OB.box b 29 kC 0)]) (om Z Z (om Z Z (aa Z (fun N=>aU i Z Z U26 aj Z (v:=(rq (ps.getD i 0))) (gI (by omega))) (aa Z (fun N=>cL Z bX (am Li) Z) (aa Z (fun N=>aQ Z ae) (aa Z (fun N=>af Z (mN N 0 Z) Li ae Z) (aa Z (fun N=>aB fn162 (ai Z (aL ((hz i).b.sm (by omega))) (ai Z (aL ((hgz i (by omega)).sm (by omega))) ao)) (gO ((rq (ps.getD i 0)).2) (Int.gcd (lcmF ps i) ((rq (ps.getD i 0)).2):Int) (gcd_ne2 (dX _)))) (om Z Z (aa Z (fun N=>aN Z Z) (oc (c7 Z .n (dw Z Z)) (oc (cM Z bc) (oc (cM Z bc) oz))))))))))))<|fun σ2=>?_
  refine aE .n (aD (l:=kC) (u:=((rq (ps.getD i 0)).2).fdiv (Int.gcd (lcmF ps i) ((rq (ps.getD i 0)).2):Int)) 0 Z Z Z ae Z Lr)<|aE .n (aD (l:=kC) (u:=((rq (ps.getD i 0)).2).fmod (Int.gcd (lcmF ps i) ((rq (ps.getD i 0)).2):Int)) 1 Z Z Z ae Z Lr)<|Wn<|ak<|Ws (af Z (ag 3 Z) Li ae Z)<|Ws (af Z (ag 0 Z) Li ae Z)<|Ws (aB dx (ai Z (aL ((h.le hD (by omega)).sm (by omega))) (ai Z (aL ((hfz i).sm (by omega))) ao)) (dq (lcmF ps i) (((rq (ps.getD i 0)).2).fdiv (Int.gcd (lcmF ps i) ((rq (ps.getD i 0)).2):Int))))<|aE .n (aD (l:=kC) (u:=(lcmF ps i)*(((rq (ps.getD i 0)).2).fdiv (Int.gcd (lcmF ps i) ((rq (ps.getD i 0)).2):Int))) 3 Z Z Z ae Z Lr)<|au<|Qb<|ak<|Wm Z<|Ws (aS Z Z (c:=((i:Int)+1)) (aG (by omega)))<|Wa Z<|au<|tb 3 Z (y:=(lcmF ps (i+1))) Z<|bi (bj [3,4] (by decide) Z) ?_
  exact bF (i+1) (by omega) (by omega) (ac Z (ac Z (ac Z (az Z (ah (y:=(((i+1):Nat):Int)) (by rfl)) ar))))<|aH _
 ·
  refine Ex<|ab<|tb 0 Z (y:=(lowD ps)) (by rw [show i=ps.length by omega];rfl)<|ak<|Wa Z<|Wn<|ab<|Cr<|Wa Z<|Wn<|aF<|bQ 29 kC<|bT (fun (i:Nat) (v:Value)=>i≤ps.length) (fun (i:Nat) (v:Value)=>[(0,(kSl kRC).is (ps.map rq)),(3,VP.pt b1 0),(4,VP.pt b2 0),(9,VP.ex v),(10,kN6.is (i:Int))]) (fun (i:Nat) (v:Value)=>[OB.row v 29 kC ((lowN ps).take i),OB.box b2 29 kC (lowD ps),OB.box b1 29 kC 0]) (fun (i:Nat) (v:Value)=>ps.length-i) 0 (.slice none 0 0) (Nat.zero_le _) (aq Z Z Z Z (az Z (ah (y:=(0:Int)) (by rfl)) ar)) (a6 (OS.keepLe (bl (by rfl)) (OS.keep (OS.keep OS.nil)))) ?_
  intro i v hi
  refine ab<|Cr<|Wm Z<|Wm Z<|Ws (aK Z U26)<|tl 42 Z (y:=(ps.length:Int)) (by rw [hml])<|Ws (aW Z Z)<|Wn ?_
  refine aM Z (fun h_t43=>?_)<|fun h_t43=>?_
  ·
   refine Ck<|ab<|aF<|ab ?_
   refine a5 (Γ:=[.fr (kC.is (lowD ps)),.fr ((kSl kRC).is (ps.map rq)),.fr (kN6.is (i:Int)),.fr (VP.pim kRC (rq (ps.getD i 0))),.fr (VP.pim kC ((rq (ps.getD i 0)).2)),.fr (kC.is ((rq (ps.getD i 0)).2)),.fr (VP.tup [kC.is ((lowD ps).fdiv ((rq (ps.getD i 0)).2)),kC.is ((lowD ps).fmod ((rq (ps.getD i 0)).2))]),.fr (VP.tup [kC.is ((lowD ps).fdiv ((rq (ps.getD i 0)).2)),kC.is ((lowD ps).fmod ((rq (ps.getD i 0)).2))]),.fr (kC.is ((lowD ps).fdiv ((rq (ps.getD i 0)).2))),.lt (kC.is ((lowD ps).fmod ((rq (ps.getD i 0)).2))),.al (fun b=>OB.box b 29 kC 0),.al (fun b=>OB.box b 29 kC 0)]) (aa Z (fun N=>af Z (mN N 1 Z) Li ae Z) (om Z Z (om Z Z (aa Z (fun N=>aU i Z Z U26 aj Z (v:=(rq (ps.getD i 0))) (gI (by omega))) (aa Z (fun N=>cL Z bX (am Li) Z) (aa Z (fun N=>aQ Z ae) (aa Z (fun N=>aB fn162 (ai Z (aL ((h.le hD (by omega)).sm (by omega))) (ai Z (aL ((hz i).b.sm (by omega))) ao)) (gO (lowD ps) ((rq (ps.getD i 0)).2) (dX _))) (om Z Z (aa Z (fun N=>aN Z Z) (oc (c7 Z .n (dw Z Z)) (oc (cM Z bc) (oc (cM Z bc) oz))))))))))))<|fun σ3=>?_
   refine aE .n (aD (l:=kC) (u:=(lowD ps).fdiv ((rq (ps.getD i 0)).2)) 0 Z Z Z ae Z Lr)<|aE .n (aD (l:=kC) (u:=(lowD ps).fmod ((rq (ps.getD i 0)).2)) 1 Z Z Z ae Z Lr)<|Wn ?_
   refine a5 (Γ:=[.fr (VP.ex v),.fr ((kSl kRC).is (ps.map rq)),.fr (kN6.is (i:Int)),.fr (VP.pim kRC (rq (ps.getD i 0))),.fr (VP.pim kC ((rq (ps.getD i 0)).1)),.fr (kC.is ((rq (ps.getD i 0)).1)),.fr (kC.is ((lowD ps).fdiv ((rq (ps.getD i 0)).2))),.fr (kC.is (((rq (ps.getD i 0)).1)*((lowD ps).fdiv ((rq (ps.getD i 0)).2)))),.fr (kVC.is [((rq (ps.getD i 0)).1)*((lowD ps).fdiv ((rq (ps.getD i 0)).2))])]) (om Z Z (om Z Z (om Z Z (aa Z (fun N=>aU i Z Z U26 aj Z (v:=(rq (ps.getD i 0))) (gI (by omega))) (aa Z (fun N=>cL Z cx (aC Li) Z) (aa Z (fun N=>aQ Z ae) (aa Z (fun N=>af Z (mN N 0 Z) Li ae Z) (aa Z (fun N=>aB dx (ai Z (aL ((hz i).a.sm (by omega))) (ai Z (aL ((h.q hD (by omega)).sm (by omega))) ao)) (dq ((rq (ps.getD i 0)).1) ((lowD ps).fdiv ((rq (ps.getD i 0)).2)))) (aa Z (fun N=>bw U23 bn (bS Z bt) Z (by decide)) oz)))))))))<|fun σ4=>?_
   refine bD 2 .n Z Z Z Lr U23 bn (by simp;omega) fun v3=>Wa Z<|au<|Qb<|ak<|Wm Z<|Ws (aS Z Z (c:=((i:Int)+1)) (aG (by omega)))<|Wa Z<|au<|tr 2 Z (y:=((lowN ps).take (i+1))) (take_app2 (lowN_at (by omega)))<|bi (bj [2,3,4] (by decide) Z) ?_
   exact bP (i+1) v3 (by omega) (by omega) (aq Z Z Z Z (az Z (ah (y:=(((i+1):Nat):Int)) (by rfl)) ar))<|aH _
  ·
   refine Ex<|ab<|tr 0 Z (y:=(lowN ps)) (List.take_of_length_le (by rw [lowN_len];omega))<|bJ 0 Z (kp 0 Z (kp 3 Z (kp 4 Z (.hit (i:=9) Z (kp 10 Z (kp 40 Z (kp 41 Z (kp 42 Z (kp 43 Z .nil))))))))) ?_
   refine fh [(0,(kSl kRC).is (ps.map rq)),(2,kVC.is (lowN ps)),(3,VP.pt b1 0),(4,VP.pt b2 0),(9,kVC.is (lowN ps)),(10,kN6.is (i:Int)),(40,kN6.is (i:Int)),(41,(kSl kRC).is (ps.map rq)),(42,kN6.is (ps.length:Int)),(43,kBool.is (decide ((i:Int)<(ps.length:Int)))),(66,kVC.is (lowN ps)),(67,kC.is (lowD ps))] [OB.box b2 29 kC (lowD ps),OB.box b1 29 kC (lowD ps)] ?_ ?_
   ·
    refine dU (by kernel_rfl)<|bK 0 Z (by kernel_rfl) (by kernel_rfl) (by kernel_rfl) (fun _ _ _ _ _ h=>h) .n (dL Z) ?_
    refine bO 1 [2] ⟨?_,⟨?_,trivial⟩⟩
    ·
     refine aT Z .n (af Z (ag 0 Z) Li ae Z)<|aR 2<|aT Z .n (bu Z)<|aR 3<|bE Z .n (aD (l:=kC) (u:=(lowD ps)) 1 Z Z Z ae Z Lr)<|bv (by kernel_rfl) ?_
     exact cA (aq Z Z Z Z (aq Z Z Z Z (ac Z (ac Z (ac Z (ac Z ar))))))<|aH _
    ·
     refine aT Z .n (bu Z)<|aR 1<|aT Z .n (af Z (ag 0 Z) Li ae Z)<|aR 3<|bE Z .n (aD (l:=kC) (u:=(lowD ps)) 1 Z Z Z ae Z Lr)<|bv (by kernel_rfl) ?_
     exact cA (aq Z Z Z Z (aq Z Z Z Z (ac Z (ac Z (ac Z (ac Z ar))))))<|aH _
   refine co<|aA ?_
   exact Qd Z (aI Z (aZ Z (ag 1 Z) ae ay)) ⟨Z,Z⟩
theorem c_ref04_Gram (n mc nb:Nat) (R:List (List Int)) (hr:CR n mc R) (hz:SzM nb R) (h0:0<n) (hn:n≤12) (hmc:mc≤12) (hnb:nb≤1048576):Fn Tryz.prog 170 [kMZ.is R] (VP.tup [kMC.is (tabW n n (gram R)),kN6.is 0]):=by
 refine aO Tryz.func170 Z Z fun m w=>?_
 have hl:=hr.len
 have hsh:shE R=0:=by unfold shE;rw [if_pos (rect_iff.2 hr.rl)]
 refine Cr<|Wa Z<|Wa Z<|Wr<|Wm Z<|Ws (f1 fn126 Z (gm R))<|Wm Z<|Ws (aN Z Z)<|Ws (aN Z Z)<|Ws (aN Z Z)<|Wa Z<|Wa Z<|Wa Z<|Wn<|ab<|Cr<|Wm Z<|Ws (bG Z Z) ?_
 refine Wn ?_
 refine CN Z (by omega) fun h_t20=>?_
 refine Ck<|Cr<|Wa Z<|Wn<|ab<|Cr<|Wa Z<|Wn<|aF<|bQ 23 kVC<|bT (fun (i:Nat) (v:Value)=>i≤n) (fun (i:Nat) (v:Value)=>[(0,kMZ.is R),(7,VP.ex v),(8,kN6.is (i:Int))]) (fun (i:Nat) (v:Value)=>[OB.row v 23 kVC (tabW i n (gram R))]) (fun (i:Nat) (v:Value)=>n-i) 0 (.slice none 0 0) (Nat.zero_le _) (ac Z (ac Z (az Z (ah (y:=(0:Int)) (by rfl)) ar))) (a6 (OS.keepLe (bl (by rfl)) OS.nil)) ?_
 intro i v hi
 refine ab<|Cr<|Wm Z<|Wm Z<|Ws (aK Z U22)<|Ws (aW Z Z)<|Wn ?_
 refine aM Z (fun h_t24=>?_)<|fun h_t24=>?_
 ·
  refine Ck<|ab<|aF<|Cr<|Wa Z<|Wn<|ab<|Cr<|Wa Z<|Wn<|aF<|bQ 29 kC<|bT (fun (k:Nat) (u:Value)=>k≤n) (fun (k:Nat) (u:Value)=>[(0,kMZ.is R),(7,VP.ex v),(8,kN6.is (i:Int)),(9,VP.ex u),(10,kN6.is (k:Int))]) (fun (k:Nat) (u:Value)=>[OB.row u 29 kC ((List.range k).map (gram R i)),OB.row v 23 kVC (tabW i n (gram R))]) (fun (k:Nat) (u:Value)=>n-k) 0 (.slice none 0 0) (Nat.zero_le _) (aq Z Z Z Z (az Z (ah (y:=(0:Int)) (by rfl)) ar)) (a6 (OS.keepLe (bl (by rfl)) (OS.keep OS.nil))) ?_
  intro k u hk
  refine ab<|Cr<|Wm Z<|Wm Z<|Ws (aK Z U22)<|Ws (aW Z Z)<|Wn ?_
  refine aM Z (fun h_t30=>?_)<|fun h_t30=>?_
  ·
   refine Ck<|ab<|aF<|ab ?_
   refine a5 (Γ:=[.fr (kMZ.is R),.fr (kN6.is (i:Int)),.fr (VP.pim kVZ (R.getD i [])),.fr (kVZ.is (R.getD i [])),.fr (kMZ.is R),.fr (kN6.is (k:Int)),.fr (VP.pim kVZ (R.getD k [])),.fr (kVZ.is (R.getD k [])),.fr (VP.tup [kC.is (if (R.getD i []).length=(R.getD k []).length then dotV (R.getD i []) (R.getD k []) else 0),kN6.is (if (R.getD i []).length=(R.getD k []).length then 0 else 8)]),.fr (VP.tup [kC.is (if (R.getD i []).length=(R.getD k []).length then dotV (R.getD i []) (R.getD k []) else 0),kN6.is (if (R.getD i []).length=(R.getD k []).length then 0 else 8)]),.fr (kC.is (if (R.getD i []).length=(R.getD k []).length then dotV (R.getD i []) (R.getD k []) else 0)),.lt (kN6.is (if (R.getD i []).length=(R.getD k []).length then 0 else 8)),.al (fun b=>OB.box b 29 kC 0)]) (om Z Z (om Z Z (aa Z (fun N=>aU i Z Z U22 aJ Z (v:=(R.getD i [])) (gd [] (by omega))) (aa Z (fun N=>aQ Z aJ) (om Z Z (om Z Z (aa Z (fun N=>aU k Z Z U22 aJ Z (v:=(R.getD k [])) (gd [] (by omega))) (aa Z (fun N=>aQ Z aJ) (aa Z (fun N=>f2 fn115 Z Z (c_ref04_Dot nb (R.getD i []) (R.getD k []) (hz _) (hz _) (by rw [hr.row i (by omega)];omega))) (om Z Z (aa Z (fun N=>aN Z Z) (oc (c7 Z .n (dw Z Z)) (oc (cM Z bc) oz)))))))))))))<|fun σ1=>?_
   refine aE .n (aD (l:=kC) (u:=if (R.getD i []).length=(R.getD k []).length then dotV (R.getD i []) (R.getD k []) else 0) 0 Z Z Z ae Z Lr)<|Wa Z<|Wn<|tb 0 Z (y:=(gram R i k)) (if_pos (by rw [hr.row i (by omega),hr.row k (by omega)]))<|ak<|Wm Z<|Ws (af Z (ag 0 Z) Li ae Z)<|Ws (bw U23 bn (bS Z bt) Z (by decide))<|bD 1 .n Z Z Z Lr U23 bn (by simp [tabW_len];omega) fun v1=>Wa Z<|au<|Qb<|ak<|Wm Z<|Ws (aS Z Z (c:=((k:Int)+1)) (aG (by omega)))<|Wa Z<|au<|tr 1 Z (y:=((List.range (k+1)).map (gram R i))) (fo (gram R i) k)<|bi (bj [1,2] (by decide) Z) ?_
   exact bP (k+1) v1 (by omega) (by omega) (aq Z Z Z Z (az Z (ah (y:=(((k+1):Nat):Int)) (by rfl)) ar))<|aH _
  ·
   refine Ex<|tr 0 Z (y:=((List.range n).map (gram R i))) (by rw [show k=n by omega])<|bJ 0 Z (kp 0 Z (kp 7 Z (kp 8 Z (.hit (i:=9) Z (kp 10 Z (kp 27 Z (kp 28 Z (kp 29 Z (kp 30 Z .nil)))))))))<|ak<|Wm Z<|Wm Z<|Ws (bw U22 c3 (bS Z bt) Z (by decide))<|bD 0 .n Z Z Z Lr U22 c3 (by simp [tabW_len];omega) fun v2=>Wa Z<|au<|Qb<|ak<|Wm Z<|Ws (aS Z Z (c:=((i:Int)+1)) (aG (by omega)))<|Wa Z<|au<|tr 0 Z (y:=(tabW (i+1) n (gram R))) (tabW_app i n (gram R)) ?_
   exact bP (i+1) v2 (by omega) (by omega) (ac Z (ac Z (az Z (ah (y:=(((i+1):Nat):Int)) (by rfl)) ar)))<|aH _
 ·
  refine Ex<|ab<|tr 0 Z (y:=(tabW n n (gram R))) (by rw [show i=n by omega])<|bJ 0 Z (kp 0 Z (.hit (i:=7) Z (kp 8 Z (kp 21 Z (kp 22 Z (kp 23 Z (kp 24 Z .nil)))))))<|ak<|Wm Z<|Wa Z<|Wa Z<|Wn<|aA ?_
  exact Qd Z (aI Z (aI Z ay)) ⟨Z,Z⟩
theorem c_ref04_Unit (n:Nat) (hn:n≤12):Fn Tryz.prog 89 [kN6.is (n:Int)] (VP.tup [kMC.is (tabW n n uniF),kN6.is 0]):=by
 refine aO Tryz.func89 Z Z fun m w=>Cr<|Wa Z<|Wa Z<|Wn<|ab<|Cr<|Wm Z<|Ws (aW Z Z)<|Wn ?_
 refine CN Z (by omega) fun h_t9=>?_
 refine Ck<|ab<|Cr<|Wm Z<|Ws (cz Z Z)<|Wn ?_
 refine CN Z (by omega) fun h_t11=>?_
 refine Ck<|Cr<|Wa Z<|Wn<|ab<|Cr<|Wa Z<|Wn<|aF<|bQ 23 kVC<|bT (fun (i:Nat) (v:Value)=>i≤n) (fun (i:Nat) (v:Value)=>[(0,kN6.is (n:Int)),(4,VP.ex v),(5,kN6.is (i:Int))]) (fun (i:Nat) (v:Value)=>[OB.row v 23 kVC (tabW i n uniF)]) (fun (i:Nat) (v:Value)=>n-i) 0 (.slice none 0 0) (Nat.zero_le _) (ac Z (ac Z (az Z (ah (y:=(0:Int)) (by rfl)) ar))) (a6 (OS.keepLe (bl (by rfl)) OS.nil)) ?_
 intro i v hi
 refine ab<|Cr<|Wm Z<|Wm Z<|Ws (aW Z Z)<|Wn ?_
 refine aM Z (fun h_t14=>?_)<|fun h_t14=>?_
 ·
  refine Ck<|ab<|aF<|Cr<|Wa Z<|Wn<|ab<|Cr<|Wa Z<|Wn<|aF<|bQ 29 kC<|bT (fun (k:Nat) (u:Value)=>k≤n) (fun (k:Nat) (u:Value)=>[(0,kN6.is (n:Int)),(4,VP.ex v),(5,kN6.is (i:Int)),(6,VP.ex u),(7,kN6.is (k:Int))]) (fun (k:Nat) (u:Value)=>[OB.row u 29 kC ((List.range k).map (uniF i)),OB.row v 23 kVC (tabW i n uniF)]) (fun (k:Nat) (u:Value)=>n-k) 0 (.slice none 0 0) (Nat.zero_le _) (aq Z Z Z Z (az Z (ah (y:=(0:Int)) (by rfl)) ar)) (a6 (OS.keepLe (bl (by rfl)) (OS.keep OS.nil))) ?_
  intro k u hk
  refine ab<|Cr<|Wm Z<|Wm Z<|Ws (aW Z Z)<|Wn ?_
  refine aM Z (fun h_t19=>?_)<|fun h_t19=>?_
  ·
   refine Ck<|ab<|aF<|Cr<|Wm Z<|Wm Z<|Ws (cE Z Z)<|Wn ?_
   refine aM Z (fun h_t24=>?_)<|fun h_t24=>?_
   ·
    refine ak<|Wm Z<|Ws (aB dI (ai Z (cF (by omega)) ao) (dF 1))<|Ws (bw U23 bn (bS Z bt) Z (by decide))<|bD 0 .n Z Z Z Lr U23 bn (by simp [tabW_len];omega) fun v1=>Wa Z<|au<|Qb<|ak<|Wm Z<|Ws (aS Z Z (c:=((k:Int)+1)) (aG (by omega)))<|Wa Z<|au<|tr 0 Z (y:=((List.range (k+1)).map (uniF i))) (by rw [←range_app];congr 2;unfold uniF;rw [if_pos (by omega)]) ?_
    exact bP (k+1) v1 (by omega) (by omega) (aq Z Z Z Z (az Z (ah (y:=(((k+1):Nat):Int)) (by rfl)) ar))<|aH _
   ·
    refine ak<|Wm Z<|Ws (aB dI (ai Z (cF (by omega)) ao) (dF 0))<|Ws (bw U23 bn (bS Z bt) Z (by decide))<|bD 0 .n Z Z Z Lr U23 bn (by simp [tabW_len];omega) fun v2=>Wa Z<|au<|Qb<|ak<|Wm Z<|Ws (aS Z Z (c:=((k:Int)+1)) (aG (by omega)))<|Wa Z<|au<|tr 0 Z (y:=((List.range (k+1)).map (uniF i))) (by rw [←range_app];congr 2;unfold uniF;rw [if_neg (by omega)]) ?_
    exact bP (k+1) v2 (by omega) (by omega) (aq Z Z Z Z (az Z (ah (y:=(((k+1):Nat):Int)) (by rfl)) ar))<|aH _
  ·
   refine Ex<|tr 0 Z (y:=((List.range n).map (uniF i))) (by rw [show k=n by omega])<|bJ 0 Z (kp 0 Z (kp 4 Z (kp 5 Z (.hit (i:=6) Z (kp 7 Z (kp 17 Z (kp 18 Z (kp 19 Z .nil))))))))<|ak<|Wm Z<|Wm Z<|Ws (bw U22 c3 (bS Z bt) Z (by decide))<|bD 0 .n Z Z Z Lr U22 c3 (by simp [tabW_len];omega) fun v3=>Wa Z<|au<|Qb<|ak<|Wm Z<|Ws (aS Z Z (c:=((i:Int)+1)) (aG (by omega)))<|Wa Z<|au<|tr 0 Z (y:=(tabW (i+1) n uniF)) (tabW_app i n uniF) ?_
   exact bP (i+1) v3 (by omega) (by omega) (ac Z (ac Z (az Z (ah (y:=(((i+1):Nat):Int)) (by rfl)) ar)))<|aH _
 ·
  refine Ex<|ab<|tr 0 Z (y:=(tabW n n uniF)) (by rw [show i=n by omega])<|bJ 0 Z (kp 0 Z (.hit (i:=4) Z (kp 5 Z (kp 12 Z (kp 13 Z (kp 14 Z .nil))))))<|ak<|Wm Z<|Wa Z<|Wa Z<|Wn<|aA ?_
  exact Qd Z (aI Z (aI Z ay)) ⟨Z,Z⟩
theorem c_ref06_Inverse (G:Fi) (n:Nat) (hs:SymG G) (hp:PosU G n) (h0:0<n) (h12:n≤12) (hz:∀i j,Sz 540 (G i j)) (hD:Sz 2300000 (uD G n)):Fn Tryz.prog 171 [kMC.is (tabW n n G)] (VP.tup [kMC.is (tabW n n (invN G n)),kC.is (invD G n),kN6.is 0]):=by
 refine aO Tryz.func171 Z Z fun m w=>Cr<|Wa Z<|aX .n bc fun b1=>Wa Z<|Wr<|Wm Z<|Ws (aB fn227 (ai Z (dC ((tabW_Sz hz).sm (by decide))) ao) (c_ref06_Checkp n n G (by assumption) (by assumption) (by omega)))<|Wa Z<|Wn<|ab<|Cr<|Wm Z<|Ws (bG Z Z)<|Wn ?_
 refine CN Z (fun h=>h Z) fun h_t26=>?_
 refine Ck<|Cr<|Wm Z<|Ws (aK Z U22)<|Wa Z<|Wn<|ab<|ab<|tl 6 Z (y:=(n:Int)) (by rw [tabW_len])<|ak<|Wm Z<|Wm Z<|Ws (aB fn228 (ai Z (dC ((tabW_Sz hz).sm (by decide))) ao) (c_ref06_colsp n n G (by assumption)))<|Ws (bG Z Z)<|Wn ?_
 refine CN Z (fun h=>h Z) fun h_t34=>?_
 refine Ck<|Cr<|Wm Z<|Ws (aB fn234 (ai Z (dC ((tabW_Sz hz).sm (by decide))) ao) (c_ref06_Rank G n (by assumption) (by assumption) (by assumption) (by assumption) (by assumption)))<|Wm Z<|Ws (aN Z Z)<|Ws (aN Z Z)<|Wa Z<|Wa Z<|Wn<|ab<|Cr<|Wm Z<|Wm Z<|Ws (aW Z Z)<|Wn ?_
 refine CN Z (by omega) fun h_t43=>?_
 refine Ck<|Cr<|Wm Z<|Ws (f1 fn89 Z (c_ref04_Unit n (by assumption)))<|Wm Z<|Ws (aN Z Z)<|Ws (aN Z Z)<|Wa Z<|Wa Z<|Wr<|Wa Z<|Wn<|ab<|Cr<|Wa Z<|Wn ?_
 refine aF<|bQ 23 kVC<|bT (fun (i:Nat) (v:Value)=>i≤n) (fun (i:Nat) (v:Value)=>[(0,kMC.is (tabW n n G)),(3,VP.pt b1 0),(6,kN6.is (n:Int)),(9,kMC.is (tabW n n uniF)),(11,VP.ex v),(12,kN6.is (i:Int))]) (fun (i:Nat) (v:Value)=>[OB.row v 23 kVC (tabW i (2*n) (augZ G n)),OB.box b1 29 kC 0]) (fun (i:Nat) (v:Value)=>n-i) 0 (.slice none 0 0) (Nat.zero_le _) (aq Z Z Z Z (ac Z (az Z (ah (y:=(0:Int)) (by rfl)) ar))) (a6 (OS.keepLe (bl (by rfl)) (OS.keep OS.nil))) ?_
 intro i v hi
 refine ab<|Cr<|Wm Z<|Wm Z<|Ws (aW Z Z)<|Wn ?_
 refine aM Z (fun h_t52=>?_)<|fun h_t52=>?_
 ·
  refine Ck<|ab<|aF<|Cr<|Wa Z<|Wn<|ab<|bQ 29 kC<|ak<|Wm Z<|Wm Z<|Wm Z<|Ws (aU i Z Z U22 aJ Z (v:=((List.range n).map (G i))) (gb (by omega)))<|Ws (aQ Z aJ)<|bD 0 .n Z Z Z Lr U23 bn (by simp [tabW_len,invL_len];omega) fun v2=>Wa Z<|Wn<|tr 0 Z (y:=((List.range n).map (G i))) (by simp)<|ak<|Wm Z ?_
  refine Wm Z<|Wm Z<|Wm Z<|Ws (aU i Z Z U22 aJ Z (v:=((List.range n).map (uniF i))) (gb (by omega)))<|Ws (aQ Z aJ)<|bD 0 .n Z Z Z Lr U23 bn (by simp [tabW_len,invL_len];omega) fun v3=>tr 0 Z (y:=((List.range (2*n)).map (augZ G n i))) (aug_app G n i)<|bJ 0 Z (kp 0 Z (kp 3 Z (kp 6 Z (kp 9 Z (kp 11 Z (kp 12 Z (kp 13 Z (kp 50 Z (kp 51 Z (kp 52 Z (kp 55 Z (kp 56 Z (kp 57 Z (kp 58 Z (kp 59 Z (kp 60 Z (kp 61 Z (kp 62 Z (kp 63 Z (kp 64 Z (kp 65 Z (kp 66 Z (.hit (i:=67) Z .nil)))))))))))))))))))))))<|Ws (bw U22 c3 (bS Z bt) Z (by decide))<|bD 0 .n Z Z Z Lr U22 c3 (by simp [tabW_len,invL_len];omega) fun v4=>Wa Z<|au<|Qb<|ak<|Wm Z<|Ws (aS Z Z (c:=((i:Int)+1)) (aG (by omega)))<|Wa Z<|au<|tr 0 Z (y:=(tabW (i+1) (2*n) (augZ G n))) (tabW_app i (2*n) (augZ G n)) ?_
  exact bP (i+1) v4 (by omega) (by omega) (aq Z Z Z Z (ac Z (az Z (ah (y:=(((i+1):Nat):Int)) (by rfl)) ar)))<|aH _
 ·
  refine Ex<|ab<|tr 0 Z (y:=(tabW n (2*n) (augZ G n))) (by rw [show i=n by omega])<|bJ 0 Z (kp 0 Z (kp 3 Z (kp 6 Z (kp 9 Z (.hit (i:=11) Z (kp 12 Z (kp 50 Z (kp 51 Z (kp 52 Z .nil)))))))))<|tl 6 Z (y:=(n:Int)) Z<|ak<|Wm Z<|ct (Li:=[]) (L:=[OB.box b1 29 kC 0]) .n fn230 (ai Z (dC ((tabW_Sz (augZ_Sz hz (by decide))).sm (by decide))) ao) (c_ref06_ratsp n (2*n) (augZ G n) (by assumption) (by omega)) fun p_ Lo_ hp_=>?_
  obtain ⟨vO,vs,rfl,rfl,hvs⟩:=hp_
  refine Wm Z<|Ws (dV Z Z (c:=(2*(n:Int))) (aG (by omega)))<|ct (Li:=[OB.row vO 26 kVal vs,OB.fam vs 31 kRC (tabR n (2*n) (fun i k=>(((augZ G n) i k:Int):Rat)))]) (L:=[OB.box b1 29 kC 0]) .n fn229 (aP Z (ai Z (ah (y:=(((2*n):Nat):Int)) (by rfl)) ao)) (c_ref06_reducedp G n (by assumption) (by assumption) (by assumption) (by assumption) (by assumption) (2*n) (fun i k=>((augZ G n i k:Int):Rat)) (by omega) (by omega) (fun i k _ hk=>by unfold augZ;rw [if_pos hk]) (qF_RZ (augZ_Sz hz (by decide))) vO vs hvs) fun p_ Lo_ hp_=>?_
  obtain ⟨f,hd,d,rfl,rfl,hx⟩:=hp_
  refine Wm Z<|Ws (aN Z Z)<|Ws (aN Z Z)<|Ws (aN Z Z)<|aX .n ba fun b5=>Wa Z<|Wa Z<|aE .n (aD (l:=kRC) (u:=rq d) 0 Z Z Z aj Z Lr)<|Wn<|ab ?_
  obtain ⟨hx1,hx2⟩:=hx
  rw [augZ_q] at hx1
  refine ak<|Wa Z<|Wn<|ab<|Cr<|Wa Z<|Wn<|aF<|bQ 31 kRC<|bT (fun (i:Nat) (v:Value)=>i≤n) (fun (i:Nat) (v:Value)=>[(0,kMC.is (tabW n n G)),(3,VP.pt b1 0),(6,kN6.is (n:Int)),(14,(kSl (kSl kRC)).is (tabR n (2*n) f)),(17,VP.ex v),(18,kN6.is (i:Int))]) (fun (i:Nat) (v:Value)=>[OB.row v 31 kRC ((invL G n i).map rq),OB.box b1 29 kC 0]) (fun (i:Nat) (v:Value)=>n-i) 0 (.slice none 0 0) (Nat.zero_le _) (aq Z Z Z Z (ac Z (az Z (ah (y:=(0:Int)) (by rfl)) ar))) (a6 (OS.keepLe (bl (by rfl)) (OS.skip (OS.keep OS.nil)))) ?_
  intro i v hi
  have hnn:n*n≤144:=Nat.mul_le_mul h12 h12
  have hin0:i*n≤n*n:=Nat.mul_le_mul_right n hi
  refine ab<|Cr<|Wm Z<|Wm Z<|Ws (aW Z Z)<|Wn ?_
  refine aM Z (fun h_t81=>?_)<|fun h_t81=>?_
  ·
   refine Ck<|ab<|aF<|ak<|Wm Z<|Wm Z<|Wm Z<|Ws (aU i Z Z U148 bM Z (v:=((tabR n (2*n) f).getD i [])) (gd [] (by rw [tabR_len];omega)))<|Ws (aQ Z bM)<|Wm Z<|Ws (O.slL n Z Z U26 aj Z (by rw [tabR_rlen (by omega)];omega))<|tl 90 Z (y:=((List.range n).map (fun k=>rq (invE G n i k)))) (inv_row hx1 hs hp (by omega))<|bD 0 .n Z Z Z Lr U26 dk (by simp [tabW_len,invL_len];omega) fun v6=>Wa Z<|au<|Qb<|ak<|Wm Z<|Ws (aS Z Z (c:=((i:Int)+1)) (aG (by omega)))<|Wa Z<|au<|tr 0 Z (y:=((invL G n (i+1)).map rq)) (invL_rq G n i) ?_
   refine bi (bj [0,1] (by decide) Z) ?_
   exact bP (i+1) v6 (by omega) (by omega) (aq Z Z Z Z (ac Z (az Z (ah (y:=(((i+1):Nat):Int)) (by rfl)) ar)))<|aH _
  ·
   refine Ex<|ab<|tr 0 Z (y:=((invL G n n).map rq)) (by rw [show i=n by omega])<|bJ 0 Z (kp 0 Z (kp 3 Z (kp 6 Z (kp 14 Z (.hit (i:=17) Z (kp 18 Z (kp 79 Z (kp 80 Z (kp 81 Z .nil)))))))))<|ak<|Wm Z<|Ws (f1 fn235 Z (c_ref06_lowest (invL G n n) (uD G n) 2300000 2300000 (inv_low hs hp n) hD (inv_RZ2 hs hp h12 hz n) (by decide) (by decide)))<|Wm Z<|Ws (aN Z Z)<|Ws (aN Z Z)<|aX .n bc fun b7=>Wa Z<|aE .n (aD (l:=kC) (u:=lowD (invL G n n)) 0 Z Z Z ae Z Lr)<|Wr<|Wa Z<|Wn ?_
   refine ab<|Cr<|Wa Z<|Wn<|aF<|bQ 23 kVC<|tb 1 Z (y:=(invD G n)) Z<|bT (fun (i:Nat) (v:Value)=>i≤n) (fun (i:Nat) (v:Value)=>[(3,VP.pt b1 0),(6,kN6.is (n:Int)),(19,kVC.is (lowN (invL G n n))),(20,VP.pt b7 0),(21,VP.ex v),(22,kN6.is (i:Int))]) (fun (i:Nat) (v:Value)=>[OB.row v 23 kVC (tabW i n (invN G n)),OB.box b7 29 kC (invD G n),OB.box b1 29 kC 0]) (fun (i:Nat) (v:Value)=>n-i) 0 (.slice none 0 0) (Nat.zero_le _) (aq Z Z Z Z (ac Z (az Z (ah (y:=(0:Int)) (by rfl)) ar))) (a6 (OS.keepLe (bl (by rfl)) (OS.keep (OS.keep OS.nil)))) ?_
   intro i v hi
   refine ab<|Cr<|Wm Z<|Wm Z<|Ws (aW Z Z)<|Wn ?_
   refine aM Z (fun h_t99=>?_)<|fun h_t99=>?_
   ·
    refine Ck<|ab<|aF<|ak<|Wm Z<|Wm Z<|Wm Z<|Wm Z ?_
    have hin:(i+1)*n≤n*n:=Nat.mul_le_mul_right n (by omega)
    have hi2:i*n≤(i+1)*n:=Nat.mul_le_mul_right n (by omega)
    have hnn:n*n≤144:=Nat.mul_le_mul h12 h12
    have hll:(lowN (invL G n n)).length=n*n:=by rw [lowN_len,invL_len]
    refine Ws (dV Z Z (c:=((i*n:Nat):Int)) (w64m (by omega)))<|Wm Z<|Ws (aS Z Z (c:=((i:Int)+1)) (aG (by omega)))<|Wm Z<|tl 108 Z (y:=((i+1:Nat):Int)) (by omega)<|Ws (dV Z Z (c:=(((i+1)*n:Nat):Int)) (w64m (by omega)))<|Ws (O.slLH (i*n) ((i+1)*n) Z Z Z U23 ae (by omega) (by omega) (by omega) (by omega))<|tl 111 Z (y:=((List.range n).map (invN G n i))) (invN_row (by omega))<|Ws (bw U22 c3 (bS Z bt) Z (by decide))<|bD 0 .n Z Z Z Lr U22 c3 (by simp [tabW_len,invL_len];omega) fun v8=>Wa Z<|au<|Qb<|ak<|Wm Z<|Ws (aS Z Z (c:=((i:Int)+1)) (aG (by omega)))<|Wa Z<|au<|tr 0 Z (y:=(tabW (i+1) n (invN G n))) (tabW_app i n (invN G n))<|bi (bj [0,1,2] (by decide) Z) ?_
    exact bP (i+1) v8 (by omega) (by omega) (aq Z Z Z Z (ac Z (az Z (ah (y:=(((i+1):Nat):Int)) (by rfl)) ar)))<|aH _
   ·
    refine Ex<|ab<|tr 0 Z (y:=(tabW n n (invN G n))) (by rw [show i=n by omega])<|bJ 0 Z (kp 3 Z (kp 6 Z (kp 19 Z (kp 20 Z (.hit (i:=21) Z (kp 22 Z (kp 97 Z (kp 98 Z (kp 99 Z .nil))))))))) ?_
    refine fh [(2,kMC.is (tabW n n (invN G n))),(3,VP.pt b1 0),(4,kN6.is 0),(6,kN6.is (n:Int)),(19,kVC.is (lowN (invL G n n))),(20,VP.pt b7 0),(21,kMC.is (tabW n n (invN G n))),(22,kN6.is (i:Int)),(97,kN6.is (i:Int)),(98,kN6.is (n:Int)),(99,kBool.is (decide ((i:Int)<(n:Int)))),(114,kMC.is (tabW n n (invN G n))),(115,kC.is (invD G n))] [OB.box b7 29 kC (invD G n),OB.box b1 29 kC (invD G n)] ?_ ?_
    ·
     refine dU (by kernel_rfl)<|bK 0 Z (by kernel_rfl) (by kernel_rfl) (by kernel_rfl) (fun _ _ _ _ _ h=>h) .n (dL Z) ?_
     refine bO 1 [2] ⟨?_,⟨?_,trivial⟩⟩
     ·
      refine aT Z .n (af Z (ag 0 Z) Li ae Z)<|aR 2<|aT Z .n (bu Z)<|aR 3<|bE Z .n (aD (l:=kC) (u:=(invD G n)) 1 Z Z Z ae Z Lr)<|aR 4<|aT Z .n (bu Z)<|bv (by kernel_rfl) ?_
      exact cA (aq Z Z Z Z (aq Z Z Z Z (aq Z Z Z Z (ac Z ar))))<|aH _
     ·
      refine aT Z .n (bu Z)<|aR 1<|aT Z .n (af Z (ag 0 Z) Li ae Z)<|aR 3<|bE Z .n (aD (l:=kC) (u:=(invD G n)) 1 Z Z Z ae Z Lr)<|aR 4<|aT Z .n (bu Z)<|bv (by kernel_rfl) ?_
      exact cA (aq Z Z Z Z (aq Z Z Z Z (aq Z Z Z Z (ac Z ar))))<|aH _
    refine co<|aA ?_
    exact Qd Z (aI Z (aZ Z (ag 1 Z) ae (aI Z ay))) ⟨Z,Z⟩
theorem c_ref03_Floor (n:Nat) (p:Rat) (hp:RZ n p) (hn:n≤68719476736):Fn Tryz.prog 159 [kRC.is (rq p)] (kC.is (floorQ p)):=by
 refine aO Tryz.func159 Z Z fun m w=>Cr<|aY .n Z fun b1=>aX .n bc fun b2=>Wr<|Ws (aw Z cx Z)<|Ws (af Z (ag 1 Z) (aC Li) ae Z)<|Ws (aw Z bX Z)<|Ws (af Z (ag 1 Z) (am Li) ae Z)<|Ws (aB fn162 (ai Z (aL (hp.a.sm (by omega))) (ai Z (aL (hp.b.sm (by omega))) ao)) (gO ((rq p).1) ((rq p).2) (dX p)))<|Wm Z<|Ws (aN Z Z)<|Ws (aN Z Z)<|aX .n bc fun b3=>aX .n bc fun b4=>aE .n (aD (l:=kC) (u:=((rq p).1).fdiv ((rq p).2)) 1 Z Z Z ae Z Lr)<|aE .n (aD (l:=kC) (u:=((rq p).1).fmod ((rq p).2)) 0 Z Z Z ae Z Lr)<|Wn<|ab ?_
 refine ak<|Ws (af Z (ag 1 Z) Li ae Z)<|aE .n (aD (l:=kC) (u:=((rq p).1).fdiv ((rq p).2)) 2 Z Z Z ae Z Lr)<|Wn<|aA<|tb 2 Z (y:=(floorQ p)) Z ?_
 exact Qd Z (aZ Z (ag 2 Z) ae ay) ⟨Z,Z⟩
abbrev gN:=@c_ref03_Floor
theorem c_ref03_Half  : Fn Tryz.prog 160 [] (kRC.is (rq (1/2:Rat))):=by
 refine aO Tryz.func160 Z Z fun m w=>Cr<|aX .n ba fun b1=>Wr<|Ws (aB fn114 ao (c_ref03_one))<|Ws (aB dI (ai Z (cF (by omega)) ao) (dF 2))<|Ws (cd fB Z (cb Z (cb Z bz)) (.cons Z (aC Li) (.cons Z (am Li) (.nil _))))<|aE .n (aD (l:=kRC) (u:=(1,2)) 0 Z Z Z aj Z Lr)<|Wn<|aA<|tb 0 Z (y:=(rq (1/2:Rat))) (by decide +kernel) ?_
 exact Qd Z (aZ Z (ag 0 Z) aj ay) ⟨Z,Z⟩
theorem c_ref03_Near (n:Nat) (p:Rat) (hp:RZ n p) (hn:n≤17179869184):Fn Tryz.prog 90 [kRC.is (rq p)] (kC.is (nearQ p)):=by
 refine aO Tryz.func90 Z Z fun m w=>?_
 have rH:RZ 3 (1/2:Rat):=RZ.of (n:=1) (d:=2) (by decide) (by decide +kernel) (show (1:Int).natAbs<2^3 by decide) (show (2:Int).natAbs<2^3 by decide)
 have rS:=(hp.up (show n≤n+3 by omega)).add (rH.up (show 3≤n+3 by omega))
 refine Cr<|aY .n Z fun b1=>aX .n bc fun b2=>Wn<|ab ?_
 refine a5 (Γ:=[.fr (kRC.is (rq p)),.fr (kRC.is (rq (1/2:Rat))),.fr (kRC.is (rq (p+(1/2:Rat)))),.fr (kC.is (floorQ (p+1/2)))]) (aa Z (fun N=>af Z (mN N 1 Z) Li aj Z) (aa Z (fun N=>aB fn160 ao (c_ref03_Half)) (aa Z (fun N=>f2 eC Z Z (eH (n+3) p (1/2:Rat) (hp.up (by omega)) (rH.up (by omega)) (by omega))) (aa Z (fun N=>aB fn159 (ai Z (ah (y:=rq (p+1/2)) (by rfl)) ao) (gN (n+3+(n+3)+1) (p+1/2) rS (by omega))) oz))))<|fun σ1=>?_
 refine aE .n (aD (l:=kC) (u:=floorQ (p+1/2)) 0 Z Z Z ae Z Lr)<|Wn<|aA<|tb 0 Z (y:=(nearQ p)) (floor_near p) ?_
 exact Qd Z (aZ Z (ag 0 Z) ae ay) ⟨Z,Z⟩
abbrev gQ:=@c_ref03_Near
theorem c_ref03_Cmp (n:Nat) (p q:Rat) (hp:RZ n p) (hq:RZ n q) (hn:n≤68719476736):Fn Tryz.prog 64 [kRC.is (rq p),kRC.is (rq q)] (kN6.is ((rq (p-q)).1.sign)):=by
 refine aO Tryz.func64 Z Z fun m w=>?_
 have rD:=hp.sub2 hq
 refine Cr<|aY .n Z fun b1=>aY .n Z fun b2=>Wa Z<|Wr<|Ws (af Z (ag 1 Z) Li aj Z)<|Ws (af Z (ag 0 Z) Li aj Z)<|Ws (f2 d3 Z Z (em n p q (by assumption) (by assumption) (by assumption)))<|Ws (O.fld Z Z prt31_0 (aC Li) Z)<|Ws (aB eB (ai Z (aL (by exact rD.a.sm (by omega))) ao) (eh ((rq (p-q)).1)))<|Wa Z<|Wn<|aA ?_
 exact Qd Z (du Z (ah (y:=(rq (p-q)).1.sign) (by rfl)) ay) ⟨Z,Z⟩
theorem c_ref05_times (n:Nat) (p:Rat) (z:Int) (hp:RZ n p) (hz:Sz n z) (h1:1≤n) (hn:n≤68719476736):Fn Tryz.prog 187 [kRC.is (rq p),kC.is z] (kRC.is (rq (p*(z:Rat)))):=by
 refine aO Tryz.func187 Z Z fun m w=>?_
 have hzq:RZ n (z:Rat):=by obtain ⟨k,rfl⟩:∃k,n=k+1:=⟨n-1,by omega⟩;exact RZ.int hz
 refine Cr<|aY .n Z fun b1=>aY .n Z fun b2=>aX .n ba fun b3=>Wn<|ab ?_
 refine a5 (Γ:=[.fr (kRC.is (rq p)),.fr (kC.is z),.fr (kRC.is (rq (z:Rat))),.fr (kRC.is (rq (p*(z:Rat))))]) (aa Z (fun N=>af Z (mN N 2 Z) Li aj Z) (aa Z (fun N=>af Z (mN N 1 Z) Li ae Z) (aa Z (fun N=>aB dJ (ai Z (aL (by exact hz.sm (by omega))) ao) (dE z)) (aa Z (fun N=>f2 dh Z Z (dl n p (z:Rat) (by assumption) (by assumption) (by assumption))) oz))))<|fun σ1=>?_
 refine aE .n (aD (l:=kRC) (u:=rq (p*(z:Rat))) 0 Z Z Z aj Z Lr)<|Wn<|aA ?_
 exact Qd Z (aZ Z (ag 0 Z) aj ay) ⟨Z,Z⟩
theorem c_ref05_data (G:Nat→Nat→Int) (n nB:Nat) (hs:SymG G) (hP:PosU G n) (h12:n≤12) (hD:∀k,k≤n→Sz nB (uD G k)) (hS:∀k,k<n→RZ nB (frS G k)) (hM:∀x k,x<n→k<x→RZ nB (frM G x k)) (h1:1≤nB) (hB:nB≤34359738368):Fn Tryz.prog 112 [kFrm.is (frMus (G) n,frSts (G) n)] (kGso.is (gDs (G) n,gLs (G) n)):=by
 refine aO Tryz.func112 Z Z fun m w=>?_
 have hfl:=frSts_len G n
 refine Cr<|aY .n Z fun b1=>aX .n eg fun b2=>Wr<|aX .n c8 fun b3=>Wr<|Ws (aB dI (ai Z (cF (by omega)) ao) (dF 1))<|Ax (l:=kC) (u:=1) bc Z ae (fun _=>Z) Lr fun b4=>Wn<|ab<|bQ 29 kC<|ak<|Ws (aw Z cK Z)<|Ws (aV (af (p:=kVal.is (.slice none 0 0)) Z (ag 2 Z) (aC Li) aJ Z) (bd _))<|Ws (af Z (ag 1 Z) Li ae Z) ?_
 refine Ws (bw U23 bn (bS Z bt) Z (by decide))<|bD 0 .n Z Z Z Lr U23 bn (by simp only [frRow_len,frMus_len,frSts_len,gRow_len,gDs_len,gLs_len,List.length_cons,List.length_nil];omega) fun v5=>Ws (aw Z cK Z)<|bp 0 Z fun hcell_=>aE .n (dp 2 Z Z (aC Li) aJ Z (bo (by assumption)))<|Wn<|ab<|ab<|bQ 23 kVC<|ak<|Wa Z<|Wn<|aF<|dz (fun (i:Nat) (vD:Value) (vL:Value)=>i≤n) (fun (i:Nat) (vD:Value) (vL:Value)=>[(1,VP.pt b1 0),(2,VP.pt b2 0),(3,VP.pt b3 0),(4,VP.pt b4 0),(5,kN6.is (i:Int))]) (fun (i:Nat) (vD:Value) (vL:Value)=>[OB.row vL 23 kVC (gLs G i),OB.row vD 29 kC (gDs G i),OB.box b4 29 kC (uD G i),OB.box b3 25 (kPair kVal kVal) (vD,vL),OB.box b2 25 kGso ([],[]),OB.box b1 150 kFrm (frMus (G) n,frSts (G) n)]) (fun (i:Nat) (vD:Value) (vL:Value)=>n-i) 0 v5 (.slice none 0 0) (Nat.zero_le _) (aq Z Z Z Z (az Z (ah (y:=(0:Int)) (by rfl)) ar)) (a6 (OS.keepLe (bl (by rfl)) (OS.keepLe (bl (by rfl)) (OS.keepLe (ce (by rfl)) (OS.keep (OS.keep (OS.keep OS.nil))))))) ?_
 intro i vD vL hi
 refine ab<|Cr<|Wm Z<|Ws (aw Z dK Z)<|Ws (af (p:=(kSl kRC).is (frSts (G) n)) Z (ag 5 Z) (am Li) bM Z)<|Ws (aK Z U26)<|Ws (aW Z Z)<|Wn ?_
 refine aM Z (fun h_t19=>?_)<|fun h_t19=>?_
 ·
  refine Ck<|ab<|aF<|Cr<|Wa Z<|Wn<|ab<|Cr<|Wa Z<|Wn<|aF<|bQ 29 kC<|bT (fun (j:Nat) (v:Value)=>j≤i) (fun (j:Nat) (v:Value)=>[(1,VP.pt b1 0),(2,VP.pt b2 0),(3,VP.pt b3 0),(4,VP.pt b4 0),(5,kN6.is (i:Int)),(6,VP.ex v),(7,kN6.is (j:Int))]) (fun (j:Nat) (v:Value)=>[OB.row v 29 kC (gRow G i j),OB.row vL 23 kVC (gLs G i),OB.row vD 29 kC (gDs G i),OB.box b4 29 kC (uD G i),OB.box b3 25 (kPair kVal kVal) (vD,vL),OB.box b2 25 kGso ([],[]),OB.box b1 150 kFrm (frMus (G) n,frSts (G) n)]) (fun (j:Nat) (v:Value)=>i-j) 0 (.slice none 0 0) (by omega) (aq Z Z Z Z (ac Z (ac Z (az Z (ah (y:=(0:Int)) (by rfl)) ar)))) (a6 (OS.keepLe (bl (by rfl)) (OS.keep (OS.keep (OS.keep (OS.keep (OS.keep (OS.keep OS.nil)))))))) ?_
  intro j v hj
  refine ab<|Cr<|Wm Z<|Wm Z<|Ws (aW Z Z)<|Wn ?_
  refine aM Z (fun h_t24=>?_)<|fun h_t24=>?_
  ·
   refine Ck<|ab<|aF ?_
   refine a5 (Γ:=[.fr (VP.ex v),.fr (VP.pt b1 0),.fr ((kSl (kSl kRC)).is (frMus (G) n)),.fr (kN6.is (i:Int)),.fr (VP.pim (kSl kRC) ((frMus (G) n).getD i [])),.fr ((kSl kRC).is ((frMus (G) n).getD i [])),.fr (kN6.is (j:Int)),.fr (VP.pim kRC (rq (frM G i j))),.fr (kRC.is (rq (frM G i j))),.fr (VP.pt b3 0),.fr (VP.ex vD),.fr (kN6.is (j:Int)),.fr (kN6.is ((j:Int)+1)),.fr (VP.pel vD ((j+1)*2)),.fr (kC.is (uD G (j+1))),.fr (kRC.is (rq ((frM G i j)*((uD G (j+1)):Rat)))),.fr (kC.is (floorQ (frM G i j*(uD G (j+1):Rat)))),.fr (kVC.is [floorQ (frM G i j*(uD G (j+1):Rat))])]) (om Z Z (aa Z (fun N=>aw Z eU Z) (aa Z (fun N=>af (p:=(kSl (kSl kRC)).is (frMus (G) n)) Z (mN N 6 Z) (aC Li) eW Z) (om Z Z (aa Z (fun N=>aU i Z Z U148 bM Z (v:=((frMus (G) n).getD i [])) (gd [] (by simp only [frRow_len,frMus_len,frSts_len,gRow_len,gDs_len,gLs_len];omega))) (aa Z (fun N=>aQ Z bM) (om Z Z (aa Z (fun N=>aU j Z Z U26 aj Z (v:=(rq (frM G i j))) (gg (by omega) (by omega))) (aa Z (fun N=>aQ Z aj) (aa Z (fun N=>aw Z cK Z) (aa Z (fun N=>aV (af (p:=kVal.is vD) Z (mN N 4 Z) (aC Li) aJ Z) (bd _)) (om Z Z (aa Z (fun N=>aS Z Z (c:=((j:Int)+1)) (aG (by omega))) (aa Z (fun N=>bb (k:=kC) (xs:=(gDs G i)) (n:=((j:Int)+1)) (j+1) Z Z (mN N 2 Z) U23 ae (by omega) (by simp only [frRow_len,frMus_len,frSts_len,gRow_len,gDs_len,gLs_len];omega)) (aa Z (fun N=>bq (k:=kC) (xs:=(gDs G i)) (j+1) Z (mN N 2 Z) Li (ho:=Z) (y:=(uD G (j+1))) (dv (by omega)) ae Z) (aa Z (fun N=>f2 fn187 Z Z (c_ref05_times nB (frM G i j) (uD G (j+1)) (hM i j (by omega) (by omega)) (hD (j+1) (by omega)) (by assumption) (by omega))) (aa Z (fun N=>aB fn159 (ai Z (ah (y:=rq (frM G i j*(uD G (j+1):Rat))) (by rfl)) ao) (gN (nB+nB) (frM G i j*(uD G (j+1):Rat)) ((hM i j (by omega) (by omega)).mul (RZ_int h1 (hD (j+1) (by omega)))) (by omega))) (aa Z (fun N=>bw U23 bn (bS Z bt) Z (by decide)) oz))))))))))))))))))<|fun σ1=>?_
   refine bD 0 .n Z Z Z Lr U23 bn (by simp only [frRow_len,frMus_len,frSts_len,gRow_len,gDs_len,gLs_len,List.length_cons,List.length_nil];omega) fun v6=>Wa Z<|au<|Qb<|ak<|Wm Z<|Ws (aS Z Z (c:=((j:Int)+1)) (aG (by omega)))<|Wa Z<|au<|tr 0 Z (y:=(gRow G i (j+1))) (by rw [data_L hs hP (by omega) (by omega)];exact gRow_app G i j) ?_
   exact bP (j+1) v6 (by omega) (by omega) (aq Z Z Z Z (ac Z (ac Z (az Z (ah (y:=(((j+1):Nat):Int)) (by rfl)) ar))))<|aH _
  ·
   refine Ex<|ab<|tr 0 Z (y:=(gRow G i i)) (by rw [show j=i by omega])<|bJ 0 Z (kp 1 Z (kp 2 Z (kp 3 Z (kp 4 Z (kp 5 Z (.hit (i:=6) Z (kp 7 Z (kp 22 Z (kp 23 Z (kp 24 Z .nil))))))))))<|ak<|Ws (aw Z cm Z)<|Ws (aV (af (p:=kVal.is vL) Z (ag 3 Z) (am Li) bg Z) (bd _))<|Wm Z<|Ws (bw U22 c3 (bS Z bt) Z (by decide))<|bD 0 .n Z Z Z Lr U22 c3 (by simp only [frRow_len,frMus_len,frSts_len,gRow_len,gDs_len,gLs_len,List.length_cons,List.length_nil];omega) fun v7=>Ws (aw Z cm Z)<|bp 0 Z fun hcell_=>aE .n (dp 3 Z Z (am Li) bg Z (bo (by assumption)))<|Wn<|ab ?_
   refine a5 (Γ:=[.fr (VP.pt b1 1),.fr ((kSl kRC).is (frSts (G) n)),.fr (kN6.is (i:Int)),.fr (VP.pim kRC (rq (frS G i))),.fr (kRC.is (rq (frS G i))),.fr (kC.is (uD G i)),.fr (kRC.is (rq ((frS G i)*((uD G i):Rat)))),.fr (kC.is (floorQ (frS G i*(uD G i:Rat))))]) (aa Z (fun N=>aw Z dK Z) (aa Z (fun N=>af (p:=(kSl kRC).is (frSts (G) n)) Z (mN N 5 Z) (am Li) bM Z) (om Z Z (aa Z (fun N=>aU i Z Z U26 aj Z (v:=(rq (frS G i))) (eI (by omega))) (aa Z (fun N=>aQ Z aj) (aa Z (fun N=>af Z (mN N 2 Z) Li ae Z) (aa Z (fun N=>f2 fn187 Z Z (c_ref05_times nB (frS G i) (uD G i) (hS i (by omega)) (hD i (by omega)) (by assumption) (by omega))) (aa Z (fun N=>aB fn159 (ai Z (ah (y:=rq (frS G i*(uD G i:Rat))) (by rfl)) ao) (gN (nB+nB) (frS G i*(uD G i:Rat)) ((hS i (by omega)).mul (RZ_int h1 (hD i (by omega)))) (by omega))) oz))))))))<|fun σ2=>?_
   refine aE .n (aD (l:=kC) (u:=floorQ (frS G i*(uD G i:Rat))) 2 Z Z Z ae Z Lr)<|Wn<|tb 2 Z (y:=(uD G (i+1))) (data_D hs hP (by omega))<|ak<|Ws (aw Z cK Z)<|Ws (aV (af (p:=kVal.is vD) Z (ag 3 Z) (aC Li) aJ Z) (bd _))<|Ws (af Z (ag 2 Z) Li ae Z)<|Ws (bw U23 bn (bS Z bt) Z (by decide))<|bD 1 .n Z Z Z Lr U23 bn (by simp only [frRow_len,frMus_len,frSts_len,gRow_len,gDs_len,gLs_len,List.length_cons,List.length_nil];omega) fun v8=>Ws (aw Z cK Z)<|bp 1 Z fun hcell_=>aE .n (dp 3 Z Z (aC Li) aJ Z (bo (by assumption)))<|au<|Qb<|ak<|Wm Z<|Ws (aS Z Z (c:=((i:Int)+1)) (aG (by omega)))<|Wa Z<|au<|tr 1 Z (y:=(gDs G (i+1))) (gDs_app G i)<|tr 0 Z (y:=(gLs G (i+1))) (gLs_app G i) ?_
   exact dc (i+1) v8 v7 (by omega) (by omega) (aq Z Z Z Z (az Z (ah (y:=(((i+1):Nat):Int)) (by rfl)) ar))<|aH _
 ·
  refine Ex<|ab<|tr 1 Z (y:=(gDs G n)) (by rw [show i=n by omega])<|tr 0 Z (y:=(gLs G n)) (by rw [show i=n by omega])<|d7 (k2:=(kPair kVC kVal)) ((gDs G n),vL) 1 2 Z Z (fun m_ cs_ h_ c_=>fz m_ cs_ h_ c_) (kp 1 Z (kp 2 Z (kp 3 Z (kp 4 Z (kp 5 Z (kp 15 Z (kp 16 Z (kp 17 Z (kp 18 Z (kp 19 Z .nil))))))))))<|d7 (k2:=kGso) ((gDs G n),(gLs G n)) 0 1 Z Z (fun m_ cs_ h_ c_=>fy m_ cs_ h_ c_) (kp 1 Z (kp 2 Z (kp 3 Z (kp 4 Z (kp 5 Z (kp 15 Z (kp 16 Z (kp 17 Z (kp 18 Z (kp 19 Z .nil))))))))))<|ak<|Ws (af (p:=kGso.is ((gDs G n),(gLs G n))) Z (ag 1 Z) Li bm Z)<|aE .n (aD (l:=kGso) (u:=((gDs G n),(gLs G n))) 2 Z Z Z bm Z Lr)<|Wn<|aA ?_
  exact Qd Z (dy Z (ag 2 Z) bm (ah (y:=(gDs (G) n,gLs (G) n)) (by rfl)) ay) ⟨Z,Z⟩
theorem c_ref05_Wide (n:Nat) (b:List (List Int)) (hb:SzM n b) (hn:n≤1048576) (hE:gsoE b false=0) (hP:PosU (gram b) b.length) (hr:RectL b) (h12:b.length≤12) (hc:(b.getD 0 []).length≤12):Fn Tryz.prog 51 [kMZ.is b] (VP.tup [kGso.is (gDs (gram b) b.length,gLs (gram b) b.length),kN6.is 0]):=by
 refine aO Tryz.func51 Z Z fun m w=>Cr<|aX .n eg fun b1=>Wa Z<|Wr<|Wm Z<|Ws (f2 fn110 Z Z (c_ref05_check n b false (fun _=>hb) hn))<|Wm Z<|Ws (aN Z Z)<|Ws (aN Z Z)<|Ax (l:=kFrm) (u:=frR b false) fb Z df (fun _=>Z) Lr fun b2=>Wa Z<|Wn<|ab<|ab<|tb 0 Z (y:=(frMus (gram b) b.length,frSts (gram b) b.length)) (frR_ok hE hP)<|ak<|Wm Z ?_
 refine Ws (bG Z Z)<|Wn ?_
 refine CN Z (fun h=>h hE) fun h_t12=>?_
 refine Ck<|Cr<|Ws (af (p:=kFrm.is (frMus (gram b) b.length,frSts (gram b) b.length)) Z (ag 0 Z) Li df Z)<|Ws (aB fn112 (ai Z (ah (y:=(frMus ((gram b)) b.length,frSts ((gram b)) b.length)) (by rfl)) ao) (c_ref05_data (gram b) b.length 8590000128 (gram_symG hr) hP h12 ((wide_sz hb hr hc hP h12 hn).1) ((wide_sz hb hr hc hP h12 hn).2.1) ((wide_sz hb hr hc hP h12 hn).2.2) (by decide) (by decide)))<|aE .n (aD (l:=kGso) (u:=(gDs ((gram b)) b.length,gLs ((gram b)) b.length)) 1 Z Z Z bm Z Lr)<|Wa Z<|Wn<|aA ?_
 exact Qd Z (dy Z (ag 1 Z) bm (ah (y:=(gDs (gram b) b.length,gLs (gram b) b.length)) (by rfl)) (aI Z ay)) ⟨Z,Z⟩
theorem c_ref05_Makeo (vB:Value) (n:Nat) (b:List (List Int)) (hb:SzM n b) (hr:RectL b) (hl:b.length≤12) (hc:(b.getD 0 []).length≤12) (hn:n≤34359738368) (hPn:PosU (gram b) b.length) (hSn:∀k,k<b.length→RZ 8590000128 (frS (gram b) k)) (hMn:∀x k,x<b.length→k<x→RZ 8590000128 (frM (gram b) x k)) (hEn:∀i k j,i<b.length→k≤i→k≤j→j≤i→RZ 8590000128 (gsE (qG (gram b)) k i j)):Con Tryz.prog 181 [VP.ex vB] [OB.row vB 23 kVC b] (fun p Lo=>p=VP.tup [kFrm.is (frMus (gram b) b.length,frSts (gram b) b.length),kBool.is true]∧Lo=[OB.row vB 23 kVC b]∧True):=by
 refine aO Tryz.func181 Z Z fun m w=>?_
 have hs:=gram_symG hr
 have hz:∀i j,Sz (n+n+12) (gram b i j):=fun i j=>gram_Sz hb hr hc i j
 refine Cr<|aX .n fb fun b1=>Wa Z<|Wr<|aX .n z150_pr_val_val_ fun b2=>Wn<|ab<|Cr<|Wa Z<|Wn<|aF<|bQ 31 kRC<|bQ 26 (kSl kRC)<|dz (fun (i:Nat) (vM:Value) (vS:Value)=>i≤b.length) (fun (i:Nat) (vM:Value) (vS:Value)=>[(0,VP.ex vB),(2,VP.pt b1 0),(3,kBool.is false),(4,VP.pt b2 0),(5,kN6.is (i:Int))]) (fun (i:Nat) (vM:Value) (vS:Value)=>[OB.row vM 26 (kSl kRC) (frMus (gram b) i),OB.row vS 31 kRC (frSts (gram b) i),OB.box b2 150 (kPair kVal kVal) (vM,vS),OB.box b1 150 kFrm ([],[]),OB.row vB 23 kVC b]) (fun (i:Nat) (vM:Value) (vS:Value)=>b.length-i) 0 (.slice none 0 0) (.slice none 0 0) (Nat.zero_le _) (aq Z Z Z Z (az Z (ah (y:=(0:Int)) (by rfl)) ar)) (a6 (OS.keepLe (bl (by rfl)) (OS.keepLe (bl (by rfl)) (OS.keep (OS.keep (OS.keep OS.nil)))))) ?_
 intro i vM vS hi
 have hP:PosU (gram b) i:=hPn.le hi
 refine ab<|Cr<|Wm Z<|Wm Z<|Ws (c5 Z (ag 4 Z) U22)<|Ws (aW Z Z)<|Wn ?_
 refine aM Z (fun h_t15=>?_)<|fun h_t15=>?_
 ·
  refine Ck<|ab<|aF<|Cr<|Wa Z<|Wn<|ab<|Cr<|Wa Z<|Wn<|aF<|bQ 31 kRC ?_
  have hE:∀k j,k≤i→k≤j→j≤i→RZ 8590000128 (gsE (qG (gram b)) k i j):=fun k j h1 h2 h3=>hEn i k j (by omega) h1 h2 h3
  have hS:∀k,k<i→RZ 8590000128 (frS (gram b) k):=fun k hk=>hSn k (by omega)
  have hM:∀x k,x<b.length→k<x→RZ 8590000128 (frM (gram b) x k):=hMn
  refine bT (fun (j:Nat) (v:Value)=>j≤i) (fun (j:Nat) (v:Value)=>[(0,VP.ex vB),(2,VP.pt b1 0),(3,kBool.is false),(4,VP.pt b2 0),(5,kN6.is (i:Int)),(6,VP.ex v),(7,kN6.is (j:Int))]) (fun (j:Nat) (v:Value)=>[OB.row v 31 kRC (frRow (gram b) i j),OB.row vM 26 (kSl kRC) (frMus (gram b) i),OB.row vS 31 kRC (frSts (gram b) i),OB.box b2 150 (kPair kVal kVal) (vM,vS),OB.box b1 150 kFrm ([],[]),OB.row vB 23 kVC b]) (fun (j:Nat) (v:Value)=>i-j) 0 (.slice none 0 0) (by omega) (aq Z Z Z Z (ac Z (ac Z (az Z (ah (y:=(0:Int)) (by rfl)) ar)))) (a6 (OS.keepLe (bl (by rfl)) (OS.keep (OS.keep (OS.keep (OS.keep (OS.keep OS.nil))))))) ?_
  intro j v hj
  refine ab<|Cr<|Wm Z<|Wm Z<|Ws (aW Z Z)<|Wn ?_
  refine aM Z (fun h_t20=>?_)<|fun h_t20=>?_
  ·
   refine Ck<|ab<|aF<|ab ?_
   refine a5 (Γ:=[.fr (VP.ex vB),.fr (kN6.is (i:Int)),.fr (VP.pel vB (i*1)),.fr (kVC.is (b.getD i [])),.fr (VP.ex vB),.fr (kN6.is (j:Int)),.fr (VP.pel vB (j*1)),.fr (kVC.is (b.getD j [])),.fr (kC.is (dotV (b.getD i []) (b.getD j []))),.fr (kRC.is (rq (gsE (qG (gram b)) 0 i j))),.al (fun b=>OB.box b 31 kRC (0,0))]) (om Z Z (om Z Z (aa Z (fun N=>bb (k:=kVC) (xs:=b) (n:=(i:Int)) i Z Z (mN N 5 Z) U22 aJ Z (by omega)) (aa Z (fun N=>bq i Z (mN N 5 Z) Li Z (y:=(b.getD i [])) (gd [] (by omega)) aJ Z) (om Z Z (om Z Z (aa Z (fun N=>bb (k:=kVC) (xs:=b) (n:=(j:Int)) j Z Z (mN N 5 Z) U22 aJ Z (by omega)) (aa Z (fun N=>bq j Z (mN N 5 Z) Li Z (y:=(b.getD j [])) (gd [] (by omega)) aJ Z) (aa Z (fun N=>aB fn238 (ai Z (c6 ((hb i).sm (by omega))) (ai Z (c6 ((hb j).sm (by omega))) ao)) (gx n (b.getD i []) (b.getD j []) (hb i) (hb j) (by have:=row_le hr hc i;omega) (by rw [hr i (by omega),hr j (by omega)];exact Nat.le_refl _))) (aa Z (fun N=>aV (aB dJ (ai Z (aL ((hz i j).sm (by omega))) ao) (dE (dotV (b.getD i []) (b.getD j [])))) (ah Z)) (oc (cM Z ba) oz)))))))))))<|fun σ1=>?_
   refine aE .n (aD (l:=kRC) (u:=rq (gsE (qG (gram b)) 0 i j)) 0 Z Z Z aj Z Lr)<|Wn<|ab<|Cr<|Wa Z<|Wn<|aF<|bT (fun (k:Nat) (p:Nat)=>k≤j) (fun (k:Nat) (p:Nat)=>[(0,VP.ex vB),(2,VP.pt b1 0),(3,kBool.is false),(4,VP.pt b2 0),(5,kN6.is (i:Int)),(6,VP.ex v),(7,kN6.is (j:Int)),(8,VP.pt p 0),(9,kN6.is (k:Int))]) (fun (k:Nat) (p:Nat)=>[OB.box p 31 kRC (rq (gsE (qG (gram b)) k i j)),OB.row v 31 kRC (frRow (gram b) i j),OB.row vM 26 (kSl kRC) (frMus (gram b) i),OB.row vS 31 kRC (frSts (gram b) i),OB.box b2 150 (kPair kVal kVal) (vM,vS),OB.box b1 150 kFrm ([],[]),OB.row vB 23 kVC b]) (fun (k:Nat) (p:Nat)=>j-k) 0 (σ1 10) (by omega) (aq Z Z Z Z (aq Z Z Z Z (az Z (ah (y:=(0:Int)) (by rfl)) ar))) (aH _) ?_
   intro k p hk
   refine ab<|Cr<|Wm Z<|Wm Z<|Ws (aW Z Z)<|Wn ?_
   refine aM Z (fun h_t35=>?_)<|fun h_t35=>?_
   ·
    refine Ck<|ab<|aF ?_
    refine a5 (Γ:=[.fr (kRC.is (rq (gsE (qG (gram b)) k i j))),.fr (VP.pt b2 0),.fr (VP.ex vM),.fr (kN6.is (j:Int)),.fr (VP.pel vM (j*1)),.fr ((kSl kRC).is ((frMus (gram b) i).getD j [])),.fr (kN6.is (k:Int)),.fr (VP.pim kRC (rq (frM (gram b) j k))),.fr (kRC.is (rq (frM (gram b) j k))),.fr (VP.ex v),.fr (kN6.is (k:Int)),.fr (VP.pel v (k*4)),.fr (kRC.is (rq (frM (gram b) i k))),.fr (kRC.is (rq ((frM (gram b) j k)*(frM (gram b) i k)))),.fr (VP.pt b2 1),.fr (VP.ex vS),.fr (kN6.is (k:Int)),.fr (VP.pel vS (k*4)),.fr (kRC.is (rq (frS (gram b) k))),.fr (kRC.is (rq ((frM (gram b) j k*frM (gram b) i k)*(frS (gram b) k)))),.fr (kRC.is (rq ((gsE (qG (gram b)) k i j)-(frM (gram b) j k*frM (gram b) i k*frS (gram b) k))))]) (aa Z (fun N=>af Z (mN N 0 Z) Li aj Z) (aa Z (fun N=>aw Z eU Z) (aa Z (fun N=>aV (af (p:=kVal.is vM) Z (mN N 4 Z) (aC Li) eW Z) (bd _)) (om Z Z (aa Z (fun N=>bb (k:=(kSl kRC)) (xs:=(frMus (gram b) i)) (n:=(j:Int)) j Z Z (mN N 2 Z) U148 bM Z (by simp only [frRow_len,frMus_len,frSts_len];omega)) (aa Z (fun N=>bq j Z (mN N 2 Z) Li Z (y:=((frMus (gram b) i).getD j [])) (gd [] (by simp only [frRow_len,frMus_len,frSts_len];omega)) bM Z) (om Z Z (aa Z (fun N=>aU k Z Z U26 aj Z (v:=(rq (frM (gram b) j k))) (gg (by omega) (by omega))) (aa Z (fun N=>aQ Z aj) (om Z Z (om Z Z (aa Z (fun N=>bb (k:=kRC) (xs:=(frRow (gram b) i j)) (n:=(k:Int)) k Z Z (mN N 1 Z) U26 aj Z (by simp only [frRow_len,frMus_len,frSts_len];omega)) (aa Z (fun N=>bq (k:=kRC) (xs:=(frRow (gram b) i j)) k Z (mN N 1 Z) Li (ho:=Z) (y:=(rq (frM (gram b) i k))) (frRow_at (by omega)) aj Z) (aa Z (fun N=>f2 dh Z Z (dl 8590000128 (frM (gram b) j k) (frM (gram b) i k) (hM j k (by omega) (by omega)) (hM i k (by omega) (by omega)) (by omega))) (aa Z (fun N=>aw Z dK Z) (aa Z (fun N=>aV (af (p:=kVal.is vS) Z (mN N 4 Z) (am Li) bM Z) (bd _)) (om Z Z (aa Z (fun N=>bb (k:=kRC) (xs:=(frSts (gram b) i)) (n:=(k:Int)) k Z Z (mN N 3 Z) U26 aj Z (by simp only [frRow_len,frMus_len,frSts_len];omega)) (aa Z (fun N=>bq (k:=kRC) (xs:=(frSts (gram b) i)) k Z (mN N 3 Z) Li (ho:=Z) (y:=(rq (frS (gram b) k))) (eI (by omega)) aj Z) (aa Z (fun N=>aB dh (ai Z (ah (y:=rq (frM (gram b) j k*frM (gram b) i k)) (by rfl)) (aP Z ao)) (dl 17180000256 (frM (gram b) j k*frM (gram b) i k) (frS (gram b) k) ((hM j k (by omega) (by omega)).mul (hM i k (by omega) (by omega))) ((hS k (by omega)).up (by omega)) (by omega))) (aa Z (fun N=>aB d3 (aP Z (ai Z (ah (y:=rq (frM (gram b) j k*frM (gram b) i k*frS (gram b) k)) (by rfl)) ao)) (em 25770000384 (gsE (qG (gram b)) k i j) (frM (gram b) j k*frM (gram b) i k*frS (gram b) k) ((hE k j (by omega) (by omega) (by omega)).up (by omega)) (((hM j k (by omega) (by omega)).mul (hM i k (by omega) (by omega))).mul (hS k (by omega))) (by omega))) oz)))))))))))))))))))))<|fun σ2=>?_
    refine aE .n (aD (l:=kRC) (u:=rq ((gsE (qG (gram b)) k i j)-(frM (gram b) j k*frM (gram b) i k*frS (gram b) k))) 0 Z Z Z aj Z Lr)<|au<|Qb<|ak<|Wm Z<|Ws (aS Z Z (c:=((k:Int)+1)) (aG (by omega)))<|Wa Z<|au<|tb 0 Z (y:=(rq (gsE (qG (gram b)) (k+1) i j))) (by rw [fr_step hs (hP.le (by omega))]) ?_
    exact bP (k+1) p (by omega) (by omega) (aq Z Z Z Z (aq Z Z Z Z (az Z (ah (y:=(((k+1):Nat):Int)) (by rfl)) ar)))<|aH _
   ·
    refine Ex<|tb 0 Z (y:=(rq (gsE (qG (gram b)) j i j))) (by rw [show k=j by omega]) ?_
    refine a5 (Γ:=[.fr (VP.ex v),.fr (kRC.is (rq (gsE (qG (gram b)) j i j))),.fr (VP.pt b2 1),.fr (VP.ex vS),.fr (kN6.is (j:Int)),.fr (VP.pel vS (j*4)),.fr (kRC.is (rq (frS (gram b) j))),.fr (kRC.is (rq ((gsE (qG (gram b)) j i j)/(frS (gram b) j)))),.fr ((kSl kRC).is [rq ((gsE (qG (gram b)) j i j)/(frS (gram b) j))])]) (om Z Z (aa Z (fun N=>af Z (mN N 0 Z) Li aj Z) (aa Z (fun N=>aw Z dK Z) (aa Z (fun N=>aV (af (p:=kVal.is vS) Z (mN N 4 Z) (am Li) bM Z) (bd _)) (om Z Z (aa Z (fun N=>bb (k:=kRC) (xs:=(frSts (gram b) i)) (n:=(j:Int)) j Z Z (mN N 3 Z) U26 aj Z (by simp only [frRow_len,frMus_len,frSts_len];omega)) (aa Z (fun N=>bq (k:=kRC) (xs:=(frSts (gram b) i)) j Z (mN N 3 Z) Li (ho:=Z) (y:=(rq (frS (gram b) j))) (eI (by omega)) aj Z) (aa Z (fun N=>f2 fn76 Z Z (c_ref03_Div 8590000128 (gsE (qG (gram b)) j i j) (frS (gram b) j) (hE j j (by omega) (by omega) (by omega)) (hS j (by omega)) (by omega) (frS_ne hs (hP.le (by omega))))) (aa Z (fun N=>bw U26 dk (bS Z bt) Z (by decide)) oz)))))))))<|fun σ3=>?_
    refine bD 1 .n Z Z Z Lr U26 dk (by simp only [frRow_len,frMus_len,frSts_len,List.length_cons,List.length_nil];omega) fun v3=>Wa Z<|au<|Qb<|ak<|Wm Z<|Ws (aS Z Z (c:=((j:Int)+1)) (aG (by omega)))<|Wa Z<|au<|tr 1 Z (y:=(frRow (gram b) i (j+1))) (frRow_app (gram b) i j) ?_
    exact bP (j+1) v3 (by omega) (by omega) (aq Z Z Z Z (ac Z (ac Z (az Z (ah (y:=(((j+1):Nat):Int)) (by rfl)) ar))))<|a6<|OS.skip<|OS.keep<|OS.keep<|OS.keep<|OS.keep<|OS.keep<|OS.keep OS.nil
  ·
   refine Ex<|ab<|tr 0 Z (y:=(frRow (gram b) i i)) (by rw [show j=i by omega]) ?_
   refine a5 (Γ:=[.fr (VP.ex vB),.fr (kN6.is (i:Int)),.fr (VP.pel vB (i*1)),.fr (kVC.is (b.getD i [])),.fr (VP.ex vB),.fr (kN6.is (i:Int)),.fr (VP.pel vB (i*1)),.fr (kVC.is (b.getD i [])),.fr (kC.is (dotV (b.getD i []) (b.getD i []))),.fr (kRC.is (rq (gsE (qG (gram b)) 0 i i))),.al (fun b=>OB.box b 31 kRC (0,0))]) (om Z Z (om Z Z (aa Z (fun N=>bb (k:=kVC) (xs:=b) (n:=(i:Int)) i Z Z (mN N 5 Z) U22 aJ Z (by omega)) (aa Z (fun N=>bq i Z (mN N 5 Z) Li Z (y:=(b.getD i [])) (gd [] (by omega)) aJ Z) (om Z Z (om Z Z (aa Z (fun N=>bb (k:=kVC) (xs:=b) (n:=(i:Int)) i Z Z (mN N 5 Z) U22 aJ Z (by omega)) (aa Z (fun N=>bq i Z (mN N 5 Z) Li Z (y:=(b.getD i [])) (gd [] (by omega)) aJ Z) (aa Z (fun N=>aB fn238 (ai Z (c6 ((hb i).sm (by omega))) (ai Z (c6 ((hb i).sm (by omega))) ao)) (gx n (b.getD i []) (b.getD i []) (hb i) (hb i) (by have:=row_le hr hc i;omega) (Nat.le_refl _))) (aa Z (fun N=>aV (aB dJ (ai Z (aL ((hz i i).sm (by omega))) ao) (dE (dotV (b.getD i []) (b.getD i [])))) (ah Z)) (oc (cM Z ba) oz)))))))))))<|fun σ4=>?_
   refine aE .n (aD (l:=kRC) (u:=rq (gsE (qG (gram b)) 0 i i)) 0 Z Z Z aj Z Lr)<|Wn<|ab<|Cr<|Wa Z<|Wn<|aF<|bT (fun (l:Nat) (p:Nat)=>l≤i) (fun (l:Nat) (p:Nat)=>[(0,VP.ex vB),(2,VP.pt b1 0),(3,kBool.is false),(4,VP.pt b2 0),(5,kN6.is (i:Int)),(6,VP.ex v),(10,VP.pt p 0),(11,kN6.is (l:Int))]) (fun (l:Nat) (p:Nat)=>[OB.box p 31 kRC (rq (gsE (qG (gram b)) l i i)),OB.row v 31 kRC (frRow (gram b) i i),OB.row vM 26 (kSl kRC) (frMus (gram b) i),OB.row vS 31 kRC (frSts (gram b) i),OB.box b2 150 (kPair kVal kVal) (vM,vS),OB.box b1 150 kFrm ([],[]),OB.row vB 23 kVC b]) (fun (l:Nat) (p:Nat)=>i-l) 0 (σ4 10) (by omega) (aq Z Z Z Z (ac Z (ac Z (ac Z (az Z (ah (y:=(0:Int)) (by rfl)) ar))))) (aH _) ?_
   intro l p hl2
   refine ab<|Cr<|Wm Z<|Wm Z<|Ws (aW Z Z)<|Wn ?_
   refine aM Z (fun h_t81=>?_)<|fun h_t81=>?_
   ·
    refine Ck<|ab<|aF ?_
    refine a5 (Γ:=[.fr (kRC.is (rq (gsE (qG (gram b)) l i i))),.fr (VP.ex v),.fr (kN6.is (l:Int)),.fr (VP.pel v (l*4)),.fr (kRC.is (rq (frM (gram b) i l))),.fr (kRC.is (rq ((frM (gram b) i l)*(frM (gram b) i l)))),.fr (VP.pt b2 1),.fr (VP.ex vS),.fr (kN6.is (l:Int)),.fr (VP.pel vS (l*4)),.fr (kRC.is (rq (frS (gram b) l))),.fr (kRC.is (rq ((frM (gram b) i l*frM (gram b) i l)*(frS (gram b) l)))),.fr (kRC.is (rq ((gsE (qG (gram b)) l i i)-(frM (gram b) i l*frM (gram b) i l*frS (gram b) l))))]) (aa Z (fun N=>af Z (mN N 0 Z) Li aj Z) (om Z Z (om Z Z (aa Z (fun N=>bb (k:=kRC) (xs:=(frRow (gram b) i i)) (n:=(l:Int)) l Z Z (mN N 1 Z) U26 aj Z (by simp only [frRow_len,frMus_len,frSts_len];omega)) (aa Z (fun N=>bq (k:=kRC) (xs:=(frRow (gram b) i i)) l Z (mN N 1 Z) Li (ho:=Z) (y:=(rq (frM (gram b) i l))) (frRow_at (by omega)) aj Z) (aa Z (fun N=>f1 fn239 Z (c_ref05_square 8590000128 (frM (gram b) i l) (hM i l (by omega) (by omega)) (by omega))) (aa Z (fun N=>aw Z dK Z) (aa Z (fun N=>aV (af (p:=kVal.is vS) Z (mN N 4 Z) (am Li) bM Z) (bd _)) (om Z Z (aa Z (fun N=>bb (k:=kRC) (xs:=(frSts (gram b) i)) (n:=(l:Int)) l Z Z (mN N 3 Z) U26 aj Z (by simp only [frRow_len,frMus_len,frSts_len];omega)) (aa Z (fun N=>bq (k:=kRC) (xs:=(frSts (gram b) i)) l Z (mN N 3 Z) Li (ho:=Z) (y:=(rq (frS (gram b) l))) (eI (by omega)) aj Z) (aa Z (fun N=>aB dh (ai Z (ah (y:=rq (frM (gram b) i l*frM (gram b) i l)) (by rfl)) (aP Z ao)) (dl 17180000256 (frM (gram b) i l*frM (gram b) i l) (frS (gram b) l) ((hM i l (by omega) (by omega)).mul (hM i l (by omega) (by omega))) ((hS l (by omega)).up (by omega)) (by omega))) (aa Z (fun N=>aB d3 (aP Z (ai Z (ah (y:=rq (frM (gram b) i l*frM (gram b) i l*frS (gram b) l)) (by rfl)) ao)) (em 25770000384 (gsE (qG (gram b)) l i i) (frM (gram b) i l*frM (gram b) i l*frS (gram b) l) ((hE l i (by omega) (by omega) (by omega)).up (by omega)) (((hM i l (by omega) (by omega)).mul (hM i l (by omega) (by omega))).mul (hS l (by omega))) (by omega))) oz)))))))))))))<|fun σ5=>?_
    refine aE .n (aD (l:=kRC) (u:=rq ((gsE (qG (gram b)) l i i)-(frM (gram b) i l*frM (gram b) i l*frS (gram b) l))) 0 Z Z Z aj Z Lr)<|au<|Qb<|ak<|Wm Z<|Ws (aS Z Z (c:=((l:Int)+1)) (aG (by omega)))<|Wa Z<|au<|tb 0 Z (y:=(rq (gsE (qG (gram b)) (l+1) i i))) (by rw [fr_step hs (hP.le (by omega))]) ?_
    exact bP (l+1) p (by omega) (by omega) (aq Z Z Z Z (ac Z (ac Z (ac Z (az Z (ah (y:=(((l+1):Nat):Int)) (by rfl)) ar)))))<|aH _
   ·
    refine Ex<|ab<|ab ?_
    have hSi:RZ 8590000128 (frS (gram b) i):=hSn i (by omega)
    refine tb 0 Z (y:=(rq (frS (gram b) i))) (by rw [show l=i by omega];rfl)<|ak<|Ws (aw Z cx Z)<|Ws (af Z (ag 0 Z) (aC Li) ae Z)<|Ws (aB eB (ai Z (aL (hSi.a.sm (by omega))) ao) (eh ((rq (frS (gram b) i)).1)))<|Ws (dN Z Z)<|Wn ?_
    refine CN Z (fun h=>(frS_sgn hs hP).1 h (hPn i (by omega))) fun h_t100=>?_
    refine Ck<|ab<|bJ 1 Z (kp 0 Z (kp 2 Z (kp 3 Z (kp 4 Z (kp 5 Z (.hit (i:=6) Z (kp 10 Z (kp 11 Z (kp 79 Z (kp 80 Z (kp 81 Z (kp 97 Z (kp 98 Z (kp 99 Z (kp 100 Z .nil)))))))))))))))<|ak<|Ws (aw Z eU Z)<|Ws (aV (af (p:=kVal.is vM) Z (ag 3 Z) (aC Li) eW Z) (bd _))<|Wm Z<|Ws (bw U148 gk (bS Z bt) Z (by decide))<|bD 1 .n Z Z Z Lr U148 gk (by simp only [frRow_len,frMus_len,frSts_len,List.length_cons,List.length_nil];omega) fun v4=>Ws (aw Z eU Z)<|bp 1 Z fun hcell_=>aE .n (dp 3 Z Z (aC Li) eW Z (bo (by assumption)))<|Wn<|ak<|Ws (aw Z dK Z)<|Ws (aV (af (p:=kVal.is vS) Z (ag 3 Z) (am Li) bM Z) (bd _))<|Ws (af Z (ag 0 Z) Li aj Z)<|Ws (bw U26 dk (bS Z bt) Z (by decide))<|bD 2 .n Z Z Z Lr U26 dk (by simp only [frRow_len,frMus_len,frSts_len,List.length_cons,List.length_nil];omega) fun v5=>Ws (aw Z dK Z)<|bp 2 Z fun hcell_=>aE .n (dp 3 Z Z (am Li) bM Z (bo (by assumption))) ?_
    refine au<|Qb<|ak<|Wm Z<|Ws (aS Z Z (c:=((i:Int)+1)) (aG (by omega)))<|Wa Z<|au<|tr 1 Z (y:=(frMus (gram b) (i+1))) (frMus_app (gram b) i)<|tr 2 Z (y:=(frSts (gram b) (i+1))) (frSts_app (gram b) i) ?_
    exact dc (i+1) v4 v5 (by omega) (by omega) (aq Z Z Z Z (az Z (ah (y:=(((i+1):Nat):Int)) (by rfl)) ar))<|a6<|OS.skip<|OS.keep<|OS.keep<|OS.keep<|OS.keep<|OS.keep OS.nil
 ·
  refine Ex<|ab<|d7 (k2:=(kPair (kSl (kSl kRC)) kVal)) ((frMus (gram b) i),vS) 0 1 Z Z (fun m_ cs_ h_ c_=>fz m_ cs_ h_ c_) (kp 0 Z (kp 2 Z (kp 3 Z (kp 4 Z (kp 5 Z (kp 12 Z (kp 13 Z (kp 14 Z (kp 15 Z .nil)))))))))<|d7 (k2:=kFrm) ((frMus (gram b) i),(frSts (gram b) i)) 0 0 Z Z (fun m_ cs_ h_ c_=>fy m_ cs_ h_ c_) (kp 0 Z (kp 2 Z (kp 3 Z (kp 4 Z (kp 5 Z (kp 12 Z (kp 13 Z (kp 14 Z (kp 15 Z .nil))))))))) ?_
  have hib:i=b.length:=by omega
  refine ak<|Ws (af (p:=kFrm.is ((frMus (gram b) i),(frSts (gram b) i))) Z (ag 0 Z) Li df Z)<|aE .n (aD (l:=kFrm) (u:=((frMus (gram b) i),(frSts (gram b) i))) 1 Z Z Z df Z Lr)<|Wa Z<|Wn<|aA<|tb 1 Z (y:=(frMus (gram b) b.length,frSts (gram b) b.length)) (by rw [←hib])<|bi (bj [2,1] (by decide) Z) ?_
  exact bZ (.inl Z) Z (aZ Z (ag 1 Z) df (aI Z ay)) (a6 (OS.keep (OS.skip OS.nil))) ⟨Z,Z,trivial⟩
theorem c_ref05_Rowsx (b:List (List Int)):Con Tryz.prog 240 [kMZ.is b] [] (fun p Lo=>∃(v:Value),p=VP.ex v∧Lo=[OB.row v 23 kVC b]∧True):=by
 refine aO Tryz.func240 Z Z fun m w=>a9 (i:=0) Z bI fun hB=>a9 (i:=0) Z eT fun hlc=>Cr<|Wa Z<|Wr<|Wa Z<|Wn<|ab<|Cr<|Wa Z<|Wn<|aF<|bQ 23 kVC<|bT (fun (i:Nat) (v:Value)=>i≤b.length) (fun (i:Nat) (v:Value)=>[(0,kMZ.is b),(3,VP.ex v),(4,kN6.is (i:Int))]) (fun (i:Nat) (v:Value)=>[OB.row v 23 kVC (b.take i)]) (fun (i:Nat) (v:Value)=>b.length-i) 0 (.slice none 0 0) (Nat.zero_le _) (ac Z (ac Z (az Z (ah (y:=(0:Int)) (by rfl)) ar))) (a6 (OS.keepLe (bl (by rfl)) OS.nil)) ?_
 intro i v hi
 refine ab<|Cr<|Wm Z<|Wm Z<|Ws (aK Z U22)<|Ws (aW Z Z)<|Wn ?_
 refine aM Z (fun h_t10=>?_)<|fun h_t10=>?_
 ·
  refine Ck<|ab<|aF<|Cr<|Wa Z<|Wn<|ab<|Cr<|Wa Z<|Wn<|aF ?_
  have hlci:=hlc i
  refine bQ 29 kC<|bT (fun (k:Nat) (u:Value)=>k≤(b.getD i []).length) (fun (k:Nat) (u:Value)=>[(0,kMZ.is b),(3,VP.ex v),(4,kN6.is (i:Int)),(5,VP.ex u),(6,kN6.is (k:Int))]) (fun (k:Nat) (u:Value)=>[OB.row u 29 kC ((b.getD i []).take k),OB.row v 23 kVC (b.take i)]) (fun (k:Nat) (u:Value)=>(b.getD i []).length-k) 0 (.slice none 0 0) (Nat.zero_le _) (aq Z Z Z Z (az Z (ah (y:=(0:Int)) (by rfl)) ar)) (a6 (OS.keepLe (bl (by rfl)) (OS.keep OS.nil))) ?_
  intro k u hk
  refine ab<|Cr<|Wm Z<|Wm Z<|Wm Z<|Ws (aU i Z Z U22 aJ Z (v:=(b.getD i [])) (gd [] (by omega)))<|Ws (aQ Z aJ)<|Ws (aK Z U23)<|Ws (aW Z Z)<|Wn ?_
  refine aM Z (fun h_t19=>?_)<|fun h_t19=>?_
  ·
   refine Ck<|ab<|aF<|ak<|Wm Z<|Wm Z<|Wm Z<|Ws (aU i Z Z U22 aJ Z (v:=(b.getD i [])) (gd [] (by omega)))<|Ws (aQ Z aJ)<|Wm Z<|Ws (aU k Z Z U23 ae Z (v:=((b.getD i []).getD k 0)) (gd 0 (by omega)))<|Ws (aQ Z ae)<|Ws (f1 fn113 Z (fW ((b.getD i []).getD k 0)))<|Ws (bw U23 bn (bS Z bt) Z (by decide))<|bD 0 .n Z Z Z Lr U23 bn (by simp;omega) fun v1=>Wa Z<|au<|Qb<|ak<|Wm Z<|Ws (aS Z Z (c:=((k:Int)+1)) (aG (by omega)))<|Wa Z ?_
   refine au<|tr 0 Z (y:=((b.getD i []).take (k+1))) (fG (by omega)) ?_
   exact bP (k+1) v1 (by omega) (by omega) (aq Z Z Z Z (az Z (ah (y:=(((k+1):Nat):Int)) (by rfl)) ar))<|aH _
  ·
   refine Ex<|tr 0 Z (y:=(b.getD i [])) (List.take_of_length_le (by omega))<|bJ 0 Z (kp 0 Z (kp 3 Z (kp 4 Z (.hit (i:=5) Z (kp 6 Z (kp 13 Z (kp 14 Z (kp 15 Z (kp 16 Z (kp 17 Z (kp 18 Z (kp 19 Z .nil))))))))))))<|ak<|Wm Z<|Wm Z<|Ws (bw U22 c3 (bS Z bt) Z (by decide))<|bD 0 .n Z Z Z Lr U22 c3 (by simp;omega) fun v2=>Wa Z<|au<|Qb<|ak<|Wm Z<|Ws (aS Z Z (c:=((i:Int)+1)) (aG (by omega)))<|Wa Z<|au<|tr 0 Z (y:=(b.take (i+1))) (fG (by omega)) ?_
   exact bP (i+1) v2 (by omega) (by omega) (ac Z (ac Z (az Z (ah (y:=(((i+1):Nat):Int)) (by rfl)) ar)))<|aH _
 ·
  refine Ex<|Cr<|Wm Z<|Wa Z<|Wn<|aA<|tr 0 Z (y:=b) (List.take_of_length_le (by omega)) ?_
  exact bZ (.inl Z) Z (aI Z ay) (aH _) ⟨v,Z,Z,trivial⟩
theorem c_ref05_Grown (n:Nat) (u v:List Int) (q:Int) (hu:SzL n u) (hv:SzL n v) (hq:Sz n q) (hl:u.length≤v.length) (hn:n≤137438953472):Fn Tryz.prog 266 [kVZ.is u,kZ.is q,kVZ.is v] (kVC.is (pairV (fun x y=>x+q*y) u v)):=by
 refine aO Tryz.func266 Z Z fun m w=>a9 (i:=0) Z bI fun hB=>Cr<|aY .n Z fun b1=>Wa Z<|Wr<|Wa Z<|Wn<|ab<|Cr<|Wa Z<|Wn<|aF<|bQ 29 kC<|bT (fun (i:Nat) (vW:Value)=>i≤u.length) (fun (i:Nat) (vW:Value)=>[(0,kVZ.is u),(2,kVZ.is v),(4,VP.pt b1 0),(7,VP.ex vW),(8,kN6.is (i:Int))]) (fun (i:Nat) (vW:Value)=>[OB.row vW 29 kC ((List.range i).map (fun l=>u.getD l 0+q*v.getD l 0)),OB.box b1 29 kZ q]) (fun (i:Nat) (vW:Value)=>u.length-i) 0 (.slice none 0 0) (Nat.zero_le _) (aq Z Z Z Z (az Z (ah (y:=(0:Int)) (by rfl)) ar)) (a6 (OS.keepLe (bl (by rfl)) (OS.keep OS.nil))) ?_
 intro i vW hi
 refine ab<|Cr<|Wm Z<|Wm Z<|Ws (aK Z U23)<|Ws (aW Z Z)<|Wn ?_
 refine aM Z (fun h_t12=>?_)<|fun h_t12=>?_
 ·
  refine Ck<|ab<|aF ?_
  refine a5 (Γ:=[.fr (VP.ex vW),.fr (kVZ.is u),.fr (kN6.is (i:Int)),.fr (VP.pim kZ (u.getD i 0)),.fr (kZ.is (u.getD i 0)),.fr (kZ.is q),.fr (kVZ.is v),.fr (kN6.is (i:Int)),.fr (VP.pim kZ (v.getD i 0)),.fr (kZ.is (v.getD i 0)),.fr (kC.is (q*(v.getD i 0))),.fr (kC.is ((u.getD i 0)+(q*(v.getD i 0)))),.fr (kVC.is [(u.getD i 0)+(q*(v.getD i 0))])]) (om Z Z (om Z Z (om Z Z (aa Z (fun N=>aU i Z Z U23 ae Z (v:=(u.getD i 0)) (gd 0 (by omega))) (aa Z (fun N=>aQ Z ae) (aa Z (fun N=>af Z (mN N 1 Z) Li ae Z) (om Z Z (om Z Z (aa Z (fun N=>aU i Z Z U23 ae Z (v:=(v.getD i 0)) (gd 0 (by omega))) (aa Z (fun N=>aQ Z ae) (aa Z (fun N=>f2 dx Z Z (dq q (v.getD i 0))) (aa Z (fun N=>aB eY (aP Z (ai Z (aL ((hq.mul (hv i)).sm (by omega))) ao)) (eQ (u.getD i 0) (q*(v.getD i 0)))) (aa Z (fun N=>bw U23 bn (bS Z bt) Z (by decide)) oz)))))))))))))<|fun σ1=>?_
  refine bD 0 .n Z Z Z Lr U23 bn (by simp;omega) fun v2=>Wa Z<|au<|Qb<|ak<|Wm Z<|Ws (aS Z Z (c:=((i:Int)+1)) (aG (by omega)))<|Wa Z<|au<|tr 0 Z (y:=((List.range (i+1)).map (fun l=>u.getD l 0+q*v.getD l 0))) (fo (fun l=>u.getD l 0+q*v.getD l 0) i) ?_
  exact bP (i+1) v2 (by omega) (by omega) (aq Z Z Z Z (az Z (ah (y:=(((i+1):Nat):Int)) (by rfl)) ar))<|aH _
 ·
  refine Ex<|Cr<|Wm Z<|Wa Z<|Wn<|aA<|bJ 0 Z (kp 0 Z (kp 2 Z (kp 4 Z (.hit (i:=6) Z (.hit (i:=7) Z (kp 8 Z (kp 9 Z (kp 10 Z (kp 11 Z (kp 12 Z (.hit (i:=29) Z .nil)))))))))))<|tl 6 Z (y:=(pairV (fun x y=>x+q*y) u v)) (by rw [show i=u.length by omega];rfl) ?_
  exact Qd Z (aI Z ay) ⟨Z,Z⟩
theorem c_ref07_Unitx (n:Nat) (hn:n≤12):Con Tryz.prog 183 [kN6.is (n:Int)] [] (fun p Lo=>∃(v:Value),p=VP.ex v∧Lo=[OB.row v 23 kVC (unitV n)]∧True):=by
 refine aO Tryz.func183 Z Z fun m w=>Cr<|Wa Z<|Wr<|Wa Z<|Wn<|ab<|Cr<|Wa Z<|Wn<|aF<|bQ 23 kVC<|bT (fun (i:Nat) (v:Value)=>i≤n) (fun (i:Nat) (v:Value)=>[(0,kN6.is (n:Int)),(3,VP.ex v),(4,kN6.is (i:Int))]) (fun (i:Nat) (v:Value)=>[OB.row v 23 kVC ((List.range i).map (fun x=>(List.replicate n 0).set x 1))]) (fun (i:Nat) (v:Value)=>n-i) 0 (.slice none 0 0) (Nat.zero_le _) (ac Z (ac Z (az Z (ah (y:=(0:Int)) (by rfl)) ar))) (a6 (OS.keepLe (bl (by rfl)) OS.nil)) ?_
 intro i v hi
 refine ab<|Cr<|Wm Z<|Wm Z<|Ws (aW Z Z)<|Wn ?_
 refine aM Z (fun h_t9=>?_)<|fun h_t9=>?_
 ·
  refine Ck<|ab<|aF<|Cr<|Wa Z<|Wn<|ab<|Cr<|Wa Z<|Wn<|aF<|bQ 29 kC<|bT (fun (k:Nat) (u:Value)=>k≤n) (fun (k:Nat) (u:Value)=>[(0,kN6.is (n:Int)),(3,VP.ex v),(4,kN6.is (i:Int)),(5,VP.ex u),(6,kN6.is (k:Int))]) (fun (k:Nat) (u:Value)=>[OB.row u 29 kC (((List.replicate n 0).set i 1).take k),OB.row v 23 kVC ((List.range i).map (fun x=>(List.replicate n 0).set x 1))]) (fun (k:Nat) (u:Value)=>n-k) 0 (.slice none 0 0) (Nat.zero_le _) (aq Z Z Z Z (az Z (ah (y:=(0:Int)) (by rfl)) ar)) (a6 (OS.keepLe (bl (by rfl)) (OS.keep OS.nil))) ?_
  intro k u hk
  refine ab<|Cr<|Wm Z<|Wm Z<|Ws (aW Z Z)<|Wn ?_
  refine aM Z (fun h_t14=>?_)<|fun h_t14=>?_
  ·
   refine Ck<|ab<|aF<|Cr<|Wm Z<|Wm Z<|Ws (cE Z Z)<|Wn ?_
   refine aM Z (fun h_t19=>?_)<|fun h_t19=>?_
   ·
    refine ak<|Wm Z<|Ws (aB dI (ai Z (cF (by omega)) ao) (dF 1))<|Ws (bw U23 bn (bS Z bt) Z (by decide))<|bD 0 .n Z Z Z Lr U23 bn (by simp;omega) fun v1=>Wa Z<|au<|Qb<|ak<|Wm Z<|Ws (aS Z Z (c:=((k:Int)+1)) (aG (by omega)))<|Wa Z<|au<|tr 0 Z (y:=(((List.replicate n 0).set i 1).take (k+1))) (unit_app (by omega) (by omega) (by rw [if_pos (by omega)])) ?_
    exact bP (k+1) v1 (by omega) (by omega) (aq Z Z Z Z (az Z (ah (y:=(((k+1):Nat):Int)) (by rfl)) ar))<|aH _
   ·
    refine ak<|Wm Z<|Ws (cd dP Z bz (.nil _))<|Ws (bw U23 bn (bS Z bt) Z (by decide))<|bD 0 .n Z Z Z Lr U23 bn (by simp;omega) fun v2=>Wa Z<|au<|Qb<|ak<|Wm Z<|Ws (aS Z Z (c:=((k:Int)+1)) (aG (by omega)))<|Wa Z<|au<|tr 0 Z (y:=(((List.replicate n 0).set i 1).take (k+1))) (unit_app (by omega) (by omega) (by rw [if_neg (by omega)])) ?_
    exact bP (k+1) v2 (by omega) (by omega) (aq Z Z Z Z (az Z (ah (y:=(((k+1):Nat):Int)) (by rfl)) ar))<|aH _
  ·
   refine Ex<|tr 0 Z (y:=((List.replicate n 0).set i 1)) (List.take_of_length_le (by simp;omega))<|bJ 0 Z (kp 0 Z (kp 3 Z (kp 4 Z (.hit (i:=5) Z (kp 6 Z (kp 12 Z (kp 13 Z (kp 14 Z .nil))))))))<|ak<|Wm Z<|Wm Z<|Ws (bw U22 c3 (bS Z bt) Z (by decide))<|bD 0 .n Z Z Z Lr U22 c3 (by simp;omega) fun v3=>Wa Z<|au<|Qb<|ak<|Wm Z<|Ws (aS Z Z (c:=((i:Int)+1)) (aG (by omega)))<|Wa Z<|au<|tr 0 Z (y:=((List.range (i+1)).map (fun x=>(List.replicate n 0).set x 1))) (fo (fun x=>(List.replicate n (0:Int)).set x 1) i) ?_
   exact bP (i+1) v3 (by omega) (by omega) (ac Z (ac Z (az Z (ah (y:=(((i+1):Nat):Int)) (by rfl)) ar)))<|aH _
 ·
  refine Ex<|Cr<|Wm Z<|Wa Z<|Wn<|aA<|tr 0 Z (y:=(unitV n)) (by rw [show i=n by omega];rfl) ?_
  exact bZ (.inl Z) Z (aI Z ay) (aH _) ⟨v,Z,Z,trivial⟩
theorem c_ref07_Unitf (n:Nat) (hn:n≤12):Con Tryz.prog 183 [kN6.is (n:Int)] [] (fun p Lo=>∃(v:Value) (vs:List Value),p=VP.ex v∧Lo=[OB.row v 23 kVal vs,OB.fam vs 29 kC (unitV n)]∧vs.length=n):=by
 refine aO Tryz.func183 Z Z fun m w=>Cr<|Wa Z<|Wr<|Wa Z<|Wn<|ab<|Cr<|Wa Z<|Wn<|aF<|bQ 23 kVal<|gL 29 kC<|dz (fun (i:Nat) (v:Value) (vs:List Value)=>i≤n∧vs.length=i) (fun (i:Nat) (v:Value) (vs:List Value)=>[(0,kN6.is (n:Int)),(3,VP.ex v),(4,kN6.is (i:Int))]) (fun (i:Nat) (v:Value) (vs:List Value)=>[OB.fam vs 29 kC ((List.range i).map (fun x=>(List.replicate n 0).set x 1)),OB.row v 23 kVal vs]) (fun (i:Nat) (v:Value) (vs:List Value)=>n-i) 0 (.slice none 0 0) [] ⟨Nat.zero_le _,Z⟩ (ac Z (ac Z (az Z (ah (y:=(0:Int)) (by rfl)) ar))) (a6 (OS.keepLe (fc (by rfl) (by rfl)) (OS.keep OS.nil))) ?_
 intro i v vs ⟨hi,hvs⟩
 refine ab<|Cr<|Wm Z<|Wm Z<|Ws (aW Z Z)<|Wn ?_
 refine aM Z (fun h_t9=>?_)<|fun h_t9=>?_
 ·
  refine Ck<|ab<|aF<|Cr<|Wa Z<|Wn<|ab<|Cr<|Wa Z<|Wn<|aF<|bQ 29 kC<|bT (fun (k:Nat) (u:Value)=>k≤n) (fun (k:Nat) (u:Value)=>[(0,kN6.is (n:Int)),(3,VP.ex v),(4,kN6.is (i:Int)),(5,VP.ex u),(6,kN6.is (k:Int))]) (fun (k:Nat) (u:Value)=>[OB.row u 29 kC (((List.replicate n 0).set i 1).take k),OB.fam vs 29 kC ((List.range i).map (fun x=>(List.replicate n 0).set x 1)),OB.row v 23 kVal vs]) (fun (k:Nat) (u:Value)=>n-k) 0 (.slice none 0 0) (Nat.zero_le _) (aq Z Z Z Z (az Z (ah (y:=(0:Int)) (by rfl)) ar)) (a6 (OS.keepLe (bl (by rfl)) (OS.keep (OS.keep OS.nil)))) ?_
  intro k u hk
  refine ab<|Cr<|Wm Z<|Wm Z<|Ws (aW Z Z)<|Wn ?_
  refine aM Z (fun h_t14=>?_)<|fun h_t14=>?_
  ·
   refine Ck<|ab<|aF<|Cr<|Wm Z<|Wm Z<|Ws (cE Z Z)<|Wn ?_
   refine aM Z (fun h_t19=>?_)<|fun h_t19=>?_
   ·
    refine ak<|Wm Z<|Ws (aB dI (ai Z (cF (by omega)) ao) (dF 1))<|Ws (bw U23 bn (bS Z bt) Z (by decide))<|bD 0 .n Z Z Z Lr U23 bn (by simp;omega) fun v1=>Wa Z<|au<|Qb<|ak<|Wm Z<|Ws (aS Z Z (c:=((k:Int)+1)) (aG (by omega)))<|Wa Z<|au<|tr 0 Z (y:=(((List.replicate n 0).set i 1).take (k+1))) (unit_app (by omega) (by omega) (by rw [if_pos (by omega)])) ?_
    exact bP (k+1) v1 (by omega) (by omega) (aq Z Z Z Z (az Z (ah (y:=(((k+1):Nat):Int)) (by rfl)) ar))<|aH _
   ·
    refine ak<|Wm Z<|Ws (cd dP Z bz (.nil _))<|Ws (bw U23 bn (bS Z bt) Z (by decide))<|bD 0 .n Z Z Z Lr U23 bn (by simp;omega) fun v2=>Wa Z<|au<|Qb<|ak<|Wm Z<|Ws (aS Z Z (c:=((k:Int)+1)) (aG (by omega)))<|Wa Z<|au<|tr 0 Z (y:=(((List.replicate n 0).set i 1).take (k+1))) (unit_app (by omega) (by omega) (by rw [if_neg (by omega)])) ?_
    exact bP (k+1) v2 (by omega) (by omega) (aq Z Z Z Z (az Z (ah (y:=(((k+1):Nat):Int)) (by rfl)) ar))<|aH _
  ·
   refine Ex<|tr 0 Z (y:=((List.replicate n 0).set i 1)) (List.take_of_length_le (by simp;omega))<|ak<|Wm Z<|Wm Z<|bp 0 Z fun hcell_=>Ws (bw U22 cy (cq Z (bo (by assumption)) bt) Z (by decide))<|bD 2 .n Z Z Z Lr U22 cy (by simp;omega) fun v3=>Wa Z<|au<|Qb<|ak<|Wm Z<|Ws (aS Z Z (c:=((i:Int)+1)) (aG (by omega)))<|Wa Z<|au<|bi (fam_push 0 Z)<|tf 0 Z (y:=((List.range (i+1)).map (fun x=>(List.replicate n 0).set x 1))) (fo (fun x=>(List.replicate n (0:Int)).set x 1) i) ?_
   exact dc (i+1) v3 (vs++[u]) (by omega) ⟨by omega,by simp [hvs]⟩ (ac Z (ac Z (az Z (ah (y:=(((i+1):Nat):Int)) (by rfl)) ar)))<|aH _
 ·
  refine Ex<|Cr<|Wm Z<|Wa Z<|Wn<|aA ?_
  have hvl:vs.length=n:=by omega
  refine tf 0 Z (y:=(unitV n)) (by rw [show i=n by omega];rfl)<|bi (bj [1,0] (by decide) Z) ?_
  exact bZ (.inl Z) Z (aI Z ay) (aH _) ⟨v,vs,Z,Z,hvl⟩
theorem c_ref07_lose (pw:Nat) (vB vU vV vS:Value) (vs:List Value) (B U V:List (List Int)) (n mc nB k j:Nat) (q:Int) (hrB:CR n mc B) (hrU:CU n U) (hrV:CU n V) (hvl:vs.length=n) (h12:n≤12) (hq:Sz nB q) (zB:SzM nB B) (zU:SzM nB U) (zV:SzM nB V) (hj:j<k) (hk:k<n) (hN:nB≤34359738368):Con Tryz.prog 241 [VP.pt pw 0,kN6.is (k:Int),kN6.is (j:Int),kZ.is q] [OB.box pw 157 (kPair kVal (kPair kVal (kPair kVal kVal))) (vB,vU,vV,vS),OB.row vB 23 kVC B,OB.row vU 23 kVC U,OB.row vV 23 kVal vs,OB.fam vs 29 kC V] (fun p Lo=>p=VP.tup []∧Lo=[OB.box pw 157 (kPair kVal (kPair kVal (kPair kVal kVal))) (vB,vU,vV,vS),OB.row vB 23 kVC (rowU B k j (-q)),OB.row vU 23 kVC (rowU U k j (-q)),OB.row vV 23 kVal vs,OB.fam vs 29 kC (colV V k j q)]∧True):=by
 refine aO Tryz.func241 Z Z fun m w=>?_
 have hlB:=hrB.len
 have hlU:=hrU.len
 have hlV:=hrV.len
 refine Cr<|aY .n Z fun b1=>Wn<|ab ?_
 refine a5 (Γ:=[.fr (VP.pt pw 0),.fr (VP.pt pw 0),.fr (VP.pt pw 0),.fr (VP.ex vB),.fr (kN6.is (k:Int)),.fr (VP.pt pw 0),.fr (VP.pt pw 0),.fr (VP.pt pw 0),.fr (VP.ex vB),.fr (kN6.is (k:Int)),.fr (VP.pel vB (k*1)),.fr (kVC.is (B.getD k [])),.fr (kZ.is q),.fr (kC.is (-q)),.fr (VP.pt pw 0),.fr (VP.pt pw 0),.fr (VP.pt pw 0),.fr (VP.ex vB),.fr (kN6.is (j:Int)),.fr (VP.pel vB (j*1)),.fr (kVC.is (B.getD j [])),.fr (kVC.is (pairV (fun x y=>x+(-q)*y) (B.getD k []) (B.getD j []))),.fr (VP.pel vB (k*1))]) (om Z Z (cf Z Z (aa Z (fun N=>aw Z eK Z) (aa Z (fun N=>aV (af (p:=kVal.is vB) Z (mN N 1 Z) (aC Li) bg Z) (bd _)) (om Z Z (om Z Z (cf Z Z (aa Z (fun N=>aw Z eK Z) (aa Z (fun N=>aV (af (p:=kVal.is vB) Z (mN N 1 Z) (aC Li) bg Z) (bd _)) (om Z Z (aa Z (fun N=>bb (k:=kVC) (xs:=B) (n:=(k:Int)) k Z Z (mN N 2 Z) U22 aJ Z (by omega)) (aa Z (fun N=>bq k Z (mN N 2 Z) Li Z (y:=(B.getD k [])) (gd [] (by omega)) aJ Z) (aa Z (fun N=>af Z (mN N 0 Z) Li ae Z) (aa Z (fun N=>f1 fn209 Z (fm q)) (om Z Z (cf Z Z (aa Z (fun N=>aw Z eK Z) (aa Z (fun N=>aV (af (p:=kVal.is vB) Z (mN N 1 Z) (aC Li) bg Z) (bd _)) (om Z Z (aa Z (fun N=>bb (k:=kVC) (xs:=B) (n:=(j:Int)) j Z Z (mN N 2 Z) U22 aJ Z (by omega)) (aa Z (fun N=>bq j Z (mN N 2 Z) Li Z (y:=(B.getD j [])) (gd [] (by omega)) aJ Z) (aa Z (fun N=>aB fn266 (ai Z (c6 ((zB _).sm (by omega))) (ai Z (aL (hq.neg.sm (by omega))) (ai Z (c6 ((zB _).sm (by omega))) ao))) (c_ref05_Grown nB (B.getD k []) (B.getD j []) (-q) (zB _) (zB _) hq.neg (by rw [hrB.row k hk,hrB.row j (by omega)];exact Nat.le_refl _) (by omega))) (aa Z (fun N=>bb (k:=kVC) (xs:=B) (n:=(k:Int)) k Z Z (mN N 2 Z) U22 aJ Z (by omega)) oz)))))))))))))))))))))))<|fun σ1=>?_
 refine aE .n (ch 2 k Z Z Li Z (y0:=(B.getD k [])) (gd [] (by omega)) aJ Z Lr)<|Wn<|ab<|tr 2 Z (y:=(rowU B k j (-q))) (by rw [grown_row];rfl) ?_
 refine a5 (Γ:=[.fr (VP.pt pw 0),.fr (VP.pt pw 0),.fr (VP.pt pw 1),.fr (VP.ex vU),.fr (kN6.is (k:Int)),.fr (VP.pt pw 0),.fr (VP.pt pw 0),.fr (VP.pt pw 1),.fr (VP.ex vU),.fr (kN6.is (k:Int)),.fr (VP.pel vU (k*1)),.fr (kVC.is (U.getD k [])),.fr (kZ.is q),.fr (kC.is (-q)),.fr (VP.pt pw 0),.fr (VP.pt pw 0),.fr (VP.pt pw 1),.fr (VP.ex vU),.fr (kN6.is (j:Int)),.fr (VP.pel vU (j*1)),.fr (kVC.is (U.getD j [])),.fr (kVC.is (pairV (fun x y=>x+(-q)*y) (U.getD k []) (U.getD j []))),.fr (VP.pel vU (k*1))]) (om Z Z (cf Z Z (aa Z (fun N=>aw Z fe Z) (aa Z (fun N=>aV (af (p:=kVal.is vU) Z (mN N 1 Z) (am (aC Li)) bg Z) (bd _)) (om Z Z (om Z Z (cf Z Z (aa Z (fun N=>aw Z fe Z) (aa Z (fun N=>aV (af (p:=kVal.is vU) Z (mN N 1 Z) (am (aC Li)) bg Z) (bd _)) (om Z Z (aa Z (fun N=>bb (k:=kVC) (xs:=U) (n:=(k:Int)) k Z Z (mN N 3 Z) U22 aJ Z (by omega)) (aa Z (fun N=>bq k Z (mN N 3 Z) Li Z (y:=(U.getD k [])) (gd [] (by omega)) aJ Z) (aa Z (fun N=>af Z (mN N 0 Z) Li ae Z) (aa Z (fun N=>f1 fn209 Z (fm q)) (om Z Z (cf Z Z (aa Z (fun N=>aw Z fe Z) (aa Z (fun N=>aV (af (p:=kVal.is vU) Z (mN N 1 Z) (am (aC Li)) bg Z) (bd _)) (om Z Z (aa Z (fun N=>bb (k:=kVC) (xs:=U) (n:=(j:Int)) j Z Z (mN N 3 Z) U22 aJ Z (by omega)) (aa Z (fun N=>bq j Z (mN N 3 Z) Li Z (y:=(U.getD j [])) (gd [] (by omega)) aJ Z) (aa Z (fun N=>aB fn266 (ai Z (c6 ((zU _).sm (by omega))) (ai Z (aL (hq.neg.sm (by omega))) (ai Z (c6 ((zU _).sm (by omega))) ao))) (c_ref05_Grown nB (U.getD k []) (U.getD j []) (-q) (zU _) (zU _) hq.neg (by rw [hrU.row k hk,hrU.row j (by omega)];exact Nat.le_refl _) (by omega))) (aa Z (fun N=>bb (k:=kVC) (xs:=U) (n:=(k:Int)) k Z Z (mN N 3 Z) U22 aJ Z (by omega)) oz)))))))))))))))))))))))<|fun σ2=>?_
 refine aE .n (ch 3 k Z Z Li Z (y0:=(U.getD k [])) (gd [] (by omega)) aJ Z Lr)<|Wn<|ab<|tr 3 Z (y:=(rowU U k j (-q))) (by rw [grown_row];rfl)<|ak<|Wa Z<|Wn<|aF<|tf 5 Z (y:=(mapN (colF k j q) 0 V)) (mapN_0 _ _).symm<|bL (fun (i:Nat)=>i≤n) (fun (i:Nat)=>[(0,VP.pt pw 0),(1,kN6.is (k:Int)),(2,kN6.is (j:Int)),(7,VP.pt b1 0),(8,kN6.is (i:Int))]) (fun (i:Nat)=>[OB.box b1 29 kZ q,OB.box pw 157 (kPair kVal (kPair kVal (kPair kVal kVal))) (vB,vU,vV,vS),OB.row vB 23 kVC (rowU B k j (-q)),OB.row vU 23 kVC (rowU U k j (-q)),OB.row vV 23 kVal vs,OB.fam vs 29 kC (mapN (colF k j q) i V)]) (fun (i:Nat)=>n-i) 0 (Nat.zero_le _) (aq Z Z Z Z (az Z (ah (y:=(0:Int)) (by rfl)) ar)) (aH _) ?_
 intro i hi
 refine ab<|Cr<|Wm Z<|Wm Z<|Ws (cD Z)<|Ws (aw Z eJ Z)<|Ws (aV (af (p:=kVal.is vV) Z (ag 1 Z) (am (am (aC Li))) bg Z) (bd _))<|Ws (c5 Z (ag 4 Z) U22)<|Ws (aW Z Z)<|Wn ?_
 refine aM Z (fun h_t61=>?_)<|fun h_t61=>?_
 ·
  refine Ck<|ab<|aF ?_
  refine a5 (Γ:=[.fr (VP.pt pw 0),.fr (VP.pt pw 0),.fr (VP.pt pw 2),.fr (VP.ex vV),.fr (kN6.is (i:Int)),.fr (VP.pel vV (i*1)),.fr (VP.ex (vs.getD i nilV)),.fr (kN6.is (j:Int)),.fr (VP.pt pw 0),.fr (VP.pt pw 0),.fr (VP.pt pw 2),.fr (VP.ex vV),.fr (kN6.is (i:Int)),.fr (VP.pel vV (i*1)),.fr (VP.ex (vs.getD i nilV)),.fr (kN6.is (j:Int)),.fr (VP.pel (vs.getD i nilV) (j*2)),.fr (kC.is ((V.getD i []).getD j 0)),.fr (kZ.is q),.fr (VP.pt pw 0),.fr (VP.pt pw 0),.fr (VP.pt pw 2),.fr (VP.ex vV),.fr (kN6.is (i:Int)),.fr (VP.pel vV (i*1)),.fr (VP.ex (vs.getD i nilV)),.fr (kN6.is (k:Int)),.fr (VP.pel (vs.getD i nilV) (k*2)),.fr (kC.is ((V.getD i []).getD k 0)),.fr (kC.is (q*((V.getD i []).getD k 0))),.fr (kC.is (((V.getD i []).getD j 0)+(q*((V.getD i []).getD k 0)))),.fr (VP.pel (vs.getD i nilV) (j*2))]) (om Z Z (cf Z Z (aa Z (fun N=>aw Z eJ Z) (aa Z (fun N=>aV (af (p:=kVal.is vV) Z (mN N 1 Z) (am (am (aC Li))) bg Z) (bd _)) (om Z Z (aa Z (fun N=>bb (k:=kVal) (xs:=vs) (n:=(i:Int)) i Z Z (mN N 4 Z) U22 aJ Z (by omega)) (aa Z (fun N=>aV (bq i Z (mN N 4 Z) Li Z (y:=(vs.getD i nilV)) (gd nilV (by omega)) aJ Z) (bd _)) (om Z Z (om Z Z (cf Z Z (aa Z (fun N=>aw Z eJ Z) (aa Z (fun N=>aV (af (p:=kVal.is vV) Z (mN N 1 Z) (am (am (aC Li))) bg Z) (bd _)) (om Z Z (aa Z (fun N=>bb (k:=kVal) (xs:=vs) (n:=(i:Int)) i Z Z (mN N 4 Z) U22 aJ Z (by omega)) (aa Z (fun N=>aV (bq i Z (mN N 4 Z) Li Z (y:=(vs.getD i nilV)) (gd nilV (by omega)) aJ Z) (bd _)) (om Z Z (aa Z (fun N=>cW (e:=29) (k:=kC) (xss:=(mapN (colF k j q) i V)) (n:=(j:Int)) i j Z Z (mN N 5 Z) Z (by omega) U23 ae Z (by rw [mapN_at (by rw [hrV.len];omega),hrV.row _ (by omega)];omega)) (aa Z (fun N=>dH (k:=kC) (xss:=(mapN (colF k j q) i V)) i j Z (mN N 5 Z) Z (by omega) Li Z (y:=((V.getD i []).getD j 0)) (fH (by omega) (by rw [hrV.row i (by omega)];omega)) ae Z) (aa Z (fun N=>af Z (mN N 0 Z) Li ae Z) (om Z Z (cf Z Z (aa Z (fun N=>aw Z eJ Z) (aa Z (fun N=>aV (af (p:=kVal.is vV) Z (mN N 1 Z) (am (am (aC Li))) bg Z) (bd _)) (om Z Z (aa Z (fun N=>bb (k:=kVal) (xs:=vs) (n:=(i:Int)) i Z Z (mN N 4 Z) U22 aJ Z (by omega)) (aa Z (fun N=>aV (bq i Z (mN N 4 Z) Li Z (y:=(vs.getD i nilV)) (gd nilV (by omega)) aJ Z) (bd _)) (om Z Z (aa Z (fun N=>cW (e:=29) (k:=kC) (xss:=(mapN (colF k j q) i V)) (n:=(k:Int)) i k Z Z (mN N 5 Z) Z (by omega) U23 ae Z (by rw [mapN_at (by rw [hrV.len];omega),hrV.row _ (by omega)];omega)) (aa Z (fun N=>dH (k:=kC) (xss:=(mapN (colF k j q) i V)) i k Z (mN N 5 Z) Z (by omega) Li Z (y:=((V.getD i []).getD k 0)) (fH (by omega) (by rw [hrV.row i (by omega)];omega)) ae Z) (aa Z (fun N=>aB dx (aP Z (ai Z (aL ((zV i k).sm (by omega))) ao)) (dq q ((V.getD i []).getD k 0))) (aa Z (fun N=>aB eY (ai Z (aL ((zV i j).sm (by omega))) (ai Z (aL ((hq.mul (zV i k)).sm (by omega))) ao)) (eQ ((V.getD i []).getD j 0) (q*((V.getD i []).getD k 0)))) (aa Z (fun N=>cW (e:=29) (k:=kC) (xss:=(mapN (colF k j q) i V)) (n:=(j:Int)) i j Z Z (mN N 5 Z) Z (by omega) U23 ae Z (by rw [mapN_at (by rw [hrV.len];omega),hrV.row _ (by omega)];omega)) oz))))))))))))))))))))))))))))))))<|fun σ3=>?_
  refine aE .n (d4 5 i j Z Z Z (by omega) Li Z (y0:=(((mapN (colF k j q) i V).getD i []).getD j 0)) (gd 0 (by rw [mapN_at (by rw [hrV.len];omega),hrV.row _ (by omega)];omega)) ae Z Lr)<|au<|Qb<|ak<|Wm Z<|Ws (aS Z Z (c:=((i:Int)+1)) (aG (by omega)))<|Wa Z<|au<|tf 5 Z (y:=(mapN (colF k j q) (i+1) V)) (mapN_set (by omega) (by rw [mapN_at (by omega)];rfl)) ?_
  exact bF (i+1) (by omega) (by omega) (aq Z Z Z Z (az Z (ah (y:=(((i+1):Nat):Int)) (by rfl)) ar))<|aH _
 ·
  refine dS<|c9<|c9<|dR<|tf 5 Z (y:=(colV V k j q)) (mapN_end (by omega))<|bi (bj [1,2,3,4,5] (by decide) Z) ?_
  exact bZ (.inr Z) Z ay (aH _) ⟨Z,Z,trivial⟩
theorem c_ref07_swap (pw:Nat) (vB vU vV vS:Value) (vs:List Value) (B U V:List (List Int)) (S:List Int) (n mc c:Nat) (hrB:CR n mc B) (hrU:CU n U) (hrV:CU n V) (hvl:vs.length=n) (h12:n≤12) (hc:c+1<n) (hS:S.length≤79200002):Con Tryz.prog 186 [VP.pt pw 0,kN6.is ((c:Int)+1)] [OB.box pw 157 (kPair kVal (kPair kVal (kPair kVal kVal))) (vB,vU,vV,vS),OB.row vB 23 kVC B,OB.row vU 23 kVC U,OB.row vV 23 kVal vs,OB.fam vs 29 kC V,OB.row vS 3 kI64 S] (fun p Lo=>∃(vT:Value),p=VP.tup []∧Lo=[OB.box pw 157 (kPair kVal (kPair kVal (kPair kVal kVal))) (vB,vU,vV,vT),OB.row vB 23 kVC (swpU B c),OB.row vU 23 kVC (swpU U c),OB.row vV 23 kVal vs,OB.fam vs 29 kC (colS V (c+1)),OB.row vT 3 kI64 (S++[((c:Int)+1)])]∧True):=by
 refine aO Tryz.func186 Z Z fun m w=>?_
 have hlB:=hrB.len
 have hlU:=hrU.len
 have hlV:=hrV.len
 refine Cr<|Wm Z<|Ws (cD Z)<|Ws (aw Z eK Z)<|Ws (aV (af (p:=kVal.is vB) Z (ag 0 Z) (aC Li) bg Z) (bd _))<|Wm Z<|Ws (bb (k:=kVC) (xs:=B) (n:=((c:Int)+1)) (c+1) Z Z (ag 1 Z) U22 aJ (by omega) (by omega))<|Ws (bq (c+1) Z (ag 1 Z) Li Z (y:=(B.getD (c+1) [])) (gd [] (by omega)) aJ Z)<|Wa Z<|Wn<|ab ?_
 refine a5 (Γ:=[.fr (VP.pt pw 0),.fr (VP.pt pw 0),.fr (VP.pt pw 0),.fr (VP.ex vB),.fr (kN6.is ((c:Int)+1)),.fr (VP.pt pw 0),.fr (VP.pt pw 0),.fr (VP.pt pw 0),.fr (VP.ex vB),.fr (kN6.is ((c:Int)+1)),.fr (kN6.is (((c:Int)+1)-1)),.fr (VP.pel vB (c*1)),.fr (kVC.is (B.getD c [])),.fr (VP.pel vB ((c+1)*1))]) (om Z Z (cf Z Z (aa Z (fun N=>aw Z eK Z) (aa Z (fun N=>aV (af (p:=kVal.is vB) Z (mN N 0 Z) (aC Li) bg Z) (bd _)) (om Z Z (om Z Z (cf Z Z (aa Z (fun N=>aw Z eK Z) (aa Z (fun N=>aV (af (p:=kVal.is vB) Z (mN N 0 Z) (aC Li) bg Z) (bd _)) (om Z Z (aa Z (fun N=>bf Z Z (c:=(((c:Int)+1)-1)) (aG (by omega))) (aa Z (fun N=>bb (k:=kVC) (xs:=B) (n:=(((c:Int)+1)-1)) c Z Z (mN N 1 Z) U22 aJ (by omega) (by omega)) (aa Z (fun N=>bq c Z (mN N 1 Z) Li Z (y:=(B.getD c [])) (gd [] (by omega)) aJ Z) (aa Z (fun N=>bb (k:=kVC) (xs:=B) (n:=((c:Int)+1)) (c+1) Z Z (mN N 1 Z) U22 aJ (by omega) (by omega)) oz))))))))))))))<|fun σ1=>?_
 refine aE .n (ch 1 (c+1) Z Z Li Z (y0:=(B.getD (c+1) [])) (gd [] (by omega)) aJ Z Lr)<|Wr<|Wm Z<|Ws (cD Z)<|Ws (aw Z eK Z)<|Ws (aV (af (p:=kVal.is vB) Z (ag 0 Z) (aC Li) bg Z) (bd _))<|Wm Z<|Ws (bf Z Z (c:=(((c:Int)+1)-1)) (aG (by omega)))<|Wm Z<|Ws (bb (k:=kVC) (xs:=(B.set (c+1) (B.getD c []))) (n:=(((c:Int)+1)-1)) c Z Z (ag 1 Z) U22 aJ (by omega) (by rw [List.length_set,hrB.len];omega))<|aE .n (ch 1 c Z Z Li Z (y0:=((B.set (c+1) (B.getD c [])).getD c [])) (gd [] (by rw [List.length_set,hrB.len];omega)) aJ Z Lr)<|Wn<|ab<|tr 1 Z (y:=(swpU B c)) Z<|ak<|Wm Z<|Ws (cD Z)<|Ws (aw Z fe Z)<|Ws (aV (af (p:=kVal.is vU) Z (ag 0 Z) (am (aC Li)) bg Z) (bd _))<|Wm Z ?_
 refine Ws (bb (k:=kVC) (xs:=U) (n:=((c:Int)+1)) (c+1) Z Z (ag 2 Z) U22 aJ (by omega) (by omega))<|Ws (bq (c+1) Z (ag 2 Z) Li Z (y:=(U.getD (c+1) [])) (gd [] (by omega)) aJ Z)<|Wa Z<|Wn<|ab ?_
 refine a5 (Γ:=[.fr (VP.pt pw 0),.fr (VP.pt pw 0),.fr (VP.pt pw 1),.fr (VP.ex vU),.fr (kN6.is ((c:Int)+1)),.fr (VP.pt pw 0),.fr (VP.pt pw 0),.fr (VP.pt pw 1),.fr (VP.ex vU),.fr (kN6.is ((c:Int)+1)),.fr (kN6.is (((c:Int)+1)-1)),.fr (VP.pel vU (c*1)),.fr (kVC.is (U.getD c [])),.fr (VP.pel vU ((c+1)*1))]) (om Z Z (cf Z Z (aa Z (fun N=>aw Z fe Z) (aa Z (fun N=>aV (af (p:=kVal.is vU) Z (mN N 0 Z) (am (aC Li)) bg Z) (bd _)) (om Z Z (om Z Z (cf Z Z (aa Z (fun N=>aw Z fe Z) (aa Z (fun N=>aV (af (p:=kVal.is vU) Z (mN N 0 Z) (am (aC Li)) bg Z) (bd _)) (om Z Z (aa Z (fun N=>bf Z Z (c:=(((c:Int)+1)-1)) (aG (by omega))) (aa Z (fun N=>bb (k:=kVC) (xs:=U) (n:=(((c:Int)+1)-1)) c Z Z (mN N 2 Z) U22 aJ (by omega) (by omega)) (aa Z (fun N=>bq c Z (mN N 2 Z) Li Z (y:=(U.getD c [])) (gd [] (by omega)) aJ Z) (aa Z (fun N=>bb (k:=kVC) (xs:=U) (n:=((c:Int)+1)) (c+1) Z Z (mN N 2 Z) U22 aJ (by omega) (by omega)) oz))))))))))))))<|fun σ2=>?_
 refine aE .n (ch 2 (c+1) Z Z Li Z (y0:=(U.getD (c+1) [])) (gd [] (by omega)) aJ Z Lr)<|Wr<|Wm Z<|Ws (cD Z)<|Ws (aw Z fe Z)<|Ws (aV (af (p:=kVal.is vU) Z (ag 0 Z) (am (aC Li)) bg Z) (bd _))<|Wm Z<|Ws (bf Z Z (c:=(((c:Int)+1)-1)) (aG (by omega)))<|Wm Z<|Ws (bb (k:=kVC) (xs:=(U.set (c+1) (U.getD c []))) (n:=(((c:Int)+1)-1)) c Z Z (ag 2 Z) U22 aJ (by omega) (by rw [List.length_set,hrU.len];omega))<|aE .n (ch 2 c Z Z Li Z (y0:=((U.set (c+1) (U.getD c [])).getD c [])) (gd [] (by rw [List.length_set,hrU.len];omega)) aJ Z Lr)<|Wn<|ab<|ab<|tr 2 Z (y:=(swpU U c)) Z<|ak<|Wa Z<|Wn<|aF ?_
 refine tf 4 Z (y:=(mapN (colG (c+1)) 0 V)) (mapN_0 _ _).symm<|bL (fun (i:Nat)=>i≤n) (fun (i:Nat)=>[(0,VP.pt pw 0),(1,kN6.is ((c:Int)+1)),(5,kN6.is (i:Int))]) (fun (i:Nat)=>[OB.box pw 157 (kPair kVal (kPair kVal (kPair kVal kVal))) (vB,vU,vV,vS),OB.row vB 23 kVC (swpU B c),OB.row vU 23 kVC (swpU U c),OB.row vV 23 kVal vs,OB.fam vs 29 kC (mapN (colG (c+1)) i V),OB.row vS 3 kI64 S]) (fun (i:Nat)=>n-i) 0 (Nat.zero_le _) (ac Z (ac Z (az Z (ah (y:=(0:Int)) (by rfl)) ar))) (aH _) ?_
 intro i hi
 refine ab<|Cr<|Wm Z<|Wm Z<|Ws (cD Z)<|Ws (aw Z eJ Z)<|Ws (aV (af (p:=kVal.is vV) Z (ag 0 Z) (am (am (aC Li))) bg Z) (bd _))<|Ws (c5 Z (ag 3 Z) U22)<|Ws (aW Z Z)<|Wn ?_
 refine aM Z (fun h_t71=>?_)<|fun h_t71=>?_
 ·
  refine Ck<|ab<|aF<|Cr<|Wm Z<|Ws (cD Z)<|Ws (aw Z eJ Z)<|Ws (aV (af (p:=kVal.is vV) Z (ag 0 Z) (am (am (aC Li))) bg Z) (bd _))<|Wm Z<|Ws (bb (k:=kVal) (xs:=vs) (n:=(i:Int)) i Z Z (ag 3 Z) U22 aJ Z (by omega))<|Ws (aV (bq i Z (ag 3 Z) Li Z (y:=(vs.getD i nilV)) (gd nilV (by omega)) aJ Z) (bd _))<|Wm Z<|Ws (cW (e:=29) (k:=kC) (xss:=(mapN (colG (c+1)) i V)) (n:=((c:Int)+1)) i (c+1) Z Z (ag 4 Z) Z (by omega) U23 ae (by omega) (by rw [mapN_at (by rw [hrV.len];omega),hrV.row _ (by omega)];omega))<|Ws (dH (k:=kC) (xss:=(mapN (colG (c+1)) i V)) i (c+1) Z (ag 4 Z) Z (by omega) Li Z (y:=((V.getD i []).getD (c+1) 0)) (fH (by omega) (by rw [hrV.row i (by omega)];omega)) ae Z)<|Ax (l:=kC) (u:=((V.getD i []).getD (c+1) 0)) bc Z ae (fun _=>Z) Lr fun b1=>Wn<|ab ?_
  refine a5 (Γ:=[.fr (VP.pt pw 0),.fr (VP.pt pw 0),.fr (VP.pt pw 2),.fr (VP.ex vV),.fr (kN6.is (i:Int)),.fr (VP.pel vV (i*1)),.fr (VP.ex (vs.getD i nilV)),.fr (kN6.is ((c:Int)+1)),.fr (VP.pt pw 0),.fr (VP.pt pw 0),.fr (VP.pt pw 2),.fr (VP.ex vV),.fr (kN6.is (i:Int)),.fr (VP.pel vV (i*1)),.fr (VP.ex (vs.getD i nilV)),.fr (kN6.is ((c:Int)+1)),.fr (kN6.is (((c:Int)+1)-1)),.fr (VP.pel (vs.getD i nilV) (c*2)),.fr (kC.is ((V.getD i []).getD c 0)),.fr (VP.pel (vs.getD i nilV) ((c+1)*2))]) (om Z Z (cf Z Z (aa Z (fun N=>aw Z eJ Z) (aa Z (fun N=>aV (af (p:=kVal.is vV) Z (mN N 1 Z) (am (am (aC Li))) bg Z) (bd _)) (om Z Z (aa Z (fun N=>bb (k:=kVal) (xs:=vs) (n:=(i:Int)) i Z Z (mN N 4 Z) U22 aJ Z (by omega)) (aa Z (fun N=>aV (bq i Z (mN N 4 Z) Li Z (y:=(vs.getD i nilV)) (gd nilV (by omega)) aJ Z) (bd _)) (om Z Z (om Z Z (cf Z Z (aa Z (fun N=>aw Z eJ Z) (aa Z (fun N=>aV (af (p:=kVal.is vV) Z (mN N 1 Z) (am (am (aC Li))) bg Z) (bd _)) (om Z Z (aa Z (fun N=>bb (k:=kVal) (xs:=vs) (n:=(i:Int)) i Z Z (mN N 4 Z) U22 aJ Z (by omega)) (aa Z (fun N=>aV (bq i Z (mN N 4 Z) Li Z (y:=(vs.getD i nilV)) (gd nilV (by omega)) aJ Z) (bd _)) (om Z Z (aa Z (fun N=>bf Z Z (c:=(((c:Int)+1)-1)) (aG (by omega))) (aa Z (fun N=>cW (e:=29) (k:=kC) (xss:=(mapN (colG (c+1)) i V)) (n:=(((c:Int)+1)-1)) i c Z Z (mN N 5 Z) Z (by omega) U23 ae (by omega) (by rw [mapN_at (by rw [hrV.len];omega),hrV.row _ (by omega)];omega)) (aa Z (fun N=>dH (k:=kC) (xss:=(mapN (colG (c+1)) i V)) i c Z (mN N 5 Z) Z (by omega) Li Z (y:=((V.getD i []).getD c 0)) (fH (by omega) (by rw [hrV.row i (by omega)];omega)) ae Z) (aa Z (fun N=>cW (e:=29) (k:=kC) (xss:=(mapN (colG (c+1)) i V)) (n:=((c:Int)+1)) i (c+1) Z Z (mN N 5 Z) Z (by omega) U23 ae (by omega) (by rw [mapN_at (by rw [hrV.len];omega),hrV.row _ (by omega)];omega)) oz))))))))))))))))))))<|fun σ3=>?_
  refine aE .n (d4 5 i (c+1) Z Z Z (by omega) Li Z (y0:=(((mapN (colG (c+1)) i V).getD i []).getD (c+1) 0)) (gd 0 (by rw [mapN_at (by rw [hrV.len];omega),hrV.row _ (by omega)];omega)) ae Z Lr)<|Wn ?_
  refine a5 (Γ:=[.fr (VP.pt pw 0),.fr (VP.pt pw 0),.fr (VP.pt pw 2),.fr (VP.ex vV),.fr (kN6.is (i:Int)),.fr (VP.pel vV (i*1)),.fr (VP.ex (vs.getD i nilV)),.fr (kN6.is ((c:Int)+1)),.fr (kN6.is (((c:Int)+1)-1)),.fr (kC.is ((V.getD i []).getD (c+1) 0)),.fr (VP.pel (vs.getD i nilV) (c*2))]) (om Z Z (cf Z Z (aa Z (fun N=>aw Z eJ Z) (aa Z (fun N=>aV (af (p:=kVal.is vV) Z (mN N 1 Z) (am (am (aC Li))) bg Z) (bd _)) (om Z Z (aa Z (fun N=>bb (k:=kVal) (xs:=vs) (n:=(i:Int)) i Z Z (mN N 4 Z) U22 aJ Z (by omega)) (aa Z (fun N=>aV (bq i Z (mN N 4 Z) Li Z (y:=(vs.getD i nilV)) (gd nilV (by omega)) aJ Z) (bd _)) (om Z Z (aa Z (fun N=>bf Z Z (c:=(((c:Int)+1)-1)) (aG (by omega))) (aa Z (fun N=>af Z (mN N 0 Z) Li ae Z) (aa Z (fun N=>cW (e:=29) (k:=kC) (xss:=((mapN (colG (c+1)) i V).set i (((mapN (colG (c+1)) i V).getD i []).set (c+1) ((V.getD i []).getD c 0)))) (n:=(((c:Int)+1)-1)) i c Z Z (mN N 5 Z) Z (by omega) U23 ae (by omega) (by rw [mapN_at (by rw [hrV.len];omega),mapN_len2 (by rw [hrV.len];omega),hrV.row _ (by omega)];omega)) oz)))))))))))<|fun σ4=>?_
  refine aE .n (d4 5 i c Z Z Z (by omega) Li Z (y0:=((((mapN (colG (c+1)) i V).set i (((mapN (colG (c+1)) i V).getD i []).set (c+1) ((V.getD i []).getD c 0))).getD i []).getD c 0)) (gd 0 (by rw [mapN_at (by rw [hrV.len];omega),mapN_len2 (by rw [hrV.len];omega),hrV.row _ (by omega)];omega)) ae Z Lr)<|au<|Qb<|ak<|Wm Z<|Ws (aS Z Z (c:=((i:Int)+1)) (aG (by omega)))<|Wa Z<|au<|bi (bj [1,2,3,4,5,6] (by decide) Z)<|tf 4 Z (y:=(mapN (colG (c+1)) (i+1) V)) (mapN_set2 (by omega)) ?_
  exact bF (i+1) (by omega) (by omega) (ac Z (ac Z (az Z (ah (y:=(((i+1):Nat):Int)) (by rfl)) ar)))<|aH _
 ·
  refine Ex<|tf 4 Z (y:=(colS V (c+1))) (mapN_end (by omega))<|ak<|Wm Z<|Wm Z<|Ws (cD Z)<|Ws (aw Z fld157_3 Z)<|Ws (aV (af (p:=kVal.is vS) Z (ag 0 Z) (am (am (am Li))) ty155 Z) (bd _))<|Wm Z<|Ws (bw U155 fN (cq Z (cF (by omega)) bt) Z (by decide))<|bD 5 .n Z Z Z Lr U155 fN (by simp;omega) fun v2=>Ws (cD Z)<|Ws (aw Z fld157_3 Z)<|bp 5 Z fun hcell_=>aE .n (dp 0 Z Z (am (am (am Li))) ty155 Z (bo (by assumption)))<|au<|bi (bj [0,1,2,3,4,5] (by decide) Z) ?_
  exact bZ (.inr Z) Z ay (a6 (OS.keepLe (ce (by rfl)) (OS.keep (OS.keep (OS.keep (OS.keep (OS.keep OS.nil))))))) ⟨v2,Z,Z,trivial⟩
theorem c_ref07_step (G:Nat→Nat→Int) (n nB p:Nat) (h12:n≤12) (hp1:p+1<n) (hS:∀k,k<n→RZ nB (frS G k)) (hM:∀x k,x<n→k<x→RZ nB (frM G x k)) (hB:nB≤4294967296):Fn Tryz.prog 185 [kFrm.is (frMus (G) n,frSts (G) n),kN6.is ((p:Int)+1)] (kBool.is (decide (lov G (p+1)))):=by
 refine aO Tryz.func185 Z Z fun m w=>?_
 have hfl:=frSts_len G n
 have rM:=hM (p+1) p hp1 (by omega)
 have rQ:RZ 3 (3/4:Rat):=RZ.of (n:=3) (d:=4) (by decide) (by decide +kernel) (show (3:Int).natAbs<2^3 by decide) (show (4:Int).natAbs<2^3 by decide)
 have r1:=hS p (by omega)
 have r2:=hS (p+1) hp1
 have r3:=(rM.mul rM)
 have r4:=(r3.mul r1)
 have r5:=(r2.up (show nB≤nB+nB+nB by omega)).add r4
 have r6:=rQ.mul r1
 refine Cr<|aY .n Z fun b1=>Wa Z<|Wn<|ab ?_
 refine a5 (Γ:=[.fr (kC.is 3),.fr (kC.is 4),.fr (kRC.is (rq (3/4:Rat))),.fr (VP.pt b1 1),.fr ((kSl kRC).is (frSts (G) n)),.fr (kN6.is ((p:Int)+1)),.fr (kN6.is (((p:Int)+1)-1)),.fr (VP.pim kRC (rq (frS G p))),.fr (kRC.is (rq (frS G p))),.fr (kRC.is (rq ((3/4:Rat)*(frS G p)))),.al (fun b=>OB.box b 31 kRC (0,0))]) (aa Z (fun N=>aB dI (ai Z (cF (by omega)) ao) (dF 3)) (aa Z (fun N=>aB dI (ai Z (cF (by omega)) ao) (dF 4)) (aa Z (fun N=>aV (aB ef (ai Z (aL (by exact Sm_lit (by decide))) (ai Z (aL (by exact Sm_lit (by decide))) ao)) (d6 3 4 (by omega))) (ah (by decide +kernel))) (aa Z (fun N=>aw Z dK Z) (aa Z (fun N=>af (p:=(kSl kRC).is (frSts (G) n)) Z (mN N 0 Z) (am Li) bM Z) (om Z Z (aa Z (fun N=>bf Z Z (c:=(((p:Int)+1)-1)) (aG (by omega))) (aa Z (fun N=>aU p Z Z U26 aj (by omega) (v:=(rq (frS G p))) (eI (by omega))) (aa Z (fun N=>aQ Z aj) (aa Z (fun N=>f2 dh Z Z (dl (nB+3) (3/4:Rat) (frS G p) (rQ.up (by omega)) (r1.up (by omega)) (by omega))) (oc (cM Z ba) oz)))))))))))<|fun σ1=>?_
 refine aE .n (aD (l:=kRC) (u:=rq ((3/4:Rat)*(frS G p))) 0 Z Z Z aj Z Lr)<|Wr<|Ws (aw Z eU Z)<|Ws (af (p:=(kSl (kSl kRC)).is (frMus (G) n)) Z (ag 1 Z) (aC Li) eW Z)<|Wm Z<|Ws (aU (p+1) Z Z U148 bM (by omega) (v:=((frMus (G) n).getD (p+1) [])) (gd [] (by simp only [frRow_len,frMus_len,frSts_len];omega)))<|Ws (aQ Z bM)<|Wm Z<|Ws (bf Z Z (c:=(((p:Int)+1)-1)) (aG (by omega)))<|Ws (aU p Z Z U26 aj (by omega) (v:=(rq (frM G (p+1) p))) (gg (by omega) (by omega)))<|Ws (aQ Z aj)<|Ax (l:=kRC) (u:=(rq (frM G (p+1) p))) ba Z aj (fun _=>Z) Lr fun b2=>Wn<|ab ?_
 refine a5 (Γ:=[.fr (VP.pt b1 1),.fr ((kSl kRC).is (frSts (G) n)),.fr (kN6.is ((p:Int)+1)),.fr (VP.pim kRC (rq (frS G (p+1)))),.fr (kRC.is (rq (frS G (p+1)))),.fr (kRC.is (rq (frM G (p+1) p))),.fr (kRC.is (rq (frM G (p+1) p))),.fr (kRC.is (rq ((frM G (p+1) p)*(frM G (p+1) p)))),.fr (VP.pt b1 1),.fr ((kSl kRC).is (frSts (G) n)),.fr (kN6.is ((p:Int)+1)),.fr (kN6.is (((p:Int)+1)-1)),.fr (VP.pim kRC (rq (frS G p))),.fr (kRC.is (rq (frS G p))),.fr (kRC.is (rq ((frM G (p+1) p*frM G (p+1) p)*(frS G p)))),.fr (kRC.is (rq ((frS G (p+1))+(frM G (p+1) p*frM G (p+1) p*frS G p)))),.al (fun b=>OB.box b 31 kRC (0,0))]) (aa Z (fun N=>aw Z dK Z) (aa Z (fun N=>af (p:=(kSl kRC).is (frSts (G) n)) Z (mN N 2 Z) (am Li) bM Z) (om Z Z (aa Z (fun N=>aU (p+1) Z Z U26 aj (by omega) (v:=(rq (frS G (p+1)))) (eI (by omega))) (aa Z (fun N=>aQ Z aj) (aa Z (fun N=>af Z (mN N 0 Z) Li aj Z) (aa Z (fun N=>af Z (mN N 0 Z) Li aj Z) (aa Z (fun N=>f2 dh Z Z (dl nB (frM G (p+1) p) (frM G (p+1) p) rM rM (by omega))) (aa Z (fun N=>aw Z dK Z) (aa Z (fun N=>af (p:=(kSl kRC).is (frSts (G) n)) Z (mN N 2 Z) (am Li) bM Z) (om Z Z (aa Z (fun N=>bf Z Z (c:=(((p:Int)+1)-1)) (aG (by omega))) (aa Z (fun N=>aU p Z Z U26 aj (by omega) (v:=(rq (frS G p))) (eI (by omega))) (aa Z (fun N=>aQ Z aj) (aa Z (fun N=>aB dh (ai Z (ah (y:=rq (frM G (p+1) p*frM G (p+1) p)) (by rfl)) (aP Z ao)) (dl (nB+nB) (frM G (p+1) p*frM G (p+1) p) (frS G p) r3 (r1.up (by omega)) (by omega))) (aa Z (fun N=>aB eC (aP Z (ai Z (ah (y:=rq (frM G (p+1) p*frM G (p+1) p*frS G p)) (by rfl)) ao)) (eH (nB+nB+nB) (frS G (p+1)) (frM G (p+1) p*frM G (p+1) p*frS G p) (r2.up (by omega)) r4 (by omega))) (oc (cM Z ba) oz)))))))))))))))))<|fun σ2=>?_
 refine aE .n (aD (l:=kRC) (u:=rq ((frS G (p+1))+(frM G (p+1) p*frM G (p+1) p*frS G p))) 0 Z Z Z aj Z Lr)<|Wr<|Ws (af Z (ag 2 Z) Li aj Z)<|Ws (af Z (ag 0 Z) Li aj Z)<|Ws (aB fn64 (ai Z (ah (y:=rq (3/4*frS G p)) (by rfl)) (ai Z (ah (y:=rq (frS G (p+1)+frM G (p+1) p*frM G (p+1) p*frS G p)) (by rfl)) ao)) (c_ref03_Cmp (nB+nB+nB+(nB+nB+nB)+1+3) (3/4*frS G p) (frS G (p+1)+frM G (p+1) p*frM G (p+1) p*frS G p) (r6.up (by omega)) (r5.up (by omega)) (by omega)))<|Ws (dN Z Z)<|Wa Z<|Wn<|aA<|tl 4 Z (y:=(decide (lov G (p+1)))) (decide_eq_decide.2 (rq_cmp0 _ _)) ?_
 exact Qd Z (aI Z ay) ⟨Z,Z⟩
end Fw
