/- Frame, facts and contracts for QuadReduces. -/
import Derived.Test.YtjbfmocbophmlaaGreatCQuadReducesD
set_option exponentiation.threshold 600
set_option linter.unusedVariables false
set_option linter.unusedSimpArgs false
set_option maxRecDepth 20000
set_option maxHeartbeats 1000000
namespace Fw
open Go Go.Proofs
theorem c_mat_Times1 (k x:Int):Fn Tryz.prog 220 [kZ.is x,VP.pim kZ k] (kC.is (k*x)):=by
 refine aK Tryz.func220 E E fun m w=>Cr<|a6 .n E fun b1=>a8 .n aZ fun b2=>Wr<|Ws (aO E ab)<|Ws (ae E (ac 1 E) Li ab E)<|Ws (f2 de E E (c8 k x))<|aG .n (aD (l:=kC) (u:=k*x) 0 E E E ab E Lr)<|Wn<|am ?_
 exact Qd E (a5 E (ac 0 E) ab ak) ⟨E,E⟩
theorem c_mat_Times (k:Int) (v:List Int):Fn Tryz.prog 148 [kZ.is k,kVZ.is v] (kVC.is (v.map (fun x=>k*x))):=by
 refine aK Tryz.func148 E E fun m w=>Cr<|a6 .n E fun b1=>Wa E<|Wr<|Wm E<|dZ 0 E (kp 0 E (kp 1 E (.hit (i:=2) E (kp 4 E (kp 5 E .nil)))))<|Ws (O.mkf (aX E ax))<|Ws (f2 fn219 E E (c_mat_eachII 220 [VP.pim kZ k] (fun x=>k*x) v fn220 (fun x _=>c_mat_Times1 k x)))<|Wa E<|Wn<|am ?_
 exact Qd E (ar E ak) ⟨E,E⟩
theorem c_mat_pairs (fid:FuncId) (caps:List VP) (F:Int→Int→Int) (u v:List Int) (huv:u.length=v.length) (hok:FnOk Tryz.prog fid) (hF:∀x y,x∈u→y∈v→Fn Tryz.prog fid (kZ.is x::kZ.is y::caps) (kC.is (F x y))):Fn Tryz.prog 218 [kVZ.is u,kVZ.is v,VP.clo fid caps] (VP.tup [kVC.is (pairV F u v),kN6.is 0]):=by
 refine aK Tryz.func218 E E fun m w=>aR (i:=0) E bu fun hB=>Cr<|Wa E<|Wa E<|Wn<|aa<|Cr<|Wm E<|Ws (aA E U23)<|Wm E<|Ws (aA E U23)<|Ws (bt E E)<|Wn ?_
 refine CN E (by omega) fun h_t14=>?_
 refine Ck<|Cr<|Wa E<|Wn<|aa<|Cr<|Wm E<|Ws (aA E U23)<|Wm E<|Wn<|aw<|ca 29 kC<|bX (fun (i:Nat) (w:Value)=>i≤u.length) (fun (i:Nat) (w:Value)=>[(0,kVZ.is u),(1,kVZ.is v),(2,VP.clo fid caps),(8,VP.ex w),(16,kN6.is (u.length:Int)),(17,kN6.is (i:Int))]) (fun (i:Nat) (w:Value)=>[OB.row w 29 kC ((List.range i).map (fun l=>F (u.getD l 0) (v.getD l 0)))]) (fun (i:Nat) (w:Value)=>u.length-i) 0 (.slice none 0 0) (by omega) (af E E E E (Z E (ao E (ag (y:=(0:Int)) (by rfl)) ai))) (aW (OS.keepLe (a9 (by rfl)) OS.nil)) ?_
 intro i w hi
 refine Cr<|Ws (aS E E)<|Wn<|aa ?_
 refine aB E (fun h_t18=>?_)<|fun h_t18=>?_
 ·
  refine Ck<|aa<|aw<|Cr<|Wm E<|Wa E<|Wn ?_
  refine ba (Γ:=[.fr (VP.ex w),.fr (VP.clo fid caps),.fr (kVZ.is u),.fr (kN6.is (i:Int)),.fr (VP.pim kZ (u.getD i 0)),.fr (kZ.is (u.getD i 0)),.fr (kVZ.is v),.fr (kN6.is (i:Int)),.fr (VP.pim kZ (v.getD i 0)),.fr (kZ.is (v.getD i 0)),.fr (kC.is (F (u.getD i 0) (v.getD i 0))),.fr (kVC.is [F (u.getD i 0) (v.getD i 0)])]) (om E E (om E E (om E E (om E E (J E (fun N=>aT i E E U23 ab E (v:=(u.getD i 0)) (gd 0 (by omega))) (J E (fun N=>aO E ab) (om E E (om E E (J E (fun N=>aT i E E U23 ab E (v:=(v.getD i 0)) (gd 0 (by omega))) (J E (fun N=>aO E ab) (J E (fun N=>ee E hok (aX E (aX E ax)) (hF _ _ (eE 0 (by omega)) (eE 0 (by omega)))) (J E (fun N=>bC U23 bo (b9 E bw) E (by decide)) oz))))))))))))<|fun σ1=>?_
  refine bL 0 .n E E E Lr U23 bo (by simp;omega) fun v1=>Wa E<|aj<|Qb<|ah<|Ws (aI E E (c:=((i:Int)+1)) (ay (by omega)))<|Wm E<|aj<|tr 0 E (y:=((List.range (i+1)).map (fun l=>F (u.getD l 0) (v.getD l 0)))) (eB (fun l=>F (u.getD l 0) (v.getD l 0)) i) ?_
  exact bP (i+1) v1 (by omega) (by omega) (af E E E E (Z E (ao E (ag (y:=(((i+1):Nat):Int)) (by rfl)) ai)))<|au _
 ·
  refine Ex<|Cr<|Wm E<|Wa E<|Wa E<|Wn<|am<|bJ 0 E (kp 0 E (kp 1 E (kp 2 E (.hit (i:=6) E (kp 7 E (.hit (i:=8) E (kp 16 E (kp 17 E (kp 18 E (.hit (i:=34) E .nil))))))))))<|tl 6 E (y:=(pairV F u v)) (by rw [show i=u.length by omega];rfl) ?_
  exact Qd E (ar E (ar E ak)) ⟨E,E⟩
theorem c_mat_Plus (u v:List Int) (huv:u.length=v.length):Fn Tryz.prog 147 [kVZ.is u,kVZ.is v] (VP.tup [kVC.is (pairV (fun x y=>x+y) u v),kN6.is 0]):=by
 refine aK Tryz.func147 E E fun m w=>Cr<|Wa E<|Wa E<|Wr<|Wm E<|Wm E<|Ws (aF fn218 (aX E (aX E (aq E clo_fv ax))) (c_mat_pairs 189 [] (fun x y=>x+y) u v huv dU (fun x y _ _=>dP x y)))<|Ws (aH E E)<|Ws (aH E E)<|Wa E<|Wa E<|Wn<|am ?_
 exact Qd E (ar E (ar E ak)) ⟨E,E⟩
theorem c_quad_holds (G:Nat→Nat→Int) (n B:Nat) (h0:0<n) (h12:n≤12) (hP:PosU G n) (hD:∀k,k≤n→Sz B (uD G k)) (hB:B≤68719476736) (p:Nat) (hp1:p+1<n) (hs:SymG G) (hL:∀x k,x<n→k<x→Sz B (uE G k x k)) (hB8:B≤4294967296):Fn Tryz.prog 149 [kGso.is (gDs G n,gLs G n),kN6.is ((p:Int)+1)] (kBool.is (decide (lov G (p+1)))):=by
 refine aK Tryz.func149 E E fun m w=>?_
 have rM:RZ B (frM G (p+1) p):=RZ.of (uD_ne hP (by omega)) (frM_rmk hs hP (by omega) hp1) (hL _ _ hp1 (by omega)) (hD _ (by omega))
 have rS:∀l,l<n→RZ B (frS G l):=fun l hl=>RZ.of (uD_ne hP (by omega)) (frS_rmk hs hP hl) (hD _ (by omega)) (hD _ (by omega))
 have rQ:RZ 3 (3/4:Rat):=RZ.of (n:=3) (d:=4) (by decide) (by decide +kernel) (show (3:Int).natAbs<2^3 by decide) (show (4:Int).natAbs<2^3 by decide)
 have r1:=rS p (by omega)
 have r2:=rS (p+1) hp1
 have r3:=(rM.mul rM)
 have r4:=(r3.mul r1)
 have r5:=(r2.up (show B≤B+B+B by omega)).add r4
 have r6:=rQ.mul r1
 refine Cr<|a6 .n E fun b1=>Wa E<|Wr<|Ws (ae (p:=kGso.is (gDs G n,gLs G n)) E (ac 0 E) Li bi E)<|Wm E<|Wm E<|Ws (bq E E (c:=(p:Int)) (ay (by omega)))<|Ws (aF fn143 (aX E (aq E (ag (y:=(((p+1):Nat):Int)) (by rfl)) (aX E ax))) (c_gso_Mu G n B (by assumption) (by assumption) (by assumption) (by assumption) (by assumption) (p+1) p (by omega) (by assumption) (by assumption) (by assumption)))<|Wm E<|Ws (aH E E)<|Ws (aH E E)<|Ax (l:=kRC) (u:=rq (frM G (p+1) p)) bU E aL (fun _=>E) Lr fun b2=>Wa E<|Wr<|Ws (ae (p:=kGso.is (gDs G n,gLs G n)) E (ac 1 E) Li bi E) ?_
 refine Wm E<|Ws (bq E E (c:=(p:Int)) (ay (by omega)))<|Ws (f2 fn68 E E (c_gso_Star G n B (by assumption) (by assumption) (by assumption) (by assumption) (by assumption) p (by omega) (by assumption)))<|Wm E<|Ws (aH E E)<|Ws (aH E E)<|Ax (l:=kRC) (u:=rq (frS G p)) bU E aL (fun _=>E) Lr fun b3=>Wa E<|Wr<|Ws (ae (p:=kGso.is (gDs G n,gLs G n)) E (ac 2 E) Li bi E)<|Wm E<|Ws (aF fn68 (aX E (aq E (ag (y:=(((p+1):Nat):Int)) (by rfl)) ax)) (c_gso_Star G n B (by assumption) (by assumption) (by assumption) (by assumption) (by assumption) (p+1) (by assumption) (by assumption)))<|Wm E<|Ws (aH E E)<|Ws (aH E E)<|Ax (l:=kRC) (u:=rq (frS G (p+1))) bU E aL (fun _=>E) Lr fun b4=>Wa E<|Wn ?_
 refine Cr<|Ws (ae E (ac 2 E) Li aL E)<|Ws (ae E (ac 2 E) Li aL E)<|Ws (f2 fn221 E E (c_rat_Mul B (frM G (p+1) p) (frM G (p+1) p) rM rM (by assumption)))<|Wm E<|Ws (aH E E)<|Ws (aH E E)<|Ax (l:=kRC) (u:=rq ((frM G (p+1) p)*(frM G (p+1) p))) bU E aL (fun _=>E) Lr fun b5=>Wa E<|Wr<|Ws (ae E (ac 0 E) Li aL E)<|Ws (ae E (ac 2 E) Li aL E)<|Ws (f2 fn221 E E (c_rat_Mul (B+B) ((frM G (p+1) p)*(frM G (p+1) p)) (frS G p) r3 (r1.up (by omega)) (by omega)))<|Wm E<|Ws (aH E E)<|Ws (aH E E)<|aG .n (aD (l:=kRC) (u:=rq (((frM G (p+1) p)*(frM G (p+1) p))*(frS G p))) 0 E E E aL E Lr)<|Wn ?_
 refine Cr<|Ws (ae E (ac 1 E) Li aL E)<|Ws (ae E (ac 0 E) Li aL E)<|Ws (aF fn135 (aX E (aq E (ag (y:=rq ((frM G (p+1) p)*(frM G (p+1) p)*frS G p)) (by rfl)) ax)) (c_rat_Add (B+B+B) (frS G (p+1)) ((frM G (p+1) p)*(frM G (p+1) p)*frS G p) (r2.up (by omega)) r4 (by omega)))<|Wm E<|Ws (aH E E)<|Ws (aH E E)<|Ax (l:=kRC) (u:=rq ((frS G (p+1))+((frM G (p+1) p)*(frM G (p+1) p)*frS G p))) bU E aL (fun _=>E) Lr fun b6=>Wa E<|Wr<|Ws (aF fn71 (aq E (cD (by omega)) ax) (d8 3))<|Ws (aF fn71 (aq E (cD (by omega)) ax) (d8 4))<|Ws (aF fn134 (aq E (aJ (by exact Sm_lit (by decide))) (aq E (aJ (by exact Sm_lit (by decide))) ax)) (c_rat_Make 3 4))<|Wm E<|Ws (aH E E)<|Ws (aH E E)<|Ax (l:=kRC) (u:=if 4=0 then (0,0) else rmk 3 4) bU E aL (fun _=>E) Lr fun b7=>Wa E ?_
 refine Wn<|aa<|tb 0 E (y:=(rq (3/4:Rat))) (by decide +kernel)<|ah<|Ws (ae E (ac 0 E) Li aL E)<|Ws (ae E (ac 4 E) Li aL E)<|Ws (f2 fn221 E E (c_rat_Mul (B+3) (3/4:Rat) (frS G p) (rQ.up (by omega)) (r1.up (by omega)) (by omega)))<|Wm E<|Ws (aH E E)<|Ws (aH E E)<|Ax (l:=kRC) (u:=rq ((3/4:Rat)*(frS G p))) bU E aL (fun _=>E) Lr fun b8=>Wa E<|Wr<|Ws (ae E (ac 0 E) Li aL E)<|Ws (ae E (ac 2 E) Li aL E)<|Ws (aF fn58 (aq E (ag (y:=rq (3/4*frS G p)) (by rfl)) (aq E (ag (y:=rq (frS G (p+1)+(frM G (p+1) p)*(frM G (p+1) p)*frS G p)) (by rfl)) ax)) (c_rat_Cmp (B+B+B+(B+B+B)+1+3) (3/4*frS G p) (frS G (p+1)+(frM G (p+1) p)*(frM G (p+1) p)*frS G p) (r6.up (by omega)) (r5.up (by omega)) (by omega)))<|Wm E<|Ws (aH E E)<|Ws (aH E E) ?_
 refine Wa E<|Wa E<|Wr<|Wm E<|Ws (O.le E E)<|Wa E<|Wn<|am<|tl 4 E (y:=(decide (lov G (p+1)))) (decide_eq_decide.2 (rq_cmp _ _)) ?_
 exact Qd E (ar E ak) ⟨E,E⟩
theorem c_mat_Unit (n:Nat) (hn:n≤12):Con Tryz.prog 142 [kN6.is (n:Int)] [] (fun p Lo=>∃(v:Value),p=VP.tup [VP.ex v,kN6.is 0]∧Lo=[OB.row v 23 kVC (unitV n)]∧True):=by
 refine aK Tryz.func142 E E fun m w=>Cr<|Wa E<|Wa E<|Wn<|aa<|aw<|Cr<|Wm E<|Ws (aS E E)<|Wa E<|Wn ?_
 refine CN E (by omega) fun h_t7=>?_
 refine Cr<|Wm E<|Ws (cq E E)<|Wa E<|Wn ?_
 refine CN E (by omega) fun h_t10=>?_
 refine cc<|Qb<|Cr<|Wa E<|Wn<|aa<|Cr<|Wm E<|Wm E<|Wn<|aw<|ca 23 kVC<|bX (fun (i:Nat) (v:Value)=>i≤n) (fun (i:Nat) (v:Value)=>[(0,kN6.is (n:Int)),(4,VP.ex v),(13,kN6.is (n:Int)),(14,kN6.is (i:Int))]) (fun (i:Nat) (v:Value)=>[OB.row v 23 kVC ((List.range i).map (fun x=>(List.replicate n 0).set x 1))]) (fun (i:Nat) (v:Value)=>n-i) 0 (.slice none 0 0) (by omega) (Z E (Z E (Z E (ao E (ag (y:=(0:Int)) (by rfl)) ai)))) (aW (OS.keepLe (a9 (by rfl)) OS.nil)) ?_
 intro i v hi
 refine Cr<|Ws (aS E E)<|Wn<|aa ?_
 refine aB E (fun h_t15=>?_)<|fun h_t15=>?_
 ·
  refine Ck<|aa<|aw<|Cr<|Wm E<|Wa E<|Wr<|Wm E<|bp n .n E E E (by omega) U23 bo aZ fun v1=>Wa E<|Wr<|Wm E<|Wm E<|Ws (aF fn71 (aq E (cD (by omega)) ax) (d8 1))<|Ws (aY (k:=kC) (xs:=(List.replicate n 0)) (n:=(i:Int)) i E E (ac 0 E) U23 ab E (by simp;omega))<|aG .n (cd 0 i E E Li E (y0:=((List.replicate n 0).getD i 0)) (gd 0 (by simp;omega)) ab E Lr) ?_
  refine Wn<|bJ 0 E (kp 0 E (kp 4 E (kp 5 E (.hit (i:=6) E (kp 13 E (kp 14 E (kp 15 E (kp 16 E (kp 17 E (.hit (i:=18) E (.hit (i:=19) E (kp 20 E (kp 21 E (kp 22 E .nil))))))))))))))<|ah<|Wm E<|Wm E<|Ws (bC U22 c9 (b9 E bw) E (by decide))<|bL 0 .n E E E Lr U22 c9 (by simp;omega) fun v2=>Wa E<|aj<|Qb<|ah<|Ws (aI E E (c:=((i:Int)+1)) (ay (by omega)))<|Wm E<|aj<|tr 0 E (y:=((List.range (i+1)).map (fun x=>(List.replicate n 0).set x 1))) (eB (fun x=>(List.replicate n (0:Int)).set x 1) i) ?_
  exact bP (i+1) v2 (by omega) (by omega) (Z E (Z E (Z E (ao E (ag (y:=(((i+1):Nat):Int)) (by rfl)) ai))))<|au _
 ·
  refine Ex<|Cr<|Wm E<|Wa E<|Wa E<|Wn<|am<|tr 0 E (y:=(unitV n)) (by rw [show i=n by omega];rfl) ?_
  exact ct (.inl E) E (ar E (ar E ak)) (au _) ⟨v,E,E,trivial⟩
end Fw
namespace Fw
open Go
def turnF (a:List (List Int)) (q:Nat):List Int:=(List.range q).map (fun x=>matF a (x%a.length) (x/a.length))
theorem turnF_len (a q):(turnF a q).length=q:=by simp [turnF]
theorem turnF_app {a:List (List Int)} {k i:Nat} (hi:i<a.length):turnF a (k*a.length+i)++[matF a i k]=turnF a (k*a.length+(i+1)):=by
  unfold turnF
  rw [←Nat.add_assoc,List.range_succ,List.map_append]
  congr 1
  simp only [List.map_cons,List.map_nil]
  rw [Nat.add_comm (k*a.length) i,Nat.add_mul_mod_self_right,Nat.mod_eq_of_lt hi,Nat.add_mul_div_right _ _ (by omega),Nat.div_eq_of_lt hi,Nat.zero_add]
def winL (a:List (List Int)) (b k:Nat):List Value:=(List.range k).map (fun x=>wv b (x*a.length*kC.sz) a.length)
theorem winL_len (a b k):(winL a b k).length=k:=by simp [winL]
theorem winL_app (a:List (List Int)) (b k:Nat):winL a b k++[wv b (k*a.length*2) ((k+1)*a.length-k*a.length)]=winL a b (k+1):=by
  have e:(k+1)*a.length-k*a.length=a.length:=by rw [Nat.succ_mul];omega
  have e2:kC.sz=2:=rfl
  unfold winL
  rw [e,List.range_succ,List.map_append,e2];rfl
theorem winL_at {a:List (List Int)} {b W:Nat} (h0:0<a.length):∀i,i<(winL a b W).length→∃l h,(winL a b W).getD i nilV=wv b (l*kC.sz) (h-l)∧l<h∧h≤(turnF a (W*a.length)).length∧((List.range W).map (turnR a)).getD i []=((turnF a (W*a.length)).take h).drop l:=fun i hi=>by
  rw [winL_len] at hi
  refine ⟨i*a.length,(i+1)*a.length,?_,by rw [Nat.succ_mul];omega,by rw [turnF_len];exact Nat.mul_le_mul_right _ hi,?_⟩
  · rw [List.getD_eq_getElem?_getD]
    have e:(i+1)*a.length-i*a.length=a.length:=by rw [Nat.succ_mul];omega
    rw [e]
    simp [winL,hi]
  · rw [List.getD_eq_getElem?_getD]
    simp only [List.getElem?_map,List.getElem?_range hi,Option.map_some,Option.getD_some]
    refine List.ext_getElem? fun x=>?_
    have hle:(i+1)*a.length≤W*a.length:=Nat.mul_le_mul_right _ hi
    by_cases hx:x<a.length
    · rw [List.getElem?_drop,List.getElem?_take_of_lt (by rw [Nat.succ_mul];omega)]
      have h2:i*a.length+x<W*a.length:=by rw [Nat.succ_mul] at hle;omega
      simp only [turnR,turnF,List.getElem?_map,List.getElem?_range hx,List.getElem?_range h2,Option.map_some]
      rw [Nat.add_comm (i*a.length) x,Nat.add_mul_mod_self_right,Nat.mod_eq_of_lt hx,Nat.add_mul_div_right _ _ h0,Nat.div_eq_of_lt hx,Nat.zero_add]
    · rw [List.getElem?_eq_none (by rw [turnR_len];omega),List.getElem?_eq_none (by rw [List.length_drop,List.length_take,turnF_len];rw [Nat.succ_mul] at *;omega)]
def prodV (x b:List (List Int)):List (List Int):=x.map (fun r=>combV r b)
theorem CU.rr {n:Nat} {U:List (List Int)} (h:CU n U):RectL U∧rect U=true:=by
  have hr:RectL U:=fun i hi=>by
    have h1:=h.len
    rw [h.row i (by omega),h.row 0 (by omega)]
  exact ⟨hr,rect_iff.2 hr⟩
theorem CU.sh {n:Nat} {U:List (List Int)} (h:CU n U) (h0:0<n):shN U=(n:Int)∧shM U=(n:Int)∧shE U=0:=by
  unfold shN shM shE
  rw [if_pos h.rr.2,if_pos h.rr.2,if_pos h.rr.2,h.len,h.row 0 h0]
  exact ⟨rfl,rfl,rfl⟩
theorem prodV_row {x b:List (List Int)} {i:Nat} (h:i<x.length):(prodV x b).getD i []=combV (x.getD i []) b:=getD_map (fun r=>combV r b) x [] [] h
theorem CU_prod {n:Nat} {x b:List (List Int)} (hx:CU n x) (hb:CU n b):CU n (prodV x b):=⟨by simp [prodV,hx.len],fun i hi=>by
  rw [prodV_row (by rw [hx.len];exact hi),combV_len,hb.row 0 (by omega)]⟩
theorem matF_prod {n:Nat} {x b:List (List Int)} (hx:CU n x) (hb:CU n b) {i j:Nat} (hi:i<n) (hj:j<n):matF (prodV x b) i j=sumN (fun l=>matF x i l*matF b l j) n:=by
  show ((prodV x b).getD i []).getD j 0=_
  rw [prodV_row (by rw [hx.len];exact hi),combV_get (by rw [hb.row 0 (by omega)];exact hj),combN_sum,hb.len];rfl
theorem turnV_row {u:List (List Int)} {i:Nat} (h:i<(u.getD 0 []).length):(turnV u).getD i []=turnR u i:=by
  rw [List.getD_eq_getElem?_getD];unfold turnV;rw [List.getElem?_map,List.getElem?_range h];rfl
theorem CU_turn {n:Nat} {u:List (List Int)} (h:CU n u):CU n (turnV u):=by
  by_cases h0:0<n
  · exact ⟨by rw [turnV_len,h.row 0 h0],fun x hx=>by rw [turnV_row (by rw [h.row 0 h0];exact hx),turnR_len,h.len]⟩
  · have hn:n=0:=by omega
    have hu:=List.eq_nil_of_length_eq_zero (h.len.trans hn)
    subst hu
    exact ⟨by rw [turnV_len];exact hn.symm,fun x hx=>absurd hx (by omega)⟩
theorem matF_turn {n:Nat} {u:List (List Int)} (h:CU n u) {i j:Nat} (hi:i<n) (hj:j<n):matF (turnV u) i j=matF u j i:=by
  show ((turnV u).getD i []).getD j 0=_
  rw [turnV_row (by rw [h.row 0 (by omega)];exact hi),List.getD_eq_getElem?_getD]
  simp [turnR,h.len,hj]
def chgV (a u:List (List Int)):List (List Int):=prodV (prodV u a) (turnV u)
theorem CU_chg {n:Nat} {a u:List (List Int)} (ha:CU n a) (hu:CU n u):CU n (chgV a u):=CU_prod (CU_prod hu ha) (CU_turn hu)
theorem matF_chg {n:Nat} {a u:List (List Int)} (ha:CU n a) (hu:CU n u) {i j:Nat} (hi:i<n) (hj:j<n):matF (chgV a u) i j=fL a u i j:=by
  unfold chgV fL fU
  rw [matF_prod (CU_prod hu ha) (CU_turn hu) hi hj,ha.len]
  exact sumN_congr fun l hl=>by rw [matF_prod hu ha hi hl,matF_turn hu hl hj]
theorem prodV_Sz {n m:Nat} {x b:List (List Int)} (hx:SzM n x) (hb:SzM m b):SzM (n+m+b.length) (prodV x b):=fun i=>by
  by_cases h:i<x.length
  · rw [prodV_row h];exact combV_Sz (hx i) hb
  · rw [List.getD_eq_getElem?_getD,List.getElem?_eq_none (by simp [prodV];omega)];exact SzL.nil _
theorem sqm_CU {a:List (List Int)} (h:Sqm a):CU a.length a:=⟨rfl,h.q⟩
theorem red_LB {a:List (List Int)} (h:Sqm a) (hP:PosU (matF a) a.length):∃(M:Int),M=((2^256:Nat):Int)∧∃(Dm:Int) (N:Nat),LB M Dm N∧(∀x,x<a.length→matF a x x≤M)∧(∀l,l≤a.length→uD (matF a) l≤Dm):=by
  obtain ⟨N,hN⟩:=LB_pow 256 1052673 (by decide) (by decide)
  refine ⟨_,rfl,_,N,hN,fun x hx=>?_,fun l hl=>?_⟩
  · have:=matF_Sz h.z x x
    unfold Sz at this
    omega
  · have h1:=uD_Sz h.s (fun i j=>matF_Sz h.z i j) hP l hl
    have h2:=szU_le 256 (show l≤12 by have:=h.n;omega)
    have h3:=h1.up (show szU 256 l+1≤1052673 by omega)
    unfold Sz at h3
    omega
structure RedU (a U:List (List Int)):Prop where
  u:CU a.length U
  z:∃N,N≤536870912∧SzM (4*N+8) U
  l:∃(M Dm:Int),M=((2^256:Nat):Int)∧LL (matF a) a.length M Dm (fL a U) a.length a.length
theorem redU_of {a U:List (List Int)} {M Dm:Int} {N:Nat} (h:Sqm a) (hP:PosU (matF a) a.length) (hMe:M=((2^256:Nat):Int)) (hB:LB M Dm N) (hM:∀x,x<a.length→matF a x x≤M) (hD:∀l,l≤a.length→uD (matF a) l≤Dm) (hx:CU a.length U∧LL (matF a) a.length M Dm (fL a U) a.length a.length):RedU a U∧SzM (4*N+8) U:=by
  have hz:SzM (4*N+8) U:=sz_Ul hx.1 (sz_U h.s hP h.n hB hM hD (hx.2.dia hB))
  exact ⟨⟨hx.1,⟨N,hB.n,hz⟩,⟨M,Dm,hMe,hx.2⟩⟩,hz⟩
def redP (a R U:List (List Int)):Prop:=(quadE a≠0→R=[]∧U=[])∧(quadE a=0→RedU a U∧R=chgV a U)
end Fw
namespace Fw
open Go Go.Proofs
theorem c_mat_Turn (a:List (List Int)) (hr:RectL a) (hrb:rect a=true) (h0:0<a.length) (h12:a.length≤12) (hW:(a.getD 0 []).length≤12):Fn Tryz.prog 151 [kMZ.is a] (VP.tup [kMC.is (turnV a),kN6.is 0]):=by
 refine aK Tryz.func151 E E fun m w=>aR (i:=0) E bu fun hB=>aR (i:=0) E dK fun hlc=>?_
 have hNW:a.length*(a.getD 0 []).length≤12*12:=Nat.mul_le_mul h12 hW
 refine Cr<|Wa E<|Wa E<|Wr<|Wm E<|Ws (f1 fn82 E (eS a))<|Wm E<|Ws (aH E E)<|Ws (aH E E)<|Ws (aH E E)<|Wa E<|Wa E<|Wa E<|Wn<|aa<|Cr<|Wm E<|Ws (bt E E) ?_
 refine Wn ?_
 refine CN E (by unfold shE;rw [if_pos hrb];decide) fun h_t18=>?_
 refine Ck<|aa ?_
 have hlc0:=hlc 0
 refine tl 4 E (y:=(a.length:Int)) (by unfold shN;rw [if_pos hrb])<|tl 5 E (y:=((a.getD 0 []).length:Int)) (by unfold shM;rw [if_pos hrb])<|ah<|Wm E<|Wm E<|Ws (dn E E (c:=((a.length:Int)*((a.getD 0 []).length:Int))) (ay (by omega)))<|WP.mkE (a.length*(a.getD 0 []).length) .n E E (by omega) (by omega) U23 bo aZ fun b2=>Wa E<|Wr<|Wa E<|Wn<|aa<|Cr<|Wm E<|Wm E<|Wn<|aw<|ca 23 kVal ?_
 rw [show (sv b2 0 (a.length*(a.getD 0 []).length))=(sv b2 (0*a.length) (a.length*(a.getD 0 []).length)) from (by rw [Nat.zero_mul])]
 refine tr 1 E (y:=(turnF a (0*a.length))) (by rw [Nat.zero_mul];rfl)<|bD (bI [1,0] (by decide) E)<|bX (fun (k:Nat) (v:Value)=>k≤(a.getD 0 []).length) (fun (k:Nat) (v:Value)=>[(0,kMZ.is a),(4,kN6.is (a.length:Int)),(5,kN6.is ((a.getD 0 []).length:Int)),(7,VP.ex (sv b2 (k*a.length) (a.length*(a.getD 0 []).length))),(8,VP.ex v),(24,kN6.is ((a.getD 0 []).length:Int)),(25,kN6.is (k:Int))]) (fun (k:Nat) (v:Value)=>[OB.row (sv b2 (k*a.length) (a.length*(a.getD 0 []).length)) 29 kC (turnF a (k*a.length)),OB.row v 23 kVal (winL a b2 k)]) (fun (k:Nat) (v:Value)=>(a.getD 0 []).length-k) 0 (.slice none 0 0) (by omega) (af E E E E (Z E (Z E (ao E (ag (y:=(0:Int)) (by rfl)) ai)))) (aW (OS.keep (OS.keepLe (a9 (by rfl)) OS.nil))) ?_
 intro k v hk
 refine Cr<|Ws (aS E E)<|Wn<|aa ?_
 refine aB E (fun h_t26=>?_)<|fun h_t26=>?_
 ·
  refine Ck<|aa<|aw<|Cr<|Wm E<|Wa E<|Wn<|aa<|Cr<|Wm E<|Wm E<|Wn<|aw ?_
  rw [show (k*a.length)=(k*a.length+0) from rfl]
  refine bN (fun (i:Nat)=>i≤a.length) (fun (i:Nat)=>[(0,kMZ.is a),(4,kN6.is (a.length:Int)),(5,kN6.is ((a.getD 0 []).length:Int)),(7,VP.ex (sv b2 (k*a.length+i) (a.length*(a.getD 0 []).length))),(8,VP.ex v),(9,kN6.is (k:Int)),(24,kN6.is ((a.getD 0 []).length:Int)),(25,kN6.is (k:Int)),(28,kN6.is (a.length:Int)),(29,kN6.is (i:Int))]) (fun (i:Nat)=>[OB.row (sv b2 (k*a.length+i) (a.length*(a.getD 0 []).length)) 29 kC (turnF a (k*a.length+i)),OB.row v 23 kVal (winL a b2 k)]) (fun (i:Nat)=>a.length-i) 0 (by omega) (af E E E E (af E E E E (Z E (ao E (ag (y:=(0:Int)) (by rfl)) ai)))) (au _) ?_
  intro i hi
  refine Cr<|Ws (aS E E)<|Wn<|aa ?_
  refine aB E (fun h_t30=>?_)<|fun h_t30=>?_
  ·
   refine Ck<|aa<|aw<|Cr<|Wm E<|Wa E<|Wn ?_
   have hroom:(k+1)*a.length≤a.length*(a.getD 0 []).length:=by rw [Nat.mul_comm a.length];exact Nat.mul_le_mul_right _ (by omega)
   have hsm_:(k+1)*a.length=k*a.length+a.length:=Nat.succ_mul k a.length
   have hsz_:((k:Int)+1)*(a.length:Int)=(k:Int)*(a.length:Int)+(a.length:Int):=by rw [Int.add_mul,Int.one_mul]
   refine ah<|Wm E<|Wm E<|Wm E<|Ws (aT i E E U22 aE E (v:=(a.getD i [])) (gd [] (by omega)))<|Ws (aO E aE)<|Wm E<|Ws (aT k E E U23 ab E (v:=((a.getD i []).getD k 0)) (gd 0 (by have:=hr i (by omega);omega)))<|Ws (aO E ab)<|Ws (f1 fn132 E (eO ((a.getD i []).getD k 0)))<|Ws (bC U23 bo (b9 E bw) E (by decide))<|WP.apE 0 (k*a.length+(i+1)) .n E E E Lr U23 bo (by (first | omega | (simp only [List.length_cons,List.length_nil,turnF_len,winL_len];omega))) (by simp) (by (first | omega | (simp only [List.length_cons,List.length_nil,turnF_len,winL_len];omega))) (by (first | omega | (simp only [List.length_cons,List.length_nil,turnF_len,winL_len];omega)))<|Wa E<|aj<|Qb<|ah<|Ws (aI E E (c:=((i:Int)+1)) (ay (by omega)))<|Wm E<|aj<|tr 0 E (y:=(turnF a (k*a.length+(i+1)))) (turnF_app (by omega)) ?_
   exact bG (i+1) (by omega) (by omega) (af E E E E (af E E E E (Z E (ao E (ag (y:=(((i+1):Nat):Int)) (by rfl)) ai))))<|au _
  ·
   refine Ex ?_
   have hroom:(k+1)*a.length≤a.length*(a.getD 0 []).length:=by rw [Nat.mul_comm a.length];exact Nat.mul_le_mul_right _ (by omega)
   rw [show (k*a.length+i)=((k+1)*a.length) from (by rw [Nat.succ_mul];omega)]
   have hsm_:(k+1)*a.length=k*a.length+a.length:=Nat.succ_mul k a.length
   have hsz_:((k:Int)+1)*(a.length:Int)=(k:Int)*(a.length:Int)+(a.length:Int):=by rw [Int.add_mul,Int.one_mul]
   refine ah<|Wm E<|Wm E<|Wm E<|Wm E<|Ws (dn E E (c:=((k:Int)*(a.length:Int))) (ay (by omega)))<|Wm E<|Ws (aI E E (c:=((k:Int)+1)) (ay (by omega)))<|Wm E<|Ws (dn E E (c:=(((k:Int)+1)*(a.length:Int))) (ay (by omega)))<|Wm E<|Ws (aI E E (c:=((k:Int)+1)) (ay (by omega)))<|Wm E<|Ws (dn E E (c:=(((k:Int)+1)*(a.length:Int))) (ay (by omega)))<|Ws (O.slE (k*a.length) ((k+1)*a.length) E E E E U23 ab (by omega) (by omega) (by omega) (by omega) (by omega)) ?_
   have hcell_:((wv b2 ((k*a.length)*2) (((k+1)*a.length)-(k*a.length)))).oneCell'=true:=rfl
   refine Ws (bC U22 cg (bZ E (bf (by rfl)) bw) E (by decide))<|bL 1 .n E E E Lr U22 cg (by (first | omega | (simp only [List.length_cons,List.length_nil,turnF_len,winL_len];omega))) fun v3=>Wa E<|aj<|Qb<|ah<|Ws (aI E E (c:=((k:Int)+1)) (ay (by omega)))<|Wm E<|aj<|tr 1 E (y:=(winL a b2 (k+1))) (winL_app a b2 k) ?_
   exact bP (k+1) v3 (by omega) (by omega) (af E E E E (Z E (Z E (ao E (ag (y:=(((k+1):Nat):Int)) (by rfl)) ai))))<|au _
 ·
  refine Ex<|aa ?_
  rw [show k*a.length=(a.getD 0 []).length*a.length from (by rw [show k=(a.getD 0 []).length by omega])]
  refine tr 1 E (y:=(winL a b2 (a.getD 0 []).length)) (by rw [show k=(a.getD 0 []).length by omega])<|ST.freezeW (xss:=(turnV a)) 0 0 E E (by rw [winL_len,turnV_len]) (winL_at h0) (kp 0 E (kp 4 E (kp 5 E (.hit (i:=8) E (kp 24 E (kp 25 E (kp 26 E .nil)))))))<|ah<|Wm E<|Wa E<|Wa E<|Wn<|am ?_
  exact Qd E (ar E (ar E ak)) ⟨E,E⟩
theorem c_mat_Product1 (n:Nat) (r:List Int) (b:List (List Int)) (hx:SzL n r) (hb:SzM n b) (hr:RectL b) (hl:b.length≤r.length) (hn:n+n+b.length≤549755813000):Fn Tryz.prog 224 [kVZ.is r,VP.pim kMZ b] (kVC.is (combV r b)):=by
 refine aK Tryz.func224 E E fun m w=>Cr<|Wa E<|Wr<|Wm E<|Ws (aO E bT)<|Ws (f2 fn118 E E (c_mat_combine n r b (by assumption) (by assumption) (by assumption) (by assumption) (by assumption)))<|Wa E<|Wn<|am ?_
 exact Qd E (ar E ak) ⟨E,E⟩
theorem c_mat_Product (n q:Nat) (x b:List (List Int)) (hx:SzM n x) (hb:SzM n b) (ux:CU q x) (ub:CU q b) (h0:0<q) (h12:q≤12) (hn:n≤274877906000):Fn Tryz.prog 152 [kMZ.is x,kMZ.is b] (VP.tup [kMC.is (prodV x b),kN6.is 0]):=by
 refine aK Tryz.func152 E E fun m w=>?_
 have hqx:=ux.sh h0
 have hqb:=ub.sh h0
 have hlx:=ux.len
 have hlb:=ub.len
 refine Cr<|a6 .n E fun b1=>Wa E<|Wa E<|Wr<|Wm E<|Ws (f1 fn82 E (eS x))<|Wm E<|Ws (aH E E)<|Ws (aH E E)<|Ws (aH E E)<|Wa E<|Wa E<|Wa E<|Wr<|Ws (ae E (ac 0 E) Li bT E)<|Ws (f1 fn82 E (eS b)) ?_
 refine Wm E<|Ws (aH E E)<|Ws (aH E E)<|Ws (aH E E)<|Wa E<|Wa E<|Wa E<|Wn<|aa<|Cr<|Wm E<|Ws (bt E E)<|Wm E ?_
 refine bV 26 E (fun h=>absurd h (fun h=>h hqx.2.2))<|fun h_t26=>?_
 refine Wg E E (bj E)<|Wg E E (bt E E)<|Ws (cb E E)<|Wm E ?_
 refine bV 30 E (fun h=>absurd h (fun h=>h hqb.2.2))<|fun h_t30=>?_
 refine Wg E E (bj E)<|Wg E E (cq E E)<|Wg E E (bj E) ?_
 refine bV 33 E (fun h_t33=>?_)<|fun h=>absurd (by rw [hqx.1];omega) h
 refine Wg E E (bj E)<|Wg E E (bj E)<|Wg E E (bt E E)<|Wg E E (ch E E)<|Ws (cb E E)<|Wn ?_
 refine CN E (fun h=>h (by rw [hqx.2.1,hqb.1])) fun h_t38=>?_
 refine Ck<|aa<|dZ 0 E (kp 0 E (kp 1 E (.hit (i:=3) E (kp 4 E (kp 5 E (kp 6 E (kp 7 E (kp 8 E (kp 9 E (kp 10 E (kp 11 E (kp 12 E (kp 13 E (kp 14 E (kp 15 E (kp 16 E (kp 17 E (kp 18 E (kp 19 E (kp 20 E (kp 21 E (kp 22 E (kp 23 E (kp 24 E (kp 25 E (kp 26 E (kp 27 E (kp 28 E (kp 29 E (kp 30 E (kp 31 E (kp 32 E (kp 33 E (kp 34 E (kp 35 E (kp 36 E (kp 37 E (kp 38 E .nil))))))))))))))))))))))))))))))))))))))<|ah<|Wm E<|Ws (O.mkf (aX E ax)) ?_
 refine WP.s .n (f2 fn223 E E (c_mat_eachRR 224 [VP.pim kMZ b] (fun r=>combV r b) x fn224 (fun r hr=>c_mat_Product1 n r b (SzM_mem hx hr) hb ub.rr.1 (by obtain ⟨i,hi,rfl⟩:=List.getElem_of_mem hr;have:=ux.row i (by omega);rw [List.getD_eq_getElem?_getD,List.getElem?_eq_getElem hi] at this;simp at this;omega) (by omega)))) ?_
 refine Wa E<|Wa E<|Wn<|am ?_
 exact Qd E (cz E (ag (y:=prodV x b) (by rfl)) (ar E ak)) ⟨E,E⟩
theorem c_quad_changed (B:Nat) (a u:List (List Int)) (ha:CU a.length a) (hu:CU a.length u) (h0:0<a.length) (h12:a.length≤12) (za:SzM B a) (zu:SzM B u) (hB:B≤34359738368):Fn Tryz.prog 80 [kMZ.is a,kMZ.is u] (kMC.is (chgV a u)):=by
 refine aK Tryz.func80 E E fun m w=>?_
 have hul:=hu.len
 have hu0:=hu.row 0 h0
 have hz1:SzM (B+B+12) (prodV u a):=(prodV_Sz zu za).up (by omega)
 have hz2:SzM (B+B+12) (turnV u):=(turnV_Sz zu).up (by omega)
 have hp1:=CU_prod hu ha
 have ht1:=CU_turn hu
 have hz3:=prodV_Sz hz1 hz2
 have hut:=turnV_len u
 refine Cr<|Wa E<|Wr<|Wm E<|Ws (f1 fn151 E (c_mat_Turn u (hu.rr.1) (hu.rr.2) (by omega) (by omega) (by omega)))<|Wm E<|Ws (aH E E)<|Ws (aH E E)<|Wa E<|Wa E<|Wr<|Wm E<|Wm E<|Ws (f2 fn152 E E (c_mat_Product B a.length u a (by assumption) (by assumption) (by assumption) (by assumption) (by assumption) (by assumption) (by omega)))<|Wm E<|Ws (aH E E)<|Ws (aH E E) ?_
 refine Wa E<|Wa E<|Wr<|Wm E<|Wm E<|Ws (aF fn152 (aq E (dQ (hz1.sm (by omega))) (aq E (dQ (hz2.sm (by omega))) ax)) (c_mat_Product (B+B+12) a.length (prodV u a) (turnV u) (by assumption) (by assumption) (by assumption) (by assumption) (by assumption) (by assumption) (by omega)))<|Wm E<|Ws (aH E E)<|Ws (aH E E)<|Wa E<|Wr<|Wm E<|Wa E<|Wn<|am ?_
 exact Qd E (cz E (ag (y:=chgV a u) (by rfl)) ak) ⟨E,E⟩
end Fw
namespace Fw
open Go
def tabZ (n:Nat) (f:Fi):List (List Int):=(List.range n).map (fun i=>(List.range n).map (f i))
theorem tabZ_len (n f):(tabZ n f).length=n:=by simp [tabZ]
theorem tabZ_row {n f i} (h:i<n):(tabZ n f).getD i []=(List.range n).map (f i):=by
  rw [List.getD_eq_getElem?_getD];simp [tabZ,h]
theorem tabZ_rlen {n f i} (h:i<n):((tabZ n f).getD i []).length=n:=by rw [tabZ_row h];simp
theorem tabZ_at {n:Nat} {f:Fi} {i k:Nat} (q:Int) (h:i<n) (hk:k<n) (e:f i k=q):((tabZ n f).getD i [])[k]?=some q:=by rw [tabZ_row h,←e];simp [hk]
abbrev eG:=@tabZ_at
theorem tabZ_congr {n} {f g:Fi} (h:∀i k,i<n→k<n→f i k=g i k):tabZ n f=tabZ n g:=
  List.map_congr_left fun i hi=>List.map_congr_left fun k hk=>h i k (List.mem_range.1 hi) (List.mem_range.1 hk)
theorem tabZ_set {n f i k} (q:Int) (h:i<n) (hk:k<n):(tabZ n f).set i (((tabZ n f).getD i []).set k q)=tabZ n (updI f i k q):=by
  refine List.ext_getElem? fun x=>?_
  rw [List.getElem?_set]
  by_cases e:i=x
  · subst e
    rw [if_pos rfl,if_pos (by rw [tabZ_len];exact h),tabZ_row h]
    simp only [tabZ,List.getElem?_map,List.getElem?_range h,Option.map_some]
    congr 1
    refine List.ext_getElem? fun y=>?_
    rw [List.getElem?_set]
    by_cases e2:k=y
    · subst e2;simp [hk,updI]
    · rw [if_neg e2]
      simp only [List.getElem?_map]
      by_cases hy:y<n
      · rw [List.getElem?_range hy];simp [updI,show ¬y=k from fun h=>e2 h.symm]
      · rw [List.getElem?_eq_none (by simp;omega)];rfl
  · rw [if_neg e]
    simp only [tabZ,List.getElem?_map]
    by_cases hx:x<n
    · rw [List.getElem?_range hx]
      simp only [Option.map_some]
      congr 1
      refine List.map_congr_left fun y _=>?_
      simp [updI,show ¬x=i from fun h=>e h.symm]
    · rw [List.getElem?_eq_none (by simp;omega)];rfl
theorem tabZ_mat {a:List (List Int)} (h:CU a.length a):tabZ a.length (matF a)=a:=by
  refine List.ext_getElem? fun x=>?_
  by_cases hx:x<a.length
  · simp only [tabZ,List.getElem?_map,List.getElem?_range hx,Option.map_some]
    rw [List.getElem?_eq_getElem hx]
    congr 1
    have hr:=h.row x hx
    rw [List.getD_eq_getElem?_getD,List.getElem?_eq_getElem hx] at hr
    simp only [Option.getD_some] at hr
    refine List.ext_getElem? fun y=>?_
    by_cases hy:y<a.length
    · simp only [List.getElem?_map,List.getElem?_range hy,Option.map_some]
      rw [List.getElem?_eq_getElem (by omega)]
      simp only [matF,List.getD_eq_getElem?_getD,List.getElem?_eq_getElem hx,Option.getD_some]
      rw [List.getElem?_eq_getElem (by omega)];rfl
    · rw [List.getElem?_eq_none (by simp;omega),List.getElem?_eq_none (by omega)]
  · rw [List.getElem?_eq_none (by rw [tabZ_len];omega),List.getElem?_eq_none (by omega)]
end Fw
namespace Fw
open Go Go.Proofs
theorem c_elim_asked (b:List (List Int)) (u:CU b.length b) (h0:0<b.length) (h12:b.length≤12):Fn Tryz.prog 225 [kMZ.is b] (VP.tup [kN6.is (b.length:Int),kN6.is (b.length:Int),kN6.is 0]):=by
 refine aK Tryz.func225 E E fun m w=>?_
 have hsh:=u.sh h0
 refine Cr<|Wa E<|Wa E<|Wa E<|Wr<|Wm E<|Ws (f1 fn82 E (eS b))<|Wm E<|Ws (aH E E)<|Ws (aH E E)<|Ws (aH E E)<|Wa E<|Wa E<|Wa E<|Wn<|aa<|Cr<|Wm E ?_
 refine Ws (bt E E)<|Wn ?_
 refine CN E (fun h=>h hsh.2.2) fun h_t15=>?_
 refine Ck<|aa<|Cr<|Wm E<|Ws (cq E E)<|Wm E ?_
 refine bV 19 E (fun h=>absurd h (by rw [hsh.1];omega))<|fun h_t19=>?_
 refine Wg E E (bj E)<|Wg E E (cq E E)<|Ws (cb E E)<|Wn ?_
 refine CN E (by rw [hsh.2.1];omega) fun h_t22=>?_
 refine Ck<|Cr<|Wm E<|Wm E<|Wa E<|Wa E<|Wa E<|Wn<|am<|tl 2 E (y:=(b.length:Int)) hsh.1<|tl 3 E (y:=(b.length:Int)) hsh.2.1 ?_
 exact Qd E (ar E (ar E (ar E ak))) ⟨E,E⟩
theorem c_elim_square (b:List (List Int)) (u:CU b.length b) (h0:0<b.length) (h12:b.length≤12):Fn Tryz.prog 154 [kMZ.is b] (VP.tup [kN6.is (b.length:Int),kN6.is 0]):=by
 refine aK Tryz.func154 E E fun m w=>Cr<|Wa E<|Wa E<|Wr<|Wm E<|Ws (f1 fn225 E (c_elim_asked b (by assumption) (by assumption) (by assumption)))<|Wm E<|Ws (aH E E)<|Ws (aH E E)<|Ws (aH E E)<|Wa E<|Wa E<|Wa E<|Wn<|aa<|Cr<|Wm E ?_
 refine Ws (bR E E)<|Wm E ?_
 refine bV 15 E (fun h_t15=>?_)<|fun h=>absurd E h
 refine Wg E E (bj E)<|Wg E E (bj E)<|Wg E E (bt E E)<|Ws (ch E E)<|Wn ?_
 refine CN E (fun h=>h E) fun h_t19=>?_
 refine Ck<|Cr<|Wm E<|Wm E<|Wa E<|Wa E<|Wn<|am ?_
 exact Qd E (ar E (ar E ak)) ⟨E,E⟩
theorem c_elim_copied (b:List (List Int)) (u:CU b.length b):Con Tryz.prog 259 [kMZ.is b] [] (fun p Lo=>∃(v:Value) (vs:List Value),p=VP.ex v∧Lo=[OB.row v 23 kVal vs,OB.fam vs 29 kZ b]∧vs.length=b.length):=by
 refine aK Tryz.func259 E E fun m w=>aR (i:=0) E bu fun hB=>aR (i:=0) E dK fun hlc=>Cr<|Wa E<|Wr<|Wm E<|Ws (aA E U22)<|bp b.length .n E E E (by omega) U22 cg cA fun v1=>Wa E<|Wn<|aa<|Cr<|Wm E<|Ws (aA E U22)<|Wm E<|Wn ?_
 refine aw<|fl 29 kZ<|tr 1 E (y:=([]++List.replicate (b.length-0) nilV)) (by simp)<|bX (fun (i:Nat) (us:List Value)=>i≤b.length∧us.length=i) (fun (i:Nat) (us:List Value)=>[(0,kMZ.is b),(3,VP.ex v1),(9,kMZ.is b),(10,kN6.is (b.length:Int)),(11,kN6.is (i:Int))]) (fun (i:Nat) (us:List Value)=>[OB.fam us 29 kZ (b.take i),OB.row v1 23 kVal (us++List.replicate (b.length-i) nilV)]) (fun (i:Nat) (us:List Value)=>b.length-i) 0 [] ⟨Nat.zero_le _,E⟩ (af E E E E (ao E (ag (y:=(0:Int)) (by rfl)) ai)) (aW (OS.keepLe (d9 (by rfl) (by rfl)) (OS.keep OS.nil))) ?_
 intro i us ⟨hi,hvs⟩
 refine Cr<|Ws (aS E E)<|Wn<|aa ?_
 refine aB E (fun h_t12=>?_)<|fun h_t12=>?_
 ·
  refine Ck<|aa<|aw<|Cr<|Wm E<|Ws (aT i E E U22 aE E (v:=(b.getD i [])) (gd [] (by omega)))<|Ws (aO E aE)<|Wa E<|Wa E<|Wr<|Wm E<|Wm E<|Wm E<|Ws (aA E U23)<|bp ((b.getD i []).length) .n E E E (by have:=hlc i;omega) U23 el29_Z z29_Z fun v2=>Ws (aY (k:=kVal) (xs:=(us++List.replicate (b.length-i) nilV)) (n:=(i:Int)) i E E (ac 2 E) U22 aE E (by simp;omega))<|bn 0 E fun hcell_=>aG .n (cd 2 i E E Li E (y0:=((us++List.replicate (b.length-i) nilV).getD i nilV)) (gd nilV (by simp;omega)) aE E (bf (by assumption)))<|aj ?_
  refine bS<|ah<|Wm E<|Wm E<|Ws (aY (k:=kVal) (xs:=((us++List.replicate (b.length-i) nilV).set i v2)) (n:=(i:Int)) i E E (ac 2 E) U22 aE E (by simp;omega)) ?_
  refine WP.s .n (aV (bd (k:=kVal) (xs:=((us++List.replicate (b.length-i) nilV).set i v2)) i E (ac 2 E) Li (ho:=E) (y:=v2) (by rw [List.getElem?_set_self (by simp;omega)]) aE E) (bm _)) ?_
  refine Wm E<|Ws (O.cp 0 E E E Lr U23 el29_Z)<|aj<|Qb<|ah<|Ws (aI E E (c:=((i:Int)+1)) (ay (by omega)))<|Wm E<|aj<|tr 0 E (y:=(b.getD i [])) (ek (by simp))<|bD (fam_push 0 E)<|tf 0 E (y:=(b.take (i+1))) (eV (by omega))<|tr 1 E (y:=((us++[v2])++List.replicate (b.length-(i+1)) nilV)) (by rw [show b.length-i=(b.length-(i+1))+1 by omega,List.replicate_succ,List.set_append_right _ _ (by omega),show i-us.length=0 by omega];simp) ?_
  exact bP (i+1) (us++[v2]) (by omega) ⟨by omega,by simp [hvs]⟩ (af E E E E (ao E (ag (y:=(((i+1):Nat):Int)) (by rfl)) ai))<|au _
 ·
  refine Ex<|Cr<|Wm E<|Wa E<|Wn<|am ?_
  have hvl:us.length=b.length:=by omega
  refine tf 0 E (y:=b) (List.take_of_length_le (by omega))<|tr 1 E (y:=us) (by rw [show b.length-i=0 by omega];simp)<|bD (bI [1,0] (by decide) E) ?_
  exact ct (.inl E) E (ar E ak) (au _) ⟨v1,us,E,E,hvl⟩
end Fw
namespace Fw
open Go
def t2 (n:Nat):Rat:=(((2^n:Nat):Int):Rat)
theorem t2_add (a b:Nat):t2 (a+b)=t2 a*t2 b:=by
  unfold t2
  rw [Nat.pow_add,Int.natCast_mul,Rat.intCast_mul]
theorem t2_pos (a:Nat):0≤t2 a:=by
  have:((0:Int):Rat)≤(((2^a:Nat):Int):Rat):=Rat.intCast_le_intCast.mpr (Int.natCast_nonneg _)
  exact this
theorem altS_wi {f:List Col→Rat} {X Y:Rat}:∀(q p:List Col),(∀c∈q,wi (c 0) X)→(∀M:List Col,M.length+1=p.length+q.length→(∀c∈M,c∈p∨c∈q)→wi (f M) Y)→wi (altS f p q) ((q.length:Rat)*(X*Y))
  | [],p,_,_=>by
    have e:(([]:List Col).length:Rat)*(X*Y)=0:=by simp
    rw [e]
    constructor
    · show (-0:Rat)≤0;grind
    · show (0:Rat)≤0;grind
  | c::q,p,hX,hf=>by
    have h1:=wi_mul (hX c (List.mem_cons_self ..)) (hf (p++q) (by simp;omega) (fun d hd=>by
      rcases List.mem_append.1 hd with h | h
      · exact .inl h
      · exact .inr (List.mem_cons_of_mem _ h)))
    have h2:=altS_wi q (p++[c]) (fun d hd=>hX d (List.mem_cons_of_mem _ hd)) (fun M hM hm=>hf M (by simp at hM ⊢;omega) (fun d hd=>by
      rcases hm d hd with h | h
      · rcases List.mem_append.1 h with h | h
        · exact .inl h
        · exact .inr (by rw [List.mem_singleton.1 h];exact List.mem_cons_self ..)
      · exact .inr (List.mem_cons_of_mem _ h)))
    have h3:=wi_sub h1 h2
    have e:(((c::q).length:Nat):Rat)*(X*Y)=X*Y+(q.length:Rat)*(X*Y):=by rw [List.length_cons];push_cast;grind
    rw [e];exact h3
theorem dt_wi (s:Nat):∀n (L:List Col),n≤127→L.length=n→(∀c∈L,∀i,wi (c i) (t2 s))→wi (dt n L) (t2 (n*(s+7)))
  | 0,[],_,_,_=>by
    show wi 1 (t2 (0*(s+7)))
    rw [Nat.zero_mul]
    constructor <;> decide
  | 0,_::_,_,h,_=>by cases h
  | n+1,L,h7,hl,hL=>by
    have h1:=altS_wi (f:=fun M=>dt n (M.map ctl)) (X:=t2 s) (Y:=t2 (n*(s+7))) L [] (fun c hc=>hL c hc 0) (fun M hM hm=>dt_wi s n _ (by omega) (by simp at hM ⊢;omega) (fun d hd i=>by
      obtain ⟨c,hc,rfl⟩:=List.mem_map.mp hd
      rcases hm c hc with h | h
      · cases h
      · exact hL c h (i+1)))
    refine wi_le h1 ?_
    have e:t2 ((n+1)*(s+7))=128*(t2 s*t2 (n*(s+7))):=by
      rw [Nat.succ_mul,t2_add,t2_add,show t2 7=128 by decide];grind
    rw [e]
    have k1:(L.length:Rat)≤128:=by
      have:((L.length:Int):Rat)≤((128:Int):Rat):=Rat.intCast_le_intCast.mpr (by omega)
      exact this
    exact Rat.mul_le_mul_of_nonneg_right k1 (Rat.mul_nonneg (t2_pos _) (t2_pos _))
theorem Sz_wi {s:Nat} {z:Int} (h:Sz s z):wi (z:Rat) (t2 s):=by
  have h1:z.natAbs<2^s:=h
  constructor
  · have:((-((2^s:Nat):Int):Int):Rat)≤(z:Rat):=Rat.intCast_le_intCast.mpr (by omega)
    rw [Rat.intCast_neg] at this;exact this
  · exact Rat.intCast_le_intCast.mpr (by omega)
def mB (s t:Nat):Nat:=(t+1)*(s+7)+1
theorem mB_le {s t u:Nat} (h:t≤u):mB s t≤mB s u:=by
  have:=Nat.mul_le_mul_right (s+7) (show t+1≤u+1 by omega)
  unfold mB;omega
theorem gm_Sz {H:Fi} {s t:Nat} (hz:∀i j,Sz s (H i j)) (ht:t≤126) (hp:∀l,l<t→gsE (qG H) l l l≠0) {i j:Nat} (hi:t≤i) (hj:t≤j):∃z:Int,gsD (qG H) t*gsE (qG H) t i j=(z:Rat)∧Sz (mB s t) z:=by
  have hc:∀j r,wi (gsC (qG H) t i j r) (t2 s):=fun j r=>by
    unfold gsC
    split <;> exact Sz_wi (hz _ _)
  have h1:=gs_det t (qG H) hp i j hi hj
  obtain ⟨z,hz2⟩:=gs_int (G:=qG H) (fun i j=>⟨H i j,rfl⟩) t hp hi hj
  refine ⟨z,hz2,?_⟩
  have h2:=dt_wi s (t+1) ((List.range t).map (gsC (qG H) t i)++[gsC (qG H) t i j]) (by omega) (by simp) (fun c hc' r=>by
    rcases List.mem_append.mp hc' with h | h
    · obtain ⟨l,_,rfl⟩:=List.mem_map.mp h;exact hc l r
    · rw [List.mem_singleton.mp h];exact hc j r)
  rw [←h1,hz2] at h2
  obtain ⟨h4,h5⟩:=wi_int h2
  exact Sz_pw h4 h5
theorem gsD_Sz {H:Fi} {s t:Nat} (hz:∀i j,Sz s (H i j)) (ht:t≤126) (hp:∀l,l<t→gsE (qG H) l l l≠0):∃z:Int,gsD (qG H) t=(z:Rat)∧Sz (mB s t) z∧z≠0:=by
  have hne:∀t,(∀l,l<t→gsE (qG H) l l l≠0)→gsD (qG H) t≠0:=fun t=>by
    induction t with
    | zero=>intro _;show (1:Rat)≠0;decide
    | succ t ih=>
      intro h e
      have e:gsD (qG H) t*gsE (qG H) t t t=0:=e
      rcases Rat.mul_eq_zero.1 e with e | e
      · exact ih (fun l hl=>h l (by omega)) e
      · exact h t (by omega) e
  have key:∀z:Int,gsD (qG H) t=(z:Rat)→z≠0:=fun z e h=>hne t hp (by rw [e,h];rfl)
  match t with
  | 0=>exact ⟨1,rfl,Sz.up (n:=1) (by show (1:Int).natAbs<2^1;decide) (by unfold mB;omega),by decide⟩
  | t+1=>
    obtain ⟨z,h1,h2⟩:=gm_Sz (t:=t) hz (by omega) (fun l hl=>hp l (by omega)) (Nat.le_refl t) (Nat.le_refl t)
    exact ⟨z,h1,h2.up (mB_le (by omega)),key z h1⟩
theorem gsE_RZ {H:Fi} {s t:Nat} (hz:∀i j,Sz s (H i j)) (ht:t≤126) (hp:∀l,l<t→gsE (qG H) l l l≠0) {i j:Nat} (hi:t≤i) (hj:t≤j):RZ (mB s t) (gsE (qG H) t i j):=by
  obtain ⟨z,h1,h2⟩:=gm_Sz hz ht hp hi hj
  obtain ⟨d,h3,h4,h5⟩:=gsD_Sz hz ht hp
  have e:gsE (qG H) t i j=(z:Rat)/(d:Rat):=by
    have hd:=rat_ne h5
    rw [h3] at h1
    rw [←h1];grind
  rw [e];exact RZ.frac h5 h2 h4
theorem gsE_map {A:Nat→Nat→Rat} {ρ κ:Nat→Nat} {t:Nat} (hρ:∀l,l<t→ρ l=l) (hκ:∀l,l<t→κ l=l):∀k,k≤t→∀i j,gsE (fun i j=>A (ρ i) (κ j)) k i j=gsE A k (ρ i) (κ j)
  | 0,_,i,j=>rfl
  | k+1,hk,i,j=>by
    have h:=gsE_map (A:=A) hρ hκ k (by omega)
    show gsE _ k i j-gsE _ k i k*gsE _ k k j/gsE _ k k k=_
    rw [h i j,h i k,h k j,h k k,hρ k (by omega),hκ k (by omega)];rfl
theorem gsD_map {A:Nat→Nat→Rat} {ρ κ:Nat→Nat} {t:Nat} (hρ:∀l,l<t→ρ l=l) (hκ:∀l,l<t→κ l=l):∀k,k≤t→gsD (fun i j=>A (ρ i) (κ j)) k=gsD A k
  | 0,_=>rfl
  | k+1,hk=>by
    show gsD _ k*gsE _ k k k=gsD _ k*gsE _ k k k
    rw [gsD_map hρ hκ k (by omega),gsE_map hρ hκ k (by omega),hρ k (by omega),hκ k (by omega)]
theorem gsE_dep {A B:Nat→Nat→Rat}:∀k i j,(∀l,l<k→∀j,A l j=B l j)→(∀j,A i j=B i j)→gsE A k i j=gsE B k i j
  | 0,i,j,_,h=>h j
  | k+1,i,j,hl,h=>by
    have h1:=fun i j h=>gsE_dep (A:=A) (B:=B) k i j (fun l hk=>hl l (by omega)) h
    show gsE A k i j-gsE A k i k*gsE A k k j/gsE A k k k=gsE B k i j-gsE B k i k*gsE B k k j/gsE B k k k
    rw [h1 i j h,h1 i k h,h1 k j (hl k (by omega)),h1 k k (hl k (by omega))]
theorem gsE_nul {A:Nat→Nat→Rat} {i:Nat}:∀k j,(∀l,l<k→A i l=0)→gsE A k i j=A i j
  | 0,j,_=>rfl
  | k+1,j,h=>by
    show gsE A k i j-gsE A k i k*gsE A k k j/gsE A k k k=A i j
    rw [gsE_nul k j (fun l hl=>h l (by omega)),gsE_nul k k (fun l hl=>h l (by omega)),h k (by omega)];grind
def rowS (t p i:Nat):Nat:=if i=t then p else if i=p then t else i
def colK (t c j:Nat):Nat:=if j<t then j else if j=t then t+c else j-1
noncomputable def pv (f:Nat→Rat):Nat→Nat→Nat
  | p,0=>p
  | p,k+1=>if f p=0 then pv f (p+1) k else p
theorem pv_ok (f:Nat→Rat):∀k p,p≤pv f p k∧pv f p k≤p+k∧(∀x,p≤x→x<pv f p k→f x=0)∧(pv f p k<p+k→f (pv f p k)≠0)
  | 0,p=>⟨Nat.le_refl _,Nat.le_refl _,fun x h1 h2=>absurd h2 (by show ¬x<p;omega),fun h=>absurd h (by show ¬p<p+0;omega)⟩
  | k+1,p=>by
    unfold pv
    by_cases e:f p=0
    · rw [if_pos e]
      obtain ⟨h1,h2,h3,h4⟩:=pv_ok f k (p+1)
      refine ⟨by omega,by omega,fun x hx h=>?_,fun h=>h4 (by omega)⟩
      by_cases ex:x=p
      · rw [ex];exact e
      · exact h3 x (by omega) h
    · rw [if_neg e]
      exact ⟨Nat.le_refl _,by omega,fun x h1 h2=>absurd h2 (by omega),fun _=>e⟩
theorem pv_eq {f:Nat→Rat} {p k q:Nat} (h1:p≤q) (h2:q≤p+k) (h3:∀x,p≤x→x<q→f x=0) (h4:q<p+k→f q≠0):pv f p k=q:=by
  obtain ⟨k1,k2,k3,k4⟩:=pv_ok f k p
  rcases Nat.lt_trichotomy (pv f p k) q with h | h | h
  · exact absurd (h3 _ k1 h) (k4 (by omega))
  · exact h
  · exact absurd (k3 q h1 h) (h4 (by omega))
structure Els where
  H:Fi
  t:Nat
  o:Bool
def Els.e (S:Els) (i k:Nat):Rat:=gsE (qG S.H) S.t i (S.t+k)
def Els.to (S:Els) (c p:Nat):Els:=⟨fun i j=>S.H (rowS S.t p i) (colK S.t c j),S.t+1,if p=S.t then S.o else !S.o⟩
noncomputable def Els.p (S:Els) (n c:Nat):Nat:=pv (fun x=>S.e x c) S.t (n-S.t)
noncomputable def Els.nx (S:Els) (n c:Nat):Els:=if S.p n c=n then S else S.to c (S.p n c)
noncomputable def elA (B:Fi) (n:Nat):Nat→Els
  | 0=>⟨B,0,false⟩
  | c+1=>(elA B n c).nx n c
noncomputable def detB (B:Fi) (n:Nat):Rat:=if (elA B n n).t=n then (if (elA B n n).o then -gsD (qG (elA B n n).H) n else gsD (qG (elA B n n).H) n) else 0
structure ElP (B:Fi) (n c:Nat) (S:Els):Prop where
  h:∀i j,∃x y,S.H i j=B x y
  tn:S.t≤n
  tc:S.t≤c
  p:∀l,l<S.t→gsE (qG S.H) l l l≠0
section
variable {B:Fi} {n c p:Nat} {S:Els}
theorem elP_0 (B:Fi) (n:Nat):ElP B n 0 ⟨B,0,false⟩:=⟨fun i j=>⟨i,j,rfl⟩,Nat.zero_le _,Nat.le_refl _,fun l hl=>absurd hl (by show ¬l<0;omega)⟩
theorem rowS_lt {t p l:Nat} (hp:t≤p) (h:l<t):rowS t p l=l:=by unfold rowS;rw [if_neg (by omega),if_neg (by omega)]
theorem colK_lt {t c l:Nat} (h:l<t):colK t c l=l:=if_pos h
theorem qG_to (S:Els) (c p:Nat):qG (S.to c p).H=fun i j=>qG S.H (rowS S.t p i) (colK S.t c j):=rfl
theorem to_e0 (hp:S.t≤p) (i k:Nat):gsE (qG (S.to c p).H) S.t i (S.t+1+k)=S.e (rowS S.t p i) k:=by
  rw [qG_to,gsE_map (fun l hl=>rowS_lt hp hl) (fun l hl=>colK_lt hl) S.t (Nat.le_refl _)]
  show gsE _ _ _ (colK S.t c (S.t+1+k))=gsE _ _ _ (S.t+k)
  congr 1
  unfold colK;rw [if_neg (by omega),if_neg (by omega)];omega
theorem to_e1 (hp:S.t≤p) (i:Nat):gsE (qG (S.to c p).H) S.t i S.t=S.e (rowS S.t p i) c:=by
  rw [qG_to,gsE_map (fun l hl=>rowS_lt hp hl) (fun l hl=>colK_lt hl) S.t (Nat.le_refl _)]
  show gsE _ _ _ (colK S.t c S.t)=gsE _ _ _ (S.t+c)
  congr 1
  unfold colK;rw [if_neg (by omega),if_pos rfl]
theorem rowS_t:rowS S.t p S.t=p:=if_pos rfl
theorem to_D (hp:S.t≤p):gsD (qG (S.to c p).H) S.t=gsD (qG S.H) S.t:=by
  rw [qG_to]
  exact gsD_map (fun l hl=>rowS_lt hp hl) (fun l hl=>colK_lt hl) S.t (Nat.le_refl _)
theorem to_D1 (hp:S.t≤p):gsD (qG (S.to c p).H) (S.to c p).t=gsD (qG S.H) S.t*S.e p c:=by
  show gsD _ S.t*gsE _ S.t S.t S.t=_
  rw [to_D hp,to_e1 hp,rowS_t]
theorem to_e (hp:S.t≤p) (i k:Nat):(S.to c p).e i k=S.e (rowS S.t p i) k-S.e (rowS S.t p i) c*S.e p k/S.e p c:=by
  show gsE _ S.t i (S.t+1+k)-gsE _ S.t i S.t*gsE _ S.t S.t (S.t+1+k)/gsE _ S.t S.t S.t=_
  rw [to_e0 hp,to_e1 hp,to_e0 hp,to_e1 hp,rowS_t]
theorem ElP.to (h:ElP B n c S) (hp:S.t≤p) (hpn:p<n) (hne:S.e p c≠0):ElP B n (c+1) (S.to c p):=by
  refine ⟨fun i j=>h.h _ _,by show S.t+1≤n;omega,Nat.succ_le_succ h.tc,fun l hl=>?_⟩
  have hl:l<S.t+1:=hl
  by_cases e:l<S.t
  · rw [qG_to,gsE_map (fun l hl=>rowS_lt hp hl) (fun l hl=>colK_lt hl) l (by omega),rowS_lt hp e,colK_lt e]
    exact h.p l e
  · have:l=S.t:=by omega
    subst this
    rw [to_e1 hp,rowS_t];exact hne
theorem ElP.skip (h:ElP B n c S):ElP B n (c+1) S:=⟨h.h,h.tn,Nat.le_succ_of_le h.tc,h.p⟩
theorem ElP.sz {s:Nat} (h:ElP B n c S) (hz:∀i j,Sz s (B i j)) (i j:Nat):Sz s (S.H i j):=by
  obtain ⟨x,y,e⟩:=h.h i j
  rw [e];exact hz x y
theorem nx_no (h:ElP B n c S) (h0:∀x,S.t≤x→x<n→S.e x c=0):S.nx n c=S:=by
  have:S.p n c=n:=pv_eq h.tn (by have:=h.tn;omega) h0 (fun h2=>absurd h2 (by have:=h.tn;omega))
  unfold Els.nx;rw [if_pos this]
theorem nx_to (h:ElP B n c S) (hp:S.t≤p) (hpn:p<n) (h0:∀x,S.t≤x→x<p→S.e x c=0) (hne:S.e p c≠0):S.nx n c=S.to c p:=by
  have:S.p n c=p:=pv_eq hp (by omega) h0 (fun _=>hne)
  unfold Els.nx;rw [this,if_neg (by omega)]
end
theorem elA_P (B:Fi) (n:Nat):∀c,ElP B n c (elA B n c)
  | 0=>elP_0 B n
  | c+1=>by
    have h:=elA_P B n c
    show ElP B n (c+1) ((elA B n c).nx n c)
    obtain ⟨k1,k2,k3,k4⟩:=pv_ok (fun x=>(elA B n c).e x c) (n-(elA B n c).t) (elA B n c).t
    unfold Els.nx
    by_cases e:(elA B n c).p n c=n
    · rw [if_pos e];exact h.skip
    · rw [if_neg e]
      have htn:=h.tn
      have e2:(elA B n c).p n c<n:=by
        have:(elA B n c).p n c≤(elA B n c).t+(n-(elA B n c).t):=k2
        omega
      exact h.to k1 e2 (k4 (show (elA B n c).p n c<_ by omega))
def swR (w:Fi) (t p:Nat):Fi:=fun i k=>w (rowS t p i) k
def bW (w:Fi) (t c:Nat) (l:Int) (i q:Nat):Fi:=fun x k=>if t<x∧c≤k∧(x<i∨(x=i∧q≤k)) then (w t c*w x k-w x c*w t k).fdiv l else w x k
structure BW (B:Fi) (n s c:Nat) (S:Els) (w:Fi) (l:Int):Prop where
  e:∀i k,S.t≤i→i<n→c≤k→k<n→((w i k:Int):Rat)=gsD (qG S.H) S.t*S.e i k
  z:∀i k,i<n→k<n→Sz (mB s n) (w i k)
  ll:(l:Rat)=gsD (qG S.H) S.t
  lz:Sz (mB s n) l
  l0:l≠0
section
variable {B w:Fi} {n s c p:Nat} {S:Els} {l:Int}
theorem mB_s {s n:Nat}:s≤mB s n:=by
  have:=Nat.mul_le_mul_right (s+7) (show 1≤n+1 by omega)
  unfold mB;omega
theorem bw_0 (hz:∀i j,Sz s (B i j)):BW B n s 0 ⟨B,0,false⟩ B 1:=by
  refine ⟨fun i k _ _ _ _=>?_,fun i k _ _=>(hz i k).up mB_s,rfl,Sz.up (n:=1) (by show (1:Int).natAbs<2^1;decide) (by unfold mB;omega),by decide⟩
  show ((B i k:Int):Rat)=1*((B i (0+k):Int):Rat)
  rw [Nat.zero_add];grind
theorem BW.skip (h:BW B n s c S w l):BW B n s (c+1) S w l:=⟨fun i k h1 h2 h3 h4=>h.e i k h1 h2 (by omega) h4,h.z,h.ll,h.lz,h.l0⟩
theorem BW.zero (h:BW B n s c S w l) {i:Nat} (hi:S.t≤i) (hin:i<n) (hc:c<n):(w i c).sign=0↔S.e i c=0:=by
  have h1:=h.e i c hi hin (Nat.le_refl c) hc
  rw [←h.ll] at h1
  have h2:=rat_ne h.l0
  rw [Int.sign_eq_zero_iff_zero]
  constructor
  · intro e
    rw [e] at h1
    have h1:(0:Rat)=(l:Rat)*S.e i c:=h1
    rcases Rat.mul_eq_zero.1 h1.symm with e | e
    · exact absurd e h2
    · exact e
  · intro e
    rw [e,Rat.mul_zero] at h1
    exact Classical.byContradiction fun x=>rat_ne x h1
theorem rowS_in {t p i:Nat} (hp:t≤p) (hpn:p<n) (hi:t≤i) (hin:i<n):t≤rowS t p i∧rowS t p i<n:=by
  unfold rowS
  split
  · exact ⟨hp,hpn⟩
  · split
    · omega
    · exact ⟨hi,hin⟩
theorem rowS_n {t p i n:Nat} (ht:t<n) (hpn:p<n) (hin:i<n):rowS t p i<n:=by
  unfold rowS
  split
  · exact hpn
  · split
    · exact ht
    · exact hin
theorem BW.new (h:BW B n s c S w l) (hP:ElP B n c S) (hz:∀i j,Sz s (B i j)) (hn:n≤126) (hp:S.t≤p) (hpn:p<n) (hne:S.e p c≠0) {i k:Nat} (hi:S.t<i) (hin:i<n) (hk:c≤k) (hkn:k<n) :
    (((swR w S.t p S.t c*swR w S.t p i k-swR w S.t p i c*swR w S.t p S.t k).fdiv l:Int):Rat)=gsD (qG (S.to c p).H) (S.to c p).t*(S.to c p).e i k∧Sz (mB s n) ((swR w S.t p S.t c*swR w S.t p i k-swR w S.t p i c*swR w S.t p S.t k).fdiv l):=by
  have hP2:=hP.to hp hpn hne
  obtain ⟨z,hz1,hz2⟩:=gm_Sz (hP2.sz hz) (t:=(S.to c p).t) (by have:=hP2.tn;omega) hP2.p (i:=i) (j:=(S.to c p).t+k) hi (by omega)
  obtain ⟨r1,r2⟩:=rowS_in (n:=n) hp hpn (show S.t≤i by omega) hin
  have e1:((swR w S.t p S.t c:Int):Rat)=(l:Rat)*S.e p c:=by rw [h.ll];show ((w (rowS S.t p S.t) c:Int):Rat)=_;rw [rowS_t];exact h.e p c hp hpn (Nat.le_refl c) (by omega)
  have e2:((swR w S.t p S.t k:Int):Rat)=(l:Rat)*S.e p k:=by rw [h.ll];show ((w (rowS S.t p S.t) k:Int):Rat)=_;rw [rowS_t];exact h.e p k hp hpn hk hkn
  have e3:((swR w S.t p i k:Int):Rat)=(l:Rat)*S.e (rowS S.t p i) k:=by rw [h.ll];exact h.e _ k r1 r2 hk hkn
  have e4:((swR w S.t p i c:Int):Rat)=(l:Rat)*S.e (rowS S.t p i) c:=by rw [h.ll];exact h.e _ c r1 r2 (Nat.le_refl c) (by omega)
  have hzr:(z:Rat)=gsD (qG (S.to c p).H) (S.to c p).t*(S.to c p).e i k:=hz1.symm
  have key:swR w S.t p S.t c*swR w S.t p i k-swR w S.t p i c*swR w S.t p S.t k=z*l:=by
    have:((swR w S.t p S.t c*swR w S.t p i k-swR w S.t p i c*swR w S.t p S.t k:Int):Rat)=((z*l:Int):Rat):=by
      rw [Rat.intCast_sub,Rat.intCast_mul,Rat.intCast_mul,Rat.intCast_mul,e1,e2,e3,e4,hzr,to_D1 hp,to_e hp,←h.ll]
      generalize S.e p c=u at *
      generalize S.e (rowS S.t p i) k=v
      generalize S.e (rowS S.t p i) c=x
      generalize S.e p k=y
      grind
    exact_mod_cast this
  rw [fdiv_ex h.l0 key]
  exact ⟨hzr,hz2.up (mB_le hP2.tn)⟩
theorem BW.to (h:BW B n s c S w l) (hP:ElP B n c S) (hz:∀i j,Sz s (B i j)) (hn:n≤126) (hc:c<n) (hp:S.t≤p) (hpn:p<n) (hne:S.e p c≠0):BW B n s (c+1) (S.to c p) (bW (swR w S.t p) S.t c l n n) (swR w S.t p S.t c):=by
  have hP2:=hP.to hp hpn hne
  have e1:((swR w S.t p S.t c:Int):Rat)=gsD (qG (S.to c p).H) (S.to c p).t:=by
    rw [to_D1 hp]
    show ((w (rowS S.t p S.t) c:Int):Rat)=_
    rw [rowS_t];exact h.e p c hp hpn (Nat.le_refl c) hc
  obtain ⟨d,d1,d2,d3⟩:=gsD_Sz (hP2.sz hz) (t:=(S.to c p).t) (by have:=hP2.tn;omega) hP2.p
  refine ⟨fun i k hi hin hk hkn=>?_,fun i k hin hkn=>?_,e1,h.z _ _ (rowS_n (by omega) hpn (by omega)) hc,fun e=>?_⟩
  · have hi:S.t+1≤i:=hi
    unfold bW
    rw [if_pos ⟨by omega,by omega,Or.inl hin⟩]
    exact (h.new hP hz hn hp hpn hne (by omega) hin (by omega) hkn).1
  · unfold bW
    split
    · rename_i e
      exact (h.new hP hz hn hp hpn hne e.1 hin e.2.1 hkn).2
    · exact h.z _ _ (rowS_n (by omega) hpn hin) hkn
  · rw [e,d1] at e1
    exact rat_ne d3 e1.symm
theorem bW_0 {t c:Nat}:tabZ n (bW w t c l (t+1) n)=tabZ n w:=tabZ_congr fun x k hx hk=>by
  unfold bW;rw [if_neg (by omega)]
theorem bW_top {t c i q k:Nat}:bW w t c l i q t k=w t k:=by unfold bW;rw [if_neg (by omega)]
theorem bW_now {t c i q k:Nat} (hk:k<q):bW w t c l i q i k=w i k:=by unfold bW;rw [if_neg (by omega)]
theorem bW_set {t c i q:Nat} (hi:t<i) (hq:c<q):updI (bW w t c l i q) i (q-1) ((w t c*w i (q-1)-w i c*w t (q-1)).fdiv l)=bW w t c l i (q-1):=by
  funext x k
  unfold updI bW
  by_cases e:x=i
  · subst e
    by_cases e2:k=q-1
    · subst e2;rw [if_pos ⟨rfl,rfl⟩,if_pos ⟨hi,by omega,Or.inr ⟨rfl,Nat.le_refl _⟩⟩]
    · rw [if_neg (fun h=>e2 h.2)]
      by_cases e3:c≤k∧q≤k
      · rw [if_pos ⟨hi,e3.1,Or.inr ⟨rfl,e3.2⟩⟩,if_pos ⟨hi,e3.1,Or.inr ⟨rfl,by omega⟩⟩]
      · rw [if_neg (by omega),if_neg (by omega)]
  · rw [if_neg (fun h=>e h.1)]
    by_cases e3:t<x∧c≤k∧x<i
    · rw [if_pos ⟨e3.1,e3.2.1,Or.inl e3.2.2⟩,if_pos ⟨e3.1,e3.2.1,Or.inl e3.2.2⟩]
    · rw [if_neg (by omega),if_neg (by omega)]
theorem bW_row {t c i:Nat} (hi:t<i):tabZ n (bW w t c l i c)=tabZ n (bW w t c l (i+1) n):=tabZ_congr fun x k hx hk=>by
  unfold bW
  by_cases e:t<x∧c≤k∧x≤i
  · rw [if_pos ⟨e.1,e.2.1,by omega⟩,if_pos ⟨e.1,e.2.1,Or.inl (by omega)⟩]
  · rw [if_neg (by omega),if_neg (by omega)]
theorem swR_self {t:Nat}:swR w t t=w:=by
  funext i k
  show w (rowS t t i) k=w i k
  have:rowS t t i=i:=by unfold rowS;split <;> (try split) <;> omega
  rw [this]
theorem tabZ_swR {t p:Nat} (ht:t<n) (hp:p<n):((tabZ n w).set p ((tabZ n w).getD t [])).set t ((tabZ n w).getD p [])=tabZ n (swR w t p):=by
  refine List.ext_getElem? fun x=>?_
  rw [List.getElem?_set,List.getElem?_set,tabZ_row ht,tabZ_row hp]
  by_cases hx:x<n
  · have e0:(tabZ n (swR w t p))[x]?=some ((List.range n).map (w (rowS t p x))):=by simp [tabZ,hx,swR]
    rw [e0]
    by_cases e:t=x
    · subst e;rw [if_pos rfl,if_pos (by simp [tabZ];exact hx)];unfold rowS;rw [if_pos rfl]
    · rw [if_neg e]
      by_cases e2:p=x
      · subst e2;rw [if_pos rfl,if_pos (by rw [tabZ_len];exact hx)];unfold rowS;rw [if_neg (by omega),if_pos rfl]
      · rw [if_neg e2];unfold rowS;rw [if_neg (by omega),if_neg (by omega)];simp [tabZ,hx]
  · rw [if_neg (by omega),if_neg (by omega),List.getElem?_eq_none (by rw [tabZ_len];omega),List.getElem?_eq_none (by rw [tabZ_len];omega)]
end
def vR (H:Fi) (n t:Nat):Fi:=fun i j=>if i<n then H i j else if j<t∧j=i-n then 1 else 0
def Els.v (S:Els) (n i k:Nat):Rat:=gsE (qG (vR S.H n S.t)) S.t (n+i) (S.t+k)
structure ElF (B:Fi) (n:Nat) (S:Els) (f:Fq):Prop where
  a:∀i k,S.t≤i→i<n→f i k=S.e i k
  b:∀i k,i<S.t→f i k = -S.v n i k
  o:∀i k,n≤i→f i k=(B i k:Rat)
section
variable {B:Fi} {n c p:Nat} {S:Els} {f:Fq}
theorem elF_0 (B:Fi) (n:Nat):ElF B n ⟨B,0,false⟩ (fun i k=>(B i k:Rat)):=by
  refine ⟨fun i k _ _=>?_,fun i k h=>absurd h (by show ¬i<0;omega),fun i k _=>rfl⟩
  show ((B i k:Int):Rat)=((B i (0+k):Int):Rat)
  rw [Nat.zero_add]
theorem vR_e (hP:ElP B n c S) {i:Nat} (hi:i<n) (k j:Nat) (hk:k≤S.t):gsE (qG (vR S.H n S.t)) k i j=gsE (qG S.H) k i j:=by
  have e:∀l,l<n→∀j,qG (vR S.H n S.t) l j=qG S.H l j:=fun l hl j=>by unfold qG vR;rw [if_pos hl]
  exact gsE_dep k i j (fun l hl j=>e l (by have:=hP.tn;omega) j) (e i hi)
theorem vR_p (hP:ElP B n c S):∀l,l<S.t→gsE (qG (vR S.H n S.t)) l l l≠0:=fun l hl=>by
  rw [vR_e hP (by have:=hP.tn;omega) l l (by omega)];exact hP.p l hl
theorem vR_Sz {s:Nat} (hP:ElP B n c S) (hz:∀i j,Sz s (B i j)) (h1:2≤s) (i j:Nat):Sz s (vR S.H n S.t i j):=by
  unfold vR
  split
  · exact hP.sz hz i j
  · split
    · exact Sz.up (n:=2) (show (1:Int).natAbs<2^2 by decide) h1
    · exact Sz.zero _
theorem ElF.z {s:Nat} (h:ElF B n S f) (hP:ElP B n c S) (hz:∀i j,Sz s (B i j)) (h1:2≤s) (hn:n≤126) (i k:Nat):RZ (mB s n) (f i k):=by
  have htn:=hP.tn
  by_cases e:i<S.t
  · rw [h.b i k e]
    exact ((gsE_RZ (vR_Sz hP hz h1) (by omega) (vR_p hP) (show S.t≤n+i by omega) (show S.t≤S.t+k by omega)).up (mB_le htn)).neg
  · by_cases e2:i<n
    · rw [h.a i k (by omega) e2]
      exact (gsE_RZ (hP.sz hz) (by omega) hP.p (show S.t≤i by omega) (show S.t≤S.t+k by omega)).up (mB_le htn)
    · rw [h.o i k (by omega)]
      exact RZ.int (n:=(n+1)*(s+7)) ((hz i k).up mB_s)
theorem to_v (hP:ElP B n c S) (hp:S.t≤p) (hpn:p<n) {i:Nat} (hi:i<S.t) (k:Nat):(S.to c p).v n i k=S.v n i k-S.v n i c*S.e p k/S.e p c:=by
  have htn:=hP.tn
  have hrow:rowS S.t p (n+i)=n+i:=by unfold rowS;rw [if_neg (by omega),if_neg (by omega)]
  have key:∀j,gsE (qG (vR (S.to c p).H n (S.t+1))) S.t (n+i) j=gsE (qG (vR S.H n S.t)) S.t (n+i) (colK S.t c j):=fun j=>by
    have h1:=gsE_map (A:=qG (vR S.H n S.t)) (fun l hl=>rowS_lt (t:=S.t) (p:=p) hp hl) (fun l hl=>colK_lt (c:=c) hl) S.t (Nat.le_refl _) (n+i) j
    rw [hrow] at h1
    rw [←h1]
    refine gsE_dep S.t (n+i) j (fun l hl j=>?_) (fun j=>?_)
    · show ((vR (S.to c p).H n (S.t+1) l j:Int):Rat)=((vR S.H n S.t (rowS S.t p l) (colK S.t c j):Int):Rat)
      unfold vR
      rw [rowS_lt hp hl,if_pos (by omega),if_pos (by omega)]
      show ((S.H (rowS S.t p l) (colK S.t c j):Int):Rat)=_
      rw [rowS_lt hp hl]
    · show ((vR (S.to c p).H n (S.t+1) (n+i) j:Int):Rat)=((vR S.H n S.t (rowS S.t p (n+i)) (colK S.t c j):Int):Rat)
      rw [hrow]
      unfold vR
      rw [if_neg (show ¬n+i<n by omega),if_neg (show ¬n+i<n by omega),show n+i-n=i by omega]
      by_cases e:j<S.t
      · rw [colK_lt e]
        by_cases e2:j=i
        · rw [if_pos ⟨by omega,e2⟩,if_pos ⟨e,e2⟩]
        · rw [if_neg (fun h=>e2 h.2),if_neg (fun h=>e2 h.2)]
      · have:¬colK S.t c j<S.t:=by unfold colK;rw [if_neg e];split <;> omega
        rw [if_neg (by omega),if_neg (fun h=>this h.1)]
  have hin:∀j,gsE (qG (vR (S.to c p).H n (S.t+1))) S.t S.t j=gsE (qG (S.to c p).H) S.t S.t j:=fun j=>by
    have e:∀l,l<n→∀j,qG (vR (S.to c p).H n (S.t+1)) l j=qG (S.to c p).H l j:=fun l hl j=>by unfold qG vR;rw [if_pos hl]
    exact gsE_dep S.t S.t j (fun l hl j=>e l (by omega) j) (e S.t (by omega))
  show gsE (qG (vR (S.to c p).H n (S.t+1))) S.t (n+i) (S.t+1+k)-gsE (qG (vR (S.to c p).H n (S.t+1))) S.t (n+i) S.t*gsE (qG (vR (S.to c p).H n (S.t+1))) S.t S.t (S.t+1+k)/gsE (qG (vR (S.to c p).H n (S.t+1))) S.t S.t S.t=_
  rw [key,key,hin,hin,to_e0 hp,to_e1 hp,rowS_t]
  have c1:colK S.t c (S.t+1+k)=S.t+k:=by unfold colK;rw [if_neg (by omega),if_neg (by omega)];omega
  have c2:colK S.t c S.t=S.t+c:=by unfold colK;rw [if_neg (by omega),if_pos rfl]
  rw [c1,c2];rfl
theorem to_v1 (hP:ElP B n c S) (hp:S.t≤p) (hpn:p<n) (k:Nat):(S.to c p).v n S.t k = -(S.e p k/S.e p c):=by
  have htn:=hP.tn
  have hr:∀j,qG (vR (S.to c p).H n (S.t+1)) (n+S.t) j=if j=S.t then 1 else 0:=fun j=>by
    unfold qG vR
    rw [if_neg (by omega),show n+S.t-n=S.t by omega]
    by_cases e:j=S.t
    · rw [if_pos ⟨by omega,e⟩,if_pos e];rfl
    · rw [if_neg (fun h=>e h.2),if_neg e];rfl
  have h0:∀j,gsE (qG (vR (S.to c p).H n (S.t+1))) S.t (n+S.t) j=if j=S.t then 1 else 0:=fun j=>by
    rw [gsE_nul S.t j (fun l hl=>by rw [hr,if_neg (by omega)]),hr]
  have hin:∀j,gsE (qG (vR (S.to c p).H n (S.t+1))) S.t S.t j=gsE (qG (S.to c p).H) S.t S.t j:=fun j=>by
    have e:∀l,l<n→∀j,qG (vR (S.to c p).H n (S.t+1)) l j=qG (S.to c p).H l j:=fun l hl j=>by unfold qG vR;rw [if_pos hl]
    exact gsE_dep S.t S.t j (fun l hl j=>e l (by omega) j) (e S.t (by omega))
  show gsE (qG (vR (S.to c p).H n (S.t+1))) S.t (n+S.t) (S.t+1+k)-gsE (qG (vR (S.to c p).H n (S.t+1))) S.t (n+S.t) S.t*gsE (qG (vR (S.to c p).H n (S.t+1))) S.t S.t (S.t+1+k)/gsE (qG (vR (S.to c p).H n (S.t+1))) S.t S.t S.t=_
  rw [h0,h0,hin,hin,to_e0 hp,to_e1 hp,rowS_t,if_neg (by omega),if_pos rfl];grind
theorem ElF.to (h:ElF B n S f) (hP:ElP B n c S) (hp:S.t≤p) (hpn:p<n) (hne:S.e p c≠0):ElF B n (S.to c p) (rdcF f p S.t c n):=by
  have htn:=hP.tn
  have e0:f p c=S.e p c:=h.a p c hp hpn
  have hs:∀i k,S.t≤i→i<n→swapF f p S.t i k=S.e (rowS S.t p i) k:=fun i k hi hin=>by
    unfold swapF rowS
    by_cases e:i=p
    · rw [if_pos e]
      by_cases e2:i=S.t
      · rw [if_pos e2,h.a S.t k (Nat.le_refl _) (by omega),show p=S.t by omega]
      · rw [if_neg e2,if_pos e,h.a S.t k (Nat.le_refl _) (by omega)]
    · rw [if_neg e]
      by_cases e2:i=S.t
      · rw [if_pos e2,if_pos e2,h.a p k hp hpn]
      · rw [if_neg e2,if_neg e2,if_neg e,h.a i k hi hin]
  have ht:∀k,divA (swapF f p S.t) S.t (f p c) S.t k=S.e p k/S.e p c:=fun k=>by
    unfold divA;rw [if_pos rfl,hs S.t k (Nat.le_refl _) (by omega),rowS_t,e0]
  refine ⟨fun i k hi hin=>?_,fun i k hi=>?_,fun i k hi=>?_⟩
  · have hi:S.t+1≤i:=hi
    unfold rdcF elimF
    rw [if_pos ⟨hin,by omega⟩,ht,to_e hp]
    unfold divA
    rw [if_neg (by omega),if_neg (by omega),hs i k (by omega) hin,hs i c (by omega) hin];grind
  · have hi:i<S.t+1:=hi
    by_cases e:i=S.t
    · subst e
      rw [to_v1 hP hp hpn]
      unfold rdcF elimF
      rw [if_neg (fun h=>h.2 rfl),ht];grind
    · have hsw:∀k,swapF f p S.t i k=f i k:=fun k=>by unfold swapF;rw [if_neg (by omega),if_neg e]
      unfold rdcF elimF
      rw [if_pos ⟨by omega,e⟩,ht,to_v hP hp hpn (by omega)]
      unfold divA
      rw [if_neg e,if_neg e,hsw,hsw,h.b i k (by omega),h.b i c (by omega)];grind
  · unfold rdcF elimF
    rw [if_neg (by omega)]
    unfold divA
    rw [if_neg (by omega)]
    unfold swapF
    rw [if_neg (by omega),if_neg (by omega),h.o i k hi]
end
noncomputable def detI (B:Fi) (n:Nat):Int:=(detB B n).num
structure BEnd (B:Fi) (n s:Nat) (hs:List Int) (l:Int) (o:Bool):Prop where
  t:hs.length=(elA B n n).t
  o:o=(elA B n n).o
  ll:(l:Rat)=gsD (qG (elA B n n).H) (elA B n n).t
  lz:Sz (mB s n) l
theorem int_num {z:Int} {q:Rat} (h:(z:Rat)=q):q.num=z:=by rw [←h];exact Rat.num_intCast z
theorem bend_lt {B:Fi} {n s:Nat} {hs:List Int} {l:Int} {o:Bool} (h:BEnd B n s hs l o) (hl:hs.length<n):detI B n=0:=by
  unfold detI detB
  rw [if_neg (by rw [←h.t];omega)];rfl
theorem bend_o {B:Fi} {n s:Nat} {hs:List Int} {l:Int} (h:BEnd B n s hs l true) (hl:¬hs.length<n):detI B n = -l:=by
  have ht:(elA B n n).t=n:=by have:=(elA_P B n n).tn;rw [←h.t] at *;omega
  have h2:=h.ll
  rw [ht] at h2
  unfold detI detB
  rw [if_pos ht,←h.o,if_pos rfl]
  exact int_num (by rw [←h2,Rat.intCast_neg])
theorem bend_e {B:Fi} {n s:Nat} {hs:List Int} {l:Int} (h:BEnd B n s hs l false) (hl:¬hs.length<n):detI B n=l:=by
  have ht:(elA B n n).t=n:=by have:=(elA_P B n n).tn;rw [←h.t] at *;omega
  have h2:=h.ll
  rw [ht] at h2
  unfold detI detB
  rw [if_pos ht,←h.o,if_neg (by decide)]
  exact int_num h2
structure FDet (B:Fi) (n c:Nat) (d:Rat):Prop where
  y:(elA B n c).t=c→d=if (elA B n c).o then -gsD (qG (elA B n c).H) c else gsD (qG (elA B n c).H) c
  n:(elA B n c).t≠c→d=0
theorem fdet_0 (B:Fi) (n:Nat):FDet B n 0 1:=⟨fun _=>rfl,fun h=>absurd rfl h⟩
theorem FDet.skip {B:Fi} {n c:Nat} {d:Rat} (h:FDet B n c d) (hx:(elA B n c).nx n c=elA B n c):FDet B n (c+1) 0:=by
  have e:elA B n (c+1)=elA B n c:=hx
  have:=(elA_P B n c).tc
  exact ⟨fun h=>by rw [e] at h;omega,fun _=>rfl⟩
theorem FDet.to {B:Fi} {n c p:Nat} {d:Rat} (h:FDet B n c d) (hp:(elA B n c).t≤p) (hx:(elA B n c).nx n c=(elA B n c).to c p):FDet B n (c+1) (sgD d p (elA B n c).t*(elA B n c).e p c):=by
  have e:elA B n (c+1)=(elA B n c).to c p:=hx
  have e2:(elA B n (c+1)).t=(elA B n c).t+1:=by rw [e];rfl
  refine ⟨fun ht=>?_,fun ht=>?_⟩
  · have htc:(elA B n c).t=c:=by omega
    have hd:=h.y htc
    have h1:=to_D1 (S:=elA B n c) (c:=c) hp
    have h2:gsD (qG (elA B n (c+1)).H) (c+1)=gsD (qG (elA B n c).H) c*(elA B n c).e p c:=by
      rw [e]
      have:((elA B n c).to c p).t=c+1:=by show (elA B n c).t+1=c+1;omega
      rw [this,htc] at h1
      exact h1
    rw [h2]
    have ho:(elA B n (c+1)).o=if p=(elA B n c).t then (elA B n c).o else !(elA B n c).o:=by rw [e];rfl
    rw [ho]
    unfold sgD
    by_cases ep:p=(elA B n c).t
    · rw [if_pos ep,if_pos ep,hd]
      split <;> grind
    · rw [if_neg ep,if_neg ep,hd]
      cases (elA B n c).o <;> simp <;> grind
  · have:=h.n (by omega)
    rw [this]
    unfold sgD;split <;> grind
theorem fdet_end {B:Fi} {n:Nat} {d:Rat} (h:FDet B n n d):(rq d).1=detI B n:=by
  have e:d=detB B n:=by
    unfold detB
    by_cases ht:(elA B n n).t=n
    · rw [if_pos ht];exact h.y ht
    · rw [if_neg ht];exact h.n ht
  rw [e];rfl
theorem FDet.z {B:Fi} {n c s:Nat} {d:Rat} (h:FDet B n c d) (hz:∀i j,Sz s (B i j)) (hn:n≤126):RZ (mB s n) d:=by
  have hP:=elA_P B n c
  by_cases ht:(elA B n c).t=c
  · obtain ⟨z,h1,h2,_⟩:=gsD_Sz (hP.sz hz) (t:=(elA B n c).t) (by have:=hP.tn;omega) hP.p
    have h3:RZ (mB s n) (gsD (qG (elA B n c).H) c):=by
      rw [ht] at h1
      rw [h1]
      exact RZ.int (n:=(n+1)*(s+7)) (h2.up (mB_le hP.tn))
    rw [h.y ht]
    split
    · exact h3.neg
    · exact h3
  · rw [h.n ht]
    exact RZ.int (n:=(n+1)*(s+7)) (z:=0) (Sz.zero _)
theorem detI_Sz {B:Fi} {n s:Nat} (hz:∀i j,Sz s (B i j)) (hn:n≤126):Sz (mB s n) (detI B n):=by
  have:FDet B n n (detB B n):=by
    refine ⟨fun ht=>?_,fun ht=>?_⟩
    · unfold detB;rw [if_pos ht]
    · unfold detB;rw [if_neg ht]
  exact (this.z hz hn).a
abbrev LM:=List (List Int)
noncomputable def qz (a U:LM) (k j:Nat):LM:=if nearQ (frM (fL a U) k j)=0 then U else rowU U k j (-(nearQ (frM (fL a U) k j)))
noncomputable def qzs (a:LM) (k:Nat):Nat→LM→LM
  | 0,U=>U
  | c+1,U=>qzs a k c (qz a U k c)
noncomputable def qst (a:LM) (s:LM×Nat):LM×Nat:=if a.length≤s.2 then s else if lov (fL a (qzs a s.2 s.2 s.1)) s.2 then (qzs a s.2 s.2 s.1,s.2+1) else (swpU (qzs a s.2 s.2 s.1) (s.2-1),max (s.2-1) 1)
noncomputable def qit (a:LM):Nat→LM×Nat
  | 0=>(unitV a.length,1)
  | s+1=>qst a (qit a s)
def QR (a U:LM) (k:Nat):Prop:=∃s,qit a s=(U,k)
section
variable {a U V:LM} {k c:Nat}
theorem QR.start (a:LM):QR a (unitV a.length) 1:=⟨0,rfl⟩
theorem QR.yes (h:QR a U k) (hk:k<a.length) (hV:V=qzs a k k U) (hl:lov (fL a V) k):QR a V (k+1):=by
  obtain ⟨s,hs⟩:=h
  refine ⟨s+1,?_⟩
  show qst a (qit a s)=_
  rw [hs]
  unfold qst
  rw [if_neg (show ¬a.length≤k by omega),←hV,if_pos hl]
theorem QR.no (h:QR a U k) (hk:k<a.length) (hV:V=qzs a k k U) (hl:¬lov (fL a V) k):QR a (swpU V (k-1)) (max (k-1) 1):=by
  obtain ⟨s,hs⟩:=h
  refine ⟨s+1,?_⟩
  show qst a (qit a s)=_
  rw [hs]
  unfold qst
  rw [if_neg (show ¬a.length≤k by omega),←hV,if_neg hl]
theorem qz_0 (h:nearQ (frM (fL a U) k c)=0):qz a U k c=U:=if_pos h
theorem qz_1 (h:nearQ (frM (fL a U) k c)≠0):qz a U k c=rowU U k c (-(nearQ (frM (fL a U) k c))):=if_neg h
theorem qzs_0 (hc:0<c) (h:nearQ (frM (fL a U) k (c-1))=0):qzs a k (c-1) U=qzs a k c U:=by
  obtain ⟨d,rfl⟩:∃d,c=d+1:=⟨c-1,by omega⟩
  have h:nearQ (frM (fL a U) k d)=0:=h
  show qzs a k d U=qzs a k d (qz a U k d)
  rw [qz_0 h]
theorem qzs_1 (hc:0<c) (h:nearQ (frM (fL a U) k (c-1))≠0):qzs a k (c-1) (rowU U k (c-1) (-(nearQ (frM (fL a U) k (c-1)))))=qzs a k c U:=by
  obtain ⟨d,rfl⟩:∃d,c=d+1:=⟨c-1,by omega⟩
  have h:nearQ (frM (fL a U) k d)≠0:=h
  show qzs a k d _=qzs a k d (qz a U k d)
  rw [qz_1 h];rfl
theorem qit_stay (a:LM) {s:Nat} (h:a.length≤(qit a s).2):∀t,qit a (s+t)=qit a s
  | 0=>rfl
  | t+1=>by
    show qst a (qit a (s+t))=_
    rw [qit_stay a h t]
    unfold qst;rw [if_pos h]
theorem QR.one (h:QR a U a.length) (h2:QR a V a.length):U=V:=by
  obtain ⟨s,hs⟩:=h
  obtain ⟨t,ht⟩:=h2
  have e1:=qit_stay a (s:=s) (by rw [hs];exact Nat.le_refl _) t
  have e2:=qit_stay a (s:=t) (by rw [ht];exact Nat.le_refl _) s
  rw [Nat.add_comm t s,e1,hs,ht] at e2
  exact (Prod.mk.inj e2).1
end
section
variable {n:Nat} {F:Fi}
theorem matF_tab {i j:Nat} (hi:i<n) (hj:j<n):matF (tabZ n F) i j=F i j:=by
  show ((tabZ n F).getD i []).getD j 0=_
  rw [List.getD_eq_getElem?_getD,tabZ_at (F i j) hi hj rfl];rfl
theorem tab_sq (n:Nat) (F:Fi):∀i,i<(tabZ n F).length→((tabZ n F).getD i []).length=(tabZ n F).length:=fun i hi=>by
  rw [tabZ_len] at hi ⊢
  exact tabZ_rlen hi
theorem tab_sym (hs:SymG F):SymG (matF (tabZ n F)):=matF_sym (tab_sq n F) fun i hi j hj=>by
  rw [tabZ_len] at hi
  rw [matF_tab hi (by omega),matF_tab (by omega) hi];exact hs i j
theorem tab_in:∀i j,i<n→j<n→F i j=matF (tabZ n F) i j:=fun i j hi hj=>(matF_tab hi hj).symm
theorem tab_pos (hp:PosU F n):PosU (matF (tabZ n F)) n:=fun l hl=>by
  rw [←(uE_congr (tab_in (F:=F)) l l l (by omega) hl hl).1];exact hp l hl
theorem tab_gDs:gDs (matF (tabZ n F)) n=gDs F n:=List.map_congr_left fun k hk=>by
  have:=List.mem_range.1 hk
  exact (uD_congr (tab_in (F:=F)) (by omega)).symm
theorem tab_gLs:gLs (matF (tabZ n F)) n=gLs F n:=List.map_congr_left fun i hi=>List.map_congr_left fun j hj=>by
  have h1:=List.mem_range.1 hi
  have h2:=List.mem_range.1 hj
  exact ((uE_congr (tab_in (F:=F)) j i j (by omega) h1 (by omega)).1).symm
theorem tab_Sz {s:Nat} (h:∀i j,i<n→j<n→Sz s (F i j)):SzM s (tabZ n F):=fun i j=>by
  by_cases e:i<n∧j<n
  · have:=matF_tab (F:=F) e.1 e.2
    unfold matF at this
    rw [this];exact h i j e.1 e.2
  · have:=matF_out (tab_sq n F) (i:=i) (j:=j) (by rw [tabZ_len];exact e)
    unfold matF at this
    rw [this];exact Sz.zero _
end
section
variable {a U:LM}
theorem dot_fL (ha:CU a.length a) (hU:CU a.length U) {i k:Nat} (hi:i<a.length) (hk:k<a.length):dotV (combV (U.getD i []) a) (U.getD k [])=fL a U i k:=by
  have h0:=ha.row 0 (by omega)
  have hl:(combV (U.getD i []) a).length=a.length:=by rw [combV_len,h0]
  unfold fL fU
  show dotN _ _ (combV (U.getD i []) a).length=_
  rw [dotN_sum,hl]
  refine sumN_congr fun l hl=>?_
  rw [combV_get (by rw [h0];exact hl),combN_sum];rfl
theorem fL_Sz {B:Nat} (ha:CU a.length a) (hU:CU a.length U) (za:SzM 256 a) (zU:∀x,SzL B (U.getD x [])) (hl:a.length≤12) {i k:Nat} (hi:i<a.length) (hk:k<a.length):Sz (B+B+300) (fL a U i k):=by
  rw [←dot_fL ha hU hi hk]
  have h0:=ha.row 0 (by omega)
  have h1:SzL (B+256+a.length) (combV (U.getD i []) a):=combV_Sz (zU i) za
  have h2:=dotN_Sz h1 (zU k) (combV (U.getD i []) a).length
  have h3:(combV (U.getD i []) a).length=a.length:=by rw [combV_len,h0]
  exact Sz.up h2 (by omega)
end
theorem uE_mB {G:Fi} {s K:Nat} (hs:SymG G) (hz:∀i j,Sz s (G i j)) (hp:PosU G K) (hK:K≤126) {k i j:Nat} (hk:k≤K) (hi:k≤i) (hj:k≤j):Sz (mB s k) (uE G k i j):=by
  have h:=ugs hs k (hp.le hk)
  obtain ⟨z,h1,h2⟩:=gm_Sz hz (t:=k) (by omega) h.p hi hj
  have e:((uE G k i j:Int):Rat)=(z:Rat):=by rw [h.e i j hi hj,h1]
  have e2:uE G k i j=z:=by exact_mod_cast e
  rw [e2];exact h2
def sqU (a u:LM):Prop:=shE u=0∧shN u=(a.length:Int)∧shM u=(a.length:Int)
noncomputable def chE (a u:LM):Int:=open Classical in if quadE a≠0 then quadE a else if sqU a u then (if (detI (matF u) u.length).natAbs=1 then 0 else 1) else 8
noncomputable def chM (a u:LM):LM:=open Classical in if chE a u=0 then chgV a u else []
section
variable {a u:LM}
theorem sqU_rect (h:shE u=0):rect u=true:=by
  unfold shE at h
  split at h
  · assumption
  · exact absurd h (by decide)
theorem sqU_CU (h:sqU a u):CU a.length u:=by
  have hr:=sqU_rect h.1
  have h2:=h.2.1
  have h3:=h.2.2
  unfold shN at h2
  unfold shM at h3
  rw [if_pos hr] at h2 h3
  have hl:u.length=a.length:=by omega
  exact ⟨hl,fun x hx=>by rw [rectL hr x (by omega)];omega⟩
theorem sqU_of (h:CU a.length u) (h0:0<a.length):sqU a u:=by
  obtain ⟨h1,h2,h3⟩:=h.sh h0
  exact ⟨h3,h1,h2⟩
theorem chE_q (h:quadE a≠0):chE a u=quadE a∧chM a u=[]:=by
  have e:chE a u=quadE a:=by unfold chE;rw [if_pos h]
  exact ⟨e,by unfold chM;rw [e,if_neg h]⟩
theorem chE_8 (h:quadE a=0) (hs:¬sqU a u):chE a u=8∧chM a u=[]:=by
  have e:chE a u=8:=by unfold chE;rw [if_neg (fun x=>x h),if_neg hs]
  exact ⟨e,by unfold chM;rw [e,if_neg (by decide)]⟩
abbrev dW:=@chE_8
theorem chE_1 (h:quadE a=0) (hs:sqU a u) (hd:¬(detI (matF u) u.length).natAbs=1):chE a u=1∧chM a u=[]:=by
  have e:chE a u=1:=by unfold chE;rw [if_neg (fun x=>x h),if_pos hs,if_neg hd]
  exact ⟨e,by unfold chM;rw [e,if_neg (by decide)]⟩
theorem chE_0 (h:quadE a=0) (hs:sqU a u) (hd:(detI (matF u) u.length).natAbs=1):chE a u=0∧chM a u=chgV a u:=by
  have e:chE a u=0:=by unfold chE;rw [if_neg (fun x=>x h),if_pos hs,if_pos hd]
  exact ⟨e,by unfold chM;rw [e,if_pos rfl]⟩
end
theorem sgn_cmp1 {n:Nat}:((n:Int)-1).sign=0↔n=1:=by
  rw [Int.sign_eq_zero_iff_zero];omega
theorem nat_abs_Sz {s:Nat} {z:Int} (h:Sz s z):Sz s (z.natAbs:Int):=h
def chk6 (u:LM):Int:=if shE u≠0 then 8 else if 64<shN u∨64<shM u then 60 else 0
def e6 (u:LM):Int:=if chk6 u≠0 then chk6 u else if (u.length:Int)≠shM u then 8 else 0
noncomputable def d6 (u:LM):Int:=if e6 u=0 then detI (matF u) u.length else 0
section
variable {u:LM}
theorem chk_1 (h:shE u≠0):chk6 u=8:=if_pos h
theorem chk_2 (h:shE u=0) (h2:64<shN u∨64<shM u):chk6 u=60:=by unfold chk6;rw [if_neg (fun x=>x h),if_pos h2]
theorem chk_3 (h:shE u=0) (h2:¬(64<shN u∨64<shM u)):chk6 u=0:=by unfold chk6;rw [if_neg (fun x=>x h),if_neg h2]
theorem e6_1 (h:chk6 u≠0):e6 u=chk6 u:=if_pos h
theorem e6_3 (h:chk6 u=0) (h2:(u.length:Int)≠shM u):e6 u=8:=by unfold e6;rw [if_neg (fun x=>x h),if_pos h2]
theorem e6_ok (h:chk6 u=0) (h2:(u.length:Int)=shM u):e6 u=0:=by unfold e6;rw [if_neg (fun x=>x h),if_neg (fun x=>x h2)]
theorem d6_no (h:e6 u≠0):(0:Int)=d6 u:=by unfold d6;rw [if_neg h]
theorem d6_yes (h:e6 u=0):d6 u=detI (matF u) u.length:=if_pos h
theorem e6_CU (h:e6 u=0):CU u.length u∧u.length≤64:=by
  by_cases hc:chk6 u=0
  · by_cases hm:(u.length:Int)=shM u
    · have hE:shE u=0:=Classical.byContradiction fun x=>by rw [chk_1 x] at hc;exact absurd hc (by decide)
      have hb:¬(64<shN u∨64<shM u):=fun x=>by rw [chk_2 hE x] at hc;exact absurd hc (by decide)
      have hr:=sqU_rect hE
      have hN:shN u=(u.length:Int):=by unfold shN;rw [if_pos hr]
      have hM:shM u=((u.getD 0 []).length:Int):=by unfold shM;rw [if_pos hr]
      exact ⟨⟨rfl,fun x hx=>by rw [rectL hr x hx];omega⟩,by omega⟩
    · rw [e6_3 hc hm] at h;exact absurd h (by decide)
  · rw [e6_1 hc] at h;exact absurd h hc
theorem e6_sq (h:CU u.length u) (h0:0<u.length) (h64:u.length≤64):e6 u=0:=by
  obtain ⟨h1,h2,h3⟩:=h.sh h0
  exact e6_ok (chk_3 h3 (by omega)) (by omega)
theorem d6_one (h:e6 u=0):decide ((((d6 u).natAbs:Int)-1).sign=0)=decide (e6 u=0∧(detI (matF u) u.length).natAbs=1):=by
  rw [d6_yes h]
  exact decide_eq_decide.2 ⟨fun x=>⟨h,sgn_cmp1.1 x⟩,fun x=>sgn_cmp1.2 x.2⟩
theorem d6_Sz (hz:SzM 33554432 u):Sz 2181038536 (d6 u):=by
  by_cases h:e6 u=0
  · rw [d6_yes h]
    have h64:=(e6_CU h).2
    exact (detI_Sz (fun i j=>matF_Sz hz i j) (by omega)).up (Nat.le_trans (mB_le (s:=33554432) h64) (by decide))
  · rw [←d6_no h];exact Sz.zero _
theorem d6_Sm (hz:SzM 33554432 u):Sm (d6 u):=(d6_Sz hz).sm (by decide)
theorem d6_Sm3 (hz:SzM 33554432 u):Sm (((d6 u).natAbs:Int)-1):=((nat_abs_Sz (d6_Sz hz)).sub (Sz.up (n:=1) (m:=2181038536) (show (1:Int).natAbs<2^1 by decide) (by decide))).sm (by decide)
end
theorem unit_1 {n i k:Nat} (h:i=k) (hk:k<n):((List.replicate n (0:Int)).set i 1)[k]?=some 1:=by subst h;simp [hk]
theorem unit_0 {n i k:Nat} (h:i≠k) (hk:k<n):((List.replicate n (0:Int)).set i 1)[k]?=some 0:=by
  rw [List.getElem?_set_ne h];simp [hk]
theorem made_app {a U:LM} (ha:CU a.length a) (hU:CU a.length U) {i k:Nat} (hi:i<a.length) (hk:k<a.length):(List.range k).map (fL a U i)++[dotV (combV (U.getD i []) a) (U.getD k [])]=(List.range (k+1)).map (fL a U i):=by
  rw [dot_fL ha hU hi hk,List.range_succ,List.map_append];rfl
theorem tab_fL {a U:LM} (ha:CU a.length a) (hU:CU a.length U):tabZ a.length (fL a U)=chgV a U:=by
  have hc:=CU_chg ha hU
  have h1:=tabZ_mat (a:=chgV a U) (by rw [hc.len];exact hc)
  rw [hc.len] at h1
  rw [←h1]
  exact tabZ_congr fun i k hi hk=>(matF_chg ha hU hi hk).symm
theorem times_minus (q:Int) (v:List Int):(v.map (fun x=>q*x)).map (fun x=>(-1)*x)=v.map (fun x=>-q*x):=by
  rw [List.map_map]
  apply List.map_congr_left
  intro x _
  show (-1)*(q*x) = -q*x
  rw [Int.neg_mul,Int.neg_mul,Int.one_mul]
theorem uD_of_E {G:Fi} {K B:Nat} (hE:∀k,k≤K→∀i j,k≤i→k≤j→Sz B (uE G k i j)) (hB:1≤B):∀k,k≤K→Sz B (uD G k)
  | 0,_=>Sz.up (n:=1) (show (1:Int).natAbs<2^1 by decide) hB
  | k+1,hk=>hE k (by omega) k k (Nat.le_refl k) (Nat.le_refl k)
theorem tabZ_get {n:Nat} {f:Fi} {i:Nat} (h:i<n):(tabZ n f)[i]?=some ((List.range n).map (f i)):=by simp [tabZ,h]
theorem rgZ_at {c k:Nat} {f:Nat→Int} (h:k<c):((List.range c).map f)[k]?=some (f k):=by simp [h]
theorem rgZ_len {c:Nat} {f:Nat→Int}:((List.range c).map f).length=c:=by simp
theorem tab_app (F:Fi) (n i:Nat):(List.range i).map (fun x=>(List.range n).map (F x))++[(List.range n).map (F i)]=(List.range (i+1)).map (fun x=>(List.range n).map (F x)):=by simp [List.range_succ]
end Fw
namespace Fw
open Go Go.Proofs
theorem c_quad_changeq (a:List (List Int)) (M Dm:Int) (N:Nat) (hq0:0<a.length) (ha:SzM 256 a) (hq:∀i,i<a.length→(a.getD i []).length=a.length) (hs:SymG (matF a)) (hl:a.length≤12) (hP:PosU (matF a) a.length) (hB:LB M Dm N) (hM:∀x,x<a.length→matF a x x≤M) (hD:∀l,l≤a.length→uD (matF a) l≤Dm):Con Tryz.prog 79 [kMZ.is a] [] (fun p Lo=>∃(U:List (List Int)),p=kMC.is U∧Lo=[]∧CU a.length U∧LL (matF a) a.length M Dm (fL a U) a.length a.length∧QR a U a.length):=by
 refine aK Tryz.func79 E E fun m w=>aR (i:=0) E bu fun hB0=>aR (i:=0) E dK fun hlc=>?_
 have hNn:=hB.n
 refine Cr<|Wa E<|Wr<|Wm E<|Ws (aA E U22)<|cF (Li:=[]) (L:=[]) .n fn142 (aq E (ag (y:=((a.length:Nat):Int)) (by rfl)) ax) (c_mat_Unit a.length (by assumption)) fun p_ Lo_ hp_=>?_
 obtain ⟨vU,rfl,rfl,hxU⟩:=hp_
 refine Wm E<|Ws (aH E E)<|Ws (aH E E)<|Wa E<|Wa E<|Wr<|Wm E<|Ws (f1 fn141 E (c_quad_data 256 a (by assumption) (by assumption) (by assumption) (by assumption) (by omega)))<|Wm E<|Ws (aH E E)<|Ws (aH E E)<|Ax (l:=kGso) (u:=gsoV (matF a) a.length) er E bi (fun _=>E) Lr fun b1=>Wa E<|Wn<|aa<|aa<|tb 0 E (y:=(gDs (fL a (unitV a.length)) a.length,gLs (fL a (unitV a.length)) a.length)) (by rw [fL_unit hq];exact (gso_yes hP).2)<|ah<|Wa E ?_
 refine Wn<|aw<|bX (fun (k:Nat) (U:List (List Int))=>0<k∧k≤a.length∧CU a.length U∧LL (matF a) a.length M Dm (fL a U) k k∧QR a U k) (fun (k:Nat) (U:List (List Int))=>[(0,kMZ.is a),(3,VP.ex vU),(5,VP.pt b1 0),(7,kN6.is (k:Int))]) (fun (k:Nat) (U:List (List Int))=>[OB.box b1 25 kGso (gDs (fL a U) a.length,gLs (fL a U) a.length),OB.row vU 23 kVC U]) (fun (k:Nat) (U:List (List Int))=>muL (fL a U) a.length k) 1 (unitV a.length) ⟨by omega,by omega,CU_unit _,by rw [fL_unit hq];exact LL.init hs hP hM hD hB,QR.start a⟩ (Z E (Z E (Z E (ao E (ag (y:=(1:Int)) (by rfl)) ai)))) (au _) ?_
 intro k U ⟨hk0,hk,hU,hK,hQ⟩
 refine aa<|Cr<|Wm E<|Wm E<|Ws (aA E U22)<|Ws (aS E E)<|Wn ?_
 refine aB E (fun h_t27=>?_)<|fun h_t27=>?_
 ·
  refine Ck<|aw<|aa<|Cr<|Wm E<|Ws (bq E E (c:=((k:Int)-1)) (ay (by omega)))<|Wa E<|Wn<|aw<|bX (fun (c:Nat) (V:List (List Int))=>c≤k∧CU a.length V∧LR (matF a) a.length M Dm (fL a V) k c∧sumD (fL a V) a.length=sumD (fL a U) a.length∧qzs a k c V=qzs a k k U) (fun (c:Nat) (V:List (List Int))=>[(0,kMZ.is a),(3,VP.ex vU),(5,VP.pt b1 0),(7,kN6.is (k:Int)),(8,kN6.is ((c:Int)-1))]) (fun (c:Nat) (V:List (List Int))=>[OB.box b1 25 kGso (gDs (fL a V) a.length,gLs (fL a V) a.length),OB.row vU 23 kVC V]) (fun (c:Nat) (V:List (List Int))=>c) k U ⟨Nat.le_refl _,hU,LL.start hK (by omega),E,E⟩ (af E E E E (Z E ai)) (au _) ?_
  intro c V ⟨hc,hV,hR,hS,hZ⟩
  refine aa<|Cr<|Wm E<|Ws (cR E E)<|Wn ?_
  refine aB E (fun h_t31=>?_)<|fun h_t31=>?_
  ·
   refine Ck<|aa<|aw<|aa ?_
   have hC:=hR.c
   have hdi:=hR.dia hB (show k<a.length by omega) hl
   have hDz:=sz_D hC hB
   have hLz:=sz_L hC hB hdi
   have hqz:=sz_q hC hB hdi (show c-1<k by omega) (by omega)
   have hUl:=sz_Ul hV (sz_U hs hP hl hB hM hD hdi)
   refine ah<|Ws (ae (p:=kGso.is (gDs (fL a V) a.length,gLs (fL a V) a.length)) E (ac 0 E) Li bi E)<|Wm E<|Wm E<|Ws (aF fn143 (aX E (aX E (aq E (ag (y:=(((c-1):Nat):Int)) (by omega)) ax))) (c_gso_Mu (fL a V) a.length (4*N+8) hq0 hl hC.p hDz (by omega) k (c-1) (by omega) (by omega) hC.s hLz))<|Wm E<|Ws (aH E E)<|Ws (aH E E)<|Ax (l:=kRC) (u:=rq (frM (fL a V) k (c-1))) bU E aL (fun _=>E) Lr fun b2=>Wa E<|Wr<|Ws (ae E (ac 0 E) Li aL E)<|Ws (f1 fn144 E (c_rat_Near (4*N+8) (frM (fL a V) k (c-1)) (RZ.of (uD_ne hC.p (by omega)) (frM_rmk hC.s hC.p (by omega) (by omega)) (hLz _ _ (by omega) (by omega)) (hDz _ (by omega))) (by omega)))<|Wm E<|Ws (aH E E)<|Ws (aH E E)<|Ax (l:=kC) (u:=nearQ (frM (fL a V) k (c-1))) aZ E ab (fun _=>E) Lr fun b3=>Wa E<|aj ?_
   refine bS<|aa<|Cr<|Ws (ae E (ac 0 E) Li ab E)<|Ws (aF dp (aq E (aJ (hqz.sm (by omega))) ax) (dk (nearQ (frM (fL a V) k (c-1)))))<|Ws (bR E E)<|Wn ?_
   refine aB E (fun h_t48=>?_)<|fun h_t48=>?_
   ·
    refine du<|cS<|dr<|bS<|ah<|Wm E<|Ws (bq E E (c:=(((c:Int)-1)-1)) (ay (by omega)))<|Wa E<|aj ?_
    exact bP (c-1) V (by omega) ⟨by omega,hV,hR.zero' (by omega) hc (by omega) (Int.sign_eq_zero_iff_zero.1 h_t48),hS,(by rw [qzs_0 (by omega) (Int.sign_eq_zero_iff_zero.1 h_t48)];exact hZ)⟩ (af E E E E (ao E (ag (y:=((((c-1):Nat):Int)-1)) (by omega)) ai))<|aW<|OS.skip<|OS.skip<|OS.keep<|OS.keep OS.nil
   ·
    refine Ck<|Cr<|Ws (ae E (ac 0 E) Li ab E)<|Ws (aF fn145 (aq E (aJ (hqz.sm (by omega))) ax) (ey (nearQ (frM (fL a V) k (c-1)))))<|aG .n (aD (l:=kC) (u:=-(nearQ (frM (fL a V) k (c-1)))) 0 E E E ab E Lr)<|Wr<|Ws (ae (p:=kGso.is (gDs (fL a V) a.length,gLs (fL a V) a.length)) E (ac 2 E) Li bi E)<|Wm E<|Wm E<|Ws (ae E (ac 0 E) Li ab E)<|Ws (aF fn146 (aX E (aX E (aq E (ag (y:=(((c-1):Nat):Int)) (by omega)) (aq E (aJ (hqz.neg.sm (by omega))) ax)))) (c_gso_AddRow (fL a V) a.length (4*N+8) hq0 hl hC.p hDz (by omega) k (c-1) (-(nearQ (frM (fL a V) k (c-1)))) (by omega) (by omega) hC.s hLz hqz.neg))<|Wm E<|Ws (aH E E)<|Ws (aH E E)<|aG .n (aD (l:=kGso) (u:=(gDs (rowI (fL a V) k (c-1) (-(nearQ (frM (fL a V) k (c-1))))) a.length,gLs (rowI (fL a V) k (c-1) (-(nearQ (frM (fL a V) k (c-1))))) a.length)) 2 E E E bi E Lr)<|Wn ?_
    refine ba (Γ:=[.fr (VP.ex vU),.fr (kN6.is (k:Int)),.fr (VP.ex vU),.fr (kN6.is (k:Int)),.fr (VP.pel vU (k*1)),.fr (kVC.is (V.getD k [])),.fr (kC.is (-(nearQ (frM (fL a V) k (c-1))))),.fr (VP.ex vU),.fr (kN6.is ((c:Int)-1)),.fr (VP.pel vU ((c-1)*1)),.fr (kVC.is (V.getD (c-1) [])),.fr (kVC.is ((V.getD (c-1) []).map (fun x=>(-(nearQ (frM (fL a V) k (c-1))))*x))),.fr (VP.tup [kVC.is (pairV (fun x y=>x+y) (V.getD k []) ((V.getD (c-1) []).map (fun x=>(-(nearQ (frM (fL a V) k (c-1))))*x))),kN6.is 0]),.fr (VP.tup [kVC.is (pairV (fun x y=>x+y) (V.getD k []) ((V.getD (c-1) []).map (fun x=>(-(nearQ (frM (fL a V) k (c-1))))*x))),kN6.is 0]),.fr (kVC.is (pairV (fun x y=>x+y) (V.getD k []) ((V.getD (c-1) []).map (fun x=>(-(nearQ (frM (fL a V) k (c-1))))*x)))),.lt (kN6.is 0),.fr (VP.pel vU (k*1))]) (om E E (om E E (om E E (om E E (J E (fun N=>aY (k:=kVC) (xs:=V) (n:=(k:Int)) k E E (mN N 3 E) U22 aE E (by rw [hV.len];omega)) (J E (fun N=>bd k E (mN N 3 E) Li E (y:=(V.getD k [])) (gd [] (by rw [hV.len];omega)) aE E) (J E (fun N=>ae E (mN N 0 E) Li ab E) (om E E (om E E (J E (fun N=>aY (k:=kVC) (xs:=V) (n:=((c:Int)-1)) (c-1) E E (mN N 3 E) U22 aE (by omega) (by rw [hV.len];omega)) (J E (fun N=>bd (c-1) E (mN N 3 E) Li E (y:=(V.getD (c-1) [])) (gd [] (by rw [hV.len];omega)) aE E) (J E (fun N=>aF fn148 (aq E (aJ (hqz.neg.sm (by omega))) (aq E (dS ((hUl _).sm (by omega))) ax)) (c_mat_Times (-(nearQ (frM (fL a V) k (c-1)))) (V.getD (c-1) []))) (J E (fun N=>aF fn147 (aq E (dS ((hUl _).sm (by omega))) (aq E (dS ((fi (hUl _) hqz.neg).sm (by omega))) ax)) (c_mat_Plus (V.getD k []) ((V.getD (c-1) []).map (fun x=>(-(nearQ (frM (fL a V) k (c-1))))*x)) (by rw [hV.row k (by omega),List.length_map,hV.row _ (by omega)]))) (om E E (J E (fun N=>aH E E) (oc (cV E .n (dv E E)) (J E (fun N=>aY (k:=kVC) (xs:=V) (n:=(k:Int)) k E E (mN N 3 E) U22 aE E (by rw [hV.len];omega)) oz)))))))))))))))))<|fun σ1=>?_
    refine aG .n (cd 3 k E E Li E (y0:=(V.getD k [])) (gd [] (by rw [hV.len];omega)) aE E Lr)<|aj<|Qb<|ah<|Wm E<|Ws (bq E E (c:=(((c:Int)-1)-1)) (ay (by omega)))<|Wa E<|aj<|tb 2 E (y:=(gDs (fL a (rowU V k (c-1) (-(nearQ (frM (fL a V) k (c-1)))))) a.length,gLs (fL a (rowU V k (c-1) (-(nearQ (frM (fL a V) k (c-1)))))) a.length)) (by rw [fL_row hV _ (by omega)]) ?_
    exact bP (c-1) (rowU V k (c-1) (-(nearQ (frM (fL a V) k (c-1))))) (by omega) ⟨by omega,CU_row hV _ (by omega),(by rw [fL_row hV _ (by omega)];exact hR.step' (by omega) hc (by omega)),(by rw [fL_row hV _ (by omega),sumD_row hC.s hC.p (by omega)];exact hS),(by rw [qzs_1 (by omega) (fun e=>h_t48 (Int.sign_eq_zero_iff_zero.2 e))];exact hZ)⟩ (af E E E E (ao E (ag (y:=((((c-1):Nat):Int)-1)) (by omega)) ai))<|aW<|OS.skip<|OS.skip<|OS.keep<|OS.keepLe (a9 (by rfl)) OS.nil
  ·
   refine Ex<|aa<|aa ?_
   have hK2:=(show LR (matF a) a.length M Dm (fL a V) k 0 by rw [show c=0 by omega] at hR;exact hR).fin (by omega) hl
   have hC:=hK2.c
   have hdi:=hK2.dia hB
   have hDz:=sz_D hC hB
   have hLz:=sz_L hC hB hdi
   have hV3:V=qzs a k k U:=by rw [show c=0 by omega] at hZ;exact hZ
   refine ah<|Ws (ae (p:=kGso.is (gDs (fL a V) a.length,gLs (fL a V) a.length)) E (ac 0 E) Li bi E)<|Wm E<|Ws (aF fn149 (aX E (aq E (ag (y:=((((k-1):Nat):Int)+1)) (by omega)) ax)) (c_quad_holds (fL a V) a.length (4*N+8) hq0 hl hC.p hDz (by omega) (k-1) (by omega) hC.s hLz (by omega)))<|Wn ?_
   refine aB E (fun h_t78=>?_)<|fun h_t78=>?_
   ·
    refine Cr<|Wm E<|Ws (aI E E (c:=((k:Int)+1)) (ay (by omega)))<|Wa E<|Wn<|du<|cS<|dr ?_
    exact bP (k+1) V (muL_yes hS (by omega)) ⟨by omega,by omega,hV,hK2.yes (by rw [show k=k-1+1 by omega];exact h_t78),hQ.yes (by omega) hV3 (by rw [show k=k-1+1 by omega];exact h_t78)⟩ (Z E (Z E (Z E (ao E (ag (y:=(((k+1):Nat):Int)) (by rfl)) ai))))<|au _
   ·
    refine Ck<|Cr<|Ws (ae (p:=kGso.is (gDs (fL a V) a.length,gLs (fL a V) a.length)) E (ac 0 E) Li bi E)<|Wm E<|Ws (aF fn150 (aX E (aq E (ag (y:=((((k-1):Nat):Int)+1)) (by omega)) ax)) (c_gso_Swap (fL a V) a.length (4*N+8) hq0 hl hC.p hDz (by omega) (k-1) (by omega) hC.s hLz))<|Wm E<|Ws (aH E E)<|Ws (aH E E)<|aG .n (aD (l:=kGso) (u:=(gDs (swpI (fL a V) (k-1)) a.length,gLs (swpI (fL a V) (k-1)) a.length)) 0 E E E bi E Lr)<|Wn<|aa ?_
    refine CW.draw (Γ:=[.fr (VP.ex vU),.fr (kN6.is (k:Int)),.lt (VP.ex vU),.lt (kN6.is (k:Int)),.lt (kN6.is ((k-1:Nat):Int)),.fr (VP.ex vU),.fr (kN6.is (k:Int)),.fr (kN6.is ((k-1:Nat):Int)),.fr (VP.pel vU ((k-1)*1)),.fr (kVC.is (V.getD (k-1) [])),.fr (VP.ex vU),.fr (kN6.is (k:Int)),.fr (VP.pel vU (k*1)),.fr (kVC.is (V.getD k [])),.fr (VP.pel vU (k*1))]) (lates:=[false,false,true,true,true,false,false,false,false,false,false,false,false,false,false]) (by kernel_rfl) (Chk.of E (by kernel_rfl) E) (fun _ _ _ _ _ h=>h) (fun q_ x_ h_=>?_)<|fun σ2=>?_
    ·
     match q_,h_ with
     | 0,h_=>cases h_;exact Ob.f rfl .n fun N=>(O.mv rfl)
     | 1,h_=>cases h_;exact Ob.f rfl .n fun N=>(O.mv rfl)
     | 2,h_=>cases h_;exact Ob.l rfl .n (OV.mv rfl)
     | 3,h_=>cases h_;exact Ob.l rfl .n (OV.mv rfl)
     | 4,h_=>cases h_;exact Ob.l rfl .n (OV.sub rfl rfl (c:=((k-1:Nat):Int)) (w64 (by omega)))
     | 5,h_=>cases h_;exact Ob.f rfl .n fun N=>(O.mv rfl)
     | 6,h_=>cases h_;exact Ob.f rfl .n fun N=>(O.mv rfl)
     | 7,h_=>cases h_;exact Ob.f rfl .n fun N=>(O.sub rfl rfl (c:=((k-1:Nat):Int)) (w64 (by omega)))
     | 8,h_=>cases h_;exact Ob.f rfl .n fun N=>(O.ixR (k:=kVC) (xs:=V) (n:=((k-1:Nat):Int)) (k-1) rfl rfl (mN N 1 rfl) U22 ty23 (by omega) (by rw [hV.len];omega))
     | 9,h_=>cases h_;exact Ob.f rfl .n fun N=>(O.ldR (k-1) rfl (mN N 1 rfl) Li rfl (y:=(V.getD (k-1) [])) (gd [] (by rw [hV.len];omega)) ty23 rfl)
     | 10,h_=>cases h_;exact Ob.f rfl .n fun N=>(O.mv rfl)
     | 11,h_=>cases h_;exact Ob.f rfl .n fun N=>(O.mv rfl)
     | 12,h_=>cases h_;exact Ob.f rfl .n fun N=>(O.ixR (k:=kVC) (xs:=V) (n:=(k:Int)) k rfl rfl (mN N 1 rfl) U22 ty23 rfl (by rw [hV.len];omega))
     | 13,h_=>cases h_;exact Ob.f rfl .n fun N=>(O.ldR k rfl (mN N 1 rfl) Li rfl (y:=(V.getD k [])) (gd [] (by rw [hV.len];omega)) ty23 rfl)
     | 14,h_=>cases h_;exact Ob.f rfl .n fun N=>(O.ixR (k:=kVC) (xs:=V) (n:=(k:Int)) k rfl rfl (mN N 1 rfl) U22 ty23 rfl (by rw [hV.len];omega))
     | n_+15,h_=>simp at h_
    refine aG .n (cd 1 k E E Li E (y0:=(V.getD k [])) (gd [] (by rw [hV.len];omega)) aE E Lr)<|Ws (aY (k:=kVC) (xs:=(V.set k (V.getD (k-1) []))) (n:=((k-1:Nat):Int)) (k-1) E E (ac 1 E) U22 aE (by omega) (by rw [List.length_set,hV.len];omega))<|aG .n (cd 1 (k-1) E E Li E (y0:=((V.set k (V.getD (k-1) [])).getD (k-1) [])) (gd [] (by rw [List.length_set,hV.len];omega)) aE E Lr)<|Wn<|ah<|Wm E<|Ws (bq E E (c:=((k:Int)-1)) (ay (by omega)))<|Ws (O.mx E E)<|Wa E<|aj<|dq<|tr 1 E (y:=(swpU V (k-1))) (by unfold swpU;rw [show k-1+1=k by omega])<|tb 0 E (y:=(gDs (fL a (swpU V (k-1))) a.length,gLs (fL a (swpU V (k-1))) a.length)) (by rw [fL_swp hV (by omega)]) ?_
    exact bP (max (k-1) 1) (swpU V (k-1)) (muL_no (fL_sum_no hV hK2 hk0 (by omega) h_t78 hS) _) ⟨by omega,by omega,CU_swp hV (by omega),(by rw [fL_swp hV (by omega)];exact hK2.no' hk0 (by omega) h_t78),hQ.no (by omega) hV3 (by rw [show k=k-1+1 by omega];exact h_t78)⟩ (Z E (Z E (Z E (ao E (ag (y:=(((max (k-1) 1):Nat):Int)) (by omega)) ai))))<|au _
 ·
  refine Ex<|Cr<|Wm E<|Wa E<|Wn<|am<|bJ 1 E (kp 0 E (.hit (i:=2) E (.hit (i:=3) E (kp 5 E (kp 7 E (kp 24 E (kp 25 E (kp 26 E (kp 27 E (.hit (i:=106) E .nil)))))))))) ?_
  exact ct (.inl E) E (ar E ak) (el (List.nil_sublist _)) ⟨U,E,E,⟨hU,by rw [show k=a.length by omega] at hK;exact hK,by rw [show k=a.length by omega] at hQ;exact hQ⟩⟩
theorem c_quad_Reduceq (a:List (List Int)):Con Tryz.prog 25 [kMZ.is a] [] (fun p Lo=>∃(R:List (List Int)) (U:List (List Int)),p=VP.tup [kMC.is R,kMC.is U,kN6.is (quadE a)]∧Lo=[]∧redP a R U∧(quadE a=0→QR a U a.length)):=by
 refine aK Tryz.func25 E E fun m w=>Cr<|Wa E<|Wa E<|Wa E<|Wn<|aa<|Cr<|Wm E<|Ws (f1 fn78 E (c_quad_Valid a))<|Wa E<|Wr<|Wm E<|Ws (bt E E)<|Wn ?_
 refine aB E (fun h_t10=>?_)<|fun h_t10=>?_
 ·
  refine Cr<|Wm E<|Wa E<|Wa E<|Wa E<|Wn<|am<|aQ ?_
  exact ct (.inl E) E (cz E (cL _) (cz E (cL _) (ar E ak))) (au _) ⟨[],[],E,E,⟨⟨fun _=>⟨E,E⟩,fun h=>absurd h h_t10⟩,fun h=>absurd h h_t10⟩⟩
 ·
  refine Ck<|aa ?_
  have hE0:quadE a=0:=by omega
  obtain ⟨hM,hP⟩:=quad_ok hE0
  obtain ⟨M,hMe,Dm,N,hB,hM1,hD1⟩:=red_LB hM hP
  have hNn:=hB.n
  refine ah<|Wm E<|cF (Li:=[]) (L:=[]) .n fn79 (aX E ax) (c_quad_changeq a M Dm N hM.n0 hM.z hM.q hM.s hM.n hP hB hM1 hD1) fun p_ Lo_ hp_=>?_
  obtain ⟨U,rfl,rfl,hxU⟩:=hp_
  refine Wa E<|Wn<|aa ?_
  have hRU:=redU_of hM hP hMe hB hM1 hD1 ⟨hxU.1,hxU.2.1⟩
  refine ah<|Wm E<|Wm E<|Ws (aF fn80 (aX E (aq E (dQ (by exact hRU.2.sm (by omega))) ax)) (c_quad_changed (4*N+264) a U (sqm_CU hM) hRU.1.u hM.n0 hM.n (hM.z.up (by omega)) (hRU.2.up (by omega)) (by omega)))<|Wm E<|Wa E<|Wa E<|Wa E<|Wn<|am ?_
  exact ct (.inl E) E (ar E (ar E (cz E (ag (y:=quadE a) (by omega)) ak))) (au _) ⟨(chgV a U),U,E,E,⟨⟨fun h=>absurd hE0 h,fun _=>⟨hRU.1,E⟩⟩,fun _=>hxU.2.2⟩⟩
set_option maxHeartbeats 4000000 in
theorem c_elim_bareissa (b:List (List Int)) (u:CU b.length b) (h0:0<b.length) (h12:b.length≤12) (hz:SzM 33554432 b):Con Tryz.prog 226 [kMZ.is b,kN6.is (b.length:Int)] [] (fun p Lo=>∃(hs:List Int) (l:Int) (o:Bool),p=VP.tup [VP.tt,(kSl kI64).is hs,kZ.is l,kBool.is o]∧Lo=[]∧BEnd (matF b) b.length 33554432 hs l o):=by
 refine aK Tryz.func226 E E fun m w=>?_
 have hzz:∀i j,Sz 33554432 (matF b i j):=fun i j=>matF_Sz hz i j
 have hn126:b.length≤126:=by omega
 have hmB:mB 33554432 b.length≤436207709:=by have:=mB_le (s:=33554432) h12;exact Nat.le_trans this (by decide)
 refine Cr<|Wa E<|Wa E<|a8 .n z29_Z fun b1=>Wa E<|Wn<|CW.scope<|Cr<|Wm E<|cF (Li:=[]) (L:=[OB.box b1 29 kZ 0]) .n fn259 (aX E ax) (c_elim_copied b (by assumption)) fun p_ Lo_ hp_=>?_
 obtain ⟨vW,vs,rfl,rfl,hvs0⟩:=hp_
 refine Wa E<|Wr<|Wa E<|Wr<|Ws (aF fn71 (aq E (cD (by omega)) ax) (d8 1))<|Ax (l:=kC) (u:=1) z29_Z E ab (fun _=>E) Lr fun b2=>Wa E<|Wn<|aa<|CW.label<|bS<|aa<|Cr<|Wm E<|Wm E ?_
 refine Wn<|aw<|ca 3 kI64<|bD (bI [1,0,2,3,4] (by decide) E)<|tf 3 E (y:=(tabZ b.length (matF b))) (tabZ_mat u).symm<|CW.loop7 (fun (c:Nat) (vh:Value) (hs:List Int) (vs:List Value) (w_:Fi) (l:Int) (tq:Nat)=>c≤b.length∧vs.length=b.length∧hs.length=tq∧tq=(elA (matF b) b.length c).t∧BW (matF b) b.length 33554432 c (elA (matF b) b.length c) w_ l) (fun (c:Nat) (vh:Value) (hs:List Int) (vs:List Value) (w_:Fi) (l:Int) (tq:Nat)=>[(1,kN6.is (b.length:Int)),(6,VP.pt b1 0),(8,VP.ex vW),(9,VP.ex vh),(10,VP.pt b2 0),(11,kBool.is ((elA (matF b) b.length c).o)),(21,kN6.is (b.length:Int)),(22,kN6.is (c:Int))]) (fun (c:Nat) (vh:Value) (hs:List Int) (vs:List Value) (w_:Fi) (l:Int) (tq:Nat)=>[OB.box b2 29 kZ l,OB.row vh 3 kI64 hs,OB.row vW 23 kVal vs,OB.fam vs 29 kZ (tabZ b.length w_),OB.box b1 29 kZ 0]) (fun (c:Nat) (vh:Value) (hs:List Int) (vs:List Value) (w_:Fi) (l:Int) (tq:Nat)=>b.length-c) 0 (.slice none 0 0) [] vs (matF b) 1 0 ⟨Nat.zero_le _,hvs0,E,E,bw_0 hzz⟩ (af E E E E (Z E (ao E (ag (y:=(elA (matF b) b.length 0).o) (by rfl)) (Z E (ao E (ag (y:=(0:Int)) (by rfl)) ai))))) (aW (OS.keepLe (eW (Sm_lit (by decide)) (by rfl)) (OS.keep (OS.keep (OS.keep (OS.keep OS.nil)))))) ?_
 intro c vh hs vs w_ l tq ⟨hc,hvs,hhs,htq,hB⟩
 refine aa ?_
 have hP:=elA_P (matF b) b.length c
 have hPt:=hP.tn
 refine ah<|Ws (aS E E)<|Wn<|aa ?_
 refine aB E (fun h_t23=>?_)<|fun h_t23=>?_
 ·
  refine Ck<|aa<|aw<|Cr<|Wm E<|Wa E<|Wr<|Wm E<|Ws (cZ E (ac 1 E) U155)<|tl 26 E (y:=(tq:Int)) (by rw [hhs])<|Wa E<|Wr<|Wm E<|Wa E<|Wn ?_
  refine aa<|aw<|bN (fun (p:Nat)=>tq≤p∧p≤b.length∧∀x,tq≤x→x<p→(elA (matF b) b.length c).e x c=0) (fun (p:Nat)=>[(1,kN6.is (b.length:Int)),(6,VP.pt b1 0),(8,VP.ex vW),(9,VP.ex vh),(10,VP.pt b2 0),(11,kBool.is ((elA (matF b) b.length c).o)),(12,kN6.is (c:Int)),(13,kN6.is (tq:Int)),(14,kN6.is (p:Int)),(21,kN6.is (b.length:Int)),(22,kN6.is (c:Int))]) (fun (p:Nat)=>[OB.box b2 29 kZ l,OB.row vh 3 kI64 hs,OB.row vW 23 kVal vs,OB.fam vs 29 kZ (tabZ b.length w_),OB.box b1 29 kZ 0]) (fun (p:Nat)=>b.length-p) tq ⟨Nat.le_refl _,by omega,fun x h1 h2=>absurd h2 (by omega)⟩ (af E E E E (af E E E E (Z E (Z E (Z E ai))))) (au _) ?_
  intro p ⟨hp,hpn,h0x⟩
  refine aa<|Cr<|Wm E<|Wm E<|Ws (cZ E (ac 2 E) U22)<|Ws (aS E E)<|Wm E ?_
  refine bV 32 E (fun h_t32=>?_)<|fun h_t32=>?_
  ·
   refine Wg E E (bj E)<|Wg E E (bj E)<|Wg E E (aY (k:=kVal) (xs:=vs) (n:=(p:Int)) p E E (ac 2 E) U22 aE E (by omega))<|Wg E E (aV (bd p E (ac 2 E) Li E (y:=(vs.getD p nilV)) (gd nilV (by omega)) aE E) (bm _))<|Wg E E (bj E)<|Wg E E (cm (e:=29) (k:=kZ) (xss:=(tabZ b.length w_)) (n:=(c:Int)) p c E E (ac 3 E) E (by omega) U23 ab E (by rw [tabZ_rlen (by omega)];omega))<|Wg E E (cO (k:=kZ) (xss:=(tabZ b.length w_)) p c E (ac 3 E) E (by omega) Li E (y:=(w_ p c)) (eG _ (by omega) (by omega) E) ab E)<|Wg E E (f1 dp E (dk (w_ p c)))<|Wg E E (bR E E)<|Ws (ch E E)<|Wn ?_
   refine aB E (fun h_t42=>?_)<|fun h_t42=>?_
   ·
    refine Ck<|aw<|ah<|Wm E<|Ws (aI E E (c:=((p:Int)+1)) (ay (by omega)))<|Wa E<|aj<|dq ?_
    exact bG (p+1) (by omega) ⟨by omega,by omega,fun x h1 h2=>if e:x=p then by rw [e];exact (hB.zero (by omega) (by omega) (by omega)).1 h_t42 else h0x x h1 (by omega)⟩ (af E E E E (af E E E E (ao E (ag (y:=(((p+1):Nat):Int)) (by rfl)) (Z E (Z E ai)))))<|au _
   ·
    refine Ex<|aa<|Cr<|Wm E<|Wm E<|Ws (cZ E (ac 2 E) U22)<|Ws (bR E E)<|Wn ?_
    refine CN E (by omega) fun h_t48=>?_
    refine Ck ?_
    refine CW.cut (fun (us:List Value)=>us.length=b.length) (fun (us:List Value)=>[(1,kN6.is (b.length:Int)),(6,VP.pt b1 0),(8,VP.ex vW),(9,VP.ex vh),(10,VP.pt b2 0),(11,kBool.is (if p=tq then (elA (matF b) b.length c).o else !(elA (matF b) b.length c).o)),(12,kN6.is (c:Int)),(13,kN6.is (tq:Int)),(21,kN6.is (b.length:Int)),(22,kN6.is (c:Int))]) (fun (us:List Value)=>[OB.box b2 29 kZ l,OB.row vh 3 kI64 hs,OB.row vW 23 kVal us,OB.fam us 29 kZ (tabZ b.length (swR w_ tq p)),OB.box b1 29 kZ 0]) ?_ ?_
    ·
     refine Cr<|Wm E<|Wm E<|Ws (bt E E)<|Wn ?_
     refine aB E (fun h_t51=>?_)<|fun h_t51=>?_
     ·
      refine aa ?_
      refine ba (Γ:=[.fr (VP.ex vW),.fr (kN6.is (p:Int)),.lt (VP.ex vW),.lt (kN6.is (tq:Int)),.fr (VP.ex vW),.fr (kN6.is (tq:Int)),.fr (VP.pel vW (tq*1)),.fr (VP.ex (vs.getD tq nilV)),.fr (VP.ex vW),.fr (kN6.is (p:Int)),.fr (VP.pel vW (p*1)),.fr (VP.ex (vs.getD p nilV)),.fr (VP.pel vW (p*1))]) (om E E (om E E (oc (cV E .n (cY E)) (oc (cV E .n (cY E)) (om E E (om E E (J E (fun N=>aY (k:=kVal) (xs:=vs) (n:=(tq:Int)) tq E E (mN N 2 E) U22 aE E (by omega)) (J E (fun N=>aV (bd tq E (mN N 2 E) Li E (y:=(vs.getD tq nilV)) (gd nilV (by omega)) aE E) (bm _)) (om E E (om E E (J E (fun N=>aY (k:=kVal) (xs:=vs) (n:=(p:Int)) p E E (mN N 2 E) U22 aE E (by omega)) (J E (fun N=>aV (bd p E (mN N 2 E) Li E (y:=(vs.getD p nilV)) (gd nilV (by omega)) aE E) (bm _)) (J E (fun N=>aY (k:=kVal) (xs:=vs) (n:=(p:Int)) p E E (mN N 2 E) U22 aE E (by omega)) oz)))))))))))))<|fun σ1=>?_
      refine eA 3 tq E (by omega) fun hcell_=>aG .n (cd 2 p E E Li E (y0:=(vs.getD p nilV)) (gd nilV (by omega)) aE E (bf (by assumption)))<|Ws (aY (k:=kVal) (xs:=(vs.set p (vs.getD tq nilV))) (n:=(tq:Int)) tq E E (ac 2 E) U22 aE E (by rw [List.length_set];omega))<|eA 3 p E (by omega) fun hcell_=>aG .n (cd 2 tq E E Li E (y0:=((vs.set p (vs.getD tq nilV)).getD tq nilV)) (gd nilV (by rw [List.length_set];omega)) aE E (bf (by assumption)))<|Wn<|bD (fam_swap 3 p tq E (by omega) (by omega) (by omega))<|tf 3 E (y:=(tabZ b.length (swR w_ tq p))) (tabZ_swR (by omega) (by omega))<|ah<|Wm E<|Ws (di E)<|Wa E<|aj<|tl 11 E (y:=(if p=tq then (elA (matF b) b.length c).o else !(elA (matF b) b.length c).o)) (by rw [if_neg (by omega)]) ?_
      exact ed ((vs.set p (vs.getD tq nilV)).set tq (vs.getD p nilV)) (by simp [hvs]) (af E E E E (af E E E E (Z E (Z E ai))))<|au _
     ·
      refine cc<|tf 3 E (y:=(tabZ b.length (swR w_ tq p))) (by rw [show p=tq by omega,swR_self])<|tl 11 E (y:=(if p=tq then (elA (matF b) b.length c).o else !(elA (matF b) b.length c).o)) (by rw [if_pos (by omega)]) ?_
      exact ed vs (by simp [hvs]) (af E E E E (af E E E E (Z E (Z E ai))))<|au _
    intro us hus
    have hne:(elA (matF b) b.length c).e p c≠0:=fun e=>h_t42 ((hB.zero (by omega) (by omega) (by omega)).2 e)
    have hN:elA (matF b) b.length (c+1)=(elA (matF b) b.length c).to c p:=nx_to hP (by omega) (by omega) (fun x h1 h2=>h0x x (by omega) h2) hne
    have hWz:∀x k,x<b.length→k<b.length→Sz (mB 33554432 b.length) ((swR w_ tq p) x k):=fun x k hx hk=>hB.z _ _ (rowS_n (by omega) (by omega) hx) hk
    have hNew:∀i k,tq<i→i<b.length→c≤k→k<b.length→Sz (mB 33554432 b.length) (((swR w_ tq p) tq c*(swR w_ tq p) i k-(swR w_ tq p) i c*(swR w_ tq p) tq k).fdiv l):=fun i k h1 h2 h3 h4=>by rw [htq];exact (hB.new hP hzz hn126 (by omega) (by omega) hne (by omega) h2 h3 h4).2
    refine aa<|Cr<|Wm E<|Ws (aI E E (c:=((tq:Int)+1)) (ay (by omega)))<|Wa E<|Wn<|aw<|tf 3 E (y:=(tabZ b.length (bW (swR w_ tq p) tq c l (tq+1) b.length))) bW_0.symm<|bN (fun (i:Nat)=>tq<i∧i≤b.length) (fun (i:Nat)=>[(1,kN6.is (b.length:Int)),(6,VP.pt b1 0),(8,VP.ex vW),(9,VP.ex vh),(10,VP.pt b2 0),(11,kBool.is (if p=tq then (elA (matF b) b.length c).o else !(elA (matF b) b.length c).o)),(12,kN6.is (c:Int)),(13,kN6.is (tq:Int)),(15,kN6.is (i:Int)),(21,kN6.is (b.length:Int)),(22,kN6.is (c:Int))]) (fun (i:Nat)=>[OB.box b2 29 kZ l,OB.row vh 3 kI64 hs,OB.row vW 23 kVal us,OB.fam us 29 kZ (tabZ b.length (bW (swR w_ tq p) tq c l i b.length)),OB.box b1 29 kZ 0]) (fun (i:Nat)=>b.length-i) (tq+1) ⟨by omega,by omega⟩ (af E E E E (af E E E E (ao E (ag (y:=(((tq+1):Nat):Int)) (by rfl)) (Z E (Z E ai))))) (au _) ?_
    intro i ⟨hci,hi⟩
    refine aa<|Cr<|Wm E<|Wm E<|Ws (cZ E (ac 2 E) U22)<|Ws (aS E E)<|Wn ?_
    refine aB E (fun h_t73=>?_)<|fun h_t73=>?_
    ·
     refine Ck<|aa<|aw<|Cr<|Wm E<|Wm E<|Ws (aY (k:=kVal) (xs:=us) (n:=(i:Int)) i E E (ac 2 E) U22 aE E (by omega))<|Ws (aV (bd i E (ac 2 E) Li E (y:=(us.getD i nilV)) (gd nilV (by omega)) aE E) (bm _))<|Ws (O.lenF i E (ac 3 E) E (by omega) U23)<|tl 80 E (y:=(b.length:Int)) (by rw [tabZ_rlen (by omega)])<|Ws (bq E E (c:=((b.length:Int)-1)) (ay (by omega)))<|Wa E<|Wn<|aw<|bN (fun (q:Nat)=>c≤q∧q≤b.length) (fun (q:Nat)=>[(1,kN6.is (b.length:Int)),(6,VP.pt b1 0),(8,VP.ex vW),(9,VP.ex vh),(10,VP.pt b2 0),(11,kBool.is (if p=tq then (elA (matF b) b.length c).o else !(elA (matF b) b.length c).o)),(12,kN6.is (c:Int)),(13,kN6.is (tq:Int)),(15,kN6.is (i:Int)),(16,kN6.is ((q:Int)-1)),(21,kN6.is (b.length:Int)),(22,kN6.is (c:Int))]) (fun (q:Nat)=>[OB.box b2 29 kZ l,OB.row vh 3 kI64 hs,OB.row vW 23 kVal us,OB.fam us 29 kZ (tabZ b.length (bW (swR w_ tq p) tq c l i q)),OB.box b1 29 kZ 0]) (fun (q:Nat)=>q) b.length ⟨by omega,Nat.le_refl _⟩ (af E E E E (af E E E E (Z E (ao E (ag (y:=(((b.length:Nat):Int)-1)) (by rfl)) (Z E (Z E ai)))))) (au _) ?_
     intro q ⟨hcq,hqn⟩
     refine aa<|Cr<|Wm E<|Wm E<|Ws (cR E E)<|Wn ?_
     refine aB E (fun h_t84=>?_)<|fun h_t84=>?_
     ·
      refine Ck<|aa<|aw<|aa ?_
      refine ba (Γ:=[.fr (VP.ex vW),.fr (kN6.is (tq:Int)),.fr (VP.pel vW (tq*1)),.fr (VP.ex (us.getD tq nilV)),.fr (kN6.is (c:Int)),.fr (VP.pel (us.getD tq nilV) (c*2)),.fr (kZ.is ((swR w_ tq p) tq c)),.fr (VP.ex vW),.fr (kN6.is (i:Int)),.fr (VP.pel vW (i*1)),.fr (VP.ex (us.getD i nilV)),.fr (kN6.is ((q:Int)-1)),.fr (VP.pel (us.getD i nilV) ((q-1)*2)),.fr (kZ.is ((swR w_ tq p) i (q-1))),.fr (kC.is (((swR w_ tq p) tq c)*((swR w_ tq p) i (q-1)))),.fr (VP.ex vW),.fr (kN6.is (i:Int)),.fr (VP.pel vW (i*1)),.fr (VP.ex (us.getD i nilV)),.fr (kN6.is (c:Int)),.fr (VP.pel (us.getD i nilV) (c*2)),.fr (kZ.is ((swR w_ tq p) i c)),.fr (VP.ex vW),.fr (kN6.is (tq:Int)),.fr (VP.pel vW (tq*1)),.fr (VP.ex (us.getD tq nilV)),.fr (kN6.is ((q:Int)-1)),.fr (VP.pel (us.getD tq nilV) ((q-1)*2)),.fr (kZ.is ((swR w_ tq p) tq (q-1))),.fr (kC.is (((swR w_ tq p) i c)*((swR w_ tq p) tq (q-1)))),.fr (kC.is ((((swR w_ tq p) tq c)*((swR w_ tq p) i (q-1)))-(((swR w_ tq p) i c)*((swR w_ tq p) tq (q-1))))),.al (fun b=>OB.box b 29 kC 0)]) (om E E (om E E (J E (fun N=>aY (k:=kVal) (xs:=us) (n:=(tq:Int)) tq E E (mN N 2 E) U22 aE E (by omega)) (J E (fun N=>aV (bd tq E (mN N 2 E) Li E (y:=(us.getD tq nilV)) (gd nilV (by omega)) aE E) (bm _)) (om E E (J E (fun N=>cm (e:=29) (k:=kZ) (xss:=(tabZ b.length (bW (swR w_ tq p) tq c l i q))) (n:=(c:Int)) tq c E E (mN N 3 E) E (by omega) U23 ab E (by rw [tabZ_rlen (by omega)];omega)) (J E (fun N=>cO (k:=kZ) (xss:=(tabZ b.length (bW (swR w_ tq p) tq c l i q))) tq c E (mN N 3 E) E (by omega) Li E (y:=((swR w_ tq p) tq c)) (eG _ (by omega) (by omega) bW_top) ab E) (om E E (om E E (J E (fun N=>aY (k:=kVal) (xs:=us) (n:=(i:Int)) i E E (mN N 2 E) U22 aE E (by omega)) (J E (fun N=>aV (bd i E (mN N 2 E) Li E (y:=(us.getD i nilV)) (gd nilV (by omega)) aE E) (bm _)) (om E E (J E (fun N=>cm (e:=29) (k:=kZ) (xss:=(tabZ b.length (bW (swR w_ tq p) tq c l i q))) (n:=((q:Int)-1)) i (q-1) E E (mN N 3 E) E (by omega) U23 ab (by omega) (by rw [tabZ_rlen (by omega)];omega)) (J E (fun N=>cO (k:=kZ) (xss:=(tabZ b.length (bW (swR w_ tq p) tq c l i q))) i (q-1) E (mN N 3 E) E (by omega) Li E (y:=((swR w_ tq p) i (q-1))) (eG _ (by omega) (by omega) (bW_now (by omega))) ab E) (J E (fun N=>f2 de E E (c8 ((swR w_ tq p) tq c) ((swR w_ tq p) i (q-1)))) (om E E (om E E (J E (fun N=>aY (k:=kVal) (xs:=us) (n:=(i:Int)) i E E (mN N 2 E) U22 aE E (by omega)) (J E (fun N=>aV (bd i E (mN N 2 E) Li E (y:=(us.getD i nilV)) (gd nilV (by omega)) aE E) (bm _)) (om E E (J E (fun N=>cm (e:=29) (k:=kZ) (xss:=(tabZ b.length (bW (swR w_ tq p) tq c l i q))) (n:=(c:Int)) i c E E (mN N 3 E) E (by omega) U23 ab E (by rw [tabZ_rlen (by omega)];omega)) (J E (fun N=>cO (k:=kZ) (xss:=(tabZ b.length (bW (swR w_ tq p) tq c l i q))) i c E (mN N 3 E) E (by omega) Li E (y:=((swR w_ tq p) i c)) (eG _ (by omega) (by omega) (bW_now (by omega))) ab E) (om E E (om E E (J E (fun N=>aY (k:=kVal) (xs:=us) (n:=(tq:Int)) tq E E (mN N 2 E) U22 aE E (by omega)) (J E (fun N=>aV (bd tq E (mN N 2 E) Li E (y:=(us.getD tq nilV)) (gd nilV (by omega)) aE E) (bm _)) (om E E (J E (fun N=>cm (e:=29) (k:=kZ) (xss:=(tabZ b.length (bW (swR w_ tq p) tq c l i q))) (n:=((q:Int)-1)) tq (q-1) E E (mN N 3 E) E (by omega) U23 ab (by omega) (by rw [tabZ_rlen (by omega)];omega)) (J E (fun N=>cO (k:=kZ) (xss:=(tabZ b.length (bW (swR w_ tq p) tq c l i q))) tq (q-1) E (mN N 3 E) E (by omega) Li E (y:=((swR w_ tq p) tq (q-1))) (eG _ (by omega) (by omega) bW_top) ab E) (J E (fun N=>f2 de E E (c8 ((swR w_ tq p) i c) ((swR w_ tq p) tq (q-1)))) (J E (fun N=>aF fn213 (aq E (aJ (((hWz _ _ (by omega) (by omega)).mul (hWz _ _ (by omega) (by omega))).sm (by omega))) (aq E (aJ (((hWz _ _ (by omega) (by omega)).mul (hWz _ _ (by omega) (by omega))).sm (by omega))) ax)) (ff (((swR w_ tq p) tq c)*((swR w_ tq p) i (q-1))) (((swR w_ tq p) i c)*((swR w_ tq p) tq (q-1))))) (oc (dA E aZ) oz))))))))))))))))))))))))))))))))<|fun σ2=>?_
      refine aG .n (aD (l:=kC) (u:=(((swR w_ tq p) tq c)*((swR w_ tq p) i (q-1)))-(((swR w_ tq p) i c)*((swR w_ tq p) tq (q-1)))) 0 E E E ab E Lr)<|Wn ?_
      refine ba (Γ:=[.fr (VP.ex vW),.fr (kN6.is (i:Int)),.fr (VP.pel vW (i*1)),.fr (VP.ex (us.getD i nilV)),.fr (kN6.is ((q:Int)-1)),.fr (kC.is ((((swR w_ tq p) tq c)*((swR w_ tq p) i (q-1)))-(((swR w_ tq p) i c)*((swR w_ tq p) tq (q-1))))),.fr (kZ.is l),.fr (VP.tup [kC.is (((((swR w_ tq p) tq c)*((swR w_ tq p) i (q-1)))-(((swR w_ tq p) i c)*((swR w_ tq p) tq (q-1)))).fdiv l),kC.is (if l=0 then 0 else ((((swR w_ tq p) tq c)*((swR w_ tq p) i (q-1)))-(((swR w_ tq p) i c)*((swR w_ tq p) tq (q-1)))).fmod l),kN6.is (if l=0 then 11 else 0)]),.fr (VP.tup [kC.is (((((swR w_ tq p) tq c)*((swR w_ tq p) i (q-1)))-(((swR w_ tq p) i c)*((swR w_ tq p) tq (q-1)))).fdiv l),kC.is (if l=0 then 0 else ((((swR w_ tq p) tq c)*((swR w_ tq p) i (q-1)))-(((swR w_ tq p) i c)*((swR w_ tq p) tq (q-1)))).fmod l),kN6.is (if l=0 then 11 else 0)]),.fr (kC.is (((((swR w_ tq p) tq c)*((swR w_ tq p) i (q-1)))-(((swR w_ tq p) i c)*((swR w_ tq p) tq (q-1)))).fdiv l)),.lt (kC.is (if l=0 then 0 else ((((swR w_ tq p) tq c)*((swR w_ tq p) i (q-1)))-(((swR w_ tq p) i c)*((swR w_ tq p) tq (q-1)))).fmod l)),.lt (kN6.is (if l=0 then 11 else 0)),.fr (VP.pel (us.getD i nilV) ((q-1)*2))]) (om E E (om E E (J E (fun N=>aY (k:=kVal) (xs:=us) (n:=(i:Int)) i E E (mN N 3 E) U22 aE E (by omega)) (J E (fun N=>aV (bd i E (mN N 3 E) Li E (y:=(us.getD i nilV)) (gd nilV (by omega)) aE E) (bm _)) (om E E (J E (fun N=>ae E (mN N 0 E) Li ab E) (J E (fun N=>ae E (mN N 1 E) Li ab E) (J E (fun N=>aF fn214 (aq E (aJ ((((hWz _ _ (by omega) (by omega)).mul (hWz _ _ (by omega) (by omega))).sub ((hWz _ _ (by omega) (by omega)).mul (hWz _ _ (by omega) (by omega)))).sm (by omega))) (aX E ax)) (et ((((swR w_ tq p) tq c)*((swR w_ tq p) i (q-1)))-(((swR w_ tq p) i c)*((swR w_ tq p) tq (q-1)))) l)) (om E E (J E (fun N=>aH E E) (oc (cV E .n (dv E E)) (oc (cV E .n (dv E E)) (J E (fun N=>cm (e:=29) (k:=kZ) (xss:=(tabZ b.length (bW (swR w_ tq p) tq c l i q))) (n:=((q:Int)-1)) i (q-1) E E (mN N 4 E) E (by omega) U23 ab (by omega) (by rw [tabZ_rlen (by omega)];omega)) oz)))))))))))))<|fun σ3=>?_
      refine aG .n (dX 4 i (q-1) E E E (by omega) Li E (y0:=(((tabZ b.length (bW (swR w_ tq p) tq c l i q)).getD i []).getD (q-1) 0)) (gd 0 (by rw [tabZ_rlen (by omega)];omega)) ab E (aJ ((hNew _ _ (by omega) (by omega) (by omega) (by omega)).sm (by omega))))<|aj<|Qb<|ah<|Wm E<|Ws (bq E E (c:=(((q:Int)-1)-1)) (ay (by omega)))<|Wa E<|aj<|tf 4 E (y:=(tabZ b.length (bW (swR w_ tq p) tq c l i (q-1)))) (by rw [tabZ_set _ (by omega) (by omega),bW_set (by omega) (by omega)]) ?_
      exact bG (q-1) (by omega) ⟨by omega,by omega⟩ (af E E E E (af E E E E (Z E (ao E (ag (y:=((((q-1):Nat):Int)-1)) (by omega)) (Z E (Z E ai))))))<|aW<|OS.skip<|OS.keep<|OS.keep<|OS.keep<|OS.keep<|OS.keep OS.nil
     ·
      refine du<|cS<|cS<|dr<|Qb<|ah<|Wm E<|Ws (aI E E (c:=((i:Int)+1)) (ay (by omega)))<|Wa E<|aj<|tf 3 E (y:=(tabZ b.length (bW (swR w_ tq p) tq c l (i+1) b.length))) (by rw [show q=c by omega];exact bW_row (by omega)) ?_
      exact bG (i+1) (by omega) ⟨by omega,by omega⟩ (af E E E E (af E E E E (ao E (ag (y:=(((i+1):Nat):Int)) (by rfl)) (Z E (Z E ai)))))<|au _
    ·
     refine Ex<|Cr<|Wm E<|Wm E<|Ws (aY (k:=kVal) (xs:=us) (n:=(tq:Int)) tq E E (ac 2 E) U22 aE E (by omega))<|Ws (aV (bd tq E (ac 2 E) Li E (y:=(us.getD tq nilV)) (gd nilV (by omega)) aE E) (bm _))<|Wm E<|Ws (cm (e:=29) (k:=kZ) (xss:=(tabZ b.length (bW (swR w_ tq p) tq c l i b.length))) (n:=(c:Int)) tq c E E (ac 3 E) E (by omega) U23 ab E (by rw [tabZ_rlen (by omega)];omega))<|Ws (cO (k:=kZ) (xss:=(tabZ b.length (bW (swR w_ tq p) tq c l i b.length))) tq c E (ac 3 E) E (by omega) Li E (y:=((swR w_ tq p) tq c)) (eG _ (by omega) (by omega) bW_top) ab E)<|aG .n (aD (l:=kZ) (u:=((swR w_ tq p) tq c)) 0 E E E ab E Lr)<|Wn<|ah<|Wm E<|Wm E<|Ws (bC U155 eJ (bZ E (cD (by omega)) bw) E (by decide))<|bL 1 .n E E E Lr U155 eJ (by simp;omega) fun v3=>Wa E<|aj ?_
     refine Qb<|ah<|Ws (aI E E (c:=((c:Int)+1)) (ay (by omega)))<|Wm E<|aj<|tf 3 E (y:=(tabZ b.length (bW (swR w_ tq p) tq c l b.length b.length))) (by rw [show i=b.length by omega])<|tl 11 E (y:=((elA (matF b) b.length (c+1)).o)) (by rw [hN,htq];rfl) ?_
     exact eC (c+1) v3 (hs++[(c:Int)]) us (bW (swR w_ tq p) tq c l b.length b.length) ((swR w_ tq p) tq c) (tq+1) (by omega) ⟨by omega,hus,by simp [hhs],(by rw [hN];show tq+1=(elA (matF b) b.length c).t+1;omega),by rw [hN,htq];exact hB.to hP hzz hn126 (by omega) (by omega) (by omega) hne⟩ (af E E E E (Z E (Z E (Z E (ao E (ag (y:=(((c+1):Nat):Int)) (by rfl)) ai)))))<|au _
  ·
   refine Kf E E<|Kf E E<|Kf E E<|Kf E E<|Kf E E<|Kf E E<|Kf E E<|Kf E E<|Kf E E<|Ws (cb E E)<|Wn<|df E<|Ex<|aa<|Cr<|Wm E<|Wm E<|Ws (cZ E (ac 2 E) U22) ?_
   refine Ws (bR E E)<|Wn ?_
   refine CY E (by omega) fun h_t48=>?_
   refine du<|cS<|dr<|bS<|ah<|Ws (aI E E (c:=((c:Int)+1)) (ay (by omega)))<|Wm E<|aj ?_
   have hN:elA (matF b) b.length (c+1)=(elA (matF b) b.length c):=nx_no hP (fun x h1 h2=>h0x x (by omega) (by omega))
   refine tl 11 E (y:=((elA (matF b) b.length (c+1)).o)) (by rw [hN]) ?_
   exact eC (c+1) vh hs vs w_ l tq (by omega) ⟨by omega,hvs,hhs,by rw [hN];exact htq,by rw [hN];exact hB.skip⟩ (af E E E E (Z E (Z E (Z E (ao E (ag (y:=(((c+1):Nat):Int)) (by rfl)) ai)))))<|au _
 ·
  refine Ex<|aa ?_
  have hcn:c=b.length:=by omega
  refine tl 11 E (y:=((elA (matF b) b.length b.length).o)) (by rw [hcn]) ?_
  have hEnd:BEnd (matF b) b.length 33554432 hs l (elA (matF b) b.length b.length).o:=by have hB2:=hB;rw [hcn] at hB2;have ht2:=htq;rw [hcn] at ht2;exact ⟨by omega,rfl,hB2.ll,hB2.lz⟩
  refine eb [(1,kN6.is (b.length:Int)),(4,VP.ex vW),(5,VP.ex vh),(6,VP.pt b1 0),(7,kBool.is ((elA (matF b) b.length b.length).o)),(8,VP.ex vW),(9,VP.ex vh),(10,VP.pt b2 0),(11,kBool.is ((elA (matF b) b.length b.length).o)),(21,kN6.is (b.length:Int)),(22,kN6.is (c:Int)),(23,kBool.is (decide ((c:Int)<(b.length:Int)))),(143,VP.ex vW),(144,VP.ex vh),(145,kZ.is l),(146,kBool.is ((elA (matF b) b.length b.length).o))] [OB.box b2 29 kZ l,OB.row vh 3 kI64 hs,OB.row vW 23 kVal vs,OB.fam vs 29 kZ (tabZ b.length w_),OB.box b1 29 kZ l] ?_ ?_
  ·
   refine dy (by kernel_rfl)<|br 0 E (by kernel_rfl) (by kernel_rfl) (by kernel_rfl) (fun _ _ _ _ _ h=>h) .n (cY E)<|br 1 E (by kernel_rfl) (by kernel_rfl) (by kernel_rfl) (fun _ _ _ _ _ h=>h) .n (cY E)<|br 3 E (by kernel_rfl) (by kernel_rfl) (by kernel_rfl) (fun _ _ _ _ _ h=>h) .n (cY E) ?_
   refine bv 2 [4] ⟨?_,⟨?_,trivial⟩⟩
   ·
    refine aC E .n (ae E (ac 0 E) Li ab E)<|az 4<|aC E .n (a7 E)<|az 5<|aC E .n (a7 E)<|az 6<|bg E .n (aD (l:=kZ) (u:=l) 4 E E E ab E Lr)<|az 7<|aC E .n (a7 E)<|bc (by kernel_rfl) ?_
    exact bY (af E E E E (af E E E E (af E E E E (Z E (Z E (Z E (Z E ai)))))))<|au _
   ·
    refine aC E .n (a7 E) ?_
    refine bv 2 [5] ⟨?_,⟨?_,trivial⟩⟩
    ·
     refine aC E .n (ae E (ac 0 E) Li ab E)<|az 5<|aC E .n (a7 E)<|az 6<|bg E .n (aD (l:=kZ) (u:=l) 4 E E E ab E Lr)<|az 7<|aC E .n (a7 E)<|bc (by kernel_rfl) ?_
     exact bY (af E E E E (af E E E E (af E E E E (Z E (Z E (Z E (Z E ai)))))))<|au _
    ·
     refine aC E .n (a7 E)<|az 2<|aC E .n (ae E (ac 0 E) Li ab E)<|az 6<|bg E .n (aD (l:=kZ) (u:=l) 4 E E E ab E Lr)<|az 7<|aC E .n (a7 E)<|bc (by kernel_rfl) ?_
     exact bY (af E E E E (af E E E E (af E E E E (Z E (Z E (Z E (Z E ai)))))))<|au _
  refine bS<|am<|QE.scR<|bJ 1 E (kp 1 E (kp 4 E (.hit (i:=5) E (kp 6 E (kp 7 E (kp 8 E (.hit (i:=9) E (kp 10 E (kp 11 E (kp 21 E (kp 22 E (kp 23 E (kp 143 E (.hit (i:=144) E (kp 145 E (kp 146 E .nil)))))))))))))))) ?_
  exact ct (.inl E) E (cz E (fun _ _ _=>trivial) (ar E (a5 E (ac 3 E) ab (ar E ak)))) (el (List.nil_sublist _)) ⟨hs,l,(elA (matF b) b.length b.length).o,E,E,hEnd⟩
theorem c_elim_deta (b:List (List Int)) (u:CU b.length b) (h0:0<b.length) (h12:b.length≤12) (hz:SzM 33554432 b):Fn Tryz.prog 156 [kMZ.is b] (kC.is (detI (matF b) b.length)):=by
 refine aK Tryz.func156 E E fun m w=>Cr<|a8 .n aZ fun b1=>Wr<|Wm E<|Ws (aA E U22)<|Wa E<|Wr<|Wm E<|Wm E<|cF (Li:=[]) (L:=[OB.box b1 29 kC 0]) .n fn226 (aX E (aX E ax)) (c_elim_bareissa b (by assumption) (by assumption) (by assumption) (by assumption)) fun p_ Lo_ hp_=>?_
 obtain ⟨hs,l,o,rfl,rfl,hE⟩:=hp_
 refine Wm E<|Ws (aH E E)<|Ws (aH E E)<|Ws (aH E E)<|Ws (aH E E)<|a8 .n z29_Z fun b2=>Wa E<|Wa E<|aG .n (aD (l:=kZ) (u:=l) 0 E E E ab E Lr)<|Wa E<|Wn<|aa<|aw<|Cr<|Wm E<|Ws (aA E U155)<|Wm E<|Ws (aS E E)<|Wa E<|Wn ?_
 refine aB E (fun h_t18=>?_)<|fun h_t18=>?_
 ·
  refine Cr<|Ws (cH dR E bH (.nil _))<|aG .n (aD (l:=kC) (u:=0) 1 E E E ab E Lr)<|Wn<|am<|bE<|aQ<|tb 1 E (y:=(detI (matF b) b.length)) (bend_lt hE (by omega)).symm ?_
  exact Qd E (a5 E (ac 1 E) ab ak) ⟨E,E⟩
 ·
  refine Cr<|Wm E<|Wa E<|Wn ?_
  refine dx E (fun h_t24=>?_)<|fun h_t24=>?_
  ·
   refine Cr<|Ws (ae E (ac 0 E) Li ab E)<|Ws (f1 fn145 E (ey l))<|aG .n (aD (l:=kC) (u:=-l) 1 E E E ab E Lr)<|Wn<|am<|bE<|aQ<|tb 1 E (y:=(detI (matF b) b.length)) (bend_o (h_t24▸hE) (by omega)).symm ?_
   exact Qd E (a5 E (ac 1 E) ab ak) ⟨E,E⟩
  ·
   refine cc<|Qb<|Cr<|Ws (ae E (ac 0 E) Li ab E)<|Ws (f1 fn132 E (eO l))<|aG .n (aD (l:=kC) (u:=l) 1 E E E ab E Lr)<|Wn<|am<|tb 1 E (y:=(detI (matF b) b.length)) (bend_e (h_t24▸hE) (by omega)).symm ?_
   exact Qd E (a5 E (ac 1 E) ab ak) ⟨E,E⟩
theorem c_elim_Unimodular (b:List (List Int)) (u:CU b.length b) (h0:0<b.length) (h12:b.length≤12) (hz:SzM 33554432 b):Fn Tryz.prog 83 [kMZ.is b] (VP.tup [kBool.is (decide ((detI (matF b) b.length).natAbs=1)),kN6.is 0]):=by
 refine aK Tryz.func83 E E fun m w=>Cr<|Wa E<|Wa E<|Wn<|aa<|Cr<|Wm E<|Ws (f1 fn154 E (c_elim_square b (by assumption) (by assumption) (by assumption)))<|Wm E<|Ws (aH E E)<|Ws (aH E E)<|Wa E<|Wa E<|Wr<|Wm E<|Ws (bt E E)<|aj ?_
 refine bS ?_
 refine CN E (fun h=>h E) fun h_t12=>?_
 refine Ck<|Cr<|Wm E<|Ws (f1 fn156 E (c_elim_deta b (by assumption) (by assumption) (by assumption) (by assumption)))<|Ws (aF fn155 (aq E (aJ (by exact (detI_Sz (fun i j=>matF_Sz hz i j) (by omega)).sm (by have:=mB_le (s:=33554432) h12;exact Nat.le_trans this (by decide)))) ax) (c_zint_Abs (detI (matF b) b.length)))<|Ws (aF fn71 (aq E (cD (by omega)) ax) (d8 1))<|Ws (aF fn119 (aq E (aJ (by exact (detI_Sz (fun i j=>matF_Sz hz i j) (by omega)).sm (by have:=mB_le (s:=33554432) h12;exact Nat.le_trans this (by decide)))) (aq E (aJ (Sm_lit (by decide))) ax)) (eZ ((detI (matF b) b.length).natAbs:Int) 1))<|Ws (bR E E)<|Wa E<|Wa E<|Wn<|am<|tl 2 E (y:=(decide ((detI (matF b) b.length).natAbs=1))) (decide_eq_decide.2 sgn_cmp1) ?_
 exact Qd E (ar E (ar E ak)) ⟨E,E⟩
theorem c_quad_Change (a u:List (List Int)) (zu:SzM 33554432 u):Fn Tryz.prog 27 [kMZ.is a,kMZ.is u] (VP.tup [kMC.is (chM a u),kN6.is (chE a u)]):=by
 refine aK Tryz.func27 E E fun m w=>aR (i:=0) E bu fun hB0=>aR (i:=1) E bu fun hB1=>Cr<|Wa E<|Wa E<|Wn<|aa<|Cr<|Wm E<|Ws (f1 fn78 E (c_quad_Valid a))<|Wa E<|Wr<|Wm E<|Ws (bt E E)<|Wn ?_
 refine aB E (fun h_t15=>?_)<|fun h_t15=>?_
 ·
  refine Cr<|Wm E<|Wa E<|Wa E<|Wn<|am<|aQ<|cC (q:=kMC.is []) 4 E (cL _)<|tl 4 E (y:=(chM a u)) (chE_q (by omega)).2.symm<|tl 5 E (y:=(chE a u)) (chE_q (by omega)).1.symm ?_
  exact Qd E (ar E (ar E ak)) ⟨E,E⟩
 ·
  refine Ck<|aa ?_
  have hE0:quadE a=0:=by omega
  have hM:=(quad_ok hE0).1
  refine ah<|Wm E<|Ws (f1 fn82 E (eS u))<|Wm E<|Ws (aH E E)<|Ws (aH E E)<|Ws (aH E E)<|Wa E<|Wa E<|Wa E<|Wn<|aa<|Cr<|Wm E<|Ws (bt E E)<|Wm E ?_
  refine bV 25 E (fun h_t25=>?_)<|fun h_t25=>?_
  ·
   refine Kt E E<|Kt E E<|Kt E E<|Kt E E<|Ws (ch E E)<|Wm E<|Kt E E<|Kt E E<|Kt E E<|Ws (ch E E)<|Wn<|em E<|Cr<|Wa E<|Wa E<|Wn<|am<|aQ ?_
   have hU:¬sqU a u:=fun h=>by have h1:=h.1;have h2:=h.2.1;have h3:=h.2.2;omega
   refine cC (q:=kMC.is []) 4 E (cL _)<|tl 4 E (y:=(chM a u)) (dW hE0 hU).2.symm<|tl 5 E (y:=(chE a u)) (dW hE0 hU).1.symm ?_
   exact Qd E (ar E (ar E ak)) ⟨E,E⟩
  ·
   refine Wg E E (bj E)<|Wg E E (bj E)<|Wg E E (aA E U22)<|Wg E E (bt E E)<|Ws (cb E E)<|Wm E ?_
   refine bV 31 E (fun h_t31=>?_)<|fun h_t31=>?_
   ·
    refine Kt E E<|Kt E E<|Kt E E<|Ws (ch E E)<|Wn<|em E<|Cr<|Wa E<|Wa E<|Wn<|am<|aQ ?_
    have hU:¬sqU a u:=fun h=>by have h1:=h.1;have h2:=h.2.1;have h3:=h.2.2;omega
    refine cC (q:=kMC.is []) 4 E (cL _)<|tl 4 E (y:=(chM a u)) (dW hE0 hU).2.symm<|tl 5 E (y:=(chE a u)) (dW hE0 hU).1.symm ?_
    exact Qd E (ar E (ar E ak)) ⟨E,E⟩
   ·
    refine Wg E E (bj E)<|Wg E E (bj E)<|Wg E E (bt E E)<|Ws (cb E E)<|Wn ?_
    refine aB E (fun h_t35=>?_)<|fun h_t35=>?_
    ·
     refine Cr<|Wa E<|Wa E<|Wn<|am<|aQ ?_
     have hU:¬sqU a u:=fun h=>by have h1:=h.1;have h2:=h.2.1;have h3:=h.2.2;omega
     refine cC (q:=kMC.is []) 4 E (cL _)<|tl 4 E (y:=(chM a u)) (dW hE0 hU).2.symm<|tl 5 E (y:=(chE a u)) (dW hE0 hU).1.symm ?_
     exact Qd E (ar E (ar E ak)) ⟨E,E⟩
    ·
     refine Ck<|aa<|aa ?_
     have hU:sqU a u:=⟨by omega,by omega,by omega⟩
     have hCU:=sqU_CU hU
     refine ah<|Wm E<|Ws (f1 fn83 E (c_elim_Unimodular u (by rw [hCU.len];exact hCU) (by have:=hM.n0;have:=hCU.len;omega) (by have:=hM.n;have:=hCU.len;omega) zu))<|Wm E<|Ws (aH E E)<|Ws (aH E E)<|Wa E<|Wa E<|Wr<|Wm E<|Ws (di E)<|Wn ?_
     refine dx E (fun h_t42=>?_)<|fun h_t42=>?_
     ·
      refine Cr<|Wa E<|Wa E<|Wn<|am<|aQ ?_
      have hd1:¬(detI (matF u) u.length).natAbs=1:=by simpa using h_t42
      refine cC (q:=kMC.is []) 4 E (cL _)<|tl 4 E (y:=(chM a u)) (chE_1 hE0 hU hd1).2.symm<|tl 5 E (y:=(chE a u)) (chE_1 hE0 hU hd1).1.symm ?_
      exact Qd E (ar E (ar E ak)) ⟨E,E⟩
     ·
      refine Ck<|Cr<|Wm E<|Wm E<|Ws (f2 fn80 E E (c_quad_changed 33554432 a u (sqm_CU hM) hCU hM.n0 hM.n (hM.z.up (by decide)) zu (by decide)))<|Wa E<|Wa E<|Wn<|am ?_
      have hd1:(detI (matF u) u.length).natAbs=1:=by simpa using h_t42
      refine tl 4 E (y:=(chM a u)) (chE_0 hE0 hU hd1).2.symm<|tl 5 E (y:=(chE a u)) (chE_0 hE0 hU hd1).1.symm ?_
      exact Qd E (ar E (ar E ak)) ⟨E,E⟩
theorem c_ref06_zero (n:Nat) (p:Rat) (hp:RZ n p) (hn:n≤68719476736):Fn Tryz.prog 260 [kRC.is (rq p)] (kBool.is (decide (p=0))):=by
 refine aK Tryz.func260 E E fun m w=>Cr<|a6 .n E fun b1=>Wa E<|Wr<|Ws (aM E db E)<|Ws (ae E (ac 0 E) (aU Li) ab E)<|Ws (aF fn88 (aq E (aJ (by exact hp.a.sm (by omega))) ax) (dO ((rq p).1)))<|Ws (bR E E)<|Wa E<|Wn<|am<|tl 2 E (y:=(decide (p=0))) (decide_eq_decide.2 rq_zero) ?_
 exact Qd E (ar E ak) ⟨E,E⟩
abbrev e7:=@c_ref06_zero
theorem c_ref06_lose (n s i k:Nat) (f:Fq) (q:Rat) (vO:Value) (vs:List Value) (hv:vs.length=n) (hn12:n≤12) (hi:i<n) (hk:k<n) (hik:i≠k) (hs:s≤4317512248) (hf:∀b,RZ s (f i b)) (hfk:∀b,RZ (s+s) (f k b)) (hq:RZ s q):Con Tryz.prog 261 [VP.ex vO,kN6.is (i:Int),kN6.is (k:Int),kRC.is (rq q)] [OB.row vO 26 kVal vs,OB.fam vs 31 kRC (tabR n n f)] (fun p Lo=>p=VP.tup []∧Lo=[OB.row vO 26 kVal vs,OB.fam vs 31 kRC (tabR n n (loseF f i k q n))]∧True):=by
 refine aK Tryz.func261 E E fun m w=>Cr<|a6 .n E fun b1=>Wr<|Wa E<|Wn<|aw<|tf 2 E (y:=(tabR n n (loseF f i k q 0))) (by rw [loseF_0])<|bN (fun (c:Nat)=>c≤n) (fun (c:Nat)=>[(0,VP.ex vO),(1,kN6.is (i:Int)),(2,kN6.is (k:Int)),(7,VP.pt b1 0),(8,kN6.is (c:Int))]) (fun (c:Nat)=>[OB.box b1 31 kRC (rq q),OB.row vO 26 kVal vs,OB.fam vs 31 kRC (tabR n n (loseF f i k q c))]) (fun (c:Nat)=>n-c) 0 (by omega) (af E E E E (ao E (ag (y:=(0:Int)) (by rfl)) ai)) (au _) ?_
 intro c hc
 refine aa<|Cr<|Wm E<|Wm E<|Wm E<|Ws (aY (k:=kVal) (xs:=vs) (n:=(i:Int)) i E E (ac 1 E) U148 bB E (by omega))<|Ws (aV (bd i E (ac 1 E) Li E (y:=(vs.getD i nilV)) (gd nilV (by omega)) bB E) (bm _))<|Ws (O.lenF i E (ac 2 E) E (by omega) U26)<|tl 14 E (y:=(n:Int)) (by rw [tabR_rlen hi])<|Ws (aS E E)<|Wn ?_
 refine aB E (fun h_t15=>?_)<|fun h_t15=>?_
 ·
  refine Ck<|aa<|aw ?_
  refine ba (Γ:=[.fr (VP.ex vO),.fr (kN6.is (i:Int)),.fr (VP.pel vO (i*1)),.fr (VP.ex (vs.getD i nilV)),.fr (kN6.is (c:Int)),.fr (VP.ex vO),.fr (kN6.is (i:Int)),.fr (VP.pel vO (i*1)),.fr (VP.ex (vs.getD i nilV)),.fr (kN6.is (c:Int)),.fr (VP.pel (vs.getD i nilV) (c*4)),.fr (kRC.is (rq (f i c))),.fr (kRC.is (rq q)),.fr (VP.ex vO),.fr (kN6.is (k:Int)),.fr (VP.pel vO (k*1)),.fr (VP.ex (vs.getD k nilV)),.fr (kN6.is (c:Int)),.fr (VP.pel (vs.getD k nilV) (c*4)),.fr (kRC.is (rq (f k c))),.fr (kRC.is (rq (q*(f k c)))),.fr (kRC.is (rq ((f i c)-(q*f k c)))),.fr (VP.pel (vs.getD i nilV) (c*4))]) (om E E (om E E (J E (fun N=>aY (k:=kVal) (xs:=vs) (n:=(i:Int)) i E E (mN N 1 E) U148 bB E (by omega)) (J E (fun N=>aV (bd i E (mN N 1 E) Li E (y:=(vs.getD i nilV)) (gd nilV (by omega)) bB E) (bm _)) (om E E (om E E (om E E (J E (fun N=>aY (k:=kVal) (xs:=vs) (n:=(i:Int)) i E E (mN N 1 E) U148 bB E (by omega)) (J E (fun N=>aV (bd i E (mN N 1 E) Li E (y:=(vs.getD i nilV)) (gd nilV (by omega)) bB E) (bm _)) (om E E (J E (fun N=>cm (e:=31) (k:=kRC) (xss:=(tabR n n (loseF f i k q c))) (n:=(c:Int)) i c E E (mN N 2 E) E (by omega) U26 aL E (by rw [tabR_rlen (by omega)];omega)) (J E (fun N=>cO (k:=kRC) (xss:=(tabR n n (loseF f i k q c))) i c E (mN N 2 E) E (by omega) Li E (y:=(rq (f i c))) (dD (f i c) (by omega) (by omega) loseF_at) aL E) (J E (fun N=>ae E (mN N 0 E) Li aL E) (om E E (om E E (J E (fun N=>aY (k:=kVal) (xs:=vs) (n:=(k:Int)) k E E (mN N 1 E) U148 bB E (by omega)) (J E (fun N=>aV (bd k E (mN N 1 E) Li E (y:=(vs.getD k nilV)) (gd nilV (by omega)) bB E) (bm _)) (om E E (J E (fun N=>cm (e:=31) (k:=kRC) (xss:=(tabR n n (loseF f i k q c))) (n:=(c:Int)) k c E E (mN N 2 E) E (by omega) U26 aL E (by rw [tabR_rlen (by omega)];omega)) (J E (fun N=>cO (k:=kRC) (xss:=(tabR n n (loseF f i k q c))) k c E (mN N 2 E) E (by omega) Li E (y:=(rq (f k c))) (dD (f k c) (by omega) (by omega) (loseF_k hik)) aL E) (J E (fun N=>f2 fn104 E E (ei (s+s) q (f k c) (hq.up (by omega)) (hfk c) (by omega))) (J E (fun N=>aF fn103 (aX E (aq E (ag (y:=rq (q*f k c)) (by rfl)) ax)) (c_ref03_Sub (s+s+s) (f i c) (q*f k c) ((hf c).up (by omega)) ((hq.mul (hfk c)).up (by omega)) (by omega))) (J E (fun N=>cm (e:=31) (k:=kRC) (xss:=(tabR n n (loseF f i k q c))) (n:=(c:Int)) i c E E (mN N 2 E) E (by omega) U26 aL E (by rw [tabR_rlen (by omega)];omega)) oz)))))))))))))))))))))))<|fun σ1=>?_
  refine aG .n (dX 2 i c E E E (by omega) Li E (y0:=(((tabR n n (loseF f i k q c)).getD i []).getD c (0,0))) (gd (0,0) (by rw [tabR_rlen (by omega)];omega)) aL E Lr)<|aj<|Qb<|ah<|Wm E<|Ws (aI E E (c:=((c:Int)+1)) (ay (by omega)))<|Wa E<|aj<|tf 2 E (y:=(tabR n n (loseF f i k q (c+1)))) (by rw [tabR_set (f i c-q*f k c) (by omega) (by omega),loseF_upd]) ?_
  exact bG (c+1) (by omega) (by omega) (af E E E E (ao E (ag (y:=(((c+1):Nat):Int)) (by rfl)) ai))<|au _
 ·
  refine du<|cS<|cS<|dr<|tf 2 E (y:=(tabR n n (loseF f i k q n))) (by rw [show c=n by omega]) ?_
  exact ct (.inr E) E ak (aW (OS.skip (OS.keep (OS.keep OS.nil)))) ⟨E,E,trivial⟩
theorem c_ref06_rats (b:List (List Int)) (hS:Sqd b):Con Tryz.prog 230 [kMZ.is b] [] (fun p Lo=>∃(vO:Value) (vs:List Value),p=VP.ex vO∧Lo=[OB.row vO 26 kVal vs,OB.fam vs 31 kRC (tabR b.length b.length (qM b))]∧vs.length=b.length):=by
 refine aK Tryz.func230 E E fun m w=>aR (i:=0) E bu fun hB=>aR (i:=0) E dK fun hlc=>Cr<|Wa E<|Wr<|Wa E<|Wn<|aa<|Cr<|Wa E<|Wn<|aw<|ca 26 kVal<|fl 31 kRC<|da (fun (i:Nat) (v:Value) (us:List Value)=>i≤b.length∧us.length=i) (fun (i:Nat) (v:Value) (us:List Value)=>[(0,kMZ.is b),(3,VP.ex v),(4,kN6.is (i:Int))]) (fun (i:Nat) (v:Value) (us:List Value)=>[OB.fam us 31 kRC ((tabR b.length b.length (qM b)).take i),OB.row v 26 kVal us]) (fun (i:Nat) (v:Value) (us:List Value)=>b.length-i) 0 (.slice none 0 0) [] ⟨Nat.zero_le _,E⟩ (Z E (Z E (ao E (ag (y:=(0:Int)) (by rfl)) ai))) (aW (OS.keepLe (d9 (by rfl) (by rfl)) (OS.keep OS.nil))) ?_
 intro i v us ⟨hi,hvs⟩
 refine aa<|Cr<|Wm E<|Wm E<|Ws (aA E U22)<|Ws (aS E E)<|Wn ?_
 refine aB E (fun h_t10=>?_)<|fun h_t10=>?_
 ·
  refine Ck<|aa<|aw<|Cr<|Wa E<|Wn<|aa<|Cr<|Wa E<|Wn<|aw<|ca 31 kRC ?_
  have hn12:=hS.n
  have hqi:=hS.q i (by omega)
  refine bX (fun (k:Nat) (u:Value)=>k≤b.length) (fun (k:Nat) (u:Value)=>[(0,kMZ.is b),(3,VP.ex v),(4,kN6.is (i:Int)),(5,VP.ex u),(6,kN6.is (k:Int))]) (fun (k:Nat) (u:Value)=>[OB.row u 31 kRC (((tabR b.length b.length (qM b)).getD i []).take k),OB.fam us 31 kRC ((tabR b.length b.length (qM b)).take i),OB.row v 26 kVal us]) (fun (k:Nat) (u:Value)=>b.length-k) 0 (.slice none 0 0) (by omega) (af E E E E (ao E (ag (y:=(0:Int)) (by rfl)) ai)) (aW (OS.keepLe (a9 (by rfl)) (OS.keep (OS.keep OS.nil)))) ?_
  intro k u hk
  refine aa<|Cr<|Wm E<|Wm E<|Wm E<|Ws (aT i E E U22 aE E (v:=(b.getD i [])) (gd [] (by omega)))<|Ws (aO E aE)<|Ws (aA E U23)<|Ws (aS E E)<|Wn ?_
  refine aB E (fun h_t19=>?_)<|fun h_t19=>?_
  ·
   refine Ck<|aa<|aw<|ah<|Wm E<|Wm E<|Wm E<|Ws (aT i E E U22 aE E (v:=(b.getD i [])) (gd [] (by omega)))<|Ws (aO E aE)<|Wm E<|Ws (aT k E E U23 ab E (v:=((b.getD i []).getD k 0)) (gd 0 (by omega)))<|Ws (aO E ab)<|Ws (f1 fn52 E (ez ((b.getD i []).getD k 0)))<|tl 30 E (y:=(rq (matF b i k:Rat))) E<|Ws (bC U26 ef (b9 E bw) E (by decide))<|bL 0 .n E E E Lr U26 ef (by simp only [List.length_cons,List.length_nil,List.length_take];omega) fun v1=>Wa E<|aj<|Qb<|ah<|Wm E<|Ws (aI E E (c:=((k:Int)+1)) (ay (by omega))) ?_
   refine Wa E<|aj<|tr 0 E (y:=(((tabR b.length b.length (qM b)).getD i []).take (k+1))) (fj (tabR_at (by omega) (by omega))) ?_
   exact bP (k+1) v1 (by omega) (by omega) (af E E E E (ao E (ag (y:=(((k+1):Nat):Int)) (by rfl)) ai))<|au _
  ·
   refine Ex<|ah<|Wm E<|Wm E<|bn 0 E fun hcell_=>Ws (bC U148 el26_val (bZ E (bf (by assumption)) bw) E (by decide))<|bL 2 .n E E E Lr U148 el26_val (by simp only [List.length_cons,List.length_nil,List.length_take];omega) fun v2=>Wa E<|aj<|Qb<|ah<|Wm E<|Ws (aI E E (c:=((i:Int)+1)) (ay (by omega)))<|Wa E<|aj<|tr 0 E (y:=((tabR b.length b.length (qM b)).getD i [])) (List.take_of_length_le (by rw [tabR_rlen (by omega)];omega))<|bD (fam_push 0 E)<|tf 0 E (y:=((tabR b.length b.length (qM b)).take (i+1))) (eV (by rw [tabR_len];omega)) ?_
   exact cM (i+1) v2 (us++[u]) (by omega) ⟨by omega,by simp [hvs]⟩ (Z E (Z E (ao E (ag (y:=(((i+1):Nat):Int)) (by rfl)) ai)))<|au _
 ·
  refine Ex<|Cr<|Wm E<|Wa E<|Wn<|am ?_
  have hvl:us.length=b.length:=by omega
  refine tf 0 E (y:=(tabR b.length b.length (qM b))) (List.take_of_length_le (by rw [tabR_len];omega))<|bD (bI [1,0] (by decide) E) ?_
  exact ct (.inl E) E (ar E ak) (au _) ⟨v,us,E,E,hvl⟩
set_option maxHeartbeats 4000000 in
theorem c_ref06_reduced (b:List (List Int)) (n:Nat) (hbn:b.length=n) (hS:Sqd b) (vO:Value) (vs0:List Value) (hv0:vs0.length=n):Con Tryz.prog 229 [VP.ex vO,kN6.is (n:Int)] [OB.row vO 26 kVal vs0,OB.fam vs0 31 kRC (tabR n n (qM b))] (fun p Lo=>∃(d:Rat) (top:Nat) (f:Fq),p=VP.tup [VP.tt,VP.tt,kRC.is (rq d)]∧Lo=[]∧RedI (matF b) n 256 n top f d):=by
 refine aK Tryz.func229 E E fun m w=>?_
 have hn12:=hS.n
 have hn0:=hS.n0
 have hsz:∀c,c<n→4*szE 256 c+1≤4317512248:=fun c hc=>szE_last (by omega) (by decide)
 refine Cr<|Wa E<|Wa E<|a8 .n bU fun b1=>Wr<|Ws (aF dj (aq E (cD (by omega)) ax) (dh 1))<|Ws (aF fn52 (aq E (aJ (by exact Sm_lit (by decide))) ax) (ez 1))<|Ax (l:=kRC) (u:=rq (1:Rat)) bU E aL (fun _=>E) Lr fun b2=>Wr<|Wa E<|Wr<|Wa E<|aj ?_
 refine bS<|aa<|Cr<|Wa E<|Wn<|aw<|ca 3 kI64<|tb 1 E (y:=(rq 1)) E<|CW.loop7 (fun (c:Nat) (top:Nat) (f:Fq) (d:Rat) (vs:List Value) (vh:Value) (hs:List Int)=>RedI (matF b) n 256 c top f d∧vs.length=n∧hs.length≤c) (fun (c:Nat) (top:Nat) (f:Fq) (d:Rat) (vs:List Value) (vh:Value) (hs:List Int)=>[(0,VP.ex vO),(1,kN6.is (n:Int)),(6,VP.pt b1 0),(7,VP.pt b2 0),(8,VP.ex vh),(9,kN6.is (top:Int)),(10,kN6.is (c:Int))]) (fun (c:Nat) (top:Nat) (f:Fq) (d:Rat) (vs:List Value) (vh:Value) (hs:List Int)=>[OB.row vh 3 kI64 hs,OB.box b2 31 kRC (rq d),OB.box b1 31 kRC (0,0),OB.row vO 26 kVal vs,OB.fam vs 31 kRC (tabR n n f)]) (fun (c:Nat) (top:Nat) (f:Fq) (d:Rat) (vs:List Value) (vh:Value) (hs:List Int)=>n-c) 0 0 (qM b) 1 vs0 (.slice none 0 0) [] ⟨red_0 (fun i j=>hS.z i j) (by decide),hv0,Nat.le_refl _⟩ (af E E E E (Z E (ao E (ag (y:=(0:Int)) (by rfl)) (ao E (ag (y:=(0:Int)) (by rfl)) ai)))) (au _) ?_
 intro c top f d vs vh hs ⟨hR,hvs,hhs⟩
 have htc:=hR.tc
 have hcn:=hR.cn
 refine aa<|Cr<|Wm E<|Wm E<|Ws (aS E E)<|Wn ?_
 refine aB E (fun h_t19=>?_)<|fun h_t19=>?_
 ·
  refine Ck<|aa<|aw<|Cr<|Wm E<|Wa E<|Wn<|aa<|aw<|bN (fun (p:Nat)=>top≤p∧p≤n∧∀q,top≤q→q<p→f q c=0) (fun (p:Nat)=>[(0,VP.ex vO),(1,kN6.is (n:Int)),(6,VP.pt b1 0),(7,VP.pt b2 0),(8,VP.ex vh),(9,kN6.is (top:Int)),(10,kN6.is (c:Int)),(11,kN6.is (p:Int))]) (fun (p:Nat)=>[OB.row vh 3 kI64 hs,OB.box b2 31 kRC (rq d),OB.box b1 31 kRC (0,0),OB.row vO 26 kVal vs,OB.fam vs 31 kRC (tabR n n f)]) (fun (p:Nat)=>n-p) top ⟨Nat.le_refl _,by omega,fun q h1 h2=>absurd h2 (by omega)⟩ (af E E E E (Z E (Z E (Z E (Z E ai))))) (au _) ?_
  intro p ⟨hp,hpn,h0⟩
  refine aa<|Cr<|Wm E<|Wm E<|Ws (cZ E (ac 3 E) U148)<|Ws (aS E E)<|Wm E ?_
  refine bV 27 E (fun h_t27=>?_)<|fun h_t27=>?_
  ·
   refine Wg E E (bj E)<|Wg E E (bj E)<|Wg E E (aY (k:=kVal) (xs:=vs) (n:=(p:Int)) p E E (ac 3 E) U148 bB E (by omega))<|Wg E E (aV (bd p E (ac 3 E) Li E (y:=(vs.getD p nilV)) (gd nilV (by omega)) bB E) (bm _))<|Wg E E (bj E)<|Wg E E (cm (e:=31) (k:=kRC) (xss:=(tabR n n f)) (n:=(c:Int)) p c E E (ac 4 E) E (by omega) U26 aL E (by rw [tabR_rlen (by omega)];omega))<|Wg E E (cO (k:=kRC) (xss:=(tabR n n f)) p c E (ac 4 E) E (by omega) Li E (y:=(rq (f p c))) (tabR_at (by omega) (by omega)) aL E)<|Wg E E (f1 fn260 E (e7 (szE 256 c) (f p c) (hR.z p c) (by have:=hsz c (by omega);omega)))<|Ws (ch E E)<|Wn ?_
   refine aB E (fun h_t36=>?_)<|fun h_t36=>?_
   ·
    refine Ck<|aw<|ah<|Wm E<|Ws (aI E E (c:=((p:Int)+1)) (ay (by omega)))<|Wa E<|aj<|dq ?_
    exact bG (p+1) (by omega) ⟨by omega,by omega,fun q h1 h2=>if e:q=p then by rw [e];exact h_t36 else h0 q h1 (by omega)⟩ (af E E E E (Z E (Z E (Z E (ao E (ag (y:=(((p+1):Nat):Int)) (by rfl)) ai)))))<|au _
   ·
    refine Ex<|aa<|Cr<|Wm E<|Wm E<|Ws (cZ E (ac 3 E) U148)<|Ws (bR E E)<|Wn ?_
    refine CN E (by omega) fun h_t42=>?_
    refine Ck ?_
    refine CW.cut (fun (us:List Value)=>us.length=n) (fun (us:List Value)=>[(0,VP.ex vO),(1,kN6.is (n:Int)),(6,VP.pt b1 0),(7,VP.pt b2 0),(8,VP.ex vh),(9,kN6.is (top:Int)),(10,kN6.is (c:Int)),(11,kN6.is (p:Int))]) (fun (us:List Value)=>[OB.row vh 3 kI64 hs,OB.box b2 31 kRC (rq (sgD d p top)),OB.box b1 31 kRC (0,0),OB.row vO 26 kVal us,OB.fam us 31 kRC (tabR n n (swapF f p top))]) ?_ ?_
    ·
     refine Cr<|Wm E<|Wm E<|Ws (bt E E)<|Wn ?_
     refine aB E (fun h_t47=>?_)<|fun h_t47=>?_
     ·
      refine aa ?_
      refine ba (Γ:=[.fr (VP.ex vO),.fr (kN6.is (p:Int)),.lt (VP.ex vO),.lt (kN6.is (top:Int)),.fr (VP.ex vO),.fr (kN6.is (top:Int)),.fr (VP.pel vO (top*1)),.fr (VP.ex (vs.getD top nilV)),.fr (VP.ex vO),.fr (kN6.is (p:Int)),.fr (VP.pel vO (p*1)),.fr (VP.ex (vs.getD p nilV))]) (om E E (om E E (oc (cV E .n (cY E)) (oc (cV E .n (cY E)) (om E E (om E E (J E (fun N=>aY (k:=kVal) (xs:=vs) (n:=(top:Int)) top E E (mN N 3 E) U148 bB E (by omega)) (J E (fun N=>aV (bd top E (mN N 3 E) Li E (y:=(vs.getD top nilV)) (gd nilV (by omega)) bB E) (bm _)) (om E E (om E E (J E (fun N=>aY (k:=kVal) (xs:=vs) (n:=(p:Int)) p E E (mN N 3 E) U148 bB E (by omega)) (J E (fun N=>aV (bd p E (mN N 3 E) Li E (y:=(vs.getD p nilV)) (gd nilV (by omega)) bB E) (bm _)) oz))))))))))))<|fun σ1=>?_
      refine Ws (aY (k:=kVal) (xs:=vs) (n:=(p:Int)) p E E (ac 3 E) U148 bB E (by omega))<|eA 4 top E (by omega) fun hcell_=>aG .n (cd 3 p E E Li E (y0:=(vs.getD p nilV)) (gd nilV (by omega)) bB E (bf (by assumption)))<|Ws (aY (k:=kVal) (xs:=(vs.set p (vs.getD top nilV))) (n:=(top:Int)) top E E (ac 3 E) U148 bB E (by rw [List.length_set];omega))<|eA 4 p E (by omega) fun hcell_=>aG .n (cd 3 top E E Li E (y0:=((vs.set p (vs.getD top nilV)).getD top nilV)) (gd nilV (by rw [List.length_set];omega)) bB E (bf (by assumption)))<|Wn<|bD (fam_swap 4 p top E (by omega) (by omega) (by omega))<|tf 4 E (y:=(tabR n n (swapF f p top))) (tabR_swap (by omega) (by omega) (by omega))<|ah<|Ws (ae E (ac 1 E) Li aL E)<|Ws (f1 fn174 E (c_ref03_Neg (szE 256 c+1) d hR.zd (by have:=hsz c (by omega);omega)))<|aG .n (aD (l:=kRC) (u:=rq (-d)) 1 E E E aL E Lr)<|aj<|tb 1 E (y:=(rq (sgD d p top))) (by unfold sgD;rw [if_neg (by omega)]) ?_
      exact ed ((vs.set p (vs.getD top nilV)).set top (vs.getD p nilV)) (by simp [hvs]) (af E E E E (Z E (Z E (Z E (Z E ai)))))<|au _
     ·
      refine cc<|tb 1 E (y:=(rq (sgD d p top))) (by unfold sgD;rw [if_pos (by omega)])<|tf 4 E (y:=(tabR n n (swapF f p top))) (by rw [show p=top by omega,swapF_self]) ?_
      exact ed vs (by simp [hvs]) (af E E E E (Z E (Z E (Z E (Z E ai)))))<|au _
    intro us hus
    have hne:f p c≠0:=h_t36
    have hsg:RZ (szE 256 c+1) (sgD d p top):=by unfold sgD;split;exact hR.zd;exact hR.zd.neg
    refine Cr<|Wm E<|Wm E<|Ws (aY (k:=kVal) (xs:=us) (n:=(top:Int)) top E E (ac 3 E) U148 bB E (by omega))<|Ws (aV (bd top E (ac 3 E) Li E (y:=(us.getD top nilV)) (gd nilV (by omega)) bB E) (bm _))<|Wm E<|Ws (cm (e:=31) (k:=kRC) (xss:=(tabR n n (swapF f p top))) (n:=(c:Int)) top c E E (ac 4 E) E (by omega) U26 aL E (by rw [tabR_rlen (by omega)];omega))<|Ws (cO (k:=kRC) (xss:=(tabR n n (swapF f p top))) top c E (ac 4 E) E (by omega) Li E (y:=(rq (f p c))) (dD (f p c) (by omega) (by omega) swapF_top) aL E)<|Ax (l:=kRC) (u:=(rq (f p c))) bU E aL (fun _=>E) Lr fun b3=>Wr<|Ws (ae E (ac 2 E) Li aL E)<|Ws (ae E (ac 0 E) Li aL E)<|Ws (f2 fn104 E E (ei (szE 256 c+1) (sgD d p top) (f p c) hsg ((hR.z p c).up (by omega)) (by have:=hsz c (by omega);omega)))<|aG .n (aD (l:=kRC) (u:=rq ((sgD d p top)*(f p c))) 2 E E E aL E Lr)<|Wn<|aa<|Cr ?_
    refine Wa E<|Wn<|aw<|tf 5 E (y:=(tabR n n (divF (swapF f p top) top (f p c) 0))) (by rw [divF_0])<|bN (fun (k:Nat)=>k≤n) (fun (k:Nat)=>[(0,VP.ex vO),(1,kN6.is (n:Int)),(6,VP.pt b1 0),(7,VP.pt b2 0),(8,VP.ex vh),(9,kN6.is (top:Int)),(10,kN6.is (c:Int)),(12,VP.pt b3 0),(13,kN6.is (k:Int))]) (fun (k:Nat)=>[OB.box b3 31 kRC (rq (f p c)),OB.row vh 3 kI64 hs,OB.box b2 31 kRC (rq (sgD d p top*f p c)),OB.box b1 31 kRC (0,0),OB.row vO 26 kVal us,OB.fam us 31 kRC (tabR n n (divF (swapF f p top) top (f p c) k))]) (fun (k:Nat)=>n-k) 0 (by omega) (af E E E E (af E E E E (ao E (ag (y:=(0:Int)) (by rfl)) ai))) (aW (OS.keep (OS.keep (OS.keepLe (cf (by rfl)) (OS.keep (OS.keep (OS.keep OS.nil))))))) ?_
    intro k hk
    refine aa<|Cr<|Wm E<|Wm E<|Ws (aS E E)<|Wn ?_
    refine aB E (fun h_t76=>?_)<|fun h_t76=>?_
    ·
     refine Ck<|aa<|aw ?_
     refine ba (Γ:=[.fr (VP.ex vO),.fr (kN6.is (top:Int)),.fr (VP.pel vO (top*1)),.fr (VP.ex (us.getD top nilV)),.fr (kN6.is (k:Int)),.fr (VP.ex vO),.fr (kN6.is (top:Int)),.fr (VP.pel vO (top*1)),.fr (VP.ex (us.getD top nilV)),.fr (kN6.is (k:Int)),.fr (VP.pel (us.getD top nilV) (k*4)),.fr (kRC.is (rq (swapF f p top top k))),.fr (kRC.is (rq (f p c))),.fr (kRC.is (rq ((swapF f p top top k)/(f p c)))),.fr (VP.pel (us.getD top nilV) (k*4))]) (om E E (om E E (J E (fun N=>aY (k:=kVal) (xs:=us) (n:=(top:Int)) top E E (mN N 4 E) U148 bB E (by omega)) (J E (fun N=>aV (bd top E (mN N 4 E) Li E (y:=(us.getD top nilV)) (gd nilV (by omega)) bB E) (bm _)) (om E E (om E E (om E E (J E (fun N=>aY (k:=kVal) (xs:=us) (n:=(top:Int)) top E E (mN N 4 E) U148 bB E (by omega)) (J E (fun N=>aV (bd top E (mN N 4 E) Li E (y:=(us.getD top nilV)) (gd nilV (by omega)) bB E) (bm _)) (om E E (J E (fun N=>cm (e:=31) (k:=kRC) (xss:=(tabR n n (divF (swapF f p top) top (f p c) k))) (n:=(k:Int)) top k E E (mN N 5 E) E (by omega) U26 aL E (by rw [tabR_rlen (by omega)];omega)) (J E (fun N=>cO (k:=kRC) (xss:=(tabR n n (divF (swapF f p top) top (f p c) k))) top k E (mN N 5 E) E (by omega) Li E (y:=(rq (swapF f p top top k))) (dD (swapF f p top top k) (by omega) (by omega) divF_at) aL E) (J E (fun N=>ae E (mN N 0 E) Li aL E) (J E (fun N=>f2 fn76 E E (c_ref03_Div (szE 256 c) (swapF f p top top k) (f p c) (swapF_RZ hR.z p top top k) (hR.z p c) (by have:=hsz c (by omega);omega) hne)) (J E (fun N=>cm (e:=31) (k:=kRC) (xss:=(tabR n n (divF (swapF f p top) top (f p c) k))) (n:=(k:Int)) top k E E (mN N 5 E) E (by omega) U26 aL E (by rw [tabR_rlen (by omega)];omega)) oz)))))))))))))))<|fun σ2=>?_
     refine aG .n (dX 5 top k E E E (by omega) Li E (y0:=(((tabR n n (divF (swapF f p top) top (f p c) k)).getD top []).getD k (0,0))) (gd (0,0) (by rw [tabR_rlen (by omega)];omega)) aL E Lr)<|aj<|Qb<|ah<|Wm E<|Ws (aI E E (c:=((k:Int)+1)) (ay (by omega)))<|Wa E<|aj<|tf 5 E (y:=(tabR n n (divF (swapF f p top) top (f p c) (k+1)))) (by rw [tabR_set (swapF f p top top k/f p c) (by omega) (by omega),divF_upd]) ?_
     exact bG (k+1) (by omega) (by omega) (af E E E E (af E E E E (ao E (ag (y:=(((k+1):Nat):Int)) (by rfl)) ai)))<|au _
    ·
     refine Ex<|aa<|Cr<|Wa E<|Wn<|aw<|tf 5 E (y:=(tabR n n (elimF (dvF f p top c) top c 0))) (by rw [elimF_0,show k=n by omega];exact tabR_div)<|bN (fun (i:Nat)=>i≤n) (fun (i:Nat)=>[(0,VP.ex vO),(1,kN6.is (n:Int)),(6,VP.pt b1 0),(7,VP.pt b2 0),(8,VP.ex vh),(9,kN6.is (top:Int)),(10,kN6.is (c:Int)),(14,kN6.is (i:Int))]) (fun (i:Nat)=>[OB.row vh 3 kI64 hs,OB.box b2 31 kRC (rq (sgD d p top*f p c)),OB.box b1 31 kRC (0,0),OB.row vO 26 kVal us,OB.fam us 31 kRC (tabR n n (elimF (dvF f p top c) top c i))]) (fun (i:Nat)=>n-i) 0 (by omega) (af E E E E (Z E (Z E (Z E (ao E (ag (y:=(0:Int)) (by rfl)) ai))))) (aW (OS.skip (OS.keep (OS.keep (OS.keep (OS.keep (OS.keep OS.nil))))))) ?_
     intro i hi
     refine aa<|Cr<|Wm E<|Wm E<|Ws (cZ E (ac 3 E) U148)<|Ws (aS E E)<|Wn ?_
     refine aB E (fun h_t97=>?_)<|fun h_t97=>?_
     ·
      refine Ck<|aa<|aw<|Cr<|Wm E<|Wm E<|Ws (bt E E)<|Wm E ?_
      refine bV 103 E (fun h_t103=>?_)<|fun h_t103=>?_
      ·
       refine Wg E E (bj E)<|Wg E E (bj E)<|Wg E E (aY (k:=kVal) (xs:=us) (n:=(i:Int)) i E E (ac 3 E) U148 bB E (by omega))<|Wg E E (aV (bd i E (ac 3 E) Li E (y:=(us.getD i nilV)) (gd nilV (by omega)) bB E) (bm _))<|Wg E E (bj E)<|Wg E E (cm (e:=31) (k:=kRC) (xss:=(tabR n n (elimF (dvF f p top c) top c i))) (n:=(c:Int)) i c E E (ac 4 E) E (by omega) U26 aL E (by rw [tabR_rlen (by omega)];omega))<|Wg E E (cO (k:=kRC) (xss:=(tabR n n (elimF (dvF f p top c) top c i))) i c E (ac 4 E) E (by omega) Li E (y:=(rq (dvF f p top c i c))) (dD (dvF f p top c i c) (by omega) (by omega) elimF_i) aL E)<|Wg E E (f1 fn260 E (e7 (szE 256 c) (dvF f p top c i c) (dvF_RZ1 hR.z (by omega) c) (by have:=hsz c (by omega);omega)))<|Wg E E (di E)<|Ws (ch E E)<|Wn ?_
       refine dx E (fun h_t113=>?_)<|fun h_t113=>?_
       ·
        refine ah<|Wm E<|Wm E<|Wm E<|Wm E<|Wm E<|Ws (aY (k:=kVal) (xs:=us) (n:=(i:Int)) i E E (ac 3 E) U148 bB E (by omega))<|Ws (aV (bd i E (ac 3 E) Li E (y:=(us.getD i nilV)) (gd nilV (by omega)) bB E) (bm _))<|Wm E<|Ws (cm (e:=31) (k:=kRC) (xss:=(tabR n n (elimF (dvF f p top c) top c i))) (n:=(c:Int)) i c E E (ac 4 E) E (by omega) U26 aL E (by rw [tabR_rlen (by omega)];omega))<|Ws (cO (k:=kRC) (xss:=(tabR n n (elimF (dvF f p top c) top c i))) i c E (ac 4 E) E (by omega) Li E (y:=(rq (dvF f p top c i c))) (dD (dvF f p top c i c) (by omega) (by omega) elimF_i) aL E)<|bD (bI [3,4,0,1,2] (by decide) E)<|cF (Li:=[OB.row vO 26 kVal us,OB.fam us 31 kRC (tabR n n (elimF (dvF f p top c) top c i))]) (L:=[OB.row vh 3 kI64 hs,OB.box b2 31 kRC (rq (sgD d p top*f p c)),OB.box b1 31 kRC (0,0)]) .n fn261 (aX E (aX E (aX E (aX E ax)))) (c_ref06_lose n (szE 256 c) i top (elimF (dvF f p top c) top c i) (dvF f p top c i c) vO us (by omega) (by omega) (by omega) (by omega) (by omega) (by have:=hsz c (by omega);omega) (fun x=>by rw [elimF_i];exact dvF_RZ1 hR.z (by omega) x) (fun x=>by rw [elimF_top];exact dvF_RZ hR.z hne top x) (dvF_RZ1 hR.z (by omega) c)) fun p_ Lo_ hp_=>?_
        obtain ⟨rfl,rfl,hx_t124⟩:=hp_
        refine aj<|Qb<|ah<|Wm E<|Ws (aI E E (c:=((i:Int)+1)) (ay (by omega)))<|Wa E<|aj<|bD (bI [2,3,4,0,1] (by decide) E)<|tf 4 E (y:=(tabR n n (elimF (dvF f p top c) top c (i+1)))) (elimF_lose2 (by omega)) ?_
        exact bG (i+1) (by omega) (by omega) (af E E E E (Z E (Z E (Z E (ao E (ag (y:=(((i+1):Nat):Int)) (by rfl)) ai)))))<|au _
       ·
        refine cc<|Qb<|ah<|Wm E<|Ws (aI E E (c:=((i:Int)+1)) (ay (by omega)))<|Wa E<|aj<|tf 4 E (y:=(tabR n n (elimF (dvF f p top c) top c (i+1)))) (by rw [elimF_skip (.inr (by simpa using h_t113))]) ?_
        exact bG (i+1) (by omega) (by omega) (af E E E E (Z E (Z E (Z E (ao E (ag (y:=(((i+1):Nat):Int)) (by rfl)) ai)))))<|au _
      ·
       refine Kf E E<|Kf E E<|Kf E E<|Kf E E<|Kf E E<|Kf E E<|Kf E E<|Kf E E<|Kf E E<|Ws (cb E E)<|Wn<|df E<|cc<|Qb<|ah<|Wm E<|Ws (aI E E (c:=((i:Int)+1)) (ay (by omega)))<|Wa E<|aj<|tf 4 E (y:=(tabR n n (elimF (dvF f p top c) top c (i+1)))) (by rw [elimF_skip (.inl (by omega))]) ?_
       exact bG (i+1) (by omega) (by omega) (af E E E E (Z E (Z E (Z E (ao E (ag (y:=(((i+1):Nat):Int)) (by rfl)) ai)))))<|au _
     ·
      refine Ex<|Cr<|Wm E<|Wm E<|Ws (bC U155 eJ (bZ E (cD (by omega)) bw) E (by decide))<|bL 0 .n E E E Lr U155 eJ (by simp;omega) fun v4=>Wa E<|Wn<|ah<|Wm E<|Ws (aI E E (c:=((top:Int)+1)) (ay (by omega)))<|Wa E<|aj<|Qb<|ah<|Wm E<|Ws (aI E E (c:=((c:Int)+1)) (ay (by omega))) ?_
      refine Wa E<|aj<|tf 4 E (y:=(tabR n n (rdcF f p top c n))) (by rw [show i=n by omega];rfl) ?_
      exact eC (c+1) (top+1) (rdcF f p top c n) (sgD d p top*f p c) us v4 (hs++[(c:Int)]) (by omega) ⟨red_step hS.s hR (by omega) hp (by omega) hne h0,hus,by simp;omega⟩ (af E E E E (Z E (ao E (ag (y:=(((top+1):Nat):Int)) (by rfl)) (ao E (ag (y:=(((c+1):Nat):Int)) (by rfl)) ai))))<|au _
  ·
   refine Kf E E<|Kf E E<|Kf E E<|Kf E E<|Kf E E<|Kf E E<|Kf E E<|Kf E E<|Ws (cb E E)<|Wn<|df E<|Ex<|aa<|Cr<|Wm E<|Wm E<|Ws (cZ E (ac 3 E) U148)<|Ws (bR E E) ?_
   refine Wn ?_
   refine CY E (by omega) fun h_t42=>?_
   refine Cr<|Ws (aF dj (aq E (cD (by omega)) ax) (dh 0))<|Ws (aF fn52 (aq E (aJ (by exact Sm_lit (by decide))) ax) (ez 0))<|aG .n (aD (l:=kRC) (u:=rq (0:Rat)) 1 E E E aL E Lr)<|Wn<|du<|cS<|dr<|bS<|ah<|Wm E<|Ws (aI E E (c:=((c:Int)+1)) (ay (by omega)))<|Wa E<|aj<|tb 1 E (y:=(rq 0)) E ?_
   exact eC (c+1) top f 0 vs vh hs (by omega) ⟨red_none hS.s hR (by omega) (fun q h1 h2=>h0 q h1 (by omega)),hvs,by omega⟩ (af E E E E (Z E (Z E (ao E (ag (y:=(((c+1):Nat):Int)) (by rfl)) ai))))<|au _
 ·
  refine Ex<|aa ?_
  have hEnd:RedI (matF b) n 256 n top f d:=by rw [show c=n by omega] at hR;exact hR
  refine eb [(0,VP.ex vO),(1,kN6.is (n:Int)),(4,VP.tt),(5,VP.ex vh),(6,VP.pt b1 0),(7,VP.pt b2 0),(8,VP.ex vh),(9,kN6.is (top:Int)),(10,kN6.is (c:Int)),(17,kN6.is (c:Int)),(18,kN6.is (n:Int)),(19,kBool.is (decide ((c:Int)<(n:Int)))),(131,VP.ex vO),(132,kN6.is (top:Int)),(133,VP.tt),(134,VP.ex vh),(135,kRC.is (rq d))] [OB.row vh 3 kI64 hs,OB.box b2 31 kRC (rq d),OB.box b1 31 kRC (rq d),OB.row vO 26 kVal vs,OB.fam vs 31 kRC (tabR n n f)] ?_ ?_
  ·
   refine dy (by kernel_rfl)<|br 0 E (by kernel_rfl) (by kernel_rfl) (by kernel_rfl) (fun _ _ _ _ _ h=>h) .n (cY E)<|br 1 E (by kernel_rfl) (by kernel_rfl) (by kernel_rfl) (fun _ _ _ _ _ h=>h) .n (cY E)<|br 3 E (by kernel_rfl) (by kernel_rfl) (by kernel_rfl) (fun _ _ _ _ _ h=>h) .n (cY E) ?_
   refine bv 2 [4] ⟨?_,⟨?_,trivial⟩⟩
   ·
    refine aC E .n (O.slT top (ac 3 E) E E U148 bB E (by omega)) ?_
    refine bv 4 [5] ⟨?_,⟨?_,trivial⟩⟩
    ·
     refine aC E .n (ae E (ac 1 E) Li aL E)<|az 5<|aC E .n (a7 E)<|az 6<|aC E .n (a7 E)<|az 7<|bg E .n (aD (l:=kRC) (u:=(rq d)) 2 E E E aL E Lr)<|bc (by kernel_rfl) ?_
     exact bY (af E E E E (af E E E E (af E E E E (af E E E E (Z E ai)))))<|au _
    ·
     refine aC E .n (a7 E) ?_
     refine bv 4 [6] ⟨?_,⟨?_,trivial⟩⟩
     ·
      refine aC E .n (ae E (ac 1 E) Li aL E)<|az 6<|aC E .n (a7 E)<|az 7<|bg E .n (aD (l:=kRC) (u:=(rq d)) 2 E E E aL E Lr)<|bc (by kernel_rfl) ?_
      exact bY (af E E E E (af E E E E (af E E E E (af E E E E (Z E ai)))))<|au _
     ·
      refine aC E .n (a7 E)<|az 4<|aC E .n (ae E (ac 1 E) Li aL E)<|az 7<|bg E .n (aD (l:=kRC) (u:=(rq d)) 2 E E E aL E Lr)<|bc (by kernel_rfl) ?_
      exact bY (af E E E E (af E E E E (af E E E E (af E E E E (Z E ai)))))<|au _
   ·
    refine aC E .n (ae E (ac 1 E) Li aL E)<|az 2<|aC E .n (O.slT top (ac 3 E) E E U148 bB E (by omega))<|az 5<|aC E .n (a7 E)<|az 6<|aC E .n (a7 E)<|az 7<|bg E .n (aD (l:=kRC) (u:=(rq d)) 2 E E E aL E Lr)<|bc (by kernel_rfl) ?_
    exact bY (af E E E E (af E E E E (af E E E E (af E E E E (Z E ai)))))<|au _
  refine bS<|am ?_
  exact ct (.inl E) E (ar E (cz E (fun _ _ _=>trivial) (a5 E (ac 2 E) aL ak))) (el (List.nil_sublist _)) ⟨d,top,f,E,E,hEnd⟩
theorem c_ref06_Check (b:List (List Int)) (hS:Sqd b):Fn Tryz.prog 227 [kMZ.is b] (kN6.is 0):=by
 refine aK Tryz.func227 E E fun m w=>?_
 have hsh:=sh_sqd hS
 have hn12:=hS.n
 refine Cr<|Wa E<|Wr<|Wm E<|Ws (f1 fn126 E (es b))<|Wm E<|Ws (aH E E)<|Ws (aH E E)<|Ws (aH E E)<|Wa E<|Wa E<|Wa E<|Wn<|aa<|Cr<|Wm E<|Ws (bt E E)<|aj ?_
 refine bS ?_
 refine CN E (by omega) fun h_t13=>?_
 refine Ck<|aa<|Cr<|Wm E<|Ws (cq E E)<|Wm E ?_
 refine bV 16 E (fun h=>absurd h (by omega))<|fun h_t16=>?_
 refine Wg E E (bj E)<|Wg E E (cq E E)<|Ws (cb E E)<|Wn ?_
 refine CN E (by omega) fun h_t19=>?_
 refine Ck<|Cr<|Wa E<|Wn<|am ?_
 exact Qd E (ar E ak) ⟨E,E⟩
theorem c_ref06_cols (b:List (List Int)) (hS:Sqd b):Fn Tryz.prog 228 [kMZ.is b] (kN6.is (b.length:Int)):=by
 refine aK Tryz.func228 E E fun m w=>?_
 have hsh:=sh_sqd hS
 refine Cr<|Wa E<|Wr<|Wm E<|Ws (f1 fn126 E (es b))<|Wm E<|Ws (aH E E)<|Ws (aH E E)<|Ws (aH E E)<|Wa E<|Wa E<|Wa E<|Wr<|Wm E<|Wa E<|Wn ?_
 refine am ?_
 exact Qd E (cz E (ag (y:=(b.length:Int)) (by omega)) ak) ⟨E,E⟩
theorem c_ref06_Det (b:List (List Int)) (hS:Sqd b):Con Tryz.prog 157 [kMZ.is b] [] (fun p Lo=>∃(d:Int),p=VP.tup [kC.is d,kN6.is 0]∧Lo=[]∧DetP b d):=by
 refine aK Tryz.func157 E E fun m w=>Cr<|a8 .n aZ fun b1=>Wa E<|Wr<|Wm E<|Ws (f1 fn227 E (c_ref06_Check b (by assumption)))<|Wa E<|Wn<|aa<|Cr<|Wm E<|Ws (bt E E)<|Wn ?_
 refine CN E (by omega) fun h_t11=>?_
 refine Ck<|aa<|Cr<|Wm E<|Ws (aA E U22)<|Wm E<|Ws (f1 fn228 E (c_ref06_cols b (by assumption)))<|Ws (bt E E)<|Wn ?_
 refine CN E (by omega) fun h_t18=>?_
 refine Ck<|aa ?_
 have hbl:b.length=b.length:=rfl
 refine ah<|Wm E<|cF (Li:=[]) (L:=[OB.box b1 29 kC 0]) .n fn230 (aX E ax) (c_ref06_rats b hS) fun p_ Lo_ hp_=>?_
 obtain ⟨v2,vs_t22,rfl,rfl,hx_t22⟩:=hp_
 refine Wm E<|Ws (aA E U22)<|cF (Li:=[OB.row v2 26 kVal vs_t22,OB.fam vs_t22 31 kRC (tabR b.length b.length (qM b))]) (L:=[OB.box b1 29 kC 0]) .n fn229 (aX E (aq E (ag (y:=((b.length:Nat):Int)) (by rfl)) ax)) (c_ref06_reduced b b.length E hS v2 vs_t22 hx_t22) fun p_ Lo_ hp_=>?_
 obtain ⟨d_t25,top_t25,f_t25,rfl,rfl,hx_t25⟩:=hp_
 refine Wm E<|Ws (aH E E)<|Ws (aH E E)<|Ws (aH E E)<|a8 .n bU fun b3=>Wa E<|Wa E<|aG .n (aD (l:=kRC) (u:=rq d_t25) 0 E E E aL E Lr)<|Wr<|Ws (aM E db E)<|Ws (ae E (ac 0 E) (aU Li) ab E)<|aG .n (aD (l:=kC) (u:=(rq d_t25).1) 1 E E E ab E Lr)<|Wa E<|Wn<|am ?_
 exact ct (.inl E) E (a5 E (ac 1 E) ab (ar E ak)) (el (List.nil_sublist _)) ⟨(rq d_t25).1,E,E,(det_end hS (by rw [←hbl] at hx_t25;exact hx_t25))⟩
theorem c_ref06_Minors (a:List (List Int)) (hS:Sqd a):Con Tryz.prog 87 [kMZ.is a] [] (fun p Lo=>∃(ds:List Int),p=VP.tup [kVC.is ds,kN6.is 0]∧Lo=[]∧DetsOk a a.length ds):=by
 refine aK Tryz.func87 E E fun m w=>aR (i:=0) E bu fun hB=>aR (i:=0) E dK fun hlc=>?_
 have hn12:=hS.n
 have hn0:=hS.n0
 refine Cr<|Wa E<|Wa E<|Wr<|Wm E<|cF (Li:=[]) (L:=[]) .n fn157 (aX E ax) (c_ref06_Det a (by assumption)) fun p_ Lo_ hp_=>?_
 obtain ⟨d_t14,rfl,rfl,hx_t14⟩:=hp_
 refine Wm E<|Ws (aH E E)<|Ws (aH E E)<|Ax (l:=kC) (u:=d_t14) aZ E ab (fun _=>E) Lr fun b1=>Wa E<|Wn<|aa<|Cr<|Wm E<|Ws (bt E E)<|Wn ?_
 refine CN E (by omega) fun h_t18=>?_
 refine Ck<|Cr<|Wa E<|Wn<|aa<|Cr<|Wa E<|Wn<|aw<|ca 29 kC<|da (fun (k:Nat) (v:Value) (ds:List Int)=>k≤a.length∧DetsOk a k ds) (fun (k:Nat) (v:Value) (ds:List Int)=>[(0,kMZ.is a),(6,VP.ex v),(7,kN6.is ((k:Int)+1))]) (fun (k:Nat) (v:Value) (ds:List Int)=>[OB.row v 29 kC ds]) (fun (k:Nat) (v:Value) (ds:List Int)=>a.length-k) 0 (.slice none 0 0) [] ⟨Nat.zero_le _,dets_0 a⟩ (Z E (Z E (ao E (ag (y:=((0:Int)+1)) (by rfl)) ai))) (aW (OS.keep (OS.skip OS.nil))) ?_
 intro k v ds ⟨hk,hD⟩
 refine aa<|Cr<|Wm E<|Wm E<|Ws (aA E U22)<|Ws (O.le E E)<|Wn ?_
 refine aB E (fun h_t23=>?_)<|fun h_t23=>?_
 ·
  refine Ck<|aa<|aw<|Cr<|Wa E<|Wn<|aa<|Cr<|Wa E<|Wn<|aw<|ca 23 kVZ ?_
  have hdl:=hD.1
  refine bX (fun (i:Nat) (u:Value)=>i≤k+1) (fun (i:Nat) (u:Value)=>[(0,kMZ.is a),(6,VP.ex v),(7,kN6.is ((k:Int)+1)),(8,VP.ex u),(9,kN6.is (i:Int))]) (fun (i:Nat) (u:Value)=>[OB.row u 23 kVZ ((a.take i).map (fun r=>r.take (k+1))),OB.row v 29 kC ds]) (fun (i:Nat) (u:Value)=>k+1-i) 0 (.slice none 0 0) (by omega) (af E E E E (ao E (ag (y:=(0:Int)) (by rfl)) ai)) (aW (OS.keepLe (a9 (by rfl)) (OS.keep OS.nil))) ?_
  intro i u hi
  refine aa<|Cr<|Wm E<|Wm E<|Ws (aS E E)<|Wn ?_
  refine aB E (fun h_t28=>?_)<|fun h_t28=>?_
  ·
   refine Ck<|aa<|aw<|ah<|Wm E<|Wm E<|Wm E<|Ws (aT i E E U22 aE E (v:=(a.getD i [])) (gd [] (by omega)))<|Ws (aO E aE)<|Wm E<|Ws (O.slH (k+1) E E U23 ab (by omega) (by have:=hS.q i (by omega);omega))<|Ws (bC U22 eT (b9 E bw) E (by decide))<|bL 0 .n E E E Lr U22 eT (by (simp only [List.length_cons,List.length_nil,List.length_map,List.length_take];omega)) fun v2=>Wa E<|aj<|Qb<|ah<|Wm E<|Ws (aI E E (c:=((i:Int)+1)) (ay (by omega)))<|Wa E<|aj<|tr 0 E (y:=((a.take (i+1)).map (fun r=>r.take (k+1)))) (subM_app (by omega)) ?_
   exact bP (i+1) v2 (by omega) (by omega) (af E E E E (ao E (ag (y:=(((i+1):Nat):Int)) (by rfl)) ai))<|au _
  ·
   refine Ex<|aa<|tr 0 E (y:=(subM a (k+1))) (by rw [show i=k+1 by omega];rfl)<|ah<|Wm E<|bJ 0 E (kp 0 E (kp 6 E (kp 7 E (.hit (i:=8) E (kp 9 E (kp 26 E (kp 27 E (kp 28 E (.hit (i:=41) E .nil)))))))))<|cF (Li:=[]) (L:=[OB.row v 29 kC ds]) .n fn157 (aX E ax) (c_ref06_Det (subM a (k+1)) (sqd_sub hS (by omega) (by omega))) fun p_ Lo_ hp_=>?_
   obtain ⟨d_t42,rfl,rfl,hx_t42⟩:=hp_
   refine Wm E<|Ws (aH E E)<|Ws (aH E E)<|Ax (l:=kC) (u:=d_t42) aZ E ab (fun _=>E) Lr fun b3=>Wa E<|Wn<|ah<|Wm E<|Ws (ae E (ac 0 E) Li ab E)<|Ws (bC U23 bo (b9 E bw) E (by decide))<|bL 1 .n E E E Lr U23 bo (by (simp only [List.length_cons,List.length_nil,List.length_map,List.length_take];omega)) fun v4=>Wa E<|aj<|Qb<|ah<|Wm E<|Ws (aI E E (c:=(((k:Int)+1)+1)) (ay (by omega)))<|Wa E<|aj ?_
   exact cM (k+1) v4 (ds++[d_t42]) (by omega) ⟨by omega,dets_snoc (by omega) hD hx_t42⟩ (Z E (Z E (ao E (ag (y:=((((k+1):Nat):Int)+1)) (by rfl)) ai)))<|aW<|OS.skip<|OS.keep OS.nil
 ·
  refine Ex<|Cr<|Wm E<|Wa E<|Wa E<|Wn<|am ?_
  have hEnd:DetsOk a a.length ds:=by rw [show k=a.length by omega] at hD;exact hD
  refine bJ 0 E (kp 0 E (.hit (i:=2) E (kp 3 E (.hit (i:=6) E (kp 7 E (kp 20 E (kp 21 E (kp 22 E (kp 23 E (.hit (i:=49) E .nil)))))))))) ?_
  exact ct (.inl E) E (ar E (ar E ak)) (au _) ⟨ds,E,E,hEnd⟩
theorem c_ref04_Turn (n:Nat) (a:List (List Int)) (hr:RectL a) (hrb:rect a=true):Fn Tryz.prog 85 [kMZ.is a] (VP.tup [kMC.is (turnV a),kN6.is 0]):=by
 refine aK Tryz.func85 E E fun m w=>aR (i:=0) E bu fun hB=>aR (i:=0) E dK fun hlc=>Cr<|Wa E<|Wa E<|Wr<|Wm E<|Ws (f1 fn126 E (es a))<|Wm E<|Ws (aH E E)<|Ws (aH E E)<|Ws (aH E E)<|Wa E<|Wa E<|Wa E<|Wn<|aa<|aa ?_
 refine ah<|Wm E<|Ws (bt E E)<|Wn ?_
 refine CN E (by unfold shE;rw [if_pos hrb];decide) fun h_t18=>?_
 refine Ck<|aa ?_
 have hlc0:=hlc 0
 refine tl 5 E (y:=((a.getD 0 []).length:Int)) (by unfold shM;rw [if_pos hrb])<|ah<|Wa E<|Wn<|aa<|Cr<|Wa E<|Wn<|aw<|ca 23 kVC<|bX (fun (k:Nat) (v:Value)=>k≤(a.getD 0 []).length) (fun (k:Nat) (v:Value)=>[(0,kMZ.is a),(5,kN6.is ((a.getD 0 []).length:Int)),(7,VP.ex v),(8,kN6.is (k:Int))]) (fun (k:Nat) (v:Value)=>[OB.row v 23 kVC ((List.range k).map (turnR a))]) (fun (k:Nat) (v:Value)=>(a.getD 0 []).length-k) 0 (.slice none 0 0) (by omega) (Z E (Z E (Z E (ao E (ag (y:=(0:Int)) (by rfl)) ai)))) (aW (OS.keepLe (a9 (by rfl)) OS.nil)) ?_
 intro k v hk
 refine aa<|Cr<|Wm E<|Wm E<|Ws (aS E E)<|Wn ?_
 refine aB E (fun h_t21=>?_)<|fun h_t21=>?_
 ·
  refine Ck<|aa<|aw<|Cr<|Wa E<|Wn<|aa<|Cr<|Wa E<|Wn<|aw<|ca 29 kC<|bX (fun (i:Nat) (u:Value)=>i≤a.length) (fun (i:Nat) (u:Value)=>[(0,kMZ.is a),(5,kN6.is ((a.getD 0 []).length:Int)),(7,VP.ex v),(8,kN6.is (k:Int)),(9,VP.ex u),(10,kN6.is (i:Int))]) (fun (i:Nat) (u:Value)=>[OB.row u 29 kC ((List.range i).map (fun x=>matF a x k)),OB.row v 23 kVC ((List.range k).map (turnR a))]) (fun (i:Nat) (u:Value)=>a.length-i) 0 (.slice none 0 0) (by omega) (af E E E E (Z E (ao E (ag (y:=(0:Int)) (by rfl)) ai))) (aW (OS.keepLe (a9 (by rfl)) (OS.keep OS.nil))) ?_
  intro i u hi
  refine aa<|Cr<|Wm E<|Wm E<|Ws (aA E U22)<|Ws (aS E E)<|Wn ?_
  refine aB E (fun h_t27=>?_)<|fun h_t27=>?_
  ·
   refine Ck<|aa<|aw<|ah<|Wm E<|Wm E<|Wm E<|Ws (aT i E E U22 aE E (v:=(a.getD i [])) (gd [] (by omega)))<|Ws (aO E aE)<|Wm E<|Ws (aT k E E U23 ab E (v:=((a.getD i []).getD k 0)) (gd 0 (by have:=hr i (by omega);omega)))<|Ws (aO E ab)<|Ws (f1 fn113 E (eh ((a.getD i []).getD k 0)))<|Ws (bC U23 bo (b9 E bw) E (by decide))<|bL 0 .n E E E Lr U23 bo (by (simp only [List.length_cons,List.length_nil,List.length_map,List.length_range];omega)) fun v1=>Wa E<|aj<|Qb<|ah<|Wm E<|Ws (aI E E (c:=((i:Int)+1)) (ay (by omega)))<|Wa E ?_
   refine aj<|tr 0 E (y:=((List.range (i+1)).map (fun x=>matF a x k))) (eB (fun x=>matF a x k) i) ?_
   exact bP (i+1) v1 (by omega) (by omega) (af E E E E (Z E (ao E (ag (y:=(((i+1):Nat):Int)) (by rfl)) ai)))<|au _
  ·
   refine Ex<|tr 0 E (y:=(turnR a k)) (by rw [show i=a.length by omega];rfl)<|bJ 0 E (kp 0 E (kp 5 E (kp 7 E (kp 8 E (.hit (i:=9) E (kp 10 E (kp 24 E (kp 25 E (kp 26 E (kp 27 E .nil))))))))))<|ah<|Wm E<|Wm E<|Ws (bC U22 c9 (b9 E bw) E (by decide))<|bL 0 .n E E E Lr U22 c9 (by (simp only [List.length_cons,List.length_nil,List.length_map,List.length_range];omega)) fun v2=>Wa E<|aj<|Qb<|ah<|Wm E<|Ws (aI E E (c:=((k:Int)+1)) (ay (by omega)))<|Wa E<|aj<|tr 0 E (y:=((List.range (k+1)).map (turnR a))) (eB (turnR a) k) ?_
   exact bP (k+1) v2 (by omega) (by omega) (Z E (Z E (Z E (ao E (ag (y:=(((k+1):Nat):Int)) (by rfl)) ai))))<|au _
 ·
  refine Ex<|Cr<|Wm E<|Wa E<|Wa E<|Wn<|am<|bJ 0 E (kp 0 E (.hit (i:=2) E (kp 3 E (kp 5 E (.hit (i:=7) E (kp 8 E (kp 19 E (kp 20 E (kp 21 E (.hit (i:=45) E .nil))))))))))<|tl 2 E (y:=(turnV a)) (by rw [show k=(a.getD 0 []).length by omega];rfl) ?_
  exact Qd E (ar E (ar E ak)) ⟨E,E⟩
theorem c_ref04_Same (n:Nat) (a b:List (List Int)) (ha:SzM n a) (hb:SzM n b) (hn:n+n+1≤549755813888):Fn Tryz.prog 86 [kMZ.is a,kMZ.is b] (kBool.is (decide (a=b))):=by
 refine aK Tryz.func86 E E fun m w=>aR (i:=0) E bu fun hB=>Cr<|Wa E<|Wn<|aa<|Cr<|Wm E<|Ws (aA E U22)<|Wm E<|Ws (aA E U22)<|Ws (bt E E)<|Wn ?_
 refine aB E (fun h_t10=>?_)<|fun h_t10=>?_
 ·
  refine Cr<|Wa E<|Wn<|am<|aQ<|tl 4 E (y:=(decide (a=b))) (by rw [eq_comm,decide_eq_false_iff_not];intro e;exact h_t10 (by rw [e])) ?_
  exact Qd E (ar E ak) ⟨E,E⟩
 ·
  refine Ck<|aa<|Cr<|Wa E<|Wn<|aw<|bN (fun (i:Nat)=>i≤a.length∧a.take i=b.take i) (fun (i:Nat)=>[(0,kMZ.is a),(1,kMZ.is b),(5,kN6.is (i:Int))]) (fun (i:Nat)=>[]) (fun (i:Nat)=>a.length-i) 0 ⟨Nat.zero_le _,E⟩ (Z E (Z E (ao E (ag (y:=(0:Int)) (by rfl)) ai))) (au _) ?_
  intro i ⟨hi,ht⟩
  refine aa<|Cr<|Wm E<|Wm E<|Ws (aA E U22)<|Ws (aS E E)<|Wn ?_
  refine aB E (fun h_t14=>?_)<|fun h_t14=>?_
  ·
   refine Ck<|aa<|aw<|aa ?_
   refine ba (Γ:=[.fr (kMZ.is a),.fr (kN6.is (i:Int)),.fr (VP.pim kVZ (a.getD i [])),.fr (kVZ.is (a.getD i [])),.fr (kMZ.is b),.fr (kN6.is (i:Int)),.fr (VP.pim kVZ (b.getD i [])),.fr (kVZ.is (b.getD i [])),.fr (kN6.is (ordV (a.getD i []) (b.getD i []))),.fr (kBool.is (decide ((ordV (a.getD i []) (b.getD i []))≠0)))]) (om E E (om E E (J E (fun N=>aT i E E U22 aE E (v:=(a.getD i [])) (gd [] (by omega))) (J E (fun N=>aO E aE) (om E E (om E E (J E (fun N=>aT i E E U22 aE E (v:=(b.getD i [])) (gd [] (by omega))) (J E (fun N=>aO E aE) (J E (fun N=>f2 fn63 E E (c_ref04_Order n (a.getD i []) (b.getD i []) (ha i) (hb i) hn)) (J E (fun N=>bt E E) oz))))))))))<|fun σ1=>?_
   refine Wn ?_
   refine aB E (fun h_t26=>?_)<|fun h_t26=>?_
   ·
    refine Cr<|Wa E<|Wn<|am<|bE<|aQ<|aQ<|bE<|aQ<|tl 4 E (y:=(decide (a=b))) (by rw [eq_comm,decide_eq_false_iff_not];intro e;exact h_t26 (ordV_zero.2 (by rw [e]))) ?_
    exact Qd E (ar E ak) ⟨E,E⟩
   ·
    refine cc<|Qb<|ah<|Wm E<|Ws (aI E E (c:=((i:Int)+1)) (ay (by omega)))<|Wa E<|aj ?_
    exact bG (i+1) (by omega) ⟨by omega,eq_take (d:=[]) (by omega) (by omega) ht (ordV_zero.1 (Classical.byContradiction fun h=>h_t26 h))⟩ (Z E (Z E (ao E (ag (y:=(((i+1):Nat):Int)) (by rfl)) ai)))<|au _
  ·
   refine Ex<|Cr<|Wa E<|Wn<|am<|tl 4 E (y:=(decide (a=b))) (by rw [eq_comm,decide_eq_true_iff];exact eq_full (i:=i) (by omega) (by omega) ht) ?_
   exact Qd E (ar E ak) ⟨E,E⟩
theorem c_ref04_Bits (b:List (List Int)):Fn Tryz.prog 84 [kMZ.is b] (kN6.is (mbits b)):=by
 refine aK Tryz.func84 E E fun m w=>aR (i:=0) E bu fun hB=>Cr<|Wa E<|Wr<|Wa E<|Wn<|aa<|Cr<|Wa E<|Wn<|aw<|bN (fun (i:Nat)=>i≤b.length) (fun (i:Nat)=>[(0,kMZ.is b),(3,kN6.is ((b.take i).foldl vbN 0)),(4,kN6.is (i:Int))]) (fun (i:Nat)=>[]) (fun (i:Nat)=>b.length-i) 0 (by omega) (Z E (ao E (ag (y:=((b.take 0).foldl vbN 0)) (by rfl)) (ao E (ag (y:=(0:Int)) (by omega)) ai))) (au _) ?_
 intro i hi
 refine aa<|Cr<|Wm E<|Wm E<|Ws (aA E U22)<|Ws (aS E E)<|Wn ?_
 refine aB E (fun h_t9=>?_)<|fun h_t9=>?_
 ·
  refine Ck<|aa<|aw<|Cr<|Wa E<|Wn<|aw<|bN (fun (k:Nat)=>k≤(b.getD i []).length) (fun (k:Nat)=>[(0,kMZ.is b),(3,kN6.is (vbN ((b.take i).foldl vbN 0) ((b.getD i []).take k))),(4,kN6.is (i:Int)),(5,kN6.is (k:Int))]) (fun (k:Nat)=>[]) (fun (k:Nat)=>(b.getD i []).length-k) 0 (by omega) (Z E (ao E (ag (y:=(vbN ((b.take i).foldl vbN 0) ((b.getD i []).take 0))) (by rfl)) (Z E (ao E (ag (y:=(0:Int)) (by omega)) ai)))) (au _) ?_
  intro k hk
  refine aa<|Cr<|Wm E<|Wm E<|Wm E<|Ws (aT i E E U22 aE E (v:=(b.getD i [])) (gd [] (by omega)))<|Ws (aO E aE)<|aR (i:=16) E bu fun hlk=>Ws (aA E U23)<|Ws (aS E E)<|Wn ?_
  refine aB E (fun h_t18=>?_)<|fun h_t18=>?_
  ·
   refine Ck<|aa<|aw ?_
   have hlen:(b.getD i []).length≤1099511627776:=by omega
   refine ah<|Wm E<|Wm E<|Wm E<|Ws (aT i E E U22 aE E (v:=(b.getD i [])) (gd [] (by omega)))<|Ws (aO E aE)<|Wm E<|Ws (aT k E E U23 ab E (v:=((b.getD i []).getD k 0)) (gd 0 (by omega)))<|Ws (aO E ab)<|Ws (f1 fn61 E (c_ref02_Bits ((b.getD i []).getD k 0)))<|Ws (O.mx E E)<|Wa E<|aj<|Qb<|ah<|Wm E<|Ws (aI E E (c:=((k:Int)+1)) (ay (by omega)))<|Wa E<|aj<|tl 3 E (y:=(vbN ((b.take i).foldl vbN 0) ((b.getD i []).take (k+1)))) (vbN_s (by omega)) ?_
   exact bG (k+1) (by omega) (by omega) (Z E (Z E (Z E (ao E (ag (y:=(((k+1):Nat):Int)) (by omega)) ai))))<|au _
  ·
   refine du<|cS<|cS<|dr<|Qb<|ah<|Wm E<|Ws (aI E E (c:=((i:Int)+1)) (ay (by omega)))<|Wa E<|aj<|tl 3 E (y:=((b.take (i+1)).foldl vbN 0)) (mb_done (by omega) (by omega)) ?_
   exact bG (i+1) (by omega) (by omega) (Z E (Z E (ao E (ag (y:=(((i+1):Nat):Int)) (by omega)) ai)))<|au _
 ·
  refine Ex<|Cr<|Wm E<|Wa E<|Wn<|am<|tl 2 E (y:=(mbits b)) (by rw [List.take_of_length_le (by omega)];rfl) ?_
  exact Qd E (ar E ak) ⟨E,E⟩
theorem c_ref22_Valid (a:List (List Int)):Fn Tryz.prog 28 [kMZ.is a] (kN6.is (quadE a)):=by
 refine aK Tryz.func28 E E fun m w=>aR (i:=0) E bu fun hB=>aR (i:=0) E dK fun hlc=>Cr<|Wa E<|Wn ?_
 refine CW.cut (fun (_u:Unit)=>True) (fun (_u:Unit)=>[(0,kMZ.is a),(3,kBool.is (bigN a true 0))]) (fun (_u:Unit)=>[]) ?_ ?_
 ·
  refine ah<|Wm E<|Ws (aA E U22)<|Ws (cq E E)<|Wm E ?_
  refine bV 14 E (fun h_t14=>?_)<|fun h_t14=>?_
  ·
   refine Kt E E<|Kt E E<|Kt E E<|Ws (ch E E)<|Wa E<|aj<|tl 3 E (y:=(bigN a true 0)) (bigN_T h_t14) ?_
   exact ed () trivial (Z E (Z E ai))<|au _
  ·
   refine Wg E E (bj E)<|Wg E E (f1 fn84 E (c_ref04_Bits a))<|Wg E E (cq E E)<|Ws (cb E E)<|Wa E<|aj<|tl 3 E (y:=(bigN a true 0)) (bigN_bT h_t14) ?_
   exact ed () trivial (Z E (Z E ai))<|au _
 intro _u hR
 refine Cr<|Wa E<|Wn<|aa<|Cr<|Wa E<|Wn<|aw<|tl 4 E (y:=(sqN a 0)) E<|bN (fun (i:Nat)=>i≤a.length) (fun (i:Nat)=>[(0,kMZ.is a),(3,kBool.is (bigN a true i)),(4,kBool.is (sqN a i)),(5,kN6.is (i:Int))]) (fun (i:Nat)=>[]) (fun (i:Nat)=>a.length-i) 0 (by omega) (Z E (Z E (Z E (ao E (ag (y:=(0:Int)) (by rfl)) ai)))) (au _) ?_
 intro i hi
 refine aa<|Cr<|Wm E<|Wm E<|Ws (aA E U22)<|Ws (aS E E)<|Wn ?_
 refine aB E (fun h_t22=>?_)<|fun h_t22=>?_
 ·
  refine Ck<|aa<|aw<|Cr<|Wm E<|Wm E ?_
  refine WP.split 26 E (fun h_t26=>?_)<|fun h_t26=>?_
  ·
   refine Kt E E<|Kt E E<|Kt E E<|Kt E E<|Kt E E<|Kt E E<|Ws (ch E E)<|Wa E<|Wn<|ah<|Wm E<|Wm E ?_
   refine WP.split 35 E (fun h_t35=>?_)<|fun h_t35=>?_
   ·
    refine Wg E E (bj E)<|Wg E E (bj E)<|Wg E E (aT i E E U22 aE E (v:=(a.getD i [])) (gd [] (by omega)))<|Wg E E (aO E aE)<|Wg E E (aA E U23)<|Wg E E (bj E)<|Wg E E (aA E U22)<|Wg E E (bR E E)<|Ws (ch E E)<|Wa E<|aj<|Qb<|ah<|Wm E<|Ws (aI E E (c:=((i:Int)+1)) (ay (by omega)))<|Wa E<|aj<|tl 3 E (y:=(bigN a true (i+1))) (by rw [bigN_succ (by omega)];simp [h_t26])<|tl 4 E (y:=(sqN a (i+1))) (by rw [sqN_succ (by omega)];simp [h_t35]) ?_
    exact bG (i+1) (by omega) (by omega) (Z E (Z E (Z E (ao E (ag (y:=(((i+1):Nat):Int)) (by rfl)) ai))))<|au _
   ·
    refine Kf E E<|Kf E E<|Kf E E<|Kf E E<|Kf E E<|Kf E E<|Kf E E<|Kf E E<|Ws (cb E E)<|Wa E<|aj<|Qb<|ah<|Wm E<|Ws (aI E E (c:=((i:Int)+1)) (ay (by omega)))<|Wa E<|aj<|tl 3 E (y:=(bigN a true (i+1))) (by rw [bigN_succ (by omega)];simp [h_t26])<|tl 4 E (y:=(sqN a (i+1))) (by rw [sqN_succ (by omega)];simp [h_t35]) ?_
    exact bG (i+1) (by omega) (by omega) (Z E (Z E (Z E (ao E (ag (y:=(((i+1):Nat):Int)) (by rfl)) ai))))<|au _
  ·
   refine Wg E E (bj E)<|Wg E E (bj E)<|Wg E E (aT i E E U22 aE E (v:=(a.getD i [])) (gd [] (by omega)))<|Wg E E (aO E aE)<|Wg E E (aA E U23)<|Wg E E (cq E E)<|Ws (cb E E)<|Wa E<|Wn<|ah<|Wm E<|Wm E ?_
   refine WP.split 35 E (fun h_t35=>?_)<|fun h_t35=>?_
   ·
    refine Wg E E (bj E)<|Wg E E (bj E)<|Wg E E (aT i E E U22 aE E (v:=(a.getD i [])) (gd [] (by omega)))<|Wg E E (aO E aE)<|Wg E E (aA E U23)<|Wg E E (bj E)<|Wg E E (aA E U22)<|Wg E E (bR E E)<|Ws (ch E E)<|Wa E<|aj<|Qb<|ah<|Wm E<|Ws (aI E E (c:=((i:Int)+1)) (ay (by omega)))<|Wa E<|aj<|tl 3 E (y:=(bigN a true (i+1))) (by rw [bigN_succ (by omega)];simp [h_t26])<|tl 4 E (y:=(sqN a (i+1))) (by rw [sqN_succ (by omega)];simp [h_t35]) ?_
    exact bG (i+1) (by omega) (by omega) (Z E (Z E (Z E (ao E (ag (y:=(((i+1):Nat):Int)) (by rfl)) ai))))<|au _
   ·
    refine Kf E E<|Kf E E<|Kf E E<|Kf E E<|Kf E E<|Kf E E<|Kf E E<|Kf E E<|Ws (cb E E)<|Wa E<|aj<|Qb<|ah<|Wm E<|Ws (aI E E (c:=((i:Int)+1)) (ay (by omega)))<|Wa E<|aj<|tl 3 E (y:=(bigN a true (i+1))) (by rw [bigN_succ (by omega)];simp [h_t26])<|tl 4 E (y:=(sqN a (i+1))) (by rw [sqN_succ (by omega)];simp [h_t35]) ?_
    exact bG (i+1) (by omega) (by omega) (Z E (Z E (Z E (ao E (ag (y:=(((i+1):Nat):Int)) (by rfl)) ai))))<|au _
 ·
  refine Ex<|aa<|aw<|aa<|tl 3 E (y:=(bigN a true a.length)) (by rw [show i=a.length by omega])<|tl 4 E (y:=(sqN a a.length)) (by rw [show i=a.length by omega])<|ah<|Wm E<|Wa E<|Wn ?_
  refine dx E (fun h_t45=>?_)<|fun h_t45=>?_
  ·
   refine Cr<|Wa E<|Wn<|am<|bE<|aQ<|tl 2 E (y:=(quadE a)) (by rw [quadE_1 (by rw [qshape_1 h_t45];decide),qshape_1 h_t45]) ?_
   exact Qd E (ar E ak) ⟨E,E⟩
  ·
   refine Cr<|Wm E<|Ws (aA E U22)<|Ws (bR E E)<|Wa E<|Wn ?_
   refine aB E (fun h_t47=>?_)<|fun h_t47=>?_
   ·
    refine Cr<|Wa E<|Wn<|am<|bE<|aQ ?_
    have hb1:¬bigN a true a.length=true:=by simp [h_t45]
    refine tl 2 E (y:=(quadE a)) (by rw [quadE_1 (by rw [qshape_2 hb1 (by omega)];decide),qshape_2 hb1 (by omega)]) ?_
    exact Qd E (ar E ak) ⟨E,E⟩
   ·
    refine Cr<|Wm E<|Ws (di E)<|Wa E<|Wn ?_
    refine dx E (fun h_t51=>?_)<|fun h_t51=>?_
    ·
     refine Cr<|Wa E<|Wn<|am<|bE<|aQ ?_
     have hb1:¬bigN a true a.length=true:=by simp [h_t45]
     have hb3:¬sqN a a.length=true:=by simpa using h_t51
     refine tl 2 E (y:=(quadE a)) (by rw [quadE_1 (by rw [qshape_3 hb1 (by omega) hb3];decide),qshape_3 hb1 (by omega) hb3]) ?_
     exact Qd E (ar E ak) ⟨E,E⟩
    ·
     refine cc<|Qb<|aa ?_
     have hb1:¬bigN a true a.length=true:=by simp [h_t45]
     have hb3:sqN a a.length=true:=by simpa using h_t51
     obtain ⟨q1,q2,q3⟩:=bigN_no hb1
     have hq:=sqN_iff.1 hb3
     have hZ:SzM 256 a:=mbits_Sz (q2 rfl)
     have hR1:RectL a:=fun i hi=>by rw [hq i hi,hq 0 (by omega)]
     have hRR:RectL a∧rect a=true:=⟨hR1,rect_iff.2 hR1⟩
     have hTs:=(turnV_Sz hZ).sm (by decide)
     have hS0:=turn_sym hq (by omega)
     refine ah<|Wm E<|Ws (f1 fn85 E (c_ref04_Turn 256 a hRR.1 hRR.2))<|Wm E<|Ws (aH E E)<|Ws (aH E E)<|Wa E<|Wa E<|Wn<|aa<|Cr<|Wm E<|Wm E<|Ws (aF fn86 (aX E (aq E (dQ (hTs)) ax)) (c_ref04_Same 256 a (turnV a) hZ (turnV_Sz hZ) (by decide)))<|Ws (di E)<|Wn ?_
     refine dx E (fun h_t62=>?_)<|fun h_t62=>?_
     ·
      refine Cr<|Wa E<|Wn<|am<|aQ ?_
      have hsy:¬symB a=true:=fun e=>by have:=hS0.2 e;simp [←this] at h_t62
      refine tl 2 E (y:=(quadE a)) (by rw [quadE_1 (by rw [qshape_4 hb1 (by omega) hb3 hsy];decide),qshape_4 hb1 (by omega) hb3 hsy]) ?_
      exact Qd E (ar E ak) ⟨E,E⟩
     ·
      refine Ck<|aa ?_
      have hsy:symB a=true:=hS0.1 (by simpa using h_t62)
      have hq0:=qshape_5 hb1 (by omega) hb3 hsy
      have hS:=sqd_sqm (sqm_of hq0)
      refine ah<|Wm E<|cF (Li:=[]) (L:=[]) .n fn87 (aX E ax) (c_ref06_Minors a hS) fun p_ Lo_ hp_=>?_
      obtain ⟨ds,rfl,rfl,hD⟩:=hp_
      refine Wm E<|Ws (aH E E)<|Ws (aH E E)<|Wa E<|Wa E<|Wn<|aa<|aa ?_
      have hdl:=hD.1
      refine ah<|Wa E<|Wn<|aw<|bN (fun (i:Nat)=>i≤a.length∧PosU (matF a) i) (fun (i:Nat)=>[(0,kMZ.is a),(8,kVC.is ds),(10,kN6.is (i:Int))]) (fun (i:Nat)=>[]) (fun (i:Nat)=>a.length-i) 0 ⟨Nat.zero_le _,fun l hl=>absurd hl (by omega)⟩ (Z E (Z E (ao E (ag (y:=(0:Int)) (by rfl)) ai))) (au _) ?_
      intro i ⟨hi,hP⟩
      refine aa<|Cr<|Wm E<|Wm E<|Ws (aA E U23)<|Ws (aS E E)<|Wn ?_
      refine aB E (fun h_t71=>?_)<|fun h_t71=>?_
      ·
       refine Ck<|aa<|aw<|Cr<|Wm E<|Wm E<|Ws (aT i E E U23 ab E (v:=(ds.getD i 0)) (gd 0 (by omega)))<|Ws (aO E ab)<|Ws (aF fn88 (aq E (aJ ((hD.2.1 i).sm (by decide))) ax) (dO (ds.getD i 0)))<|Ws (O.le E E)<|Wn ?_
       refine aB E (fun h_t79=>?_)<|fun h_t79=>?_
       ·
        refine Cr<|Wa E<|Wn<|am<|bE<|aQ<|aQ<|bE<|aQ<|tl 2 E (y:=(quadE a)) (quadE_no hq0 (i:=i) (by omega) (by rw [←hD.2.2 i (by omega) hP];exact h_t79)).symm ?_
        exact Qd E (ar E ak) ⟨E,E⟩
       ·
        refine cc<|Qb<|ah<|Wm E<|Ws (aI E E (c:=((i:Int)+1)) (ay (by omega)))<|Wa E<|aj ?_
        exact bG (i+1) (by omega) ⟨by omega,posU_succ hP (by rw [←hD.2.2 i (by omega) hP];exact h_t79)⟩ (Z E (Z E (ao E (ag (y:=(((i+1):Nat):Int)) (by rfl)) ai)))<|au _
      ·
       refine Ex<|Cr<|Wa E<|Wn<|am<|tl 2 E (y:=(quadE a)) (quadE_yes hq0 (by rw [show i=a.length by omega] at hP;exact hP)).symm ?_
       exact Qd E (ar E ak) ⟨E,E⟩
theorem c_ref22_product (n:Nat) (a:List (List Int)) (x y:List Int) (ha:SzM 256 a) (hx:SzL n x) (hy:SzL n y) (hok:combOk x a) (hl:a.length≤12) (hyl:y.length=(a.getD 0 []).length) (hc:y.length≤12) (hn:n≤4294967296):Fn Tryz.prog 163 [kMZ.is a,kVZ.is x,kVZ.is y] (kC.is (dotV (combV x a) y)):=by
 refine aK Tryz.func163 E E fun m w=>Cr<|a8 .n aZ fun b1=>Wr<|Wm E<|Wm E<|Ws (f2 fn62 E E (c_ref04_Combine (n+256) x a (hx.up (by omega)) (ha.up (by omega)) (by omega)))<|Wm E<|Ws (aH E E)<|Ws (aH E E)<|Wa E<|Wa E<|Wn<|aa<|tl 7 E (y:=(combV x a)) (comb_yes hok).1.symm ?_
 have hC:SzL (n+512) (combV x a):=(combV_Sz hx ha).up (by omega)
 have hll:(combV x a).length=y.length:=by rw [combV_len,hyl]
 refine ah<|Wm E<|Wm E<|Ws (aF fn115 (aq E (dS (by exact hC.sm (by omega))) (aX E ax)) (c_ref04_Dot (n+512) (combV x a) y hC (hy.up (by omega)) (by rw [combV_len];omega)))<|cC (q:=VP.tup [kC.is (dotV (combV x a) y),kN6.is 0]) 20 E (tup_le (eD (ag (if_pos hll)) (eD (ag (if_pos hll)) tup_nil)))<|Wm E<|Ws (aH E E)<|Ws (aH E E)<|Ax (l:=kC) (u:=dotV (combV x a) y) aZ E ab (fun _=>E) Lr fun b2=>Wa E<|Wr<|Ws (ae E (ac 0 E) Li ab E)<|aG .n (aD (l:=kC) (u:=dotV (combV x a) y) 1 E E E ab E Lr)<|Wn<|am ?_
 exact Qd E (a5 E (ac 1 E) ab ak) ⟨E,E⟩
theorem c_law22_ownm (b:List (List Int)):Fn Tryz.prog 26 [kMZ.is b] (kMZ.is b):=by
 refine aK Tryz.func26 E E fun m w=>aR (i:=0) E bu fun hB=>Cr<|Wa E<|Wr<|Wa E<|Wn<|aa<|Cr<|Wa E<|Wn<|aw<|ca 23 kVZ<|bX (fun (i:Nat) (v:Value)=>i≤b.length) (fun (i:Nat) (v:Value)=>[(0,kMZ.is b),(3,VP.ex v),(4,kN6.is (i:Int))]) (fun (i:Nat) (v:Value)=>[OB.row v 23 kVZ (b.take i)]) (fun (i:Nat) (v:Value)=>b.length-i) 0 (.slice none 0 0) (by omega) (Z E (Z E (ao E (ag (y:=(0:Int)) (by omega)) ai))) (aW (OS.keepLe (a9 (by simp)) OS.nil)) ?_
 intro i v hR
 have htl:(b.take i).length=i:=by simp;omega
 refine aa<|Cr<|Wm E<|Wm E<|Ws (aA E U22)<|Ws (aS E E)<|Wn ?_
 refine aB E (fun h_t8=>?_)<|fun h_t8=>?_
 ·
  refine Ck<|aa<|aw<|ah<|Wm E<|Wm E<|Wm E<|Ws (aT i E E U22 aE E (v:=(b.getD i [])) (gd [] (by omega)))<|Ws (aO E aE)<|Ws (f1 fn81 E (c_law22_owns (b.getD i [])))<|Ws (bC U22 eT (b9 E bw) E (by decide))<|bL 0 .n E E E Lr U22 eT (by simp;omega) fun v1=>Wa E<|aj<|Qb<|ah<|Wm E<|Ws (aI E E (c:=((i:Int)+1)) (ay (by omega)))<|Wa E<|aj<|tr 0 E (y:=(b.take (i+1))) (eV (by omega)) ?_
  exact bP (i+1) v1 (by omega) (by omega) (Z E (Z E (ao E (ag (y:=(((i+1):Nat):Int)) (by omega)) ai)))<|au _
 ·
  refine Ex<|Cr<|Wm E<|Wa E<|Wn<|am<|bJ 0 E (kp 0 E (.hit (i:=2) E (.hit (i:=3) E (kp 4 E (kp 5 E (kp 6 E (kp 7 E (kp 8 E (.hit (i:=19) E .nil)))))))))<|tl 2 E (y:=b) (List.take_of_length_le (by omega)) ?_
  exact Qd E (ar E ak) ⟨E,E⟩
abbrev fp:=@c_law22_ownm
end Fw
namespace Fw
section
open Go
end
end Fw
namespace Fw
open Go
instance (G:Fi) (x:Nat):Decidable (lov G x):=by unfold lov;infer_instance
structure WL where
  b:List (List Int)
  u:List (List Int)
  v:List (List Int)
def w0 (b:List (List Int)):WL×List Int×Nat:=(⟨b,unitV b.length,unitV b.length⟩,[],1)
end Fw
namespace Fw
open Go Go.Proofs
end Fw
namespace Fw
open Go
end Fw
namespace Fw
open Go Go.Proofs
end Fw
namespace Fw
open Go
def floorQ (p:Rat):Int:=(rq p).1.fdiv (rq p).2
theorem floorQ_spec (p:Rat):(floorQ p:Rat)≤p∧p<(floorQ p:Rat)+1:=by
  have hd:=rq_den_pos p
  have hdq:(0:Rat)<((rq p).2:Rat):=by exact_mod_cast hd
  have hne:((rq p).2:Rat)≠0:=pos_ne hdq
  have e:=rq_val p
  have ea:((rq p).1:Rat)=p*((rq p).2:Rat):=by rw [←e];grind
  have hdef:=Int.fmod_def (rq p).1 (rq p).2
  have f1:=Int.fmod_nonneg_of_pos (rq p).1 hd
  have f2:=Int.fmod_lt_of_pos (rq p).1 hd
  have hz:(rq p).1.fdiv (rq p).2=floorQ p:=rfl
  rw [hz] at hdef
  generalize floorQ p=z at *
  generalize (rq p).1=a at *
  generalize (rq p).2=d at *
  have g1:d*z≤a:=by omega
  have g2:a<d*z+d:=by omega
  have q1:((d*z:Int):Rat)≤(a:Rat):=by exact_mod_cast g1
  have q2:(a:Rat)<((d*z+d:Int):Rat):=by exact_mod_cast g2
  rw [Rat.intCast_mul,ea] at q1
  rw [Rat.intCast_add,Rat.intCast_mul,ea] at q2
  constructor
  · by_cases h:(z:Rat)≤p
    · exact h
    · have h3:0<(z:Rat)-p:=by have:=Rat.not_le.1 h;grind
      have:=Rat.mul_pos hdq h3
      grind
  · by_cases h:p<(z:Rat)+1
    · exact h
    · replace h:=Rat.not_lt.mp h
      have h3:0≤p-((z:Rat)+1):=by grind
      have:=Rat.mul_nonneg (Rat.le_of_lt hdq) h3
      grind
theorem floor_uniq {p:Rat} {x y:Int} (h1:(x:Rat)≤p) (h2:p<(x:Rat)+1) (h3:(y:Rat)≤p) (h4:p<(y:Rat)+1):x=y:=by
  have a:(x:Rat)<((y+1:Int):Rat):=by rw [Rat.intCast_add];have e:((1:Int):Rat)=1:=rfl;rw [e];grind
  have b:(y:Rat)<((x+1:Int):Rat):=by rw [Rat.intCast_add];have e:((1:Int):Rat)=1:=rfl;rw [e];grind
  have a':=Rat.intCast_lt_intCast.mp a
  have b':=Rat.intCast_lt_intCast.mp b
  omega
theorem floor_near (p:Rat):floorQ (p+1/2)=nearQ p:=by
  obtain ⟨h1,h2⟩:=floorQ_spec (p+1/2)
  obtain ⟨h3,h4⟩:=near_spec p
  exact floor_uniq h1 h2 h3 h4
theorem rq_cmp0 (p q:Rat):(rq (p-q)).1.sign≤0↔p≤q:=by
  have h:=rq_cmp (p-q) 0
  have e:rq 0=(0,1):=rq_int 0
  rw [e] at h
  have e2:(rq (p-q)).1*(0,1).2-(0,1).1*(rq (p-q)).2=(rq (p-q)).1:=by
    show (rq (p-q)).1*1-0*(rq (p-q)).2=_
    omega
  rw [e2] at h
  rw [h]
  constructor <;> intro h1 <;> grind
abbrev Rw:=Int×Int
def rv (x:Rw):Rat:=(x.1:Rat)/(x.2:Rat)
end Fw
namespace Fw
open Go Go.Proofs
theorem c_ref03_Floor (n:Nat) (p:Rat) (hp:RZ n p) (hn:n≤68719476736):Fn Tryz.prog 159 [kRC.is (rq p)] (kC.is (floorQ p)):=by
 refine aK Tryz.func159 E E fun m w=>Cr<|a6 .n E fun b1=>a8 .n aZ fun b2=>Wr<|Ws (aM E db E)<|Ws (ae E (ac 1 E) (aU Li) ab E)<|Ws (aM E cX E)<|Ws (ae E (ac 1 E) (aN Li) ab E)<|Ws (aF fn162 (aq E (aJ (hp.a.sm (by omega))) (aq E (aJ (hp.b.sm (by omega))) ax)) (fo ((rq p).1) ((rq p).2) (ej p)))<|Wm E<|Ws (aH E E)<|Ws (aH E E)<|a8 .n aZ fun b3=>a8 .n aZ fun b4=>aG .n (aD (l:=kC) (u:=((rq p).1).fdiv ((rq p).2)) 1 E E E ab E Lr)<|aG .n (aD (l:=kC) (u:=((rq p).1).fmod ((rq p).2)) 0 E E E ab E Lr)<|Wn<|aa ?_
 refine ah<|Ws (ae E (ac 1 E) Li ab E)<|aG .n (aD (l:=kC) (u:=((rq p).1).fdiv ((rq p).2)) 2 E E E ab E Lr)<|Wn<|am<|tb 2 E (y:=(floorQ p)) E ?_
 exact Qd E (a5 E (ac 2 E) ab ak) ⟨E,E⟩
theorem c_ref03_Half  : Fn Tryz.prog 160 [] (kRC.is (rq (1/2:Rat))):=by
 refine aK Tryz.func160 E E fun m w=>Cr<|a8 .n bU fun b1=>Wr<|Ws (aF fn114 ax (c_ref03_one))<|Ws (aF dj (aq E (cD (by omega)) ax) (dh 2))<|Ws (cH eL E (cU E (cU E bH)) (.cons E (aU Li) (.cons E (aN Li) (.nil _))))<|aG .n (aD (l:=kRC) (u:=(1,2)) 0 E E E aL E Lr)<|Wn<|am<|tb 0 E (y:=(rq (1/2:Rat))) (by decide +kernel) ?_
 exact Qd E (a5 E (ac 0 E) aL ak) ⟨E,E⟩
theorem c_ref03_Near (n:Nat) (p:Rat) (hp:RZ n p) (hn:n≤17179869184):Fn Tryz.prog 90 [kRC.is (rq p)] (kC.is (nearQ p)):=by
 refine aK Tryz.func90 E E fun m w=>?_
 have rH:RZ 3 (1/2:Rat):=RZ.of (n:=1) (d:=2) (by decide) (by decide +kernel) (show (1:Int).natAbs<2^3 by decide) (show (2:Int).natAbs<2^3 by decide)
 have rS:=(hp.up (show n≤n+3 by omega)).add (rH.up (show 3≤n+3 by omega))
 refine Cr<|a6 .n E fun b1=>a8 .n aZ fun b2=>Wn<|aa ?_
 refine ba (Γ:=[.fr (kRC.is (rq p)),.fr (kRC.is (rq (1/2:Rat))),.fr (kRC.is (rq (p+(1/2:Rat)))),.fr (kC.is (floorQ (p+1/2)))]) (J E (fun N=>ae E (mN N 1 E) Li aL E) (J E (fun N=>aF fn160 ax (c_ref03_Half)) (J E (fun N=>f2 fn74 E E (c_ref03_Add (n+3) p (1/2:Rat) (hp.up (by omega)) (rH.up (by omega)) (by omega))) (J E (fun N=>aF fn159 (aq E (ag (y:=rq (p+1/2)) (by rfl)) ax) (c_ref03_Floor (n+3+(n+3)+1) (p+1/2) rS (by omega))) oz))))<|fun σ1=>?_
 refine aG .n (aD (l:=kC) (u:=floorQ (p+1/2)) 0 E E E ab E Lr)<|Wn<|am<|tb 0 E (y:=(nearQ p)) (floor_near p) ?_
 exact Qd E (a5 E (ac 0 E) ab ak) ⟨E,E⟩
theorem c_ref03_Cmp (n:Nat) (p q:Rat) (hp:RZ n p) (hq:RZ n q) (hn:n≤68719476736):Fn Tryz.prog 64 [kRC.is (rq p),kRC.is (rq q)] (kN6.is ((rq (p-q)).1.sign)):=by
 refine aK Tryz.func64 E E fun m w=>?_
 have rD:=hp.sub2 hq
 refine Cr<|a6 .n E fun b1=>a6 .n E fun b2=>Wa E<|Wr<|Ws (ae E (ac 1 E) Li aL E)<|Ws (ae E (ac 0 E) Li aL E)<|Ws (f2 fn103 E E (c_ref03_Sub n p q (by assumption) (by assumption) (by assumption)))<|Ws (O.fld E E prt31_0 (aU Li) E)<|Ws (aF fn88 (aq E (aJ (by exact rD.a.sm (by omega))) ax) (dO ((rq (p-q)).1)))<|Wa E<|Wn<|am ?_
 exact Qd E (cz E (ag (y:=(rq (p-q)).1.sign) (by rfl)) ak) ⟨E,E⟩
theorem c_ref05_Star (G:Nat→Nat→Int) (n nB i:Nat) (hs:SymG G) (hP:PosU G n) (hi:i<n) (h12:n≤12) (hD:∀k,k≤n→Sz nB (uD G k)) (hB:nB≤68719476736):Fn Tryz.prog 75 [kGso.is (gDs (G) n,gLs (G) n),kN6.is (i:Int)] (kRC.is (rq (frS G i))):=by
 refine aK Tryz.func75 E E fun m w=>Cr<|a6 .n E fun b1=>a8 .n bU fun b2=>Wn<|aa ?_
 refine ba (Γ:=[.fr (VP.pt b1 0),.fr (kVC.is (gDs (G) n)),.fr (kN6.is (i:Int)),.fr (kN6.is ((i:Int)+1)),.fr (VP.pim kC (uD G (i+1))),.fr (kC.is (uD G (i+1))),.fr (VP.pt b1 0),.fr (kVC.is (gDs (G) n)),.fr (kN6.is (i:Int)),.fr (VP.pim kC (uD G i)),.fr (kC.is (uD G i)),.fr (kRC.is (rmk (uD G (i+1)) (uD G i)))]) (J E (fun N=>aM E cE E) (J E (fun N=>ae (p:=kVC.is (gDs (G) n)) E (mN N 1 E) (aU Li) aE E) (om E E (J E (fun N=>aI E E (c:=((i:Int)+1)) (ay (by omega))) (J E (fun N=>aT (i+1) E E U23 ab (by omega) (v:=(uD G (i+1))) (dd (by omega))) (J E (fun N=>aO E ab) (J E (fun N=>aM E cE E) (J E (fun N=>ae (p:=kVC.is (gDs (G) n)) E (mN N 1 E) (aU Li) aE E) (om E E (J E (fun N=>aT i E E U23 ab (by omega) (v:=(uD G i)) (dd (by omega))) (J E (fun N=>aO E ab) (J E (fun N=>aF fn138 (aq E (aJ ((hD (i+1) (by omega)).sm (by omega))) (aq E (aJ ((hD i (by omega)).sm (by omega))) ax)) (eg (uD G (i+1)) (uD G i) (uD_ne hP (by omega)))) oz))))))))))))<|fun σ1=>?_
 refine aG .n (aD (l:=kRC) (u:=rmk (uD G (i+1)) (uD G i)) 0 E E E aL E Lr)<|Wn<|am<|tb 0 E (y:=(rq (frS G i))) (frS_rmk hs hP hi) ?_
 exact Qd E (a5 E (ac 0 E) aL ak) ⟨E,E⟩
end Fw
