/- Frame, facts and contracts for ClosePlans. -/
import Derived.Test.YtjbfmocbophmlaaGreatCClosePlansC
set_option exponentiation.threshold 600
set_option linter.unusedVariables false
set_option linter.unusedSimpArgs false
set_option maxRecDepth 20000
set_option maxHeartbeats 1000000
namespace Fw
open Go
section
variable {C:Ctx} {Q:Exit→Act→World→Prop} {ρ ρ':Env} {L L':List OB}
theorem ST.zp {K:Act→World→Prop} {z:Int} (i:Nat) (e:ρ.get i=some (VP.pim kZ z)) (h:∀y:Bool×List Nat,ival y=z→y.2.length≤17179869184→Lims y.2→ST C K ((i,VP.pim kI y)::ρ) L):ST C K ρ L:=fun m w a s t=>by
  obtain ⟨g,o,c,cells,e1,e2,e3,y,e4,e5,e6⟩:=t.get i _ e
  have hl:Lims y.2:=by
    obtain ⟨c1,c2,h2,h3,h4⟩:=e4
    obtain ⟨ad,cap,rfl,_⟩:=h4
    exact kN_lims m _ ⟨_,rfl,ad,cap,rfl,by assumption⟩
  exact h y e5 e6 hl m w a s (t.consH ⟨g,o,c,cells,e1,e2,e3,e4⟩)
end
def bigN (b:List (List Int)) (bits:Bool) (i:Nat):Bool:=(decide ((12:Int)<(b.length:Int))||(bits&&decide ((256:Int)<mbits b)))||(b.take i).any (fun r=>decide ((12:Int)<(r.length:Int)))
theorem bigN_T {b bits} (h:(12:Int)<(b.length:Int)):true=bigN b bits 0:=by simp [bigN];left;omega
theorem bigN_bT {b} (h:¬(12:Int)<(b.length:Int)):decide ((256:Int)<mbits b)=bigN b true 0:=by simp [bigN];omega
theorem bigN_bF {b} (h:¬(12:Int)<(b.length:Int)):false=bigN b false 0:=by simp [bigN];omega
theorem bigN_succ {b bits i} (h:i<b.length):bigN b bits (i+1)=(bigN b bits i||decide ((12:Int)<((b.getD i []).length:Int))):=by
  unfold bigN
  rw [←take_app (d:=[]) h,List.any_append]
  simp [Bool.or_assoc]
def gshape (b:List (List Int)) (bits:Bool):Int:=if bigN b bits b.length=true then 40 else if b.length=0 then 41 else shE b
theorem gshape_big {b bits} (h:bigN b bits b.length=true):gshape b bits=40:=if_pos h
abbrev f8:=@gshape_big
theorem gshape_nil {b bits} (h:¬bigN b bits b.length=true) (h0:b.length=0):gshape b bits=41:=by unfold gshape;rw [if_neg h,if_pos h0]
abbrev gw:=@gshape_nil
theorem gshape_else {b bits} (h:¬bigN b bits b.length=true) (h0:¬b.length=0):gshape b bits=shE b:=by unfold gshape;rw [if_neg h,if_neg h0]
theorem bigN_no {b bits} (h:¬bigN b bits b.length=true):b.length≤12∧(bits=true→mbits b≤256)∧∀i,(b.getD i []).length≤12:=by
  unfold bigN at h
  simp only [List.take_length,Bool.or_eq_true,Bool.and_eq_true,decide_eq_true_eq,List.any_eq_true,not_or,not_and,not_exists] at h
  obtain ⟨⟨h1,h2⟩,h3⟩:=h
  refine ⟨by omega,fun hb=>by have:=h2 hb;omega,fun i=>?_⟩
  by_cases hi:i<b.length
  · have:=h3 (b.getD i []) (by rw [gde _ [] hi];exact List.getElem_mem hi);omega
  · have e:b.getD i []=[]:=by simp [List.getD,Nat.le_of_not_lt hi]
    rw [e];simp
theorem gshape_ok {b bits} (h:gshape b bits=0):¬bigN b bits b.length=true∧0<b.length∧rect b=true:=by
  by_cases h1:bigN b bits b.length=true
  · rw [gshape_big h1] at h;exact absurd h (by decide)
  · by_cases h2:b.length=0
    · rw [gshape_nil h1 h2] at h;exact absurd h (by decide)
    · rw [gshape_else h1 h2] at h;exact ⟨h1,by omega,rect_of_shE (by omega)⟩
theorem vbN_le {c:Int} {v:List Int}:∀{n:Int},n≤c→(∀x∈v,(bitlen x.natAbs:Int)≤c)→vbN n v≤c:=by
  induction v with
  | nil=>intro n h _;exact h
  | cons x v ih=>
    intro n h hx
    refine ih (n:=vbF n x) ?_ (fun y hy=>hx y (List.mem_cons_of_mem _ hy))
    have:=hx x (by simp)
    unfold vbF
    omega
theorem mb_ge:∀(b:List (List Int)) (n:Int),n≤b.foldl vbN n
  | [],n=>Int.le_refl n
  | r::b,n=>Int.le_trans (vbN_ge n r) (mb_ge b (vbN n r))
theorem mb_mem:∀{b:List (List Int)} {n:Int} {r:List Int} {x:Int},r∈b→x∈r→(bitlen x.natAbs:Int)≤b.foldl vbN n
  | s::b,n,r,x,h,hx=>by
    rcases List.mem_cons.1 h with e | h
    · subst e;exact Int.le_trans (vbN_mem hx) (mb_ge b _)
    · exact mb_mem (b:=b) (n:=vbN n s) h hx
theorem mb_le {c:Int}:∀{b:List (List Int)} {n:Int},n≤c→(∀r∈b,∀x∈r,(bitlen x.natAbs:Int)≤c)→b.foldl vbN n≤c
  | [],n,h,_=>h
  | r::b,n,h,hx=>mb_le (b:=b) (vbN_le h (hx r (by simp))) (fun s hs=>hx s (List.mem_cons_of_mem _ hs))
theorem getD_mem {α:Type} {l:List α} {i:Nat} (d:α) (h:i<l.length):l.getD i d∈l:=by rw [gde l d h];exact List.getElem_mem h
abbrev fu:=@getD_mem
theorem mem_getD {α:Type} {l:List α} {x:α} (d:α) (h:x∈l):∃i,i<l.length∧l.getD i d=x:=by
  obtain ⟨i,hi,rfl⟩:=List.getElem_of_mem h
  exact ⟨i,hi,gde l d hi⟩
theorem mbits_Sz {b:List (List Int)} {c:Nat} (h:mbits b≤c):SzM c b:=by
  intro i k
  by_cases hi:i<b.length
  · by_cases hk:k<(b.getD i []).length
    · have h1:=mb_mem (n:=0) (getD_mem [] hi) (getD_mem 0 hk)
      have h2:=lt_bitlen ((b.getD i []).getD k 0).natAbs
      exact Nat.lt_of_lt_of_le h2 (Nat.pow_le_pow_right (by decide) (by have h3:mbits b=b.foldl vbN 0:=rfl;omega))
    · have e:(b.getD i []).getD k 0=0:=by rw [List.getD_eq_getElem?_getD,List.getElem?_eq_none (by omega)];rfl
      rw [e];exact Sz.zero _
  · have e:b.getD i []=[]:=by simp [List.getD,Nat.le_of_not_lt hi]
    rw [e];exact Sz.zero _
def rowsTo (b:List (List Int)) (bits:Bool) (i:Nat):Prop:=∀j,j<i→(b.getD j []).length≤12∧(bits=true→∀k,k<(b.getD j []).length→(bitlen ((b.getD j []).getD k 0).natAbs:Int)≤256)
theorem rowsTo_end {b bits} (h0:¬(12:Int)<(b.length:Int)) (h:rowsTo b bits b.length):¬bigN b bits b.length=true:=by
  unfold bigN
  simp only [List.take_length,Bool.or_eq_true,Bool.and_eq_true,decide_eq_true_eq,List.any_eq_true,not_or,not_and,not_exists]
  refine ⟨⟨h0,fun hb=>?_⟩,fun r hr=>?_⟩
  · have:mbits b≤256:=mb_le (by decide) fun r hr x hx=>by
      obtain ⟨j,hj,rfl⟩:=mem_getD [] hr
      obtain ⟨k,hk,rfl⟩:=mem_getD 0 hx
      exact (h j hj).2 hb k hk
    omega
  · obtain ⟨j,hj,rfl⟩:=mem_getD [] hr
    have:=(h j hj).1;omega
theorem big_row {b bits i} (hi:i<b.length) (h:(12:Int)<((b.getD i []).length:Int)):bigN b bits b.length=true:=by
  unfold bigN
  simp only [List.take_length,Bool.or_eq_true,decide_eq_true_eq,List.any_eq_true]
  exact .inr ⟨_,getD_mem [] hi,h⟩
theorem big_bit {b i k} (hi:i<b.length) (hk:k<(b.getD i []).length) (h:(256:Int)<(bitlen ((b.getD i []).getD k 0).natAbs:Int)):bigN b true b.length=true:=by
  unfold bigN
  simp only [List.take_length,Bool.or_eq_true,Bool.and_eq_true,decide_eq_true_eq,List.any_eq_true]
  have h1:=mb_mem (n:=0) (getD_mem [] hi) (getD_mem 0 hk)
  have h3:mbits b=b.foldl vbN 0:=rfl
  exact .inl (.inr ⟨trivial,by omega⟩)
theorem big_len {b bits} (h:(12:Int)<(b.length:Int)):bigN b bits b.length=true:=by
  unfold bigN
  simp only [Bool.or_eq_true,decide_eq_true_eq]
  exact .inl (.inl h)
def gsoE (b:List (List Int)) (bits:Bool):Int:=if gshape b bits≠0 then gshape b bits else if gOk (gram b) b.length=true then 0 else 50
def gsoR (b:List (List Int)) (bits:Bool):List Int×List (List Int):=if gshape b bits≠0 then ([],[]) else gsoV (gram b) b.length
theorem gsoE_1 {b bits} (h:gshape b bits≠0):gsoE b bits=gshape b bits∧gsoR b bits=([],[]):=⟨if_pos h,if_pos h⟩
theorem gsoE_2 {b bits} (h:¬gshape b bits≠0) (h2:gOk (gram b) b.length=false):gsoE b bits=50∧gsoR b bits=([],[]):=by
  have h3:¬gOk (gram b) b.length=true:=by simp [h2]
  refine ⟨by unfold gsoE;rw [if_neg h,if_neg h3],?_⟩
  unfold gsoR gsoV;rw [if_neg h,if_neg h3]
theorem gsoE_3 {b bits} (h:¬gshape b bits≠0) (h2:gOk (gram b) b.length=true):gsoE b bits=0∧gsoR b bits=gsoV (gram b) b.length:=by
  refine ⟨by unfold gsoE;rw [if_neg h,if_pos h2],?_⟩
  unfold gsoR;rw [if_neg h]
def frS (G:Nat→Nat→Int) (k:Nat):Rat:=gsE (qG G) k k k
def frM (G:Nat→Nat→Int) (i j:Nat):Rat:=gsE (qG G) j i j/gsE (qG G) j j j
def frRow (G:Nat→Nat→Int) (i m:Nat):List (Int×Int):=(List.range m).map (fun j=>rq (frM G i j))
def frMus (G:Nat→Nat→Int) (n:Nat):List (List (Int×Int)):=(List.range n).map (fun i=>frRow G i i)
def frSts (G:Nat→Nat→Int) (n:Nat):List (Int×Int):=(List.range n).map (fun k=>rq (frS G k))
theorem frRow_len (G i m):(frRow G i m).length=m:=by simp [frRow]
theorem frMus_len (G n):(frMus G n).length=n:=by simp [frMus]
theorem frSts_len (G n):(frSts G n).length=n:=by simp [frSts]
theorem frRow_at {G i m j} (h:j<m):(frRow G i m)[j]?=some (rq (frM G i j)):=by simp [frRow,h]
theorem frSts_at {G n k} (h:k<n):(frSts G n)[k]?=some (rq (frS G k)):=by simp [frSts,h]
abbrev eL:=@frSts_at
theorem frMus_at {G n i k} (hi:i<n) (h:k<i):((frMus G n).getD i [])[k]?=some (rq (frM G i k)):=by
  rw [gde _ [] (by rw [frMus_len];omega)];simp [frMus,frRow,h]
abbrev gh:=@frMus_at
theorem frRow_app (G i m):frRow G i m++[rq (frM G i m)]=frRow G i (m+1):=by simp [frRow,List.range_succ]
theorem frMus_app (G n):frMus G n++[frRow G n n]=frMus G (n+1):=by simp [frMus,List.range_succ]
theorem frSts_app (G n):frSts G n++[rq (frS G n)]=frSts G (n+1):=by simp [frSts,List.range_succ]
theorem qG_sym {G} (h:SymG G):∀i j,qG G i j=qG G j i:=fun i j=>by unfold qG;rw [h]
theorem frS_ne {G k} (hs:SymG G) (hp:PosU G (k+1)):gsE (qG G) k k k≠0:=by
  have h:=(gsE_pos hs (hp.le (by omega):PosU G k)).2 (hp k (by omega))
  intro e;rw [e] at h;exact absurd h (by decide)
theorem fr_step {G i k} (hs:SymG G) (hp:PosU G (k+1)) (j:Nat):gsE (qG G) k i j-frM G j k*frM G i k*frS G k=gsE (qG G) (k+1) i j:=by
  have hne:=frS_ne hs hp
  have e:=gsE_sym (qG_sym hs) k j k
  unfold frM frS
  show _=gsE (qG G) k i j-gsE (qG G) k i k*gsE (qG G) k k j/gsE (qG G) k k k
  rw [←e]
  grind
theorem frS_pos {G k} (hs:SymG G) (hp:PosU G k):0<frS G k↔0<uE G k k k:=gsE_pos hs hp
theorem frS_sgn {G k} (hs:SymG G) (hp:PosU G k):(rq (frS G k)).1.sign≤0↔¬0<uE G k k k:=by
  rw [←frS_pos hs hp,←rq_pos]
  constructor
  · intro h h2;have:=Int.sign_eq_one_of_pos h2;omega
  · intro h
    rcases Int.lt_trichotomy (rq (frS G k)).1 0 with h1 | h1 | h1
    · rw [Int.sign_eq_neg_one_of_neg h1];omega
    · rw [h1];simp
    · exact absurd h1 h
def gCnt (G:Nat→Nat→Int):Nat→Nat
  | 0=>0
  | n+1=>if gCnt G n=n∧0<uE G n n n then n+1 else gCnt G n
theorem gCnt_pos {G}:∀{n},PosU G n→gCnt G n=n
  | 0,_=>rfl
  | n+1,h=>by rw [gCnt,if_pos ⟨gCnt_pos (h.le (by omega)),h n (by omega)⟩]
theorem gCnt_stop {G i} (hp:PosU G i) (h:¬0<uE G i i i):∀{n},i<n→gCnt G n=i
  | n+1,hn=>by
    by_cases e:i=n
    · subst e;rw [gCnt,if_neg (fun x=>h x.2)];exact gCnt_pos hp
    · have:=gCnt_stop hp h (n:=n) (by omega)
      rw [gCnt,if_neg (fun x=>by omega),this]
def frV (G:Nat→Nat→Int) (n:Nat):List (List (Int×Int))×List (Int×Int):=(frMus G (gCnt G n),frSts G (gCnt G n))
theorem fr_yes {G n} (h:PosU G n):(frMus G n,frSts G n)=frV G n∧true=gOk G n:=⟨by unfold frV;rw [gCnt_pos h],(gOk_iff.2 h).symm⟩
theorem fr_no {G n i} (hi:i<n) (hp:PosU G i) (h:¬0<uE G i i i):(frMus G i,frSts G i)=frV G n∧false=gOk G n:=by
  refine ⟨by unfold frV;rw [gCnt_stop hp h hi],?_⟩
  have e:¬gOk G n=true:=fun e=>h (gOk_iff.1 e i hi)
  simpa using e
theorem posU_next {G i} (hp:PosU G i) (h:0<uE G i i i):PosU G (i+1):=fun l hl=>if e:l=i then e▸h else hp l (by omega)
theorem frE_RZ {G:Nat→Nat→Int} (hs:SymG G) {n:Nat} (hn:∀i j,Sz n (G i j)) {K:Nat} (hp:PosU G K) {k i j:Nat} (hk:k≤K) (hi:k≤i) (hj:k≤j):RZ (szU n k+1) (gsE (qG G) k i j):=by
  rw [gsE_frac hs (hp.le hk) hi hj]
  have hd:0<uD G k:=hp.uD hk
  exact RZ.frac (by omega) ((uE_Sz hs hn hp k hk i j hi hj).up (by omega)) (uD_Sz hs hn hp k hk)
theorem frM_eq {G:Nat→Nat→Int} (hs:SymG G) {j:Nat} (hp:PosU G (j+1)) {i:Nat} (hi:j≤i):frM G i j=(uE G j i j:Rat)/(uE G j j j:Rat):=by
  have h:=hp.le (show j≤j+1 by omega)
  have hd:0<uD G j:=hp.uD (by omega)
  have hd2:=rat_ne (show uD G j≠0 by omega)
  have hu:=rat_ne (show uE G j j j≠0 by have:=hp j (by omega);omega)
  unfold frM
  rw [gsE_frac hs h hi (Nat.le_refl j),gsE_frac hs h (Nat.le_refl j) (Nat.le_refl j)]
  grind
theorem frM_RZ {G:Nat→Nat→Int} (hs:SymG G) {n:Nat} (hn:∀i j,Sz n (G i j)) {K:Nat} (hp:PosU G K) {i j:Nat} (hk:j<K) (hi:j≤i):RZ (szU n j+1) (frM G i j):=by
  rw [frM_eq hs (hp.le hk) hi]
  have hu:0<uE G j j j:=hp j hk
  exact RZ.frac (by omega) ((uE_Sz hs hn hp j (by omega) i j hi (Nat.le_refl j)).up (by omega)) ((uE_Sz hs hn hp j (by omega) j j (Nat.le_refl j) (Nat.le_refl j)).up (by omega))
end Fw
namespace Fw
open Go Go.Proofs
theorem c_gso_shaped (b:List (List Int)) (bits:Bool):Fn Tryz.prog 203 [kMZ.is b,kBool.is bits] (kN6.is (gshape b bits)):=by
 refine aN Tryz.func203 Z Z fun m w=>a8 (i:=0) Z bF fun hB=>Cr<|Wa Z<|Wr<|Wm Z<|Ws (aJ Z U22)<|Ws (cF Z Z)<|Wm Z ?_
 refine cG 14 Z (fun h_t14=>?_)<|fun h_t14=>?_
 ·
  refine Kt Z Z<|Kt Z Z<|dI Z Z<|dI Z Z<|dI Z Z<|Kt Z Z<|Ws (cE Z Z)<|Wa Z<|Wn<|ab<|Cr<|Wm Z<|Ws (aJ Z U22)<|Wm Z<|Wn<|aF<|tl 5 Z (y:=(bigN b bits 0)) (bigN_T h_t14)<|bJ (fun (i:Nat)=>i≤b.length) (fun (i:Nat)=>[(0,kMZ.is b),(5,kBool.is (bigN b bits i)),(22,kMZ.is b),(23,kN6.is (b.length:Int)),(24,kN6.is (i:Int))]) (fun (i:Nat)=>[]) (fun (i:Nat)=>b.length-i) 0 (by omega) (ao Z Z Z Z (az Z (ah (y:=(0:Int)) (by rfl)) aq)) (aG _) ?_
  intro i hi
  refine Cr<|Ws (aX Z Z)<|Wn<|ab ?_
  refine aM Z (fun h_t25=>?_)<|fun h_t25=>?_
  ·
   refine Ck<|ab<|aF<|Cr<|Ws (aU i Z Z U22 aK Z (v:=(b.getD i [])) (gd [] (by omega)))<|Ws (aO Z aK)<|Wa Z<|Wn<|ak<|Wm Z<|Wm Z ?_
   refine fK 29 Z (fun h_t29=>?_)<|fun h_t29=>?_
   ·
    refine Kt Z Z<|Kt Z Z<|Kt Z Z<|Ws (cE Z Z)<|Wa Z<|au<|Qb<|ak<|Ws (aR Z Z (c:=((i:Int)+1)) (aH (by omega)))<|Wm Z<|au<|tl 5 Z (y:=(bigN b bits (i+1))) (by rw [bigN_succ (by omega)];simp [h_t29]) ?_
    exact bE (i+1) (by omega) (by omega) (ao Z Z Z Z (az Z (ah (y:=(((i+1):Nat):Int)) (by rfl)) aq))<|aG _
   ·
    refine Wg Z Z (cd Z)<|Wg Z Z (aJ Z U23)<|Wg Z Z (cF Z Z)<|Ws (cb Z Z)<|Wa Z<|au<|Qb<|ak<|Ws (aR Z Z (c:=((i:Int)+1)) (aH (by omega)))<|Wm Z<|au<|tl 5 Z (y:=(bigN b bits (i+1))) (by rw [bigN_succ (by omega)];simp [h_t29]) ?_
    exact bE (i+1) (by omega) (by omega) (ao Z Z Z Z (az Z (ah (y:=(((i+1):Nat):Int)) (by rfl)) aq))<|aG _
  ·
   refine Ex<|ab<|Cr<|Wm Z<|Wn ?_
   refine eh Z (fun h_t35=>?_)<|fun h_t35=>?_
   ·
    refine Cr<|Wa Z<|Wn<|aA<|a6 ?_
    have hib:i=b.length:=by omega
    subst hib
    refine tl 4 Z (y:=(gshape b bits)) ((f8 (by assumption)).symm) ?_
    exact Qd Z (aI Z ay) ⟨Z,Z⟩
   ·
    refine Ck<|ab<|Cr<|Wm Z<|Ws (aJ Z U22)<|Ws (cq Z Z)<|Wn ?_
    refine aM Z (fun h_t38=>?_)<|fun h_t38=>?_
    ·
     refine Cr<|Wa Z<|Wn<|aA<|a6 ?_
     have hib:i=b.length:=by omega
     subst hib
     refine tl 4 Z (y:=(gshape b bits)) ((gw (by simp [h_t35]) (by omega)).symm) ?_
     exact Qd Z (aI Z ay) ⟨Z,Z⟩
    ·
     refine Ck<|Cr<|Wm Z<|Ws (f1 fn82 Z (gr b))<|Wm Z<|Ws (aP Z Z)<|Ws (aP Z Z)<|Ws (aP Z Z)<|Wa Z<|Wa Z<|Wa Z<|Wr<|Wm Z<|Wa Z<|Wn<|aA ?_
     have hib:i=b.length:=by omega
     subst hib
     refine tl 4 Z (y:=(gshape b bits)) ((gshape_else (by simp [h_t35]) (by omega)).symm) ?_
     exact Qd Z (aI Z ay) ⟨Z,Z⟩
 ·
  refine Wg Z Z (cd Z)<|Wg Z Z (cd Z) ?_
  refine fK 16 Z (fun h_t16=>?_)<|fun h_t16=>?_
  ·
   refine Wg Z Z (cd Z)<|Wg Z Z (f1 fn212 Z (c_mat_Bits b))<|Wg Z Z (cF Z Z)<|Wg Z Z (cE Z Z)<|Ws (cb Z Z)<|Wa Z<|Wn<|ab<|Cr<|Wm Z<|Ws (aJ Z U22)<|Wm Z<|Wn<|aF ?_
   have hbt:bits=true:=by first | assumption | exact h_t16
   refine tl 5 Z (y:=(bigN b bits 0)) (by rw [hbt];exact bigN_bT h_t14)<|bJ (fun (i:Nat)=>i≤b.length) (fun (i:Nat)=>[(0,kMZ.is b),(5,kBool.is (bigN b bits i)),(22,kMZ.is b),(23,kN6.is (b.length:Int)),(24,kN6.is (i:Int))]) (fun (i:Nat)=>[]) (fun (i:Nat)=>b.length-i) 0 (by omega) (ao Z Z Z Z (az Z (ah (y:=(0:Int)) (by rfl)) aq)) (aG _) ?_
   intro i hi
   refine Cr<|Ws (aX Z Z)<|Wn<|ab ?_
   refine aM Z (fun h_t25=>?_)<|fun h_t25=>?_
   ·
    refine Ck<|ab<|aF<|Cr<|Ws (aU i Z Z U22 aK Z (v:=(b.getD i [])) (gd [] (by omega)))<|Ws (aO Z aK)<|Wa Z<|Wn<|ak<|Wm Z<|Wm Z ?_
    refine fK 29 Z (fun h_t29=>?_)<|fun h_t29=>?_
    ·
     refine Kt Z Z<|Kt Z Z<|Kt Z Z<|Ws (cE Z Z)<|Wa Z<|au<|Qb<|ak<|Ws (aR Z Z (c:=((i:Int)+1)) (aH (by omega)))<|Wm Z<|au<|tl 5 Z (y:=(bigN b bits (i+1))) (by rw [bigN_succ (by omega)];simp [h_t29]) ?_
     exact bE (i+1) (by omega) (by omega) (ao Z Z Z Z (az Z (ah (y:=(((i+1):Nat):Int)) (by rfl)) aq))<|aG _
    ·
     refine Wg Z Z (cd Z)<|Wg Z Z (aJ Z U23)<|Wg Z Z (cF Z Z)<|Ws (cb Z Z)<|Wa Z<|au<|Qb<|ak<|Ws (aR Z Z (c:=((i:Int)+1)) (aH (by omega)))<|Wm Z<|au<|tl 5 Z (y:=(bigN b bits (i+1))) (by rw [bigN_succ (by omega)];simp [h_t29]) ?_
     exact bE (i+1) (by omega) (by omega) (ao Z Z Z Z (az Z (ah (y:=(((i+1):Nat):Int)) (by rfl)) aq))<|aG _
   ·
    refine Ex<|ab<|Cr<|Wm Z<|Wn ?_
    refine eh Z (fun h_t35=>?_)<|fun h_t35=>?_
    ·
     refine Cr<|Wa Z<|Wn<|aA<|a6 ?_
     have hib:i=b.length:=by omega
     subst hib
     refine tl 4 Z (y:=(gshape b bits)) ((f8 (by assumption)).symm) ?_
     exact Qd Z (aI Z ay) ⟨Z,Z⟩
    ·
     refine Ck<|ab<|Cr<|Wm Z<|Ws (aJ Z U22)<|Ws (cq Z Z)<|Wn ?_
     refine aM Z (fun h_t38=>?_)<|fun h_t38=>?_
     ·
      refine Cr<|Wa Z<|Wn<|aA<|a6 ?_
      have hib:i=b.length:=by omega
      subst hib
      refine tl 4 Z (y:=(gshape b bits)) ((gw (by simp [h_t35]) (by omega)).symm) ?_
      exact Qd Z (aI Z ay) ⟨Z,Z⟩
     ·
      refine Ck<|Cr<|Wm Z<|Ws (f1 fn82 Z (gr b))<|Wm Z<|Ws (aP Z Z)<|Ws (aP Z Z)<|Ws (aP Z Z)<|Wa Z<|Wa Z<|Wa Z<|Wr<|Wm Z<|Wa Z<|Wn<|aA ?_
      have hib:i=b.length:=by omega
      subst hib
      refine tl 4 Z (y:=(gshape b bits)) ((gshape_else (by simp [h_t35]) (by omega)).symm) ?_
      exact Qd Z (aI Z ay) ⟨Z,Z⟩
  ·
   refine Kf Z Z<|Kf Z Z<|Kf Z Z<|Wg Z Z (cb Z Z)<|Ws (cb Z Z)<|Wa Z<|Wn<|ab<|Cr<|Wm Z<|Ws (aJ Z U22)<|Wm Z<|Wn<|aF ?_
   have hbt:bits=false:=by first | assumption | exact h_t16
   refine tl 5 Z (y:=(bigN b bits 0)) (by rw [hbt];exact bigN_bF h_t14)<|bJ (fun (i:Nat)=>i≤b.length) (fun (i:Nat)=>[(0,kMZ.is b),(5,kBool.is (bigN b bits i)),(22,kMZ.is b),(23,kN6.is (b.length:Int)),(24,kN6.is (i:Int))]) (fun (i:Nat)=>[]) (fun (i:Nat)=>b.length-i) 0 (by omega) (ao Z Z Z Z (az Z (ah (y:=(0:Int)) (by rfl)) aq)) (aG _) ?_
   intro i hi
   refine Cr<|Ws (aX Z Z)<|Wn<|ab ?_
   refine aM Z (fun h_t25=>?_)<|fun h_t25=>?_
   ·
    refine Ck<|ab<|aF<|Cr<|Ws (aU i Z Z U22 aK Z (v:=(b.getD i [])) (gd [] (by omega)))<|Ws (aO Z aK)<|Wa Z<|Wn<|ak<|Wm Z<|Wm Z ?_
    refine fK 29 Z (fun h_t29=>?_)<|fun h_t29=>?_
    ·
     refine Kt Z Z<|Kt Z Z<|Kt Z Z<|Ws (cE Z Z)<|Wa Z<|au<|Qb<|ak<|Ws (aR Z Z (c:=((i:Int)+1)) (aH (by omega)))<|Wm Z<|au<|tl 5 Z (y:=(bigN b bits (i+1))) (by rw [bigN_succ (by omega)];simp [h_t29]) ?_
     exact bE (i+1) (by omega) (by omega) (ao Z Z Z Z (az Z (ah (y:=(((i+1):Nat):Int)) (by rfl)) aq))<|aG _
    ·
     refine Wg Z Z (cd Z)<|Wg Z Z (aJ Z U23)<|Wg Z Z (cF Z Z)<|Ws (cb Z Z)<|Wa Z<|au<|Qb<|ak<|Ws (aR Z Z (c:=((i:Int)+1)) (aH (by omega)))<|Wm Z<|au<|tl 5 Z (y:=(bigN b bits (i+1))) (by rw [bigN_succ (by omega)];simp [h_t29]) ?_
     exact bE (i+1) (by omega) (by omega) (ao Z Z Z Z (az Z (ah (y:=(((i+1):Nat):Int)) (by rfl)) aq))<|aG _
   ·
    refine Ex<|ab<|Cr<|Wm Z<|Wn ?_
    refine eh Z (fun h_t35=>?_)<|fun h_t35=>?_
    ·
     refine Cr<|Wa Z<|Wn<|aA<|a6 ?_
     have hib:i=b.length:=by omega
     subst hib
     refine tl 4 Z (y:=(gshape b bits)) ((f8 (by assumption)).symm) ?_
     exact Qd Z (aI Z ay) ⟨Z,Z⟩
    ·
     refine Ck<|ab<|Cr<|Wm Z<|Ws (aJ Z U22)<|Ws (cq Z Z)<|Wn ?_
     refine aM Z (fun h_t38=>?_)<|fun h_t38=>?_
     ·
      refine Cr<|Wa Z<|Wn<|aA<|a6 ?_
      have hib:i=b.length:=by omega
      subst hib
      refine tl 4 Z (y:=(gshape b bits)) ((gw (by simp [h_t35]) (by omega)).symm) ?_
      exact Qd Z (aI Z ay) ⟨Z,Z⟩
     ·
      refine Ck<|Cr<|Wm Z<|Ws (f1 fn82 Z (gr b))<|Wm Z<|Ws (aP Z Z)<|Ws (aP Z Z)<|Ws (aP Z Z)<|Wa Z<|Wa Z<|Wa Z<|Wr<|Wm Z<|Wa Z<|Wn<|aA ?_
      have hib:i=b.length:=by omega
      subst hib
      refine tl 4 Z (y:=(gshape b bits)) ((gshape_else (by simp [h_t35]) (by omega)).symm) ?_
      exact Qd Z (aI Z ay) ⟨Z,Z⟩
theorem c_gso_of (n:Nat) (b:List (List Int)) (bits:Bool) (hb:gshape b bits=0→SzM n b) (hn:n≤4194304):Fn Tryz.prog 131 [kMZ.is b,kBool.is bits] (VP.tup [kGso.is (gsoR b bits),kN6.is (gsoE b bits)]):=by
 refine aN Tryz.func131 Z Z fun m w=>Cr<|aW .n eo fun b1=>Wa Z<|Wn<|ab<|Cr<|Wm Z<|Wm Z<|Ws (f2 fn203 Z Z (c_gso_shaped b bits))<|Wa Z<|Wr<|Wm Z<|Ws (bG Z Z)<|Wn ?_
 refine aM Z (fun h_t13=>?_)<|fun h_t13=>?_
 ·
  refine Cr<|Ws (bY gI Z br (.nil _))<|Wm Z<|aE .n (aC (l:=kGso) (u:=([],[])) 0 Z Z Z bl Z Lr)<|Wa Z<|Wn<|aA<|a6<|tb 0 Z (y:=(gsoR b bits)) (gsoE_1 (by omega)).2.symm<|tl 5 Z (y:=(gsoE b bits)) (gsoE_1 (by omega)).1.symm ?_
  exact Qd Z (aY Z (ag 0 Z) bl (aI Z ay)) ⟨Z,Z⟩
 ·
  refine Ck<|ab ?_
  have hok:=gshape_ok (show gshape b bits=0 by omega)
  have hno:=bigN_no hok.1
  have hr:=rectL hok.2.2
  refine ak<|Wm Z<|Ws (f1 fn204 Z (c_gso_built n b (hb (by omega)) (by assumption) (by omega) (hno.2.2 0) (by assumption)))<|Wm Z<|Ws (aP Z Z)<|Ws (aP Z Z)<|Ax (l:=kGso) (u:=gsoV (gram b) b.length) eo Z bl (fun _=>Z) Lr fun b2=>Wa Z<|Wn<|ab<|Cr<|Wm Z<|Ws (dh Z)<|Wn ?_
  refine eh Z (fun h_t22=>?_)<|fun h_t22=>?_
  ·
   refine Cr<|Ws (bY gI Z br (.nil _))<|aE .n (aC (l:=kGso) (u:=([],[])) 1 Z Z Z bl Z Lr)<|Wa Z<|Wn<|aA<|a6 ?_
   have hk:gOk (gram b) b.length=false:=by simpa using h_t22
   refine tb 1 Z (y:=(gsoR b bits)) (gsoE_2 (by omega) hk).2.symm<|tl 5 Z (y:=(gsoE b bits)) (gsoE_2 (by omega) hk).1.symm ?_
   exact Qd Z (aY Z (ag 1 Z) bl (aI Z ay)) ⟨Z,Z⟩
  ·
   refine Ck<|Cr<|Ws (ae Z (ag 0 Z) Li bl Z)<|aE .n (aC (l:=kGso) (u:=gsoV (gram b) b.length) 1 Z Z Z bl Z Lr)<|Wa Z<|Wn<|aA ?_
   have hk:gOk (gram b) b.length=true:=by simpa using h_t22
   refine tb 1 Z (y:=(gsoR b bits)) (gsoE_3 (by omega) hk).2.symm<|tl 5 Z (y:=(gsoE b bits)) (gsoE_3 (by omega) hk).1.symm ?_
   exact Qd Z (aY Z (ag 1 Z) bl (aI Z ay)) ⟨Z,Z⟩
theorem c_gso_Valid (b:List (List Int)):Fn Tryz.prog 116 [kMZ.is b] (kN6.is (gsoE b true)):=by
 refine aN Tryz.func116 Z Z fun m w=>Cr<|Wa Z<|Wr<|Wm Z<|Ws (f2 fn131 Z Z (c_gso_of 256 b true (fun h=>mbits_Sz ((bigN_no (gshape_ok h).1).2.1 Z)) (by decide)))<|Wm Z<|Ws (aP Z Z)<|Ws (aP Z Z)<|Ax (l:=kGso) (u:=gsoR b true) eo Z bl (fun _=>Z) Lr fun b1=>Wa Z<|Wr<|Wm Z<|Wa Z<|Wn ?_
 refine aA ?_
 exact Qd Z (aI Z ay) ⟨Z,Z⟩
theorem c_ref05_shape (b:List (List Int)) (bits:Bool):Fn Tryz.prog 180 [kMZ.is b,kBool.is bits] (kN6.is (gshape b bits)):=by
 refine aN Tryz.func180 Z Z fun m w=>a8 (i:=0) Z bF fun hB=>a8 (i:=0) Z fg fun hlc=>Cr<|Wa Z<|Wn<|ab<|Cr<|Wm Z<|Ws (aJ Z U22)<|Ws (cF Z Z)<|Wn ?_
 refine aM Z (fun h_t10=>?_)<|fun h_t10=>?_
 ·
  refine Cr<|Wa Z<|Wn<|aA<|a6<|tl 4 Z (y:=(gshape b bits)) (f8 (big_len h_t10)).symm ?_
  exact Qd Z (aI Z ay) ⟨Z,Z⟩
 ·
  refine Ck<|ab<|Cr<|Wa Z<|Wn<|aF<|bJ (fun (i:Nat)=>i≤b.length∧rowsTo b bits i) (fun (i:Nat)=>[(0,kMZ.is b),(1,kBool.is bits),(5,kN6.is (i:Int))]) (fun (i:Nat)=>[]) (fun (i:Nat)=>b.length-i) 0 ⟨Nat.zero_le _,fun j hj=>absurd hj (by omega)⟩ (ac Z (ac Z (az Z (ah (y:=(0:Int)) (by rfl)) aq))) (aG _) ?_
  intro i ⟨hi,hA⟩
  refine ab<|Cr<|Wm Z<|Wm Z<|Ws (aJ Z U22)<|Ws (aX Z Z)<|Wn ?_
  refine aM Z (fun h_t14=>?_)<|fun h_t14=>?_
  ·
   refine Ck<|ab<|aF<|ab<|ab ?_
   have hlci:=hlc i
   refine ak<|Wm Z<|Wm Z<|Ws (aU i Z Z U22 aK Z (v:=(b.getD i [])) (gd [] (by omega)))<|Ws (aO Z aK)<|Ws (aJ Z U23)<|Ws (cF Z Z)<|Wn ?_
   refine aM Z (fun h_t22=>?_)<|fun h_t22=>?_
   ·
    refine Cr<|Wa Z<|Wn<|aA<|a6<|bQ<|a6<|a6<|bQ<|a6<|tl 4 Z (y:=(gshape b bits)) (f8 (big_row (i:=i) (by omega) (by omega))).symm ?_
    exact Qd Z (aI Z ay) ⟨Z,Z⟩
   ·
    refine Ck<|Cr<|Wa Z<|Wn<|aF<|bJ (fun (k:Nat)=>k≤(b.getD i []).length∧(bits=true→∀l,l<k→(bitlen ((b.getD i []).getD l 0).natAbs:Int)≤256)) (fun (k:Nat)=>[(0,kMZ.is b),(1,kBool.is bits),(5,kN6.is (i:Int)),(6,kN6.is (k:Int))]) (fun (k:Nat)=>[]) (fun (k:Nat)=>(b.getD i []).length-k) 0 ⟨Nat.zero_le _,fun _ j hj=>absurd hj (by omega)⟩ (ac Z (ac Z (ac Z (az Z (ah (y:=(0:Int)) (by rfl)) aq)))) (aG _) ?_
    intro k ⟨hk,hK⟩
    refine ab<|Cr<|Wm Z<|Wm Z<|Wm Z<|Ws (aU i Z Z U22 aK Z (v:=(b.getD i [])) (gd [] (by omega)))<|Ws (aO Z aK)<|Ws (aJ Z U23)<|Ws (aX Z Z)<|Wn ?_
    refine aM Z (fun h_t29=>?_)<|fun h_t29=>?_
    ·
     refine Ck<|ab<|aF<|Cr<|Wm Z<|Wm Z ?_
     refine fK 33 Z (fun h_t33=>?_)<|fun h_t33=>?_
     ·
      refine Wg Z Z (cd Z)<|Wg Z Z (cd Z)<|Wg Z Z (aU i Z Z U22 aK Z (v:=(b.getD i [])) (gd [] (by omega)))<|Wg Z Z (aO Z aK)<|Wg Z Z (cd Z)<|Wg Z Z (aU k Z Z U23 af Z (v:=((b.getD i []).getD k 0)) (gd 0 (by omega)))<|ST.zp 39 Z fun y y_v y_n y_l=>Wg Z Z (cQ Z bX (am Li) Z)<|Wg Z Z (aO Z ca)<|Wg Z Z (f1 fn125 Z (fZ y.2))<|tl 42 Z (y:=(bitlen ((b.getD i []).getD k 0).natAbs:Int)) (by rw [←y_v,ival_abs])<|Wg Z Z (cF Z Z)<|Ws (cE Z Z)<|Wn ?_
      refine aM Z (fun h_t44=>?_)<|fun h_t44=>?_
      ·
       refine Cr<|Wa Z<|Wn<|aA<|bQ<|a6<|a6<|bQ<|bQ<|a6<|a6<|bQ<|a6 ?_
       have hbt:bits=true:=by first | assumption | exact h_t33
       refine tl 4 Z (y:=(gshape b bits)) (by rw [hbt];exact (gshape_big (big_bit (i:=i) (k:=k) (by omega) (by omega) (by omega))).symm) ?_
       exact Qd Z (aI Z ay) ⟨Z,Z⟩
      ·
       refine cx<|Qb<|ak<|Wm Z<|Ws (aR Z Z (c:=((k:Int)+1)) (aH (by omega)))<|Wa Z<|au ?_
       exact bE (k+1) (by omega) ⟨by omega,fun hb l hl=>if e:l=k then by subst e;first | omega | simp_all else hK hb l (by omega)⟩ (ac Z (ac Z (ac Z (az Z (ah (y:=(((k+1):Nat):Int)) (by rfl)) aq))))<|aG _
     ·
      refine Kf Z Z<|Kf Z Z<|Kf Z Z<|Kf Z Z<|Kf Z Z<|Kf Z Z<|Kf Z Z<|Kf Z Z<|Kf Z Z<|Kf Z Z<|Ws (cb Z Z)<|Wn<|dj Z<|cx<|Qb<|ak<|Wm Z<|Ws (aR Z Z (c:=((k:Int)+1)) (aH (by omega)))<|Wa Z<|au ?_
      exact bE (k+1) (by omega) ⟨by omega,fun hb l hl=>if e:l=k then by subst e;first | omega | simp_all else hK hb l (by omega)⟩ (ac Z (ac Z (ac Z (az Z (ah (y:=(((k+1):Nat):Int)) (by rfl)) aq))))<|aG _
    ·
     refine dS<|da<|da<|dR<|Qb<|ak<|Wm Z<|Ws (aR Z Z (c:=((i:Int)+1)) (aH (by omega)))<|Wa Z<|au ?_
     exact bE (i+1) (by omega) ⟨by omega,fun j hj=>if e:j=i then by subst e;exact ⟨by omega,fun hb k hk=>hK hb k (by omega)⟩ else hA j (by omega)⟩ (ac Z (ac Z (az Z (ah (y:=(((i+1):Nat):Int)) (by rfl)) aq)))<|aG _
  ·
   refine Ex<|ab<|ab ?_
   have hib:i=b.length:=by omega
   subst hib
   have hne:=rowsTo_end h_t10 hA
   refine ak<|Wm Z<|Ws (aJ Z U22)<|Ws (cq Z Z)<|Wn ?_
   refine aM Z (fun h_t47=>?_)<|fun h_t47=>?_
   ·
    refine Cr<|Wa Z<|Wn<|aA<|a6<|tl 4 Z (y:=(gshape b bits)) (gw hne (by omega)).symm ?_
    exact Qd Z (aI Z ay) ⟨Z,Z⟩
   ·
    refine Ck<|ab<|Cr<|Wa Z<|Wn<|aF<|bJ (fun (j:Nat)=>j≤b.length∧∀l,l<j→(b.getD l []).length=(b.getD 0 []).length) (fun (j:Nat)=>[(0,kMZ.is b),(1,kBool.is bits),(7,kN6.is (j:Int))]) (fun (j:Nat)=>[]) (fun (j:Nat)=>b.length-j) 0 ⟨Nat.zero_le _,fun l hl=>absurd hl (by omega)⟩ (ac Z (ac Z (az Z (ah (y:=(0:Int)) (by rfl)) aq))) (aG _) ?_
    intro j ⟨hj,hE⟩
    refine ab<|Cr<|Wm Z<|Wm Z<|Ws (aJ Z U22)<|Ws (aX Z Z)<|Wn ?_
    refine aM Z (fun h_t51=>?_)<|fun h_t51=>?_
    ·
     refine Ck<|ab<|aF<|ab ?_
     refine a5 (Γ:=[.fr (kMZ.is b),.fr (kN6.is (j:Int)),.fr (VP.pim kVZ (b.getD j [])),.fr (kVZ.is (b.getD j [])),.fr (kN6.is ((b.getD j []).length:Int)),.fr (kMZ.is b),.fr (VP.pim kVZ (b.getD 0 [])),.fr (kVZ.is (b.getD 0 [])),.fr (kN6.is ((b.getD 0 []).length:Int)),.fr (kBool.is (decide (((b.getD j []).length:Int)≠((b.getD 0 []).length:Int))))]) (om Z Z (om Z Z (aa Z (fun N=>aU j Z Z U22 aK Z (v:=(b.getD j [])) (gd [] (by omega))) (aa Z (fun N=>aO Z aK) (aa Z (fun N=>aJ Z U23) (om Z Z (aa Z (fun N=>aU 0 Z Z U22 aK Z (v:=(b.getD 0 [])) (gd [] (by omega))) (aa Z (fun N=>aO Z aK) (aa Z (fun N=>aJ Z U23) (aa Z (fun N=>bG Z Z) oz))))))))))<|fun σ1=>?_
     refine Wn ?_
     refine aM Z (fun h_t63=>?_)<|fun h_t63=>?_
     ·
      refine Cr<|Wa Z<|Wn<|aA<|bQ<|a6<|a6<|bQ<|a6<|tl 4 Z (y:=(gshape b bits)) (by rw [gshape_else hne (by omega),(sh_no (i:=j) (by omega) (by omega)).2.2]) ?_
      exact Qd Z (aI Z ay) ⟨Z,Z⟩
     ·
      refine cx<|Qb<|ak<|Wm Z<|Ws (aR Z Z (c:=((j:Int)+1)) (aH (by omega)))<|Wa Z<|au ?_
      exact bE (j+1) (by omega) ⟨by omega,fun l hl=>if e:l=j then by subst e;omega else hE l (by omega)⟩ (ac Z (ac Z (az Z (ah (y:=(((j+1):Nat):Int)) (by rfl)) aq)))<|aG _
    ·
     refine Ex<|Cr<|Wa Z<|Wn<|aA<|tl 4 Z (y:=(gshape b bits)) (by rw [gshape_else hne (by omega),(sh_yes (fun l hl=>hE l (by omega))).2.2]) ?_
     exact Qd Z (aI Z ay) ⟨Z,Z⟩
theorem c_ref05_square (n:Nat) (p:Rat) (hp:RZ n p) (hn:n≤68719476736):Fn Tryz.prog 239 [kRC.is (rq p)] (kRC.is (rq (p*p))):=by
 refine aN Tryz.func239 Z Z fun m w=>Cr<|aZ .n Z fun b1=>aW .n ba fun b2=>Wr<|Ws (ae Z (ag 1 Z) Li ai Z)<|Ws (ae Z (ag 1 Z) Li ai Z)<|Ws (f2 dk Z Z (dp n p p (by assumption) (by assumption) (by assumption)))<|aE .n (aC (l:=kRC) (u:=rq (p*p)) 0 Z Z Z ai Z Lr)<|Wn<|aA ?_
 exact Qd Z (aY Z (ag 0 Z) ai ay) ⟨Z,Z⟩
theorem c_ref05_Make (n:Nat) (b:List (List Int)) (hb:SzM n b) (hr:RectL b) (hl:b.length≤12) (hc:(b.getD 0 []).length≤12) (hn:n≤1048576):Fn Tryz.prog 181 [kMZ.is b] (VP.tup [kFrm.is (frV (gram b) b.length),kBool.is (gOk (gram b) b.length)]):=by
 refine aN Tryz.func181 Z Z fun m w=>a8 (i:=0) Z bF fun hB=>a8 (i:=0) Z fg fun hlc=>?_
 have hs:=gram_symG hr
 have hz:∀i j,Sz (n+n+12) (gram b i j):=fun i j=>gram_Sz hb hr hc i j
 have hU:∀k,k≤12→szU (n+n+12) k+1≤8590000128:=fun k hk=>by have:=szU_eq (n+n+12) k;have h2:2^k≤2^12:=Nat.pow_le_pow_right (by decide) hk;have h3:=Nat.mul_le_mul_right (n+n+12+1) h2;omega
 refine Cr<|aW .n fc fun b1=>Wa Z<|Wr<|aW .n z150_pr_val_val_ fun b2=>Wn<|ab<|Cr<|Wa Z<|Wn<|aF<|bT 31 kRC<|bT 26 (kSl kRC)<|dz (fun (i:Nat) (vM:Value) (vS:Value)=>i≤b.length∧PosU (gram b) i) (fun (i:Nat) (vM:Value) (vS:Value)=>[(0,kMZ.is b),(2,VP.pt b1 0),(3,kBool.is false),(4,VP.pt b2 0),(5,kN6.is (i:Int))]) (fun (i:Nat) (vM:Value) (vS:Value)=>[OB.row vM 26 (kSl kRC) (frMus (gram b) i),OB.row vS 31 kRC (frSts (gram b) i),OB.box b2 150 (kPair kVal kVal) (vM,vS),OB.box b1 150 kFrm ([],[])]) (fun (i:Nat) (vM:Value) (vS:Value)=>b.length-i) 0 (.slice none 0 0) (.slice none 0 0) ⟨Nat.zero_le _,fun l hl=>absurd hl (by omega)⟩ (ao Z Z Z Z (az Z (ah (y:=(0:Int)) (by rfl)) aq)) (a9 (OS.keepLe (bi (by rfl)) (OS.keepLe (bi (by rfl)) (OS.keep (OS.keep OS.nil))))) ?_
 intro i vM vS ⟨hi,hP⟩
 refine ab<|Cr<|Wm Z<|Wm Z<|Ws (aJ Z U22)<|Ws (aX Z Z)<|Wn ?_
 refine aM Z (fun h_t15=>?_)<|fun h_t15=>?_
 ·
  refine Ck<|ab<|aF<|Cr<|Wa Z<|Wn<|ab<|Cr<|Wa Z<|Wn<|aF<|bT 31 kRC ?_
  have hE:∀k j,k≤i→k≤j→RZ 8590000128 (gsE (qG (gram b)) k i j):=fun k j hk hj=>(frE_RZ hs hz hP hk hk hj).up (hU k (by omega))
  have hS:∀k,k<i→RZ 8590000128 (frS (gram b) k):=fun k hk=>(frE_RZ hs hz hP (by omega) (Nat.le_refl k) (Nat.le_refl k)).up (hU k (by omega))
  have hM:∀x k,k<i→k≤x→RZ 8590000128 (frM (gram b) x k):=fun x k hk hx=>(frM_RZ hs hz hP hk hx).up (hU k (by omega))
  refine bU (fun (j:Nat) (v:Value)=>j≤i) (fun (j:Nat) (v:Value)=>[(0,kMZ.is b),(2,VP.pt b1 0),(3,kBool.is false),(4,VP.pt b2 0),(5,kN6.is (i:Int)),(6,VP.ex v),(7,kN6.is (j:Int))]) (fun (j:Nat) (v:Value)=>[OB.row v 31 kRC (frRow (gram b) i j),OB.row vM 26 (kSl kRC) (frMus (gram b) i),OB.row vS 31 kRC (frSts (gram b) i),OB.box b2 150 (kPair kVal kVal) (vM,vS),OB.box b1 150 kFrm ([],[])]) (fun (j:Nat) (v:Value)=>i-j) 0 (.slice none 0 0) (by omega) (ao Z Z Z Z (ac Z (ac Z (az Z (ah (y:=(0:Int)) (by rfl)) aq)))) (a9 (OS.keepLe (bi (by rfl)) (OS.keep (OS.keep (OS.keep (OS.keep OS.nil)))))) ?_
  intro j v hj
  refine ab<|Cr<|Wm Z<|Wm Z<|Ws (aX Z Z)<|Wn ?_
  refine aM Z (fun h_t20=>?_)<|fun h_t20=>?_
  ·
   refine Ck<|ab<|aF<|ab ?_
   refine a5 (Γ:=[.fr (kMZ.is b),.fr (kN6.is (i:Int)),.fr (VP.pim kVZ (b.getD i [])),.fr (kVZ.is (b.getD i [])),.fr (kMZ.is b),.fr (kN6.is (j:Int)),.fr (VP.pim kVZ (b.getD j [])),.fr (kVZ.is (b.getD j [])),.fr (kC.is (dotV (b.getD i []) (b.getD j []))),.fr (kRC.is (rq (gsE (qG (gram b)) 0 i j))),.al (fun b=>OB.box b 31 kRC (0,0))]) (om Z Z (om Z Z (aa Z (fun N=>aU i Z Z U22 aK Z (v:=(b.getD i [])) (gd [] (by omega))) (aa Z (fun N=>aO Z aK) (om Z Z (om Z Z (aa Z (fun N=>aU j Z Z U22 aK Z (v:=(b.getD j [])) (gd [] (by omega))) (aa Z (fun N=>aO Z aK) (aa Z (fun N=>f2 fn238 Z Z (gp n (b.getD i []) (b.getD j []) (hb i) (hb j) (by have:=row_le hr hc i;omega) (by rw [hr i (by omega),hr j (by omega)];exact Nat.le_refl _))) (aa Z (fun N=>aV (aB dK (aj Z (aL ((hz i j).sm (by omega))) ar) (dH (dotV (b.getD i []) (b.getD j [])))) (ah Z)) (oc (cR Z ba) oz)))))))))))<|fun σ1=>?_
   refine aE .n (aC (l:=kRC) (u:=rq (gsE (qG (gram b)) 0 i j)) 0 Z Z Z ai Z Lr)<|Wn<|ab<|Cr<|Wa Z<|Wn<|aF<|bU (fun (k:Nat) (p:Nat)=>k≤j) (fun (k:Nat) (p:Nat)=>[(0,kMZ.is b),(2,VP.pt b1 0),(3,kBool.is false),(4,VP.pt b2 0),(5,kN6.is (i:Int)),(6,VP.ex v),(7,kN6.is (j:Int)),(8,VP.pt p 0),(9,kN6.is (k:Int))]) (fun (k:Nat) (p:Nat)=>[OB.box p 31 kRC (rq (gsE (qG (gram b)) k i j)),OB.row v 31 kRC (frRow (gram b) i j),OB.row vM 26 (kSl kRC) (frMus (gram b) i),OB.row vS 31 kRC (frSts (gram b) i),OB.box b2 150 (kPair kVal kVal) (vM,vS),OB.box b1 150 kFrm ([],[])]) (fun (k:Nat) (p:Nat)=>j-k) 0 (σ1 10) (by omega) (ao Z Z Z Z (ao Z Z Z Z (az Z (ah (y:=(0:Int)) (by rfl)) aq))) (aG _) ?_
   intro k p hk
   refine ab<|Cr<|Wm Z<|Wm Z<|Ws (aX Z Z)<|Wn ?_
   refine aM Z (fun h_t35=>?_)<|fun h_t35=>?_
   ·
    refine Ck<|ab<|aF ?_
    refine a5 (Γ:=[.fr (kRC.is (rq (gsE (qG (gram b)) k i j))),.fr (VP.pt b2 0),.fr (VP.ex vM),.fr (kN6.is (j:Int)),.fr (VP.pel vM (j*1)),.fr ((kSl kRC).is ((frMus (gram b) i).getD j [])),.fr (kN6.is (k:Int)),.fr (VP.pim kRC (rq (frM (gram b) j k))),.fr (kRC.is (rq (frM (gram b) j k))),.fr (VP.ex v),.fr (kN6.is (k:Int)),.fr (VP.pel v (k*4)),.fr (kRC.is (rq (frM (gram b) i k))),.fr (kRC.is (rq ((frM (gram b) j k)*(frM (gram b) i k)))),.fr (VP.pt b2 1),.fr (VP.ex vS),.fr (kN6.is (k:Int)),.fr (VP.pel vS (k*4)),.fr (kRC.is (rq (frS (gram b) k))),.fr (kRC.is (rq ((frM (gram b) j k*frM (gram b) i k)*(frS (gram b) k)))),.fr (kRC.is (rq ((gsE (qG (gram b)) k i j)-(frM (gram b) j k*frM (gram b) i k*frS (gram b) k))))]) (aa Z (fun N=>ae Z (mN N 0 Z) Li ai Z) (aa Z (fun N=>aw Z eU Z) (aa Z (fun N=>aV (ae (p:=kVal.is vM) Z (mN N 4 Z) (aD Li) eX Z) (bc _)) (om Z Z (aa Z (fun N=>bb (k:=(kSl kRC)) (xs:=(frMus (gram b) i)) (n:=(j:Int)) j Z Z (mN N 2 Z) U148 bN Z (by simp only [frRow_len,frMus_len,frSts_len];omega)) (aa Z (fun N=>bp j Z (mN N 2 Z) Li Z (y:=((frMus (gram b) i).getD j [])) (gd [] (by simp only [frRow_len,frMus_len,frSts_len];omega)) bN Z) (om Z Z (aa Z (fun N=>aU k Z Z U26 ai Z (v:=(rq (frM (gram b) j k))) (gh (by omega) (by omega))) (aa Z (fun N=>aO Z ai) (om Z Z (om Z Z (aa Z (fun N=>bb (k:=kRC) (xs:=(frRow (gram b) i j)) (n:=(k:Int)) k Z Z (mN N 1 Z) U26 ai Z (by simp only [frRow_len,frMus_len,frSts_len];omega)) (aa Z (fun N=>bp (k:=kRC) (xs:=(frRow (gram b) i j)) k Z (mN N 1 Z) Li (ho:=Z) (y:=(rq (frM (gram b) i k))) (frRow_at (by omega)) ai Z) (aa Z (fun N=>f2 dk Z Z (dp 8590000128 (frM (gram b) j k) (frM (gram b) i k) (hM j k (by omega) (by omega)) (hM i k (by omega) (by omega)) (by omega))) (aa Z (fun N=>aw Z dN Z) (aa Z (fun N=>aV (ae (p:=kVal.is vS) Z (mN N 4 Z) (am Li) bN Z) (bc _)) (om Z Z (aa Z (fun N=>bb (k:=kRC) (xs:=(frSts (gram b) i)) (n:=(k:Int)) k Z Z (mN N 3 Z) U26 ai Z (by simp only [frRow_len,frMus_len,frSts_len];omega)) (aa Z (fun N=>bp (k:=kRC) (xs:=(frSts (gram b) i)) k Z (mN N 3 Z) Li (ho:=Z) (y:=(rq (frS (gram b) k))) (eL (by omega)) ai Z) (aa Z (fun N=>aB dk (aj Z (ah (y:=rq (frM (gram b) j k*frM (gram b) i k)) (by rfl)) (aS Z ar)) (dp 17180000256 (frM (gram b) j k*frM (gram b) i k) (frS (gram b) k) ((hM j k (by omega) (by omega)).mul (hM i k (by omega) (by omega))) ((hS k (by omega)).up (by omega)) (by omega))) (aa Z (fun N=>aB d6 (aS Z (aj Z (ah (y:=rq (frM (gram b) j k*frM (gram b) i k*frS (gram b) k)) (by rfl)) ar)) (eu 25770000384 (gsE (qG (gram b)) k i j) (frM (gram b) j k*frM (gram b) i k*frS (gram b) k) ((hE k j (by omega) (by omega)).up (by omega)) (((hM j k (by omega) (by omega)).mul (hM i k (by omega) (by omega))).mul (hS k (by omega))) (by omega))) oz)))))))))))))))))))))<|fun σ2=>?_
    refine aE .n (aC (l:=kRC) (u:=rq ((gsE (qG (gram b)) k i j)-(frM (gram b) j k*frM (gram b) i k*frS (gram b) k))) 0 Z Z Z ai Z Lr)<|au<|Qb<|ak<|Wm Z<|Ws (aR Z Z (c:=((k:Int)+1)) (aH (by omega)))<|Wa Z<|au<|tb 0 Z (y:=(rq (gsE (qG (gram b)) (k+1) i j))) (by rw [fr_step hs (hP.le (by omega))]) ?_
    exact bS (k+1) p (by omega) (by omega) (ao Z Z Z Z (ao Z Z Z Z (az Z (ah (y:=(((k+1):Nat):Int)) (by rfl)) aq)))<|aG _
   ·
    refine Ex<|tb 0 Z (y:=(rq (gsE (qG (gram b)) j i j))) (by rw [show k=j by omega]) ?_
    refine a5 (Γ:=[.fr (VP.ex v),.fr (kRC.is (rq (gsE (qG (gram b)) j i j))),.fr (VP.pt b2 1),.fr (VP.ex vS),.fr (kN6.is (j:Int)),.fr (VP.pel vS (j*4)),.fr (kRC.is (rq (frS (gram b) j))),.fr (kRC.is (rq ((gsE (qG (gram b)) j i j)/(frS (gram b) j)))),.fr ((kSl kRC).is [rq ((gsE (qG (gram b)) j i j)/(frS (gram b) j))])]) (om Z Z (aa Z (fun N=>ae Z (mN N 0 Z) Li ai Z) (aa Z (fun N=>aw Z dN Z) (aa Z (fun N=>aV (ae (p:=kVal.is vS) Z (mN N 4 Z) (am Li) bN Z) (bc _)) (om Z Z (aa Z (fun N=>bb (k:=kRC) (xs:=(frSts (gram b) i)) (n:=(j:Int)) j Z Z (mN N 3 Z) U26 ai Z (by simp only [frRow_len,frMus_len,frSts_len];omega)) (aa Z (fun N=>bp (k:=kRC) (xs:=(frSts (gram b) i)) j Z (mN N 3 Z) Li (ho:=Z) (y:=(rq (frS (gram b) j))) (eL (by omega)) ai Z) (aa Z (fun N=>f2 fn76 Z Z (c_ref03_Div 8590000128 (gsE (qG (gram b)) j i j) (frS (gram b) j) (hE j j (by omega) (by omega)) (hS j (by omega)) (by omega) (frS_ne hs (hP.le (by omega))))) (aa Z (fun N=>bB U26 dn (bV Z bA) Z (by decide)) oz)))))))))<|fun σ3=>?_
    refine bI 1 .n Z Z Z Lr U26 dn (by simp only [frRow_len,frMus_len,frSts_len,List.length_cons,List.length_nil];omega) fun v3=>Wa Z<|au<|Qb<|ak<|Wm Z<|Ws (aR Z Z (c:=((j:Int)+1)) (aH (by omega)))<|Wa Z<|au<|tr 1 Z (y:=(frRow (gram b) i (j+1))) (frRow_app (gram b) i j) ?_
    exact bS (j+1) v3 (by omega) (by omega) (ao Z Z Z Z (ac Z (ac Z (az Z (ah (y:=(((j+1):Nat):Int)) (by rfl)) aq))))<|a9<|OS.skip<|OS.keep<|OS.keep<|OS.keep<|OS.keep<|OS.keep OS.nil
  ·
   refine Ex<|ab<|tr 0 Z (y:=(frRow (gram b) i i)) (by rw [show j=i by omega]) ?_
   refine a5 (Γ:=[.fr (kMZ.is b),.fr (kN6.is (i:Int)),.fr (VP.pim kVZ (b.getD i [])),.fr (kVZ.is (b.getD i [])),.fr (kMZ.is b),.fr (kN6.is (i:Int)),.fr (VP.pim kVZ (b.getD i [])),.fr (kVZ.is (b.getD i [])),.fr (kC.is (dotV (b.getD i []) (b.getD i []))),.fr (kRC.is (rq (gsE (qG (gram b)) 0 i i))),.al (fun b=>OB.box b 31 kRC (0,0))]) (om Z Z (om Z Z (aa Z (fun N=>aU i Z Z U22 aK Z (v:=(b.getD i [])) (gd [] (by omega))) (aa Z (fun N=>aO Z aK) (om Z Z (om Z Z (aa Z (fun N=>aU i Z Z U22 aK Z (v:=(b.getD i [])) (gd [] (by omega))) (aa Z (fun N=>aO Z aK) (aa Z (fun N=>f2 fn238 Z Z (gp n (b.getD i []) (b.getD i []) (hb i) (hb i) (by have:=row_le hr hc i;omega) (Nat.le_refl _))) (aa Z (fun N=>aV (aB dK (aj Z (aL ((hz i i).sm (by omega))) ar) (dH (dotV (b.getD i []) (b.getD i [])))) (ah Z)) (oc (cR Z ba) oz)))))))))))<|fun σ4=>?_
   refine aE .n (aC (l:=kRC) (u:=rq (gsE (qG (gram b)) 0 i i)) 0 Z Z Z ai Z Lr)<|Wn<|ab<|Cr<|Wa Z<|Wn<|aF<|bU (fun (l:Nat) (p:Nat)=>l≤i) (fun (l:Nat) (p:Nat)=>[(0,kMZ.is b),(2,VP.pt b1 0),(3,kBool.is false),(4,VP.pt b2 0),(5,kN6.is (i:Int)),(6,VP.ex v),(10,VP.pt p 0),(11,kN6.is (l:Int))]) (fun (l:Nat) (p:Nat)=>[OB.box p 31 kRC (rq (gsE (qG (gram b)) l i i)),OB.row v 31 kRC (frRow (gram b) i i),OB.row vM 26 (kSl kRC) (frMus (gram b) i),OB.row vS 31 kRC (frSts (gram b) i),OB.box b2 150 (kPair kVal kVal) (vM,vS),OB.box b1 150 kFrm ([],[])]) (fun (l:Nat) (p:Nat)=>i-l) 0 (σ4 10) (by omega) (ao Z Z Z Z (ac Z (ac Z (ac Z (az Z (ah (y:=(0:Int)) (by rfl)) aq))))) (aG _) ?_
   intro l p hl2
   refine ab<|Cr<|Wm Z<|Wm Z<|Ws (aX Z Z)<|Wn ?_
   refine aM Z (fun h_t81=>?_)<|fun h_t81=>?_
   ·
    refine Ck<|ab<|aF ?_
    refine a5 (Γ:=[.fr (kRC.is (rq (gsE (qG (gram b)) l i i))),.fr (VP.ex v),.fr (kN6.is (l:Int)),.fr (VP.pel v (l*4)),.fr (kRC.is (rq (frM (gram b) i l))),.fr (kRC.is (rq ((frM (gram b) i l)*(frM (gram b) i l)))),.fr (VP.pt b2 1),.fr (VP.ex vS),.fr (kN6.is (l:Int)),.fr (VP.pel vS (l*4)),.fr (kRC.is (rq (frS (gram b) l))),.fr (kRC.is (rq ((frM (gram b) i l*frM (gram b) i l)*(frS (gram b) l)))),.fr (kRC.is (rq ((gsE (qG (gram b)) l i i)-(frM (gram b) i l*frM (gram b) i l*frS (gram b) l))))]) (aa Z (fun N=>ae Z (mN N 0 Z) Li ai Z) (om Z Z (om Z Z (aa Z (fun N=>bb (k:=kRC) (xs:=(frRow (gram b) i i)) (n:=(l:Int)) l Z Z (mN N 1 Z) U26 ai Z (by simp only [frRow_len,frMus_len,frSts_len];omega)) (aa Z (fun N=>bp (k:=kRC) (xs:=(frRow (gram b) i i)) l Z (mN N 1 Z) Li (ho:=Z) (y:=(rq (frM (gram b) i l))) (frRow_at (by omega)) ai Z) (aa Z (fun N=>f1 fn239 Z (c_ref05_square 8590000128 (frM (gram b) i l) (hM i l (by omega) (by omega)) (by omega))) (aa Z (fun N=>aw Z dN Z) (aa Z (fun N=>aV (ae (p:=kVal.is vS) Z (mN N 4 Z) (am Li) bN Z) (bc _)) (om Z Z (aa Z (fun N=>bb (k:=kRC) (xs:=(frSts (gram b) i)) (n:=(l:Int)) l Z Z (mN N 3 Z) U26 ai Z (by simp only [frRow_len,frMus_len,frSts_len];omega)) (aa Z (fun N=>bp (k:=kRC) (xs:=(frSts (gram b) i)) l Z (mN N 3 Z) Li (ho:=Z) (y:=(rq (frS (gram b) l))) (eL (by omega)) ai Z) (aa Z (fun N=>aB dk (aj Z (ah (y:=rq (frM (gram b) i l*frM (gram b) i l)) (by rfl)) (aS Z ar)) (dp 17180000256 (frM (gram b) i l*frM (gram b) i l) (frS (gram b) l) ((hM i l (by omega) (by omega)).mul (hM i l (by omega) (by omega))) ((hS l (by omega)).up (by omega)) (by omega))) (aa Z (fun N=>aB d6 (aS Z (aj Z (ah (y:=rq (frM (gram b) i l*frM (gram b) i l*frS (gram b) l)) (by rfl)) ar)) (eu 25770000384 (gsE (qG (gram b)) l i i) (frM (gram b) i l*frM (gram b) i l*frS (gram b) l) ((hE l i (by omega) (by omega)).up (by omega)) (((hM i l (by omega) (by omega)).mul (hM i l (by omega) (by omega))).mul (hS l (by omega))) (by omega))) oz)))))))))))))<|fun σ5=>?_
    refine aE .n (aC (l:=kRC) (u:=rq ((gsE (qG (gram b)) l i i)-(frM (gram b) i l*frM (gram b) i l*frS (gram b) l))) 0 Z Z Z ai Z Lr)<|au<|Qb<|ak<|Wm Z<|Ws (aR Z Z (c:=((l:Int)+1)) (aH (by omega)))<|Wa Z<|au<|tb 0 Z (y:=(rq (gsE (qG (gram b)) (l+1) i i))) (by rw [fr_step hs (hP.le (by omega))]) ?_
    exact bS (l+1) p (by omega) (by omega) (ao Z Z Z Z (ac Z (ac Z (ac Z (az Z (ah (y:=(((l+1):Nat):Int)) (by rfl)) aq)))))<|aG _
   ·
    refine Ex<|ab<|ab ?_
    have hSi:RZ 8590000128 (frS (gram b) i):=(frE_RZ hs hz hP (Nat.le_refl i) (Nat.le_refl i) (Nat.le_refl i)).up (hU i (by omega))
    refine tb 0 Z (y:=(rq (frS (gram b) i))) (by rw [show l=i by omega];rfl)<|ak<|Ws (aw Z cB Z)<|Ws (ae Z (ag 0 Z) (aD Li) af Z)<|Ws (aB eD (aj Z (aL (hSi.a.sm (by omega))) ar) (er ((rq (frS (gram b) i)).1)))<|Ws (dL Z Z)<|Wn ?_
    refine aM Z (fun h_t100=>?_)<|fun h_t100=>?_
    ·
     refine ab<|eb (k2:=(kPair (kSl (kSl kRC)) kVal)) ((frMus (gram b) i),vS) 2 3 Z Z (fun m_ cs_ h_ c_=>fB m_ cs_ h_ c_) (kp 0 Z (kp 2 Z (kp 3 Z (kp 4 Z (kp 5 Z (kp 6 Z (kp 10 Z (kp 11 Z (kp 79 Z (kp 80 Z (kp 81 Z (kp 97 Z (kp 98 Z (kp 99 Z (kp 100 Z .nil)))))))))))))))<|eb (k2:=kFrm) ((frMus (gram b) i),(frSts (gram b) i)) 2 2 Z Z (fun m_ cs_ h_ c_=>fA m_ cs_ h_ c_) (kp 0 Z (kp 2 Z (kp 3 Z (kp 4 Z (kp 5 Z (kp 6 Z (kp 10 Z (kp 11 Z (kp 79 Z (kp 80 Z (kp 81 Z (kp 97 Z (kp 98 Z (kp 99 Z (kp 100 Z .nil)))))))))))))))<|ak<|Ws (ae (p:=kFrm.is ((frMus (gram b) i),(frSts (gram b) i))) Z (ag 2 Z) Li dg Z)<|aE .n (aC (l:=kFrm) (u:=((frMus (gram b) i),(frSts (gram b) i))) 3 Z Z Z dg Z Lr)<|Wa Z<|Wn<|aA<|a6<|bQ<|a6<|a6<|bQ<|a6 ?_
     have hneg:=(frS_sgn hs hP).1 h_t100
     refine tb 3 Z (y:=(frV (gram b) b.length)) (fr_no (by omega) hP hneg).1<|tl 3 Z (y:=(gOk (gram b) b.length)) (fr_no (by omega) hP hneg).2 ?_
     exact Qd Z (aY Z (ag 3 Z) dg (aI Z ay)) ⟨Z,Z⟩
    ·
     refine Ck<|ab<|bL 1 Z (kp 0 Z (kp 2 Z (kp 3 Z (kp 4 Z (kp 5 Z (.hit (i:=6) Z (kp 10 Z (kp 11 Z (kp 79 Z (kp 80 Z (kp 81 Z (kp 97 Z (kp 98 Z (kp 99 Z (kp 100 Z .nil))))))))))))))) ?_
     have hpos:0<uE (gram b) i i i:=Classical.byContradiction fun e=>h_t100 ((frS_sgn hs hP).2 e)
     refine ak<|Ws (aw Z eU Z)<|Ws (aV (ae (p:=kVal.is vM) Z (ag 3 Z) (aD Li) eX Z) (bc _))<|Wm Z<|Ws (bB U148 gk (bV Z bA) Z (by decide))<|bI 1 .n Z Z Z Lr U148 gk (by simp only [frRow_len,frMus_len,frSts_len,List.length_cons,List.length_nil];omega) fun v4=>Ws (aw Z eU Z)<|bo 1 Z fun hcell_=>aE .n (dx 3 Z Z (aD Li) eX Z (bn (by assumption)))<|Wn<|ak<|Ws (aw Z dN Z)<|Ws (aV (ae (p:=kVal.is vS) Z (ag 3 Z) (am Li) bN Z) (bc _))<|Ws (ae Z (ag 0 Z) Li ai Z)<|Ws (bB U26 dn (bV Z bA) Z (by decide))<|bI 2 .n Z Z Z Lr U26 dn (by simp only [frRow_len,frMus_len,frSts_len,List.length_cons,List.length_nil];omega) fun v5=>Ws (aw Z dN Z)<|bo 2 Z fun hcell_=>aE .n (dx 3 Z Z (am Li) bN Z (bn (by assumption)))<|au<|Qb<|ak ?_
     refine Wm Z<|Ws (aR Z Z (c:=((i:Int)+1)) (aH (by omega)))<|Wa Z<|au<|tr 1 Z (y:=(frMus (gram b) (i+1))) (frMus_app (gram b) i)<|tr 2 Z (y:=(frSts (gram b) (i+1))) (frSts_app (gram b) i) ?_
     exact dd (i+1) v4 v5 (by omega) ⟨by omega,posU_next hP hpos⟩ (ao Z Z Z Z (az Z (ah (y:=(((i+1):Nat):Int)) (by rfl)) aq))<|a9<|OS.skip<|OS.keep<|OS.keep<|OS.keep<|OS.keep OS.nil
 ·
  refine Ex<|ab<|eb (k2:=(kPair (kSl (kSl kRC)) kVal)) ((frMus (gram b) i),vS) 0 1 Z Z (fun m_ cs_ h_ c_=>fB m_ cs_ h_ c_) (kp 0 Z (kp 2 Z (kp 3 Z (kp 4 Z (kp 5 Z (kp 12 Z (kp 13 Z (kp 14 Z (kp 15 Z .nil)))))))))<|eb (k2:=kFrm) ((frMus (gram b) i),(frSts (gram b) i)) 0 0 Z Z (fun m_ cs_ h_ c_=>fA m_ cs_ h_ c_) (kp 0 Z (kp 2 Z (kp 3 Z (kp 4 Z (kp 5 Z (kp 12 Z (kp 13 Z (kp 14 Z (kp 15 Z .nil))))))))) ?_
  have hib:i=b.length:=by omega
  refine ak<|Ws (ae (p:=kFrm.is ((frMus (gram b) i),(frSts (gram b) i))) Z (ag 0 Z) Li dg Z)<|aE .n (aC (l:=kFrm) (u:=((frMus (gram b) i),(frSts (gram b) i))) 1 Z Z Z dg Z Lr)<|Wa Z<|Wn<|aA<|tb 1 Z (y:=(frV (gram b) b.length)) (by rw [←hib];exact (fr_yes hP).1)<|tl 3 Z (y:=(gOk (gram b) b.length)) (by rw [←hib];exact (fr_yes hP).2) ?_
  exact Qd Z (aY Z (ag 1 Z) dg (aI Z ay)) ⟨Z,Z⟩
end Fw
namespace Fw
open Go
def frR (b:List (List Int)) (bits:Bool):List (List (Int×Int))×List (Int×Int):=if gsoE b bits=0 then frV (gram b) b.length else ([],[])
theorem frR_1 {b bits} (h:gshape b bits≠0):([],[])=frR b bits∧gshape b bits=gsoE b bits:=by
  have e:=(gsoE_1 h).1
  exact ⟨by unfold frR;rw [if_neg (by rw [e];exact h)],e.symm⟩
theorem frR_2 {b bits} (h:¬gshape b bits≠0) (h2:gOk (gram b) b.length=false):([],[])=frR b bits∧50=gsoE b bits:=by
  have e:=(gsoE_2 h h2).1
  exact ⟨by unfold frR;rw [if_neg (by rw [e];decide)],e.symm⟩
theorem frR_3 {b bits} (h:¬gshape b bits≠0) (h2:gOk (gram b) b.length=true):frV (gram b) b.length=frR b bits∧0=gsoE b bits:=by
  have e:=(gsoE_3 h h2).1
  exact ⟨by unfold frR;rw [if_pos e],e.symm⟩
theorem gsoE_ok {b bits} (h:gsoE b bits=0):gshape b bits=0∧PosU (gram b) b.length:=by
  unfold gsoE at h
  by_cases h1:gshape b bits≠0
  · rw [if_pos h1] at h;exact absurd h h1
  · rw [if_neg h1] at h
    by_cases h2:gOk (gram b) b.length=true
    · exact ⟨by omega,gOk_iff.1 h2⟩
    · rw [if_neg h2] at h;exact absurd h (by decide)
structure Basis (b:List (List Int)):Prop where
  z:SzM 256 b
  n:b.length≤12
  n0:0<b.length
  r:RectL b
  rb:rect b=true
  c:∀i,(b.getD i []).length≤12
  p:PosU (gram b) b.length
theorem basis_of {b} (h:gsoE b true=0):Basis b:=by
  obtain ⟨h1,h2⟩:=gsoE_ok h
  obtain ⟨h3,h4,h5⟩:=gshape_ok h1
  obtain ⟨h6,h7,h8⟩:=bigN_no h3
  exact ⟨mbits_Sz (h7 rfl),h6,h4,rectL h5,h5,h8,h2⟩
theorem SzM.up {n m b} (h:SzM n b) (hm:n≤m):SzM m b:=fun i k=>(h i k).up hm
theorem SzL.up {n m u} (h:SzL n u) (hm:n≤m):SzL m u:=fun k=>(h k).up hm
theorem SzL.nil (n):SzL n []:=fun k=>by rw [List.getD_nil];exact Sz.zero _
theorem combA_Sz {n m x b} (hx:SzL n x) (hb:SzM m b):SzL (n+m+b.length) (combA x b):=by
  unfold combA
  split
  · intro k
    by_cases hk:k<(b.getD 0 []).length
    · rw [combV_get hk];exact combN_Sz hx hb k _
    · rw [List.getD_eq_getElem?_getD,List.getElem?_eq_none (by rw [combV_len];omega)];exact Sz.zero _
  · exact SzL.nil _
theorem SzL.sm {m u} (h:SzL m u) (hm:m≤549755813888):∀x∈u,Sm x:=fun x hx=>by
  obtain ⟨i,hi,rfl⟩:=mem_getD 0 hx
  exact (h i).sm hm
end Fw
namespace Fw
open Go Go.Proofs
theorem c_ref05_check (n:Nat) (b:List (List Int)) (bits:Bool) (hb:gshape b bits=0→SzM n b) (hn:n≤1048576):Fn Tryz.prog 110 [kMZ.is b,kBool.is bits] (VP.tup [kFrm.is (frR b bits),kN6.is (gsoE b bits)]):=by
 refine aN Tryz.func110 Z Z fun m w=>Cr<|aW .n fc fun b1=>Wa Z<|Wr<|Wm Z<|Wm Z<|Ws (f2 fn180 Z Z (c_ref05_shape b bits))<|Wa Z<|Wn<|ab<|Cr<|Wm Z<|Ws (bG Z Z)<|Wn ?_
 refine aM Z (fun h_t13=>?_)<|fun h_t13=>?_
 ·
  refine Cr<|Ws (bY gR Z br (.nil _))<|Wm Z<|aE .n (aC (l:=kFrm) (u:=([],[])) 0 Z Z Z dg Z Lr)<|Wa Z<|Wn<|aA<|a6<|tb 0 Z (y:=(frR b bits)) (frR_1 (by omega)).1<|tl 5 Z (y:=(gsoE b bits)) (frR_1 (by omega)).2 ?_
  exact Qd Z (aY Z (ag 0 Z) dg (aI Z ay)) ⟨Z,Z⟩
 ·
  refine Ck<|ab ?_
  have hok:=gshape_ok (show gshape b bits=0 by omega)
  have hno:=bigN_no hok.1
  have hr:=rectL hok.2.2
  refine ak<|Wm Z<|Ws (f1 fn181 Z (c_ref05_Make n b (hb (by omega)) (by assumption) (by omega) (hno.2.2 0) (by assumption)))<|Wm Z<|Ws (aP Z Z)<|Ws (aP Z Z)<|Ax (l:=kFrm) (u:=frV (gram b) b.length) fc Z dg (fun _=>Z) Lr fun b2=>Wa Z<|Wn<|ab<|Cr<|Wm Z<|Ws (dh Z)<|Wn ?_
  refine eh Z (fun h_t22=>?_)<|fun h_t22=>?_
  ·
   refine Cr<|Ws (bY gR Z br (.nil _))<|aE .n (aC (l:=kFrm) (u:=([],[])) 1 Z Z Z dg Z Lr)<|Wa Z<|Wn<|aA<|a6 ?_
   have hk:gOk (gram b) b.length=false:=by simpa using h_t22
   refine tb 1 Z (y:=(frR b bits)) (frR_2 (by omega) hk).1<|tl 5 Z (y:=(gsoE b bits)) (frR_2 (by omega) hk).2 ?_
   exact Qd Z (aY Z (ag 1 Z) dg (aI Z ay)) ⟨Z,Z⟩
  ·
   refine Ck<|Cr<|Ws (ae Z (ag 0 Z) Li dg Z)<|aE .n (aC (l:=kFrm) (u:=frV (gram b) b.length) 1 Z Z Z dg Z Lr)<|Wa Z<|Wn<|aA ?_
   have hk:gOk (gram b) b.length=true:=by simpa using h_t22
   refine tb 1 Z (y:=(frR b bits)) (frR_3 (by omega) hk).1<|tl 5 Z (y:=(gsoE b bits)) (frR_3 (by omega) hk).2 ?_
   exact Qd Z (aY Z (ag 1 Z) dg (aI Z ay)) ⟨Z,Z⟩
theorem c_ref05_Valid (b:List (List Int)):Fn Tryz.prog 48 [kMZ.is b] (kN6.is (gsoE b true)):=by
 refine aN Tryz.func48 Z Z fun m w=>Cr<|Wa Z<|Wr<|Wm Z<|Ws (f2 fn110 Z Z (c_ref05_check 256 b true (fun h=>mbits_Sz ((bigN_no (gshape_ok h).1).2.1 Z)) (by decide)))<|Wm Z<|Ws (aP Z Z)<|Ws (aP Z Z)<|Ax (l:=kFrm) (u:=frR b true) fc Z dg (fun _=>Z) Lr fun b1=>Wa Z<|Wr<|Wm Z<|Wa Z<|Wn ?_
 refine aA ?_
 exact Qd Z (aI Z ay) ⟨Z,Z⟩
end Fw
namespace Fw
open Go
def matF (a:List (List Int)):Nat→Nat→Int:=fun i j=>(a.getD i []).getD j 0
def posF (A B C:Int):Prop:=0<A∧B*B<4*(A*C)
instance (A B C:Int):Decidable (posF A B C):=by unfold posF;infer_instance
def kF (A B:Int):Int:=(A-B).fdiv (A+A)
def sB (A B:Int):Int:=B+(A*kF A B+A*kF A B)
def sC (A B C:Int):Int:=(A*kF A B+B)*kF A B+C
def redF (A B C:Int):Prop:=A<C∨(A=C∧0≤B)
instance (A B C:Int):Decidable (redF A B C):=by unfold redF;infer_instance
def gFlag (A B:Int):Nat:=if 0≤B∧B≤A then 0 else 1
theorem sq_nn (x:Int):0≤x*x:=by
  rcases Int.le_total 0 x with h | h
  · exact Int.mul_nonneg h h
  · exact Int.mul_nonneg_of_nonpos_of_nonpos h h
theorem kF_rng {A B:Int} (hA:0<A):A*kF A B+A*kF A B≤A-B∧A-B<A*kF A B+A*kF A B+(A+A):=by
  have h1:=Int.fmod_nonneg_of_pos (A-B) (show 0<A+A by omega)
  have h2:=Int.fmod_lt_of_pos (A-B) (show 0<A+A by omega)
  have h3:=Int.mul_fdiv_add_fmod (A-B) (A+A)
  have h4:(A+A)*(A-B).fdiv (A+A)=A*kF A B+A*kF A B:=by unfold kF;rw [Int.add_mul]
  omega
theorem sB_rng {A B:Int} (hA:0<A) : -A<sB A B∧sB A B≤A:=by
  have:=kF_rng (B:=B) hA
  unfold sB;omega
theorem disc_s (A B C:Int):sB A B*sB A B-4*(A*sC A B C)=B*B-4*(A*C):=by
  unfold sB sC
  generalize kF A B=k
  grind
theorem pos_s {A B C:Int} (h:posF A B C):sB A B*sB A B<4*(A*sC A B C)∧0<sC A B C:=by
  have h1:=disc_s A B C
  have h2:sB A B*sB A B<4*(A*sC A B C):=by have:=h.2;omega
  refine ⟨h2,?_⟩
  have h3:=sq_nn (sB A B)
  rcases Int.lt_or_le 0 (sC A B C) with h4 | h4
  · exact h4
  · have:=Int.mul_nonpos_of_nonneg_of_nonpos (Int.le_of_lt h.1) h4
    omega
theorem kF_0 {A B:Int} (hA:0<A) (h:0≤B∧B≤A):kF A B=0:=by
  unfold kF
  rw [Int.fdiv_eq_ediv_of_nonneg _ (by omega)]
  exact Int.ediv_eq_zero_of_lt (by omega) (by omega)
theorem g_dec {A B C:Int} (h:posF A B C∧¬redF A (sB A B) (sC A B C)):2*(sC A B C).toNat+gFlag (sC A B C) (-(sB A B))<2*A.toNat+gFlag A B:=by
  obtain ⟨hp,hr⟩:=h
  obtain ⟨h1,h2⟩:=pos_s hp
  have hA:=hp.1
  have h3:=sB_rng (B:=B) hA
  unfold redF at hr
  by_cases hc:sC A B C<A
  · have h4:gFlag (sC A B C) (-(sB A B))≤1:=by unfold gFlag;split <;> omega
    omega
  · have h5:A=sC A B C:=by omega
    have h6:sB A B<0:=by omega
    have h7:gFlag (sC A B C) (-(sB A B))=0:=by unfold gFlag;rw [if_pos (by omega)]
    have h8:gFlag A B=1:=by
      unfold gFlag
      rw [if_neg]
      intro h9
      have:=kF_0 hA h9
      have h10:sB A B=B:=by unfold sB;rw [this];omega
      omega
    omega
def gs (A B C x y z t:Int):(Int×Int×Int)×List Int:=
  if h:posF A B C∧¬redF A (sB A B) (sC A B C) then gs (sC A B C) (-(sB A B)) A (y+x*kF A B) (-x) (t+z*kF A B) (-z)
  else ((A,sB A B,sC A B C),[x,y+x*kF A B,z,t+z*kF A B])
termination_by 2*A.toNat+gFlag A B
decreasing_by exact g_dec h
def g1 (A B C:Int):Int×Int×Int:=(gs A B C 1 0 0 1).1
end Fw
namespace Fw
open Go Go.Proofs
end Fw
namespace Fw
open Go
theorem map_take_app {α β:Type} {l:List α} {F:α→β} {d:α} {i:Nat} (h:i<l.length):(l.take i).map F++[F (l.getD i d)]=(l.take (i+1)).map F:=by
  rw [←take_app (d:=d) h,List.map_append];rfl
abbrev fV:=@map_take_app
def sumN (f:Nat→Int):Nat→Int
  | 0=>0
  | n+1=>sumN f n+f n
theorem sumN_congr {f g:Nat→Int}:∀{n},(∀i,i<n→f i=g i)→sumN f n=sumN g n
  | 0,_=>rfl
  | n+1,h=>by rw [sumN,sumN,sumN_congr (fun i hi=>h i (by omega)),h n (by omega)]
theorem mul_sumN (f:Nat→Int) (c:Int):∀n,c*sumN f n=sumN (fun i=>c*f i) n
  | 0=>by simp [sumN]
  | n+1=>by rw [sumN,sumN,Int.mul_add,mul_sumN f c n]
theorem sumN_add (f g:Nat→Int):∀n,sumN (fun i=>f i+g i) n=sumN f n+sumN g n
  | 0=>rfl
  | n+1=>by simp only [sumN];rw [sumN_add f g n];omega
theorem sumN_zero:∀n,sumN (fun _=>0) n=0
  | 0=>rfl
  | n+1=>by rw [sumN,sumN_zero n];rfl
theorem dotN_sum (u v:List Int):∀n,dotN u v n=sumN (fun k=>u.getD k 0*v.getD k 0) n
  | 0=>rfl
  | n+1=>by rw [dotN,sumN,dotN_sum u v n]
theorem combN_sum (x:List Int) (b:List (List Int)) (k):∀n,combN x b k n=sumN (fun i=>x.getD i 0*(b.getD i []).getD k 0) n
  | 0=>rfl
  | n+1=>by rw [combN,sumN,combN_sum x b k n]
theorem uE_congr {G H:Nat→Nat→Int} {n:Nat} (h:∀i j,i<n→j<n→G i j=H i j):∀k i j,k≤n→i<n→j<n→uE G k i j=uE H k i j∧uD G k=uD H k
  | 0,i,j,_,hi,hj=>⟨h i j hi hj,rfl⟩
  | k+1,i,j,hk,hi,hj=>by
    have e1:=uE_congr h k i j (by omega) hi hj
    have e2:=(uE_congr h k i k (by omega) hi (by omega)).1
    have e3:=(uE_congr h k j k (by omega) hj (by omega)).1
    have e4:=(uE_congr h k k k (by omega) (by omega) (by omega)).1
    have e5:uD G (k+1)=uD H (k+1):=e4
    exact ⟨by rw [uE_succ,uE_succ,e5,e1.1,e2,e3,e1.2],e5⟩
theorem uD_congr {G H:Nat→Nat→Int} {n:Nat} (h:∀i j,i<n→j<n→G i j=H i j) {k} (hk:k≤n):uD G k=uD H k:=by
  cases k with
  | zero=>rfl
  | succ k=>exact (uE_congr h k k k (by omega) (by omega) (by omega)).1
theorem getD_map {α β:Type} (F:α→β) (l:List α) (d:α) (e:β) {i:Nat} (h:i<l.length):(l.map F).getD i e=F (l.getD i d):=by
  rw [gde _ e (by simpa using h),gde _ d h];simp
theorem slslC_Z {xs:List (List Int)} (h:∀r∈xs,∀x∈r,Sm x):VP.le (kMC.is xs) (kMZ.is xs):=
  is_kd rfl fun m cs hx=>sl_kd (f:=fun r s=>r=s∧∀x∈r,Sm x) (fun m cs r s hrs hr=>by
    obtain ⟨rfl,h2⟩:=hrs
    exact sl_kd (f:=fun x y=>x=y∧Sm x) (fun m cs x y hxy hx=>by obtain ⟨rfl,h4⟩:=hxy;exact kC_Zat h4 hx) (F2.same h2) hr) (F2.same h) hx
abbrev d3:=@slslC_Z
theorem SzM_mem {n b} (h:SzM n b) {r:List Int} (hr:r∈b):SzL n r:=by
  obtain ⟨i,hi,rfl⟩:=mem_getD [] hr
  exact h i
theorem SzM.sm {n b} (h:SzM n b) (hn:n≤549755813888):∀r∈b,∀x∈r,Sm x:=fun r hr=>(SzM_mem h hr).sm hn
end Fw
namespace Fw
open Go Go.Proofs
theorem c_mat_eachRR (fid:FuncId) (caps:List VP) (F:List Int→List Int) (l:List (List Int)) (hok:FnOk Tryz.prog fid) (hF:∀x,x∈l→Fn Tryz.prog fid (kVZ.is x::caps) (kVC.is (F x))):Fn Tryz.prog 223 [kMZ.is l,VP.clo fid caps] (kMC.is (l.map F)):=by
 refine aN Tryz.func223 Z Z fun m w=>a8 (i:=0) Z bF fun hB=>Cr<|Wa Z<|Wr<|Wm Z<|Ws (aJ Z U22)<|fS l.length .n Z Z Z (by omega) U22 c6 z23_sl_C fun v1=>Wa Z<|Wn<|ab<|Cr<|Wm Z<|Ws (aJ Z U22)<|Wm Z<|Wn<|aF ?_
 refine bU (fun (i:Nat) (v:Value)=>i≤l.length) (fun (i:Nat) (v:Value)=>[(0,kMZ.is l),(1,VP.clo fid caps),(5,VP.ex v),(11,kMZ.is l),(12,kN6.is (l.length:Int)),(13,kN6.is (i:Int))]) (fun (i:Nat) (v:Value)=>[OB.row v 23 kVC ((l.take i).map F)]) (fun (i:Nat) (v:Value)=>l.length-i) 0 v1 (by omega) (ao Z Z Z Z (ac Z (az Z (ah (y:=(0:Int)) (by rfl)) aq))) (a9 (OS.keepLe (bi (by rfl)) OS.nil)) ?_
 intro i v hi
 refine Cr<|Ws (aX Z Z)<|Wn<|ab ?_
 refine aM Z (fun h_t14=>?_)<|fun h_t14=>?_
 ·
  refine Ck<|ab<|aF<|Cr<|Ws (aU i Z Z U22 aK Z (v:=(l.getD i [])) (gd [] (by omega)))<|Ws (aO Z aK)<|Wa Z<|Wn<|ak<|Wm Z<|Wm Z<|Wm Z<|Ws (eQ Z hok (aS Z ar) (hF _ (fu [] (by omega))))<|Ws (bB U22 c6 (bV Z bA) Z (by decide))<|bI 0 .n Z Z Z Lr U22 c6 (by simp;omega) fun v2=>Wa Z<|au<|Qb<|ak<|Ws (aR Z Z (c:=((i:Int)+1)) (aH (by omega))) ?_
  refine Wm Z<|au<|tr 0 Z (y:=((l.take (i+1)).map F)) (fV (by omega)) ?_
  exact bS (i+1) v2 (by omega) (by omega) (ao Z Z Z Z (ac Z (az Z (ah (y:=(((i+1):Nat):Int)) (by rfl)) aq)))<|aG _
 ·
  refine Ex<|Cr<|Wm Z<|Wa Z<|Wn<|aA<|bL 0 Z (kp 0 Z (kp 1 Z (.hit (i:=4) Z (.hit (i:=5) Z (kp 11 Z (kp 12 Z (kp 13 Z (kp 14 Z (.hit (i:=24) Z .nil)))))))))<|tl 4 Z (y:=(l.map F)) (by rw [List.take_of_length_le (by omega)]) ?_
  exact Qd Z (aI Z ay) ⟨Z,Z⟩
end Fw
namespace Fw
open Go
theorem gsE_succ (G:Nat→Nat→Rat) (k x y):gsE G (k+1) x y=gsE G k x y-gsE G k x k*gsE G k k y/gsE G k k k:=rfl
def cI (i:Nat) (t:Rat) (x:Nat):Rat:=if x=i then t else 0
theorem cI_ne {i x t} (h:x≠i):cI i t x=0:=if_neg h
theorem cI_eq {i t}:cI i t i=t:=if_pos rfl
def rowQ (G:Nat→Nat→Rat) (i j:Nat) (t:Rat):Nat→Nat→Rat:=fun x y=>G x y+cI i t x*G j y+cI i t y*G x j+cI i t x*cI i t y*G j j
theorem gsE_row {G:Nat→Nat→Rat} {i j:Nat} {t:Rat} (hij:j<i):∀k,k≤j→(∀l,l<k→gsE G l l l≠0)→∀x y,gsE (rowQ G i j t) k x y=gsE G k x y+cI i t x*gsE G k j y+cI i t y*gsE G k x j+cI i t x*cI i t y*gsE G k j j
  | 0,_,_,x,y=>rfl
  | k+1,hk,hn,x,y=>by
    have ih:=gsE_row (G:=G) (t:=t) hij k (by omega) (fun l hl=>hn l (by omega))
    have h0:=hn k (by omega)
    have ck:cI i t k=0:=cI_ne (by omega)
    rw [gsE_succ,ih x y,ih x k,ih k y,ih k k,ck,gsE_succ,gsE_succ,gsE_succ,gsE_succ]
    grind
theorem gsE_row_hi {G:Nat→Nat→Rat} {i j:Nat} {t:Rat} (hij:j<i):∀k,j<k→(∀l,l<k→gsE G l l l≠0)→∀x y,gsE (rowQ G i j t) k x y=gsE G k x y
  | 0,hk,_,x,y=>absurd hk (by omega)
  | k+1,hk,hn,x,y=>by
    by_cases e:j=k
    · subst e
      have ih:=gsE_row (G:=G) (t:=t) hij j (Nat.le_refl _) (fun l hl=>hn l (by omega))
      have h0:=hn j (by omega)
      have cj:cI i t j=0:=cI_ne (by omega)
      rw [gsE_succ,ih x y,ih x j,ih j y,ih j j,cj,gsE_succ]
      grind
    · have ih:=gsE_row_hi (G:=G) (t:=t) hij k (by omega) (fun l hl=>hn l (by omega))
      rw [gsE_succ,ih x y,ih x k,ih k y,ih k k,gsE_succ]
theorem gsE_row_piv {G:Nat→Nat→Rat} {i j:Nat} {t:Rat} (hij:j<i) (k:Nat) (hn:∀l,l<k→gsE G l l l≠0):gsE (rowQ G i j t) k k k=gsE G k k k:=by
  by_cases h:k≤j
  · rw [gsE_row hij k h hn,cI_ne (show k≠i by omega)];grind
  · exact gsE_row_hi hij k (by omega) hn k k
theorem gsD_row {G:Nat→Nat→Rat} {i j:Nat} {t:Rat} (hij:j<i):∀k,(∀l,l<k→gsE G l l l≠0)→gsD (rowQ G i j t) k=gsD G k
  | 0,_=>rfl
  | k+1,hn=>by
    show gsD (rowQ G i j t) k*gsE (rowQ G i j t) k k k=gsD G k*gsE G k k k
    rw [gsD_row hij k (fun l hl=>hn l (by omega)),gsE_row_piv hij k (fun l hl=>hn l (by omega))]
def sg (p x:Nat):Nat:=if x=p then p+1 else if x=p+1 then p else x
theorem sg_p (p):sg p p=p+1:=if_pos rfl
theorem sg_q (p):sg p (p+1)=p:=by unfold sg;rw [if_neg (by omega),if_pos rfl]
theorem sg_ne {p x} (h:x≠p) (h2:x≠p+1):sg p x=x:=by unfold sg;rw [if_neg h,if_neg h2]
def swpQ (G:Nat→Nat→Rat) (p:Nat):Nat→Nat→Rat:=fun x y=>G (sg p x) (sg p y)
theorem gsE_swp_lo {G:Nat→Nat→Rat} {p:Nat}:∀k,k≤p→∀x y,gsE (swpQ G p) k x y=gsE G k (sg p x) (sg p y)
  | 0,_,x,y=>rfl
  | k+1,hk,x,y=>by
    have ih:=gsE_swp_lo (G:=G) (p:=p) k (by omega)
    rw [gsE_succ,ih x y,ih x k,ih k y,ih k k,gsE_succ,sg_ne (show k≠p by omega) (by omega)]
theorem gsE_swp_1 {G:Nat→Nat→Rat} {p:Nat} (x y):gsE (swpQ G p) (p+1) x y=gsE G p (sg p x) (sg p y)-gsE G p (sg p x) (p+1)*gsE G p (p+1) (sg p y)/gsE G p (p+1) (p+1):=by
  rw [gsE_succ,gsE_swp_lo p (Nat.le_refl _),gsE_swp_lo p (Nat.le_refl _),gsE_swp_lo p (Nat.le_refl _),gsE_swp_lo p (Nat.le_refl _),sg_p]
theorem inv_div {D c:Rat} (hc:c≠0) (hD:D≠0):(D/c)⁻¹=c/D:=Rat.inv_eq_of_mul_eq_one (by grind)
theorem schur2_ring (A x1 x2 y1 y2 a b c u v w:Rat) (hu:c*u=1) (hv:a*v=1) (hw:(a*c-b*b)*w=1):A-x2*y2*u-(x1-x2*b*u)*(y1-b*y2*u)*(c*w)=A-x1*y1*v-(x2-x1*b*v)*(y2-b*y1*v)*(a*w):=by
  grind
theorem schur2 {A x1 x2 y1 y2 a b c:Rat} (h1:a≠0) (h2:c≠0) (h3:c-b*b/a≠0):A-x2*y2/c-(x1-x2*b/c)*(y1-b*y2/c)/(a-b*b/c)=A-x1*y1/a-(x2-x1*b/a)*(y2-b*y1/a)/(c-b*b/a):=by
  have h4:a*c-b*b≠0:=by
    intro e
    apply h3
    have:c-b*b/a=(a*c-b*b)/a:=by grind
    rw [this,e];grind
  have e1:a-b*b/c=(a*c-b*b)/c:=by grind
  have e2:c-b*b/a=(a*c-b*b)/a:=by grind
  have i1:=inv_div h2 h4
  have i2:=inv_div h1 h4
  have hw:(a*c-b*b)*(a*c-b*b)⁻¹=1:=Rat.mul_inv_cancel _ h4
  have hu:c*c⁻¹=1:=Rat.mul_inv_cancel _ h2
  have hv:a*a⁻¹=1:=Rat.mul_inv_cancel _ h1
  have key:=schur2_ring A x1 x2 y1 y2 a b c c⁻¹ a⁻¹ (a*c-b*b)⁻¹ hu hv hw
  rw [e1,e2,Rat.div_def _ ((a*c-b*b)/c),Rat.div_def _ ((a*c-b*b)/a),i1,i2]
  simp only [Rat.div_def]
  exact key
theorem gsE_swp_2 {G:Nat→Nat→Rat} {p:Nat} (hs:∀i j,G i j=G j i) (h1:gsE G p p p≠0) (h2:gsE G p (p+1) (p+1)≠0) (h3:gsE G (p+1) (p+1) (p+1)≠0) {x y} (hx:p+1<x) (hy:p+1<y):gsE (swpQ G p) (p+2) x y=gsE G (p+2) x y:=by
  have s:=gsE_sym hs p
  rw [gsE_succ (swpQ G p) (p+1),gsE_swp_1,gsE_swp_1,gsE_swp_1,gsE_swp_1,sg_q,sg_ne (show x≠p by omega) (by omega),sg_ne (show y≠p by omega) (by omega)]
  rw [gsE_succ] at h3
  rw [gsE_succ G (p+1),gsE_succ G p,gsE_succ G p,gsE_succ G p,gsE_succ G p]
  rw [s p (p+1)] at h3
  rw [s p y,s (p+1) y,s p (p+1)]
  generalize gsE G p x y=A at *
  generalize gsE G p x p=x1 at *
  generalize gsE G p x (p+1)=x2 at *
  generalize gsE G p y p=y1 at *
  generalize gsE G p y (p+1)=y2 at *
  generalize gsE G p p p=a at *
  generalize gsE G p (p+1) p=b at *
  generalize gsE G p (p+1) (p+1)=c at *
  exact schur2 h1 h2 h3
theorem gsE_swp_hi {G:Nat→Nat→Rat} {p:Nat} (hs:∀i j,G i j=G j i) (h1:gsE G p p p≠0) (h2:gsE G p (p+1) (p+1)≠0) (h3:gsE G (p+1) (p+1) (p+1)≠0):∀k,p+2≤k→∀x y,k≤x→k≤y→gsE (swpQ G p) k x y=gsE G k x y
  | 0,hk,_,_,_,_=>absurd hk (by omega)
  | k+1,hk,x,y,hx,hy=>by
    by_cases e:k=p+1
    · subst e;exact gsE_swp_2 hs h1 h2 h3 (by omega) (by omega)
    · have ih:=gsE_swp_hi hs h1 h2 h3 k (by omega)
      rw [gsE_succ,ih x y (by omega) (by omega),ih x k (by omega) (Nat.le_refl _),ih k y (Nat.le_refl _) (by omega),ih k k (Nat.le_refl _) (Nat.le_refl _),gsE_succ]
theorem uE_q {G:Nat→Nat→Int} (hs:SymG G) {k:Nat} (hp:PosU G k) {i j:Nat} (hi:k≤i) (hj:k≤j):(uE G k i j:Rat)=gsD (qG G) k*gsE (qG G) k i j:=(ugs hs k hp).e i j hi hj
theorem uD_q {G:Nat→Nat→Int} (hs:SymG G) {k:Nat} (hp:PosU G k):(uD G k:Rat)=gsD (qG G) k:=(ugs hs k hp).d
theorem piv_pos {G:Nat→Nat→Int} (hs:SymG G) {k n:Nat} (hp:PosU G n) (hk:k<n):0<gsE (qG G) k k k:=(gsE_pos hs (hp.le (by omega))).2 (hp k hk)
theorem piv_ne {G:Nat→Nat→Int} (hs:SymG G) {k n:Nat} (hp:PosU G n) (hk:k<n):gsE (qG G) k k k≠0:=fun e=>by
  have:=piv_pos hs hp hk;rw [e] at this;exact absurd this (by decide)
theorem posU_of {G:Nat→Nat→Int} (hs:SymG G):∀n,(∀k,k<n→0<gsE (qG G) k k k)→PosU G n
  | 0,_=>fun l hl=>absurd hl (by omega)
  | n+1,h=>by
    have ih:=posU_of hs n (fun k hk=>h k (by omega))
    intro l hl
    by_cases e:l=n
    · subst e;exact (gsE_pos hs ih).1 (h l (by omega))
    · exact ih l (by omega)
def rowI (G:Nat→Nat→Int) (i j:Nat) (q:Int):Nat→Nat→Int:=fun x y=>G x y+(if x=i then q else 0)*G j y+(if y=i then q else 0)*G x j+(if x=i then q else 0)*(if y=i then q else 0)*G j j
theorem qG_row (G i j q):qG (rowI G i j q)=rowQ (qG G) i j (q:Rat):=by
  funext x y
  unfold qG rowI rowQ cI
  by_cases hx:x=i <;> by_cases hy:y=i <;> simp [hx,hy,Rat.intCast_add,Rat.intCast_mul] <;> grind
theorem rowI_sym {G i j q} (h:SymG G):SymG (rowI G i j q):=fun x y=>by
  unfold rowI;rw [h x y,h j y,h x j]
  by_cases hx:x=i <;> by_cases hy:y=i <;> simp [hx,hy] <;> omega
section
variable {G:Nat→Nat→Int} {i j n:Nat} {q:Int}
theorem rowI_pos (hs:SymG G) (hp:PosU G n) (hij:j<i):PosU (rowI G i j q) n:=posU_of (rowI_sym hs) n fun k hk=>by
  rw [qG_row,gsE_row_piv hij k (fun l hl=>piv_ne hs hp (by omega))];exact piv_pos hs hp hk
theorem rowI_uD (hs:SymG G) (hp:PosU G n) (hij:j<i) {k:Nat} (hk:k≤n):uD (rowI G i j q) k=uD G k:=by
  have h1:=uD_q (rowI_sym (i:=i) (j:=j) (q:=q) hs) ((rowI_pos hs hp hij).le hk)
  rw [qG_row,gsD_row hij k (fun l hl=>piv_ne hs hp (by omega)),←uD_q hs (hp.le hk)] at h1
  exact_mod_cast h1
theorem rowI_lo (hs:SymG G) (hp:PosU G n) (hij:j<i) (hi:i<n) {k:Nat} (hk:k<j):uE (rowI G i j q) k i k=uE G k i k+q*uE G k j k:=by
  have h1:=uE_q (rowI_sym (i:=i) (j:=j) (q:=q) hs) ((rowI_pos hs hp hij).le (show k≤n by omega)) (show k≤i by omega) (Nat.le_refl k)
  rw [qG_row,gsD_row hij k (fun l hl=>piv_ne hs hp (by omega)),gsE_row hij k (by omega) (fun l hl=>piv_ne hs hp (by omega)),cI_eq,cI_ne (show k≠i by omega)] at h1
  have h2:=uE_q hs (hp.le (show k≤n by omega)) (show k≤i by omega) (Nat.le_refl k)
  have h3:=uE_q hs (hp.le (show k≤n by omega)) (show k≤j by omega) (Nat.le_refl k)
  have h4:(uE (rowI G i j q) k i k:Rat)=((uE G k i k+q*uE G k j k:Int):Rat):=by
    rw [h1,Rat.intCast_add,Rat.intCast_mul,h2,h3];grind
  exact_mod_cast h4
theorem rowI_at (hs:SymG G) (hp:PosU G n) (hij:j<i) (hi:i<n):uE (rowI G i j q) j i j=uE G j i j+q*uD G (j+1):=by
  have h1:=uE_q (rowI_sym (i:=i) (j:=j) (q:=q) hs) ((rowI_pos hs hp hij).le (show j≤n by omega)) (show j≤i by omega) (Nat.le_refl j)
  rw [qG_row,gsD_row hij j (fun l hl=>piv_ne hs hp (by omega)),gsE_row hij j (Nat.le_refl _) (fun l hl=>piv_ne hs hp (by omega)),cI_eq,cI_ne (show j≠i by omega)] at h1
  have h2:=uE_q hs (hp.le (show j≤n by omega)) (show j≤i by omega) (Nat.le_refl j)
  have h3:=uE_q hs (hp.le (show j≤n by omega)) (Nat.le_refl j) (Nat.le_refl j)
  have h4:(uE (rowI G i j q) j i j:Rat)=((uE G j i j+q*uE G j j j:Int):Rat):=by
    rw [h1,Rat.intCast_add,Rat.intCast_mul,h2,h3];grind
  exact_mod_cast h4
theorem rowI_hi (hs:SymG G) (hp:PosU G n) (hij:j<i) {k x:Nat} (hk:j<k) (hkx:k≤x) (hx:x<n):uE (rowI G i j q) k x k=uE G k x k:=by
  have h1:=uE_q (rowI_sym (i:=i) (j:=j) (q:=q) hs) ((rowI_pos hs hp hij).le (show k≤n by omega)) hkx (Nat.le_refl k)
  rw [qG_row,gsD_row hij k (fun l hl=>piv_ne hs hp (by omega)),gsE_row_hi hij k hk (fun l hl=>piv_ne hs hp (by omega)),←uE_q hs (hp.le (show k≤n by omega)) hkx (Nat.le_refl k)] at h1
  exact_mod_cast h1
theorem rowI_ne (hs:SymG G) (hp:PosU G n) (hij:j<i) {k x:Nat} (hxi:x≠i) (hkx:k≤x) (hx:x<n):uE (rowI G i j q) k x k=uE G k x k:=by
  by_cases hk:j<k
  · exact rowI_hi hs hp hij hk hkx hx
  · have h1:=uE_q (rowI_sym (i:=i) (j:=j) (q:=q) hs) ((rowI_pos hs hp hij).le (show k≤n by omega)) hkx (Nat.le_refl k)
    rw [qG_row,gsD_row hij k (fun l hl=>piv_ne hs hp (by omega)),gsE_row hij k (by omega) (fun l hl=>piv_ne hs hp (by omega)),cI_ne hxi,cI_ne (show k≠i by omega)] at h1
    have h2:=uE_q hs (hp.le (show k≤n by omega)) hkx (Nat.le_refl k)
    have h4:(uE (rowI G i j q) k x k:Rat)=(uE G k x k:Rat):=by rw [h1,h2];grind
    exact_mod_cast h4
end
def swpI (G:Nat→Nat→Int) (p:Nat):Nat→Nat→Int:=fun x y=>G (sg p x) (sg p y)
theorem qG_swp (G p):qG (swpI G p)=swpQ (qG G) p:=rfl
theorem swpI_sym {G p} (h:SymG G):SymG (swpI G p):=fun x y=>h _ _
section
variable {G:Nat→Nat→Int} {p n:Nat}
theorem swp_c (hs:SymG G) (hp:PosU G n) (h:p+1<n):0<gsE (qG G) p (p+1) (p+1)∧gsE (qG G) p p p*gsE (qG G) (p+1) (p+1) (p+1)=gsE (qG G) p p p*gsE (qG G) p (p+1) (p+1)-gsE (qG G) p (p+1) p*gsE (qG G) p (p+1) p:=by
  have h1:=piv_pos hs hp (show p<n by omega)
  have h2:=piv_pos hs hp h
  have h3:=piv_ne hs hp (show p<n by omega)
  have hsy:=gsE_sym (fun i j=>by unfold qG;rw [hs i j]:∀i j,qG G i j=qG G j i) p p (p+1)
  rw [gsE_succ] at h2 ⊢
  rw [hsy] at h2 ⊢
  generalize gsE (qG G) p p p=a at *
  generalize gsE (qG G) p (p+1) p=b at *
  generalize gsE (qG G) p (p+1) (p+1)=c at *
  refine ⟨?_,by grind⟩
  have h4:0≤b*b/a:=by
    rw [Rat.div_def]
    exact Rat.mul_nonneg (by rcases Rat.le_total (a:=0) (b:=b) with hb | hb;exact Rat.mul_nonneg hb hb;have:=Rat.mul_nonneg (a:=-b) (b:=-b) (by grind) (by grind);grind) (Rat.le_of_lt (Rat.inv_pos.2 h1))
  grind
theorem swp_piv (hs:SymG G) (hp:PosU G n) (h:p+1<n):∀k,k<n→0<gsE (qG (swpI G p)) k k k:=by
  intro k hk
  rw [qG_swp]
  have hq:∀i j,qG G i j=qG G j i:=fun i j=>by unfold qG;rw [hs i j]
  obtain ⟨c1,c2⟩:=swp_c hs hp h
  have a1:=piv_pos hs hp (show p<n by omega)
  have b1:=piv_pos hs hp h
  have cn:gsE (qG G) p (p+1) (p+1)≠0:=fun e=>by rw [e] at c1;exact absurd c1 (by decide)
  rcases Nat.lt_trichotomy k p with h1 | h1 | h1
  · rw [gsE_swp_lo k (by omega),sg_ne (by omega) (by omega)];exact piv_pos hs hp hk
  · rw [h1,gsE_swp_lo p (Nat.le_refl _),sg_p];exact c1
  · by_cases h2:k=p+1
    · rw [h2,gsE_swp_1,sg_q,gsE_sym hq p p (p+1)]
      have e:gsE (qG G) p p p-gsE (qG G) p (p+1) p*gsE (qG G) p (p+1) p/gsE (qG G) p (p+1) (p+1)=gsE (qG G) p p p*gsE (qG G) (p+1) (p+1) (p+1)/gsE (qG G) p (p+1) (p+1):=by
        rw [c2];grind
      rw [e,Rat.div_def]
      exact Rat.mul_pos (Rat.mul_pos a1 b1) (Rat.inv_pos.2 c1)
    · rw [gsE_swp_hi hq (piv_ne hs hp (by omega)) cn (piv_ne hs hp h) k (by omega) k k (Nat.le_refl _) (Nat.le_refl _)]
      exact piv_pos hs hp hk
theorem swpI_pos (hs:SymG G) (hp:PosU G n) (h:p+1<n):PosU (swpI G p) n:=posU_of (swpI_sym hs) n (swp_piv hs hp h)
theorem gsD_swp_lo:∀k,k≤p→gsD (qG (swpI G p)) k=gsD (qG G) k
  | 0,_=>rfl
  | k+1,hk=>by
    show gsD (qG (swpI G p)) k*gsE (qG (swpI G p)) k k k=gsD (qG G) k*gsE (qG G) k k k
    rw [gsD_swp_lo k (by omega),qG_swp,gsE_swp_lo k (by omega),sg_ne (by omega) (by omega)]
theorem gsD_swp_1:gsD (qG (swpI G p)) (p+1)=gsD (qG G) p*gsE (qG G) p (p+1) (p+1):=by
  show gsD (qG (swpI G p)) p*gsE (qG (swpI G p)) p p p=_
  rw [gsD_swp_lo p (Nat.le_refl _),qG_swp,gsE_swp_lo p (Nat.le_refl _),sg_p]
theorem gsD_swp_2 (hs:SymG G) (hp:PosU G n) (h:p+1<n):gsD (qG (swpI G p)) (p+2)=gsD (qG G) (p+2):=by
  have hq:∀i j,qG G i j=qG G j i:=fun i j=>by unfold qG;rw [hs i j]
  obtain ⟨c1,c2⟩:=swp_c hs hp h
  have cn:gsE (qG G) p (p+1) (p+1)≠0:=fun e=>by rw [e] at c1;exact absurd c1 (by decide)
  show gsD (qG (swpI G p)) (p+1)*gsE (qG (swpI G p)) (p+1) (p+1) (p+1)=gsD (qG G) p*gsE (qG G) p p p*gsE (qG G) (p+1) (p+1) (p+1)
  rw [gsD_swp_1,qG_swp,gsE_swp_1,sg_q,gsE_sym hq p p (p+1)]
  have e:gsE (qG G) p (p+1) (p+1)*(gsE (qG G) p p p-gsE (qG G) p (p+1) p*gsE (qG G) p (p+1) p/gsE (qG G) p (p+1) (p+1))=gsE (qG G) p p p*gsE (qG G) (p+1) (p+1) (p+1):=by
    rw [c2];grind
  rw [Rat.mul_assoc,e,Rat.mul_assoc]
theorem gsD_swp_hi (hs:SymG G) (hp:PosU G n) (h:p+1<n):∀k,p+2≤k→k≤n→gsD (qG (swpI G p)) k=gsD (qG G) k
  | 0,hk,_=>absurd hk (by omega)
  | k+1,hk,hkn=>by
    by_cases e:k=p+1
    · subst e;exact gsD_swp_2 hs hp h
    · have hq:∀i j,qG G i j=qG G j i:=fun i j=>by unfold qG;rw [hs i j]
      obtain ⟨c1,c2⟩:=swp_c hs hp h
      have cn:gsE (qG G) p (p+1) (p+1)≠0:=fun e=>by rw [e] at c1;exact absurd c1 (by decide)
      show gsD (qG (swpI G p)) k*gsE (qG (swpI G p)) k k k=gsD (qG G) k*gsE (qG G) k k k
      rw [gsD_swp_hi hs hp h k (by omega) (by omega),qG_swp,gsE_swp_hi hq (piv_ne hs hp (by omega)) cn (piv_ne hs hp h) k (by omega) k k (Nat.le_refl _) (Nat.le_refl _)]
theorem swpI_uD (hs:SymG G) (hp:PosU G n) (h:p+1<n) {k:Nat} (hk:k≤n) (hne:k≠p+1):uD (swpI G p) k=uD G k:=by
  have h1:=uD_q (swpI_sym (p:=p) hs) ((swpI_pos hs hp h).le hk)
  have e:gsD (qG (swpI G p)) k=gsD (qG G) k:=by
    by_cases h2:k≤p
    · exact gsD_swp_lo k h2
    · exact gsD_swp_hi hs hp h k (by omega) hk
  rw [e,←uD_q hs (hp.le hk)] at h1
  exact_mod_cast h1
theorem swpI_D (hs:SymG G) (hp:PosU G n) (h:p+1<n):uD (swpI G p) (p+1)*uD G (p+1)=uD G p*uD G (p+2)+uE G p (p+1) p*uE G p (p+1) p:=by
  have h1:=uD_q (swpI_sym (p:=p) hs) ((swpI_pos hs hp h).le (show p+1≤n by omega))
  rw [gsD_swp_1] at h1
  obtain ⟨c1,c2⟩:=swp_c hs hp h
  have d0:=uD_q hs (hp.le (show p≤n by omega))
  have d1:=uD_q hs (hp.le (show p+1≤n by omega))
  have d2:=uD_q hs (hp.le (show p+2≤n by omega))
  have l0:=uE_q hs (hp.le (show p≤n by omega)) (show p≤p+1 by omega) (Nat.le_refl p)
  have g1:gsD (qG G) (p+1)=gsD (qG G) p*gsE (qG G) p p p:=rfl
  have g2:gsD (qG G) (p+2)=gsD (qG G) p*gsE (qG G) p p p*gsE (qG G) (p+1) (p+1) (p+1):=rfl
  have h4:((uD (swpI G p) (p+1)*uD G (p+1):Int):Rat)=((uD G p*uD G (p+2)+uE G p (p+1) p*uE G p (p+1) p:Int):Rat):=by
    rw [Rat.intCast_add,Rat.intCast_mul,Rat.intCast_mul,Rat.intCast_mul,h1,d0,d1,d2,l0,g1,g2]
    grind
  exact_mod_cast h4
theorem swpI_lo (hs:SymG G) (hp:PosU G n) (h:p+1<n) {k x:Nat} (hk:k<p) (hkx:k≤x):uE (swpI G p) k x k=uE G k (sg p x) k:=by
  have h1:=uE_q (swpI_sym (p:=p) hs) ((swpI_pos hs hp h).le (show k≤n by omega)) hkx (Nat.le_refl k)
  have hsg:k≤sg p x:=by unfold sg;split;omega;split <;> omega
  rw [gsD_swp_lo k (by omega),qG_swp,gsE_swp_lo k (by omega),sg_ne (show k≠p by omega) (by omega),←uE_q hs (hp.le (show k≤n by omega)) hsg (Nat.le_refl k)] at h1
  exact_mod_cast h1
theorem swpI_mid (hs:SymG G) (hp:PosU G n) (h:p+1<n):uE (swpI G p) p (p+1) p=uE G p (p+1) p:=by
  have hq:∀i j,qG G i j=qG G j i:=fun i j=>by unfold qG;rw [hs i j]
  have h1:=uE_q (swpI_sym (p:=p) hs) ((swpI_pos hs hp h).le (show p≤n by omega)) (show p≤p+1 by omega) (Nat.le_refl p)
  rw [gsD_swp_lo p (Nat.le_refl _),qG_swp,gsE_swp_lo p (Nat.le_refl _),sg_q,sg_p,gsE_sym hq p p (p+1),←uE_q hs (hp.le (show p≤n by omega)) (show p≤p+1 by omega) (Nat.le_refl p)] at h1
  exact_mod_cast h1
theorem swpI_1 (hs:SymG G) (hp:PosU G n) (h:p+1<n) {x:Nat} (hx:p+1<x):uE (swpI G p) p x p*uD G (p+1)=uD G p*uE G (p+1) x (p+1)+uE G p (p+1) p*uE G p x p:=by
  have hq:∀i j,qG G i j=qG G j i:=fun i j=>by unfold qG;rw [hs i j]
  have h1:=uE_q (swpI_sym (p:=p) hs) ((swpI_pos hs hp h).le (show p≤n by omega)) (show p≤x by omega) (Nat.le_refl p)
  rw [gsD_swp_lo p (Nat.le_refl _),qG_swp,gsE_swp_lo p (Nat.le_refl _),sg_p,sg_ne (show x≠p by omega) (by omega)] at h1
  have an:=piv_ne hs hp (show p<n by omega)
  have d0:=uD_q hs (hp.le (show p≤n by omega))
  have d1:=uD_q hs (hp.le (show p+1≤n by omega))
  have l0:=uE_q hs (hp.le (show p≤n by omega)) (show p≤p+1 by omega) (Nat.le_refl p)
  have l1:=uE_q hs (hp.le (show p≤n by omega)) (show p≤x by omega) (Nat.le_refl p)
  have l2:=uE_q hs (hp.le (show p+1≤n by omega)) (show p+1≤x by omega) (Nat.le_refl (p+1))
  have g1:gsD (qG G) (p+1)=gsD (qG G) p*gsE (qG G) p p p:=rfl
  rw [gsE_succ,gsE_sym hq p p (p+1)] at l2
  have h4:((uE (swpI G p) p x p*uD G (p+1):Int):Rat)=((uD G p*uE G (p+1) x (p+1)+uE G p (p+1) p*uE G p x p:Int):Rat):=by
    rw [Rat.intCast_add,Rat.intCast_mul,Rat.intCast_mul,Rat.intCast_mul,h1,d0,d1,l0,l1,l2,g1]
    grind
  exact_mod_cast h4
theorem swpI_2 (hs:SymG G) (hp:PosU G n) (h:p+1<n) {x:Nat} (hx:p+1<x):uE (swpI G p) (p+1) x (p+1)*uD G (p+1)=uD G (p+2)*uE G p x p-uE G p (p+1) p*uE G (p+1) x (p+1):=by
  have hq:∀i j,qG G i j=qG G j i:=fun i j=>by unfold qG;rw [hs i j]
  have h1:=uE_q (swpI_sym (p:=p) hs) ((swpI_pos hs hp h).le (show p+1≤n by omega)) (show p+1≤x by omega) (Nat.le_refl (p+1))
  rw [gsD_swp_1,qG_swp,gsE_swp_1,sg_q,sg_ne (show x≠p by omega) (by omega)] at h1
  obtain ⟨c1,c2⟩:=swp_c hs hp h
  have cn:gsE (qG G) p (p+1) (p+1)≠0:=fun e=>by rw [e] at c1;exact absurd c1 (by decide)
  have an:=piv_ne hs hp (show p<n by omega)
  have d0:=uD_q hs (hp.le (show p≤n by omega))
  have d1:=uD_q hs (hp.le (show p+1≤n by omega))
  have d2:=uD_q hs (hp.le (show p+2≤n by omega))
  have l0:=uE_q hs (hp.le (show p≤n by omega)) (show p≤p+1 by omega) (Nat.le_refl p)
  have l1:=uE_q hs (hp.le (show p≤n by omega)) (show p≤x by omega) (Nat.le_refl p)
  have l2:=uE_q hs (hp.le (show p+1≤n by omega)) (show p+1≤x by omega) (Nat.le_refl (p+1))
  have g1:gsD (qG G) (p+1)=gsD (qG G) p*gsE (qG G) p p p:=rfl
  have g2:gsD (qG G) (p+2)=gsD (qG G) p*gsE (qG G) p p p*gsE (qG G) (p+1) (p+1) (p+1):=rfl
  rw [gsE_succ,gsE_sym hq p p (p+1)] at l2
  have h4:((uE (swpI G p) (p+1) x (p+1)*uD G (p+1):Int):Rat)=((uD G (p+2)*uE G p x p-uE G p (p+1) p*uE G (p+1) x (p+1):Int):Rat):=by
    rw [Rat.intCast_sub,Rat.intCast_mul,Rat.intCast_mul,Rat.intCast_mul,h1,d1,d2,l0,l1,l2,g1,g2]
    grind
  exact_mod_cast h4
theorem swpI_hi (hs:SymG G) (hp:PosU G n) (h:p+1<n) {k x:Nat} (hk:p+2≤k) (hkx:k≤x) (hx:x<n):uE (swpI G p) k x k=uE G k x k:=by
  have hq:∀i j,qG G i j=qG G j i:=fun i j=>by unfold qG;rw [hs i j]
  obtain ⟨c1,c2⟩:=swp_c hs hp h
  have cn:gsE (qG G) p (p+1) (p+1)≠0:=fun e=>by rw [e] at c1;exact absurd c1 (by decide)
  have h1:=uE_q (swpI_sym (p:=p) hs) ((swpI_pos hs hp h).le (show k≤n by omega)) hkx (Nat.le_refl k)
  rw [gsD_swp_hi hs hp h k hk (by omega),qG_swp,gsE_swp_hi hq (piv_ne hs hp (by omega)) cn (piv_ne hs hp h) k hk x k hkx (Nat.le_refl _),←uE_q hs (hp.le (show k≤n by omega)) hkx (Nat.le_refl k)] at h1
  exact_mod_cast h1
theorem swpI_low (hs:SymG G) (hp:PosU G n) (h:p+1<n) {k x:Nat} (hkx:k≤x) (hx:x<p):uE (swpI G p) k x k=uE G k x k:=by
  rw [swpI_lo hs hp h (by omega) hkx,sg_ne (by omega) (by omega)]
end
abbrev Fq:=Nat→Nat→Rat
def tabR (r n:Nat) (f:Fq):List (List (Int×Int)):=(List.range r).map (fun i=>(List.range n).map (fun k=>rq (f i k)))
theorem tabR_len (r n f):(tabR r n f).length=r:=by simp [tabR]
theorem tabR_row {r n f i} (h:i<r):(tabR r n f).getD i []=(List.range n).map (fun k=>rq (f i k)):=by
  rw [gde _ [] (by rw [tabR_len];exact h)];simp [tabR]
theorem tabR_rlen {r n f i} (h:i<r):((tabR r n f).getD i []).length=n:=by rw [tabR_row h];simp
theorem tabR_at {r n f i k} (h:i<r) (hk:k<n):((tabR r n f).getD i [])[k]?=some (rq (f i k)):=by rw [tabR_row h];simp [hk]
theorem tabR_at2 {r n f i k} (q:Rat) (h:i<r) (hk:k<n) (e:f i k=q):((tabR r n f).getD i [])[k]?=some (rq q):=by rw [←e];exact tabR_at h hk
abbrev gg:=@tabR_at2
theorem tabR_congr {r n} {f g:Fq} (h:∀i k,i<r→k<n→f i k=g i k):tabR r n f=tabR r n g:=
  List.map_congr_left fun i hi=>List.map_congr_left fun k hk=>by rw [h i k (List.mem_range.1 hi) (List.mem_range.1 hk)]
def updF (f:Fq) (i k:Nat) (q:Rat):Fq:=fun a b=>if a=i∧b=k then q else f a b
theorem tabR_set {r n f i k} (q:Rat) (h:i<r) (hk:k<n):(tabR r n f).set i (((tabR r n f).getD i []).set k (rq q))=tabR r n (updF f i k q):=by
  apply List.ext_getElem
  · simp [tabR]
  · intro a h1 h2
    rw [List.getElem_set]
    split
    · rename_i e
      subst e
      rw [tabR_row h]
      apply List.ext_getElem
      · simp [tabR]
      · intro b h3 h4
        simp only [tabR,List.getElem_map,List.getElem_range,List.getElem_set,updF]
        by_cases e:k=b
        · subst e;rw [if_pos rfl,if_pos ⟨trivial,rfl⟩]
        · rw [if_neg e,if_neg (fun x=>e x.2.symm)]
    · rename_i e
      simp only [tabR,List.getElem_map,List.getElem_range,updF]
      apply List.map_congr_left
      intro b hb
      rw [if_neg (fun x=>e x.1.symm)]
def swapF (f:Fq) (p q:Nat):Fq:=fun a b=>if a=p then f q b else if a=q then f p b else f a b
theorem swapF_self (f:Fq) (p:Nat):swapF f p p=f:=by
  funext a b;unfold swapF;by_cases e:a=p
  · subst e;simp
  · simp [e]
def divF (f:Fq) (top:Nat) (h:Rat) (c0:Nat):Fq:=fun a b=>if a=top∧b<c0 then f a b/h else f a b
theorem divF_0 (f top h):divF f top h 0=f:=by funext a b;simp [divF]
theorem divF_at {f top h c0}:divF f top h c0 top c0=f top c0:=by simp [divF]
theorem divF_upd (f:Fq) (top:Nat) (h:Rat) (c0:Nat):updF (divF f top h c0) top c0 (f top c0/h)=divF f top h (c0+1):=by
  funext a b
  unfold updF divF
  by_cases e:a=top
  · subst e
    by_cases e2:b=c0
    · subst e2;simp
    · simp only [e2,and_false,if_false,true_and]
      by_cases e3:b<c0
      · rw [if_pos e3,if_pos (by omega)]
      · rw [if_neg e3,if_neg (by omega)]
  · simp [e]
def divA (f:Fq) (top:Nat) (h:Rat):Fq:=fun a b=>if a=top then f a b/h else f a b
theorem tabR_div {r n f top h}:tabR r n (divF f top h n)=tabR r n (divA f top h):=tabR_congr fun i k hi hk=>by
  unfold divF divA
  by_cases e:i=top
  · rw [if_pos ⟨e,hk⟩,if_pos e]
  · rw [if_neg (fun x=>e x.1),if_neg e]
def loseF (f:Fq) (i k:Nat) (q:Rat) (c0:Nat):Fq:=fun a b=>if a=i∧b<c0 then f a b-q*f k b else f a b
theorem loseF_0 (f i k q):loseF f i k q 0=f:=by funext a b;simp [loseF]
theorem loseF_at {f i k q c0}:loseF f i k q c0 i c0=f i c0:=by simp [loseF]
theorem loseF_k {f i k q c0 b} (h:i≠k):loseF f i k q c0 k b=f k b:=by unfold loseF;rw [if_neg (fun x=>h x.1.symm)]
theorem loseF_upd (f:Fq) (i k:Nat) (q:Rat) (c0:Nat):updF (loseF f i k q c0) i c0 (f i c0-q*f k c0)=loseF f i k q (c0+1):=by
  funext a b
  unfold updF loseF
  by_cases e:a=i
  · subst e
    by_cases e2:b=c0
    · subst e2;simp
    · simp only [e2,and_false,if_false,true_and]
      by_cases e3:b<c0
      · rw [if_pos e3,if_pos (by omega)]
      · rw [if_neg e3,if_neg (by omega)]
  · simp [e]
def elimF (f:Fq) (top c i0:Nat):Fq:=fun a b=>if a<i0∧a≠top then f a b-f a c*f top b else f a b
theorem elimF_0 (f top c):elimF f top c 0=f:=by funext a b;simp [elimF]
theorem elimF_i {f:Fq} {top c i0 b}:elimF f top c i0 i0 b=f i0 b:=by simp [elimF]
theorem elimF_top {f:Fq} {top c i0 b}:elimF f top c i0 top b=f top b:=by simp [elimF]
theorem elimF_skip {f:Fq} {top c i0} (h:i0=top∨f i0 c=0):elimF f top c i0=elimF f top c (i0+1):=by
  funext a b
  unfold elimF
  by_cases e:a=i0
  · subst e
    rw [if_neg (fun x=>absurd x.1 (Nat.lt_irrefl _))]
    by_cases e2:a=top
    · rw [if_neg (fun x=>x.2 e2)]
    · rw [if_pos ⟨by omega,e2⟩]
      rcases h with h | h
      · exact absurd h e2
      · rw [h];grind
  · by_cases e3:a<i0∧a≠top
    · rw [if_pos e3,if_pos ⟨by omega,e3.2⟩]
    · rw [if_neg e3,if_neg (fun x=>e3 ⟨by omega,x.2⟩)]
theorem elimF_lose {r n:Nat} {f:Fq} {top c i0} (h:i0≠top):tabR r n (loseF (elimF f top c i0) i0 top (elimF f top c i0 i0 c) n)=tabR r n (elimF f top c (i0+1)):=tabR_congr fun a b ha hb=>by
  unfold loseF
  rw [elimF_i,elimF_top]
  by_cases e:a=i0
  · subst e
    rw [if_pos ⟨rfl,hb⟩,elimF_i]
    unfold elimF
    rw [if_pos ⟨by omega,h⟩]
  · rw [if_neg (fun x=>e x.1)]
    unfold elimF
    by_cases e3:a<i0∧a≠top
    · rw [if_pos e3,if_pos ⟨by omega,e3.2⟩]
    · rw [if_neg e3,if_neg (fun x=>e3 ⟨by omega,x.2⟩)]
theorem elimF_lose2 {r n:Nat} {f:Fq} {top c i0} (h:i0≠top):tabR r n (loseF (elimF f top c i0) i0 top (f i0 c) n)=tabR r n (elimF f top c (i0+1)):=by
  rw [←elimF_lose h,elimF_i]
def dvF (f:Fq) (p top c:Nat):Fq:=divA (swapF f p top) top (f p c)
def rdcF (f:Fq) (p top c n:Nat):Fq:=elimF (divA (swapF f p top) top (f p c)) top c n
theorem RZ.add {n p q} (h:RZ n p) (k:RZ n q):RZ (n+n+1) (p+q):=
  RZ.of (Int.mul_ne_zero (rq_den_ne p) (rq_den_ne q)) (rq_add p q) (Sz.add1 (h.a.mul k.b) (k.a.mul h.b)) ((h.b.mul k.b).up (by omega))
theorem RZ.sub2 {n m p q} (h:RZ n p) (k:RZ m q):RZ (n+m+1) (p-q):=by
  rw [Rat.sub_eq_add_neg]
  refine RZ.of (Int.mul_ne_zero (rq_den_ne p) (rq_den_ne (-q))) (rq_add p (-q)) (Sz.add1 (h.a.mul k.neg.b) ?_) ((h.b.mul k.neg.b).up (by omega))
  have:=k.neg.a.mul h.b
  exact this.up (by omega)
theorem RZ.div {n m p q} (h:RZ n p) (k:RZ m q) (h0:q≠0):RZ (n+m) (p/q):=
  RZ.of (Int.mul_ne_zero (rq_den_ne p) (rq_num_ne h0)) (rq_div p h0) (h.a.mul k.b) (h.b.mul k.a)
theorem swapF_RZ {s:Nat} {f:Fq} (h:∀i k,RZ s (f i k)) (p q i k):RZ s (swapF f p q i k):=by
  unfold swapF;split
  · exact h _ _
  · split <;> exact h _ _
theorem dvF_RZ {s:Nat} {f:Fq} (h:∀i k,RZ s (f i k)) {p top c:Nat} (h0:f p c≠0) (i k):RZ (s+s) (dvF f p top c i k):=by
  unfold dvF divA;split
  · exact (swapF_RZ h p top i k).div (h p c) h0
  · exact (swapF_RZ h p top i k).up (by omega)
theorem dvF_RZ1 {s:Nat} {f:Fq} (h:∀i k,RZ s (f i k)) {p top c i:Nat} (hi:i≠top) (k):RZ s (dvF f p top c i k):=by
  unfold dvF divA;rw [if_neg hi];exact swapF_RZ h p top i k
def szE (s:Nat):Nat→Nat
  | 0=>s
  | c+1=>4*szE s c+1
theorem szE_eq (s):∀c,3*szE s c+1=4^c*(3*s+1)
  | 0=>by simp [szE]
  | c+1=>by rw [szE,Nat.pow_succ,Nat.mul_comm (4^c) 4,Nat.mul_assoc,←szE_eq s c];omega
theorem rq_zero {q:Rat}:(rq q).1.sign=0↔q=0:=by
  rw [Int.sign_eq_zero_iff_zero]
  constructor
  · intro h;exact Classical.byContradiction fun e=>rq_num_ne e h
  · intro h;subst h;rfl
def nearI (a b:Int):Int:=(a+a+b).fdiv (b+b)
def nearQ (q:Rat):Int:=nearI (rq q).1 (rq q).2
theorem nearI_Sz {n:Nat} {a b:Int} (ha:Sz n a) (hb:Sz n b) (h0:0<b):Sz (n+3) (nearI a b):=by
  have h1:Sz (n+2) (a+a+b):=Sz.add1 (Sz.add1 ha ha) (hb.up (by omega))
  have h2:(nearI a b).natAbs≤(a+a+b).natAbs+1:=by
    unfold nearI
    have h3:1≤(b+b).natAbs:=by omega
    have hdef:=Int.fmod_def (a+a+b) (b+b)
    have f1:=Int.fmod_nonneg_of_pos (a+a+b) (show 0<b+b by omega)
    have f2:=Int.fmod_lt_of_pos (a+a+b) (show 0<b+b by omega)
    generalize (a+a+b).fdiv (b+b)=z at *
    generalize hx:a+a+b=x at *
    generalize hy:b+b=y at *
    have hyz:(y*z).natAbs=y.natAbs*z.natAbs:=Int.natAbs_mul y z
    have h4:y.natAbs*z.natAbs≤x.natAbs+y.natAbs:=by omega
    by_cases hz:z.natAbs≤x.natAbs+1
    · exact hz
    · exfalso
      have h5:y.natAbs*(x.natAbs+2)≤y.natAbs*z.natAbs:=Nat.mul_le_mul_left _ (by omega)
      rw [Nat.mul_add] at h5
      have h6:1*x.natAbs≤y.natAbs*x.natAbs:=Nat.mul_le_mul_right _ h3
      omega
  unfold Sz at *
  rw [show n+3=(n+2)+1 by omega,Nat.pow_succ]
  omega
theorem rq_cmp (p q:Rat):((rq p).1*(rq q).2-(rq q).1*(rq p).2).sign≤0↔p≤q:=by
  have hp:(0:Rat)<((rq p).2:Rat):=by exact_mod_cast rq_den_pos p
  have hq:(0:Rat)<((rq q).2:Rat):=by exact_mod_cast rq_den_pos q
  have ep:=rq_val p
  have eq_:=rq_val q
  have np:((rq p).2:Rat)≠0:=fun e=>by rw [e] at hp;exact absurd hp (by decide)
  have nq:((rq q).2:Rat)≠0:=fun e=>by rw [e] at hq;exact absurd hq (by decide)
  have e1:(((rq p).1*(rq q).2-(rq q).1*(rq p).2:Int):Rat)=(p-q)*(((rq p).2:Rat)*((rq q).2:Rat)):=by
    rw [Rat.intCast_sub,Rat.intCast_mul,Rat.intCast_mul]
    have a1:((rq p).1:Rat)=p*((rq p).2:Rat):=by rw [←ep];grind
    have a2:((rq q).1:Rat)=q*((rq q).2:Rat):=by rw [←eq_];grind
    rw [a1,a2];grind
  have hd:=Rat.mul_pos hp hq
  have key:((rq p).1*(rq q).2-(rq q).1*(rq p).2)≤0↔p≤q:=by
    constructor
    · intro h
      have h2:(((rq p).1*(rq q).2-(rq q).1*(rq p).2:Int):Rat)≤0:=by exact_mod_cast h
      rw [e1] at h2
      rcases Rat.le_total (a:=p) (b:=q) with h3 | h3
      · exact h3
      · by_cases e:p=q
        · rw [e];exact Rat.le_refl
        · have h4:0<p-q:=by grind
          have:=Rat.mul_pos h4 hd
          grind
    · intro h
      have h2:(((rq p).1*(rq q).2-(rq q).1*(rq p).2:Int):Rat)≤0:=by
        rw [e1]
        have h3:0≤q-p:=by grind
        have:=Rat.mul_nonneg h3 (Rat.le_of_lt hd)
        grind
      exact_mod_cast h2
  rw [←key]
  generalize (rq p).1*(rq q).2-(rq q).1*(rq p).2=z
  rcases Int.lt_trichotomy z 0 with h | h | h
  · rw [Int.sign_eq_neg_one_of_neg h];omega
  · subst h;simp
  · rw [Int.sign_eq_one_of_pos h];omega
end Fw
namespace Fw
open Go Go.Proofs
theorem c_zint_Near (n:Nat) (a b:Int) (ha:Sz n a) (hb:Sz n b) (h0:0<b) (hn:n≤274877906944):Fn Tryz.prog 215 [kZ.is a,kZ.is b] (VP.tup [kC.is (nearI a b),kN6.is 0]):=by
 refine aN Tryz.func215 Z Z fun m w=>Cr<|aZ .n Z fun b1=>aZ .n Z fun b2=>aW .n bd fun b3=>Wa Z<|Wn<|ab ?_
 refine a5 (Γ:=[.fr (kZ.is a),.fr (kZ.is a),.fr (kC.is (a+a)),.fr (kZ.is b),.fr (kC.is ((a+a)+b)),.fr (kZ.is b),.fr (kZ.is b),.fr (kC.is (b+b)),.fr (VP.tup [kC.is (((a+a)+b).fdiv (b+b)),kC.is (if (b+b)=0 then 0 else ((a+a)+b).fmod (b+b)),kN6.is (if (b+b)=0 then 11 else 0)]),.fr (VP.tup [kC.is (((a+a)+b).fdiv (b+b)),kC.is (if (b+b)=0 then 0 else ((a+a)+b).fmod (b+b)),kN6.is (if (b+b)=0 then 11 else 0)]),.fr (kC.is (((a+a)+b).fdiv (b+b))),.lt (kC.is (if (b+b)=0 then 0 else ((a+a)+b).fmod (b+b))),.lt (kN6.is (if (b+b)=0 then 11 else 0)),.al (fun b=>OB.box b 29 kC 0),.al (fun b=>OB.box b 29 kC 0)]) (aa Z (fun N=>ae Z (mN N 2 Z) Li af Z) (aa Z (fun N=>ae Z (mN N 2 Z) Li af Z) (aa Z (fun N=>f2 el Z Z (ed a a)) (aa Z (fun N=>ae Z (mN N 1 Z) Li af Z) (aa Z (fun N=>aB el (aj Z (aL ((fz ha ha).sm (by omega))) (aS Z ar)) (ed (a+a) b)) (aa Z (fun N=>ae Z (mN N 1 Z) Li af Z) (aa Z (fun N=>ae Z (mN N 1 Z) Li af Z) (aa Z (fun N=>f2 el Z Z (ed b b)) (aa Z (fun N=>aB fn214 (aj Z (aL ((fz (fz ha ha) (hb.up (by omega))).sm (by omega))) (aj Z (aL ((fz hb hb).sm (by omega))) ar)) (fW ((a+a)+b) (b+b))) (om Z Z (aa Z (fun N=>aP Z Z) (oc (dc Z .n (dw Z Z)) (oc (dc Z .n (dw Z Z)) (oc (cR Z bd) (oc (cR Z bd) oz)))))))))))))))<|fun σ1=>?_
 refine aE .n (aC (l:=kC) (u:=((a+a)+b).fdiv (b+b)) 0 Z Z Z af Z Lr)<|aE .n (aC (l:=kC) (u:=if (b+b)=0 then 0 else ((a+a)+b).fmod (b+b)) 1 Z Z Z af Z Lr)<|Wa Z<|Wr<|Ws (ae Z (ag 0 Z) Li af Z)<|Wm Z<|aE .n (aC (l:=kC) (u:=((a+a)+b).fdiv (b+b)) 2 Z Z Z af Z Lr)<|Wa Z<|Wn<|aA<|tb 2 Z (y:=(nearI a b)) Z ?_
 exact Qd Z (aY Z (ag 2 Z) af (du Z (ah (y:=0) (by omega)) ay)) ⟨Z,Z⟩
theorem c_rat_valid (l:List (Int×Int)) (hv:∀x,x∈l→0<x.2∧Sm x.2):Fn Tryz.prog 121 [(kSl kRC).is l] (kN6.is 0):=by
 refine aN Tryz.func121 Z Z fun m w=>a8 (i:=0) Z bF fun hB=>Cr<|Wa Z<|Wn<|ab<|Cr<|Wm Z<|Ws (aJ Z U26)<|Wm Z<|Wn<|aF<|bJ (fun (i:Nat)=>i≤l.length) (fun (i:Nat)=>[(0,(kSl kRC).is l),(5,(kSl kRC).is l),(6,kN6.is (l.length:Int)),(7,kN6.is (i:Int))]) (fun (i:Nat)=>[]) (fun (i:Nat)=>l.length-i) 0 (by omega) (ac Z (ac Z (ac Z (az Z (ah (y:=(0:Int)) (by rfl)) aq)))) (aG _) ?_
 intro i hi
 refine Cr<|Ws (aX Z Z)<|Wn<|ab ?_
 refine aM Z (fun h_t8=>?_)<|fun h_t8=>?_
 ·
  refine Ck<|ab<|aF<|Cr<|Ws (aU i Z Z U26 ai Z (v:=(l.getD i (0,0))) (gd (0,0) (by omega)))<|Ws (aO Z ai)<|Ax (l:=kRC) (u:=(l.getD i (0,0))) ba Z ai (fun _=>Z) Lr fun b1=>Wr<|Ws (aw Z bW Z)<|Ws (ae Z (ag 0 Z) (am Li) af Z)<|Ws (aB db (aj Z (aL (by exact (hv _ (getD_mem (0,0) (by omega))).2)) ar) (c9 ((l.getD i (0,0)).2)))<|Ws (dL Z Z)<|Wn ?_
  refine CN Z (by have h1:=(hv _ (getD_mem (0,0) (show i<l.length by omega))).1;have:=Int.sign_eq_one_of_pos h1;omega) fun h_t14=>?_
  refine cx<|Qb<|ak<|Ws (aR Z Z (c:=((i:Int)+1)) (aH (by omega)))<|Wm Z<|au ?_
  exact bE (i+1) (by omega) (by omega) (ac Z (ac Z (ac Z (az Z (ah (y:=(((i+1):Nat):Int)) (by rfl)) aq))))<|fL<|List.nil_sublist _
 ·
  refine Ex<|Cr<|Wa Z<|Wn<|aA ?_
  exact Qd Z (aI Z ay) ⟨Z,Z⟩
theorem c_rat_two (n:Nat) (p q r:Rat) (fid:FuncId) (caps:List VP) (hok:FnOk Tryz.prog fid) (hF:Fn Tryz.prog fid caps (kRC.is (rq r))) (hp:RZ n p) (hq:RZ n q) (hn:n≤68719476736):Fn Tryz.prog 205 [kRC.is (rq p),kRC.is (rq q),VP.clo fid caps] (VP.tup [kRC.is (rq r),kN6.is 0]):=by
 refine aN Tryz.func205 Z Z fun m w=>?_
 have hv2:∀x,x∈[rq p,rq q]→0<x.2∧Sm x.2:=by intro x hx;rcases List.mem_cons.1 hx with rfl | hx;exact ⟨rq_den_pos p,hp.b.sm (by omega)⟩;rcases List.mem_cons.1 hx with rfl | hx;exact ⟨rq_den_pos q,hq.b.sm (by omega)⟩;cases hx
 refine Cr<|aZ .n Z fun b1=>aZ .n Z fun b2=>aW .n ba fun b3=>Wa Z<|Wn<|ab<|Cr<|Ws (ae Z (ag 2 Z) Li ai Z)<|Ws (ae Z (ag 1 Z) Li ai Z)<|Ws (bB U26 dn (bV Z (bV Z bA)) Z (by decide))<|Ws (f1 fn121 Z (c_rat_valid [rq p,rq q] hv2))<|Wa Z<|Wr<|Wm Z<|Ws (bG Z Z)<|Wn ?_
 refine CN Z (fun h=>h Z) fun h_t14=>?_
 refine Ck<|Cr<|Wm Z<|Ws (eQ Z hok ar hF)<|aE .n (aC (l:=kRC) (u:=rq r) 0 Z Z Z ai Z Lr)<|Wa Z<|Wn<|aA ?_
 exact Qd Z (aY Z (ag 0 Z) ai (aI Z ay)) ⟨Z,Z⟩
theorem c_rat_Mul1 (n:Nat) (p q:Rat) (hp:RZ n p) (hq:RZ n q) (hn:n≤68719476736):Fn Tryz.prog 258 [VP.pim kRC (rq p),VP.pim kRC (rq q)] (kRC.is (rq (p*q))):=by
 refine aN Tryz.func258 Z Z fun m w=>Cr<|aW .n ba fun b1=>Wn<|ab ?_
 refine a5 (Γ:=[.fr (VP.pim kC ((rq p).1)),.fr (kC.is ((rq p).1)),.fr (VP.pim kC ((rq q).1)),.fr (kC.is ((rq q).1)),.fr (kC.is (((rq p).1)*((rq q).1))),.fr (VP.pim kC ((rq p).2)),.fr (kC.is ((rq p).2)),.fr (VP.pim kC ((rq q).2)),.fr (kC.is ((rq q).2)),.fr (kC.is (((rq p).2)*((rq q).2))),.fr (kRC.is (rmk (((rq p).1)*((rq q).1)) (((rq p).2)*((rq q).2))))]) (aa Z (fun N=>cQ Z cB (aD Li) Z) (aa Z (fun N=>aO Z af) (aa Z (fun N=>cQ Z cB (aD Li) Z) (aa Z (fun N=>aO Z af) (aa Z (fun N=>aB cY (aj Z (aL (hp.a.sm (by omega))) (aj Z (aL (hq.a.sm (by omega))) ar)) (cW ((rq p).1) ((rq q).1))) (aa Z (fun N=>cQ Z bW (am Li) Z) (aa Z (fun N=>aO Z af) (aa Z (fun N=>cQ Z bW (am Li) Z) (aa Z (fun N=>aO Z af) (aa Z (fun N=>aB cY (aj Z (aL (hp.b.sm (by omega))) (aj Z (aL (hq.b.sm (by omega))) ar)) (cW ((rq p).2) ((rq q).2))) (aa Z (fun N=>aB fn136 (aj Z (aL ((hp.a.mul hq.a).sm (by omega))) (aj Z (aL ((hp.b.mul hq.b).sm (by omega))) ar)) (fD (((rq p).1)*((rq q).1)) (((rq p).2)*((rq q).2)) (by exact Int.mul_ne_zero (rq_den_ne p) (rq_den_ne q)))) oz)))))))))))<|fun σ1=>?_
 refine aE .n (aC (l:=kRC) (u:=rmk (((rq p).1)*((rq q).1)) (((rq p).2)*((rq q).2))) 0 Z Z Z ai Z Lr)<|Wn<|aA<|tb 0 Z (y:=(rq (p*q))) (rq_mul p q) ?_
 exact Qd Z (aY Z (ag 0 Z) ai ay) ⟨Z,Z⟩
theorem c_rat_Mul (n:Nat) (p q:Rat) (hp:RZ n p) (hq:RZ n q) (hn:n≤68719476736):Fn Tryz.prog 221 [kRC.is (rq p),kRC.is (rq q)] (VP.tup [kRC.is (rq (p*q)),kN6.is 0]):=by
 refine aN Tryz.func221 Z Z fun m w=>Cr<|aZ .n Z fun b1=>aZ .n Z fun b2=>aW .n ba fun b3=>Wa Z<|Wr<|Ws (ae Z (ag 2 Z) Li ai Z)<|Ws (ae Z (ag 1 Z) Li ai Z)<|ee 2 Z (kp 0 Z (kp 1 Z (.hit (i:=2) Z (kp 3 Z (kp 4 Z (kp 5 Z (kp 6 Z (kp 7 Z .nil))))))))<|ee 1 Z (kp 0 Z (kp 1 Z (kp 2 Z (.hit (i:=3) Z (kp 4 Z (kp 5 Z (kp 6 Z (kp 7 Z .nil))))))))<|Ws (O.mkf (aS Z (aS Z ar)))<|Ws (aB fn205 (aS Z (aS Z (aS Z ar))) (c_rat_two n p q (p*q) 258 [VP.pim kRC (rq p),VP.pim kRC (rq q)] fn258 (c_rat_Mul1 n p q hp hq hn) hp hq hn))<|Ws (aP Z Z)<|Ws (aP Z Z)<|aE .n (aC (l:=kRC) (u:=rq (p*q)) 0 Z Z Z ai Z Lr)<|Wa Z<|Wn<|aA ?_
 exact Qd Z (aY Z (ag 0 Z) ai (aI Z ay)) ⟨Z,Z⟩
abbrev gb:=@c_rat_Mul
theorem c_rat_Add1 (n:Nat) (p q:Rat) (hp:RZ n p) (hq:RZ n q) (hn:n≤68719476736):Fn Tryz.prog 206 [VP.pim kRC (rq p),VP.pim kRC (rq q)] (kRC.is (rq (p+q))):=by
 refine aN Tryz.func206 Z Z fun m w=>Cr<|aW .n ba fun b1=>Wn<|ab ?_
 refine a5 (Γ:=[.fr (VP.pim kC ((rq p).1)),.fr (kC.is ((rq p).1)),.fr (VP.pim kC ((rq q).2)),.fr (kC.is ((rq q).2)),.fr (kC.is (((rq p).1)*((rq q).2))),.fr (VP.pim kC ((rq q).1)),.fr (kC.is ((rq q).1)),.fr (VP.pim kC ((rq p).2)),.fr (kC.is ((rq p).2)),.fr (kC.is (((rq q).1)*((rq p).2))),.fr (kC.is ((((rq p).1)*((rq q).2))+(((rq q).1)*((rq p).2)))),.fr (VP.pim kC ((rq p).2)),.fr (kC.is ((rq p).2)),.fr (VP.pim kC ((rq q).2)),.fr (kC.is ((rq q).2)),.fr (kC.is (((rq p).2)*((rq q).2))),.fr (kRC.is (rmk ((((rq p).1)*((rq q).2))+(((rq q).1)*((rq p).2))) (((rq p).2)*((rq q).2))))]) (aa Z (fun N=>cQ Z cB (aD Li) Z) (aa Z (fun N=>aO Z af) (aa Z (fun N=>cQ Z bW (am Li) Z) (aa Z (fun N=>aO Z af) (aa Z (fun N=>aB cY (aj Z (aL (hp.a.sm (by omega))) (aj Z (aL (hq.b.sm (by omega))) ar)) (cW ((rq p).1) ((rq q).2))) (aa Z (fun N=>cQ Z cB (aD Li) Z) (aa Z (fun N=>aO Z af) (aa Z (fun N=>cQ Z bW (am Li) Z) (aa Z (fun N=>aO Z af) (aa Z (fun N=>aB cY (aj Z (aL (hq.a.sm (by omega))) (aj Z (aL (hp.b.sm (by omega))) ar)) (cW ((rq q).1) ((rq p).2))) (aa Z (fun N=>aB el (aj Z (aL ((hp.a.mul hq.b).sm (by omega))) (aj Z (aL ((hq.a.mul hp.b).sm (by omega))) ar)) (ed (((rq p).1)*((rq q).2)) (((rq q).1)*((rq p).2)))) (aa Z (fun N=>cQ Z bW (am Li) Z) (aa Z (fun N=>aO Z af) (aa Z (fun N=>cQ Z bW (am Li) Z) (aa Z (fun N=>aO Z af) (aa Z (fun N=>aB cY (aj Z (aL (hp.b.sm (by omega))) (aj Z (aL (hq.b.sm (by omega))) ar)) (cW ((rq p).2) ((rq q).2))) (aa Z (fun N=>aB fn136 (aj Z (aL (((hp.a.mul hq.b).add (hq.a.mul hp.b)).sm (by omega))) (aj Z (aL ((hp.b.mul hq.b).sm (by omega))) ar)) (fD ((((rq p).1)*((rq q).2))+(((rq q).1)*((rq p).2))) (((rq p).2)*((rq q).2)) (by exact Int.mul_ne_zero (rq_den_ne p) (rq_den_ne q)))) oz)))))))))))))))))<|fun σ1=>?_
 refine aE .n (aC (l:=kRC) (u:=rmk ((((rq p).1)*((rq q).2))+(((rq q).1)*((rq p).2))) (((rq p).2)*((rq q).2))) 0 Z Z Z ai Z Lr)<|Wn<|aA<|tb 0 Z (y:=(rq (p+q))) (rq_add p q) ?_
 exact Qd Z (aY Z (ag 0 Z) ai ay) ⟨Z,Z⟩
theorem c_rat_Add (n:Nat) (p q:Rat) (hp:RZ n p) (hq:RZ n q) (hn:n≤68719476736):Fn Tryz.prog 135 [kRC.is (rq p),kRC.is (rq q)] (VP.tup [kRC.is (rq (p+q)),kN6.is 0]):=by
 refine aN Tryz.func135 Z Z fun m w=>Cr<|aZ .n Z fun b1=>aZ .n Z fun b2=>aW .n ba fun b3=>Wa Z<|Wr<|Ws (ae Z (ag 2 Z) Li ai Z)<|Ws (ae Z (ag 1 Z) Li ai Z)<|ee 2 Z (kp 0 Z (kp 1 Z (.hit (i:=2) Z (kp 3 Z (kp 4 Z (kp 5 Z (kp 6 Z (kp 7 Z .nil))))))))<|ee 1 Z (kp 0 Z (kp 1 Z (kp 2 Z (.hit (i:=3) Z (kp 4 Z (kp 5 Z (kp 6 Z (kp 7 Z .nil))))))))<|Ws (O.mkf (aS Z (aS Z ar)))<|Ws (aB fn205 (aS Z (aS Z (aS Z ar))) (c_rat_two n p q (p+q) 206 [VP.pim kRC (rq p),VP.pim kRC (rq q)] fn206 (c_rat_Add1 n p q hp hq hn) hp hq hn))<|Ws (aP Z Z)<|Ws (aP Z Z)<|aE .n (aC (l:=kRC) (u:=rq (p+q)) 0 Z Z Z ai Z Lr)<|Wa Z<|Wn<|aA ?_
 exact Qd Z (aY Z (ag 0 Z) ai (aI Z ay)) ⟨Z,Z⟩
abbrev gE:=@c_rat_Add
theorem c_rat_Near (n:Nat) (p:Rat) (hp:RZ n p) (hn:n≤68719476736):Fn Tryz.prog 144 [kRC.is (rq p)] (VP.tup [kC.is (nearQ p),kN6.is 0]):=by
 refine aN Tryz.func144 Z Z fun m w=>?_
 have hv1:∀x,x∈[rq p]→0<x.2∧Sm x.2:=by intro x hx;rcases List.mem_cons.1 hx with rfl | hx;exact ⟨rq_den_pos p,hp.b.sm (by omega)⟩;cases hx
 refine Cr<|aZ .n Z fun b1=>aW .n bd fun b2=>Wa Z<|Wn<|ab<|Cr<|Ws (ae Z (ag 1 Z) Li ai Z)<|Ws (bB U26 dn (bV Z bA) Z (by decide))<|Ws (f1 fn121 Z (c_rat_valid [rq p] hv1))<|Wa Z<|Wr<|Wm Z<|Ws (bG Z Z)<|Wn ?_
 refine CN Z (fun h=>h Z) fun h_t11=>?_
 refine Ck<|Cr<|Ws (aw Z cB Z)<|Ws (ae Z (ag 1 Z) (aD Li) af Z)<|Ws (aw Z bW Z)<|Ws (ae Z (ag 1 Z) (am Li) af Z)<|Ws (aB fn215 (aj Z (aL (hp.a.sm (by omega))) (aj Z (aL (hp.b.sm (by omega))) ar)) (c_zint_Near n ((rq p).1) ((rq p).2) hp.a hp.b (eS p) (by omega)))<|Wm Z<|Ws (aP Z Z)<|Ws (aP Z Z)<|Ax (l:=kC) (u:=nearI ((rq p).1) ((rq p).2)) bd Z af (fun _=>Z) Lr fun b3=>Wa Z<|Wr<|Ws (ae Z (ag 0 Z) Li af Z)<|aE .n (aC (l:=kC) (u:=nearI ((rq p).1) ((rq p).2)) 1 Z Z Z af Z Lr)<|Wa Z<|Wn ?_
 refine aA ?_
 exact Qd Z (dE Z (ag 1 Z) af (ah (y:=nearQ p) (by rfl)) (aI Z ay)) ⟨Z,Z⟩
theorem c_rat_Of (z:Int):Fn Tryz.prog 67 [kZ.is z] (kRC.is (rq (z:Rat))):=by
 refine aN Tryz.func67 Z Z fun m w=>Cr<|aZ .n Z fun b1=>aW .n ba fun b2=>Wr<|Ws (ae Z (ag 1 Z) Li af Z)<|Ws (f1 fn132 Z (c_zint_Form z))<|Ws (aB eG (aj Z (cP (by omega)) ar) (ew 1))<|Ws (bY dP Z (cy Z (cy Z br)) (.cons Z (aD Li) (.cons Z (am Li) (.nil _))))<|aE .n (aC (l:=kRC) (u:=(z,1)) 0 Z Z Z ai Z Lr)<|Wn<|aA<|tb 0 Z (y:=(rq (z:Rat))) (rq_int z).symm ?_
 exact Qd Z (aY Z (ag 0 Z) ai ay) ⟨Z,Z⟩
abbrev ez:=@c_rat_Of
end Fw
namespace Fw
open Go
theorem copy_all {α:Type} {ys xs:List α} (h:ys.length=xs.length):ys.take (min ys.length xs.length)++xs.drop (min ys.length xs.length)=ys:=by
  rw [h,Nat.min_self,←h,List.take_length,h,List.drop_length,List.append_nil]
abbrev fJ:=@copy_all
abbrev Fi:=Nat→Nat→Int
def triR (n:Nat) (f:Fi) (x:Nat):List Int:=(List.range x).map (f x)
def tri (n:Nat) (f:Fi):List (List Int):=(List.range n).map (triR n f)
theorem tri_len (n f):(tri n f).length=n:=by simp [tri]
theorem tri_row {n f x} (h:x<n):(tri n f).getD x []=triR n f x:=by
  rw [gde _ [] (by rw [tri_len];exact h)];simp [tri]
theorem tri_rlen {n f x} (h:x<n):((tri n f).getD x []).length=x:=by rw [tri_row h];simp [triR]
theorem tri_at {n f x k} (h:x<n) (hk:k<x):((tri n f).getD x [])[k]?=some (f x k):=by rw [tri_row h];simp [triR,hk]
theorem tri_get {n f x k} (h:x<n) (hk:k<x):((tri n f).getD x []).getD k 0=f x k:=by rw [List.getD_eq_getElem?_getD,tri_at h hk];rfl
theorem tri_at2 {n f x k} {q:Int} (h:x<n) (hk:k<x) (e:f x k=q):((tri n f).getD x [])[k]?=some q:=by rw [←e];exact tri_at h hk
theorem Sz.fdiv {n:Nat} {x y:Int} (h:Sz n x) (hy:0<y):Sz n (x.fdiv y):=by
  refine h.le ?_
  have h1:(1:Int)≤y:=hy
  rw [Int.fdiv_eq_ediv_of_nonneg _ (by omega)]
  exact Int.natAbs_ediv_le_natAbs x y
theorem tri_congr {n} {f g:Fi} (h:∀x k,x<n→k<x→f x k=g x k):tri n f=tri n g:=
  List.map_congr_left fun x hx=>List.map_congr_left fun k hk=>h x k (List.mem_range.1 hx) (List.mem_range.1 hk)
def updI (f:Fi) (i k:Nat) (q:Int):Fi:=fun a b=>if a=i∧b=k then q else f a b
theorem tri_set {n f i k} (q:Int) (h:i<n):(tri n f).set i (((tri n f).getD i []).set k q)=tri n (updI f i k q):=by
  apply List.ext_getElem
  · simp [tri]
  · intro a h1 h2
    rw [List.getElem_set]
    split
    · rename_i e
      subst e
      rw [tri_row h]
      apply List.ext_getElem
      · simp [tri,triR]
      · intro b h3 h4
        simp only [tri,triR,List.getElem_map,List.getElem_range,List.getElem_set,updI]
        by_cases e:k=b
        · subst e;rw [if_pos rfl,if_pos ⟨trivial,rfl⟩]
        · rw [if_neg e,if_neg (fun x=>e x.2.symm)]
    · rename_i e
      simp only [tri,triR,List.getElem_map,List.getElem_range]
      apply List.map_congr_left
      intro b hb
      show f a b=(if a=i∧b=k then q else f a b)
      rw [if_neg (fun h:a=i∧b=k=>e h.1.symm)]
def eF (G:Fi):Fi:=fun x k=>uE G k x k
theorem gLs_tri (G n):gLs G n=tri n (eF G):=rfl
def addF (G:Fi) (i j:Nat) (q:Int) (c:Nat):Fi:=fun x k=>if x=i∧k=j then uE G j i j+q*uD G (j+1) else if x=i∧k<c then uE G k i k+q*uE G k j k else uE G k x k
theorem addF_0 (G i j q):updI (eF G) i j (uE G j i j+q*uD G (j+1))=addF G i j q 0:=by
  funext x k;unfold updI addF eF;simp
theorem addF_at {G i j q c} (h:c<j):addF G i j q c i c=uE G c i c:=by
  unfold addF;simp [show c≠j by omega]
theorem addF_s {G i j q c} (h:c<j):updI (addF G i j q c) i c (uE G c i c+q*uE G c j c)=addF G i j q (c+1):=by
  funext x k;unfold updI addF
  by_cases h1:x=i
  · subst h1
    by_cases h2:k=c
    · subst h2;simp [show k≠j by omega]
    · simp [h2,Nat.lt_succ_iff_lt_or_eq]
  · simp [h1]
theorem addF_end {G:Fi} {n i j:Nat} {q:Int} (hs:SymG G) (hp:PosU G n) (hij:j<i) (hi:i<n):tri n (addF G i j q j)=gLs (rowI G i j q) n:=by
  rw [gLs_tri]
  refine tri_congr fun x k hx hk=>?_
  unfold addF eF
  by_cases h1:x=i
  · subst h1
    by_cases h2:k=j
    · subst h2;simp [rowI_at hs hp hij hi]
    · by_cases h3:k<j
      · simp [h2,h3,rowI_lo hs hp hij hi h3]
      · simp [h2,h3,rowI_hi hs hp hij (show j<k by omega) (show k≤x by omega) hx]
  · simp [h1,rowI_ne hs hp hij h1 (show k≤x by omega) hx]
theorem gDs_row {G:Fi} {n i j:Nat} {q:Int} (hs:SymG G) (hp:PosU G n) (hij:j<i):gDs (rowI G i j q) n=gDs G n:=
  List.map_congr_left fun k hk=>rowI_uD hs hp hij (by have:=List.mem_range.1 hk;omega)
def swF1 (G:Fi) (p c:Nat):Fi:=fun x k=>if x=p∧k<c then uE G k (p+1) k else if x=p+1∧k<c then uE G k p k else uE G k x k
def swA (G:Fi) (p x:Nat):Int:=(uD G p*uE G (p+1) x (p+1)+uE G p (p+1) p*uE G p x p).fdiv (uD G (p+1))
def swB (G:Fi) (p x:Nat):Int:=(uD G (p+2)*uE G p x p + -(uE G p (p+1) p)*uE G (p+1) x (p+1)).fdiv (uD G (p+1))
def swD (G:Fi) (p:Nat):Int:=(uD G p*uD G (p+2)+uE G p (p+1) p*uE G p (p+1) p).fdiv (uD G (p+1))
def swF2 (G:Fi) (p c:Nat):Fi:=fun x k=>if p+1<x∧x<c∧k=p then swA G p x else if p+1<x∧x<c∧k=p+1 then swB G p x else swF1 G p p x k
theorem swF1_0 (G p):eF G=swF1 G p 0:=by
  funext x k;unfold eF swF1;simp
theorem swF1_a {G p c}:swF1 G p c (p+1) c=uE G c (p+1) c:=by unfold swF1;simp
theorem swF1_b {G p c}:swF1 G p c p c=uE G c p c:=by unfold swF1;simp
theorem swF1_s {G p c}:updI (updI (swF1 G p c) p c (uE G c (p+1) c)) (p+1) c (uE G c p c)=swF1 G p (c+1):=by
  funext x k;unfold updI swF1
  by_cases h1:x=p+1
  · subst h1
    by_cases h2:k=c
    · subst h2;simp
    · simp [h2,Nat.lt_succ_iff_lt_or_eq]
  · by_cases h3:x=p
    · subst h3
      by_cases h2:k=c
      · subst h2;simp
      · simp [h2,Nat.lt_succ_iff_lt_or_eq]
    · simp [h1,h3]
theorem swF2_0 (G p):swF1 G p p=swF2 G p (p+2):=by
  funext x k;unfold swF2
  have h1:¬(p+1<x∧x<p+2):=by omega
  have h2:¬(p+1<x∧x<p+2∧k=p):=fun h=>h1 ⟨h.1,h.2.1⟩
  have h3:¬(p+1<x∧x<p+2∧k=p+1):=fun h=>h1 ⟨h.1,h.2.1⟩
  rw [if_neg h2,if_neg h3]
theorem swF2_s {G p c} (hc:p+1<c):updI (updI (swF2 G p c) c p (swA G p c)) c (p+1) (swB G p c)=swF2 G p (c+1):=by
  funext x k;unfold updI swF2
  by_cases h1:x=c
  · subst h1
    by_cases h2:k=p+1
    · subst h2;simp [hc]
    · by_cases h3:k=p
      · subst h3;simp [hc]
      · simp [h2,h3]
  · simp [h1,Nat.lt_succ_iff_lt_or_eq]
section
variable {G:Fi} {n p:Nat}
theorem uD_ne (hp:PosU G n) {k} (hk:k≤n):uD G k≠0:=by have:=hp.uD hk;omega
theorem swD_eq (hs:SymG G) (hp:PosU G n) (h:p+1<n):swD G p=uD (swpI G p) (p+1):=fdiv_ex (uD_ne hp (by omega)) (swpI_D hs hp h).symm
theorem swA_eq (hs:SymG G) (hp:PosU G n) (h:p+1<n) {x} (hx:p+1<x):swA G p x=uE (swpI G p) p x p:=fdiv_ex (uD_ne hp (by omega)) (swpI_1 hs hp h hx).symm
theorem swB_eq (hs:SymG G) (hp:PosU G n) (h:p+1<n) {x} (hx:p+1<x):swB G p x=uE (swpI G p) (p+1) x (p+1):=fdiv_ex (uD_ne hp (by omega)) (by rw [swpI_2 hs hp h hx];rw [Int.neg_mul];omega)
theorem swF2_end (hs:SymG G) (hp:PosU G n) (h:p+1<n):tri n (swF2 G p n)=gLs (swpI G p) n:=by
  rw [gLs_tri]
  refine tri_congr fun x k hx hk=>?_
  unfold eF swF2 swF1
  rcases Nat.lt_trichotomy x p with h1 | h1 | h1
  · simp [show ¬p+1<x by omega,show x≠p by omega,show x≠p+1 by omega,swpI_low hs hp h (show k≤x by omega) h1]
  · subst h1
    have e:=swpI_lo hs hp h (x:=x) hk (by omega)
    rw [sg_p] at e
    simp [hk,e,show ¬x+1<x by omega]
  · by_cases h2:x=p+1
    · subst h2
      by_cases h3:k<p
      · have e:=swpI_lo hs hp h (x:=p+1) h3 (by omega)
        rw [sg_q] at e
        simp [h3,e]
      · have h4:k=p:=by omega
        subst h4
        simp [swpI_mid hs hp h]
    · have h3:p+1<x:=by omega
      by_cases h4:k=p
      · subst h4;simp [h3,hx,swA_eq hs hp h h3]
      · by_cases h5:k=p+1
        · subst h5;simp [h3,hx,swB_eq hs hp h h3]
        · by_cases h6:k<p
          · have e:=swpI_lo hs hp h (x:=x) h6 (by omega)
            rw [sg_ne (by omega) (by omega)] at e
            simp [h4,h5,show x≠p by omega,h2,e]
          · simp [h4,h5,show x≠p by omega,h2,swpI_hi hs hp h (show p+2≤k by omega) (show k≤x by omega) hx]
theorem gDs_swp (hs:SymG G) (hp:PosU G n) (h:p+1<n):(gDs G n).set (p+1) (swD G p)=gDs (swpI G p) n:=by
  apply List.ext_getElem
  · simp [gDs]
  · intro k h1 h2
    simp only [gDs,List.getElem_set,List.getElem_map,List.getElem_range]
    by_cases e:p+1=k
    · subst e;rw [if_pos rfl,swD_eq hs hp h]
    · rw [if_neg e,swpI_uD hs hp h (by simp [gDs] at h2;omega) (fun x=>e x.symm)]
theorem frM_rmk (hs:SymG G) (hp:PosU G n) {i j} (hij:j<i) (hi:i<n):rmk (uE G j i j) (uD G (j+1))=rq (frM G i j):=by
  rw [frM_eq hs (hp.le (by omega)) (by omega),rmk_rq (uD_ne hp (by omega))];rfl
theorem frS_rmk (hs:SymG G) (hp:PosU G n) {i} (hi:i<n):rmk (uD G (i+1)) (uD G i)=rq (frS G i):=by
  unfold frS
  rw [gsE_frac hs (hp.le (by omega)) (Nat.le_refl i) (Nat.le_refl i),rmk_rq (uD_ne hp (by omega))];rfl
theorem gDs_Sm {B:Nat} (h:∀k,k≤n→Sz B (uD G k)) (hB:B≤549755813888):∀x,x∈gDs G n→Sm x:=fun x hx=>by
  obtain ⟨k,hk,rfl⟩:=List.mem_map.1 hx
  exact (h k (by have:=List.mem_range.1 hk;omega)).sm hB
theorem gLs_Sm {B:Nat} (h:∀x k,x<n→k<x→Sz B (uE G k x k)) (hB:B≤549755813888):∀r,r∈gLs G n→∀x,x∈r→Sm x:=fun r hr x hx=>by
  obtain ⟨i,hi,rfl⟩:=List.mem_map.1 hr
  obtain ⟨k,hk,rfl⟩:=List.mem_map.1 hx
  exact (h i k (List.mem_range.1 hi) (List.mem_range.1 hk)).sm hB
end
end Fw
namespace Fw
open Go Go.Proofs
theorem c_gso_good (G:Nat→Nat→Int) (n B:Nat) (h0:0<n) (h12:n≤12) (hP:PosU G n) (hD:∀k,k≤n→Sz B (uD G k)) (hB:B≤68719476736):Fn Tryz.prog 133 [kGso.is (gDs G n,gLs G n)] (kBool.is true):=by
 refine aN Tryz.func133 Z Z fun m w=>?_
 have hn0:0<n:=h0
 have hLl:(gLs G n).length=n:=gLs_len G n
 have hDl:(gDs G n).length=n+1:=gDs_len G n
 refine Cr<|aZ .n Z fun b1=>Wa Z<|Wn<|ab<|ab ?_
 refine a5 (Γ:=[.fr (VP.pt b1 1),.fr (kMC.is (gLs G n)),.fr (kN6.is ((gLs G n).length:Int)),.fr (kBool.is false),.fr (kBool.is false),.fr (VP.pt b1 0),.fr (kVC.is (gDs G n)),.fr (kN6.is ((gDs G n).length:Int)),.fr (VP.pt b1 1),.fr (kMC.is (gLs G n)),.fr (kN6.is ((gLs G n).length:Int)),.fr (kN6.is (((gLs G n).length:Int)+1)),.fr (kBool.is false),.fr (kBool.is false),.fr (kBool.is false),.fr (VP.pt b1 0),.fr (kVC.is (gDs G n)),.fr (VP.pim kC (uD G 0)),.fr (kC.is (uD G 0)),.fr (kC.is 1),.fr (kN6.is (((uD G 0)-1).sign)),.fr (kBool.is false),.fr (kBool.is false)]) (aa Z (fun N=>aw Z ct Z) (aa Z (fun N=>ae (p:=kMC.is (gLs G n)) Z (mN N 0 Z) (am Li) bf Z) (aa Z (fun N=>aJ Z U22) (aa Z (fun N=>aV (cq Z Z) (ah (decide_eq_false (by rw [gLs_len];omega)))) (om Z Z (oc (cJ Z (.g Z Z) fun N=>(aw Z cK Z)) (oc (cJ Z (.g Z Z) fun N=>(ae (p:=kVC.is (gDs G n)) Z (mN N 0 Z) (aD Li) aK Z)) (oc (cJ Z (.g Z Z) fun N=>(aJ Z U23)) (oc (cJ Z (.g Z Z) fun N=>(aw Z ct Z)) (oc (cJ Z (.g Z Z) fun N=>(ae (p:=kMC.is (gLs G n)) Z (mN N 0 Z) (am Li) bf Z)) (oc (cJ Z (.g Z Z) fun N=>(aJ Z U22)) (oc (cJ Z (.g Z Z) fun N=>(aR Z Z (c:=(((gLs G n).length:Int)+1)) (aH (by omega)))) (oc (cJ Z (.g Z Z) fun N=>(aV (bG Z Z) (ah (decide_eq_false (by rw [gLs_len,gDs_len];omega))))) (aa Z (fun N=>cb Z Z) (om Z Z (oc (cJ Z (.g Z Z) fun N=>(aw Z cK Z)) (oc (cJ Z (.g Z Z) fun N=>(ae (p:=kVC.is (gDs G n)) Z (mN N 0 Z) (aD Li) aK Z)) (oc (cJ Z (.g Z Z) fun N=>(aU 0 Z Z U23 af Z (v:=(uD G 0)) (dv (by omega)))) (oc (cJ Z (.g Z Z) fun N=>(aO Z af)) (oc (cJ Z (.g Z Z) fun N=>(aB eG (aj Z (cP (by omega)) ar) (ew 1))) (oc (cJ Z (.g Z Z) fun N=>(aB fn119 (aj Z (aL ((hD 0 (by omega)).sm (by omega))) (aj Z (aL ((hD 0 (by omega)).sm (by omega))) ar)) (c_zint_Compare (uD G 0) 1))) (oc (cJ Z (.g Z Z) fun N=>(aV (bG Z Z) (ah (decide_eq_false (by show ¬((uD G 0-1).sign≠0);simp [uD]))))) (aa Z (fun N=>cb Z Z) oz)))))))))))))))))))))))<|fun σ1=>?_
 refine Wn<|dj Z<|Ck<|ab<|Cr<|Ws (aw Z ct Z)<|Ws (ae (p:=kMC.is (gLs G n)) Z (ag 0 Z) (am Li) bf Z)<|Ws (aJ Z U22)<|Wm Z<|Wn<|aF<|tl 30 Z (y:=(n:Int)) (by rw [gLs_len])<|bJ (fun (i:Nat)=>i≤n) (fun (i:Nat)=>[(1,VP.pt b1 0),(29,kMC.is (gLs G n)),(30,kN6.is (n:Int)),(31,kN6.is (i:Int))]) (fun (i:Nat)=>[OB.box b1 25 kGso (gDs G n,gLs G n)]) (fun (i:Nat)=>n-i) 0 (by omega) (ac Z (ac Z (ac Z (az Z (ah (y:=(0:Int)) (by rfl)) aq)))) (aG _) ?_
 intro i hi
 refine Cr<|Ws (aX Z Z)<|Wn<|ab ?_
 refine aM Z (fun h_t32=>?_)<|fun h_t32=>?_
 ·
  refine Ck<|ab<|aF<|Cr<|Wm Z<|Ws (aU i Z Z U22 aK Z (v:=((gLs G n).getD i [])) (gd [] (by omega)))<|Ws (aO Z aK)<|Wa Z<|Wa Z<|Wr<|Wm Z<|Ws (aJ Z U23)<|Wm Z<|Ws (bG Z Z)<|Wm Z ?_
  refine cG 40 Z (fun h=>absurd h (fun h=>h (by rw [gLs_get (by omega),gRow_len])))<|fun h_t40=>?_
  refine Wg Z Z (aw Z cK Z)<|Wg Z Z (ae (p:=kVC.is (gDs G n)) Z (ag 0 Z) (aD Li) aK Z)<|Wg Z Z (cd Z)<|Wg Z Z (aR Z Z (c:=((i:Int)+1)) (aH (by omega)))<|Wg Z Z (aU ((((i:Int)+1)).toNat) Z Z U23 af (by omega) (v:=(uD G (i+1))) (dv (by omega)))<|Wg Z Z (aO Z af)<|Wg Z Z (aB db (aj Z (aL ((hD (i+1) (by omega)).sm (by omega))) ar) (c9 (uD G (i+1))))<|Wg Z Z (dL Z Z)<|Ws (cb Z Z)<|Wn ?_
  refine CN Z (by have h1:=hP i (by omega);have h2:=Int.sign_eq_one_of_pos h1;have h3:uD G (i+1)=uE G i i i:=rfl;rw [h3];omega) fun h_t49=>?_
  refine cx<|Qb<|ak<|Ws (aR Z Z (c:=((i:Int)+1)) (aH (by omega)))<|Wm Z<|au ?_
  exact bE (i+1) (by omega) (by omega) (ac Z (ac Z (ac Z (az Z (ah (y:=(((i+1):Nat):Int)) (by rfl)) aq))))<|aG _
 ·
  refine Ex<|Cr<|Wa Z<|Wn<|aA ?_
  exact Qd Z (aI Z ay) ⟨Z,Z⟩
abbrev gy:=@c_gso_good
theorem c_gso_Mu (G:Nat→Nat→Int) (n B:Nat) (h0:0<n) (h12:n≤12) (hP:PosU G n) (hD:∀k,k≤n→Sz B (uD G k)) (hB:B≤68719476736) (i j:Nat) (hj:j<i) (hi:i<n) (hs:SymG G) (hL:∀x k,x<n→k<x→Sz B (uE G k x k)):Fn Tryz.prog 143 [kGso.is (gDs G n,gLs G n),kN6.is (i:Int),kN6.is (j:Int)] (VP.tup [kRC.is (rq (frM G i j)),kN6.is 0]):=by
 refine aN Tryz.func143 Z Z fun m w=>Cr<|aZ .n Z fun b1=>aW .n ba fun b2=>Wa Z<|Wn<|ab<|aF<|Cr<|Ws (ae (p:=kGso.is (gDs G n,gLs G n)) Z (ag 1 Z) Li bl Z)<|Ws (f1 fn133 Z (gy G n B (by assumption) (by assumption) (by assumption) (by assumption) (by assumption)))<|Ws (dh (a:=true) Z)<|Wa Z<|Wn<|dj Z<|Cr<|Wm Z<|Ws (aX Z Z)<|Wm Z ?_
 refine cG 16 Z (fun h=>absurd h (by omega))<|fun h_t16=>?_
 refine Wg Z Z (cd Z)<|Wg Z Z (aw Z ct Z)<|Wg Z Z (ae (p:=kMC.is (gLs G n)) Z (ag 1 Z) (am Li) bf Z)<|Wg Z Z (aJ Z U22)<|Wg Z Z (di Z Z)<|Ws (cb Z Z)<|Wm Z ?_
 refine cG 23 Z (fun h=>absurd h (by rw [gLs_len];omega))<|fun h_t23=>?_
 refine Wg Z Z (cd Z)<|Wg Z Z (aX Z Z)<|Ws (cb Z Z)<|Wm Z ?_
 refine cG 27 Z (fun h=>absurd h (by omega))<|fun h_t27=>?_
 refine Wg Z Z (cd Z)<|Wg Z Z (cd Z)<|Wg Z Z (cF Z Z)<|Ws (cb Z Z)<|Wa Z<|Wn ?_
 refine CN Z (by omega) fun h_t13=>?_
 refine Cr<|Wm Z<|Wm Z<|Ws (cq Z Z)<|Wa Z<|Wn ?_
 refine CN Z (by omega) fun h_t33=>?_
 refine cx<|Qb<|ab ?_
 refine a5 (Γ:=[.fr (VP.pt b1 1),.fr (kMC.is (gLs G n)),.fr (kN6.is (i:Int)),.fr (VP.pim kVC ((gLs G n).getD i [])),.fr (kVC.is ((gLs G n).getD i [])),.fr (kN6.is (j:Int)),.fr (VP.pim kC (uE G j i j)),.fr (kC.is (uE G j i j)),.fr (VP.pt b1 0),.fr (kVC.is (gDs G n)),.fr (kN6.is (j:Int)),.fr (kN6.is ((j:Int)+1)),.fr (VP.pim kC (uD G (j+1))),.fr (kC.is (uD G (j+1))),.fr (VP.tup [kRC.is (rq (frM G i j)),kN6.is 0]),.fr (kRC.is (rq (frM G i j))),.fr (kN6.is 0)]) (aa Z (fun N=>aw Z ct Z) (aa Z (fun N=>ae (p:=kMC.is (gLs G n)) Z (mN N 1 Z) (am Li) bf Z) (om Z Z (aa Z (fun N=>aU i Z Z U22 aK Z (v:=((gLs G n).getD i [])) (gd [] (by omega))) (aa Z (fun N=>aO Z aK) (om Z Z (aa Z (fun N=>aU j Z Z U23 af Z (v:=(uE G j i j)) (fQ (by omega) (by omega))) (aa Z (fun N=>aO Z af) (aa Z (fun N=>aw Z cK Z) (aa Z (fun N=>ae (p:=kVC.is (gDs G n)) Z (mN N 1 Z) (aD Li) aK Z) (om Z Z (aa Z (fun N=>aR Z Z (c:=((j:Int)+1)) (aH (by omega))) (aa Z (fun N=>aU ((((j:Int)+1)).toNat) Z Z U23 af (by omega) (v:=(uD G (j+1))) (dv (by omega))) (aa Z (fun N=>aO Z af) (aa Z (fun N=>aV (aB fn134 (aj Z (aL ((hL i j (by omega) (by omega)).sm (by omega))) (aj Z (aL ((hD (j+1) (by omega)).sm (by omega))) ar)) (c_rat_Make (uE G j i j) (uD G (j+1)))) (tup_le (fF (ah (by rw [if_neg (uD_ne hP (by omega)),frM_rmk hs hP hj hi])) (fF (ah (if_neg (uD_ne hP (by omega)))) tup_nil)))) (aa Z (fun N=>aP Z Z) (aa Z (fun N=>aP Z Z) oz)))))))))))))))))<|fun σ1=>?_
 refine aE .n (aC (l:=kRC) (u:=rq (frM G i j)) 0 Z Z Z ai Z Lr)<|Wa Z<|Wn<|aA ?_
 exact Qd Z (aY Z (ag 0 Z) ai (aI Z ay)) ⟨Z,Z⟩
theorem c_gso_Star (G:Nat→Nat→Int) (n B:Nat) (h0:0<n) (h12:n≤12) (hP:PosU G n) (hD:∀k,k≤n→Sz B (uD G k)) (hB:B≤68719476736) (i:Nat) (hi:i<n) (hs:SymG G):Fn Tryz.prog 68 [kGso.is (gDs G n,gLs G n),kN6.is (i:Int)] (VP.tup [kRC.is (rq (frS G i)),kN6.is 0]):=by
 refine aN Tryz.func68 Z Z fun m w=>Cr<|aZ .n Z fun b1=>aW .n ba fun b2=>Wa Z<|Wn<|ab<|Cr<|Ws (ae (p:=kGso.is (gDs G n,gLs G n)) Z (ag 1 Z) Li bl Z)<|Ws (f1 fn133 Z (gy G n B (by assumption) (by assumption) (by assumption) (by assumption) (by assumption)))<|Ws (dh (a:=true) Z)<|Wn<|dj Z<|Ck<|ab<|Cr<|Wm Z<|Ws (aX Z Z) ?_
 refine Wm Z ?_
 refine cG 12 Z (fun h=>absurd h (by omega))<|fun h_t12=>?_
 refine Wg Z Z (cd Z)<|Wg Z Z (aw Z ct Z)<|Wg Z Z (ae (p:=kMC.is (gLs G n)) Z (ag 1 Z) (am Li) bf Z)<|Wg Z Z (aJ Z U22)<|Wg Z Z (di Z Z)<|Ws (cb Z Z)<|Wn ?_
 refine CN Z (by rw [gLs_len];omega) fun h_t18=>?_
 refine Ck<|ab ?_
 refine a5 (Γ:=[.fr (VP.pt b1 0),.fr (kVC.is (gDs G n)),.fr (kN6.is (i:Int)),.fr (kN6.is ((i:Int)+1)),.fr (VP.pim kC (uD G (i+1))),.fr (kC.is (uD G (i+1))),.fr (VP.pt b1 0),.fr (kVC.is (gDs G n)),.fr (kN6.is (i:Int)),.fr (VP.pim kC (uD G i)),.fr (kC.is (uD G i)),.fr (VP.tup [kRC.is (rq (frS G i)),kN6.is 0]),.fr (kRC.is (rq (frS G i))),.fr (kN6.is 0)]) (aa Z (fun N=>aw Z cK Z) (aa Z (fun N=>ae (p:=kVC.is (gDs G n)) Z (mN N 1 Z) (aD Li) aK Z) (om Z Z (aa Z (fun N=>aR Z Z (c:=((i:Int)+1)) (aH (by omega))) (aa Z (fun N=>aU ((((i:Int)+1)).toNat) Z Z U23 af (by omega) (v:=(uD G (i+1))) (dv (by omega))) (aa Z (fun N=>aO Z af) (aa Z (fun N=>aw Z cK Z) (aa Z (fun N=>ae (p:=kVC.is (gDs G n)) Z (mN N 1 Z) (aD Li) aK Z) (om Z Z (aa Z (fun N=>aU i Z Z U23 af Z (v:=(uD G i)) (dv (by omega))) (aa Z (fun N=>aO Z af) (aa Z (fun N=>aV (aB fn134 (aj Z (aL ((hD (i+1) (by omega)).sm (by omega))) (aj Z (aL ((hD i (by omega)).sm (by omega))) ar)) (c_rat_Make (uD G (i+1)) (uD G i))) (tup_le (fF (ah (by rw [if_neg (uD_ne hP (by omega)),frS_rmk hs hP hi])) (fF (ah (if_neg (uD_ne hP (by omega)))) tup_nil)))) (aa Z (fun N=>aP Z Z) (aa Z (fun N=>aP Z Z) oz))))))))))))))<|fun σ1=>?_
 refine aE .n (aC (l:=kRC) (u:=rq (frS G i)) 0 Z Z Z ai Z Lr)<|Wa Z<|Wn<|aA ?_
 exact Qd Z (aY Z (ag 0 Z) ai (aI Z ay)) ⟨Z,Z⟩
abbrev gA:=@c_gso_Star
theorem c_mat_eachII (fid:FuncId) (caps:List VP) (F:Int→Int) (l:List Int) (hok:FnOk Tryz.prog fid) (hF:∀x,x∈l→Fn Tryz.prog fid (kZ.is x::caps) (kC.is (F x))):Fn Tryz.prog 219 [kVZ.is l,VP.clo fid caps] (kVC.is (l.map F)):=by
 refine aN Tryz.func219 Z Z fun m w=>a8 (i:=0) Z bF fun hB=>Cr<|Wa Z<|Wr<|Wm Z<|Ws (aJ Z U23)<|fS l.length .n Z Z Z (by omega) U23 bv bd fun v1=>Wa Z<|Wn<|ab<|Cr<|Wm Z<|Ws (aJ Z U23)<|Wm Z<|Wn<|aF ?_
 refine bU (fun (i:Nat) (v:Value)=>i≤l.length) (fun (i:Nat) (v:Value)=>[(0,kVZ.is l),(1,VP.clo fid caps),(5,VP.ex v),(11,kVZ.is l),(12,kN6.is (l.length:Int)),(13,kN6.is (i:Int))]) (fun (i:Nat) (v:Value)=>[OB.row v 29 kC ((l.take i).map F)]) (fun (i:Nat) (v:Value)=>l.length-i) 0 v1 (by omega) (ao Z Z Z Z (ac Z (az Z (ah (y:=(0:Int)) (by rfl)) aq))) (a9 (OS.keepLe (bi (by rfl)) OS.nil)) ?_
 intro i v hi
 refine Cr<|Ws (aX Z Z)<|Wn<|ab ?_
 refine aM Z (fun h_t14=>?_)<|fun h_t14=>?_
 ·
  refine Ck<|ab<|aF<|Cr<|Ws (aU i Z Z U23 af Z (v:=(l.getD i 0)) (gd 0 (by omega)))<|Ws (aO Z af)<|Ax (l:=kZ) (u:=(l.getD i 0)) z29_Z Z af (fun _=>Z) Lr fun b2=>Wn<|ak<|Wm Z<|Wm Z<|Ws (ae Z (ag 0 Z) Li af Z)<|Ws (eQ Z hok (aS Z ar) (hF _ (fu 0 (by omega))))<|Ws (bB U23 bv (bV Z bA) Z (by decide))<|bI 1 .n Z Z Z Lr U23 bv (by simp;omega) fun v3=>Wa Z<|au<|Qb<|ak ?_
  refine Ws (aR Z Z (c:=((i:Int)+1)) (aH (by omega)))<|Wm Z<|au<|tr 1 Z (y:=((l.take (i+1)).map F)) (fV (by omega)) ?_
  exact bS (i+1) v3 (by omega) (by omega) (ao Z Z Z Z (ac Z (az Z (ah (y:=(((i+1):Nat):Int)) (by rfl)) aq)))<|a9<|OS.skip<|OS.keep OS.nil
 ·
  refine Ex<|Cr<|Wm Z<|Wa Z<|Wn<|aA<|bL 0 Z (kp 0 Z (kp 1 Z (.hit (i:=4) Z (.hit (i:=5) Z (kp 11 Z (kp 12 Z (kp 13 Z (kp 14 Z (.hit (i:=24) Z .nil)))))))))<|tl 4 Z (y:=(l.map F)) (by rw [List.take_of_length_le (by omega)]) ?_
  exact Qd Z (aI Z ay) ⟨Z,Z⟩
theorem c_mat_eachIIo (fid:FuncId) (caps:List VP) (F:Int→Int) (l:List Int) (hok:FnOk Tryz.prog fid) (hF:∀x,x∈l→Fn Tryz.prog fid (kZ.is x::caps) (kC.is (F x))):Con Tryz.prog 219 [kVZ.is l,VP.clo fid caps] [] (fun p Lo=>∃(v:Value),p=VP.ex v∧Lo=[OB.row v 29 kC (l.map F)]∧True):=by
 refine aN Tryz.func219 Z Z fun m w=>a8 (i:=0) Z bF fun hB=>Cr<|Wa Z<|Wr<|Wm Z<|Ws (aJ Z U23)<|fS l.length .n Z Z Z (by omega) U23 bv bd fun v1=>Wa Z<|Wn<|ab<|Cr<|Wm Z<|Ws (aJ Z U23)<|Wm Z<|Wn<|aF ?_
 refine bU (fun (i:Nat) (v:Value)=>i≤l.length) (fun (i:Nat) (v:Value)=>[(0,kVZ.is l),(1,VP.clo fid caps),(5,VP.ex v),(11,kVZ.is l),(12,kN6.is (l.length:Int)),(13,kN6.is (i:Int))]) (fun (i:Nat) (v:Value)=>[OB.row v 29 kC ((l.take i).map F)]) (fun (i:Nat) (v:Value)=>l.length-i) 0 v1 (by omega) (ao Z Z Z Z (ac Z (az Z (ah (y:=(0:Int)) (by rfl)) aq))) (a9 (OS.keepLe (bi (by rfl)) OS.nil)) ?_
 intro i v hi
 refine Cr<|Ws (aX Z Z)<|Wn<|ab ?_
 refine aM Z (fun h_t14=>?_)<|fun h_t14=>?_
 ·
  refine Ck<|ab<|aF<|Cr<|Ws (aU i Z Z U23 af Z (v:=(l.getD i 0)) (gd 0 (by omega)))<|Ws (aO Z af)<|Ax (l:=kZ) (u:=(l.getD i 0)) z29_Z Z af (fun _=>Z) Lr fun b2=>Wn<|ak<|Wm Z<|Wm Z<|Ws (ae Z (ag 0 Z) Li af Z)<|Ws (eQ Z hok (aS Z ar) (hF _ (fu 0 (by omega))))<|Ws (bB U23 bv (bV Z bA) Z (by decide))<|bI 1 .n Z Z Z Lr U23 bv (by simp;omega) fun v3=>Wa Z<|au<|Qb<|ak ?_
  refine Ws (aR Z Z (c:=((i:Int)+1)) (aH (by omega)))<|Wm Z<|au<|tr 1 Z (y:=((l.take (i+1)).map F)) (fV (by omega)) ?_
  exact bS (i+1) v3 (by omega) (by omega) (ao Z Z Z Z (ac Z (az Z (ah (y:=(((i+1):Nat):Int)) (by rfl)) aq)))<|a9<|OS.skip<|OS.keep OS.nil
 ·
  refine Ex<|Cr<|Wm Z<|Wa Z<|Wn<|aA<|tr 0 Z (y:=(l.map F)) (by rw [List.take_of_length_le (by omega)]) ?_
  exact cg (.inl Z) Z (aI Z ay) (aG _) ⟨v,Z,Z,trivial⟩
theorem c_mat_Form1 (l:List Int) (hl:∀x,x∈l→Sm x):Fn Tryz.prog 268 [kVZ.is l] (kVC.is l):=by
 refine aN Tryz.func268 Z Z fun m w=>Cr<|Wa Z<|Wr<|Wm Z<|Ws (aB fn219 (aS Z (aj Z fR ar)) (c_mat_eachII 132 [] (fun x=>x) l fn132 (fun x _=>c_zint_Form x)))<|Wa Z<|Wn<|aA<|tl 2 Z (y:=l) (by simp) ?_
 exact Qd Z (aI Z ay) ⟨Z,Z⟩
theorem c_mat_Form1o (l:List Int):Con Tryz.prog 268 [kVZ.is l] [] (fun p Lo=>∃(v:Value),p=VP.ex v∧Lo=[OB.row v 29 kC l]∧True):=by
 refine aN Tryz.func268 Z Z fun m w=>Cr<|Wa Z<|Wr<|Wm Z<|cC (Li:=[]) (L:=[]) .n fn219 (aS Z (aj Z fR ar)) (c_mat_eachIIo 132 [] (fun x=>x) l fn132 (fun x _=>c_zint_Form x)) fun p_ Lo_ hp_=>?_
 obtain ⟨v1,rfl,rfl,hx_t4⟩:=hp_
 refine Wa Z<|Wn<|aA<|tr 0 Z (y:=l) (by simp) ?_
 exact cg (.inl Z) Z (aI Z ay) (aG _) ⟨v1,Z,Z,trivial⟩
theorem c_mat_eachRRo (fid:FuncId) (caps:List VP) (F:List Int→List Int) (l:List (List Int)) (hok:FnOk Tryz.prog fid) (hF:∀x,x∈l→Con Tryz.prog fid (kVZ.is x::caps) [] (fun p Lo=>∃u:Value,p=VP.ex u∧Lo=[OB.row u 29 kC (F x)]∧True)):Con Tryz.prog 223 [kMZ.is l,VP.clo fid caps] [] (fun p Lo=>∃(v:Value) (vs:List Value),p=VP.ex v∧Lo=[OB.row v 23 kVal vs,OB.fam vs 29 kC (l.map F)]∧vs.length=l.length):=by
 refine aN Tryz.func223 Z Z fun m w=>a8 (i:=0) Z bF fun hB=>Cr<|Wa Z<|Wr<|Wm Z<|Ws (aJ Z U22)<|fS l.length .n Z Z Z (by omega) U22 cD c3 fun v1=>Wa Z<|Wn<|ab<|Cr<|Wm Z<|Ws (aJ Z U22)<|Wm Z<|Wn<|aF ?_
 refine gG 29 kC<|dz (fun (i:Nat) (v:Value) (vs:List Value)=>i≤l.length∧vs.length=i) (fun (i:Nat) (v:Value) (vs:List Value)=>[(0,kMZ.is l),(1,VP.clo fid caps),(5,VP.ex v),(11,kMZ.is l),(12,kN6.is (l.length:Int)),(13,kN6.is (i:Int))]) (fun (i:Nat) (v:Value) (vs:List Value)=>[OB.fam vs 29 kC ((l.take i).map F),OB.row v 23 kVal vs]) (fun (i:Nat) (v:Value) (vs:List Value)=>l.length-i) 0 v1 [] ⟨Nat.zero_le _,Z⟩ (ao Z Z Z Z (ac Z (az Z (ah (y:=(0:Int)) (by rfl)) aq))) (a9 (OS.keepLe (ff (by rfl) (by rfl)) (OS.keep OS.nil))) ?_
 intro i v vs ⟨hi,hvs⟩
 refine Cr<|Ws (aX Z Z)<|Wn<|ab ?_
 refine aM Z (fun h_t14=>?_)<|fun h_t14=>?_
 ·
  refine Ck<|ab<|aF<|Cr<|Ws (aU i Z Z U22 aK Z (v:=(l.getD i [])) (gd [] (by omega)))<|Ws (aO Z aK)<|Wa Z<|Wn<|ak<|Wm Z<|Wm Z<|Wm Z<|WP.callc (Li:=[]) (L:=[OB.fam vs 29 kC ((l.take i).map F),OB.row v 23 kVal vs]) .n Z hok (aS Z ar) (hF _ (fu [] (by omega))) fun p_ Lo_ hp_=>?_
  obtain ⟨v2,rfl,rfl,_⟩:=hp_
  refine bo 0 Z fun hcell_=>Ws (bB U22 cD (cz Z (bn (by assumption)) bA) Z (by decide))<|bI 2 .n Z Z Z Lr U22 cD (by simp;omega) fun v3=>Wa Z<|au<|Qb<|ak<|Ws (aR Z Z (c:=((i:Int)+1)) (aH (by omega)))<|Wm Z<|au<|bg (fam_push 0 Z)<|tf 0 Z (y:=((l.take (i+1)).map F)) (fV (by omega)) ?_
  exact dd (i+1) v3 (vs++[v2]) (by omega) ⟨by omega,by simp [hvs]⟩ (ao Z Z Z Z (ac Z (az Z (ah (y:=(((i+1):Nat):Int)) (by rfl)) aq)))<|aG _
 ·
  refine Ex<|Cr<|Wm Z<|Wa Z<|Wn<|aA ?_
  have hvl:vs.length=l.length:=by omega
  refine tf 0 Z (y:=(l.map F)) (by rw [List.take_of_length_le (by omega)])<|bg (bm [1,0] (by decide) Z) ?_
  exact cg (.inl Z) Z (aI Z ay) (aG _) ⟨v,vs,Z,Z,hvl⟩
theorem c_mat_Form (l:List (List Int)) (hl:∀r,r∈l→∀x,x∈r→Sm x):Fn Tryz.prog 248 [kMZ.is l] (kMC.is l):=by
 refine aN Tryz.func248 Z Z fun m w=>Cr<|Wa Z<|Wr<|Wm Z<|Ws (aB fn223 (aS Z (aj Z fR ar)) (c_mat_eachRR 268 [] (fun x=>x) l fn268 (fun r hr=>c_mat_Form1 r (hl r hr))))<|Wa Z<|Wn<|aA<|tl 2 Z (y:=l) (by simp) ?_
 exact Qd Z (aI Z ay) ⟨Z,Z⟩
theorem c_mat_Formo (l:List (List Int)):Con Tryz.prog 248 [kMZ.is l] [] (fun p Lo=>∃(v:Value) (vs:List Value),p=VP.ex v∧Lo=[OB.row v 23 kVal vs,OB.fam vs 29 kC l]∧vs.length=l.length):=by
 refine aN Tryz.func248 Z Z fun m w=>Cr<|Wa Z<|Wr<|Wm Z<|cC (Li:=[]) (L:=[]) .n fn223 (aS Z (aj Z fR ar)) (c_mat_eachRRo 268 [] (fun x=>x) l fn268 (fun r _=>c_mat_Form1o r)) fun p_ Lo_ hp_=>?_
 obtain ⟨v1,vs_t4,rfl,rfl,hx_t4⟩:=hp_
 refine Wa Z<|Wn<|aA<|tf 1 Z (y:=l) (by simp) ?_
 exact cg (.inl Z) Z (aI Z ay) (aG _) ⟨v1,vs_t4,Z,Z,hx_t4⟩
theorem c_gso_fresh (D:List Int) (Ls:List (List Int)) (hD:∀x,x∈D→Sm x) (hL:∀r,r∈Ls→∀x,x∈r→Sm x) (hDl:D.length≤100) (hLl:Ls.length≤100):Con Tryz.prog 216 [kGso.is (D,Ls)] [] (fun p Lo=>∃(vD:Value) (vL:Value) (vs:List Value),p=(kPair kVal kVal).is (vD,vL)∧Lo=[OB.row vD 29 kC D,OB.row vL 23 kVal vs,OB.fam vs 29 kC Ls]∧vs.length=Ls.length):=by
 refine aN Tryz.func216 Z Z fun m w=>Cr<|aZ .n Z fun b1=>aW .n c8 fun b2=>Wn ?_
 refine CW.cut3 (fun (pb:Nat) (vD:Value) (vL:Value)=>True) (fun (pb:Nat) (vD:Value) (vL:Value)=>[(1,VP.pt b1 0),(2,VP.pt b2 0),(3,VP.pt pb 0)]) (fun (pb:Nat) (vD:Value) (vL:Value)=>[OB.row vL 23 kVal (List.replicate Ls.length nilV),OB.row vD 29 kC (List.replicate D.length 0),OB.box pb 25 (kPair kVal kVal) (vD,vL),OB.box b2 25 (kPair kVal kVal) (nilV,nilV),OB.box b1 25 kGso (D,Ls)]) ?_ ?_
 ·
  refine dV (by kernel_rfl)<|bK 0 Z (by kernel_rfl) (by kernel_rfl) (by kernel_rfl) (fun _ _ _ _ _ h=>h) .n (OV.fa Z cK Z)<|bK 4 Z (by kernel_rfl) (by kernel_rfl) (by kernel_rfl) (fun _ _ _ _ _ h=>h) .n (OV.fa Z ct Z) ?_
  refine bO 1 [5,9] ⟨?_,⟨?_,⟨?_,trivial⟩⟩⟩
  ·
   refine aT Z .n (ae (p:=kVC.is D) Z (ag 1 Z) (aD Li) aK Z)<|bK 2 Z (by kernel_rfl) (by kernel_rfl) (by kernel_rfl) (fun _ _ _ _ _ h=>h) .n (dD Z U23) ?_
   refine bO 3 [5,9] ⟨?_,⟨?_,⟨?_,trivial⟩⟩⟩
   ·
    refine bz Z<|bH D.length .n Z Z Z (by omega) U23 bv bd fun v3=>au<|bw ?_
    refine bO 5 [9] ⟨?_,⟨?_,trivial⟩⟩
    ·
     refine aT Z .n (ae (p:=kMC.is Ls) Z (ag 2 Z) (am Li) bf Z)<|bK 6 Z (by kernel_rfl) (by kernel_rfl) (by kernel_rfl) (fun _ _ _ _ _ h=>h) .n (dD Z U22) ?_
     refine bO 7 [9] ⟨?_,⟨?_,trivial⟩⟩
     ·
      refine bz Z<|bH Ls.length .n Z Z Z (by omega) U22 cD c3 fun v4=>au<|bw<|bo 1 Z fun hcell_=>bo 0 Z fun hcell_=>bK 8 Z (by kernel_rfl) (by kernel_rfl) (by kernel_rfl) (fun _ _ _ _ _ h=>h) .n (cN cO Z (bC Z (bn (by assumption)) (bC Z (bn (by assumption)) br)) (.cons Z (aD Li) (.cons Z (am Li) (.nil _))))<|aQ 9<|bz Z<|aW .n c8 fun b5=>au<|bw<|aQ 10<|bD Z .n (aC (l:=(kPair kVal kVal)) (u:=(v3,v4)) 0 Z Z Z bl Z Lr)<|bu (by kernel_rfl)<|bg (bm [1,2,0,3,4] (by decide) Z) ?_
      exact cS b5 v3 v4 trivial (ac Z (ac Z (ac Z aq)))<|a9<|OS.keepLe (bi (by rfl))<|OS.keep<|OS.keep<|OS.keepLe (cm (by rfl))<|OS.keep OS.nil
     ·
      refine bz Z<|aW .n c8 fun b6=>au<|bw<|aQ 7<|bz Z<|bH Ls.length .n Z Z Z (by omega) U22 cD c3 fun v7=>au<|bw<|bo 2 Z fun hcell_=>bo 0 Z fun hcell_=>bK 8 Z (by kernel_rfl) (by kernel_rfl) (by kernel_rfl) (fun _ _ _ _ _ h=>h) .n (cN cO Z (bC Z (bn (by assumption)) (bC Z (bn (by assumption)) br)) (.cons Z (aD Li) (.cons Z (am Li) (.nil _))))<|aQ 10<|bD Z .n (aC (l:=(kPair kVal kVal)) (u:=(v3,v7)) 1 Z Z Z bl Z Lr)<|bu (by kernel_rfl)<|bg (bm [0,2,1,3,4] (by decide) Z) ?_
      exact cS b6 v3 v7 trivial (ac Z (ac Z (ac Z aq)))<|a9<|OS.keepLe (bi (by rfl))<|OS.keep<|OS.keep<|OS.keepLe (cm (by rfl))<|OS.keep OS.nil
    ·
     refine bz Z<|aW .n c8 fun b8=>au<|bw<|aQ 5<|aT Z .n (ae (p:=kMC.is Ls) Z (ag 3 Z) (am Li) bf Z)<|bK 6 Z (by kernel_rfl) (by kernel_rfl) (by kernel_rfl) (fun _ _ _ _ _ h=>h) .n (dD Z U22)<|aQ 7<|bz Z<|bH Ls.length .n Z Z Z (by omega) U22 cD c3 fun v9=>au<|bw<|bo 2 Z fun hcell_=>bo 0 Z fun hcell_=>bK 8 Z (by kernel_rfl) (by kernel_rfl) (by kernel_rfl) (fun _ _ _ _ _ h=>h) .n (cN cO Z (bC Z (bn (by assumption)) (bC Z (bn (by assumption)) br)) (.cons Z (aD Li) (.cons Z (am Li) (.nil _))))<|aQ 10<|bD Z .n (aC (l:=(kPair kVal kVal)) (u:=(v3,v9)) 1 Z Z Z bl Z Lr)<|bu (by kernel_rfl)<|bg (bm [0,2,1,3,4] (by decide) Z) ?_
     exact cS b8 v3 v9 trivial (ac Z (ac Z (ac Z aq)))<|a9<|OS.keepLe (bi (by rfl))<|OS.keep<|OS.keep<|OS.keepLe (cm (by rfl))<|OS.keep OS.nil
   ·
    refine aT Z .n (ae (p:=kMC.is Ls) Z (ag 1 Z) (am Li) bf Z)<|bK 6 Z (by kernel_rfl) (by kernel_rfl) (by kernel_rfl) (fun _ _ _ _ _ h=>h) .n (dD Z U22) ?_
    refine bO 3 [7,9] ⟨?_,⟨?_,⟨?_,trivial⟩⟩⟩
    ·
     refine bz Z<|bH D.length .n Z Z Z (by omega) U23 bv bd fun v10=>au<|bw ?_
     refine bO 7 [9] ⟨?_,⟨?_,trivial⟩⟩
     ·
      refine bz Z<|bH Ls.length .n Z Z Z (by omega) U22 cD c3 fun v11=>au<|bw<|bo 1 Z fun hcell_=>bo 0 Z fun hcell_=>bK 8 Z (by kernel_rfl) (by kernel_rfl) (by kernel_rfl) (fun _ _ _ _ _ h=>h) .n (cN cO Z (bC Z (bn (by assumption)) (bC Z (bn (by assumption)) br)) (.cons Z (aD Li) (.cons Z (am Li) (.nil _))))<|aQ 9<|bz Z<|aW .n c8 fun b12=>au<|bw<|aQ 10<|bD Z .n (aC (l:=(kPair kVal kVal)) (u:=(v10,v11)) 0 Z Z Z bl Z Lr)<|bu (by kernel_rfl)<|bg (bm [1,2,0,3,4] (by decide) Z) ?_
      exact cS b12 v10 v11 trivial (ac Z (ac Z (ac Z aq)))<|a9<|OS.keepLe (bi (by rfl))<|OS.keep<|OS.keep<|OS.keepLe (cm (by rfl))<|OS.keep OS.nil
     ·
      refine bz Z<|aW .n c8 fun b13=>au<|bw<|aQ 7<|bz Z<|bH Ls.length .n Z Z Z (by omega) U22 cD c3 fun v14=>au<|bw<|bo 2 Z fun hcell_=>bo 0 Z fun hcell_=>bK 8 Z (by kernel_rfl) (by kernel_rfl) (by kernel_rfl) (fun _ _ _ _ _ h=>h) .n (cN cO Z (bC Z (bn (by assumption)) (bC Z (bn (by assumption)) br)) (.cons Z (aD Li) (.cons Z (am Li) (.nil _))))<|aQ 10<|bD Z .n (aC (l:=(kPair kVal kVal)) (u:=(v10,v14)) 1 Z Z Z bl Z Lr)<|bu (by kernel_rfl)<|bg (bm [0,2,1,3,4] (by decide) Z) ?_
      exact cS b13 v10 v14 trivial (ac Z (ac Z (ac Z aq)))<|a9<|OS.keepLe (bi (by rfl))<|OS.keep<|OS.keep<|OS.keepLe (cm (by rfl))<|OS.keep OS.nil
    ·
     refine bz Z<|bH Ls.length .n Z Z Z (by omega) U22 cD c3 fun v15=>au<|bw ?_
     refine bO 3 [9] ⟨?_,⟨?_,trivial⟩⟩
     ·
      refine bz Z<|bH D.length .n Z Z Z (by omega) U23 bv bd fun v16=>au<|bw<|bo 0 Z fun hcell_=>bo 1 Z fun hcell_=>bK 8 Z (by kernel_rfl) (by kernel_rfl) (by kernel_rfl) (fun _ _ _ _ _ h=>h) .n (cN cO Z (bC Z (bn (by assumption)) (bC Z (bn (by assumption)) br)) (.cons Z (aD Li) (.cons Z (am Li) (.nil _))))<|aQ 9<|bz Z<|aW .n c8 fun b17=>au<|bw<|aQ 10<|bD Z .n (aC (l:=(kPair kVal kVal)) (u:=(v16,v15)) 0 Z Z Z bl Z Lr)<|bu (by kernel_rfl)<|bg (bm [2,1,0,3,4] (by decide) Z) ?_
      exact cS b17 v16 v15 trivial (ac Z (ac Z (ac Z aq)))<|a9<|OS.keepLe (bi (by rfl))<|OS.keep<|OS.keep<|OS.keepLe (cm (by rfl))<|OS.keep OS.nil
     ·
      refine bz Z<|aW .n c8 fun b18=>au<|bw<|aQ 3<|bz Z<|bH D.length .n Z Z Z (by omega) U23 bv bd fun v19=>au<|bw<|bo 0 Z fun hcell_=>bo 2 Z fun hcell_=>bK 8 Z (by kernel_rfl) (by kernel_rfl) (by kernel_rfl) (fun _ _ _ _ _ h=>h) .n (cN cO Z (bC Z (bn (by assumption)) (bC Z (bn (by assumption)) br)) (.cons Z (aD Li) (.cons Z (am Li) (.nil _))))<|aQ 10<|bD Z .n (aC (l:=(kPair kVal kVal)) (u:=(v19,v15)) 1 Z Z Z bl Z Lr)<|bu (by kernel_rfl)<|bg (bm [2,0,1,3,4] (by decide) Z) ?_
      exact cS b18 v19 v15 trivial (ac Z (ac Z (ac Z aq)))<|a9<|OS.keepLe (bi (by rfl))<|OS.keep<|OS.keep<|OS.keepLe (cm (by rfl))<|OS.keep OS.nil
    ·
     refine bz Z<|aW .n c8 fun b20=>au<|bw ?_
     refine bO 3 [7] ⟨?_,⟨?_,trivial⟩⟩
     ·
      refine bz Z<|bH D.length .n Z Z Z (by omega) U23 bv bd fun v21=>au<|bw<|aQ 7<|bz Z<|bH Ls.length .n Z Z Z (by omega) U22 cD c3 fun v22=>au<|bw<|bo 1 Z fun hcell_=>bo 0 Z fun hcell_=>bK 8 Z (by kernel_rfl) (by kernel_rfl) (by kernel_rfl) (fun _ _ _ _ _ h=>h) .n (cN cO Z (bC Z (bn (by assumption)) (bC Z (bn (by assumption)) br)) (.cons Z (aD Li) (.cons Z (am Li) (.nil _))))<|aQ 10<|bD Z .n (aC (l:=(kPair kVal kVal)) (u:=(v21,v22)) 2 Z Z Z bl Z Lr)<|bu (by kernel_rfl)<|bg (bm [0,1,2,3,4] (by decide) Z) ?_
      exact cS b20 v21 v22 trivial (ac Z (ac Z (ac Z aq)))<|a9<|OS.keepLe (bi (by rfl))<|OS.keep<|OS.keep<|OS.keepLe (cm (by rfl))<|OS.keep OS.nil
     ·
      refine bz Z<|bH Ls.length .n Z Z Z (by omega) U22 cD c3 fun v23=>au<|bw<|aQ 3<|bz Z<|bH D.length .n Z Z Z (by omega) U23 bv bd fun v24=>au<|bw<|bo 0 Z fun hcell_=>bo 1 Z fun hcell_=>bK 8 Z (by kernel_rfl) (by kernel_rfl) (by kernel_rfl) (fun _ _ _ _ _ h=>h) .n (cN cO Z (bC Z (bn (by assumption)) (bC Z (bn (by assumption)) br)) (.cons Z (aD Li) (.cons Z (am Li) (.nil _))))<|aQ 10<|bD Z .n (aC (l:=(kPair kVal kVal)) (u:=(v24,v23)) 2 Z Z Z bl Z Lr)<|bu (by kernel_rfl)<|bg (bm [1,0,2,3,4] (by decide) Z) ?_
      exact cS b20 v24 v23 trivial (ac Z (ac Z (ac Z aq)))<|a9<|OS.keepLe (bi (by rfl))<|OS.keep<|OS.keep<|OS.keepLe (cm (by rfl))<|OS.keep OS.nil
   ·
    refine bz Z<|aW .n c8 fun b25=>au<|bw ?_
    refine bO 3 [5] ⟨?_,⟨?_,trivial⟩⟩
    ·
     refine bz Z<|bH D.length .n Z Z Z (by omega) U23 bv bd fun v26=>au<|bw<|aQ 5<|aT Z .n (ae (p:=kMC.is Ls) Z (ag 3 Z) (am Li) bf Z)<|bK 6 Z (by kernel_rfl) (by kernel_rfl) (by kernel_rfl) (fun _ _ _ _ _ h=>h) .n (dD Z U22)<|aQ 7<|bz Z<|bH Ls.length .n Z Z Z (by omega) U22 cD c3 fun v27=>au<|bw<|bo 1 Z fun hcell_=>bo 0 Z fun hcell_=>bK 8 Z (by kernel_rfl) (by kernel_rfl) (by kernel_rfl) (fun _ _ _ _ _ h=>h) .n (cN cO Z (bC Z (bn (by assumption)) (bC Z (bn (by assumption)) br)) (.cons Z (aD Li) (.cons Z (am Li) (.nil _))))<|aQ 10<|bD Z .n (aC (l:=(kPair kVal kVal)) (u:=(v26,v27)) 2 Z Z Z bl Z Lr)<|bu (by kernel_rfl)<|bg (bm [0,1,2,3,4] (by decide) Z) ?_
     exact cS b25 v26 v27 trivial (ac Z (ac Z (ac Z aq)))<|a9<|OS.keepLe (bi (by rfl))<|OS.keep<|OS.keep<|OS.keepLe (cm (by rfl))<|OS.keep OS.nil
    ·
     refine aT Z .n (ae (p:=kMC.is Ls) Z (ag 2 Z) (am Li) bf Z)<|bK 6 Z (by kernel_rfl) (by kernel_rfl) (by kernel_rfl) (fun _ _ _ _ _ h=>h) .n (dD Z U22) ?_
     refine bO 3 [7] ⟨?_,⟨?_,trivial⟩⟩
     ·
      refine bz Z<|bH D.length .n Z Z Z (by omega) U23 bv bd fun v28=>au<|bw<|aQ 7<|bz Z<|bH Ls.length .n Z Z Z (by omega) U22 cD c3 fun v29=>au<|bw<|bo 1 Z fun hcell_=>bo 0 Z fun hcell_=>bK 8 Z (by kernel_rfl) (by kernel_rfl) (by kernel_rfl) (fun _ _ _ _ _ h=>h) .n (cN cO Z (bC Z (bn (by assumption)) (bC Z (bn (by assumption)) br)) (.cons Z (aD Li) (.cons Z (am Li) (.nil _))))<|aQ 10<|bD Z .n (aC (l:=(kPair kVal kVal)) (u:=(v28,v29)) 2 Z Z Z bl Z Lr)<|bu (by kernel_rfl)<|bg (bm [0,1,2,3,4] (by decide) Z) ?_
      exact cS b25 v28 v29 trivial (ac Z (ac Z (ac Z aq)))<|a9<|OS.keepLe (bi (by rfl))<|OS.keep<|OS.keep<|OS.keepLe (cm (by rfl))<|OS.keep OS.nil
     ·
      refine bz Z<|bH Ls.length .n Z Z Z (by omega) U22 cD c3 fun v30=>au<|bw<|aQ 3<|bz Z<|bH D.length .n Z Z Z (by omega) U23 bv bd fun v31=>au<|bw<|bo 0 Z fun hcell_=>bo 1 Z fun hcell_=>bK 8 Z (by kernel_rfl) (by kernel_rfl) (by kernel_rfl) (fun _ _ _ _ _ h=>h) .n (cN cO Z (bC Z (bn (by assumption)) (bC Z (bn (by assumption)) br)) (.cons Z (aD Li) (.cons Z (am Li) (.nil _))))<|aQ 10<|bD Z .n (aC (l:=(kPair kVal kVal)) (u:=(v31,v30)) 2 Z Z Z bl Z Lr)<|bu (by kernel_rfl)<|bg (bm [1,0,2,3,4] (by decide) Z) ?_
      exact cS b25 v31 v30 trivial (ac Z (ac Z (ac Z aq)))<|a9<|OS.keepLe (bi (by rfl))<|OS.keep<|OS.keep<|OS.keepLe (cm (by rfl))<|OS.keep OS.nil
  ·
   refine aT Z .n (ae (p:=kMC.is Ls) Z (ag 1 Z) (am Li) bf Z)<|bK 6 Z (by kernel_rfl) (by kernel_rfl) (by kernel_rfl) (fun _ _ _ _ _ h=>h) .n (dD Z U22) ?_
   refine bO 1 [7,9] ⟨?_,⟨?_,⟨?_,trivial⟩⟩⟩
   ·
    refine aT Z .n (ae (p:=kVC.is D) Z (ag 1 Z) (aD Li) aK Z)<|bK 2 Z (by kernel_rfl) (by kernel_rfl) (by kernel_rfl) (fun _ _ _ _ _ h=>h) .n (dD Z U23) ?_
    refine bO 3 [7,9] ⟨?_,⟨?_,⟨?_,trivial⟩⟩⟩
    ·
     refine bz Z<|bH D.length .n Z Z Z (by omega) U23 bv bd fun v32=>au<|bw ?_
     refine bO 7 [9] ⟨?_,⟨?_,trivial⟩⟩
     ·
      refine bz Z<|bH Ls.length .n Z Z Z (by omega) U22 cD c3 fun v33=>au<|bw<|bo 1 Z fun hcell_=>bo 0 Z fun hcell_=>bK 8 Z (by kernel_rfl) (by kernel_rfl) (by kernel_rfl) (fun _ _ _ _ _ h=>h) .n (cN cO Z (bC Z (bn (by assumption)) (bC Z (bn (by assumption)) br)) (.cons Z (aD Li) (.cons Z (am Li) (.nil _))))<|aQ 9<|bz Z<|aW .n c8 fun b34=>au<|bw<|aQ 10<|bD Z .n (aC (l:=(kPair kVal kVal)) (u:=(v32,v33)) 0 Z Z Z bl Z Lr)<|bu (by kernel_rfl)<|bg (bm [1,2,0,3,4] (by decide) Z) ?_
      exact cS b34 v32 v33 trivial (ac Z (ac Z (ac Z aq)))<|a9<|OS.keepLe (bi (by rfl))<|OS.keep<|OS.keep<|OS.keepLe (cm (by rfl))<|OS.keep OS.nil
     ·
      refine bz Z<|aW .n c8 fun b35=>au<|bw<|aQ 7<|bz Z<|bH Ls.length .n Z Z Z (by omega) U22 cD c3 fun v36=>au<|bw<|bo 2 Z fun hcell_=>bo 0 Z fun hcell_=>bK 8 Z (by kernel_rfl) (by kernel_rfl) (by kernel_rfl) (fun _ _ _ _ _ h=>h) .n (cN cO Z (bC Z (bn (by assumption)) (bC Z (bn (by assumption)) br)) (.cons Z (aD Li) (.cons Z (am Li) (.nil _))))<|aQ 10<|bD Z .n (aC (l:=(kPair kVal kVal)) (u:=(v32,v36)) 1 Z Z Z bl Z Lr)<|bu (by kernel_rfl)<|bg (bm [0,2,1,3,4] (by decide) Z) ?_
      exact cS b35 v32 v36 trivial (ac Z (ac Z (ac Z aq)))<|a9<|OS.keepLe (bi (by rfl))<|OS.keep<|OS.keep<|OS.keepLe (cm (by rfl))<|OS.keep OS.nil
    ·
     refine bz Z<|bH Ls.length .n Z Z Z (by omega) U22 cD c3 fun v37=>au<|bw ?_
     refine bO 3 [9] ⟨?_,⟨?_,trivial⟩⟩
     ·
      refine bz Z<|bH D.length .n Z Z Z (by omega) U23 bv bd fun v38=>au<|bw<|bo 0 Z fun hcell_=>bo 1 Z fun hcell_=>bK 8 Z (by kernel_rfl) (by kernel_rfl) (by kernel_rfl) (fun _ _ _ _ _ h=>h) .n (cN cO Z (bC Z (bn (by assumption)) (bC Z (bn (by assumption)) br)) (.cons Z (aD Li) (.cons Z (am Li) (.nil _))))<|aQ 9<|bz Z<|aW .n c8 fun b39=>au<|bw<|aQ 10<|bD Z .n (aC (l:=(kPair kVal kVal)) (u:=(v38,v37)) 0 Z Z Z bl Z Lr)<|bu (by kernel_rfl)<|bg (bm [2,1,0,3,4] (by decide) Z) ?_
      exact cS b39 v38 v37 trivial (ac Z (ac Z (ac Z aq)))<|a9<|OS.keepLe (bi (by rfl))<|OS.keep<|OS.keep<|OS.keepLe (cm (by rfl))<|OS.keep OS.nil
     ·
      refine bz Z<|aW .n c8 fun b40=>au<|bw<|aQ 3<|bz Z<|bH D.length .n Z Z Z (by omega) U23 bv bd fun v41=>au<|bw<|bo 0 Z fun hcell_=>bo 2 Z fun hcell_=>bK 8 Z (by kernel_rfl) (by kernel_rfl) (by kernel_rfl) (fun _ _ _ _ _ h=>h) .n (cN cO Z (bC Z (bn (by assumption)) (bC Z (bn (by assumption)) br)) (.cons Z (aD Li) (.cons Z (am Li) (.nil _))))<|aQ 10<|bD Z .n (aC (l:=(kPair kVal kVal)) (u:=(v41,v37)) 1 Z Z Z bl Z Lr)<|bu (by kernel_rfl)<|bg (bm [2,0,1,3,4] (by decide) Z) ?_
      exact cS b40 v41 v37 trivial (ac Z (ac Z (ac Z aq)))<|a9<|OS.keepLe (bi (by rfl))<|OS.keep<|OS.keep<|OS.keepLe (cm (by rfl))<|OS.keep OS.nil
    ·
     refine bz Z<|aW .n c8 fun b42=>au<|bw ?_
     refine bO 3 [7] ⟨?_,⟨?_,trivial⟩⟩
     ·
      refine bz Z<|bH D.length .n Z Z Z (by omega) U23 bv bd fun v43=>au<|bw<|aQ 7<|bz Z<|bH Ls.length .n Z Z Z (by omega) U22 cD c3 fun v44=>au<|bw<|bo 1 Z fun hcell_=>bo 0 Z fun hcell_=>bK 8 Z (by kernel_rfl) (by kernel_rfl) (by kernel_rfl) (fun _ _ _ _ _ h=>h) .n (cN cO Z (bC Z (bn (by assumption)) (bC Z (bn (by assumption)) br)) (.cons Z (aD Li) (.cons Z (am Li) (.nil _))))<|aQ 10<|bD Z .n (aC (l:=(kPair kVal kVal)) (u:=(v43,v44)) 2 Z Z Z bl Z Lr)<|bu (by kernel_rfl)<|bg (bm [0,1,2,3,4] (by decide) Z) ?_
      exact cS b42 v43 v44 trivial (ac Z (ac Z (ac Z aq)))<|a9<|OS.keepLe (bi (by rfl))<|OS.keep<|OS.keep<|OS.keepLe (cm (by rfl))<|OS.keep OS.nil
     ·
      refine bz Z<|bH Ls.length .n Z Z Z (by omega) U22 cD c3 fun v45=>au<|bw<|aQ 3<|bz Z<|bH D.length .n Z Z Z (by omega) U23 bv bd fun v46=>au<|bw<|bo 0 Z fun hcell_=>bo 1 Z fun hcell_=>bK 8 Z (by kernel_rfl) (by kernel_rfl) (by kernel_rfl) (fun _ _ _ _ _ h=>h) .n (cN cO Z (bC Z (bn (by assumption)) (bC Z (bn (by assumption)) br)) (.cons Z (aD Li) (.cons Z (am Li) (.nil _))))<|aQ 10<|bD Z .n (aC (l:=(kPair kVal kVal)) (u:=(v46,v45)) 2 Z Z Z bl Z Lr)<|bu (by kernel_rfl)<|bg (bm [1,0,2,3,4] (by decide) Z) ?_
      exact cS b42 v46 v45 trivial (ac Z (ac Z (ac Z aq)))<|a9<|OS.keepLe (bi (by rfl))<|OS.keep<|OS.keep<|OS.keepLe (cm (by rfl))<|OS.keep OS.nil
   ·
    refine bz Z<|bH Ls.length .n Z Z Z (by omega) U22 cD c3 fun v47=>au<|bw ?_
    refine bO 1 [9] ⟨?_,⟨?_,trivial⟩⟩
    ·
     refine aT Z .n (ae (p:=kVC.is D) Z (ag 2 Z) (aD Li) aK Z)<|bK 2 Z (by kernel_rfl) (by kernel_rfl) (by kernel_rfl) (fun _ _ _ _ _ h=>h) .n (dD Z U23) ?_
     refine bO 3 [9] ⟨?_,⟨?_,trivial⟩⟩
     ·
      refine bz Z<|bH D.length .n Z Z Z (by omega) U23 bv bd fun v48=>au<|bw<|bo 0 Z fun hcell_=>bo 1 Z fun hcell_=>bK 8 Z (by kernel_rfl) (by kernel_rfl) (by kernel_rfl) (fun _ _ _ _ _ h=>h) .n (cN cO Z (bC Z (bn (by assumption)) (bC Z (bn (by assumption)) br)) (.cons Z (aD Li) (.cons Z (am Li) (.nil _))))<|aQ 9<|bz Z<|aW .n c8 fun b49=>au<|bw<|aQ 10<|bD Z .n (aC (l:=(kPair kVal kVal)) (u:=(v48,v47)) 0 Z Z Z bl Z Lr)<|bu (by kernel_rfl)<|bg (bm [2,1,0,3,4] (by decide) Z) ?_
      exact cS b49 v48 v47 trivial (ac Z (ac Z (ac Z aq)))<|a9<|OS.keepLe (bi (by rfl))<|OS.keep<|OS.keep<|OS.keepLe (cm (by rfl))<|OS.keep OS.nil
     ·
      refine bz Z<|aW .n c8 fun b50=>au<|bw<|aQ 3<|bz Z<|bH D.length .n Z Z Z (by omega) U23 bv bd fun v51=>au<|bw<|bo 0 Z fun hcell_=>bo 2 Z fun hcell_=>bK 8 Z (by kernel_rfl) (by kernel_rfl) (by kernel_rfl) (fun _ _ _ _ _ h=>h) .n (cN cO Z (bC Z (bn (by assumption)) (bC Z (bn (by assumption)) br)) (.cons Z (aD Li) (.cons Z (am Li) (.nil _))))<|aQ 10<|bD Z .n (aC (l:=(kPair kVal kVal)) (u:=(v51,v47)) 1 Z Z Z bl Z Lr)<|bu (by kernel_rfl)<|bg (bm [2,0,1,3,4] (by decide) Z) ?_
      exact cS b50 v51 v47 trivial (ac Z (ac Z (ac Z aq)))<|a9<|OS.keepLe (bi (by rfl))<|OS.keep<|OS.keep<|OS.keepLe (cm (by rfl))<|OS.keep OS.nil
    ·
     refine bz Z<|aW .n c8 fun b52=>au<|bw<|aQ 1<|aT Z .n (ae (p:=kVC.is D) Z (ag 3 Z) (aD Li) aK Z)<|bK 2 Z (by kernel_rfl) (by kernel_rfl) (by kernel_rfl) (fun _ _ _ _ _ h=>h) .n (dD Z U23)<|aQ 3<|bz Z<|bH D.length .n Z Z Z (by omega) U23 bv bd fun v53=>au<|bw<|bo 0 Z fun hcell_=>bo 2 Z fun hcell_=>bK 8 Z (by kernel_rfl) (by kernel_rfl) (by kernel_rfl) (fun _ _ _ _ _ h=>h) .n (cN cO Z (bC Z (bn (by assumption)) (bC Z (bn (by assumption)) br)) (.cons Z (aD Li) (.cons Z (am Li) (.nil _))))<|aQ 10<|bD Z .n (aC (l:=(kPair kVal kVal)) (u:=(v53,v47)) 1 Z Z Z bl Z Lr)<|bu (by kernel_rfl)<|bg (bm [2,0,1,3,4] (by decide) Z) ?_
     exact cS b52 v53 v47 trivial (ac Z (ac Z (ac Z aq)))<|a9<|OS.keepLe (bi (by rfl))<|OS.keep<|OS.keep<|OS.keepLe (cm (by rfl))<|OS.keep OS.nil
   ·
    refine bz Z<|aW .n c8 fun b54=>au<|bw ?_
    refine bO 1 [7] ⟨?_,⟨?_,trivial⟩⟩
    ·
     refine aT Z .n (ae (p:=kVC.is D) Z (ag 2 Z) (aD Li) aK Z)<|bK 2 Z (by kernel_rfl) (by kernel_rfl) (by kernel_rfl) (fun _ _ _ _ _ h=>h) .n (dD Z U23) ?_
     refine bO 3 [7] ⟨?_,⟨?_,trivial⟩⟩
     ·
      refine bz Z<|bH D.length .n Z Z Z (by omega) U23 bv bd fun v55=>au<|bw<|aQ 7<|bz Z<|bH Ls.length .n Z Z Z (by omega) U22 cD c3 fun v56=>au<|bw<|bo 1 Z fun hcell_=>bo 0 Z fun hcell_=>bK 8 Z (by kernel_rfl) (by kernel_rfl) (by kernel_rfl) (fun _ _ _ _ _ h=>h) .n (cN cO Z (bC Z (bn (by assumption)) (bC Z (bn (by assumption)) br)) (.cons Z (aD Li) (.cons Z (am Li) (.nil _))))<|aQ 10<|bD Z .n (aC (l:=(kPair kVal kVal)) (u:=(v55,v56)) 2 Z Z Z bl Z Lr)<|bu (by kernel_rfl)<|bg (bm [0,1,2,3,4] (by decide) Z) ?_
      exact cS b54 v55 v56 trivial (ac Z (ac Z (ac Z aq)))<|a9<|OS.keepLe (bi (by rfl))<|OS.keep<|OS.keep<|OS.keepLe (cm (by rfl))<|OS.keep OS.nil
     ·
      refine bz Z<|bH Ls.length .n Z Z Z (by omega) U22 cD c3 fun v57=>au<|bw<|aQ 3<|bz Z<|bH D.length .n Z Z Z (by omega) U23 bv bd fun v58=>au<|bw<|bo 0 Z fun hcell_=>bo 1 Z fun hcell_=>bK 8 Z (by kernel_rfl) (by kernel_rfl) (by kernel_rfl) (fun _ _ _ _ _ h=>h) .n (cN cO Z (bC Z (bn (by assumption)) (bC Z (bn (by assumption)) br)) (.cons Z (aD Li) (.cons Z (am Li) (.nil _))))<|aQ 10<|bD Z .n (aC (l:=(kPair kVal kVal)) (u:=(v58,v57)) 2 Z Z Z bl Z Lr)<|bu (by kernel_rfl)<|bg (bm [1,0,2,3,4] (by decide) Z) ?_
      exact cS b54 v58 v57 trivial (ac Z (ac Z (ac Z aq)))<|a9<|OS.keepLe (bi (by rfl))<|OS.keep<|OS.keep<|OS.keepLe (cm (by rfl))<|OS.keep OS.nil
    ·
     refine bz Z<|bH Ls.length .n Z Z Z (by omega) U22 cD c3 fun v59=>au<|bw<|aQ 1<|aT Z .n (ae (p:=kVC.is D) Z (ag 3 Z) (aD Li) aK Z)<|bK 2 Z (by kernel_rfl) (by kernel_rfl) (by kernel_rfl) (fun _ _ _ _ _ h=>h) .n (dD Z U23)<|aQ 3<|bz Z<|bH D.length .n Z Z Z (by omega) U23 bv bd fun v60=>au<|bw<|bo 0 Z fun hcell_=>bo 1 Z fun hcell_=>bK 8 Z (by kernel_rfl) (by kernel_rfl) (by kernel_rfl) (fun _ _ _ _ _ h=>h) .n (cN cO Z (bC Z (bn (by assumption)) (bC Z (bn (by assumption)) br)) (.cons Z (aD Li) (.cons Z (am Li) (.nil _))))<|aQ 10<|bD Z .n (aC (l:=(kPair kVal kVal)) (u:=(v60,v59)) 2 Z Z Z bl Z Lr)<|bu (by kernel_rfl)<|bg (bm [1,0,2,3,4] (by decide) Z) ?_
     exact cS b54 v60 v59 trivial (ac Z (ac Z (ac Z aq)))<|a9<|OS.keepLe (bi (by rfl))<|OS.keep<|OS.keep<|OS.keepLe (cm (by rfl))<|OS.keep OS.nil
  ·
   refine bz Z<|aW .n c8 fun b61=>au<|bw ?_
   refine bO 1 [5] ⟨?_,⟨?_,trivial⟩⟩
   ·
    refine aT Z .n (ae (p:=kVC.is D) Z (ag 2 Z) (aD Li) aK Z)<|bK 2 Z (by kernel_rfl) (by kernel_rfl) (by kernel_rfl) (fun _ _ _ _ _ h=>h) .n (dD Z U23) ?_
    refine bO 3 [5] ⟨?_,⟨?_,trivial⟩⟩
    ·
     refine bz Z<|bH D.length .n Z Z Z (by omega) U23 bv bd fun v62=>au<|bw<|aQ 5<|aT Z .n (ae (p:=kMC.is Ls) Z (ag 3 Z) (am Li) bf Z)<|bK 6 Z (by kernel_rfl) (by kernel_rfl) (by kernel_rfl) (fun _ _ _ _ _ h=>h) .n (dD Z U22)<|aQ 7<|bz Z<|bH Ls.length .n Z Z Z (by omega) U22 cD c3 fun v63=>au<|bw<|bo 1 Z fun hcell_=>bo 0 Z fun hcell_=>bK 8 Z (by kernel_rfl) (by kernel_rfl) (by kernel_rfl) (fun _ _ _ _ _ h=>h) .n (cN cO Z (bC Z (bn (by assumption)) (bC Z (bn (by assumption)) br)) (.cons Z (aD Li) (.cons Z (am Li) (.nil _))))<|aQ 10<|bD Z .n (aC (l:=(kPair kVal kVal)) (u:=(v62,v63)) 2 Z Z Z bl Z Lr)<|bu (by kernel_rfl)<|bg (bm [0,1,2,3,4] (by decide) Z) ?_
     exact cS b61 v62 v63 trivial (ac Z (ac Z (ac Z aq)))<|a9<|OS.keepLe (bi (by rfl))<|OS.keep<|OS.keep<|OS.keepLe (cm (by rfl))<|OS.keep OS.nil
    ·
     refine aT Z .n (ae (p:=kMC.is Ls) Z (ag 2 Z) (am Li) bf Z)<|bK 6 Z (by kernel_rfl) (by kernel_rfl) (by kernel_rfl) (fun _ _ _ _ _ h=>h) .n (dD Z U22) ?_
     refine bO 3 [7] ⟨?_,⟨?_,trivial⟩⟩
     ·
      refine bz Z<|bH D.length .n Z Z Z (by omega) U23 bv bd fun v64=>au<|bw<|aQ 7<|bz Z<|bH Ls.length .n Z Z Z (by omega) U22 cD c3 fun v65=>au<|bw<|bo 1 Z fun hcell_=>bo 0 Z fun hcell_=>bK 8 Z (by kernel_rfl) (by kernel_rfl) (by kernel_rfl) (fun _ _ _ _ _ h=>h) .n (cN cO Z (bC Z (bn (by assumption)) (bC Z (bn (by assumption)) br)) (.cons Z (aD Li) (.cons Z (am Li) (.nil _))))<|aQ 10<|bD Z .n (aC (l:=(kPair kVal kVal)) (u:=(v64,v65)) 2 Z Z Z bl Z Lr)<|bu (by kernel_rfl)<|bg (bm [0,1,2,3,4] (by decide) Z) ?_
      exact cS b61 v64 v65 trivial (ac Z (ac Z (ac Z aq)))<|a9<|OS.keepLe (bi (by rfl))<|OS.keep<|OS.keep<|OS.keepLe (cm (by rfl))<|OS.keep OS.nil
     ·
      refine bz Z<|bH Ls.length .n Z Z Z (by omega) U22 cD c3 fun v66=>au<|bw<|aQ 3<|bz Z<|bH D.length .n Z Z Z (by omega) U23 bv bd fun v67=>au<|bw<|bo 0 Z fun hcell_=>bo 1 Z fun hcell_=>bK 8 Z (by kernel_rfl) (by kernel_rfl) (by kernel_rfl) (fun _ _ _ _ _ h=>h) .n (cN cO Z (bC Z (bn (by assumption)) (bC Z (bn (by assumption)) br)) (.cons Z (aD Li) (.cons Z (am Li) (.nil _))))<|aQ 10<|bD Z .n (aC (l:=(kPair kVal kVal)) (u:=(v67,v66)) 2 Z Z Z bl Z Lr)<|bu (by kernel_rfl)<|bg (bm [1,0,2,3,4] (by decide) Z) ?_
      exact cS b61 v67 v66 trivial (ac Z (ac Z (ac Z aq)))<|a9<|OS.keepLe (bi (by rfl))<|OS.keep<|OS.keep<|OS.keepLe (cm (by rfl))<|OS.keep OS.nil
   ·
    refine aT Z .n (ae (p:=kMC.is Ls) Z (ag 2 Z) (am Li) bf Z)<|bK 6 Z (by kernel_rfl) (by kernel_rfl) (by kernel_rfl) (fun _ _ _ _ _ h=>h) .n (dD Z U22) ?_
    refine bO 1 [7] ⟨?_,⟨?_,trivial⟩⟩
    ·
     refine aT Z .n (ae (p:=kVC.is D) Z (ag 2 Z) (aD Li) aK Z)<|bK 2 Z (by kernel_rfl) (by kernel_rfl) (by kernel_rfl) (fun _ _ _ _ _ h=>h) .n (dD Z U23) ?_
     refine bO 3 [7] ⟨?_,⟨?_,trivial⟩⟩
     ·
      refine bz Z<|bH D.length .n Z Z Z (by omega) U23 bv bd fun v68=>au<|bw<|aQ 7<|bz Z<|bH Ls.length .n Z Z Z (by omega) U22 cD c3 fun v69=>au<|bw<|bo 1 Z fun hcell_=>bo 0 Z fun hcell_=>bK 8 Z (by kernel_rfl) (by kernel_rfl) (by kernel_rfl) (fun _ _ _ _ _ h=>h) .n (cN cO Z (bC Z (bn (by assumption)) (bC Z (bn (by assumption)) br)) (.cons Z (aD Li) (.cons Z (am Li) (.nil _))))<|aQ 10<|bD Z .n (aC (l:=(kPair kVal kVal)) (u:=(v68,v69)) 2 Z Z Z bl Z Lr)<|bu (by kernel_rfl)<|bg (bm [0,1,2,3,4] (by decide) Z) ?_
      exact cS b61 v68 v69 trivial (ac Z (ac Z (ac Z aq)))<|a9<|OS.keepLe (bi (by rfl))<|OS.keep<|OS.keep<|OS.keepLe (cm (by rfl))<|OS.keep OS.nil
     ·
      refine bz Z<|bH Ls.length .n Z Z Z (by omega) U22 cD c3 fun v70=>au<|bw<|aQ 3<|bz Z<|bH D.length .n Z Z Z (by omega) U23 bv bd fun v71=>au<|bw<|bo 0 Z fun hcell_=>bo 1 Z fun hcell_=>bK 8 Z (by kernel_rfl) (by kernel_rfl) (by kernel_rfl) (fun _ _ _ _ _ h=>h) .n (cN cO Z (bC Z (bn (by assumption)) (bC Z (bn (by assumption)) br)) (.cons Z (aD Li) (.cons Z (am Li) (.nil _))))<|aQ 10<|bD Z .n (aC (l:=(kPair kVal kVal)) (u:=(v71,v70)) 2 Z Z Z bl Z Lr)<|bu (by kernel_rfl)<|bg (bm [1,0,2,3,4] (by decide) Z) ?_
      exact cS b61 v71 v70 trivial (ac Z (ac Z (ac Z aq)))<|a9<|OS.keepLe (bi (by rfl))<|OS.keep<|OS.keep<|OS.keepLe (cm (by rfl))<|OS.keep OS.nil
    ·
     refine bz Z<|bH Ls.length .n Z Z Z (by omega) U22 cD c3 fun v72=>au<|bw<|aQ 1<|aT Z .n (ae (p:=kVC.is D) Z (ag 3 Z) (aD Li) aK Z)<|bK 2 Z (by kernel_rfl) (by kernel_rfl) (by kernel_rfl) (fun _ _ _ _ _ h=>h) .n (dD Z U23)<|aQ 3<|bz Z<|bH D.length .n Z Z Z (by omega) U23 bv bd fun v73=>au<|bw<|bo 0 Z fun hcell_=>bo 1 Z fun hcell_=>bK 8 Z (by kernel_rfl) (by kernel_rfl) (by kernel_rfl) (fun _ _ _ _ _ h=>h) .n (cN cO Z (bC Z (bn (by assumption)) (bC Z (bn (by assumption)) br)) (.cons Z (aD Li) (.cons Z (am Li) (.nil _))))<|aQ 10<|bD Z .n (aC (l:=(kPair kVal kVal)) (u:=(v73,v72)) 2 Z Z Z bl Z Lr)<|bu (by kernel_rfl)<|bg (bm [1,0,2,3,4] (by decide) Z) ?_
     exact cS b61 v73 v72 trivial (ac Z (ac Z (ac Z aq)))<|a9<|OS.keepLe (bi (by rfl))<|OS.keep<|OS.keep<|OS.keepLe (cm (by rfl))<|OS.keep OS.nil
 intro pb vD vL hR
 refine ab ?_
 refine a5 (Γ:=[.fr (VP.pt pb 0),.fr (VP.ex vD),.fr (VP.pt b1 0),.fr (kVC.is D),.fr (kMC.is [D]),.fr (kMC.is [D]),.fr (VP.pim kVC D),.fr (kVC.is D)]) (aa Z (fun N=>aw Z cK Z) (aa Z (fun N=>aV (ae (p:=kVal.is vD) Z (mN N 2 Z) (aD Li) aK Z) (bc _)) (aa Z (fun N=>aw Z cK Z) (aa Z (fun N=>ae (p:=kVC.is D) Z (mN N 4 Z) (aD Li) aK Z) (aa Z (fun N=>bB U22 c6 (bV Z bA) Z (by decide)) (aa Z (fun N=>aB fn248 (aj Z (d3 (by intro r hr;rcases List.mem_cons.1 hr with rfl | hr;exact hD;cases hr)) ar) (c_mat_Form [D] (by intro r hr;rcases List.mem_cons.1 hr with rfl | hr;exact hD;cases hr))) (aa Z (fun N=>aU 0 Z Z U22 aK Z (v:=D) (by rfl)) (aa Z (fun N=>aO Z aK) oz))))))))<|fun σ2=>?_
 refine Ws (O.cp 1 Z Z Z Lr U23 bv)<|Wn<|ab<|dV (by kernel_rfl)<|bK 0 Z (by kernel_rfl) (by kernel_rfl) (by kernel_rfl) (fun _ _ _ _ _ h=>h) .n (OV.fa Z ct Z)<|bK 2 Z (by kernel_rfl) (by kernel_rfl) (by kernel_rfl) (fun _ _ _ _ _ h=>h) .n (OV.fa Z ct Z) ?_
 refine bO 1 [3] ⟨?_,⟨?_,trivial⟩⟩
 ·
  refine aT Z .n (aV (ae (p:=kVal.is vL) Z (ag 2 Z) (am Li) bf Z) (bc _))<|aQ 3<|aT Z .n (ae (p:=kMC.is Ls) Z (ag 4 Z) (am Li) bf Z)<|aQ 4<|bz Z<|cC (Li:=[]) (L:=[OB.row vL 23 kVal (List.replicate Ls.length nilV),OB.row vD 29 kC (D.take (min D.length (List.replicate D.length 0).length)++(List.replicate D.length 0).drop (min D.length (List.replicate D.length 0).length)),OB.box pb 25 (kPair kVal kVal) (vD,vL),OB.box b2 25 (kPair kVal kVal) (nilV,nilV),OB.box b1 25 kGso (D,Ls)]) .n fn248 (aj Z (d3 (hL)) ar) (c_mat_Formo Ls) fun p_ Lo_ hp_=>?_
  obtain ⟨v74,vs_t26,rfl,rfl,hx_t26⟩:=hp_
  refine au<|bw<|bL 0 Z (kp 1 Z (kp 2 Z (kp 3 Z (kp 13 Z (kp 14 Z (kp 15 Z (kp 16 Z (kp 17 Z (kp 18 Z (kp 19 Z (kp 20 Z (kp 21 Z (kp 22 Z (kp 23 Z (kp 24 Z (kp 25 Z (.hit (i:=26) Z .nil)))))))))))))))))<|aQ 5<|aT Z .n (O.cp 1 Z Z Z Lr U22 cD)<|bu (by kernel_rfl)<|cw<|Cr<|Ws (ae (p:=(kPair kVal kVal).is (vD,vL)) Z (ag 3 Z) Li bl Z)<|aE .n (aC (l:=(kPair kVal kVal)) (u:=(vD,vL)) 4 Z Z Z bl Z Lr)<|Wn<|aA<|tr 2 Z (y:=D) (fJ (by simp))<|tr 1 Z (y:=vs_t26) (fJ (by simp [hx_t26]))<|bg (bm [2,1,0,4] (by decide) Z) ?_
  exact cg (.inl Z) Z (aY Z (ag 3 Z) bl ay) (a9 (OS.keep (OS.keep (OS.keep (OS.skip OS.nil))))) ⟨vD,vL,vs_t26,Z,Z,hx_t26⟩
 ·
  refine aT Z .n (ae (p:=kMC.is Ls) Z (ag 4 Z) (am Li) bf Z) ?_
  refine bO 1 [4] ⟨?_,⟨?_,trivial⟩⟩
  ·
   refine aT Z .n (aV (ae (p:=kVal.is vL) Z (ag 2 Z) (am Li) bf Z) (bc _))<|aQ 4<|bz Z<|cC (Li:=[]) (L:=[OB.row vL 23 kVal (List.replicate Ls.length nilV),OB.row vD 29 kC (D.take (min D.length (List.replicate D.length 0).length)++(List.replicate D.length 0).drop (min D.length (List.replicate D.length 0).length)),OB.box pb 25 (kPair kVal kVal) (vD,vL),OB.box b2 25 (kPair kVal kVal) (nilV,nilV),OB.box b1 25 kGso (D,Ls)]) .n fn248 (aj Z (d3 (hL)) ar) (c_mat_Formo Ls) fun p_ Lo_ hp_=>?_
   obtain ⟨v75,vs_t26,rfl,rfl,hx_t26⟩:=hp_
   refine au<|bw<|bL 0 Z (kp 1 Z (kp 2 Z (kp 3 Z (kp 13 Z (kp 14 Z (kp 15 Z (kp 16 Z (kp 17 Z (kp 18 Z (kp 19 Z (kp 20 Z (kp 21 Z (kp 22 Z (kp 23 Z (kp 24 Z (kp 25 Z (.hit (i:=26) Z .nil)))))))))))))))))<|aQ 5<|aT Z .n (O.cp 1 Z Z Z Lr U22 cD)<|bu (by kernel_rfl)<|cw<|Cr<|Ws (ae (p:=(kPair kVal kVal).is (vD,vL)) Z (ag 3 Z) Li bl Z)<|aE .n (aC (l:=(kPair kVal kVal)) (u:=(vD,vL)) 4 Z Z Z bl Z Lr)<|Wn<|aA<|tr 2 Z (y:=D) (fJ (by simp))<|tr 1 Z (y:=vs_t26) (fJ (by simp [hx_t26]))<|bg (bm [2,1,0,4] (by decide) Z) ?_
   exact cg (.inl Z) Z (aY Z (ag 3 Z) bl ay) (a9 (OS.keep (OS.keep (OS.keep (OS.skip OS.nil))))) ⟨vD,vL,vs_t26,Z,Z,hx_t26⟩
  ·
   refine bz Z<|cC (Li:=[]) (L:=[OB.row vL 23 kVal (List.replicate Ls.length nilV),OB.row vD 29 kC (D.take (min D.length (List.replicate D.length 0).length)++(List.replicate D.length 0).drop (min D.length (List.replicate D.length 0).length)),OB.box pb 25 (kPair kVal kVal) (vD,vL),OB.box b2 25 (kPair kVal kVal) (nilV,nilV),OB.box b1 25 kGso (D,Ls)]) .n fn248 (aj Z (d3 (hL)) ar) (c_mat_Formo Ls) fun p_ Lo_ hp_=>?_
   obtain ⟨v76,vs_t26,rfl,rfl,hx_t26⟩:=hp_
   refine au<|bw<|aQ 1<|aT Z .n (aV (ae (p:=kVal.is vL) Z (ag 4 Z) (am Li) bf Z) (bc _))<|bL 0 Z (kp 1 Z (kp 2 Z (kp 3 Z (kp 13 Z (kp 14 Z (kp 15 Z (kp 16 Z (kp 17 Z (kp 18 Z (kp 19 Z (kp 20 Z (kp 21 Z (kp 22 Z (kp 23 Z (kp 24 Z (kp 25 Z (.hit (i:=26) Z .nil)))))))))))))))))<|aQ 5<|aT Z .n (O.cp 1 Z Z Z Lr U22 cD)<|bu (by kernel_rfl)<|cw<|Cr<|Ws (ae (p:=(kPair kVal kVal).is (vD,vL)) Z (ag 3 Z) Li bl Z)<|aE .n (aC (l:=(kPair kVal kVal)) (u:=(vD,vL)) 4 Z Z Z bl Z Lr)<|Wn<|aA<|tr 2 Z (y:=D) (fJ (by simp))<|tr 1 Z (y:=vs_t26) (fJ (by simp [hx_t26]))<|bg (bm [2,1,0,4] (by decide) Z) ?_
   exact cg (.inl Z) Z (aY Z (ag 3 Z) bl ay) (a9 (OS.keep (OS.keep (OS.keep (OS.skip OS.nil))))) ⟨vD,vL,vs_t26,Z,Z,hx_t26⟩
theorem c_gso_AddRow1 (vD vL:Value) (bh:Nat) (vs:List Value) (xss:List (List Int)) (i k:Nat) (q y:Int) (hi:i<vs.length) (hk:k<(xss.getD i []).length) (h1:Sm ((xss.getD i []).getD k 0)) (h2:Sm (q*y)):Con Tryz.prog 217 [kN6.is (k:Int),kZ.is y,VP.pt bh 0,VP.pim kN6 (i:Int),VP.pim kZ q] [OB.box bh 25 (kPair kVal kVal) (vD,vL),OB.row vL 23 kVal vs,OB.fam vs 29 kC xss] (fun p Lo=>p=VP.tup []∧Lo=[OB.box bh 25 (kPair kVal kVal) (vD,vL),OB.row vL 23 kVal vs,OB.fam vs 29 kC (xss.set i ((xss.getD i []).set k ((xss.getD i []).getD k 0+q*y)))]∧True):=by
 refine aN Tryz.func217 Z Z fun m w=>Cr<|aZ .n Z fun b1=>Wn ?_
 refine a5 (Γ:=[.fr (VP.pt bh 1),.fr (VP.ex vL),.fr (kN6.is (i:Int)),.fr (VP.pel vL (i*1)),.fr (VP.ex (vs.getD i nilV)),.fr (kN6.is (k:Int)),.fr (VP.pt bh 1),.fr (VP.ex vL),.fr (kN6.is (i:Int)),.fr (VP.pel vL (i*1)),.fr (VP.ex (vs.getD i nilV)),.fr (kN6.is (k:Int)),.fr (VP.pel (vs.getD i nilV) (k*2)),.fr (kC.is ((xss.getD i []).getD k 0)),.fr (kZ.is q),.fr (kZ.is y),.fr (kC.is (q*y)),.fr (kC.is (((xss.getD i []).getD k 0)+(q*y))),.fr (VP.pel (vs.getD i nilV) (k*2))]) (aa Z (fun N=>aw Z ct Z) (aa Z (fun N=>aV (ae (p:=kVal.is vL) Z (mN N 1 Z) (am Li) bf Z) (bc _)) (aa Z (fun N=>aO Z ty3) (aa Z (fun N=>bb (k:=kVal) (xs:=vs) (n:=(i:Int)) i Z Z (mN N 2 Z) U22 aK Z (by omega)) (aa Z (fun N=>aV (bp i Z (mN N 2 Z) Li Z (y:=(vs.getD i nilV)) (gd nilV (by omega)) aK Z) (bc _)) (om Z Z (aa Z (fun N=>aw Z ct Z) (aa Z (fun N=>aV (ae (p:=kVal.is vL) Z (mN N 1 Z) (am Li) bf Z) (bc _)) (aa Z (fun N=>aO Z ty3) (aa Z (fun N=>bb (k:=kVal) (xs:=vs) (n:=(i:Int)) i Z Z (mN N 2 Z) U22 aK Z (by omega)) (aa Z (fun N=>aV (bp i Z (mN N 2 Z) Li Z (y:=(vs.getD i nilV)) (gd nilV (by omega)) aK Z) (bc _)) (om Z Z (aa Z (fun N=>cZ (e:=29) (k:=kC) (xss:=xss) (n:=(k:Int)) i k Z Z (mN N 3 Z) Z (by omega) U23 af Z (by omega)) (aa Z (fun N=>dJ (k:=kC) (xss:=xss) i k Z (mN N 3 Z) Z (by omega) Li Z (y:=((xss.getD i []).getD k 0)) (gd 0 (by omega)) af Z) (aa Z (fun N=>aO Z af) (aa Z (fun N=>ae Z (mN N 0 Z) Li af Z) (aa Z (fun N=>f2 cY Z Z (cW q y)) (aa Z (fun N=>aB el (aj Z (aL (by assumption)) (aj Z (aL (by assumption)) ar)) (ed ((xss.getD i []).getD k 0) (q*y))) (aa Z (fun N=>cZ (e:=29) (k:=kC) (xss:=xss) (n:=(k:Int)) i k Z Z (mN N 3 Z) Z (by omega) U23 af Z (by omega)) oz)))))))))))))))))))<|fun σ1=>?_
 refine aE .n (d7 3 i k Z Z Z (by omega) Li Z (y0:=((xss.getD i []).getD k 0)) (gd 0 (by omega)) af Z Lr)<|au ?_
 exact cg (.inr Z) Z ay (a9 (OS.skip (OS.keep (OS.keep (OS.keepLe (ff (by rfl) (by rfl)) OS.nil))))) ⟨Z,Z,trivial⟩
theorem c_gso_AddRow (G:Nat→Nat→Int) (n B:Nat) (h0:0<n) (h12:n≤12) (hP:PosU G n) (hD:∀k,k≤n→Sz B (uD G k)) (hB:B≤68719476736) (i j:Nat) (q:Int) (hj:j<i) (hi:i<n) (hs:SymG G) (hL:∀x k,x<n→k<x→Sz B (uE G k x k)) (hq:Sz B q):Fn Tryz.prog 146 [kGso.is (gDs G n,gLs G n),kN6.is (i:Int),kN6.is (j:Int),kZ.is q] (VP.tup [kGso.is (gDs (rowI G i j q) n,gLs (rowI G i j q) n),kN6.is 0]):=by
 refine aN Tryz.func146 Z Z fun m w=>?_
 have hLl:(gLs G n).length=n:=gLs_len G n
 have hDl:(gDs G n).length=n+1:=gDs_len G n
 refine Cr<|aZ .n Z fun b1=>aZ .n Z fun b2=>aZ .n Z fun b3=>aW .n eo fun b4=>Wa Z<|Wn<|ab<|Cr<|Ws (ae (p:=kGso.is (gDs G n,gLs G n)) Z (ag 3 Z) Li bl Z)<|Ws (f1 fn133 Z (gy G n B (by assumption) (by assumption) (by assumption) (by assumption) (by assumption)))<|Ws (dh (a:=true) Z)<|Wn<|dj Z<|Ck<|ab<|Cr<|Wm Z ?_
 refine Ws (aX Z Z)<|Wm Z ?_
 refine cG 19 Z (fun h=>absurd h (by omega))<|fun h_t19=>?_
 refine Wg Z Z (cd Z)<|Wg Z Z (ae Z (ag 2 Z) Li ty3 Z)<|Wg Z Z (di Z Z)<|Ws (cb Z Z)<|Wm Z ?_
 refine cG 24 Z (fun h=>absurd h (by omega))<|fun h_t24=>?_
 refine Wg Z Z (ae Z (ag 2 Z) Li ty3 Z)<|Wg Z Z (aw Z ct Z)<|Wg Z Z (ae (p:=kMC.is (gLs G n)) Z (ag 3 Z) (am Li) bf Z)<|Wg Z Z (aJ Z U22)<|Wg Z Z (di Z Z)<|Ws (cb Z Z)<|Wn ?_
 refine CN Z (by rw [gLs_len];omega) fun h_t30=>?_
 refine Ck<|Cr<|Ws (ae (p:=kGso.is (gDs G n,gLs G n)) Z (ag 3 Z) Li bl Z)<|cC (Li:=[]) (L:=[OB.box b4 25 kGso ([],[]),OB.box b3 29 kZ q,OB.box b2 3 kN6 (i:Int),OB.box b1 25 kGso (gDs G n,gLs G n)]) .n fn216 (aS Z ar) (c_gso_fresh (gDs G n) (gLs G n) (gDs_Sm hD (by omega)) (gLs_Sm hL (by omega)) (by rw [gDs_len];omega) (by rw [gLs_len];omega)) fun p_ Lo_ hp_=>?_
 obtain ⟨vD,vL,us,rfl,rfl,hx_t33⟩:=hp_
 refine Ax (l:=(kPair kVal kVal)) (u:=(vD,vL)) c8 Z bl (fun _=>Z) Lr fun b5=>Wn<|ab<|ee 6 Z (kp 0 Z (kp 1 Z (kp 2 Z (kp 3 Z (kp 4 Z (.hit (i:=5) Z (kp 7 Z (kp 8 Z (kp 9 Z (kp 10 Z (kp 13 Z (kp 14 Z (kp 15 Z (kp 17 Z (kp 18 Z (kp 19 Z (kp 20 Z (kp 21 Z (kp 22 Z (kp 23 Z (kp 24 Z (kp 25 Z (kp 26 Z (kp 27 Z (kp 28 Z (kp 29 Z (kp 30 Z (kp 32 Z (kp 33 Z .nil)))))))))))))))))))))))))))))<|ee 5 Z (kp 0 Z (kp 1 Z (kp 2 Z (kp 3 Z (kp 4 Z (kp 5 Z (.hit (i:=7) Z (kp 8 Z (kp 9 Z (kp 10 Z (kp 13 Z (kp 14 Z (kp 15 Z (kp 17 Z (kp 18 Z (kp 19 Z (kp 20 Z (kp 21 Z (kp 22 Z (kp 23 Z (kp 24 Z (kp 25 Z (kp 26 Z (kp 27 Z (kp 28 Z (kp 29 Z (kp 30 Z (kp 32 Z (kp 33 Z .nil))))))))))))))))))))))))))))) ?_
 have hvl:us.length=n:=by rw [hx_t33,gLs_len]
 refine tf 3 Z (y:=(tri n (eF G))) (gLs_tri G n)<|ak<|Ws (O.mkf (aS Z (aS Z (aS Z ar))))<|Wa Z<|Wr<|Wm Z<|Wm Z<|Ws (aw Z cK Z)<|Ws (ae (p:=kVC.is (gDs G n)) Z (ag 5 Z) (aD Li) aK Z)<|Wm Z<|Ws (aR Z Z (c:=((j:Int)+1)) (aH (by omega)))<|Ws (aU ((((j:Int)+1)).toNat) Z Z U23 af (by omega) (v:=(uD G (j+1))) (dv (by omega)))<|Ws (aO Z af)<|bg (bm [0,2,3,1,4,5] (by decide) Z)<|WP.callc (Li:=[OB.box b5 25 (kPair kVal kVal) (vD,vL),OB.row vL 23 kVal us,OB.fam us 29 kC (tri n (eF G))]) (L:=[OB.row vD 29 kC (gDs G n),OB.box b4 25 kGso ([],[]),OB.box b1 25 kGso (gDs G n,gLs G n)]) .n Z fn217 (aS Z (aj Z (aL ((hD (j+1) (by omega)).sm (by omega))) ar)) (c_gso_AddRow1 vD vL b5 us (tri n (eF G)) i j q (uD G (j+1)) (by omega) (by rw [tri_rlen hi];omega) (by rw [tri_get hi hj];exact (hL i j hi hj).sm (by omega)) ((hq.mul (hD (j+1) (by omega))).sm (by omega))) fun p_ Lo_ hp_=>?_
 obtain ⟨rfl,rfl,hx_t43⟩:=hp_
 refine Wn<|ab<|ab<|tf 2 Z (y:=(tri n (addF G i j q 0))) (by rw [tri_get hi hj,tri_set _ hi];show tri n (updI (eF G) i j (uE G j i j+q*uD G (j+1)))=_;rw [addF_0])<|ak<|Wm Z<|Wm Z<|Wn<|aF<|bJ (fun (c:Nat)=>c≤j) (fun (c:Nat)=>[(2,kN6.is (j:Int)),(4,VP.pt b1 0),(8,VP.pt b4 0),(10,VP.pt b5 0),(11,VP.clo 217 [VP.pt b5 0,VP.pim kN6 (i:Int),VP.pim kZ q]),(44,kN6.is (j:Int)),(45,kN6.is (c:Int))]) (fun (c:Nat)=>[OB.box b5 25 (kPair kVal kVal) (vD,vL),OB.row vL 23 kVal us,OB.fam us 29 kC (tri n (addF G i j q c)),OB.row vD 29 kC (gDs G n),OB.box b4 25 kGso ([],[]),OB.box b1 25 kGso (gDs G n,gLs G n)]) (fun (c:Nat)=>j-c) 0 (by omega) (ao Z Z Z Z (ac Z (ac Z (az Z (ah (y:=(0:Int)) (by rfl)) aq)))) (aG _) ?_
 intro c hc
 refine Cr<|Ws (aX Z Z)<|Wn<|ab ?_
 refine aM Z (fun h_t46=>?_)<|fun h_t46=>?_
 ·
  refine Ck<|ab<|aF<|Cr<|Wm Z<|Wa Z<|Wn<|ak<|Wm Z<|Wm Z<|Ws (aw Z ct Z)<|Ws (ae (p:=kMC.is (gLs G n)) Z (ag 5 Z) (am Li) bf Z)<|Wm Z<|Ws (aU j Z Z U22 aK Z (v:=((gLs G n).getD j [])) (gd [] (by omega)))<|Ws (aO Z aK)<|Wm Z<|Ws (aU c Z Z U23 af Z (v:=(uE G c j c)) (fQ (by omega) (by omega)))<|Ws (aO Z af)<|WP.callc (Li:=[OB.box b5 25 (kPair kVal kVal) (vD,vL),OB.row vL 23 kVal us,OB.fam us 29 kC (tri n (addF G i j q c))]) (L:=[OB.row vD 29 kC (gDs G n),OB.box b4 25 kGso ([],[]),OB.box b1 25 kGso (gDs G n,gLs G n)]) .n Z fn217 (aS Z (aj Z (aL ((hL j c (by omega) (by omega)).sm (by omega))) ar)) (c_gso_AddRow1 vD vL b5 us (tri n (addF G i j q c)) i c q (uE G c j c) (by omega) (by rw [tri_rlen hi];omega) (by rw [tri_get hi (by omega),addF_at (by omega)];exact (hL i c hi (by omega)).sm (by omega)) ((hq.mul (hL j c (by omega) (by omega))).sm (by omega))) fun p_ Lo_ hp_=>?_
  obtain ⟨rfl,rfl,hx_t58⟩:=hp_
  refine au<|Qb<|ak<|Ws (aR Z Z (c:=((c:Int)+1)) (aH (by omega)))<|Wm Z<|au<|tf 2 Z (y:=(tri n (addF G i j q (c+1)))) (by rw [tri_get hi (by omega),addF_at (by omega),tri_set _ hi,addF_s (by omega)]) ?_
  exact bE (c+1) (by omega) (by omega) (ao Z Z Z Z (ac Z (ac Z (az Z (ah (y:=(((c+1):Nat):Int)) (by rfl)) aq))))<|aG _
 ·
  refine Ex<|ab<|tf 2 Z (y:=(gLs (rowI G i j q) n)) (by rw [show c=j by omega];exact addF_end hs hP hj hi)<|tr 3 Z (y:=(gDs (rowI G i j q) n)) (gDs_row hs hP hj).symm<|eb (k2:=(kPair kVC kVal)) ((gDs (rowI G i j q) n),vL) 3 0 Z Z (fun m_ cs_ h_ c_=>fB m_ cs_ h_ c_) (kp 2 Z (kp 4 Z (kp 8 Z (kp 10 Z (kp 11 Z (kp 44 Z (kp 45 Z (kp 46 Z .nil))))))))<|ST.freezeMIn (k2:=kGso) ((gDs (rowI G i j q) n),(gLs (rowI G i j q) n)) 2 1 0 Z Z Z (fun m_ cs_ h_ c_=>fA m_ cs_ h_ c_) (kp 2 Z (kp 4 Z (kp 8 Z (kp 10 Z (kp 11 Z (kp 44 Z (kp 45 Z (kp 46 Z .nil))))))))<|ak<|Ws (ae (p:=kGso.is ((gDs (rowI G i j q) n),(gLs (rowI G i j q) n))) Z (ag 0 Z) Li bl Z)<|aE .n (aC (l:=kGso) (u:=((gDs (rowI G i j q) n),(gLs (rowI G i j q) n))) 1 Z Z Z bl Z Lr)<|Wa Z<|Wn<|aA ?_
  exact Qd Z (dE Z (ag 1 Z) bl (ah (y:=(gDs (rowI G i j q) n,gLs (rowI G i j q) n)) (by rfl)) (aI Z ay)) ⟨Z,Z⟩
theorem c_gso_Swap1 (B:Nat) (a b c x e:Int) (ha:Sz B a) (hb:Sz B b) (hc:Sz B c) (hx:Sz B x) (he:Sz B e) (h0:e≠0) (hB:B≤68719476736):Fn Tryz.prog 222 [kZ.is a,kZ.is b,kZ.is c,kZ.is x,VP.pim kC e] (kC.is ((a*b+c*x).fdiv e)):=by
 refine aN Tryz.func222 Z Z fun m w=>Cr<|aZ .n Z fun b1=>aZ .n Z fun b2=>aZ .n Z fun b3=>aZ .n Z fun b4=>aW .n bd fun b5=>Wn<|ab ?_
 refine a5 (Γ:=[.fr (kZ.is a),.fr (kZ.is b),.fr (kC.is (a*b)),.fr (kZ.is c),.fr (kZ.is x),.fr (kC.is (c*x)),.fr (kC.is ((a*b)+(c*x))),.fr (kC.is e),.fr (VP.tup [kC.is (((a*b)+(c*x)).fdiv e),kC.is (if e=0 then 0 else ((a*b)+(c*x)).fmod e),kN6.is (if e=0 then 11 else 0)]),.fr (VP.tup [kC.is (((a*b)+(c*x)).fdiv e),kC.is (if e=0 then 0 else ((a*b)+(c*x)).fmod e),kN6.is (if e=0 then 11 else 0)]),.fr (kC.is (((a*b)+(c*x)).fdiv e)),.lt (kC.is (if e=0 then 0 else ((a*b)+(c*x)).fmod e)),.lt (kN6.is (if e=0 then 11 else 0)),.al (fun b=>OB.box b 29 kC 0),.al (fun b=>OB.box b 29 kC 0)]) (aa Z (fun N=>ae Z (mN N 4 Z) Li af Z) (aa Z (fun N=>ae Z (mN N 3 Z) Li af Z) (aa Z (fun N=>f2 cY Z Z (cW a b)) (aa Z (fun N=>ae Z (mN N 2 Z) Li af Z) (aa Z (fun N=>ae Z (mN N 1 Z) Li af Z) (aa Z (fun N=>f2 cY Z Z (cW c x)) (aa Z (fun N=>aB el (aj Z (aL ((ha.mul hb).sm (by omega))) (aj Z (aL ((hc.mul hx).sm (by omega))) ar)) (ed (a*b) (c*x))) (aa Z (fun N=>aO Z af) (aa Z (fun N=>aB fn214 (aj Z (aL ((fz (ha.mul hb) (hc.mul hx)).sm (by omega))) (aj Z (aL (he.sm (by omega))) ar)) (fW ((a*b)+(c*x)) e)) (om Z Z (aa Z (fun N=>aP Z Z) (oc (dc Z .n (dw Z Z)) (oc (dc Z .n (dw Z Z)) (oc (cR Z bd) (oc (cR Z bd) oz)))))))))))))))<|fun σ1=>?_
 refine aE .n (aC (l:=kC) (u:=((a*b)+(c*x)).fdiv e) 0 Z Z Z af Z Lr)<|aE .n (aC (l:=kC) (u:=if e=0 then 0 else ((a*b)+(c*x)).fmod e) 1 Z Z Z af Z Lr)<|Wa Z<|Wr<|Ws (ae Z (ag 0 Z) Li af Z)<|aE .n (aC (l:=kC) (u:=((a*b)+(c*x)).fdiv e) 2 Z Z Z af Z Lr)<|Wn<|aA ?_
 exact Qd Z (dE Z (ag 2 Z) af (ah (y:=(a*b+c*x).fdiv e) (by rfl)) ay) ⟨Z,Z⟩
theorem c_gso_Swap (G:Nat→Nat→Int) (n B:Nat) (h0:0<n) (h12:n≤12) (hP:PosU G n) (hD:∀k,k≤n→Sz B (uD G k)) (hB:B≤68719476736) (p:Nat) (hp1:p+1<n) (hs:SymG G) (hL:∀x k,x<n→k<x→Sz B (uE G k x k)):Fn Tryz.prog 150 [kGso.is (gDs G n,gLs G n),kN6.is ((p:Int)+1)] (VP.tup [kGso.is (gDs (swpI G p) n,gLs (swpI G p) n),kN6.is 0]):=by
 refine aN Tryz.func150 Z Z fun m w=>?_
 have hLl:(gLs G n).length=n:=gLs_len G n
 have hDl:(gDs G n).length=n+1:=gDs_len G n
 have hP2:=swpI_pos hs hP hp1
 have hl0:=hL (p+1) p (by omega) (by omega)
 have he0:=uD_ne hP (show p+1≤n by omega)
 refine Cr<|aZ .n Z fun b1=>aW .n eo fun b2=>Wa Z<|Wn<|ab<|Cr<|Ws (ae (p:=kGso.is (gDs G n,gLs G n)) Z (ag 1 Z) Li bl Z)<|Ws (f1 fn133 Z (gy G n B (by assumption) (by assumption) (by assumption) (by assumption) (by assumption)))<|Ws (dh (a:=true) Z)<|Wn<|dj Z<|Ck<|ab<|Cr<|Wm Z<|Ws (aX Z Z)<|Wm Z ?_
 refine cG 22 Z (fun h=>absurd h (by omega))<|fun h_t22=>?_
 refine Wg Z Z (cd Z)<|Wg Z Z (aw Z ct Z)<|Wg Z Z (ae (p:=kMC.is (gLs G n)) Z (ag 1 Z) (am Li) bf Z)<|Wg Z Z (aJ Z U22)<|Wg Z Z (di Z Z)<|Ws (cb Z Z)<|Wn ?_
 refine CN Z (by rw [gLs_len];omega) fun h_t28=>?_
 refine Ck<|Cr<|Ws (ae (p:=kGso.is (gDs G n,gLs G n)) Z (ag 1 Z) Li bl Z)<|cC (Li:=[]) (L:=[OB.box b2 25 kGso ([],[]),OB.box b1 25 kGso (gDs G n,gLs G n)]) .n fn216 (aS Z ar) (c_gso_fresh (gDs G n) (gLs G n) (gDs_Sm hD (by omega)) (gLs_Sm hL (by omega)) (by rw [gDs_len];omega) (by rw [gLs_len];omega)) fun p_ Lo_ hp_=>?_
 obtain ⟨vD,vL,us,rfl,rfl,hx_t31⟩:=hp_
 refine Ax (l:=(kPair kVal kVal)) (u:=(vD,vL)) c8 Z bl (fun _=>Z) Lr fun b3=>Wn<|ab ?_
 have hvl:us.length=n:=by rw [hx_t31,gLs_len]
 refine tf 3 Z (y:=(tri n (eF G))) (gLs_tri G n) ?_
 refine CW.drawS (Γ:=[.fr (VP.pt b1 0),.fr (kVC.is (gDs G n)),.fr (kN6.is ((p:Int)+1)),.fr (kN6.is (((p:Int)+1)-1)),.fr (VP.pim kC (uD G p)),.fr (kC.is (uD G p)),.fr (VP.pt b1 0),.fr (kVC.is (gDs G n)),.fr (kN6.is ((p:Int)+1)),.fr (VP.pim kC (uD G (p+1))),.fr (kC.is (uD G (p+1))),.fr (VP.pt b1 0),.fr (kVC.is (gDs G n)),.fr (kN6.is ((p:Int)+1)),.fr (kN6.is (((p:Int)+1)+1)),.fr (VP.pim kC (uD G (p+2))),.fr (kC.is (uD G (p+2))),.fr (VP.pt b1 1),.fr (kMC.is (gLs G n)),.fr (kN6.is ((p:Int)+1)),.fr (VP.pim kVC ((gLs G n).getD (p+1) [])),.fr (kVC.is ((gLs G n).getD (p+1) [])),.fr (kN6.is ((p:Int)+1)),.fr (kN6.is (((p:Int)+1)-1)),.fr (VP.pim kC (uE G p (p+1) p)),.fr (kC.is (uE G p (p+1) p)),.al (fun b=>OB.box b 29 kC 0) (fun b=>OB.box b 29 kC (uD G p)) 30,.al (fun b=>OB.box b 29 kC 0) (fun b=>OB.box b 29 kC (uD G (p+1))) 31,.al (fun b=>OB.box b 29 kC 0) (fun b=>OB.box b 29 kC (uD G (p+2))) 32,.al (fun b=>OB.box b 29 kC 0) (fun b=>OB.box b 29 kC (uE G p (p+1) p)) 33,.st 26,.st 27,.st 28,.st 29]) (by kernel_rfl) (ChkS.of (sh:=[(0,0),(0,0),(0,0),(0,0),(0,0),(0,0),(0,0),(0,0),(0,0),(0,0),(0,0),(0,0),(0,0),(0,0),(0,0),(0,0),(0,0),(0,0),(0,0),(0,0),(0,0),(0,0),(0,0),(0,0),(0,0),(0,0),(1,30),(1,31),(1,32),(1,33),(2,26),(2,27),(2,28),(2,29)]) Z (by kernel_rfl) Z) (fun q_ x_ h_=>?_)<|fun σ1=>?_
 ·
  match q_,h_ with
  | 0,h_=>cases h_;exact ObS.f rfl (fun σ1=>.n) (fun σ1 N=>(O.fa rfl fld25_0 rfl))
  | 1,h_=>cases h_;exact ObS.f rfl (fun σ1=>.n) (fun σ1 N=>(O.ld (p:=kVC.is (gDs G n)) rfl (mN N 5 rfl) (Lens.fst Li) ty23 rfl))
  | 2,h_=>cases h_;exact ObS.f rfl (fun σ1=>.n) (fun σ1 N=>(O.mv rfl))
  | 3,h_=>cases h_;exact ObS.f rfl (fun σ1=>.n) (fun σ1 N=>(O.sub rfl rfl (c:=(((p:Int)+1)-1)) (w64 (by omega))))
  | 4,h_=>cases h_;exact ObS.f rfl (fun σ1=>.n) (fun σ1 N=>(O.ix p rfl rfl U23 ty29 (by omega) (v:=(uD G p)) (gDs_at (by omega))))
  | 5,h_=>cases h_;exact ObS.f rfl (fun σ1=>.n) (fun σ1 N=>(O.ldP rfl ty29))
  | 6,h_=>cases h_;exact ObS.f rfl (fun σ1=>.n) (fun σ1 N=>(O.fa rfl fld25_0 rfl))
  | 7,h_=>cases h_;exact ObS.f rfl (fun σ1=>.n) (fun σ1 N=>(O.ld (p:=kVC.is (gDs G n)) rfl (mN N 5 rfl) (Lens.fst Li) ty23 rfl))
  | 8,h_=>cases h_;exact ObS.f rfl (fun σ1=>.n) (fun σ1 N=>(O.mv rfl))
  | 9,h_=>cases h_;exact ObS.f rfl (fun σ1=>.n) (fun σ1 N=>(O.ix (p+1) rfl rfl U23 ty29 (by omega) (v:=(uD G (p+1))) (gDs_at (by omega))))
  | 10,h_=>cases h_;exact ObS.f rfl (fun σ1=>.n) (fun σ1 N=>(O.ldP rfl ty29))
  | 11,h_=>cases h_;exact ObS.f rfl (fun σ1=>.n) (fun σ1 N=>(O.fa rfl fld25_0 rfl))
  | 12,h_=>cases h_;exact ObS.f rfl (fun σ1=>.n) (fun σ1 N=>(O.ld (p:=kVC.is (gDs G n)) rfl (mN N 5 rfl) (Lens.fst Li) ty23 rfl))
  | 13,h_=>cases h_;exact ObS.f rfl (fun σ1=>.n) (fun σ1 N=>(O.mv rfl))
  | 14,h_=>cases h_;exact ObS.f rfl (fun σ1=>.n) (fun σ1 N=>(O.add rfl rfl (c:=(((p:Int)+1)+1)) (w64 (by omega))))
  | 15,h_=>cases h_;exact ObS.f rfl (fun σ1=>.n) (fun σ1 N=>(O.ix (p+2) rfl rfl U23 ty29 (by omega) (v:=(uD G (p+2))) (gDs_at (by omega))))
  | 16,h_=>cases h_;exact ObS.f rfl (fun σ1=>.n) (fun σ1 N=>(O.ldP rfl ty29))
  | 17,h_=>cases h_;exact ObS.f rfl (fun σ1=>.n) (fun σ1 N=>(O.fa rfl fld25_1 rfl))
  | 18,h_=>cases h_;exact ObS.f rfl (fun σ1=>.n) (fun σ1 N=>(O.ld (p:=kMC.is (gLs G n)) rfl (mN N 5 rfl) (Lens.snd Li) ty22 rfl))
  | 19,h_=>cases h_;exact ObS.f rfl (fun σ1=>.n) (fun σ1 N=>(O.mv rfl))
  | 20,h_=>cases h_;exact ObS.f rfl (fun σ1=>.n) (fun σ1 N=>(O.ix (p+1) rfl rfl U22 ty23 (by omega) (v:=((gLs G n).getD (p+1) [])) (gd [] (by omega))))
  | 21,h_=>cases h_;exact ObS.f rfl (fun σ1=>.n) (fun σ1 N=>(O.ldP rfl ty23))
  | 22,h_=>cases h_;exact ObS.f rfl (fun σ1=>.n) (fun σ1 N=>(O.mv rfl))
  | 23,h_=>cases h_;exact ObS.f rfl (fun σ1=>.n) (fun σ1 N=>(O.sub rfl rfl (c:=(((p:Int)+1)-1)) (w64 (by omega))))
  | 24,h_=>cases h_;exact ObS.f rfl (fun σ1=>.n) (fun σ1 N=>(O.ix p rfl rfl U23 ty29 (by omega) (v:=(uE G p (p+1) p)) (gLs_at (by omega) (by omega))))
  | 25,h_=>cases h_;exact ObS.f rfl (fun σ1=>.n) (fun σ1 N=>(O.ldP rfl ty29))
  | 26,h_=>cases h_;exact ObS.a rfl z29_C
  | 27,h_=>cases h_;exact ObS.a rfl z29_C
  | 28,h_=>cases h_;exact ObS.a rfl z29_C
  | 29,h_=>cases h_;exact ObS.a rfl z29_C
  | 30,h_=>cases h_;exact ObS.s rfl rfl (fun σ1=>.n) (fun σ1 N=>(O.stW (l:=kC) (u:=(uD G p)) 0 rfl rfl rfl ty29 rfl Lr))
  | 31,h_=>cases h_;exact ObS.s rfl rfl (fun σ1=>.n) (fun σ1 N=>(O.stW (l:=kC) (u:=(uD G (p+1))) 0 rfl rfl rfl ty29 rfl Lr))
  | 32,h_=>cases h_;exact ObS.s rfl rfl (fun σ1=>.n) (fun σ1 N=>(O.stW (l:=kC) (u:=(uD G (p+2))) 0 rfl rfl rfl ty29 rfl Lr))
  | 33,h_=>cases h_;exact ObS.s rfl rfl (fun σ1=>.n) (fun σ1 N=>(O.stW (l:=kC) (u:=(uE G p (p+1) p)) 0 rfl rfl rfl ty29 rfl Lr))
  | n_+34,h_=>simp at h_
 refine cw<|ab<|ee 1 Z (kp 0 Z (kp 1 Z (kp 2 Z (kp 4 Z (kp 5 Z (kp 6 Z (kp 7 Z (.hit (i:=8) Z (kp 9 Z (kp 10 Z (kp 16 Z (kp 17 Z (kp 18 Z (kp 20 Z (kp 21 Z (kp 22 Z (kp 23 Z (kp 24 Z (kp 25 Z (kp 26 Z (kp 27 Z (kp 28 Z (kp 30 Z (kp 31 Z (kp 32 Z (kp 33 Z (kp 34 Z (kp 35 Z (kp 36 Z (kp 37 Z (kp 38 Z (kp 39 Z (kp 40 Z (kp 41 Z (kp 42 Z (kp 43 Z (kp 44 Z (kp 45 Z (kp 46 Z (kp 47 Z (kp 48 Z (kp 49 Z (kp 50 Z (kp 51 Z (kp 52 Z (kp 53 Z (kp 54 Z (kp 55 Z (kp 56 Z (kp 57 Z .nil))))))))))))))))))))))))))))))))))))))))))))))))))<|ak<|Ws (O.mkf (aS Z ar))<|Wa Z<|Wn<|ab ?_
 refine a5 (Γ:=[.fr (VP.pt b3 0),.fr (VP.ex vD),.fr (kN6.is ((p:Int)+1)),.fr (VP.clo 222 [VP.pim kC (uD G (p+1))]),.fr (kC.is (uD G p)),.fr (kC.is (uD G (p+2))),.fr (kC.is (uE G p (p+1) p)),.fr (kC.is (uE G p (p+1) p)),.fr (kC.is (((uD G p)*(uD G (p+2))+(uE G p (p+1) p)*(uE G p (p+1) p)).fdiv (uD G (p+1)))),.fr (VP.pel vD ((p+1)*2))]) (aa Z (fun N=>aw Z cK Z) (aa Z (fun N=>aV (ae (p:=kVal.is vD) Z (mN N 3 Z) (aD Li) aK Z) (bc _)) (om Z Z (om Z Z (aa Z (fun N=>ae Z (mN N 0 Z) Li af Z) (aa Z (fun N=>ae Z (mN N 1 Z) Li af Z) (aa Z (fun N=>ae Z (mN N 2 Z) Li af Z) (aa Z (fun N=>ae Z (mN N 2 Z) Li af Z) (aa Z (fun N=>eQ Z fn222 (aj Z (aL ((hD p (by omega)).sm (by omega))) (aj Z (aL ((hD (p+2) (by omega)).sm (by omega))) (aj Z (aL (hl0.sm (by omega))) (aj Z (aL (hl0.sm (by omega))) ar)))) (c_gso_Swap1 B (uD G p) (uD G (p+2)) (uE G p (p+1) p) (uE G p (p+1) p) (uD G (p+1)) (hD _ (by omega)) (hD _ (by omega)) hl0 hl0 (hD _ (by omega)) he0 (by assumption))) (aa Z (fun N=>bb (k:=kC) (xs:=gDs G n) (n:=((p:Int)+1)) (p+1) Z Z (mN N 4 Z) U23 af (by omega) (by omega)) oz))))))))))<|fun σ2=>?_
 refine aE .n (co 4 (p+1) Z Z Li Z (y0:=((gDs G n).getD (p+1) 0)) (gd 0 (by omega)) af Z Lr)<|Wn<|ab<|ab<|tr 4 Z (y:=(gDs (swpI G p) n)) (gDs_swp hs hP hp1) ?_
 have hD2:Sz (B+B+1) (uD (swpI G p) (p+1)):=by rw [←swD_eq hs hP hp1];exact Sz.fdiv (Sz.add1 ((hD p (by omega)).mul (hD (p+2) (by omega))) (hl0.mul hl0)) (hP.uD (by omega))
 refine ak<|Ws (aw Z cK Z)<|Ws (aV (ae (p:=kVal.is vD) Z (ag 3 Z) (aD Li) aK Z) (bc _))<|Wm Z<|Ws (bb (k:=kC) (xs:=(gDs (swpI G p) n)) (n:=((p:Int)+1)) (p+1) Z Z (ag 4 Z) U23 af (by omega) (by simp only [gRow_len,gDs_len,gLs_len,List.length_set];omega))<|Ws (bp (k:=kC) (xs:=(gDs (swpI G p) n)) (p+1) Z (ag 4 Z) Li (ho:=Z) (y:=(uD (swpI G p) (p+1))) (dv (by omega)) af Z)<|Ws (aB db (aj Z (aL (hD2.sm (by omega))) ar) (c9 (uD (swpI G p) (p+1))))<|Ws (dL Z Z)<|Wn ?_
 refine CN Z (by have h1:=hP2.uD (show p+1≤n by omega);have:=Int.sign_eq_one_of_pos h1;omega) fun h_t75=>?_
 refine Ck<|ab<|Cr<|Wm Z<|Ws (bj Z Z (c:=(p:Int)) (aH (by omega)))<|Wm Z<|Wn<|aF<|tf 6 Z (y:=(tri n (swF1 G p 0))) (by rw [swF1_0])<|bJ (fun (c:Nat)=>c≤p) (fun (c:Nat)=>[(1,kN6.is ((p:Int)+1)),(2,VP.pt b1 0),(4,VP.pt b2 0),(6,VP.pt b3 0),(7,VP.pt (σ1 26) 0),(9,VP.pt (σ1 28) 0),(10,VP.pt (σ1 29) 0),(11,VP.clo 222 [VP.pim kC (uD G (p+1))]),(78,kN6.is (p:Int)),(79,kN6.is (c:Int))]) (fun (c:Nat)=>[OB.box (σ1 26) 29 kC (uD G p),OB.box (σ1 28) 29 kC (uD G (p+2)),OB.box (σ1 29) 29 kC (uE G p (p+1) p),OB.box b3 25 (kPair kVal kVal) (vD,vL),OB.row vD 29 kC (gDs (swpI G p) n),OB.row vL 23 kVal us,OB.fam us 29 kC (tri n (swF1 G p c)),OB.box b2 25 kGso ([],[]),OB.box b1 25 kGso (gDs G n,gLs G n)]) (fun (c:Nat)=>p-c) 0 (by omega) (ao Z Z Z Z (ao Z Z Z Z (ac Z (az Z (ah (y:=(0:Int)) (by rfl)) aq)))) (aG _) ?_
 intro c hc
 refine Cr<|Ws (aX Z Z)<|Wn<|ab ?_
 refine aM Z (fun h_t80=>?_)<|fun h_t80=>?_
 ·
  refine Ck<|ab<|aF<|Cr<|Wm Z<|Wa Z<|Wn ?_
  refine a5 (Γ:=[.fr (VP.pt b3 1),.fr (VP.ex vL),.fr (kN6.is ((p:Int)+1)),.fr (kN6.is (((p:Int)+1)-1)),.fr (VP.pel vL (p*1)),.fr (VP.ex (us.getD p nilV)),.fr (kN6.is (c:Int)),.fr (VP.pt b3 1),.fr (VP.ex vL),.fr (kN6.is ((p:Int)+1)),.fr (VP.pel vL ((p+1)*1)),.fr (VP.ex (us.getD (p+1) nilV)),.lt (kN6.is (c:Int)),.fr (VP.pt b3 1),.fr (VP.ex vL),.fr (kN6.is ((p:Int)+1)),.fr (VP.pel vL ((p+1)*1)),.fr (VP.ex (us.getD (p+1) nilV)),.fr (kN6.is (c:Int)),.fr (VP.pel (us.getD (p+1) nilV) (c*2)),.fr (kC.is (uE G c (p+1) c)),.fr (VP.pt b3 1),.fr (VP.ex vL),.fr (kN6.is ((p:Int)+1)),.fr (kN6.is (((p:Int)+1)-1)),.fr (VP.pel vL (p*1)),.fr (VP.ex (us.getD p nilV)),.fr (kN6.is (c:Int)),.fr (VP.pel (us.getD p nilV) (c*2)),.fr (kC.is (uE G c p c))]) (aa Z (fun N=>aw Z ct Z) (aa Z (fun N=>aV (ae (p:=kVal.is vL) Z (mN N 3 Z) (am Li) bf Z) (bc _)) (om Z Z (aa Z (fun N=>bj Z Z (c:=(((p:Int)+1)-1)) (aH (by omega))) (aa Z (fun N=>bb (k:=kVal) (xs:=us) (n:=(((p:Int)+1)-1)) p Z Z (mN N 5 Z) U22 aK (by omega) (by omega)) (aa Z (fun N=>aV (bp p Z (mN N 5 Z) Li Z (y:=(us.getD p nilV)) (gd nilV (by omega)) aK Z) (bc _)) (om Z Z (aa Z (fun N=>aw Z ct Z) (aa Z (fun N=>aV (ae (p:=kVal.is vL) Z (mN N 3 Z) (am Li) bf Z) (bc _)) (om Z Z (aa Z (fun N=>bb (k:=kVal) (xs:=us) (n:=((p:Int)+1)) (p+1) Z Z (mN N 5 Z) U22 aK (by omega) (by omega)) (aa Z (fun N=>aV (bp (p+1) Z (mN N 5 Z) Li Z (y:=(us.getD (p+1) nilV)) (gd nilV (by omega)) aK Z) (bc _)) (oc (dc Z .n (dW Z)) (aa Z (fun N=>aw Z ct Z) (aa Z (fun N=>aV (ae (p:=kVal.is vL) Z (mN N 3 Z) (am Li) bf Z) (bc _)) (om Z Z (aa Z (fun N=>bb (k:=kVal) (xs:=us) (n:=((p:Int)+1)) (p+1) Z Z (mN N 5 Z) U22 aK (by omega) (by omega)) (aa Z (fun N=>aV (bp (p+1) Z (mN N 5 Z) Li Z (y:=(us.getD (p+1) nilV)) (gd nilV (by omega)) aK Z) (bc _)) (om Z Z (aa Z (fun N=>cZ (e:=29) (k:=kC) (xss:=(tri n (swF1 G p c))) (n:=(c:Int)) (p+1) c Z Z (mN N 6 Z) Z (by omega) U23 af Z (by rw [tri_rlen (by omega)];omega)) (aa Z (fun N=>dJ (k:=kC) (xss:=(tri n (swF1 G p c))) (p+1) c Z (mN N 6 Z) Z (by omega) Li Z (y:=(uE G c (p+1) c)) (tri_at2 (by omega) (by omega) swF1_a) af Z) (aa Z (fun N=>aw Z ct Z) (aa Z (fun N=>aV (ae (p:=kVal.is vL) Z (mN N 3 Z) (am Li) bf Z) (bc _)) (om Z Z (aa Z (fun N=>bj Z Z (c:=(((p:Int)+1)-1)) (aH (by omega))) (aa Z (fun N=>bb (k:=kVal) (xs:=us) (n:=(((p:Int)+1)-1)) p Z Z (mN N 5 Z) U22 aK (by omega) (by omega)) (aa Z (fun N=>aV (bp p Z (mN N 5 Z) Li Z (y:=(us.getD p nilV)) (gd nilV (by omega)) aK Z) (bc _)) (om Z Z (aa Z (fun N=>cZ (e:=29) (k:=kC) (xss:=(tri n (swF1 G p c))) (n:=(c:Int)) p c Z Z (mN N 6 Z) Z (by omega) U23 af Z (by rw [tri_rlen (by omega)];omega)) (aa Z (fun N=>dJ (k:=kC) (xss:=(tri n (swF1 G p c))) p c Z (mN N 6 Z) Z (by omega) Li Z (y:=(uE G c p c)) (tri_at2 (by omega) (by omega) swF1_b) af Z) oz))))))))))))))))))))))))))))))<|fun σ3=>?_
  refine Ws (cZ (e:=29) (k:=kC) (xss:=(tri n (swF1 G p c))) (n:=(c:Int)) p c Z Z (ag 6 Z) Z (by omega) U23 af Z (by rw [tri_rlen (by omega)];omega))<|aE .n (d7 6 p c Z Z Z (by omega) Li Z (y0:=(((tri n (swF1 G p c)).getD p []).getD c 0)) (gd 0 (by rw [tri_rlen (by omega)];omega)) af Z Lr)<|Ws (cZ (e:=29) (k:=kC) (xss:=((tri n (swF1 G p c)).set p (((tri n (swF1 G p c)).getD p []).set c (uE G c (p+1) c)))) (n:=(c:Int)) (p+1) c Z Z (ag 6 Z) Z (by omega) U23 af Z (by rw [tri_set _ (by omega),tri_rlen (by omega)];omega))<|aE .n (d7 6 (p+1) c Z Z Z (by omega) Li Z (y0:=((((tri n (swF1 G p c)).set p (((tri n (swF1 G p c)).getD p []).set c (uE G c (p+1) c))).getD (p+1) []).getD c 0)) (gd 0 (by rw [tri_set _ (by omega),tri_rlen (by omega)];omega)) af Z Lr)<|au<|Qb<|ak<|Ws (aR Z Z (c:=((c:Int)+1)) (aH (by omega)))<|Wm Z<|au<|tf 6 Z (y:=(tri n (swF1 G p (c+1)))) (by rw [tri_set _ (by omega),tri_set _ (by omega),swF1_s]) ?_
  exact bE (c+1) (by omega) (by omega) (ao Z Z Z Z (ao Z Z Z Z (ac Z (az Z (ah (y:=(((c+1):Nat):Int)) (by rfl)) aq))))<|aG _
 ·
  refine Ex<|ab<|Cr<|Wm Z<|Ws (aR Z Z (c:=((p+2:Nat):Int)) (aH (by omega)))<|Wa Z<|Wn<|aF<|tf 6 Z (y:=(tri n (swF2 G p (p+2)))) (by rw [show c=p by omega,swF2_0])<|bJ (fun (c:Nat)=>p+2≤c∧c≤n) (fun (c:Nat)=>[(1,kN6.is ((p:Int)+1)),(2,VP.pt b1 0),(4,VP.pt b2 0),(6,VP.pt b3 0),(7,VP.pt (σ1 26) 0),(9,VP.pt (σ1 28) 0),(10,VP.pt (σ1 29) 0),(11,VP.clo 222 [VP.pim kC (uD G (p+1))]),(13,kN6.is (c:Int))]) (fun (c:Nat)=>[OB.box (σ1 26) 29 kC (uD G p),OB.box (σ1 28) 29 kC (uD G (p+2)),OB.box (σ1 29) 29 kC (uE G p (p+1) p),OB.box b3 25 (kPair kVal kVal) (vD,vL),OB.row vD 29 kC (gDs (swpI G p) n),OB.row vL 23 kVal us,OB.fam us 29 kC (tri n (swF2 G p c)),OB.box b2 25 kGso ([],[]),OB.box b1 25 kGso (gDs G n,gLs G n)]) (fun (c:Nat)=>n-c) (p+2) ⟨Nat.le_refl _,by omega⟩ (ao Z Z Z Z (ao Z Z Z Z (az Z (ah (y:=(((p+2):Nat):Int)) (by rfl)) aq))) (aG _) ?_
  intro c ⟨hc0,hc⟩
  refine ab<|Cr<|Wm Z<|Ws (aw Z ct Z)<|Ws (ae (p:=kMC.is (gLs G n)) Z (ag 8 Z) (am Li) bf Z)<|Ws (aJ Z U22)<|Ws (aX Z Z)<|Wn ?_
  refine aM Z (fun h_t121=>?_)<|fun h_t121=>?_
  ·
   refine Ck<|ab<|aF<|ab ?_
   refine CW.drawS (Γ:=[.fr (VP.pt b1 1),.fr (kMC.is (gLs G n)),.fr (kN6.is (c:Int)),.fr (VP.pim kVC ((gLs G n).getD c [])),.fr (kVC.is ((gLs G n).getD c [])),.fr (kN6.is ((p:Int)+1)),.fr (kN6.is (((p:Int)+1)-1)),.fr (VP.pim kC (uE G p c p)),.fr (kC.is (uE G p c p)),.fr (VP.pt b1 1),.fr (kMC.is (gLs G n)),.fr (kN6.is (c:Int)),.fr (VP.pim kVC ((gLs G n).getD c [])),.fr (kVC.is ((gLs G n).getD c [])),.fr (kN6.is ((p:Int)+1)),.fr (VP.pim kC (uE G (p+1) c (p+1))),.fr (kC.is (uE G (p+1) c (p+1))),.al (fun b=>OB.box b 29 kC 0) (fun b=>OB.box b 29 kC (uE G p c p)) 19,.al (fun b=>OB.box b 29 kC 0) (fun b=>OB.box b 29 kC (uE G (p+1) c (p+1))) 20,.st 17,.st 18]) (by kernel_rfl) (ChkS.of (sh:=[(0,0),(0,0),(0,0),(0,0),(0,0),(0,0),(0,0),(0,0),(0,0),(0,0),(0,0),(0,0),(0,0),(0,0),(0,0),(0,0),(0,0),(1,19),(1,20),(2,17),(2,18)]) Z (by kernel_rfl) Z) (fun q_ x_ h_=>?_)<|fun σ4=>?_
   ·
    match q_,h_ with
    | 0,h_=>cases h_;exact ObS.f rfl (fun σ4=>.n) (fun σ4 N=>(O.fa rfl fld25_1 rfl))
    | 1,h_=>cases h_;exact ObS.f rfl (fun σ4=>.n) (fun σ4 N=>(O.ld (p:=kMC.is (gLs G n)) rfl (mN N 8 rfl) (Lens.snd Li) ty22 rfl))
    | 2,h_=>cases h_;exact ObS.f rfl (fun σ4=>.n) (fun σ4 N=>(O.mv rfl))
    | 3,h_=>cases h_;exact ObS.f rfl (fun σ4=>.n) (fun σ4 N=>(O.ix c rfl rfl U22 ty23 rfl (v:=((gLs G n).getD c [])) (gd [] (by omega))))
    | 4,h_=>cases h_;exact ObS.f rfl (fun σ4=>.n) (fun σ4 N=>(O.ldP rfl ty23))
    | 5,h_=>cases h_;exact ObS.f rfl (fun σ4=>.n) (fun σ4 N=>(O.mv rfl))
    | 6,h_=>cases h_;exact ObS.f rfl (fun σ4=>.n) (fun σ4 N=>(O.sub rfl rfl (c:=(((p:Int)+1)-1)) (w64 (by omega))))
    | 7,h_=>cases h_;exact ObS.f rfl (fun σ4=>.n) (fun σ4 N=>(O.ix p rfl rfl U23 ty29 (by omega) (v:=(uE G p c p)) (gLs_at (by omega) (by omega))))
    | 8,h_=>cases h_;exact ObS.f rfl (fun σ4=>.n) (fun σ4 N=>(O.ldP rfl ty29))
    | 9,h_=>cases h_;exact ObS.f rfl (fun σ4=>.n) (fun σ4 N=>(O.fa rfl fld25_1 rfl))
    | 10,h_=>cases h_;exact ObS.f rfl (fun σ4=>.n) (fun σ4 N=>(O.ld (p:=kMC.is (gLs G n)) rfl (mN N 8 rfl) (Lens.snd Li) ty22 rfl))
    | 11,h_=>cases h_;exact ObS.f rfl (fun σ4=>.n) (fun σ4 N=>(O.mv rfl))
    | 12,h_=>cases h_;exact ObS.f rfl (fun σ4=>.n) (fun σ4 N=>(O.ix c rfl rfl U22 ty23 rfl (v:=((gLs G n).getD c [])) (gd [] (by omega))))
    | 13,h_=>cases h_;exact ObS.f rfl (fun σ4=>.n) (fun σ4 N=>(O.ldP rfl ty23))
    | 14,h_=>cases h_;exact ObS.f rfl (fun σ4=>.n) (fun σ4 N=>(O.mv rfl))
    | 15,h_=>cases h_;exact ObS.f rfl (fun σ4=>.n) (fun σ4 N=>(O.ix (p+1) rfl rfl U23 ty29 (by omega) (v:=(uE G (p+1) c (p+1))) (gLs_at (by omega) (by omega))))
    | 16,h_=>cases h_;exact ObS.f rfl (fun σ4=>.n) (fun σ4 N=>(O.ldP rfl ty29))
    | 17,h_=>cases h_;exact ObS.a rfl z29_C
    | 18,h_=>cases h_;exact ObS.a rfl z29_C
    | 19,h_=>cases h_;exact ObS.s rfl rfl (fun σ4=>.n) (fun σ4 N=>(O.stW (l:=kC) (u:=(uE G p c p)) 0 rfl rfl rfl ty29 rfl Lr))
    | 20,h_=>cases h_;exact ObS.s rfl rfl (fun σ4=>.n) (fun σ4 N=>(O.stW (l:=kC) (u:=(uE G (p+1) c (p+1))) 0 rfl rfl rfl ty29 rfl Lr))
    | n_+21,h_=>simp at h_
   refine cw<|ab ?_
   refine a5 (Γ:=[.fr (VP.pt b3 1),.fr (VP.ex vL),.fr (kN6.is (c:Int)),.fr (VP.pel vL (c*1)),.fr (VP.ex (us.getD c nilV)),.fr (kN6.is ((p:Int)+1)),.fr (kN6.is (((p:Int)+1)-1)),.fr (VP.clo 222 [VP.pim kC (uD G (p+1))]),.fr (kC.is (uD G p)),.fr (kC.is (uE G (p+1) c (p+1))),.fr (kC.is (uE G p (p+1) p)),.fr (kC.is (uE G p c p)),.fr (kC.is (((uD G p)*(uE G (p+1) c (p+1))+(uE G p (p+1) p)*(uE G p c p)).fdiv (uD G (p+1)))),.fr (VP.pel (us.getD c nilV) (p*2))]) (aa Z (fun N=>aw Z ct Z) (aa Z (fun N=>aV (ae (p:=kVal.is vL) Z (mN N 5 Z) (am Li) bf Z) (bc _)) (om Z Z (aa Z (fun N=>bb (k:=kVal) (xs:=us) (n:=(c:Int)) c Z Z (mN N 7 Z) U22 aK Z (by omega)) (aa Z (fun N=>aV (bp c Z (mN N 7 Z) Li Z (y:=(us.getD c nilV)) (gd nilV (by omega)) aK Z) (bc _)) (om Z Z (aa Z (fun N=>bj Z Z (c:=(((p:Int)+1)-1)) (aH (by omega))) (om Z Z (aa Z (fun N=>ae Z (mN N 2 Z) Li af Z) (aa Z (fun N=>ae Z (mN N 1 Z) Li af Z) (aa Z (fun N=>ae Z (mN N 4 Z) Li af Z) (aa Z (fun N=>ae Z (mN N 0 Z) Li af Z) (aa Z (fun N=>eQ Z fn222 (aj Z (aL ((hD p (by omega)).sm (by omega))) (aj Z (aL ((hL c (p+1) (by omega) (by omega)).sm (by omega))) (aj Z (aL (hl0.sm (by omega))) (aj Z (aL ((hL c p (by omega) (by omega)).sm (by omega))) ar)))) (c_gso_Swap1 B (uD G p) (uE G (p+1) c (p+1)) (uE G p (p+1) p) (uE G p c p) (uD G (p+1)) (hD _ (by omega)) (hL c (p+1) (by omega) (by omega)) hl0 (hL c p (by omega) (by omega)) (hD _ (by omega)) he0 (by assumption))) (aa Z (fun N=>cZ (e:=29) (k:=kC) (xss:=(tri n (swF2 G p c))) (n:=(((p:Int)+1)-1)) c p Z Z (mN N 8 Z) Z (by omega) U23 af (by omega) (by rw [tri_rlen (by omega)];omega)) oz))))))))))))))<|fun σ5=>?_
   refine aE .n (d7 8 c p Z Z Z (by omega) Li Z (y0:=(((tri n (swF2 G p c)).getD c []).getD p 0)) (gd 0 (by rw [tri_rlen (by omega)];omega)) af Z Lr)<|Wn ?_
   refine a5 (Γ:=[.fr (VP.pt b3 1),.fr (VP.ex vL),.fr (kN6.is (c:Int)),.fr (VP.pel vL (c*1)),.fr (VP.ex (us.getD c nilV)),.fr (kN6.is ((p:Int)+1)),.fr (VP.clo 222 [VP.pim kC (uD G (p+1))]),.fr (kC.is (uD G (p+2))),.fr (kC.is (uE G p c p)),.fr (kC.is (uE G p (p+1) p)),.fr (kC.is (-(uE G p (p+1) p))),.fr (kC.is (uE G (p+1) c (p+1))),.fr (kC.is (((uD G (p+2))*(uE G p c p)+(-(uE G p (p+1) p))*(uE G (p+1) c (p+1))).fdiv (uD G (p+1)))),.fr (VP.pel (us.getD c nilV) ((p+1)*2))]) (aa Z (fun N=>aw Z ct Z) (aa Z (fun N=>aV (ae (p:=kVal.is vL) Z (mN N 5 Z) (am Li) bf Z) (bc _)) (om Z Z (aa Z (fun N=>bb (k:=kVal) (xs:=us) (n:=(c:Int)) c Z Z (mN N 7 Z) U22 aK Z (by omega)) (aa Z (fun N=>aV (bp c Z (mN N 7 Z) Li Z (y:=(us.getD c nilV)) (gd nilV (by omega)) aK Z) (bc _)) (om Z Z (om Z Z (aa Z (fun N=>ae Z (mN N 3 Z) Li af Z) (aa Z (fun N=>ae Z (mN N 0 Z) Li af Z) (aa Z (fun N=>ae Z (mN N 4 Z) Li af Z) (aa Z (fun N=>aB fn145 (aj Z (aL (hl0.sm (by omega))) ar) (ga (uE G p (p+1) p))) (aa Z (fun N=>ae Z (mN N 1 Z) Li af Z) (aa Z (fun N=>eQ Z fn222 (aj Z (aL ((hD (p+2) (by omega)).sm (by omega))) (aj Z (aL ((hL c p (by omega) (by omega)).sm (by omega))) (aj Z (aL (hl0.neg.sm (by omega))) (aj Z (aL ((hL c (p+1) (by omega) (by omega)).sm (by omega))) ar)))) (c_gso_Swap1 B (uD G (p+2)) (uE G p c p) (-(uE G p (p+1) p)) (uE G (p+1) c (p+1)) (uD G (p+1)) (hD _ (by omega)) (hL c p (by omega) (by omega)) hl0.neg (hL c (p+1) (by omega) (by omega)) (hD _ (by omega)) he0 (by assumption))) (aa Z (fun N=>cZ (e:=29) (k:=kC) (xss:=((tri n (swF2 G p c)).set c (((tri n (swF2 G p c)).getD c []).set p (((uD G p)*(uE G (p+1) c (p+1))+(uE G p (p+1) p)*(uE G p c p)).fdiv (uD G (p+1)))))) (n:=((p:Int)+1)) c (p+1) Z Z (mN N 8 Z) Z (by omega) U23 af (by omega) (by rw [tri_set _ (by omega),tri_rlen (by omega)];omega)) oz))))))))))))))<|fun σ6=>?_
   refine aE .n (d7 8 c (p+1) Z Z Z (by omega) Li Z (y0:=((((tri n (swF2 G p c)).set c (((tri n (swF2 G p c)).getD c []).set p (((uD G p)*(uE G (p+1) c (p+1))+(uE G p (p+1) p)*(uE G p c p)).fdiv (uD G (p+1))))).getD c []).getD (p+1) 0)) (gd 0 (by rw [tri_set _ (by omega),tri_rlen (by omega)];omega)) af Z Lr)<|au<|Qb<|ak<|Wm Z<|Ws (aR Z Z (c:=((c:Int)+1)) (aH (by omega)))<|Wa Z<|au<|tf 8 Z (y:=(tri n (swF2 G p (c+1)))) (by rw [tri_set _ (by omega),tri_set _ (by omega)];exact congrArg (tri n) (swF2_s (by omega))) ?_
   exact bE (c+1) (by omega) ⟨by omega,by omega⟩ (ao Z Z Z Z (ao Z Z Z Z (az Z (ah (y:=(((c+1):Nat):Int)) (by rfl)) aq)))<|a9<|OS.skip<|OS.skip<|OS.keep<|OS.keep<|OS.keep<|OS.keep<|OS.keep<|OS.keep<|OS.keep<|OS.keep<|OS.keep OS.nil
  ·
   refine Ex<|ab<|tf 6 Z (y:=(gLs (swpI G p) n)) (by rw [show c=n by omega];exact swF2_end hs hP hp1)<|eb (k2:=(kPair kVC kVal)) ((gDs (swpI G p) n),vL) 4 3 Z Z (fun m_ cs_ h_ c_=>fB m_ cs_ h_ c_) (kp 1 Z (kp 2 Z (kp 4 Z (kp 6 Z (kp 7 Z (kp 9 Z (kp 10 Z (kp 11 Z (kp 13 Z (kp 117 Z (kp 118 Z (kp 119 Z (kp 120 Z (kp 121 Z .nil))))))))))))))<|ST.freezeMIn (k2:=kGso) ((gDs (swpI G p) n),(gLs (swpI G p) n)) 5 4 3 Z Z Z (fun m_ cs_ h_ c_=>fA m_ cs_ h_ c_) (kp 1 Z (kp 2 Z (kp 4 Z (kp 6 Z (kp 7 Z (kp 9 Z (kp 10 Z (kp 11 Z (kp 13 Z (kp 117 Z (kp 118 Z (kp 119 Z (kp 120 Z (kp 121 Z .nil))))))))))))))<|ak<|Ws (ae (p:=kGso.is ((gDs (swpI G p) n),(gLs (swpI G p) n))) Z (ag 3 Z) Li bl Z)<|aE .n (aC (l:=kGso) (u:=((gDs (swpI G p) n),(gLs (swpI G p) n))) 4 Z Z Z bl Z Lr)<|Wa Z<|Wn<|aA ?_
   exact Qd Z (dE Z (ag 4 Z) bl (ah (y:=(gDs (swpI G p) n,gLs (swpI G p) n)) (by rfl)) (aI Z ay)) ⟨Z,Z⟩
end Fw
namespace Fw
open Go
def sumQ (f:Nat→Rat):Nat→Rat
  | 0=>0
  | n+1=>sumQ f n+f n
theorem sumQ_congr {f g:Nat→Rat}:∀{n},(∀i,i<n→f i=g i)→sumQ f n=sumQ g n
  | 0,_=>rfl
  | n+1,h=>by rw [sumQ,sumQ,sumQ_congr (fun i hi=>h i (by omega)),h n (by omega)]
theorem sumQ_add (f g:Nat→Rat):∀n,sumQ (fun i=>f i+g i) n=sumQ f n+sumQ g n
  | 0=>by simp only [sumQ];grind
  | n+1=>by simp only [sumQ];rw [sumQ_add f g n];grind
theorem sumQ_sub (f g:Nat→Rat):∀n,sumQ (fun i=>f i-g i) n=sumQ f n-sumQ g n
  | 0=>by simp [sumQ];grind
  | n+1=>by simp only [sumQ];rw [sumQ_sub f g n];grind
theorem sumQ_mul (f:Nat→Rat) (c:Rat):∀n,sumQ f n*c=sumQ (fun i=>f i*c) n
  | 0=>by simp [sumQ]
  | n+1=>by simp only [sumQ];rw [←sumQ_mul f c n];grind
theorem mul_sumQ (f:Nat→Rat) (c:Rat):∀n,c*sumQ f n=sumQ (fun i=>c*f i) n
  | 0=>by simp [sumQ]
  | n+1=>by simp only [sumQ];rw [←mul_sumQ f c n];grind
theorem sumQ_zero:∀n,sumQ (fun _=>0) n=0
  | 0=>rfl
  | n+1=>by rw [sumQ,sumQ_zero n];grind
theorem sumQ_comm (f:Nat→Nat→Rat) (m:Nat):∀n,sumQ (fun i=>sumQ (fun k=>f i k) m) n=sumQ (fun k=>sumQ (fun i=>f i k) n) m
  | 0=>(sumQ_zero m).symm
  | n+1=>by rw [sumQ,sumQ_comm f m n,←sumQ_add];rfl
theorem sumQ_nonneg {f:Nat→Rat}:∀{n},(∀i,i<n→0≤f i)→0≤sumQ f n
  | 0,_=>Rat.le_refl
  | n+1,h=>by
    have h1:=sumQ_nonneg (f:=f) (n:=n) (fun i hi=>h i (by omega))
    have h2:=h n (by omega)
    rw [sumQ];grind
theorem sumQ_le_of {f:Nat→Rat}:∀{n},(∀i,i<n→0≤f i)→∀{k},k<n→f k≤sumQ f n
  | 0,_,k,hk=>absurd hk (by omega)
  | n+1,h,k,hk=>by
    have h1:=sumQ_nonneg (f:=f) (n:=n) (fun i hi=>h i (by omega))
    have h2:=h n (by omega)
    rw [sumQ]
    by_cases e:k=n
    · subst e;grind
    · have:=sumQ_le_of (f:=f) (n:=n) (fun i hi=>h i (by omega)) (k:=k) (by omega)
      grind
theorem sumQ_le {f g:Nat→Rat}:∀{n},(∀i,i<n→f i≤g i)→sumQ f n≤sumQ g n
  | 0,_=>Rat.le_refl
  | n+1,h=>by
    have h1:=sumQ_le (f:=f) (g:=g) (n:=n) (fun i hi=>h i (by omega))
    have h2:=h n (by omega)
    rw [sumQ,sumQ];grind
theorem sumQ_const (c:Rat):∀n:Nat,sumQ (fun _=>c) n=(n:Rat)*c
  | 0=>by simp [sumQ]
  | n+1=>by rw [sumQ,sumQ_const c n];push_cast;grind
theorem sumQ_one {f:Nat→Rat} {k:Nat}:∀{n},k<n→(∀i,i<n→i≠k→f i=0)→sumQ f n=f k
  | 0,hk,_=>absurd hk (by omega)
  | n+1,hk,h=>by
    rw [sumQ]
    by_cases e:k=n
    · subst e
      rw [sumQ_congr (g:=fun _=>0) (fun i hi=>h i (by omega) (by omega)),sumQ_zero];grind
    · rw [sumQ_one (by omega) (fun i hi hne=>h i (by omega) hne),h n (by omega) (fun x=>e x.symm)];grind
theorem sq_nonneg (q:Rat):0≤q*q:=by
  rcases Rat.le_total (a:=0) (b:=q) with h | h
  · exact Rat.mul_nonneg h h
  · have:=Rat.mul_nonneg (a:=-q) (b:=-q) (by grind) (by grind)
    grind
def extG (G:Nat→Nat→Rat) (n:Nat) (c:Nat→Rat):Nat→Nat→Rat:=fun x y=>
  if x=n then (if y=n then sumQ (fun i=>sumQ (fun j=>c i*c j*G i j) n) n else sumQ (fun i=>c i*G i y) n)
  else if y=n then sumQ (fun j=>c j*G x j) n else G x y
section
variable {G:Nat→Nat→Rat} {n:Nat} {c:Nat→Rat}
theorem ext_lo:∀l,l≤n→∀x y,x≠n→y≠n→gsE (extG G n c) l x y=gsE G l x y
  | 0,_,x,y,hx,hy=>by show extG G n c x y=G x y;unfold extG;rw [if_neg hx,if_neg hy]
  | l+1,hl,x,y,hx,hy=>by
    have ih:=ext_lo l (by omega)
    rw [gsE_succ,ih x y hx hy,ih x l hx (by omega),ih l y (by omega) hy,ih l l (by omega) (by omega),gsE_succ]
theorem ext_row:∀l,l≤n→∀y,y≠n→gsE (extG G n c) l n y=sumQ (fun i=>c i*gsE G l i y) n
  | 0,_,y,hy=>by show extG G n c n y=_;unfold extG;rw [if_pos rfl,if_neg hy];rfl
  | l+1,hl,y,hy=>by
    have ih:=ext_row l (by omega)
    rw [gsE_succ,ih y hy,ih l (by omega),ext_lo l (by omega) l y (by omega) hy,ext_lo l (by omega) l l (by omega) (by omega)]
    rw [Rat.div_def,Rat.mul_assoc,sumQ_mul,←sumQ_sub]
    apply sumQ_congr
    intro i hi
    rw [gsE_succ];grind
theorem ext_col:∀l,l≤n→∀x,x≠n→gsE (extG G n c) l x n=sumQ (fun j=>c j*gsE G l x j) n
  | 0,_,x,hx=>by show extG G n c x n=_;unfold extG;rw [if_neg hx,if_pos rfl];rfl
  | l+1,hl,x,hx=>by
    have ih:=ext_col l (by omega)
    rw [gsE_succ,ih x hx,ih l (by omega),ext_lo l (by omega) x l hx (by omega),ext_lo l (by omega) l l (by omega) (by omega)]
    rw [Rat.div_def,mul_sumQ,sumQ_mul,←sumQ_sub]
    apply sumQ_congr
    intro j hj
    rw [gsE_succ];grind
theorem ext_dia:∀l,l≤n→gsE (extG G n c) l n n=sumQ (fun i=>sumQ (fun j=>c i*c j*gsE G l i j) n) n
  | 0,_=>by show extG G n c n n=_;unfold extG;rw [if_pos rfl,if_pos rfl];rfl
  | l+1,hl=>by
    have ih:=ext_dia l (by omega)
    rw [gsE_succ,ih,ext_row l (by omega) l (by omega),ext_col l (by omega) l (by omega),ext_lo l (by omega) l l (by omega) (by omega)]
    rw [sumQ_mul,Rat.div_def,sumQ_mul,←sumQ_sub]
    apply sumQ_congr
    intro i hi
    rw [mul_sumQ,sumQ_mul,←sumQ_sub]
    apply sumQ_congr
    intro j hj
    rw [gsE_succ];grind
theorem gsE_gone (hs:∀i j,G i j=G j i) (hn:∀l,l<n→gsE G l l l≠0):∀l,l≤n→∀i j,(i<l∨j<l)→gsE G l i j=0
  | 0,_,i,j,h=>absurd h (by omega)
  | l+1,hl,i,j,h=>by
    have ih:=gsE_gone hs hn l (by omega)
    have h0:=hn l (by omega)
    rw [gsE_succ]
    by_cases hi:i<l
    · rw [ih i j (.inl hi),ih i l (.inl hi)];grind
    · by_cases hj:j<l
      · rw [ih i j (.inr hj),ih l j (.inr hj)];grind
      · by_cases e:i=l
        · subst e;grind
        · have e2:j=l:=by omega
          subst e2;grind
theorem pyth (hs:∀i j,G i j=G j i) (x:Nat):∀l,gsE G 0 x x=gsE G l x x+sumQ (fun k=>gsE G k x k*gsE G k x k/gsE G k k k) l
  | 0=>by rw [sumQ];grind
  | l+1=>by
    rw [pyth hs x l,gsE_succ G l,sumQ,gsE_sym hs l l x];grind
theorem ext_sym (hs:∀i j,G i j=G j i):∀i j,extG G n c i j=extG G n c j i:=by
  intro i j
  unfold extG
  by_cases hi:i=n <;> by_cases hj:j=n <;> simp only [hi,hj,if_true,if_false]
  · apply sumQ_congr;intro k _;rw [hs]
  · apply sumQ_congr;intro k _;rw [hs]
  · exact hs i j
def qf (G:Nat→Nat→Rat) (n:Nat) (c:Nat→Rat):Rat:=sumQ (fun i=>sumQ (fun j=>c i*c j*G i j) n) n
def qy (G:Nat→Nat→Rat) (n:Nat) (c:Nat→Rat) (l:Nat):Rat:=sumQ (fun i=>c i*gsE G l i l) n
theorem qf_sum (hs:∀i j,G i j=G j i) (hn:∀l,l<n→gsE G l l l≠0):qf G n c=sumQ (fun l=>qy G n c l*qy G n c l/gsE G l l l) n:=by
  have h1:=pyth (ext_sym (n:=n) (c:=c) hs) n n
  have h2:gsE (extG G n c) 0 n n=qf G n c:=ext_dia 0 (Nat.zero_le _)
  have h3:gsE (extG G n c) n n n=0:=by
    rw [ext_dia n (Nat.le_refl _),sumQ_congr (g:=fun _=>0),sumQ_zero]
    intro i hi
    rw [sumQ_congr (g:=fun _=>0),sumQ_zero]
    intro j hj
    rw [gsE_gone hs hn n (Nat.le_refl _) i j (.inl hi)];grind
  rw [h2,h3] at h1
  rw [h1,sumQ_congr (g:=fun l=>qy G n c l*qy G n c l/gsE G l l l)]
  · grind
  · intro l hl
    rw [ext_row l (by omega) l (by omega),ext_lo l (by omega) l l (by omega) (by omega)];rfl
theorem qf_term (hs:∀i j,G i j=G j i) (hn:∀l,l<n→0<gsE G l l l):(∀l,l<n→0≤qy G n c l*qy G n c l/gsE G l l l):=fun l hl=>by
  rw [Rat.div_def]
  exact Rat.mul_nonneg (sq_nonneg _) (Rat.le_of_lt (Rat.inv_pos.2 (hn l hl)))
theorem pos_ne {q:Rat} (h:0<q):q≠0:=fun e=>by rw [e] at h;exact absurd h (by decide)
theorem qy_le (hs:∀i j,G i j=G j i) (hn:∀l,l<n→0<gsE G l l l) {l:Nat} (hl:l<n):qy G n c l*qy G n c l≤qf G n c*gsE G l l l:=by
  have h1:=sumQ_le_of (qf_term (c:=c) hs hn) hl
  rw [←qf_sum hs (fun l hl=>pos_ne (hn l hl))] at h1
  have h2:=Rat.mul_le_mul_of_nonneg_right h1 (Rat.le_of_lt (hn l hl))
  have h3:qy G n c l*qy G n c l/gsE G l l l*gsE G l l l=qy G n c l*qy G n c l:=by
    have:=pos_ne (hn l hl);grind
  rwa [h3] at h2
end
theorem qG_sy {G:Fi} (hs:SymG G):∀i j,qG G i j=qG G j i:=fun i j=>by unfold qG;rw [hs i j]
section
variable {G:Fi} {n:Nat}
theorem frS_p (hs:SymG G) (hp:PosU G n) {l} (hl:l<n):0<frS G l:=piv_pos hs hp hl
theorem frM_mul (hs:SymG G) (hp:PosU G n) {x l} (hl:l<n):frM G x l*frS G l=gsE (qG G) l x l:=by
  have:=piv_ne hs hp hl
  unfold frM frS;grind
theorem norm_sum (hs:SymG G) (hp:PosU G n) (x:Nat):∀l,l≤n→(G x x:Rat)=gsE (qG G) l x x+sumQ (fun k=>frM G x k*frM G x k*frS G k) l:=fun l hl=>by
  have h:=pyth (qG_sy hs) x l
  have e:gsE (qG G) 0 x x=(G x x:Rat):=rfl
  rw [e] at h
  rw [h]
  congr 1
  apply sumQ_congr
  intro k hk
  have h0:=piv_ne hs hp (show k<n by omega)
  unfold frM frS;grind
theorem term_nonneg (hs:SymG G) (hp:PosU G n) (x:Nat) {k} (hk:k<n):0≤frM G x k*frM G x k*frS G k:=Rat.mul_nonneg (sq_nonneg _) (Rat.le_of_lt (frS_p hs hp hk))
theorem frS_le (hs:SymG G) (hp:PosU G n) {x} (hx:x<n):frS G x≤(G x x:Rat):=by
  have h1:=norm_sum hs hp x x (by omega)
  have h2:=sumQ_nonneg (f:=fun k=>frM G x k*frM G x k*frS G k) (n:=x) (fun k hk=>term_nonneg hs hp x (by omega))
  unfold frS;grind
theorem dia_pos (hs:SymG G) (hp:PosU G n) {x} (hx:x<n):0<G x x:=by
  have h1:=frS_le hs hp hx
  have h2:=frS_p hs hp hx
  have h3:(0:Rat)<(G x x:Rat):=by grind
  exact_mod_cast h3
theorem term_le (hs:SymG G) (hp:PosU G n) {x l} (hl:l<x) (hx:x<n):frM G x l*frM G x l*frS G l≤(G x x:Rat):=by
  have h1:=norm_sum hs hp x x (by omega)
  have h2:=sumQ_le_of (f:=fun k=>frM G x k*frM G x k*frS G k) (n:=x) (fun k hk=>term_nonneg hs hp x (by omega)) hl
  have h3:=frS_p hs hp hx
  unfold frS at h3
  grind
theorem uD_succ (hs:SymG G) (hp:PosU G n) {l} (hl:l<n):(uD G (l+1):Rat)=(uD G l:Rat)*frS G l:=by
  rw [uD_q hs (hp.le (show l+1≤n by omega)),uD_q hs (hp.le (show l≤n by omega))];rfl
theorem uE_fr (hs:SymG G) (hp:PosU G n) {x l} (hl:l<x) (hx:x<n):(uE G l x l:Rat)=(uD G (l+1):Rat)*frM G x l:=by
  rw [uE_q hs (hp.le (show l≤n by omega)) (show l≤x by omega) (Nat.le_refl l),uD_succ hs hp (show l<n by omega),uD_q hs (hp.le (show l≤n by omega)),Rat.mul_assoc,Rat.mul_comm (frS G l),frM_mul hs hp (show l<n by omega)]
theorem uE_sq (hs:SymG G) (hp:PosU G n) {x l} (hl:l<x) (hx:x<n):uE G l x l*uE G l x l≤uD G l*uD G (l+1)*G x x:=by
  have h1:=term_le hs hp hl hx
  have d0:(0:Rat)≤(uD G l:Rat):=by have:=hp.uD (show l≤n by omega);exact_mod_cast Int.le_of_lt this
  have d1:(0:Rat)≤(uD G (l+1):Rat):=by have:=hp.uD (show l+1≤n by omega);exact_mod_cast Int.le_of_lt this
  have h2:=Rat.mul_le_mul_of_nonneg_left h1 (Rat.mul_nonneg d0 d1)
  have e1:=uE_fr hs hp hl hx
  have e2:=uD_succ hs hp (show l<n by omega)
  have h3:((uE G l x l*uE G l x l:Int):Rat)≤((uD G l*uD G (l+1)*G x x:Int):Rat):=by
    rw [Rat.intCast_mul,Rat.intCast_mul,Rat.intCast_mul,e1]
    have:(uD G (l+1):Rat)*frM G x l*((uD G (l+1):Rat)*frM G x l)=(uD G l:Rat)*(uD G (l+1):Rat)*(frM G x l*frM G x l*frS G l):=by
      rw [e2];grind
    rw [this];exact h2
  exact_mod_cast h3
theorem row_dia (hs:SymG G) (hp:PosU G n) {k j} (hj:j<k) (hk:k<n) (t:Int):0<G k k+t*G k j+t*G k j+t*t*G j j:=by
  have h:=dia_pos (rowI_sym (i:=k) (j:=j) (q:=t) hs) (rowI_pos hs hp hj) hk
  unfold rowI at h
  simp only [if_true] at h
  rw [hs j k] at h
  omega
end
theorem rowI_dia (G:Fi) (hs:SymG G) (k j:Nat) (q:Int):rowI G k j q k k=G k k+q*G k j+q*G k j+q*q*G j j:=by
  unfold rowI;simp only [if_true];rw [hs j k]
theorem rowI_dia_ne (G:Fi) (k j:Nat) (q:Int) {x} (hx:x≠k):rowI G k j q x x=G x x:=by
  unfold rowI;simp [hx]
theorem Sz.sq {n:Nat} {z w:Int} (h:Sz n w) (hz:z*z≤w):Sz n z:=by
  refine h.le ?_
  have h1:z.natAbs≤(z*z).natAbs:=by
    rw [Int.natAbs_mul]
    by_cases e:z.natAbs=0
    · omega
    · exact Nat.le_mul_of_pos_left _ (by omega)
  have h2:(z*z).natAbs≤w.natAbs:=by
    have h0:0≤z*z:=by
      rcases Int.le_total 0 z with h | h
      · exact Int.mul_nonneg h h
      · exact Int.mul_nonneg_of_nonpos_of_nonpos h h
    omega
  omega
theorem near_spec (q:Rat):(nearQ q:Rat)≤q+1/2∧q+1/2<(nearQ q:Rat)+1:=by
  have hd:=rq_den_pos q
  have hdq:(0:Rat)<((rq q).2:Rat):=by exact_mod_cast hd
  have hne:((rq q).2:Rat)≠0:=pos_ne hdq
  have e:=rq_val q
  have ea:((rq q).1:Rat)=q*((rq q).2:Rat):=by rw [←e];grind
  have hdef:=Int.fmod_def ((rq q).1+(rq q).1+(rq q).2) ((rq q).2+(rq q).2)
  have f1:=Int.fmod_nonneg_of_pos ((rq q).1+(rq q).1+(rq q).2) (show 0<(rq q).2+(rq q).2 by omega)
  have f2:=Int.fmod_lt_of_pos ((rq q).1+(rq q).1+(rq q).2) (show 0<(rq q).2+(rq q).2 by omega)
  have hz:((rq q).1+(rq q).1+(rq q).2).fdiv ((rq q).2+(rq q).2)=nearQ q:=rfl
  rw [hz] at hdef
  generalize nearQ q=z at *
  generalize (rq q).1=a at *
  generalize (rq q).2=d at *
  have g1:(d+d)*z≤a+a+d:=by omega
  have g2:a+a+d<(d+d)*z+(d+d):=by omega
  have q1:(((d+d)*z:Int):Rat)≤((a+a+d:Int):Rat):=by exact_mod_cast g1
  have q2:((a+a+d:Int):Rat)<(((d+d)*z+(d+d):Int):Rat):=by exact_mod_cast g2
  rw [Rat.intCast_mul,Rat.intCast_add,Rat.intCast_add,Rat.intCast_add,ea] at q1
  rw [Rat.intCast_add,Rat.intCast_add,Rat.intCast_add,Rat.intCast_mul,Rat.intCast_add,ea] at q2
  have hh:(0:Rat)<(d:Rat)+(d:Rat):=by grind
  constructor
  · rcases Rat.le_total (a:=(z:Rat)) (b:=q+1/2) with h | h
    · exact h
    · by_cases e2:(z:Rat)=q+1/2
      · rw [e2];exact Rat.le_refl
      · have h3:0<(z:Rat)-(q+1/2):=by grind
        have:=Rat.mul_pos hh h3
        grind
  · by_cases h:q+1/2<(z:Rat)+1
    · exact h
    · replace h:=Rat.not_lt.mp h
      have h3:0≤q+1/2-((z:Rat)+1):=by grind
      have:=Rat.mul_nonneg (Rat.le_of_lt hh) h3
      grind
def half (q:Rat):Prop:=-1≤q+q∧q+q≤1
theorem near_half (q:Rat):half (q-(nearQ q:Rat)):=by
  obtain ⟨h1,h2⟩:=near_spec q
  constructor <;> grind
theorem near_zero {q:Rat} (h:nearQ q=0):half q:=by
  have:=near_half q
  rw [h] at this
  have e:q-((0:Int):Rat)=q:=by simp;grind
  rwa [e] at this
theorem half_sq {q:Rat} (h:half q):q*q≤1/4:=by
  obtain ⟨h1,h2⟩:=h
  have:=Rat.mul_nonneg (a:=1-(q+q)) (b:=1+(q+q)) (by grind) (by grind)
  grind
theorem near_sq (q:Rat):(nearQ q:Rat)*(nearQ q:Rat)≤4*(q*q):=by
  by_cases h0:nearQ q=0
  · rw [h0]
    have:=sq_nonneg q
    simp;grind
  · obtain ⟨h1,h2⟩:=near_spec q
    rcases Int.lt_or_gt_of_ne h0 with h | h
    · have h3:(nearQ q:Rat)≤-1:=by
        have h3:(nearQ q:Rat)≤((-1:Int):Rat):=Rat.intCast_le_intCast.mpr (by omega)
        exact h3
      have:=Rat.mul_nonneg (a:=(nearQ q:Rat)-2*q) (b:=-(nearQ q:Rat)-2*q) (by grind) (by grind)
      grind
    · have h3:(1:Rat)≤(nearQ q:Rat):=by
        have:1≤nearQ q:=by omega
        exact_mod_cast this
      have:=Rat.mul_nonneg (a:=2*q-(nearQ q:Rat)) (b:=2*q+(nearQ q:Rat)) (by grind) (by grind)
      grind
section
variable {G:Fi} {n:Nat}
theorem near_uE (hs:SymG G) (hp:PosU G n) {k j} (hj:j<k) (hk:k<n):nearQ (frM G k j)*nearQ (frM G k j)≤4*(uD G j*G k k):=by
  have h1:=near_sq (frM G k j)
  have h2:=term_le hs hp hj hk
  have d0:(0:Rat)<(uD G j:Rat):=by have:=hp.uD (show j≤n by omega);exact_mod_cast this
  have e2:=uD_succ hs hp (show j<n by omega)
  have d1:(1:Rat)≤(uD G (j+1):Rat):=by have:=hp.uD (show j+1≤n by omega);exact_mod_cast (show (1:Int)≤uD G (j+1) by omega)
  have h3:=Rat.mul_le_mul_of_nonneg_left h2 (Rat.le_of_lt d0)
  have h4:frM G k j*frM G k j≤(uD G j:Rat)*(frM G k j*frM G k j*frS G j):=by
    have e:(uD G j:Rat)*(frM G k j*frM G k j*frS G j)=frM G k j*frM G k j*(uD G (j+1):Rat):=by rw [e2];grind
    rw [e]
    have:=Rat.mul_le_mul_of_nonneg_left d1 (sq_nonneg (frM G k j))
    grind
  have h5:((nearQ (frM G k j)*nearQ (frM G k j):Int):Rat)≤((4*(uD G j*G k k):Int):Rat):=by
    rw [Rat.intCast_mul,Rat.intCast_mul,Rat.intCast_mul]
    have:(4:Rat)*(frM G k j*frM G k j)≤4*((uD G j:Rat)*(G k k:Rat)):=by grind
    have e4:((4:Int):Rat)=4:=rfl
    rw [e4]
    exact Rat.le_trans h1 this
  exact_mod_cast h5
theorem grow_dia (hs:SymG G) (hp:PosU G n) {k j} (hj:j<k) (hk:k<n) (q:Int):rowI G k j q k k≤2*G k k+2*(q*q*G j j):=by
  have h:=row_dia hs hp hj hk (-q)
  rw [rowI_dia G hs]
  have e1 : -q*G k j = -(q*G k j):=Int.neg_mul _ _
  have e2 : -q * -q*G j j=q*q*G j j:=by rw [Int.neg_mul_neg]
  rw [e1,e2] at h
  omega
theorem short_row (hs:SymG G) (hp:PosU G n) {M:Rat} (hM:∀l,l<n→frS G l≤M) {x} (hx:x<n) (hn:n≤12) (hh:∀l,l<x→half (frM G x l)):(G x x:Rat)≤4*M:=by
  have h1:=norm_sum hs hp x x (by omega)
  have hM0:0≤M:=Rat.le_trans (Rat.le_of_lt (frS_p hs hp hx)) (hM x hx)
  have h2:sumQ (fun k=>frM G x k*frM G x k*frS G k) x≤sumQ (fun _=>1/4*M) x:=sumQ_le fun k hk=>by
    have a1:=half_sq (hh k hk)
    have a2:=Rat.mul_le_mul_of_nonneg_right a1 (Rat.le_of_lt (frS_p hs hp (show k<n by omega)))
    have a3:=Rat.mul_le_mul_of_nonneg_left (hM k (by omega)) (show (0:Rat)≤1/4 by grind)
    exact Rat.le_trans a2 a3
  rw [sumQ_const] at h2
  have h3:((x:Nat):Rat)≤12:=by exact_mod_cast (show x≤12 by omega)
  have h4:=Rat.mul_le_mul_of_nonneg_right h3 (show 0≤1/4*M by have:=Rat.mul_nonneg (show (0:Rat)≤1/4 by grind) hM0;exact this)
  have h5:gsE (qG G) x x x≤M:=hM x hx
  grind
end
def lov (G:Fi) (x:Nat):Prop:=(3/4:Rat)*frS G (x-1)≤frS G x+frM G x (x-1)*frM G x (x-1)*frS G (x-1)
section
variable {G:Fi} {n:Nat}
theorem frS_row (hs:SymG G) (hp:PosU G n) {k j:Nat} (hj:j<k) (t:Int) {l:Nat} (hl:l<n):frS (rowI G k j t) l=frS G l:=by
  unfold frS;rw [qG_row];exact gsE_row_piv hj l fun i hi=>piv_ne hs hp (by omega)
theorem frM_row_hi (hs:SymG G) (hp:PosU G n) {k j:Nat} (hj:j<k) (t:Int) {x l:Nat} (hjl:j<l) (hl:l<n):frM (rowI G k j t) x l=frM G x l:=by
  unfold frM;rw [qG_row,gsE_row_hi hj l hjl (fun i hi=>piv_ne hs hp (by omega)),gsE_row_hi hj l hjl (fun i hi=>piv_ne hs hp (by omega))]
theorem frM_row_ne (hs:SymG G) (hp:PosU G n) {k j:Nat} (hj:j<k) (t:Int) {x l:Nat} (hx:x≠k) (hl:l<n):frM (rowI G k j t) x l=frM G x l:=by
  by_cases h:j<l
  · exact frM_row_hi hs hp hj t h hl
  · unfold frM
    rw [qG_row,gsE_row_piv hj l fun i hi=>piv_ne hs hp (by omega),gsE_row hj l (by omega) (fun i hi=>piv_ne hs hp (by omega)),cI_ne hx,cI_ne (show l≠k by omega)]
    congr 1;grind
theorem frM_row_at (hs:SymG G) (hp:PosU G n) {k j:Nat} (hj:j<k) (t:Int) (hn:j<n):frM (rowI G k j t) k j=frM G k j+(t:Rat):=by
  have h0:=piv_ne hs hp hn
  unfold frM
  rw [qG_row,gsE_row_piv hj j fun i hi=>piv_ne hs hp (by omega),gsE_row hj j (by omega) (fun i hi=>piv_ne hs hp (by omega)),cI_eq,cI_ne (show j≠k by omega)]
  grind
end
structure LC (G0:Fi) (n:Nat) (M Dm:Int) (G:Fi):Prop where
  s:SymG G
  p:PosU G n
  d:∀l,l≤n→uD G l≤Dm
  t:uD G n=uD G0 n
  m:∀l,l<n→frS G l≤(M:Rat)
structure LL (G0:Fi) (n:Nat) (M Dm:Int) (G:Fi) (a b:Nat):Prop where
  c:LC G0 n M Dm G
  z:∀x,x<n→G x x≤4*M
  h:∀x,x<a→∀l,l<x→half (frM G x l)
  v:∀x,0<x→x<b→lov G x
structure LR (G0:Fi) (n:Nat) (M Dm:Int) (G:Fi) (k j:Nat):Prop where
  c:LC G0 n M Dm G
  z:∀x,x<n→x≠k→G x x≤4*M
  zk:G k k≤4*M*(2+32*Dm*M)^(k-j)
  h:∀x,x<k→∀l,l<x→half (frM G x l)
  v:∀x,0<x→x<k→lov G x
  hk:∀l,j≤l→l<k→half (frM G k l)
section
variable {G0 G:Fi} {n:Nat} {M Dm:Int}
theorem LC.d1 (h:LC G0 n M Dm G):1≤Dm:=h.d 0 (Nat.zero_le _)
theorem LC.m1 (h:LC G0 n M Dm G) (h0:0<n):0<M:=by
  have h1:=frS_p h.s h.p h0
  have h2:=h.m 0 h0
  have h3:((0:Int):Rat)<(M:Rat):=by have e:((0:Int):Rat)=0:=rfl;rw [e];grind
  exact Rat.intCast_lt_intCast.mp h3
theorem LC.k1 (h:LC G0 n M Dm G) (h0:0<n):1≤2+32*Dm*M:=by
  have:=Int.mul_pos (show 0<Dm by have:=h.d1;omega) (h.m1 h0)
  rw [Int.mul_assoc];omega
theorem LL.start {k:Nat} (h:LL G0 n M Dm G k k) (hk:k<n):LR G0 n M Dm G k k:=
  ⟨h.c,fun x hx _=>h.z x hx,by rw [Nat.sub_self,Int.pow_zero,Int.mul_one];exact h.z k hk,h.h,h.v,fun l h1 h2=>absurd h1 (by omega)⟩
theorem LR.grow {k j:Nat} (h:LR G0 n M Dm G k (j+1)) (hj:j<k) (hk:k<n):0<G k k∧G k k*(2+32*Dm*M)≤4*M*(2+32*Dm*M)^(k-j):=by
  refine ⟨dia_pos h.c.s h.c.p hk,?_⟩
  have h1:=h.c.k1 (by omega)
  have h2:=Int.mul_le_mul_of_nonneg_right h.zk (show 0≤2+32*Dm*M by omega)
  rw [show k-j=(k-(j+1))+1 by omega,Int.pow_succ,←Int.mul_assoc]
  exact h2
theorem LR.zero {k j:Nat} (h:LR G0 n M Dm G k (j+1)) (hj:j<k) (hk:k<n) (hz:nearQ (frM G k j)=0):LR G0 n M Dm G k j:=by
  obtain ⟨g0,g1⟩:=h.grow hj hk
  refine ⟨h.c,h.z,?_,h.h,h.v,fun l h1 h2=>?_⟩
  · have h1:=h.c.k1 (by omega)
    have h2:=Int.mul_le_mul_of_nonneg_left h1 (Int.le_of_lt g0)
    omega
  · by_cases e:l=j
    · subst e;exact near_zero hz
    · exact h.hk l (by omega) h2
theorem LR.step {k j:Nat} (h:LR G0 n M Dm G k (j+1)) (hj:j<k) (hk:k<n):LR G0 n M Dm (rowI G k j (-(nearQ (frM G k j)))) k j:=by
  obtain ⟨g0,g1⟩:=h.grow hj hk
  have hs:=h.c.s
  have hp:=h.c.p
  have hq:=near_uE hs hp hj hk
  refine ⟨⟨rowI_sym hs,rowI_pos hs hp hj,fun l hl=>by rw [rowI_uD hs hp hj hl];exact h.c.d l hl,by rw [rowI_uD hs hp hj (Nat.le_refl n)];exact h.c.t,fun l hl=>by rw [frS_row hs hp hj _ hl];exact h.c.m l hl⟩,fun x hx hxk=>by rw [rowI_dia_ne _ _ _ _ hxk];exact h.z x hx hxk,?_,fun x hx l hl=>by rw [frM_row_ne hs hp hj _ (by omega) (by omega)];exact h.h x hx l hl,fun x h1 h2=>by unfold lov;rw [frM_row_ne hs hp hj _ (by omega) (by omega),frS_row hs hp hj _ (by omega),frS_row hs hp hj _ (by omega)];exact h.v x h1 h2,fun l h1 h2=>?_⟩
  · have e:=grow_dia hs hp hj hk (-(nearQ (frM G k j)))
    rw [Int.neg_mul_neg] at e
    have d1:=h.c.d j (by omega)
    have d0:=h.c.p.uD (show j≤n by omega)
    have j1:=h.z j (by omega) (by omega)
    have j0:=dia_pos hs hp (show j<n by omega)
    have m0:=h.c.m1 (by omega)
    generalize nearQ (frM G k j)=q at *
    have a1:uD G j*G k k≤Dm*G k k:=Int.mul_le_mul_of_nonneg_right d1 (Int.le_of_lt g0)
    have a2:q*q≤4*(Dm*G k k):=by omega
    have a3:q*q*G j j≤4*(Dm*G k k)*(4*M):=Int.mul_le_mul a2 j1 (Int.le_of_lt j0) (by have:=Int.mul_pos (show 0<Dm by omega) g0;omega)
    have a4:G k k*(2+32*Dm*M)=2*G k k+2*(4*(Dm*G k k)*(4*M)):=by grind
    omega
  · by_cases e:l=j
    · subst e
      rw [frM_row_at hs hp hj _ (by omega),Rat.intCast_neg]
      have:=near_half (frM G k l)
      rwa [Rat.sub_eq_add_neg] at this
    · rw [frM_row_hi hs hp hj _ (by omega) (by omega)];exact h.hk l (by omega) h2
theorem LR.fin {k:Nat} (h:LR G0 n M Dm G k 0) (hk:k<n) (h12:n≤12):LL G0 n M Dm G (k+1) k:=by
  have hh:∀x,x<k+1→∀l,l<x→half (frM G x l):=fun x hx l hl=>by
    by_cases e:x=k
    · subst e;exact h.hk l (Nat.zero_le _) hl
    · exact h.h x (by omega) l hl
  refine ⟨h.c,fun x hx=>?_,hh,h.v⟩
  by_cases e:x=k
  · subst e
    have h1:=short_row h.c.s h.c.p h.c.m hx h12 (hh x (by omega))
    have h2:((G x x:Int):Rat)≤((4*M:Int):Rat):=by rw [Rat.intCast_mul];exact h1
    exact Rat.intCast_le_intCast.mp h2
  · exact h.z x hx e
theorem LL.yes {k:Nat} (h:LL G0 n M Dm G (k+1) k) (hl:lov G k):LL G0 n M Dm G (k+1) (k+1):=
  ⟨h.c,h.z,h.h,fun x h1 h2=>by
    by_cases e:x=k
    · subst e;exact hl
    · exact h.v x h1 (by omega)⟩
theorem LL.one (h:LL G0 n M Dm G 0 0):LL G0 n M Dm G 1 1:=⟨h.c,h.z,fun x hx l hl=>absurd hl (by omega),fun x h1 h2=>absurd h1 (by omega)⟩
theorem swp_frS (hs:SymG G) (hp:PosU G n) {p:Nat} (h:p+1<n):frS (swpI G p) p=frS G (p+1)+frM G (p+1) p*frM G (p+1) p*frS G p∧frS (swpI G p) (p+1)*frS (swpI G p) p=frS G p*frS G (p+1):=by
  have h0:=piv_ne hs hp (show p<n by omega)
  have e1:frS (swpI G p) p=gsE (qG G) p (p+1) (p+1):=by
    unfold frS;rw [qG_swp,gsE_swp_lo p (Nat.le_refl p),sg_p]
  have e2:gsE (qG G) (p+1) (p+1) (p+1)=gsE (qG G) p (p+1) (p+1)-gsE (qG G) p (p+1) p*gsE (qG G) p p (p+1)/gsE (qG G) p p p:=gsE_succ _ _ _ _
  have e3:gsE (qG G) p p (p+1)=gsE (qG G) p (p+1) p:=gsE_sym (qG_sy hs) p _ _
  have c0:=(swp_c hs hp h).1
  have e4:frS (swpI G p) (p+1)=gsE (qG G) p p p-gsE (qG G) p p (p+1)*gsE (qG G) p (p+1) p/gsE (qG G) p (p+1) (p+1):=by
    unfold frS;rw [qG_swp,gsE_swp_1,sg_q]
  have c1:gsE (qG G) p (p+1) (p+1)≠0:=pos_ne c0
  rw [e3] at e2 e4
  constructor
  · rw [e1];unfold frM frS;rw [e2];grind
  · rw [e1,e4];unfold frS;rw [e2];grind
theorem uD_swp_lt (hs:SymG G) (hp:PosU G n) {p:Nat} (h:p+1<n) (hl:¬lov G (p+1)):frS (swpI G p) p<frS G p∧uD (swpI G p) (p+1)<uD G (p+1):=by
  have e:=(swp_frS hs hp h).1
  have s0:=frS_p hs hp (show p<n by omega)
  have hn:frS (swpI G p) p<frS G p:=by
    have hl2:=hl
    unfold lov at hl2
    rw [show p+1-1=p by omega] at hl2
    have:=Rat.not_le.mp hl2
    grind
  refine ⟨hn,?_⟩
  have h2:=swpI_pos hs hp h
  have u1:=uD_succ (swpI_sym (p:=p) hs) h2 (show p<n by omega)
  have u2:=uD_succ hs hp (show p<n by omega)
  rw [swpI_uD hs hp h (show p≤n by omega) (by omega)] at u1
  have d0:(0:Rat)<(uD G p:Rat):=by have:=hp.uD (show p≤n by omega);exact_mod_cast this
  have h3:((uD (swpI G p) (p+1):Int):Rat)<((uD G (p+1):Int):Rat):=by
    rw [u1,u2]
    exact Rat.mul_lt_mul_of_pos_left hn d0
  exact Rat.intCast_lt_intCast.mp h3
theorem frS_swp_ne (hs:SymG G) (hp:PosU G n) {p:Nat} (h:p+1<n) {l:Nat} (hl:l<n) (h1:l≠p) (h2:l≠p+1):frS (swpI G p) l=frS G l:=by
  unfold frS
  rw [qG_swp]
  by_cases e:l≤p
  · rw [gsE_swp_lo l e,sg_ne h1 h2]
  · exact gsE_swp_hi (qG_sy hs) (piv_ne hs hp (show p<n by omega)) (pos_ne (swp_c hs hp h).1) (piv_ne hs hp h) l (by omega) l l (Nat.le_refl l) (Nat.le_refl l)
theorem frM_swp_lo (hs:SymG G) (hp:PosU G n) {p:Nat} (h:p+1<n) {x l:Nat} (hx:x<p) (hl:l<x):frM (swpI G p) x l=frM G x l:=by
  unfold frM
  rw [qG_swp,gsE_swp_lo l (by omega),gsE_swp_lo l (by omega),sg_ne (show x≠p by omega) (by omega),sg_ne (show l≠p by omega) (by omega)]
theorem LL.no {p:Nat} (h:LL G0 n M Dm G (p+2) (p+1)) (hp1:p+1<n) (hl:¬lov G (p+1)):LL G0 n M Dm (swpI G p) p p:=by
  have hs:=h.c.s
  have hp:=h.c.p
  obtain ⟨s1,s2⟩:=uD_swp_lt hs hp hp1 hl
  obtain ⟨e1,e2⟩:=swp_frS hs hp hp1
  have hp2:=swpI_pos hs hp hp1
  have f0:=frS_p hs hp (show p<n by omega)
  have f1:=frS_p hs hp hp1
  have g0:=frS_p (swpI_sym (p:=p) hs) hp2 (show p<n by omega)
  refine ⟨⟨swpI_sym hs,hp2,fun l hl2=>?_,?_,fun l hl2=>?_⟩,fun x hx=>?_,fun x hx l hl2=>?_,fun x h1 h2=>?_⟩
  · by_cases e:l=p+1
    · subst e;have:=h.c.d (p+1) hl2;omega
    · rw [swpI_uD hs hp hp1 hl2 e];exact h.c.d l hl2
  · by_cases e:n=p+1
    · omega
    · rw [swpI_uD hs hp hp1 (Nat.le_refl n) (by omega)];exact h.c.t
  · by_cases e:l=p
    · subst e;have:=h.c.m l hl2;grind
    · by_cases e3:l=p+1
      · subst e3
        have a1:=h.c.m p (by omega)
        have a2:frS G (p+1)≤frS (swpI G p) p:=by
          have:=Rat.mul_nonneg (sq_nonneg (frM G (p+1) p)) (Rat.le_of_lt f0)
          grind
        have a3:=Rat.mul_le_mul_of_nonneg_left a2 (Rat.le_of_lt f0)
        have a4:frS (swpI G p) (p+1)≤frS G p:=by
          by_cases c:frS (swpI G p) (p+1)≤frS G p
          · exact c
          · have c2:=Rat.mul_lt_mul_of_pos_right (Rat.not_le.mp c) g0
            grind
        exact Rat.le_trans a4 a1
      · rw [frS_swp_ne hs hp hp1 hl2 e e3];exact h.c.m l hl2
  · show G (sg p x) (sg p x)≤4*M
    refine h.z _ ?_
    unfold sg;split
    · omega
    · split <;> omega
  · rw [frM_swp_lo hs hp hp1 hx hl2];exact h.h x (by omega) l hl2
  · have:=h.v x h1 (by omega)
    unfold lov at this ⊢
    rw [frM_swp_lo hs hp hp1 h2 (by omega),frS_swp_ne hs hp hp1 (show x<n by omega) (by omega) (by omega),frS_swp_ne hs hp hp1 (show x-1<n by omega) (by omega) (by omega)]
    exact this
def sumD (G:Fi) (n:Nat):Nat:=(sumN (fun l=>uD G l) n).toNat
theorem sumN_le {f g:Nat→Int}:∀{n},(∀i,i<n→f i≤g i)→sumN f n≤sumN g n
  | 0,_=>Int.le_refl _
  | n+1,h=>by
    have h1:=sumN_le (n:=n) (fun i hi=>h i (by omega))
    have h2:=h n (by omega)
    show sumN f n+f n≤sumN g n+g n
    omega
theorem sumN_lt {f g:Nat→Int} {k:Nat}:∀{n},(∀i,i<n→f i≤g i)→k<n→f k<g k→sumN f n<sumN g n
  | 0,_,hk,_=>absurd hk (by omega)
  | n+1,h,hk,hl=>by
    show sumN f n+f n<sumN g n+g n
    by_cases e:k=n
    · subst e
      have h1:=sumN_le (n:=k) (fun i hi=>h i (by omega))
      omega
    · have h1:=sumN_lt (n:=n) (fun i hi=>h i (by omega)) (by omega) hl
      have h2:=h n (by omega)
      omega
theorem sumN_nonneg {f:Nat→Int}:∀{n},(∀i,i<n→0≤f i)→0≤sumN f n
  | 0,_=>Int.le_refl _
  | n+1,h=>by
    have h1:=sumN_nonneg (n:=n) (fun i hi=>h i (by omega))
    have h2:=h n (by omega)
    show 0≤sumN f n+f n
    omega
theorem sumD_row (hs:SymG G) (hp:PosU G n) {k j:Nat} (hj:j<k) (t:Int):sumD (rowI G k j t) n=sumD G n:=by
  unfold sumD;rw [sumN_congr fun l hl=>rowI_uD hs hp hj (Nat.le_of_lt hl)]
theorem sumD_swp (hs:SymG G) (hp:PosU G n) {p:Nat} (h:p+1<n) (hl:¬lov G (p+1)):sumD (swpI G p) n<sumD G n:=by
  have h2:=(uD_swp_lt hs hp h hl).2
  have hp2:=swpI_pos hs hp h
  have a:=sumN_lt (f:=fun l=>uD (swpI G p) l) (g:=fun l=>uD G l) (n:=n) (k:=p+1) (fun l hl2=>by
    by_cases e:l=p+1
    · subst e;omega
    · rw [swpI_uD hs hp h (Nat.le_of_lt hl2) e];exact Int.le_refl _) h h2
  have b:=sumN_nonneg (f:=fun l=>uD (swpI G p) l) (n:=n) (fun l hl2=>by have:=hp2.uD (show l≤n by omega);omega)
  unfold sumD
  omega
end
structure wi (q b:Rat):Prop where
  lo : -b≤q
  hi:q≤b
theorem wi_add {q b r c:Rat} (h:wi q b) (h2:wi r c):wi (q+r) (b+c):=by
  have h1:=h.lo;have h3:=h.hi;have h4:=h2.lo;have h5:=h2.hi;constructor <;> grind
theorem wi_sub {q b r c:Rat} (h:wi q b) (h2:wi r c):wi (q-r) (b+c):=by
  have h1:=h.lo;have h3:=h.hi;have h4:=h2.lo;have h5:=h2.hi;constructor <;> grind
theorem wi_le {q b c:Rat} (h:wi q b) (h2:b≤c):wi q c:=by
  have h1:=h.lo;have h3:=h.hi;constructor <;> grind
theorem wi_mul {q b r c:Rat} (h:wi q b) (h2:wi r c):wi (q*r) (b*c):=by
  have h1:=h.lo;have h3:=h.hi;have h4:=h2.lo;have h5:=h2.hi
  have a1:=Rat.mul_nonneg (a:=b-q) (b:=c+r) (by grind) (by grind)
  have a2:=Rat.mul_nonneg (a:=b+q) (b:=c-r) (by grind) (by grind)
  have a3:=Rat.mul_nonneg (a:=b-q) (b:=c-r) (by grind) (by grind)
  have a4:=Rat.mul_nonneg (a:=b+q) (b:=c+r) (by grind) (by grind)
  constructor <;> grind
theorem wi_sq {q b:Rat} (h:q*q≤b) (h1:1≤b):wi q b:=by
  constructor
  · by_cases c : -b≤q
    · exact c
    · have a:=Rat.not_le.mp c
      have:=Rat.mul_nonneg (a:=-q-1) (b:=-q) (by grind) (by grind)
      grind
  · by_cases c:q≤b
    · exact c
    · have a:=Rat.not_le.mp c
      have:=Rat.mul_nonneg (a:=q-1) (b:=q) (by grind) (by grind)
      grind
theorem wi_sum {f:Nat→Rat} {b:Rat}:∀{n},(∀i,i<n→wi (f i) b)→wi (sumQ f n) ((n:Rat)*b)
  | 0,_=>by
    have e:((0:Nat):Rat)*b=0:=by simp
    rw [e]
    constructor
    · show (-0:Rat)≤0;grind
    · show (0:Rat)≤0;grind
  | n+1,h=>by
    have h1:=wi_sum (n:=n) fun i hi=>h i (by omega)
    have h2:=wi_add h1 (h n (by omega))
    have e:((n+1:Nat):Rat)*b=(n:Rat)*b+b:=by push_cast;grind
    rw [e];exact h2
def bdC (T K:Int):Nat→Int
  | 0=>T
  | m+1=>bdC T K m*K
theorem bdC_pos {T K:Int} (hT:0<T) (hK:0<K):∀m,0<bdC T K m
  | 0=>hT
  | m+1=>Int.mul_pos (bdC_pos hT hK m) hK
theorem bdC_mono {T K:Int} (hT:0<T) (hK:0<K):∀m,bdC T K m≤bdC T K (m+1):=fun m=>by
  show bdC T K m≤bdC T K m*K
  have:=Int.mul_le_mul_of_nonneg_left (show 1≤K by omega) (Int.le_of_lt (bdC_pos hT hK m))
  omega
theorem bdC_ge {T K:Int} (hT:0<T) (hK:0<K):∀m,T≤bdC T K m
  | 0=>Int.le_refl _
  | m+1=>Int.le_trans (bdC_ge hT hK m) (bdC_mono hT hK m)
theorem bdC_pow {t k:Nat} {T K:Int} (hT:0<T) (hK:0<K) (h1:T≤((2^t:Nat):Int)) (h2:K≤((2^k:Nat):Int)):∀m,bdC T K m≤((2^(t+k*m):Nat):Int)
  | 0=>h1
  | m+1=>by
    show bdC T K m*K≤_
    have h3:=Int.mul_le_mul (bdC_pow hT hK h1 h2 m) h2 (Int.le_of_lt hK) (Int.natCast_nonneg _)
    rw [show t+k*(m+1)=t+k*m+k by rw [Nat.mul_add];omega,Nat.pow_add]
    push_cast at h3 ⊢
    exact h3
theorem wi_int {z b:Int} (h:wi (z:Rat) (b:Rat)) : -b≤z∧z≤b:=by
  have h1:=h.lo
  rw [←Rat.intCast_neg] at h1
  exact ⟨Rat.intCast_le_intCast.mp h1,Rat.intCast_le_intCast.mp h.hi⟩
section
variable {G:Fi} {n:Nat}
theorem qy_split (hs:SymG G) (hp:PosU G n) (c:Nat→Rat) {l:Nat} (hl:l<n):qy (qG G) n c l=(c l+sumQ (fun i=>if l<i then c i*frM G i l else 0) n)*frS G l:=by
  unfold qy
  have e:∀i,i<n→c i*gsE (qG G) l i l=(if i=l then c l*frS G l else 0)+(if l<i then c i*frM G i l else 0)*frS G l:=fun i hi=>by
    by_cases h1:i=l
    · subst h1;rw [if_pos rfl,if_neg (by omega)];unfold frS;grind
    · rw [if_neg h1]
      by_cases h2:l<i
      · rw [if_pos h2,←frM_mul hs hp (show l<n by omega)];grind
      · rw [if_neg h2,gsE_gone (qG_sy hs) (fun k hk=>piv_ne hs hp hk) l (by omega) i l (Or.inl (by omega))];grind
  rw [sumQ_congr e,sumQ_add,←sumQ_mul,sumQ_one hl (fun i hi h=>if_neg h),if_pos rfl]
  grind
theorem coef_le (hs:SymG G) (hp:PosU G n) (h12:n≤12) {M Dm Q:Int} (hM:∀x,x<n→G x x≤M) (hD:∀l,l≤n→uD G l≤Dm) (c:Nat→Rat) (hQ:qf (qG G) n c≤(Q:Rat)) (hQ1:1≤Q) (hM1:1≤M):∀m,∀l,l<n→n≤l+m→wi (c l) ((bdC (Q*Dm) (1+12*(M*Dm)) m:Int):Rat)
  | 0,l,hl,hm=>absurd hl (by omega)
  | m+1,l,hl,hm=>by
    have ih:=coef_le hs hp h12 hM hD c hQ hQ1 hM1 m
    have hD1:1≤Dm:=hD 0 (Nat.zero_le _)
    have hT:0<Q*Dm:=Int.mul_pos (by omega) (by omega)
    have hR:0<M*Dm:=Int.mul_pos (by omega) (by omega)
    have hK:0<1+12*(M*Dm):=by omega
    have hb:=bdC_pos hT hK m
    have f0:=frS_p hs hp hl
    have u1:=uD_succ hs hp hl
    have d0:(0:Rat)<(uD G l:Rat):=by have:=hp.uD (show l≤n by omega);exact_mod_cast this
    have d1:((1:Int):Rat)≤(uD G (l+1):Rat):=Rat.intCast_le_intCast.mpr (by have:=hp.uD (show l+1≤n by omega);omega)
    have d2:(uD G l:Rat)≤(Dm:Rat):=Rat.intCast_le_intCast.mpr (hD l (by omega))
    have o1:((1:Int):Rat)=1:=rfl
    rw [o1] at d1
    -- 1 ≤ Dm * frS
    have g0:(1:Rat)≤(Dm:Rat)*frS G l:=by
      have:=Rat.mul_le_mul_of_nonneg_right d2 (Rat.le_of_lt f0)
      grind
    -- from z z frS ≤ B follows z z ≤ B Dm
    have key:∀(z B:Rat),z*z*frS G l≤B→z*z≤B*(Dm:Rat):=fun z B h=>by
      have a1:=Rat.mul_le_mul_of_nonneg_left g0 (sq_nonneg z)
      have a2:(0:Rat)≤(Dm:Rat):=by grind
      have a3:=Rat.mul_le_mul_of_nonneg_right h a2
      grind
    have hy:=qy_le (c:=c) (qG_sy hs) (fun k hk=>piv_pos hs hp hk) hl
    rw [qy_split hs hp c hl] at hy
    generalize hsm:sumQ (fun i=>if l<i then c i*frM G i l else 0) n=S at hy
    have hy2:(c l+S)*(c l+S)*frS G l≤(Q:Rat):=by
      have a1:(c l+S)*frS G l*((c l+S)*frS G l)=(c l+S)*(c l+S)*frS G l*frS G l:=by grind
      rw [a1] at hy
      have a2:qf (qG G) n c*gsE (qG G) l l l≤(Q:Rat)*frS G l:=Rat.mul_le_mul_of_nonneg_right hQ (Rat.le_of_lt f0)
      by_cases h:(c l+S)*(c l+S)*frS G l≤(Q:Rat)
      · exact h
      · have a3:=Rat.mul_lt_mul_of_pos_right (Rat.not_le.mp h) f0
        grind
    have w1:=wi_sq (q:=c l+S) (b:=((Q*Dm:Int):Rat)) (by rw [Rat.intCast_mul];exact key _ _ hy2) (by rw [←o1];exact Rat.intCast_le_intCast.mpr (by omega))
    have w2:wi S ((n:Rat)*((bdC (Q*Dm) (1+12*(M*Dm)) m*(M*Dm):Int):Rat)):=by
      rw [←hsm]
      refine wi_sum fun i hi=>?_
      by_cases h:l<i
      · rw [if_pos h,Rat.intCast_mul]
        refine wi_mul (ih i hi (by omega)) ?_
        have t:=term_le hs hp h hi
        have t2:(G i i:Rat)≤(M:Rat):=Rat.intCast_le_intCast.mpr (hM i hi)
        exact wi_sq (by rw [Rat.intCast_mul];exact key _ _ (Rat.le_trans t t2)) (by rw [←o1];exact Rat.intCast_le_intCast.mpr (by omega))
      · rw [if_neg h]
        have:(0:Rat)≤((bdC (Q*Dm) (1+12*(M*Dm)) m*(M*Dm):Int):Rat):=by
          have o0:((0:Int):Rat)=0:=rfl
          rw [←o0];exact Rat.intCast_le_intCast.mpr (Int.le_of_lt (Int.mul_pos hb hR))
        constructor <;> grind
    have w3:=wi_sub w1 w2
    have e3:c l+S-S=c l:=by grind
    rw [e3] at w3
    refine wi_le w3 ?_
    have hTm:Q*Dm≤bdC (Q*Dm) (1+12*(M*Dm)) m:=bdC_ge hT hK m
    have en:(n:Rat)*((bdC (Q*Dm) (1+12*(M*Dm)) m*(M*Dm):Int):Rat)=(((n:Int)*(bdC (Q*Dm) (1+12*(M*Dm)) m*(M*Dm)):Int):Rat):=by
      rw [Rat.intCast_mul (n:Int),Rat.intCast_natCast]
    rw [en,←Rat.intCast_add]
    refine Rat.intCast_le_intCast.mpr ?_
    show _≤bdC (Q*Dm) (1+12*(M*Dm)) m*(1+12*(M*Dm))
    generalize bdC (Q*Dm) (1+12*(M*Dm)) m=b at *
    have a1:=Int.mul_pos hb hR
    have a2:=Int.mul_le_mul_of_nonneg_right (show (n:Int)≤12 by omega) (Int.le_of_lt a1)
    have a3:b*(1+12*(M*Dm))=b+12*(b*(M*Dm)):=by grind
    omega
end
def fU (A:Fi) (n:Nat) (u:Fi):Fi:=fun x y=>sumN (fun j=>sumN (fun i=>u x i*A i j) n*u y j) n
theorem fU_add (A:Fi) (n:Nat) (a b c:Nat→Int) (s:Int):sumN (fun j=>sumN (fun i=>(a i+s*b i)*A i j) n*c j) n=sumN (fun j=>sumN (fun i=>a i*A i j) n*c j) n+s*sumN (fun j=>sumN (fun i=>b i*A i j) n*c j) n:=by
  rw [mul_sumN,←sumN_add]
  refine sumN_congr fun j _=>?_
  have e:sumN (fun i=>(a i+s*b i)*A i j) n=sumN (fun i=>a i*A i j) n+s*sumN (fun i=>b i*A i j) n:=by
    rw [mul_sumN,←sumN_add]
    refine sumN_congr fun i _=>?_
    show (a i+s*b i)*A i j=a i*A i j+s*(b i*A i j)
    grind
  rw [e];show _=_+s*(_*c j);grind
theorem fU_add2 (A:Fi) (n:Nat) (c a b:Nat→Int) (s:Int):sumN (fun j=>sumN (fun i=>c i*A i j) n*(a j+s*b j)) n=sumN (fun j=>sumN (fun i=>c i*A i j) n*a j) n+s*sumN (fun j=>sumN (fun i=>c i*A i j) n*b j) n:=by
  rw [mul_sumN,←sumN_add]
  refine sumN_congr fun j _=>?_
  show _*(a j+s*b j)=_*a j+s*(_*b j)
  grind
def rU (u:Fi) (k j:Nat) (q:Int):Fi:=fun x i=>u x i+(if x=k then q else 0)*u j i
theorem fU_row (A:Fi) (n:Nat) (u:Fi) {k j:Nat} (q:Int):fU A n (rU u k j q)=rowI (fU A n u) k j q:=by
  funext x y
  show sumN (fun j=>sumN (fun i=>(u x i+(if x=k then q else 0)*u _ i)*A i j) n*(u y j+(if y=k then q else 0)*u _ j)) n=_
  rw [fU_add,fU_add2,fU_add2]
  unfold rowI fU
  grind
theorem fU_swp (A:Fi) (n:Nat) (u:Fi) (p:Nat):fU A n (fun x=>u (sg p x))=swpI (fU A n u) p:=rfl
theorem fU_congr {A:Fi} {n:Nat} {u w:Fi} (h:∀x i,i<n→u x i=w x i):fU A n u=fU A n w:=by
  funext x y
  unfold fU
  refine sumN_congr fun j hj=>?_
  rw [h y j hj,sumN_congr fun i hi=>by rw [h x i hi]]
theorem sumN_one {f:Nat→Int} {k:Nat}:∀{n},k<n→(∀i,i<n→i≠k→f i=0)→sumN f n=f k
  | 0,hk,_=>absurd hk (by omega)
  | n+1,hk,h=>by
    show sumN f n+f n=f k
    by_cases e:k=n
    · subst e
      rw [sumN_congr (g:=fun _=>0) fun i hi=>h i (by omega) (by omega),sumN_zero];omega
    · rw [sumN_one (n:=n) (by omega) fun i hi=>h i (by omega),h n (by omega) (by omega)];omega
theorem fU_unit {A:Fi} {n:Nat} {u:Fi} (h:∀x i,i<n→u x i=if x=i then 1 else 0) (h0:∀x y,¬(x<n∧y<n)→A x y=0):fU A n u=A:=by
  funext x y
  unfold fU
  have e1:∀j,j<n→sumN (fun i=>u x i*A i j) n=A x j:=fun j hj=>by
    by_cases hx:x<n
    · rw [sumN_one hx fun i hi hne=>by show u x i*A i j=0;rw [h x i hi,if_neg (by omega)];omega,h x x hx,if_pos rfl];omega
    · rw [sumN_congr (g:=fun _=>0) fun i hi=>by show u x i*A i j=0;rw [h x i hi,if_neg (by omega)];omega,sumN_zero,h0 x j (by omega)]
  rw [sumN_congr fun j hj=>by rw [e1 j hj]]
  by_cases hy:y<n
  · rw [sumN_one hy fun i hi hne=>by show A x i*u y i=0;rw [h y i hi,if_neg (by omega)];omega,h y y hy,if_pos rfl];omega
  · rw [sumN_congr (g:=fun _=>0) fun i hi=>by show A x i*u y i=0;rw [h y i hi,if_neg (by omega)];omega,sumN_zero,h0 x y (by omega)]
theorem sumN_q (f:Nat→Int):∀n,((sumN f n:Int):Rat)=sumQ (fun i=>(f i:Rat)) n
  | 0=>rfl
  | n+1=>by
    show ((sumN f n+f n:Int):Rat)=sumQ _ n+_
    rw [Rat.intCast_add,sumN_q f n]
theorem fU_qf (A:Fi) (n:Nat) (u:Fi) (x:Nat):((fU A n u x x:Int):Rat)=qf (qG A) n (fun i=>(u x i:Rat)):=by
  unfold fU qf
  rw [sumN_q,sumQ_comm]
  refine sumQ_congr fun j _=>?_
  rw [Rat.intCast_mul,sumN_q,sumQ_mul]
  refine sumQ_congr fun i _=>?_
  rw [Rat.intCast_mul];unfold qG;grind
section
variable {G:Fi} {n:Nat}
def p2:Nat→Rat
  | 0=>1
  | m+1=>2*p2 m
def h2:Nat→Rat
  | 0=>1
  | m+1=>p2 m*h2 m
end
theorem take_app2 {α:Type} {l:List α} {k:Nat} {x:α} (h:l[k]?=some x):l.take k++[x]=l.take (k+1):=by
  obtain ⟨h1,rfl⟩:=List.getElem?_eq_some_iff.1 h
  rw [List.take_succ_eq_append_getElem h1]
theorem range_app {α:Type} (F:Nat→α) (i:Nat):(List.range i).map F++[F i]=(List.range (i+1)).map F:=by simp [List.range_succ]
abbrev fq:=@range_app
end Fw
