/- Frame, facts and contracts for CloseChecks. -/
import Derived.Test.YtjbfmocbophmlaaGreatCCloseChecksC
/- Rationals in lowest terms; the document's floor. -/
set_option linter.unusedVariables false
set_option linter.unusedSimpArgs false
set_option exponentiation.threshold 400
set_option maxRecDepth 20000
set_option maxHeartbeats 1000000
namespace Fw
open Go Go.Proofs
theorem c_ref02_Floor (x y : Int) (hy : y ≠ 0) : Fn Tryz.prog 162 [kZ.is x, kZ.is y] (VP.tup [kC.is (x.fdiv y), kC.is (x.fmod y)]) := by
 refine Con.enter Tryz.func162 rfl rfl fun m w => ST.fact (i := 0) rfl kZ_sm fun hsx => ST.fact (i := 1) rfl kZ_sm fun hsy => ST.z 0 rfl fun p p_v p_n p_l => ST.z 1 rfl fun q q_v q_n q_l => Cr (WP.bx .n rfl fun b1 => WP.bx .n rfl fun b2 => WP.al .n z29_C fun b3 => WP.al .n z29_C fun b4 => Wr (Ws (O.fa rfl fld29_1 rfl) (Ws (O.ld (p := kN.is p.2) rfl (mem_at 3 rfl) (Lens.snd Li) ty27 rfl) (Ws (O.fa rfl fld29_1 rfl) (Ws (O.ld (p := kN.is q.2) rfl (mem_at 2 rfl) (Lens.snd Li) ty27 rfl) (Ws (O.fn fn211 (evs.c rfl (evs.c rfl evs.nil)) (c_ref01_Div p.2 q.2 (by omega) (by omega))) (Wm rfl (Ws (O.ext rfl rfl) (Ws (O.ext rfl rfl) (Ws (O.ext rfl rfl) ?_))))))))))
 refine Wa rfl (Wa rfl (Wa rfl (Wr (Ws (O.fa rfl fld29_0 rfl) (Ws (O.ld (p := kBool.is p.1) rfl (mem_at 3 rfl) (Lens.fst Li) ty4 rfl) (Ws (O.fa rfl fld29_0 rfl) (Ws (O.ld (p := kBool.is q.1) rfl (mem_at 2 rfl) (Lens.fst Li) ty4 rfl) (Ws (O.neB rfl rfl U4) (Wm rfl (Ws (O.fn fn139 (evs.c rfl (evs.c rfl evs.nil)) (c_ref02_made (decide (p.1 ≠ q.1)) (limbs (nval p.2 / nval q.2)))) (WP.al .n z29_C fun b5 => WP.t .n (O.stW (l := kC) (u := ival ((decide (p.1 ≠ q.1)), (limbs (nval p.2 / nval q.2)))) 0 rfl rfl rfl ty29 rfl Lr) (Wn (CW.seq ?_)))))))))))))
 have hq0 : nval q.2 ≠ 0 := fun h => by rw [← q_v] at hy; have := ival_abs q; rw [h] at this; exact hy (by omega)
 obtain ⟨M, hM⟩ : ∃ M, M = ival (decide (p.1 ≠ q.1), limbs (nval p.2 / nval q.2)) := ⟨_, rfl⟩
 obtain ⟨R, hR⟩ : ∃ R, R = ival (p.1, if nval q.2 = 0 then [] else limbs (nval p.2 % nval q.2)) := ⟨_, rfl⟩
 refine ST.obtold 0 rfl (OB.box_eq (y := M) hM.symm) ?_
 have hx : x = M * y + R := by rw [← p_v, ← q_v, hM, hR]; exact div_split hq0
 have hl : R.natAbs < y.natAbs := by rw [← q_v, hR]; exact rem_lt hq0
 have hsM : Sm M := Sm_le hsx (by rw [hM, ← p_v, ival_abs, ival_abs, nval_limbs]; exact Nat.div_le_self _ _)
 have hsR : Sm R := Sm_le hsx (by rw [hR, ← p_v, ival_abs, ival_abs, if_neg hq0, nval_limbs]; exact Nat.mod_le _ _)
 have hs1 : Sm 1 := Sm_lit (by decide)
 have hsMy : Sm (M * y) := Sm_le hsx (by rw [hM, ← p_v, ← q_v, Int.natAbs_mul, ival_abs, ival_abs, ival_abs, nval_limbs]; exact Nat.div_mul_le_self _ _)
 refine ST.obtold (b' := OB.box b2 29 kZ y) 3 rfl (OB.I_Z q_v q_n) (ST.obtold (b' := OB.box b1 29 kZ x) 4 rfl (OB.I_Z p_v p_n) ?_)
 refine CW.drawM (Γ := [.fr (kZ.is x), .fr (kC.is M), .fr (kZ.is y), .fr (kC.is (M * y)), .fr (kC.is (x - (M * y))), .al (fun b => OB.box b 29 kC 0)]) (of_ rfl (fun N => O.ld rfl (mem_app N (mem_at 4 rfl)) Li ty29 rfl) (of_ rfl (fun N => O.ld rfl (mem_app N (mem_at 0 rfl)) Li ty29 rfl) (of_ rfl (fun N => O.ld rfl (mem_app N (mem_at 3 rfl)) Li ty29 rfl) (of_ rfl (fun N => O.fn fn128 (evs.l rfl (kC_Z (by assumption)) (evs.c rfl evs.nil)) (c_ref02_Mul M y)) (of_ rfl (fun N => O.fn fn161 (evs.c rfl (evs.l rfl (kC_Z (by assumption)) evs.nil)) (c_ref02_Sub x (M * y))) (oc (Ob.a rfl z29_C) oz)))))) (fun σ1 => ?_)
 refine WP.t .n (O.stW (l := kC) (u := x - (M * y)) 0 rfl rfl rfl ty29 rfl Lr) (Wn (CW.seq (CW.seq (ST.obtold 0 rfl (OB.box_eq (y := R) (by rw [hx]; omega)) ?_))))
 by_cases h5 : R.sign ≠ 0
 ·
  refine CW.drawM (Γ := [.fr (kC.is R), .fr (kN6.is R.sign), .fr (kBool.is true), .fr (kBool.is true), .fr (kC.is R), .fr (kN6.is R.sign), .fr (kZ.is y), .fr (kN6.is y.sign), .fr (kBool.is (decide (R.sign ≠ y.sign))), .fr (kBool.is (decide (R.sign ≠ y.sign)))]) (of_ rfl (fun N => O.ld rfl (mem_app N (mem_at 0 rfl)) Li ty29 rfl) (of_ rfl (fun N => O.fn fn88 (evs.l rfl (kC_Z (by assumption)) evs.nil) (c_ref02_Sign R)) (of_ rfl (fun N => OpOk.le (O.ne rfl rfl) (is_eq (by simp [h5]))) (om rfl rfl (oc (Ob.f rfl (.g rfl rfl) fun N => (O.ld rfl (mem_app N (mem_at 0 rfl)) Li ty29 rfl)) (oc (Ob.f rfl (.g rfl rfl) fun N => (O.fn fn88 (evs.l rfl (kC_Z (by assumption)) evs.nil) (c_ref02_Sign R))) (oc (Ob.f rfl (.g rfl rfl) fun N => (O.ld rfl (mem_app N (mem_at 4 rfl)) Li ty29 rfl)) (oc (Ob.f rfl (.g rfl rfl) fun N => (O.fn fn88 (evs.c rfl evs.nil) (c_ref02_Sign y))) (oc (Ob.f rfl (.g rfl rfl) fun N => (O.ne rfl rfl)) (of_ rfl (fun N => O.pickT rfl rfl) oz)))))))))) (fun σ2 => ?_)
  refine Wn ?_
  refine CW.condD rfl (fun h_t41 => ?_) (fun h_t41 => ?_)
  ·
   refine CW.seq ?_
   refine CW.drawM (Γ := [.fr (kC.is M), .fr (kC.is 1), .fr (kC.is (M - 1))]) (of_ rfl (fun N => O.ld rfl (mem_app N (mem_at 1 rfl)) Li ty29 rfl) (of_ rfl (fun N => O.fn fn77 (evs.l rfl (i64_int (by omega)) evs.nil) (c_ref02_Of 1)) (of_ rfl (fun N => O.fn fn161 (evs.l rfl (kC_Z (by assumption)) (evs.l rfl (kC_Z (by assumption)) evs.nil)) (c_ref02_Sub M 1)) oz))) (fun σ3 => ?_)
   refine WP.t .n (O.stW (l := kC) (u := M - 1) 1 rfl rfl rfl ty29 rfl Lr) (Wn (CW.region (Ws (O.ld rfl (mem_at 0 rfl) Li ty29 rfl) (Ws (O.ld rfl (mem_at 4 rfl) Li ty29 rfl) (Ws (O.fn fn127 (evs.l rfl (kC_Z (by assumption)) (evs.c rfl evs.nil)) (c_ref02_Add R y)) (WP.t .n (O.stW (l := kC) (u := R + y) 0 rfl rfl rfl ty29 rfl Lr) (Wn (CW.seq ?_))))))))
   refine CW.join [(0, kI.is (p.1, p.2)), (1, kI.is (q.1, q.2)), (2, VP.pt b1 0), (3, VP.pt b2 0), (4, VP.pt b3 0), (5, VP.pt b4 0), (6, kN.is (limbs (nval p.2 / nval q.2))), (7, kN.is (if nval q.2 = 0 then [] else limbs (nval p.2 % nval q.2))), (8, kN6.is (if nval q.2 = 0 then 11 else 0)), (9, VP.pt b5 0), (10, VP.pt (σ1 5) 0), (11, VP.tup [kN.is (limbs (nval p.2 / nval q.2)), kN.is (if nval q.2 = 0 then [] else limbs (nval p.2 % nval q.2)), kN6.is (if nval q.2 = 0 then 11 else 0)]), (12, VP.pt b1 1), (13, kN.is p.2), (14, VP.pt b2 1), (15, kN.is q.2), (16, VP.tup [kN.is (limbs (nval p.2 / nval q.2)), kN.is (if nval q.2 = 0 then [] else limbs (nval p.2 % nval q.2)), kN6.is (if nval q.2 = 0 then 11 else 0)]), (17, kN.is (limbs (nval p.2 / nval q.2))), (18, kN.is (if nval q.2 = 0 then [] else limbs (nval p.2 % nval q.2))), (19, kN6.is (if nval q.2 = 0 then 11 else 0)), (20, VP.pt b1 0), (21, kBool.is p.1), (22, VP.pt b2 0), (23, kBool.is q.1), (24, kBool.is (decide (p.1 ≠ q.1))), (25, kN.is (limbs (nval p.2 / nval q.2))), (26, kC.is (ival ((decide (p.1 ≠ q.1)), (limbs (nval p.2 / nval q.2))))), (27, kZ.is x), (28, kC.is M), (29, kZ.is y), (30, kC.is (M * y)), (31, kC.is (x - (M * y))), (32, kC.is R), (33, kN6.is R.sign), (34, kBool.is true), (35, kBool.is true), (36, kC.is R), (37, kN6.is R.sign), (38, kZ.is y), (39, kN6.is y.sign), (40, kBool.is (decide (R.sign ≠ y.sign))), (41, kBool.is (decide (R.sign ≠ y.sign))), (42, kC.is M), (43, kC.is 1), (44, kC.is (M - 1)), (45, kC.is R), (46, kZ.is y), (47, kC.is (R + y)), (48, kC.is (M - 1)), (49, kC.is (R + y))] [OB.box (σ1 5) 29 kC (R + y), OB.box b5 29 kC (M - 1), OB.box b4 29 kC (R + y), OB.box b3 29 kC (M - 1), OB.box b2 29 kZ y, OB.box b1 29 kZ x] ?_ ?_
   ·
    refine CW.any (by kernel_rfl) ?_
    refine DAg 0 [1] ⟨?_, ⟨?_, trivial⟩⟩
    ·
     refine DO.sn rfl .n (O.ld rfl (mem_at 1 rfl) Li ty29 rfl) ?_
     refine DAg 1 [2] ⟨?_, ⟨?_, trivial⟩⟩
     ·
      refine DO.sn rfl .n (O.ld rfl (mem_at 0 rfl) Li ty29 rfl) (DA1 2 (DO.tn rfl .n (O.stW (l := kC) (u := M - 1) 3 rfl rfl rfl ty29 rfl Lr) (DA1 3 (DO.tn rfl .n (O.stW (l := kC) (u := R + y) 2 rfl rfl rfl ty29 rfl Lr) (DA.nil (by kernel_rfl) ?_)))))
      exact QE.join (Imp.c4 rfl rfl rfl rfl (Imp.c4 rfl rfl rfl rfl (Imp.c4 rfl rfl rfl rfl (Imp.c4 rfl rfl rfl rfl (Imp.c4 rfl rfl rfl rfl (Imp.c4 rfl rfl rfl rfl (Imp.c4 rfl rfl rfl rfl (Imp.c4 rfl rfl rfl rfl (Imp.c4 rfl rfl rfl rfl (Imp.c4 rfl rfl rfl rfl (Imp.c4 rfl rfl rfl rfl (Imp.c4 rfl rfl rfl rfl (Imp.cons rfl (Imp.cons rfl Imp.nil)))))))))))))) (OImp.refl _)
     ·
      refine DO.tn rfl .n (O.stW (l := kC) (u := M - 1) 3 rfl rfl rfl ty29 rfl Lr) (DA1 1 (DO.sn rfl .n (O.ld rfl (mem_at 0 rfl) Li ty29 rfl) (DA1 3 (DO.tn rfl .n (O.stW (l := kC) (u := R + y) 2 rfl rfl rfl ty29 rfl Lr) (DA.nil (by kernel_rfl) ?_)))))
      exact QE.join (Imp.c4 rfl rfl rfl rfl (Imp.c4 rfl rfl rfl rfl (Imp.c4 rfl rfl rfl rfl (Imp.c4 rfl rfl rfl rfl (Imp.c4 rfl rfl rfl rfl (Imp.c4 rfl rfl rfl rfl (Imp.c4 rfl rfl rfl rfl (Imp.c4 rfl rfl rfl rfl (Imp.c4 rfl rfl rfl rfl (Imp.c4 rfl rfl rfl rfl (Imp.c4 rfl rfl rfl rfl (Imp.c4 rfl rfl rfl rfl (Imp.cons rfl (Imp.cons rfl Imp.nil)))))))))))))) (OImp.refl _)
    ·
     refine DO.sn rfl .n (O.ld rfl (mem_at 0 rfl) Li ty29 rfl) (DA1 0 (DO.sn rfl .n (O.ld rfl (mem_at 1 rfl) Li ty29 rfl) (DA1 2 (DO.tn rfl .n (O.stW (l := kC) (u := M - 1) 3 rfl rfl rfl ty29 rfl Lr) (DA1 3 (DO.tn rfl .n (O.stW (l := kC) (u := R + y) 2 rfl rfl rfl ty29 rfl Lr) (DA.nil (by kernel_rfl) ?_)))))))
     exact QE.join (Imp.c4 rfl rfl rfl rfl (Imp.c4 rfl rfl rfl rfl (Imp.c4 rfl rfl rfl rfl (Imp.c4 rfl rfl rfl rfl (Imp.c4 rfl rfl rfl rfl (Imp.c4 rfl rfl rfl rfl (Imp.c4 rfl rfl rfl rfl (Imp.c4 rfl rfl rfl rfl (Imp.c4 rfl rfl rfl rfl (Imp.c4 rfl rfl rfl rfl (Imp.c4 rfl rfl rfl rfl (Imp.c4 rfl rfl rfl rfl (Imp.cons rfl (Imp.cons rfl Imp.nil)))))))))))))) (OImp.refl _)
   refine QE.next (CW.ret ?_)
   have hf := floor_2 hx hl h5 (by assumption)
   refine ST.obtold 3 rfl (OB.box_eq (y := (x.fdiv y)) hf.1) (ST.obtold 2 rfl (OB.box_eq (y := (x.fmod y)) hf.2) ?_)
   exact QE.done (.inl rfl) rfl (ResOk.c rfl (mem_at 3 rfl) ty29 (ResOk.c rfl (mem_at 2 rfl) ty29 ResOk.nil)) (OImp.sub (List.nil_sublist _)) ⟨rfl, rfl⟩
  ·
   refine CW.skip (QE.next (CW.seq ?_))
   refine CW.join [(0, kI.is (p.1, p.2)), (1, kI.is (q.1, q.2)), (2, VP.pt b1 0), (3, VP.pt b2 0), (4, VP.pt b3 0), (5, VP.pt b4 0), (6, kN.is (limbs (nval p.2 / nval q.2))), (7, kN.is (if nval q.2 = 0 then [] else limbs (nval p.2 % nval q.2))), (8, kN6.is (if nval q.2 = 0 then 11 else 0)), (9, VP.pt b5 0), (10, VP.pt (σ1 5) 0), (11, VP.tup [kN.is (limbs (nval p.2 / nval q.2)), kN.is (if nval q.2 = 0 then [] else limbs (nval p.2 % nval q.2)), kN6.is (if nval q.2 = 0 then 11 else 0)]), (12, VP.pt b1 1), (13, kN.is p.2), (14, VP.pt b2 1), (15, kN.is q.2), (16, VP.tup [kN.is (limbs (nval p.2 / nval q.2)), kN.is (if nval q.2 = 0 then [] else limbs (nval p.2 % nval q.2)), kN6.is (if nval q.2 = 0 then 11 else 0)]), (17, kN.is (limbs (nval p.2 / nval q.2))), (18, kN.is (if nval q.2 = 0 then [] else limbs (nval p.2 % nval q.2))), (19, kN6.is (if nval q.2 = 0 then 11 else 0)), (20, VP.pt b1 0), (21, kBool.is p.1), (22, VP.pt b2 0), (23, kBool.is q.1), (24, kBool.is (decide (p.1 ≠ q.1))), (25, kN.is (limbs (nval p.2 / nval q.2))), (26, kC.is (ival ((decide (p.1 ≠ q.1)), (limbs (nval p.2 / nval q.2))))), (27, kZ.is x), (28, kC.is M), (29, kZ.is y), (30, kC.is (M * y)), (31, kC.is (x - (M * y))), (32, kC.is R), (33, kN6.is R.sign), (34, kBool.is true), (35, kBool.is true), (36, kC.is R), (37, kN6.is R.sign), (38, kZ.is y), (39, kN6.is y.sign), (40, kBool.is (decide (R.sign ≠ y.sign))), (41, kBool.is (decide (R.sign ≠ y.sign))), (48, kC.is M), (49, kC.is R)] [OB.box (σ1 5) 29 kC R, OB.box b5 29 kC M, OB.box b4 29 kC R, OB.box b3 29 kC M, OB.box b2 29 kZ y, OB.box b1 29 kZ x] ?_ ?_
   ·
    refine CW.any (by kernel_rfl) ?_
    refine DAg 0 [1] ⟨?_, ⟨?_, trivial⟩⟩
    ·
     refine DO.sn rfl .n (O.ld rfl (mem_at 1 rfl) Li ty29 rfl) ?_
     refine DAg 1 [2] ⟨?_, ⟨?_, trivial⟩⟩
     ·
      refine DO.sn rfl .n (O.ld rfl (mem_at 0 rfl) Li ty29 rfl) (DA1 2 (DO.tn rfl .n (O.stW (l := kC) (u := M) 3 rfl rfl rfl ty29 rfl Lr) (DA1 3 (DO.tn rfl .n (O.stW (l := kC) (u := R) 2 rfl rfl rfl ty29 rfl Lr) (DA.nil (by kernel_rfl) ?_)))))
      exact QE.join (Imp.c4 rfl rfl rfl rfl (Imp.c4 rfl rfl rfl rfl (Imp.c4 rfl rfl rfl rfl (Imp.c4 rfl rfl rfl rfl (Imp.c4 rfl rfl rfl rfl (Imp.c4 rfl rfl rfl rfl (Imp.c4 rfl rfl rfl rfl (Imp.c4 rfl rfl rfl rfl (Imp.c4 rfl rfl rfl rfl (Imp.c4 rfl rfl rfl rfl (Imp.cons rfl (Imp.cons rfl (Imp.cons rfl (Imp.cons rfl Imp.nil)))))))))))))) (OImp.refl _)
     ·
      refine DO.tn rfl .n (O.stW (l := kC) (u := M) 3 rfl rfl rfl ty29 rfl Lr) (DA1 1 (DO.sn rfl .n (O.ld rfl (mem_at 0 rfl) Li ty29 rfl) (DA1 3 (DO.tn rfl .n (O.stW (l := kC) (u := R) 2 rfl rfl rfl ty29 rfl Lr) (DA.nil (by kernel_rfl) ?_)))))
      exact QE.join (Imp.c4 rfl rfl rfl rfl (Imp.c4 rfl rfl rfl rfl (Imp.c4 rfl rfl rfl rfl (Imp.c4 rfl rfl rfl rfl (Imp.c4 rfl rfl rfl rfl (Imp.c4 rfl rfl rfl rfl (Imp.c4 rfl rfl rfl rfl (Imp.c4 rfl rfl rfl rfl (Imp.c4 rfl rfl rfl rfl (Imp.c4 rfl rfl rfl rfl (Imp.cons rfl (Imp.cons rfl (Imp.cons rfl (Imp.cons rfl Imp.nil)))))))))))))) (OImp.refl _)
    ·
     refine DO.sn rfl .n (O.ld rfl (mem_at 0 rfl) Li ty29 rfl) (DA1 0 (DO.sn rfl .n (O.ld rfl (mem_at 1 rfl) Li ty29 rfl) (DA1 2 (DO.tn rfl .n (O.stW (l := kC) (u := M) 3 rfl rfl rfl ty29 rfl Lr) (DA1 3 (DO.tn rfl .n (O.stW (l := kC) (u := R) 2 rfl rfl rfl ty29 rfl Lr) (DA.nil (by kernel_rfl) ?_)))))))
     exact QE.join (Imp.c4 rfl rfl rfl rfl (Imp.c4 rfl rfl rfl rfl (Imp.c4 rfl rfl rfl rfl (Imp.c4 rfl rfl rfl rfl (Imp.c4 rfl rfl rfl rfl (Imp.c4 rfl rfl rfl rfl (Imp.c4 rfl rfl rfl rfl (Imp.c4 rfl rfl rfl rfl (Imp.c4 rfl rfl rfl rfl (Imp.c4 rfl rfl rfl rfl (Imp.cons rfl (Imp.cons rfl (Imp.cons rfl (Imp.cons rfl Imp.nil)))))))))))))) (OImp.refl _)
   refine QE.next (CW.ret ?_)
   have hf := floor_1 hx hl h5 (by assumption)
   refine ST.obtold 3 rfl (OB.box_eq (y := (x.fdiv y)) hf.1) (ST.obtold 2 rfl (OB.box_eq (y := (x.fmod y)) hf.2) ?_)
   exact QE.done (.inl rfl) rfl (ResOk.c rfl (mem_at 3 rfl) ty29 (ResOk.c rfl (mem_at 2 rfl) ty29 ResOk.nil)) (OImp.sub (List.nil_sublist _)) ⟨rfl, rfl⟩
 ·
  refine CW.drawM (Γ := [.fr (kC.is R), .fr (kN6.is R.sign), .fr (kBool.is false), .fr (kBool.is false), .fr (VP.ex undef), .fr (VP.ex undef), .fr (VP.ex undef), .fr (VP.ex undef), .fr (VP.ex undef), .fr (kBool.is false)]) (of_ rfl (fun N => O.ld rfl (mem_app N (mem_at 0 rfl)) Li ty29 rfl) (of_ rfl (fun N => O.fn fn88 (evs.l rfl (kC_Z (by assumption)) evs.nil) (c_ref02_Sign R)) (of_ rfl (fun N => OpOk.le (O.ne rfl rfl) (is_eq (by simp at h5; simp [h5]))) (om rfl rfl (oc (Ob.ku (b := false) rfl rfl rfl) (oc (Ob.ku (b := false) rfl rfl rfl) (oc (Ob.ku (b := false) rfl rfl rfl) (oc (Ob.ku (b := false) rfl rfl rfl) (oc (Ob.ku (b := false) rfl rfl rfl) (of_ rfl (fun N => O.pickF rfl rfl) oz)))))))))) (fun σ6 => ?_)
  refine Wn (CW.condF rfl (CW.skip (QE.next (CW.seq ?_))))
  refine CW.join [(0, kI.is (p.1, p.2)), (1, kI.is (q.1, q.2)), (2, VP.pt b1 0), (3, VP.pt b2 0), (4, VP.pt b3 0), (5, VP.pt b4 0), (6, kN.is (limbs (nval p.2 / nval q.2))), (7, kN.is (if nval q.2 = 0 then [] else limbs (nval p.2 % nval q.2))), (8, kN6.is (if nval q.2 = 0 then 11 else 0)), (9, VP.pt b5 0), (10, VP.pt (σ1 5) 0), (11, VP.tup [kN.is (limbs (nval p.2 / nval q.2)), kN.is (if nval q.2 = 0 then [] else limbs (nval p.2 % nval q.2)), kN6.is (if nval q.2 = 0 then 11 else 0)]), (12, VP.pt b1 1), (13, kN.is p.2), (14, VP.pt b2 1), (15, kN.is q.2), (16, VP.tup [kN.is (limbs (nval p.2 / nval q.2)), kN.is (if nval q.2 = 0 then [] else limbs (nval p.2 % nval q.2)), kN6.is (if nval q.2 = 0 then 11 else 0)]), (17, kN.is (limbs (nval p.2 / nval q.2))), (18, kN.is (if nval q.2 = 0 then [] else limbs (nval p.2 % nval q.2))), (19, kN6.is (if nval q.2 = 0 then 11 else 0)), (20, VP.pt b1 0), (21, kBool.is p.1), (22, VP.pt b2 0), (23, kBool.is q.1), (24, kBool.is (decide (p.1 ≠ q.1))), (25, kN.is (limbs (nval p.2 / nval q.2))), (26, kC.is (ival ((decide (p.1 ≠ q.1)), (limbs (nval p.2 / nval q.2))))), (27, kZ.is x), (28, kC.is M), (29, kZ.is y), (30, kC.is (M * y)), (31, kC.is (x - (M * y))), (32, kC.is R), (33, kN6.is R.sign), (34, kBool.is false), (35, kBool.is false), (36, VP.ex undef), (37, VP.ex undef), (38, VP.ex undef), (39, VP.ex undef), (40, VP.ex undef), (41, kBool.is false), (48, kC.is M), (49, kC.is R)] [OB.box (σ1 5) 29 kC R, OB.box b5 29 kC M, OB.box b4 29 kC R, OB.box b3 29 kC M, OB.box b2 29 kZ y, OB.box b1 29 kZ x] ?_ ?_
  ·
   refine CW.any (by kernel_rfl) ?_
   refine DAg 0 [1] ⟨?_, ⟨?_, trivial⟩⟩
   ·
    refine DO.sn rfl .n (O.ld rfl (mem_at 1 rfl) Li ty29 rfl) ?_
    refine DAg 1 [2] ⟨?_, ⟨?_, trivial⟩⟩
    ·
     refine DO.sn rfl .n (O.ld rfl (mem_at 0 rfl) Li ty29 rfl) (DA1 2 (DO.tn rfl .n (O.stW (l := kC) (u := M) 3 rfl rfl rfl ty29 rfl Lr) (DA1 3 (DO.tn rfl .n (O.stW (l := kC) (u := R) 2 rfl rfl rfl ty29 rfl Lr) (DA.nil (by kernel_rfl) ?_)))))
     exact QE.join (Imp.c4 rfl rfl rfl rfl (Imp.c4 rfl rfl rfl rfl (Imp.c4 rfl rfl rfl rfl (Imp.c4 rfl rfl rfl rfl (Imp.c4 rfl rfl rfl rfl (Imp.c4 rfl rfl rfl rfl (Imp.c4 rfl rfl rfl rfl (Imp.c4 rfl rfl rfl rfl (Imp.c4 rfl rfl rfl rfl (Imp.c4 rfl rfl rfl rfl (Imp.cons rfl (Imp.cons rfl (Imp.cons rfl (Imp.cons rfl Imp.nil)))))))))))))) (OImp.refl _)
    ·
     refine DO.tn rfl .n (O.stW (l := kC) (u := M) 3 rfl rfl rfl ty29 rfl Lr) (DA1 1 (DO.sn rfl .n (O.ld rfl (mem_at 0 rfl) Li ty29 rfl) (DA1 3 (DO.tn rfl .n (O.stW (l := kC) (u := R) 2 rfl rfl rfl ty29 rfl Lr) (DA.nil (by kernel_rfl) ?_)))))
     exact QE.join (Imp.c4 rfl rfl rfl rfl (Imp.c4 rfl rfl rfl rfl (Imp.c4 rfl rfl rfl rfl (Imp.c4 rfl rfl rfl rfl (Imp.c4 rfl rfl rfl rfl (Imp.c4 rfl rfl rfl rfl (Imp.c4 rfl rfl rfl rfl (Imp.c4 rfl rfl rfl rfl (Imp.c4 rfl rfl rfl rfl (Imp.c4 rfl rfl rfl rfl (Imp.cons rfl (Imp.cons rfl (Imp.cons rfl (Imp.cons rfl Imp.nil)))))))))))))) (OImp.refl _)
   ·
    refine DO.sn rfl .n (O.ld rfl (mem_at 0 rfl) Li ty29 rfl) (DA1 0 (DO.sn rfl .n (O.ld rfl (mem_at 1 rfl) Li ty29 rfl) (DA1 2 (DO.tn rfl .n (O.stW (l := kC) (u := M) 3 rfl rfl rfl ty29 rfl Lr) (DA1 3 (DO.tn rfl .n (O.stW (l := kC) (u := R) 2 rfl rfl rfl ty29 rfl Lr) (DA.nil (by kernel_rfl) ?_)))))))
    exact QE.join (Imp.c4 rfl rfl rfl rfl (Imp.c4 rfl rfl rfl rfl (Imp.c4 rfl rfl rfl rfl (Imp.c4 rfl rfl rfl rfl (Imp.c4 rfl rfl rfl rfl (Imp.c4 rfl rfl rfl rfl (Imp.c4 rfl rfl rfl rfl (Imp.c4 rfl rfl rfl rfl (Imp.c4 rfl rfl rfl rfl (Imp.c4 rfl rfl rfl rfl (Imp.cons rfl (Imp.cons rfl (Imp.cons rfl (Imp.cons rfl Imp.nil)))))))))))))) (OImp.refl _)
  refine QE.next (CW.ret ?_)
  have hf := floor_0 hx hl h5
  refine ST.obtold 3 rfl (OB.box_eq (y := (x.fdiv y)) hf.1) (ST.obtold 2 rfl (OB.box_eq (y := (x.fmod y)) hf.2) ?_)
  exact QE.done (.inl rfl) rfl (ResOk.c rfl (mem_at 3 rfl) ty29 (ResOk.c rfl (mem_at 2 rfl) ty29 ResOk.nil)) (OImp.sub (List.nil_sublist _)) ⟨rfl, rfl⟩
theorem c_rat_made (n d : Int) (hd : d ≠ 0) : Fn Tryz.prog 136 [kZ.is n, kZ.is d] (kRC.is (rmk n d)) := by
 refine Con.enter Tryz.func136 rfl rfl fun m w => ST.fact (i := 0) rfl kZ_sm fun hsn => ST.fact (i := 1) rfl kZ_sm fun hsd => Cr (WP.bx .n rfl fun b1 => WP.bx .n rfl fun b2 => WP.al .n z31_pr_C_C_ fun b3 => Wn ?_)
 refine CW.cut2 (fun (n1 : Int) (d1 : Int) => n1 = n * d.sign ∧ d1 = (d.natAbs : Int) ∧ Sm n1 ∧ Sm d1) (fun (n1 : Int) (d1 : Int) => [(2, VP.pt b1 0), (3, VP.pt b2 0), (4, VP.pt b3 0)]) (fun (n1 : Int) (d1 : Int) => [OB.box b3 31 kRC (0, 0), OB.box b2 29 kZ d1, OB.box b1 29 kZ n1]) ?_ ?_
 ·
  refine Cr (Ws (O.ld rfl (mem_at 1 rfl) Li ty29 rfl) (Ws (O.fn fn57 (evs.c rfl evs.nil) (c_zint_Sign d)) (Ws (O.lt rfl rfl) (Wn ?_))))
  refine CW.condD rfl (fun h_t12 => ?_) (fun h_t12 => ?_)
  ·
   refine CW.drawM (Γ := [.fr (kZ.is n), .fr (kC.is (-n)), .fr (kZ.is d), .fr (kC.is (-d))]) (of_ rfl (fun N => O.ld rfl (mem_app N (mem_at 2 rfl)) Li ty29 rfl) (of_ rfl (fun N => O.fn fn145 (evs.c rfl evs.nil) (c_zint_Neg n)) (of_ rfl (fun N => O.ld rfl (mem_app N (mem_at 1 rfl)) Li ty29 rfl) (of_ rfl (fun N => O.fn fn145 (evs.c rfl evs.nil) (c_zint_Neg d)) oz)))) (fun σ1 => ?_)
   refine WP.t .n (O.stW (l := kC) (u := -n) 2 rfl rfl rfl ty29 rfl Lr) (WP.t .n (O.stW (l := kC) (u := -d) 1 rfl rfl rfl ty29 rfl Lr) (WP.nil ?_))
   exact QE.mid2 (-n) (-d) ⟨(mul_sign_neg (sgn_lt0 h_t12)).symm, by have := sgn_lt0 h_t12; omega, Sm_neg hsn, Sm_neg hsd⟩ (Imp.cons rfl (Imp.cons rfl (Imp.cons rfl Imp.nil))) (OImp.os (OS.keep (OS.keepLe (OB.C_Zeq (Sm_neg (by assumption)) (by omega)) (OS.keepLe (OB.C_Zeq (Sm_neg (by assumption)) (by omega)) OS.nil))))
  ·
   refine CW.skip ?_
   exact QE.mid2 n d ⟨(mul_sign_pos (by have := sgn_ge0 h_t12; omega)).symm, by have := sgn_ge0 h_t12; omega, hsn, hsd⟩ (Imp.cons rfl (Imp.cons rfl (Imp.cons rfl Imp.nil))) (OImp.refl _)
 intro n1 d1 ⟨hn1, hd1, hs1, hs2⟩
 have hs3 : Sm ((Int.gcd n1 d1 : Nat) : Int) := Sm_le hsd (by rw [hn1, hd1, gcd_sign hd]; exact gcd_le_abs hd)
 refine Cr (Ws (O.ld rfl (mem_at 2 rfl) Li ty29 rfl) (Ws (O.ld rfl (mem_at 1 rfl) Li ty29 rfl) (Ws (O.fn fn207 (evs.c rfl (evs.c rfl evs.nil)) (c_zint_Gcd n1 d1)) (WP.al .n z29_C fun b4 => WP.t .n (O.stW (l := kC) (u := (Int.gcd n1 d1 : Int)) 0 rfl rfl rfl ty29 rfl Lr) (Wr (Ws (O.ld rfl (mem_at 3 rfl) Li ty29 rfl) (Ws (O.ld rfl (mem_at 0 rfl) Li ty29 rfl) (Ws (O.fn fn208 (evs.c rfl (evs.l rfl (kC_Z (by assumption)) evs.nil)) (c_zint_Exact n1 (Int.gcd n1 d1 : Int))) (Wm rfl (Ws (O.ext rfl rfl) (Ws (O.ext rfl rfl) (WP.al .n z29_C fun b5 => WP.t .n (O.stW (l := kC) (u := if n1.fmod (Int.gcd n1 d1 : Int) = 0 ∧ (Int.gcd n1 d1 : Int) ≠ 0 then n1.fdiv (Int.gcd n1 d1 : Int) else 0) 0 rfl rfl rfl ty29 rfl Lr) (Wa rfl (Wr ?_))))))))))))))
 refine Ws (O.ld rfl (mem_at 3 rfl) Li ty29 rfl) (Ws (O.ld rfl (mem_at 1 rfl) Li ty29 rfl) (Ws (O.fn fn208 (evs.c rfl (evs.l rfl (kC_Z (by assumption)) evs.nil)) (c_zint_Exact d1 (Int.gcd n1 d1 : Int))) (Wm rfl (Ws (O.ext rfl rfl) (Ws (O.ext rfl rfl) (WP.al .n z29_C fun b6 => WP.t .n (O.stW (l := kC) (u := if d1.fmod (Int.gcd n1 d1 : Int) = 0 ∧ (Int.gcd n1 d1 : Int) ≠ 0 then d1.fdiv (Int.gcd n1 d1 : Int) else 0) 0 rfl rfl rfl ty29 rfl Lr) (Wa rfl (Wr (Ws (O.ld rfl (mem_at 1 rfl) Li ty29 rfl) (Ws (O.ld rfl (mem_at 0 rfl) Li ty29 rfl) (Ws (O.bld lit31_pr_C_C_ rfl (evp.c rfl (evp.c rfl evp.n)) (.cons rfl (Lens.fst Li) (.cons rfl (Lens.snd Li) (.nil _)))) (WP.t .n (O.stW (l := kRC) (u := (if n1.fmod (Int.gcd n1 d1 : Int) = 0 ∧ (Int.gcd n1 d1 : Int) ≠ 0 then n1.fdiv (Int.gcd n1 d1 : Int) else 0, if d1.fmod (Int.gcd n1 d1 : Int) = 0 ∧ (Int.gcd n1 d1 : Int) ≠ 0 then d1.fdiv (Int.gcd n1 d1 : Int) else 0)) 3 rfl rfl rfl ty31 rfl Lr) (Wn (CW.ret (ST.obtold 3 rfl (OB.box_eq (y := (rmk n d)) (by subst hn1 hd1; have := rmk_exact (n := n) hd; rw [← Prod.eta (rmk n d), ← this.1, ← this.2])) ?_)))))))))))))))
 exact QE.done (.inl rfl) rfl (ResOk.c rfl (mem_at 3 rfl) ty31 ResOk.nil) (OImp.sub (List.nil_sublist _)) ⟨rfl, rfl⟩
theorem c_rat_Make (n d : Int) : Fn Tryz.prog 134 [kZ.is n, kZ.is d] (VP.tup [kRC.is (if d = 0 then (0, 0) else rmk n d), kN6.is (if d = 0 then 11 else 0)]) := by
 refine Con.enter Tryz.func134 rfl rfl fun m w => Cr (WP.bx .n rfl fun b1 => WP.bx .n rfl fun b2 => WP.al .n z31_pr_C_C_ fun b3 => Wa rfl (Wn (CW.seq (Cr (Ws (O.ld rfl (mem_at 1 rfl) Li ty29 rfl) (Ws (O.fn fn57 (evs.c rfl evs.nil) (c_zint_Sign d)) (Ws (O.eq rfl rfl) (Wn ?_))))))))
 refine CW.condD rfl (fun h_t8 => ?_) (fun h_t8 => ?_)
 ·
  refine Cr (Ws (O.bld lit31_pr_C_C_ rfl evp.n (.nil _)) (WP.t .n (O.stW (l := kRC) (u := (0, 0)) 0 rfl rfl rfl ty31 rfl Lr) (Wa rfl (Wn (CW.ret (QE.thenR ?_))))))
  have hd : d = 0 := Int.sign_eq_zero_iff_zero.1 h_t8
  refine ST.obtold 0 rfl (OB.box_eq (y := (if d = 0 then (0, 0) else rmk n d)) (by rw [if_pos hd])) (ST.told 5 rfl (is_eq (y := (if d = 0 then 11 else 0)) (by rw [if_pos hd])) ?_)
  exact QE.done (.inl rfl) rfl (ResOk.c rfl (mem_at 0 rfl) ty31 (ResOk.t rfl ResOk.nil)) (OImp.sub (List.nil_sublist _)) ⟨rfl, rfl⟩
 ·
  refine CW.skip (QE.next (Cr (Ws (O.ld rfl (mem_at 2 rfl) Li ty29 rfl) (Ws (O.ld rfl (mem_at 1 rfl) Li ty29 rfl) (Ws (O.fn fn136 (evs.c rfl (evs.c rfl evs.nil)) (c_rat_made n d (fun h => h_t8 (by rw [h]; rfl)))) (WP.t .n (O.stW (l := kRC) (u := rmk n d) 0 rfl rfl rfl ty31 rfl Lr) (Wa rfl (Wn (CW.ret ?_)))))))))
  have hd : ¬ d = 0 := fun h => h_t8 (by rw [h]; rfl)
  refine ST.obtold 0 rfl (OB.box_eq (y := (if d = 0 then (0, 0) else rmk n d)) (by rw [if_neg hd])) (ST.told 5 rfl (is_eq (y := (if d = 0 then 11 else 0)) (by rw [if_neg hd])) ?_)
  exact QE.done (.inl rfl) rfl (ResOk.c rfl (mem_at 0 rfl) ty31 (ResOk.t rfl ResOk.nil)) (OImp.sub (List.nil_sublist _)) ⟨rfl, rfl⟩
theorem c_ref03_Make (n d : Int) (hd : d ≠ 0) : Fn Tryz.prog 138 [kZ.is n, kZ.is d] (kRC.is (rmk n d)) := by
 refine Con.enter Tryz.func138 rfl rfl fun m w => ST.fact (i := 0) rfl kZ_sm fun hsn => ST.fact (i := 1) rfl kZ_sm fun hsd => Cr (WP.bx .n rfl fun b1 => WP.bx .n rfl fun b2 => WP.al .n z31_pr_C_C_ fun b3 => Wr (Ws (O.ld rfl (mem_at 2 rfl) Li ty29 rfl) (Ws (O.fn fn113 (evs.c rfl evs.nil) (c_ref02_Norm n)) (WP.al .n z29_C fun b4 => WP.t .n (O.stW (l := kC) (u := n) 0 rfl rfl rfl ty29 rfl Lr) (Wr (Ws (O.ld rfl (mem_at 2 rfl) Li ty29 rfl) (Ws (O.fn fn113 (evs.c rfl evs.nil) (c_ref02_Norm d)) (WP.al .n z29_C fun b5 => WP.t .n (O.stW (l := kC) (u := d) 0 rfl rfl rfl ty29 rfl Lr) ?_))))))))
 refine Wn ?_
 refine CW.cut2 (fun (n1 : Int) (d1 : Int) => n1 = n * d.sign ∧ d1 = (d.natAbs : Int) ∧ Sm n1 ∧ Sm d1) (fun (n1 : Int) (d1 : Int) => [(4, VP.pt b3 0), (5, VP.pt b4 0), (6, VP.pt b5 0)]) (fun (n1 : Int) (d1 : Int) => [OB.box b5 29 kC d1, OB.box b4 29 kC n1, OB.box b3 31 kRC (0, 0)]) ?_ ?_
 ·
  refine Cr (Ws (O.ld rfl (mem_at 0 rfl) Li ty29 rfl) (Ws (O.fn fn88 (evs.l rfl (kC_Z (by assumption)) evs.nil) (c_ref02_Sign d)) (Ws (O.lt rfl rfl) (Wn ?_))))
  refine CW.condD rfl (fun h_t20 => ?_) (fun h_t20 => ?_)
  ·
   refine Cr (Ws (O.ld rfl (mem_at 1 rfl) Li ty29 rfl) (Ws (O.fn fn209 (evs.l rfl (kC_Z (by assumption)) evs.nil) (c_ref02_Neg n)) (WP.t .n (O.stW (l := kC) (u := -n) 1 rfl rfl rfl ty29 rfl Lr) (Wn (CW.region (Ws (O.ld rfl (mem_at 0 rfl) Li ty29 rfl) (Ws (O.fn fn209 (evs.l rfl (kC_Z (by assumption)) evs.nil) (c_ref02_Neg d)) (WP.t .n (O.stW (l := kC) (u := -d) 0 rfl rfl rfl ty29 rfl Lr) (WP.nil ?_)))))))))
   exact QE.mid2 (-n) (-d) ⟨(mul_sign_neg (sgn_lt0 h_t20)).symm, by have := sgn_lt0 h_t20; omega, Sm_neg hsn, Sm_neg hsd⟩ (Imp.cons rfl (Imp.cons rfl (Imp.cons rfl Imp.nil))) (OImp.os (OS.keep (OS.keep (OS.keep (OS.skip (OS.skip OS.nil))))))
  ·
   refine CW.skip ?_
   exact QE.mid2 n d ⟨(mul_sign_pos (by have := sgn_ge0 h_t20; omega)).symm, by have := sgn_ge0 h_t20; omega, hsn, hsd⟩ (Imp.cons rfl (Imp.cons rfl (Imp.cons rfl Imp.nil))) (OImp.os (OS.keep (OS.keep (OS.keep (OS.skip (OS.skip OS.nil))))))
 intro n1 d1 ⟨hn1, hd1, hs1, hs2⟩
 have hg : Nat.gcd (nval (canon n1).2) (nval (canon d1).2) = Int.gcd n d := by rw [canon_nval, canon_nval, ← gcd_sign hd, hn1, hd1]; rfl
 have hgn := gcd_ne (n := n) hd
 have hl1 := canon_len hs1
 have hl2 := canon_len hs2
 have hgl : (limbs (Nat.gcd (nval (canon n1).2) (nval (canon d1).2))).length ≤ 17179869184 := by rw [hg]; exact canon_len (z := ((Int.gcd n d : Nat) : Int)) (Sm_le hsd (gcd_le_abs hd))
 refine ST.obtold (b' := OB.box b5 29 kI ((canon d1).1, (canon d1).2)) 0 rfl OB.C_I (ST.obtold (b' := OB.box b4 29 kI ((canon n1).1, (canon n1).2)) 1 rfl OB.C_I (Cr (Ws (O.fa rfl fld29_1 rfl) (Ws (O.ld (p := kN.is ((canon n1).2)) rfl (mem_at 1 rfl) (Lens.snd Li) ty27 rfl) (Ws (O.fa rfl fld29_1 rfl) (Ws (O.ld (p := kN.is ((canon d1).2)) rfl (mem_at 0 rfl) (Lens.snd Li) ty27 rfl) (Ws (O.fn fn210 (evs.c rfl (evs.c rfl evs.nil)) (c_ref01_Gcd ((canon n1).2) ((canon d1).2) (by omega) (by omega))) (Wa rfl (Wr (Ws (O.fa rfl fld29_1 rfl) (Ws (O.ld (p := kN.is ((canon n1).2)) rfl (mem_at 1 rfl) (Lens.snd Li) ty27 rfl) (Wm rfl (Ws (O.fn fn211 (evs.c rfl (evs.c rfl evs.nil)) (c_ref01_Div ((canon n1).2) (limbs (Nat.gcd (nval ((canon n1).2)) (nval ((canon d1).2)))) (by omega) (by omega))) (Wm rfl (Ws (O.ext rfl rfl) (Ws (O.ext rfl rfl) (Ws (O.ext rfl rfl) (Wa rfl (Wa rfl ?_)))))))))))))))))))
 refine Wa rfl (Wn (CW.seq (ST.told 8 rfl (is_eq (y := (limbs (n1.natAbs / Int.gcd n d))) (by rw [nval_limbs, hg, canon_nval])) ?_)))
 have hlx : (limbs (n1.natAbs / Int.gcd n d)).length ≤ 17179869184 := Nat.le_trans (limbs_mono (Nat.div_le_self _ _)) hl1
 refine CW.region (Ws (O.fa rfl fld29_1 rfl) (Ws (O.ld (p := kN.is ((canon d1).2)) rfl (mem_at 0 rfl) (Lens.snd Li) ty27 rfl) (Wm rfl (Ws (O.fn fn211 (evs.c rfl (evs.c rfl evs.nil)) (c_ref01_Div ((canon d1).2) (limbs (Nat.gcd (nval ((canon n1).2)) (nval ((canon d1).2)))) (by omega) (by omega))) (Wm rfl (Ws (O.ext rfl rfl) (Ws (O.ext rfl rfl) (Ws (O.ext rfl rfl) (Wa rfl (Wa rfl (Wa rfl (Wn (CW.seq (ST.told 11 rfl (is_eq (y := (limbs (d1.natAbs / Int.gcd n d))) (by rw [nval_limbs, hg, canon_nval])) (CW.region (Ws (O.fa rfl fld29_0 rfl) (Ws (O.ld (p := kBool.is ((canon n1).1)) rfl (mem_at 1 rfl) (Lens.fst Li) ty4 rfl) (Wm rfl (Ws (O.bld lit29_I rfl (evp.c rfl (evp.c rfl evp.n)) (.cons rfl (Lens.fst Li) (.cons rfl (Lens.snd Li) (.nil _)))) (Ws (O.fn fn113 (evs.l rfl (kI_Z rfl (by omega)) evs.nil) (c_ref02_Norm (ival ((canon n1).1, (limbs (n1.natAbs / Int.gcd n d)))))) (ST.told 50 rfl (is_eq (y := (rmk n d).1) (by rw [hn1]; exact ival_div (by omega) (by rw [← gcd_sign hd]; exact Int.gcd_dvd_left ..))) (Wm rfl ?_))))))))))))))))))))))
 refine Ws (O.bld lit29_I rfl (evp.c rfl evp.n) (.cons rfl (Lens.snd Li) (.nil _))) (ST.told (q := kC.is ((rmk n d).2)) 52 rfl (kI_C (rmk_den hd hd1)) (Ws (O.bld lit31_pr_C_C_ rfl (evp.c rfl (evp.c rfl evp.n)) (.cons rfl (Lens.fst Li) (.cons rfl (Lens.snd Li) (.nil _)))) (WP.t .n (O.stW (l := kRC) (u := ((rmk n d).1, (rmk n d).2)) 2 rfl rfl rfl ty31 rfl Lr) (Wn (CW.ret ?_)))))
 exact QE.done (.inl rfl) rfl (ResOk.cl rfl (mem_at 2 rfl) ty31 (is_eq (y := rmk n d) (by rfl)) ResOk.nil) (OImp.sub (List.nil_sublist _)) ⟨rfl, rfl⟩
end Fw
/- What the fractions of the document answer. -/
set_option linter.unusedVariables false
set_option linter.unusedSimpArgs false
set_option exponentiation.threshold 400
set_option maxRecDepth 20000
set_option maxHeartbeats 1000000
namespace Fw
open Go Go.Proofs
theorem c_ref03_one  : Fn Tryz.prog 114 [] (kC.is 1) := by
 refine Con.enter Tryz.func114 rfl rfl fun m w => Cr (WP.al .n z29_C fun b1 => Wr (Ws (O.fn fn77 (evs.l rfl (i64_int (by omega)) evs.nil) (c_ref02_Of 1)) (WP.t .n (O.stW (l := kC) (u := 1) 0 rfl rfl rfl ty29 rfl Lr) (Wn (CW.ret ?_)))))
 exact QE.done (.inl rfl) rfl (ResOk.c rfl (mem_at 0 rfl) ty29 ResOk.nil) (OImp.sub (List.nil_sublist _)) ⟨rfl, rfl⟩
theorem c_ref03_Of (z : Int) : Fn Tryz.prog 52 [kZ.is z] (kRC.is (rq (z : Rat))) := by
 refine Con.enter Tryz.func52 rfl rfl fun m w => ST.fact (i := 0) rfl kZ_sm fun hsz => Cr (WP.bx .n rfl fun b1 => WP.al .n z31_pr_C_C_ fun b2 => Wr (Ws (O.ld rfl (mem_at 1 rfl) Li ty29 rfl) (Ws (O.fn fn113 (evs.c rfl evs.nil) (c_ref02_Norm z)) (Ws (O.fn fn114 evs.nil (c_ref03_one)) (Ws (O.bld lit31_pr_C_C_ rfl (evp.c rfl (evp.c rfl evp.n)) (.cons rfl (Lens.fst Li) (.cons rfl (Lens.snd Li) (.nil _)))) (WP.t .n (O.stW (l := kRC) (u := (z, 1)) 0 rfl rfl rfl ty31 rfl Lr) (Wn (CW.ret (ST.obtold 0 rfl (OB.box_eq (y := (rq (z : Rat))) (rq_int z).symm) ?_)))))))))
 exact QE.done (.inl rfl) rfl (ResOk.c rfl (mem_at 0 rfl) ty31 ResOk.nil) (OImp.sub (List.nil_sublist _)) ⟨rfl, rfl⟩
theorem c_ref03_Neg (n : Nat) (p : Rat) (hp : RZ n p) (hn : n ≤ 68719476736) : Fn Tryz.prog 174 [kRC.is (rq p)] (kRC.is (rq (-p))) := by
 refine Con.enter Tryz.func174 rfl rfl fun m w => Cr (WP.bx .n rfl fun b1 => WP.al .n z31_pr_C_C_ fun b2 => Wn (CW.seq ?_))
 refine CW.drawM (Γ := [.fr (VP.pt b1 0), .fr (kC.is ((rq p).1)), .fr (kC.is (-((rq p).1))), .fr (VP.pt b1 2), .fr (kC.is ((rq p).2)), .fr (kRC.is (rmk (-((rq p).1)) ((rq p).2)))]) (of_ rfl (fun N => O.fa rfl fld31_0 rfl) (of_ rfl (fun N => O.ld rfl (mem_app N (mem_at 1 rfl)) (Lens.fst Li) ty29 rfl) (of_ rfl (fun N => O.fn fn209 (evs.l rfl (kC_Z (hp.a.sm (by omega))) evs.nil) (c_ref02_Neg ((rq p).1))) (of_ rfl (fun N => O.fa rfl fld31_1 rfl) (of_ rfl (fun N => O.ld rfl (mem_app N (mem_at 1 rfl)) (Lens.snd Li) ty29 rfl) (of_ rfl (fun N => O.fn fn138 (evs.l rfl (kC_Z (hp.a.neg.sm (by omega))) (evs.l rfl (kC_Z (hp.b.sm (by omega))) evs.nil)) (c_ref03_Make (-((rq p).1)) ((rq p).2) (rq_den_ne p))) oz)))))) (fun σ1 => ?_)
 refine WP.t .n (O.stW (l := kRC) (u := rmk (-((rq p).1)) ((rq p).2)) 0 rfl rfl rfl ty31 rfl Lr) (Wn (CW.ret (ST.obtold 0 rfl (OB.box_eq (y := (rq (-p))) (rq_neg p)) ?_)))
 exact QE.done (.inl rfl) rfl (ResOk.c rfl (mem_at 0 rfl) ty31 ResOk.nil) (OImp.sub (List.nil_sublist _)) ⟨rfl, rfl⟩
theorem c_ref03_Add (n : Nat) (p q : Rat) (hp : RZ n p) (hq : RZ n q) (hn : n ≤ 68719476736) : Fn Tryz.prog 74 [kRC.is (rq p), kRC.is (rq q)] (kRC.is (rq (p + q))) := by
 refine Con.enter Tryz.func74 rfl rfl fun m w => Cr (WP.bx .n rfl fun b1 => WP.bx .n rfl fun b2 => WP.al .n z31_pr_C_C_ fun b3 => Wr (Ws (O.fa rfl fld31_0 rfl) (Ws (O.ld rfl (mem_at 2 rfl) (Lens.fst Li) ty29 rfl) (Ws (O.fa rfl fld31_1 rfl) (Ws (O.ld rfl (mem_at 1 rfl) (Lens.snd Li) ty29 rfl) (Ws (O.fn fn128 (evs.l rfl (kC_Z (hp.a.sm (by omega))) (evs.l rfl (kC_Z (hq.b.sm (by omega))) evs.nil)) (c_ref02_Mul ((rq p).1) ((rq q).2))) (WP.al .n z29_C fun b4 => WP.t .n (O.stW (l := kC) (u := ((rq p).1) * ((rq q).2)) 0 rfl rfl rfl ty29 rfl Lr) (Wr (Ws (O.fa rfl fld31_0 rfl) (Ws (O.ld rfl (mem_at 2 rfl) (Lens.fst Li) ty29 rfl) (Ws (O.fa rfl fld31_1 rfl) ?_)))))))))))
 refine Ws (O.ld rfl (mem_at 3 rfl) (Lens.snd Li) ty29 rfl) (Ws (O.fn fn128 (evs.l rfl (kC_Z (hq.a.sm (by omega))) (evs.l rfl (kC_Z (hp.b.sm (by omega))) evs.nil)) (c_ref02_Mul ((rq q).1) ((rq p).2))) (WP.al .n z29_C fun b5 => WP.t .n (O.stW (l := kC) (u := ((rq q).1) * ((rq p).2)) 0 rfl rfl rfl ty29 rfl Lr) (Wn (CW.seq ?_))))
 refine CW.drawM (Γ := [.fr (kC.is (((rq p).1) * ((rq q).2))), .fr (kC.is (((rq q).1) * ((rq p).2))), .fr (kC.is ((((rq p).1) * ((rq q).2)) + (((rq q).1) * ((rq p).2)))), .fr (VP.pt b1 2), .fr (kC.is ((rq p).2)), .fr (VP.pt b2 2), .fr (kC.is ((rq q).2)), .fr (kC.is (((rq p).2) * ((rq q).2))), .fr (kRC.is (rmk ((((rq p).1) * ((rq q).2)) + (((rq q).1) * ((rq p).2))) (((rq p).2) * ((rq q).2))))]) (of_ rfl (fun N => O.ld rfl (mem_app N (mem_at 1 rfl)) Li ty29 rfl) (of_ rfl (fun N => O.ld rfl (mem_app N (mem_at 0 rfl)) Li ty29 rfl) (of_ rfl (fun N => O.fn fn127 (evs.l rfl (kC_Z ((hp.a.mul hq.b).sm (by omega))) (evs.l rfl (kC_Z ((hq.a.mul hp.b).sm (by omega))) evs.nil)) (c_ref02_Add (((rq p).1) * ((rq q).2)) (((rq q).1) * ((rq p).2)))) (of_ rfl (fun N => O.fa rfl fld31_1 rfl) (of_ rfl (fun N => O.ld rfl (mem_app N (mem_at 4 rfl)) (Lens.snd Li) ty29 rfl) (of_ rfl (fun N => O.fa rfl fld31_1 rfl) (of_ rfl (fun N => O.ld rfl (mem_app N (mem_at 3 rfl)) (Lens.snd Li) ty29 rfl) (of_ rfl (fun N => O.fn fn128 (evs.l rfl (kC_Z (hp.b.sm (by omega))) (evs.l rfl (kC_Z (hq.b.sm (by omega))) evs.nil)) (c_ref02_Mul ((rq p).2) ((rq q).2))) (of_ rfl (fun N => O.fn fn138 (evs.l rfl (kC_Z (((hp.a.mul hq.b).add (hq.a.mul hp.b)).sm (by omega))) (evs.l rfl (kC_Z ((hp.b.mul hq.b).sm (by omega))) evs.nil)) (c_ref03_Make ((((rq p).1) * ((rq q).2)) + (((rq q).1) * ((rq p).2))) (((rq p).2) * ((rq q).2)) (Int.mul_ne_zero (rq_den_ne p) (rq_den_ne q)))) oz))))))))) (fun σ1 => ?_)
 refine WP.t .n (O.stW (l := kRC) (u := rmk ((((rq p).1) * ((rq q).2)) + (((rq q).1) * ((rq p).2))) (((rq p).2) * ((rq q).2))) 2 rfl rfl rfl ty31 rfl Lr) (Wn (CW.ret (ST.obtold 2 rfl (OB.box_eq (y := (rq (p + q))) (rq_add p q)) ?_)))
 exact QE.done (.inl rfl) rfl (ResOk.c rfl (mem_at 2 rfl) ty31 ResOk.nil) (OImp.sub (List.nil_sublist _)) ⟨rfl, rfl⟩
theorem c_ref03_Mul (n : Nat) (p q : Rat) (hp : RZ n p) (hq : RZ n q) (hn : n ≤ 68719476736) : Fn Tryz.prog 104 [kRC.is (rq p), kRC.is (rq q)] (kRC.is (rq (p * q))) := by
 refine Con.enter Tryz.func104 rfl rfl fun m w => Cr (WP.bx .n rfl fun b1 => WP.bx .n rfl fun b2 => WP.al .n z31_pr_C_C_ fun b3 => Wn (CW.seq ?_))
 refine CW.drawM (Γ := [.fr (VP.pt b1 0), .fr (kC.is ((rq p).1)), .fr (VP.pt b2 0), .fr (kC.is ((rq q).1)), .fr (kC.is (((rq p).1) * ((rq q).1))), .fr (VP.pt b1 2), .fr (kC.is ((rq p).2)), .fr (VP.pt b2 2), .fr (kC.is ((rq q).2)), .fr (kC.is (((rq p).2) * ((rq q).2))), .fr (kRC.is (rmk (((rq p).1) * ((rq q).1)) (((rq p).2) * ((rq q).2))))]) (of_ rfl (fun N => O.fa rfl fld31_0 rfl) (of_ rfl (fun N => O.ld rfl (mem_app N (mem_at 2 rfl)) (Lens.fst Li) ty29 rfl) (of_ rfl (fun N => O.fa rfl fld31_0 rfl) (of_ rfl (fun N => O.ld rfl (mem_app N (mem_at 1 rfl)) (Lens.fst Li) ty29 rfl) (of_ rfl (fun N => O.fn fn128 (evs.l rfl (kC_Z (hp.a.sm (by omega))) (evs.l rfl (kC_Z (hq.a.sm (by omega))) evs.nil)) (c_ref02_Mul ((rq p).1) ((rq q).1))) (of_ rfl (fun N => O.fa rfl fld31_1 rfl) (of_ rfl (fun N => O.ld rfl (mem_app N (mem_at 2 rfl)) (Lens.snd Li) ty29 rfl) (of_ rfl (fun N => O.fa rfl fld31_1 rfl) (of_ rfl (fun N => O.ld rfl (mem_app N (mem_at 1 rfl)) (Lens.snd Li) ty29 rfl) (of_ rfl (fun N => O.fn fn128 (evs.l rfl (kC_Z (hp.b.sm (by omega))) (evs.l rfl (kC_Z (hq.b.sm (by omega))) evs.nil)) (c_ref02_Mul ((rq p).2) ((rq q).2))) (of_ rfl (fun N => O.fn fn138 (evs.l rfl (kC_Z ((hp.a.mul hq.a).sm (by omega))) (evs.l rfl (kC_Z ((hp.b.mul hq.b).sm (by omega))) evs.nil)) (c_ref03_Make (((rq p).1) * ((rq q).1)) (((rq p).2) * ((rq q).2)) (Int.mul_ne_zero (rq_den_ne p) (rq_den_ne q)))) oz))))))))))) (fun σ1 => ?_)
 refine WP.t .n (O.stW (l := kRC) (u := rmk (((rq p).1) * ((rq q).1)) (((rq p).2) * ((rq q).2))) 0 rfl rfl rfl ty31 rfl Lr) (Wn (CW.ret (ST.obtold 0 rfl (OB.box_eq (y := (rq (p * q))) (rq_mul p q)) ?_)))
 exact QE.done (.inl rfl) rfl (ResOk.c rfl (mem_at 0 rfl) ty31 ResOk.nil) (OImp.sub (List.nil_sublist _)) ⟨rfl, rfl⟩
theorem c_ref03_Div (n : Nat) (p q : Rat) (hp : RZ n p) (hq : RZ n q) (hn : n ≤ 68719476736) (h0 : q ≠ 0) : Fn Tryz.prog 76 [kRC.is (rq p), kRC.is (rq q)] (kRC.is (rq (p / q))) := by
 refine Con.enter Tryz.func76 rfl rfl fun m w => Cr (WP.bx .n rfl fun b1 => WP.bx .n rfl fun b2 => WP.al .n z31_pr_C_C_ fun b3 => Wn (CW.seq ?_))
 refine CW.drawM (Γ := [.fr (VP.pt b1 0), .fr (kC.is ((rq p).1)), .fr (VP.pt b2 2), .fr (kC.is ((rq q).2)), .fr (kC.is (((rq p).1) * ((rq q).2))), .fr (VP.pt b1 2), .fr (kC.is ((rq p).2)), .fr (VP.pt b2 0), .fr (kC.is ((rq q).1)), .fr (kC.is (((rq p).2) * ((rq q).1))), .fr (kRC.is (rmk (((rq p).1) * ((rq q).2)) (((rq p).2) * ((rq q).1))))]) (of_ rfl (fun N => O.fa rfl fld31_0 rfl) (of_ rfl (fun N => O.ld rfl (mem_app N (mem_at 2 rfl)) (Lens.fst Li) ty29 rfl) (of_ rfl (fun N => O.fa rfl fld31_1 rfl) (of_ rfl (fun N => O.ld rfl (mem_app N (mem_at 1 rfl)) (Lens.snd Li) ty29 rfl) (of_ rfl (fun N => O.fn fn128 (evs.l rfl (kC_Z (hp.a.sm (by omega))) (evs.l rfl (kC_Z (hq.b.sm (by omega))) evs.nil)) (c_ref02_Mul ((rq p).1) ((rq q).2))) (of_ rfl (fun N => O.fa rfl fld31_1 rfl) (of_ rfl (fun N => O.ld rfl (mem_app N (mem_at 2 rfl)) (Lens.snd Li) ty29 rfl) (of_ rfl (fun N => O.fa rfl fld31_0 rfl) (of_ rfl (fun N => O.ld rfl (mem_app N (mem_at 1 rfl)) (Lens.fst Li) ty29 rfl) (of_ rfl (fun N => O.fn fn128 (evs.l rfl (kC_Z (hp.b.sm (by omega))) (evs.l rfl (kC_Z (hq.a.sm (by omega))) evs.nil)) (c_ref02_Mul ((rq p).2) ((rq q).1))) (of_ rfl (fun N => O.fn fn138 (evs.l rfl (kC_Z ((hp.a.mul hq.b).sm (by omega))) (evs.l rfl (kC_Z ((hp.b.mul hq.a).sm (by omega))) evs.nil)) (c_ref03_Make (((rq p).1) * ((rq q).2)) (((rq p).2) * ((rq q).1)) (Int.mul_ne_zero (rq_den_ne p) (rq_num_ne h0)))) oz))))))))))) (fun σ1 => ?_)
 refine WP.t .n (O.stW (l := kRC) (u := rmk (((rq p).1) * ((rq q).2)) (((rq p).2) * ((rq q).1))) 0 rfl rfl rfl ty31 rfl Lr) (Wn (CW.ret (ST.obtold 0 rfl (OB.box_eq (y := (rq (p / q))) (rq_div p h0)) ?_)))
 exact QE.done (.inl rfl) rfl (ResOk.c rfl (mem_at 0 rfl) ty31 ResOk.nil) (OImp.sub (List.nil_sublist _)) ⟨rfl, rfl⟩
theorem c_ref03_Sub (n : Nat) (p q : Rat) (hp : RZ n p) (hq : RZ n q) (hn : n ≤ 68719476736) : Fn Tryz.prog 103 [kRC.is (rq p), kRC.is (rq q)] (kRC.is (rq (p - q))) := by
 refine Con.enter Tryz.func103 rfl rfl fun m w => Cr (WP.bx .n rfl fun b1 => WP.bx .n rfl fun b2 => WP.al .n z31_pr_C_C_ fun b3 => Wn (CW.seq ?_))
 refine CW.drawM (Γ := [.fr (kRC.is (rq p)), .fr (kRC.is (rq q)), .fr (kRC.is (rq (-q))), .fr (kRC.is (rq (p + (-q))))]) (of_ rfl (fun N => O.ld rfl (mem_app N (mem_at 2 rfl)) Li ty31 rfl) (of_ rfl (fun N => O.ld rfl (mem_app N (mem_at 1 rfl)) Li ty31 rfl) (of_ rfl (fun N => O.fn fn174 (evs.c rfl evs.nil) (c_ref03_Neg n q hq hn)) (of_ rfl (fun N => O.fn fn74 (evs.c rfl (evs.c rfl evs.nil)) (c_ref03_Add n p (-q) hp hq.neg hn)) oz)))) (fun σ1 => ?_)
 refine WP.t .n (O.stW (l := kRC) (u := rq (p + (-q))) 0 rfl rfl rfl ty31 rfl Lr) (Wn (CW.ret (ST.obtold 0 rfl (OB.box_eq (y := (rq (p - q))) (by rw [Rat.sub_eq_add_neg])) ?_)))
 exact QE.done (.inl rfl) rfl (ResOk.c rfl (mem_at 0 rfl) ty31 ResOk.nil) (OImp.sub (List.nil_sublist _)) ⟨rfl, rfl⟩
end Fw
/- Plain facts: the sum of the products of two rows. -/
set_option linter.unusedVariables false
set_option linter.unusedSimpArgs false
set_option exponentiation.threshold 400
namespace Fw
open Go
def dotN (u v : List Int) : Nat → Int
  | 0 => 0
  | i + 1 => dotN u v i + u.getD i 0 * v.getD i 0
def dotV (u v : List Int) : Int := dotN u v u.length
def SzL (n : Nat) (u : List Int) : Prop := ∀ i, Sz n (u.getD i 0)
theorem Sz.add1 {n : Nat} {x y : Int} (h : Sz n x) (k : Sz n y) : Sz (n + 1) (x + y) := by
  have := Sz.max h k
  have e : Nat.max n n = n := Nat.max_self n
  rwa [e] at this
theorem dotN_Sz {n m u v} (hu : SzL n u) (hv : SzL m v) : ∀ i, Sz (n + m + i) (dotN u v i)
  | 0 => Sz.zero _
  | i + 1 => by
    have h1 := dotN_Sz hu hv i
    have h2 := ((hu i).mul (hv i)).up (show n + m ≤ n + m + i by omega)
    exact Sz.add1 h1 h2
theorem dotN_comm (u v) : ∀ i, dotN u v i = dotN v u i
  | 0 => rfl
  | i + 1 => by simp only [dotN]; rw [dotN_comm u v i, Int.mul_comm]
theorem dotV_comm {u v : List Int} (h : u.length = v.length) : dotV u v = dotV v u := by
  unfold dotV; rw [h, dotN_comm]
end Fw
/- Products of rows: what the functions answer. -/
set_option linter.unusedVariables false
set_option linter.unusedSimpArgs false
set_option exponentiation.threshold 400
set_option maxRecDepth 20000
set_option maxHeartbeats 1000000
namespace Fw
open Go Go.Proofs
theorem c_mat_dot (n : Nat) (u v : List Int) (hu : SzL n u) (hv : SzL n v) (hn : n + n + u.length ≤ 549755813000) (hl : u.length ≤ v.length) : Fn Tryz.prog 179 [kVZ.is u, kVZ.is v] (kC.is (dotV u v)) := by
 refine Con.enter Tryz.func179 rfl rfl fun m w => ST.fact (i := 0) rfl sl_len fun hB => Cr (WP.al .n z29_C fun b1 => Wr (WP.al .n z29_C fun b2 => Wn (CW.seq (Cr (Wm rfl (Ws (O.lenS rfl U23) (Wm rfl (Wn (CW.block (CW.loop (fun (i : Nat) => i ≤ u.length) (fun (i : Nat) => [(0, kVZ.is u), (1, kVZ.is v), (4, VP.pt b1 0), (5, VP.pt b2 0), (7, kVZ.is u), (8, kN6.is (u.length : Int)), (9, kN6.is (i : Int))]) (fun (i : Nat) => [OB.box b2 29 kC (dotN u v i), OB.box b1 29 kC 0]) (fun (i : Nat) => u.length - i) 0 (by omega) (Imp.c4 rfl rfl rfl rfl (Imp.cons rfl (Imp.cons rfl (Imp.consLe rfl (is_eq (y := (0 : Int)) (by rfl)) Imp.nil)))) (OImp.os (OS.keepLe (OB.box_eq (by rfl)) (OS.keep OS.nil))) ?_))))))))))
 intro i hi
 refine Cr (Ws (O.lt rfl rfl) (Wn (CW.seq ?_)))
 refine CW.condD rfl (fun h_t10 => ?_) (fun h_t10 => ?_)
 ·
  refine CW.skip (QE.next (CW.seq (CW.block (Cr (Wm rfl (Wa rfl (Wn ?_)))))))
  refine CW.drawM (Γ := [.fr (kC.is (dotN u v i)), .fr (kVZ.is u), .fr (kN6.is (i : Int)), .fr (VP.pim kZ (u.getD i 0)), .fr (kZ.is (u.getD i 0)), .fr (kVZ.is v), .fr (kN6.is (i : Int)), .fr (VP.pim kZ (v.getD i 0)), .fr (kZ.is (v.getD i 0)), .fr (kC.is ((u.getD i 0) * (v.getD i 0))), .fr (kC.is ((dotN u v i) + ((u.getD i 0) * (v.getD i 0))))]) (of_ rfl (fun N => O.ld rfl (mem_app N (mem_at 0 rfl)) Li ty29 rfl) (om rfl rfl (om rfl rfl (of_ rfl (fun N => O.ix i rfl rfl U23 ty29 rfl (v := (u.getD i 0)) (gd 0 (by omega))) (of_ rfl (fun N => O.ldP rfl ty29) (om rfl rfl (om rfl rfl (of_ rfl (fun N => O.ix i rfl rfl U23 ty29 rfl (v := (v.getD i 0)) (gd 0 (by omega))) (of_ rfl (fun N => O.ldP rfl ty29) (of_ rfl (fun N => O.fn fn122 (evs.c rfl (evs.c rfl evs.nil)) (c_zint_Mul (u.getD i 0) (v.getD i 0))) (of_ rfl (fun N => O.fn fn189 (evs.l rfl (kC_Z ((dotN_Sz hu hv i).sm (by omega))) (evs.l rfl (kC_Z (((hu i).mul (hv i)).sm (by omega))) evs.nil)) (c_zint_Add (dotN u v i) ((u.getD i 0) * (v.getD i 0)))) oz))))))))))) (fun σ1 => ?_)
  refine WP.t .n (O.stW (l := kC) (u := (dotN u v i) + ((u.getD i 0) * (v.getD i 0))) 0 rfl rfl rfl ty29 rfl Lr) (WP.nil (QE.blkN (QE.next (CW.region (Ws (O.add rfl rfl (c := ((i : Int) + 1)) (w64 (by omega))) (Wm rfl (WP.nil (ST.obtold 0 rfl (OB.box_eq (y := (dotN u v (i + 1))) rfl) ?_))))))))
  exact QE.round (i + 1) (by omega) (by omega) (Imp.c4 rfl rfl rfl rfl (Imp.cons rfl (Imp.cons rfl (Imp.consLe rfl (is_eq (y := (((i + 1) : Nat) : Int)) (by rfl)) Imp.nil)))) (OImp.refl _)
 ·
  refine CW.exit (QE.thenE (QE.thenE (QE.blkH (QE.next (Cr (Ws (O.ld rfl (mem_at 0 rfl) Li ty29 rfl) (WP.t .n (O.stW (l := kC) (u := (dotN u v i)) 1 rfl rfl rfl ty29 rfl Lr) (Wn (CW.ret (ST.obtold 1 rfl (OB.box_eq (y := (dotV u v)) (by rw [show i = u.length by omega]; rfl)) ?_))))))))))
  exact QE.done (.inl rfl) rfl (ResOk.c rfl (mem_at 1 rfl) ty29 ResOk.nil) (OImp.sub (List.nil_sublist _)) ⟨rfl, rfl⟩
theorem c_ref05_Dot (n : Nat) (u v : List Int) (hu : SzL n u) (hv : SzL n v) (hn : n + n + u.length ≤ 549755813000) (hl : u.length ≤ v.length) : Fn Tryz.prog 238 [kVZ.is u, kVZ.is v] (kC.is (dotV u v)) := by
 refine Con.enter Tryz.func238 rfl rfl fun m w => ST.fact (i := 0) rfl sl_len fun hB => ST.fact (i := 1) rfl sl_len fun hC => Cr (WP.al .n z29_C fun b1 => Wr (WP.al .n z29_C fun b2 => Wn (CW.seq (Cr (Wa rfl (Wn (CW.block (CW.loop (fun (i : Nat) => i ≤ u.length) (fun (i : Nat) => [(0, kVZ.is u), (1, kVZ.is v), (4, VP.pt b1 0), (5, VP.pt b2 0), (6, kN6.is (i : Int))]) (fun (i : Nat) => [OB.box b2 29 kC (dotN u v i), OB.box b1 29 kC 0]) (fun (i : Nat) => u.length - i) 0 (by omega) (Imp.c4 rfl rfl rfl rfl (Imp.consLe rfl (is_eq (y := (0 : Int)) (by rfl)) Imp.nil)) (OImp.os (OS.keepLe (OB.box_eq (by rfl)) (OS.keep OS.nil))) ?_))))))))
 intro i hi
 refine CW.seq (Cr (Wm rfl (Wm rfl (Ws (O.lenS rfl U23) (Ws (O.lt rfl rfl) (Wm rfl ?_))))))
 refine WP.splitD 11 rfl (fun h_t11 => ?_) (fun h_t11 => ?_)
 ·
  refine WP.s (.g rfl rfl) (O.mv rfl) (WP.s (.g rfl rfl) (O.mv rfl) (WP.s (.g rfl rfl) (O.lenS rfl U23) (WP.s (.g rfl rfl) (O.lt rfl rfl) (Ws (O.pickT rfl rfl) (Wn ?_)))))
  refine CW.condD rfl (fun h_t16 => ?_) (fun h_t16 => ?_)
  ·
   refine CW.skip (QE.next (CW.seq (CW.block ?_)))
   refine CW.drawM (Γ := [.fr (kC.is (dotN u v i)), .fr (kVZ.is u), .fr (kN6.is (i : Int)), .fr (VP.pim kZ (u.getD i 0)), .fr (kZ.is (u.getD i 0)), .fr (kVZ.is v), .fr (kN6.is (i : Int)), .fr (VP.pim kZ (v.getD i 0)), .fr (kZ.is (v.getD i 0)), .fr (kC.is ((u.getD i 0) * (v.getD i 0))), .fr (kC.is ((dotN u v i) + ((u.getD i 0) * (v.getD i 0))))]) (of_ rfl (fun N => O.ld rfl (mem_app N (mem_at 0 rfl)) Li ty29 rfl) (om rfl rfl (om rfl rfl (of_ rfl (fun N => O.ix i rfl rfl U23 ty29 rfl (v := (u.getD i 0)) (gd 0 (by omega))) (of_ rfl (fun N => O.ldP rfl ty29) (om rfl rfl (om rfl rfl (of_ rfl (fun N => O.ix i rfl rfl U23 ty29 rfl (v := (v.getD i 0)) (gd 0 (by omega))) (of_ rfl (fun N => O.ldP rfl ty29) (of_ rfl (fun N => O.fn fn128 (evs.c rfl (evs.c rfl evs.nil)) (c_ref02_Mul (u.getD i 0) (v.getD i 0))) (of_ rfl (fun N => O.fn fn127 (evs.l rfl (kC_Z ((dotN_Sz hu hv i).sm (by omega))) (evs.l rfl (kC_Z (((hu i).mul (hv i)).sm (by omega))) evs.nil)) (c_ref02_Add (dotN u v i) ((u.getD i 0) * (v.getD i 0)))) oz))))))))))) (fun σ1 => ?_)
   refine WP.t .n (O.stW (l := kC) (u := (dotN u v i) + ((u.getD i 0) * (v.getD i 0))) 0 rfl rfl rfl ty29 rfl Lr) (WP.nil (QE.blkN (QE.next (CW.region (Wm rfl (Ws (O.add rfl rfl (c := ((i : Int) + 1)) (w64 (by omega))) (Wa rfl (WP.nil (ST.obtold 0 rfl (OB.box_eq (y := (dotN u v (i + 1))) rfl) ?_)))))))))
   exact QE.round (i + 1) (by omega) (by omega) (Imp.c4 rfl rfl rfl rfl (Imp.consLe rfl (is_eq (y := (((i + 1) : Nat) : Int)) (by rfl)) Imp.nil)) (OImp.refl _)
  ·
   refine CW.exit (QE.thenE (QE.thenE (QE.blkH (QE.next (Cr (Ws (O.ld rfl (mem_at 0 rfl) Li ty29 rfl) (WP.t .n (O.stW (l := kC) (u := (dotN u v i)) 1 rfl rfl rfl ty29 rfl Lr) (Wn (CW.ret (ST.obtold 1 rfl (OB.box_eq (y := (dotV u v)) (by rw [show i = u.length by omega]; rfl)) ?_))))))))))
   exact QE.done (.inl rfl) rfl (ResOk.c rfl (mem_at 1 rfl) ty29 ResOk.nil) (OImp.sub (List.nil_sublist _)) ⟨rfl, rfl⟩
 ·
  refine WP.ku (b := false) rfl rfl (WP.ku (b := false) rfl rfl (WP.ku (b := false) rfl rfl (WP.ku (b := false) rfl rfl (Ws (O.pickF rfl rfl) (Wn (CW.condF rfl (CW.exit (QE.thenE (QE.thenE (QE.blkH (QE.next (Cr (Ws (O.ld rfl (mem_at 0 rfl) Li ty29 rfl) (WP.t .n (O.stW (l := kC) (u := (dotN u v i)) 1 rfl rfl rfl ty29 rfl Lr) (Wn (CW.ret (ST.obtold 1 rfl (OB.box_eq (y := (dotV u v)) (by rw [show i = u.length by omega]; rfl)) ?_)))))))))))))))))
  exact QE.done (.inl rfl) rfl (ResOk.c rfl (mem_at 1 rfl) ty29 ResOk.nil) (OImp.sub (List.nil_sublist _)) ⟨rfl, rfl⟩
theorem c_mat_Dot (n : Nat) (u v : List Int) (hu : SzL n u) (hv : SzL n v) (hn : n + n + u.length ≤ 549755813000) : Fn Tryz.prog 252 [kVZ.is u, kVZ.is v] (VP.tup [kC.is (if u.length = v.length then dotV u v else 0), kN6.is (if u.length = v.length then 0 else 8)]) := by
 refine Con.enter Tryz.func252 rfl rfl fun m w => ST.fact (i := 0) rfl sl_len fun hB => ST.fact (i := 1) rfl sl_len fun hC => Cr (WP.al .n z29_C fun b1 => Wa rfl (Wn (CW.seq (Cr (Wm rfl (Ws (O.lenS rfl U23) (Wm rfl (Ws (O.lenS rfl U23) (Ws (O.ne rfl rfl) (Wn ?_))))))))))
 refine CW.condD rfl (fun h_t10 => ?_) (fun h_t10 => ?_)
 ·
  refine Cr (Ws (O.bld lit29_C rfl evp.n (.nil _)) (WP.t .n (O.stW (l := kC) (u := 0) 0 rfl rfl rfl ty29 rfl Lr) (Wa rfl (Wn (CW.ret (QE.thenR ?_))))))
  have hne : u.length ≠ v.length := by omega
  refine ST.obtold 0 rfl (OB.box_eq (y := (if u.length = v.length then dotV u v else 0)) (by rw [if_neg hne])) (ST.told 5 rfl (is_eq (y := (if u.length = v.length then 0 else 8)) (by rw [if_neg hne])) ?_)
  exact QE.done (.inl rfl) rfl (ResOk.c rfl (mem_at 0 rfl) ty29 (ResOk.t rfl ResOk.nil)) (OImp.sub (List.nil_sublist _)) ⟨rfl, rfl⟩
 ·
  refine CW.skip (QE.next (Cr (Wm rfl (Wm rfl (Ws (O.fn fn179 (evs.c rfl (evs.c rfl evs.nil)) (c_mat_dot n u v (by assumption) (by assumption) (by assumption) (by omega))) (WP.t .n (O.stW (l := kC) (u := dotV u v) 0 rfl rfl rfl ty29 rfl Lr) (Wa rfl (Wn (CW.ret ?_)))))))))
  have hne : u.length = v.length := by omega
  refine ST.obtold 0 rfl (OB.box_eq (y := (if u.length = v.length then dotV u v else 0)) (by rw [if_pos hne])) (ST.told 5 rfl (is_eq (y := (if u.length = v.length then 0 else 8)) (by rw [if_pos hne])) ?_)
  exact QE.done (.inl rfl) rfl (ResOk.c rfl (mem_at 0 rfl) ty29 (ResOk.t rfl ResOk.nil)) (OImp.sub (List.nil_sublist _)) ⟨rfl, rfl⟩
end Fw
/- Plain facts: rows of one length; the order of rows; the first entry that is not 0. -/
set_option linter.unusedVariables false
set_option linter.unusedSimpArgs false
namespace Fw
open Go
theorem gde {α : Type} (l : List α) (d : α) {i : Nat} (h : i < l.length) : l.getD i d = l[i] := by simp [List.getD, h]
def rect (b : List (List Int)) : Bool := b.all (fun r => r.length == (b.getD 0 []).length)
theorem rect_iff {b : List (List Int)} : rect b = true ↔ ∀ i, i < b.length → (b.getD i []).length = (b.getD 0 []).length := by
  simp only [rect, List.all_eq_true, beq_iff_eq]
  constructor
  · intro h i hi
    rw [gde _ _ hi]; exact h _ (List.getElem_mem hi)
  · intro h r hr
    obtain ⟨i, hi, rfl⟩ := List.mem_iff_getElem.mp hr
    rw [← h i hi, gde _ _ hi]
theorem rect_no {b : List (List Int)} {i : Nat} (hi : i < b.length) (h : (b.getD i []).length ≠ (b.getD 0 []).length) : ¬ rect b = true := fun e => h (rect_iff.1 e i hi)
def shN (b : List (List Int)) : Int := if rect b = true then (b.length : Int) else 0
def shM (b : List (List Int)) : Int := if rect b = true then ((b.getD 0 []).length : Int) else 0
def shE (b : List (List Int)) : Int := if rect b = true then 0 else 8
theorem sh_no {b : List (List Int)} {i : Nat} (hi : i < b.length) (h : (b.getD i []).length ≠ (b.getD 0 []).length) : shN b = 0 ∧ shM b = 0 ∧ shE b = 8 := by
  have := rect_no hi h
  simp only [shN, shM, shE, if_neg this]; simp
theorem sh_yes {b : List (List Int)} (h : ∀ i, i < b.length → (b.getD i []).length = (b.getD 0 []).length) : shN b = (b.length : Int) ∧ shM b = ((b.getD 0 []).length : Int) ∧ shE b = 0 := by
  have := rect_iff.2 h
  simp only [shN, shM, shE, if_pos this]; simp
theorem sh_nil {b : List (List Int)} (h : b.length = 0) : shN b = 0 ∧ shM b = 0 ∧ shE b = 0 := by
  have : b = [] := List.eq_nil_of_length_eq_zero h
  subst this; decide
def ordV : List Int → List Int → Int
  | [], [] => 0
  | [], _ :: _ => -1
  | _ :: _, [] => 1
  | x :: u, y :: v => if (x - y).sign ≠ 0 then (x - y).sign else ordV u v
theorem ordV_hit {u v : List Int} {i : Nat} (hi : i < u.length) (hj : i < v.length) (h : (u.getD i 0 - v.getD i 0).sign ≠ 0) : ordV (u.drop i) (v.drop i) = (u.getD i 0 - v.getD i 0).sign := by
  rw [List.drop_eq_getElem_cons hi, List.drop_eq_getElem_cons hj, ordV, ← gde _ 0 hi, ← gde _ 0 hj, if_pos h]
theorem ordV_next {u v : List Int} {i : Nat} (hi : i < u.length) (hj : i < v.length) (h : ¬ (u.getD i 0 - v.getD i 0).sign ≠ 0) : ordV (u.drop i) (v.drop i) = ordV (u.drop (i + 1)) (v.drop (i + 1)) := by
  rw [List.drop_eq_getElem_cons hi, List.drop_eq_getElem_cons hj, ordV, ← gde _ 0 hi, ← gde _ 0 hj, if_neg h]
theorem ordV_end {u v : List Int} {i : Nat} (h : u.length ≤ i ∨ v.length ≤ i) (hu : i ≤ u.length) (hv : i ≤ v.length) : ordV (u.drop i) (v.drop i) = if u.length < v.length then -1 else if v.length < u.length then 1 else 0 := by
  by_cases h1 : i < u.length
  · have h2 : i = v.length := by omega
    rw [List.drop_eq_getElem_cons h1, List.drop_eq_nil_of_le (show v.length ≤ i by omega), ordV, if_neg (by omega), if_pos (by omega)]
  · by_cases h2 : i < v.length
    · rw [List.drop_eq_getElem_cons h2, List.drop_eq_nil_of_le (show u.length ≤ i by omega), ordV, if_pos (by omega)]
    · rw [List.drop_eq_nil_of_le (show u.length ≤ i by omega), List.drop_eq_nil_of_le (show v.length ≤ i by omega), ordV, if_neg (by omega), if_neg (by omega)]
end Fw
/- Shape, order and first entries: what the functions answer. -/
set_option linter.unusedVariables false
set_option linter.unusedSimpArgs false
set_option exponentiation.threshold 400
set_option maxRecDepth 20000
set_option maxHeartbeats 1000000
namespace Fw
open Go Go.Proofs
theorem c_ref04_Order (n : Nat) (u v : List Int) (hu : SzL n u) (hv : SzL n v) (hn : n + n + 1 ≤ 549755813888) : Fn Tryz.prog 63 [kVZ.is u, kVZ.is v] (kN6.is (ordV u v)) := by
 refine Con.enter Tryz.func63 rfl rfl fun m w => ST.fact (i := 0) rfl sl_len fun hB => ST.fact (i := 1) rfl sl_len fun hC => Cr (Wa rfl (Wn (CW.seq (Cr (Wa rfl (Wn (CW.block (CW.loop (fun (i : Nat) => i ≤ u.length ∧ i ≤ v.length ∧ ordV (u.drop i) (v.drop i) = ordV u v) (fun (i : Nat) => [(0, kVZ.is u), (1, kVZ.is v), (5, kN6.is (i : Int))]) (fun (i : Nat) => []) (fun (i : Nat) => u.length - i) 0 ⟨Nat.zero_le _, Nat.zero_le _, rfl⟩ (Imp.cons rfl (Imp.cons rfl (Imp.consLe rfl (is_eq (y := (0 : Int)) (by rfl)) Imp.nil))) (OImp.refl _) ?_))))))))
 intro i ⟨hi, hj, hl⟩
 refine CW.seq (Cr (Wm rfl (Wm rfl (Ws (O.lenS rfl U23) (Ws (O.lt rfl rfl) (Wm rfl ?_))))))
 refine WP.splitD 11 rfl (fun h_t11 => ?_) (fun h_t11 => ?_)
 ·
  refine WP.s (.g rfl rfl) (O.mv rfl) (WP.s (.g rfl rfl) (O.mv rfl) (WP.s (.g rfl rfl) (O.lenS rfl U23) (WP.s (.g rfl rfl) (O.lt rfl rfl) (Ws (O.pickT rfl rfl) (Wn ?_)))))
  refine CW.condD rfl (fun h_t16 => ?_) (fun h_t16 => ?_)
  ·
   refine CW.skip (QE.next (CW.seq (CW.block (CW.seq ?_))))
   refine CW.drawM (Γ := [.fr (kVZ.is u), .fr (kN6.is (i : Int)), .fr (VP.pim kZ (u.getD i 0)), .fr (kZ.is (u.getD i 0)), .fr (kVZ.is v), .fr (kN6.is (i : Int)), .fr (VP.pim kZ (v.getD i 0)), .fr (kZ.is (v.getD i 0)), .fr (kN6.is (((u.getD i 0) - (v.getD i 0)).sign))]) (om rfl rfl (om rfl rfl (of_ rfl (fun N => O.ix i rfl rfl U23 ty29 rfl (v := (u.getD i 0)) (gd 0 (by omega))) (of_ rfl (fun N => O.ldP rfl ty29) (om rfl rfl (om rfl rfl (of_ rfl (fun N => O.ix i rfl rfl U23 ty29 rfl (v := (v.getD i 0)) (gd 0 (by omega))) (of_ rfl (fun N => O.ldP rfl ty29) (of_ rfl (fun N => O.fn fn129 (evs.c rfl (evs.c rfl evs.nil)) (c_ref02_Cmp (u.getD i 0) (v.getD i 0) (((hu i).sub (hv i)).sm (by omega)))) oz))))))))) (fun σ1 => ?_)
   refine Wa rfl (Wr (Wm rfl (Ws (O.ne rfl rfl) (Wn ?_))))
   refine CW.condD rfl (fun h_t29 => ?_) (fun h_t29 => ?_)
   ·
    refine Cr (Wm rfl (Wa rfl (Wn (CW.ret (QE.blkR (QE.thenR (QE.thenR (QE.blkR (QE.thenR (ST.told 4 rfl (is_eq (y := (ordV u v)) (by rw [← hl]; exact (ordV_hit (by omega) (by omega) h_t29).symm)) ?_))))))))))
    exact QE.done (.inl rfl) rfl (ResOk.t rfl ResOk.nil) (OImp.sub (List.nil_sublist _)) ⟨rfl, rfl⟩
   ·
    refine CW.skip (QE.blkN (QE.next (CW.region (Wm rfl (Ws (O.add rfl rfl (c := ((i : Int) + 1)) (w64 (by omega))) (Wa rfl (WP.nil ?_)))))))
    exact QE.round (i + 1) (by omega) ⟨by omega, by omega, by rw [← ordV_next (by omega) (by omega) h_t29]; exact hl⟩ (Imp.cons rfl (Imp.cons rfl (Imp.consLe rfl (is_eq (y := (((i + 1) : Nat) : Int)) (by rfl)) Imp.nil))) (OImp.refl _)
  ·
   refine CW.exit (QE.thenE (QE.thenE (QE.blkH (QE.next (CW.seq (CW.block (Cr (Wm rfl (Ws (O.lenS rfl U23) (Wm rfl (Ws (O.lenS rfl U23) (Ws (O.lt rfl rfl) (Wa rfl (Wn ?_))))))))))))))
   refine CW.condD rfl (fun h_t31 => ?_) (fun h_t31 => ?_)
   ·
    refine Cr (Wa rfl (Wn (CW.ret (QE.blkR (QE.thenR ?_)))))
    exact QE.done (.inl rfl) rfl (ResOk.tl rfl (is_eq (y := ordV u v) (by omega)) ResOk.nil) (OImp.sub (List.nil_sublist _)) ⟨rfl, rfl⟩
   ·
    refine Cr (Wm rfl (Ws (O.lenS rfl U23) (Wm rfl (Ws (O.lenS rfl U23) (Ws (O.gt rfl rfl) (Wa rfl (Wn ?_)))))))
    refine CW.condD rfl (fun h_t37 => ?_) (fun h_t37 => ?_)
    ·
     refine Cr (Wa rfl (Wn (CW.ret (QE.blkR (QE.thenR ?_)))))
     exact QE.done (.inl rfl) rfl (ResOk.tl rfl (is_eq (y := ordV u v) (by rw [← hl, ordV_end (by omega) (by omega) (by omega)]; split <;> first | rfl | omega | (split <;> first | rfl | omega))) ResOk.nil) (OImp.sub (List.nil_sublist _)) ⟨rfl, rfl⟩
    ·
     refine CW.skip (QE.blkN (QE.next (Cr (Wa rfl (Wn (CW.ret ?_))))))
     exact QE.done (.inl rfl) rfl (ResOk.tl rfl (is_eq (y := ordV u v) (by omega)) ResOk.nil) (OImp.sub (List.nil_sublist _)) ⟨rfl, rfl⟩
 ·
  refine WP.ku (b := false) rfl rfl (WP.ku (b := false) rfl rfl (WP.ku (b := false) rfl rfl (WP.ku (b := false) rfl rfl (Ws (O.pickF rfl rfl) (Wn (CW.condF rfl (CW.exit (QE.thenE (QE.thenE (QE.blkH (QE.next (CW.seq (CW.block (Cr (Wm rfl (Ws (O.lenS rfl U23) (Wm rfl (Ws (O.lenS rfl U23) (Ws (O.lt rfl rfl) (Wa rfl (WP.nil ?_)))))))))))))))))))))
  refine QE.next ?_
  refine CW.condD rfl (fun h_t31 => ?_) (fun h_t31 => ?_)
  ·
   refine Cr (Wa rfl (Wn (CW.ret (QE.blkR (QE.thenR ?_)))))
   exact QE.done (.inl rfl) rfl (ResOk.tl rfl (is_eq (y := ordV u v) (by rw [← hl, ordV_end (by omega) (by omega) (by omega)]; split <;> first | rfl | omega | (split <;> first | rfl | omega))) ResOk.nil) (OImp.sub (List.nil_sublist _)) ⟨rfl, rfl⟩
  ·
   refine Cr (Wm rfl (Ws (O.lenS rfl U23) (Wm rfl (Ws (O.lenS rfl U23) (Ws (O.gt rfl rfl) (Wa rfl (Wn ?_)))))))
   refine CW.condD rfl (fun h_t37 => ?_) (fun h_t37 => ?_)
   ·
    refine Cr (Wa rfl (Wn (CW.ret (QE.blkR (QE.thenR ?_)))))
    exact QE.done (.inl rfl) rfl (ResOk.tl rfl (is_eq (y := ordV u v) (by omega)) ResOk.nil) (OImp.sub (List.nil_sublist _)) ⟨rfl, rfl⟩
   ·
    refine CW.skip (QE.blkN (QE.next (Cr (Wa rfl (Wn (CW.ret ?_))))))
    exact QE.done (.inl rfl) rfl (ResOk.tl rfl (is_eq (y := ordV u v) (by rw [← hl, ordV_end (by omega) (by omega) (by omega)]; split <;> first | rfl | omega | (split <;> first | rfl | omega))) ResOk.nil) (OImp.sub (List.nil_sublist _)) ⟨rfl, rfl⟩
theorem c_mat_Order (u v : List Int) : Fn Tryz.prog 56 [kVZ.is u, kVZ.is v] (kN6.is (ordV u v)) := by
 refine Con.enter Tryz.func56 rfl rfl fun m w => ST.fact (i := 0) rfl sl_len fun hB => ST.fact (i := 1) rfl sl_len fun hC => Cr (Wa rfl (Wn (CW.seq (Cr (Wm rfl (Ws (O.lenS rfl U23) (Wm rfl (Ws (O.lenS rfl U23) (Ws (O.mn rfl rfl) (Wm rfl (Wn (CW.block (CW.loop (fun (i : Nat) => i ≤ u.length ∧ i ≤ v.length ∧ ordV (u.drop i) (v.drop i) = ordV u v) (fun (i : Nat) => [(0, kVZ.is u), (1, kVZ.is v), (11, kN6.is ((min u.length v.length : Nat) : Int)), (12, kN6.is (i : Int))]) (fun (i : Nat) => []) (fun (i : Nat) => u.length - i) 0 ⟨Nat.zero_le _, Nat.zero_le _, rfl⟩ (Imp.cons rfl (Imp.cons rfl (Imp.consLe rfl (is_eq (y := ((min u.length v.length : Nat) : Int)) (by omega)) (Imp.consLe rfl (is_eq (y := (0 : Int)) (by rfl)) Imp.nil)))) (OImp.refl _) ?_)))))))))))))
 intro i ⟨hi, hj, hl⟩
 refine Cr (Ws (O.lt rfl rfl) (Wn (CW.seq ?_)))
 refine CW.condD rfl (fun h_t13 => ?_) (fun h_t13 => ?_)
 ·
  refine CW.skip (QE.next (CW.seq (CW.block (Cr (Wm rfl (Wa rfl (Wn (CW.seq ?_))))))))
  refine CW.drawM (Γ := [.fr (kVZ.is u), .fr (kN6.is (i : Int)), .fr (VP.pim kZ (u.getD i 0)), .fr (kZ.is (u.getD i 0)), .fr (kVZ.is v), .fr (kN6.is (i : Int)), .fr (VP.pim kZ (v.getD i 0)), .fr (kZ.is (v.getD i 0)), .fr (kN6.is (((u.getD i 0) - (v.getD i 0)).sign))]) (om rfl rfl (om rfl rfl (of_ rfl (fun N => O.ix i rfl rfl U23 ty29 rfl (v := (u.getD i 0)) (gd 0 (by omega))) (of_ rfl (fun N => O.ldP rfl ty29) (om rfl rfl (om rfl rfl (of_ rfl (fun N => O.ix i rfl rfl U23 ty29 rfl (v := (v.getD i 0)) (gd 0 (by omega))) (of_ rfl (fun N => O.ldP rfl ty29) (of_ rfl (fun N => O.fn fn119 (evs.c rfl (evs.c rfl evs.nil)) (c_zint_Compare (u.getD i 0) (v.getD i 0))) oz))))))))) (fun σ1 => ?_)
  refine Wa rfl (Wr (Wm rfl (Ws (O.ne rfl rfl) (Wn ?_))))
  refine CW.condD rfl (fun h_t25 => ?_) (fun h_t25 => ?_)
  ·
   refine Cr (Wm rfl (Wa rfl (Wn (CW.ret (QE.blkR (QE.thenR (QE.thenR (QE.blkR (QE.thenR (ST.told 4 rfl (is_eq (y := (ordV u v)) (by rw [← hl]; exact (ordV_hit (by omega) (by omega) h_t25).symm)) ?_))))))))))
   exact QE.done (.inl rfl) rfl (ResOk.t rfl ResOk.nil) (OImp.sub (List.nil_sublist _)) ⟨rfl, rfl⟩
  ·
   refine CW.skip (QE.blkN (QE.next (CW.region (Ws (O.add rfl rfl (c := ((i : Int) + 1)) (w64 (by omega))) (Wm rfl (WP.nil ?_))))))
   exact QE.round (i + 1) (by omega) ⟨by omega, by omega, by rw [← ordV_next (by omega) (by omega) h_t25]; exact hl⟩ (Imp.cons rfl (Imp.cons rfl (Imp.cons rfl (Imp.consLe rfl (is_eq (y := (((i + 1) : Nat) : Int)) (by rfl)) Imp.nil)))) (OImp.refl _)
 ·
  refine CW.exit (QE.thenE (QE.thenE (QE.blkH (QE.next (CW.seq (CW.block (Cr (Wm rfl (Ws (O.lenS rfl U23) (Wm rfl (Ws (O.lenS rfl U23) (Ws (O.lt rfl rfl) (Wa rfl (Wn ?_))))))))))))))
  refine CW.condD rfl (fun h_t28 => ?_) (fun h_t28 => ?_)
  ·
   refine Cr (Wa rfl (Wn (CW.ret (QE.blkR (QE.thenR ?_)))))
   exact QE.done (.inl rfl) rfl (ResOk.tl rfl (is_eq (y := ordV u v) (by rw [← hl, ordV_end (by omega) (by omega) (by omega)]; split <;> first | rfl | omega | (split <;> first | rfl | omega))) ResOk.nil) (OImp.sub (List.nil_sublist _)) ⟨rfl, rfl⟩
  ·
   refine Cr (Wm rfl (Ws (O.lenS rfl U23) (Wm rfl (Ws (O.lenS rfl U23) (Ws (O.gt rfl rfl) (Wa rfl (Wn ?_)))))))
   refine CW.condD rfl (fun h_t34 => ?_) (fun h_t34 => ?_)
   ·
    refine Cr (Wa rfl (Wn (CW.ret (QE.blkR (QE.thenR ?_)))))
    exact QE.done (.inl rfl) rfl (ResOk.tl rfl (is_eq (y := ordV u v) (by rw [← hl, ordV_end (by omega) (by omega) (by omega)]; split <;> first | rfl | omega | (split <;> first | rfl | omega))) ResOk.nil) (OImp.sub (List.nil_sublist _)) ⟨rfl, rfl⟩
   ·
    refine CW.skip (QE.blkN (QE.next (Cr (Wa rfl (Wn (CW.ret ?_))))))
    exact QE.done (.inl rfl) rfl (ResOk.tl rfl (is_eq (y := ordV u v) (by rw [← hl, ordV_end (by omega) (by omega) (by omega)]; split <;> first | rfl | omega | (split <;> first | rfl | omega))) ResOk.nil) (OImp.sub (List.nil_sublist _)) ⟨rfl, rfl⟩
theorem c_mat_Shape (b : List (List Int)) : Fn Tryz.prog 82 [kMZ.is b] (VP.tup [kN6.is (shN b), kN6.is (shM b), kN6.is (shE b)]) := by
 refine Con.enter Tryz.func82 rfl rfl fun m w => ST.fact (i := 0) rfl sl_len fun hB => Cr (Wa rfl (Wa rfl (Wa rfl (Wn (CW.seq (Cr (Wm rfl (Ws (O.lenS rfl U22) (Ws (O.eq rfl rfl) (Wn ?_))))))))))
 refine CW.condD rfl (fun h_t9 => ?_) (fun h_t9 => ?_)
 ·
  refine Cr (Wa rfl (Wa rfl (Wa rfl (Wn (CW.ret (QE.thenR ?_))))))
  have hx := sh_nil (b := b) (by omega)
  refine ST.told 2 rfl (is_eq (y := (shN b)) (by rw [hx.1])) (ST.told 3 rfl (is_eq (y := (shM b)) (by rw [hx.2.1])) (ST.told 4 rfl (is_eq (y := (shE b)) (by rw [hx.2.2])) ?_))
  exact QE.done (.inl rfl) rfl (ResOk.t rfl (ResOk.t rfl (ResOk.t rfl ResOk.nil))) (OImp.sub (List.nil_sublist _)) ⟨rfl, rfl⟩
 ·
  refine CW.skip (QE.next (CW.seq (Cr (Wm rfl (Ws (O.lenS rfl U22) (Wm rfl (Wn (CW.block (CW.loop (fun (i : Nat) => i ≤ b.length ∧ ∀ j, j < i → (b.getD j []).length = (b.getD 0 []).length) (fun (i : Nat) => [(0, kMZ.is b), (10, kMZ.is b), (11, kN6.is (b.length : Int)), (12, kN6.is (i : Int))]) (fun (i : Nat) => []) (fun (i : Nat) => b.length - i) 0 ⟨Nat.zero_le _, fun j hj => absurd hj (by omega)⟩ (Imp.cons rfl (Imp.cons rfl (Imp.cons rfl (Imp.consLe rfl (is_eq (y := (0 : Int)) (by rfl)) Imp.nil)))) (OImp.refl _) ?_)))))))))
  intro i ⟨hi, hl⟩
  refine Cr (Ws (O.lt rfl rfl) (Wn (CW.seq ?_)))
  refine CW.condD rfl (fun h_t13 => ?_) (fun h_t13 => ?_)
  ·
   refine CW.skip (QE.next (CW.seq (CW.block (Cr (Ws (O.ix i rfl rfl U22 ty23 rfl (v := (b.getD i [])) (gd [] (by omega))) (Ws (O.ldP rfl ty23) (Wa rfl (Wr (Wm rfl (Ws (O.lenS rfl U23) (Wm rfl (Ws (O.ix 0 rfl rfl U22 ty23 rfl (v := (b.getD 0 [])) (gd [] (by omega))) (Ws (O.ldP rfl ty23) (Ws (O.lenS rfl U23) (Ws (O.ne rfl rfl) (Wn ?_))))))))))))))))
   refine CW.condD rfl (fun h_t22 => ?_) (fun h_t22 => ?_)
   ·
    refine Cr (Wa rfl (Wa rfl (Wa rfl (Wn (CW.ret (QE.blkR (QE.thenR (QE.thenR (QE.blkR (QE.thenR ?_))))))))))
    have hx := sh_no (b := b) (i := i) (by omega) (by omega)
    refine ST.told 2 rfl (is_eq (y := (shN b)) (by rw [hx.1])) (ST.told 3 rfl (is_eq (y := (shM b)) (by rw [hx.2.1])) (ST.told 4 rfl (is_eq (y := (shE b)) (by rw [hx.2.2])) ?_))
    exact QE.done (.inl rfl) rfl (ResOk.t rfl (ResOk.t rfl (ResOk.t rfl ResOk.nil))) (OImp.sub (List.nil_sublist _)) ⟨rfl, rfl⟩
   ·
    refine CW.skip (QE.blkN (QE.next (CW.region (Ws (O.add rfl rfl (c := ((i : Int) + 1)) (w64 (by omega))) (Wm rfl (WP.nil ?_))))))
    exact QE.round (i + 1) (by omega) ⟨by omega, fun j hj => if e : j = i then by subst e; omega else hl j (by omega)⟩ (Imp.cons rfl (Imp.cons rfl (Imp.cons rfl (Imp.consLe rfl (is_eq (y := (((i + 1) : Nat) : Int)) (by rfl)) Imp.nil)))) (OImp.refl _)
  ·
   refine CW.exit (QE.thenE (QE.thenE (QE.blkH (QE.next (CW.seq ?_)))))
   refine CW.join [(0, kMZ.is b), (2, kN6.is (b.length : Int)), (3, kN6.is ((b.getD 0 []).length : Int)), (4, kN6.is 0), (10, kMZ.is b), (11, kN6.is (b.length : Int)), (12, kN6.is (i : Int)), (13, kBool.is (decide ((i : Int) < (b.length : Int)))), (24, kMZ.is b), (25, kN6.is (b.length : Int)), (26, kMZ.is b), (27, VP.pim kVZ (b.getD 0 [])), (28, kVZ.is (b.getD 0 [])), (29, kN6.is ((b.getD 0 []).length : Int))] [] ?_ ?_
   ·
    refine CW.any (by kernel_rfl) (DA.first 0 rfl (by kernel_rfl) (by kernel_rfl) (by kernel_rfl) (fun _ _ _ _ _ h => h) .n (OV.mv rfl) (DA.first 2 rfl (by kernel_rfl) (by kernel_rfl) (by kernel_rfl) (fun _ _ _ _ _ h => h) .n (OV.mv rfl) ?_))
    refine DAg 1 [3] ⟨?_, ⟨?_, trivial⟩⟩
    ·
     refine DO.sn rfl .n (O.lenS rfl U22) ?_
     refine DAg 3 [6] ⟨?_, ⟨?_, trivial⟩⟩
     ·
      refine DO.sn rfl .n (O.ix 0 rfl rfl U22 ty23 rfl (v := (b.getD 0 [])) (gd [] (by omega))) ?_
      refine DAg 4 [6] ⟨?_, ⟨?_, trivial⟩⟩
      ·
       refine DO.sn rfl .n (O.ldP rfl ty23) ?_
       refine DAg 5 [6] ⟨?_, ⟨?_, trivial⟩⟩
       ·
        refine DO.sn rfl .n (O.lenS rfl U23) (DA1 6 (DO.sn rfl .n (O.asg rfl) (DA1 7 (DO.sn rfl .n (O.asg rfl) (DA1 8 (DO.sn rfl .n (O.asg rfl) (DA.nil (by kernel_rfl) ?_)))))))
        exact QE.join (Imp.c4 rfl rfl rfl rfl (Imp.c4 rfl rfl rfl rfl (Imp.c4 rfl rfl rfl rfl (Imp.cons rfl (Imp.cons rfl Imp.nil))))) (OImp.refl _)
       ·
        refine DO.sn rfl .n (O.asg rfl) (DA1 5 (DO.sn rfl .n (O.lenS rfl U23) (DA1 7 (DO.sn rfl .n (O.asg rfl) (DA1 8 (DO.sn rfl .n (O.asg rfl) (DA.nil (by kernel_rfl) ?_)))))))
        exact QE.join (Imp.c4 rfl rfl rfl rfl (Imp.c4 rfl rfl rfl rfl (Imp.c4 rfl rfl rfl rfl (Imp.cons rfl (Imp.cons rfl Imp.nil))))) (OImp.refl _)
      ·
       refine DO.sn rfl .n (O.asg rfl) (DA1 4 (DO.sn rfl .n (O.ldP rfl ty23) (DA1 5 (DO.sn rfl .n (O.lenS rfl U23) (DA1 7 (DO.sn rfl .n (O.asg rfl) (DA1 8 (DO.sn rfl .n (O.asg rfl) (DA.nil (by kernel_rfl) ?_)))))))))
       exact QE.join (Imp.c4 rfl rfl rfl rfl (Imp.c4 rfl rfl rfl rfl (Imp.c4 rfl rfl rfl rfl (Imp.cons rfl (Imp.cons rfl Imp.nil))))) (OImp.refl _)
     ·
      refine DO.sn rfl .n (O.asg rfl) (DA1 3 (DO.sn rfl .n (O.ix 0 rfl rfl U22 ty23 rfl (v := (b.getD 0 [])) (gd [] (by omega))) (DA1 4 (DO.sn rfl .n (O.ldP rfl ty23) (DA1 5 (DO.sn rfl .n (O.lenS rfl U23) (DA1 7 (DO.sn rfl .n (O.asg rfl) (DA1 8 (DO.sn rfl .n (O.asg rfl) (DA.nil (by kernel_rfl) ?_)))))))))))
      exact QE.join (Imp.c4 rfl rfl rfl rfl (Imp.c4 rfl rfl rfl rfl (Imp.c4 rfl rfl rfl rfl (Imp.cons rfl (Imp.cons rfl Imp.nil))))) (OImp.refl _)
    ·
     refine DO.sn rfl .n (O.ix 0 rfl rfl U22 ty23 rfl (v := (b.getD 0 [])) (gd [] (by omega))) ?_
     refine DAg 1 [4] ⟨?_, ⟨?_, trivial⟩⟩
     ·
      refine DO.sn rfl .n (O.lenS rfl U22) ?_
      refine DAg 4 [6] ⟨?_, ⟨?_, trivial⟩⟩
      ·
       refine DO.sn rfl .n (O.ldP rfl ty23) ?_
       refine DAg 5 [6] ⟨?_, ⟨?_, trivial⟩⟩
       ·
        refine DO.sn rfl .n (O.lenS rfl U23) (DA1 6 (DO.sn rfl .n (O.asg rfl) (DA1 7 (DO.sn rfl .n (O.asg rfl) (DA1 8 (DO.sn rfl .n (O.asg rfl) (DA.nil (by kernel_rfl) ?_)))))))
        exact QE.join (Imp.c4 rfl rfl rfl rfl (Imp.c4 rfl rfl rfl rfl (Imp.c4 rfl rfl rfl rfl (Imp.cons rfl (Imp.cons rfl Imp.nil))))) (OImp.refl _)
       ·
        refine DO.sn rfl .n (O.asg rfl) (DA1 5 (DO.sn rfl .n (O.lenS rfl U23) (DA1 7 (DO.sn rfl .n (O.asg rfl) (DA1 8 (DO.sn rfl .n (O.asg rfl) (DA.nil (by kernel_rfl) ?_)))))))
        exact QE.join (Imp.c4 rfl rfl rfl rfl (Imp.c4 rfl rfl rfl rfl (Imp.c4 rfl rfl rfl rfl (Imp.cons rfl (Imp.cons rfl Imp.nil))))) (OImp.refl _)
      ·
       refine DO.sn rfl .n (O.asg rfl) (DA1 4 (DO.sn rfl .n (O.ldP rfl ty23) (DA1 5 (DO.sn rfl .n (O.lenS rfl U23) (DA1 7 (DO.sn rfl .n (O.asg rfl) (DA1 8 (DO.sn rfl .n (O.asg rfl) (DA.nil (by kernel_rfl) ?_)))))))))
       exact QE.join (Imp.c4 rfl rfl rfl rfl (Imp.c4 rfl rfl rfl rfl (Imp.c4 rfl rfl rfl rfl (Imp.cons rfl (Imp.cons rfl Imp.nil))))) (OImp.refl _)
     ·
      refine DO.sn rfl .n (O.ldP rfl ty23) ?_
      refine DAg 1 [5] ⟨?_, ⟨?_, trivial⟩⟩
      ·
       refine DO.sn rfl .n (O.lenS rfl U22) ?_
       refine DAg 5 [6] ⟨?_, ⟨?_, trivial⟩⟩
       ·
        refine DO.sn rfl .n (O.lenS rfl U23) (DA1 6 (DO.sn rfl .n (O.asg rfl) (DA1 7 (DO.sn rfl .n (O.asg rfl) (DA1 8 (DO.sn rfl .n (O.asg rfl) (DA.nil (by kernel_rfl) ?_)))))))
        exact QE.join (Imp.c4 rfl rfl rfl rfl (Imp.c4 rfl rfl rfl rfl (Imp.c4 rfl rfl rfl rfl (Imp.cons rfl (Imp.cons rfl Imp.nil))))) (OImp.refl _)
       ·
        refine DO.sn rfl .n (O.asg rfl) (DA1 5 (DO.sn rfl .n (O.lenS rfl U23) (DA1 7 (DO.sn rfl .n (O.asg rfl) (DA1 8 (DO.sn rfl .n (O.asg rfl) (DA.nil (by kernel_rfl) ?_)))))))
        exact QE.join (Imp.c4 rfl rfl rfl rfl (Imp.c4 rfl rfl rfl rfl (Imp.c4 rfl rfl rfl rfl (Imp.cons rfl (Imp.cons rfl Imp.nil))))) (OImp.refl _)
      ·
       refine DO.sn rfl .n (O.lenS rfl U23) (DA1 1 (DO.sn rfl .n (O.lenS rfl U22) (DA1 6 (DO.sn rfl .n (O.asg rfl) (DA1 7 (DO.sn rfl .n (O.asg rfl) (DA1 8 (DO.sn rfl .n (O.asg rfl) (DA.nil (by kernel_rfl) ?_)))))))))
       exact QE.join (Imp.c4 rfl rfl rfl rfl (Imp.c4 rfl rfl rfl rfl (Imp.c4 rfl rfl rfl rfl (Imp.cons rfl (Imp.cons rfl Imp.nil))))) (OImp.refl _)
   refine QE.next (CW.ret ?_)
   have hx := sh_yes (b := b) (fun j hj => hl j (by omega))
   refine ST.told 2 rfl (is_eq (y := (shN b)) (by rw [hx.1])) (ST.told 3 rfl (is_eq (y := (shM b)) (by rw [hx.2.1])) (ST.told 4 rfl (is_eq (y := (shE b)) (by rw [hx.2.2])) ?_))
   exact QE.done (.inl rfl) rfl (ResOk.t rfl (ResOk.t rfl (ResOk.t rfl ResOk.nil))) (OImp.sub (List.nil_sublist _)) ⟨rfl, rfl⟩
theorem c_ref04_Shape (b : List (List Int)) : Fn Tryz.prog 126 [kMZ.is b] (VP.tup [kN6.is (shN b), kN6.is (shM b), kN6.is (shE b)]) := by
 refine Con.enter Tryz.func126 rfl rfl fun m w => ST.fact (i := 0) rfl sl_len fun hB => Cr (Wa rfl (Wa rfl (Wa rfl (Wn (CW.seq (Cr (Wa rfl (Wn (CW.block (CW.loop (fun (i : Nat) => i ≤ b.length ∧ ∀ j, j < i → (b.getD j []).length = (b.getD 0 []).length) (fun (i : Nat) => [(0, kMZ.is b), (5, kN6.is (i : Int))]) (fun (i : Nat) => []) (fun (i : Nat) => b.length - i) 0 ⟨Nat.zero_le _, fun j hj => absurd hj (by omega)⟩ (Imp.cons rfl (Imp.consLe rfl (is_eq (y := (0 : Int)) (by rfl)) Imp.nil)) (OImp.refl _) ?_))))))))))
 intro i ⟨hi, hl⟩
 refine CW.seq (Cr (Wm rfl (Wm rfl (Ws (O.lenS rfl U22) (Ws (O.lt rfl rfl) (Wn ?_))))))
 refine CW.condD rfl (fun h_t9 => ?_) (fun h_t9 => ?_)
 ·
  refine CW.skip (QE.next (CW.seq (CW.block (CW.seq ?_))))
  refine CW.drawM (Γ := [.fr (kMZ.is b), .fr (kN6.is (i : Int)), .fr (VP.pim kVZ (b.getD i [])), .fr (kVZ.is (b.getD i [])), .fr (kN6.is ((b.getD i []).length : Int)), .fr (kMZ.is b), .fr (VP.pim kVZ (b.getD 0 [])), .fr (kVZ.is (b.getD 0 [])), .fr (kN6.is ((b.getD 0 []).length : Int)), .fr (kBool.is (decide (((b.getD i []).length : Int) ≠ ((b.getD 0 []).length : Int))))]) (om rfl rfl (om rfl rfl (of_ rfl (fun N => O.ix i rfl rfl U22 ty23 rfl (v := (b.getD i [])) (gd [] (by omega))) (of_ rfl (fun N => O.ldP rfl ty23) (of_ rfl (fun N => O.lenS rfl U23) (om rfl rfl (of_ rfl (fun N => O.ix 0 rfl rfl U22 ty23 rfl (v := (b.getD 0 [])) (gd [] (by omega))) (of_ rfl (fun N => O.ldP rfl ty23) (of_ rfl (fun N => O.lenS rfl U23) (of_ rfl (fun N => O.ne rfl rfl) oz)))))))))) (fun σ1 => ?_)
  refine Wn ?_
  refine CW.condD rfl (fun h_t21 => ?_) (fun h_t21 => ?_)
  ·
   refine Cr (Wa rfl (Wa rfl (Wa rfl (Wn (CW.ret (QE.blkR (QE.thenR (QE.thenR (QE.blkR (QE.thenR ?_))))))))))
   have hx := sh_no (b := b) (i := i) (by omega) (by omega)
   refine ST.told 2 rfl (is_eq (y := (shN b)) (by rw [hx.1])) (ST.told 3 rfl (is_eq (y := (shM b)) (by rw [hx.2.1])) (ST.told 4 rfl (is_eq (y := (shE b)) (by rw [hx.2.2])) ?_))
   exact QE.done (.inl rfl) rfl (ResOk.t rfl (ResOk.t rfl (ResOk.t rfl ResOk.nil))) (OImp.sub (List.nil_sublist _)) ⟨rfl, rfl⟩
  ·
   refine CW.skip (QE.blkN (QE.next (CW.region (Wm rfl (Ws (O.add rfl rfl (c := ((i : Int) + 1)) (w64 (by omega))) (Wa rfl (WP.nil ?_)))))))
   exact QE.round (i + 1) (by omega) ⟨by omega, fun j hj => if e : j = i then by subst e; omega else hl j (by omega)⟩ (Imp.cons rfl (Imp.consLe rfl (is_eq (y := (((i + 1) : Nat) : Int)) (by rfl)) Imp.nil)) (OImp.refl _)
 ·
  refine CW.exit (QE.thenE (QE.thenE (QE.blkH (QE.next (CW.seq (Cr (Wm rfl (Ws (O.lenS rfl U22) (Ws (O.eq rfl rfl) (Wn ?_))))))))))
  refine CW.condD rfl (fun h_t24 => ?_) (fun h_t24 => ?_)
  ·
   refine Cr (Wa rfl (Wa rfl (Wa rfl (Wn (CW.ret (QE.thenR ?_))))))
   have hx := sh_nil (b := b) (by omega)
   refine ST.told 2 rfl (is_eq (y := (shN b)) (by rw [hx.1])) (ST.told 3 rfl (is_eq (y := (shM b)) (by rw [hx.2.1])) (ST.told 4 rfl (is_eq (y := (shE b)) (by rw [hx.2.2])) ?_))
   exact QE.done (.inl rfl) rfl (ResOk.t rfl (ResOk.t rfl (ResOk.t rfl ResOk.nil))) (OImp.sub (List.nil_sublist _)) ⟨rfl, rfl⟩
  ·
   refine CW.skip (QE.next (CW.seq ?_))
   refine CW.join [(0, kMZ.is b), (2, kN6.is (b.length : Int)), (3, kN6.is ((b.getD 0 []).length : Int)), (4, kN6.is 0), (5, kN6.is (i : Int)), (6, kN6.is (i : Int)), (7, kMZ.is b), (8, kN6.is (b.length : Int)), (9, kBool.is (decide ((i : Int) < (b.length : Int)))), (22, kMZ.is b), (23, kN6.is (b.length : Int)), (24, kBool.is (decide ((b.length : Int) = 0))), (25, kMZ.is b), (26, kN6.is (b.length : Int)), (27, kMZ.is b), (28, VP.pim kVZ (b.getD 0 [])), (29, kVZ.is (b.getD 0 [])), (30, kN6.is ((b.getD 0 []).length : Int))] [] ?_ ?_
   ·
    refine CW.any (by kernel_rfl) (DA.first 0 rfl (by kernel_rfl) (by kernel_rfl) (by kernel_rfl) (fun _ _ _ _ _ h => h) .n (OV.mv rfl) (DA.first 2 rfl (by kernel_rfl) (by kernel_rfl) (by kernel_rfl) (fun _ _ _ _ _ h => h) .n (OV.mv rfl) ?_))
    refine DAg 1 [3] ⟨?_, ⟨?_, trivial⟩⟩
    ·
     refine DO.sn rfl .n (O.lenS rfl U22) ?_
     refine DAg 3 [6] ⟨?_, ⟨?_, trivial⟩⟩
     ·
      refine DO.sn rfl .n (O.ix 0 rfl rfl U22 ty23 rfl (v := (b.getD 0 [])) (gd [] (by omega))) ?_
      refine DAg 4 [6] ⟨?_, ⟨?_, trivial⟩⟩
      ·
       refine DO.sn rfl .n (O.ldP rfl ty23) ?_
       refine DAg 5 [6] ⟨?_, ⟨?_, trivial⟩⟩
       ·
        refine DO.sn rfl .n (O.lenS rfl U23) (DA1 6 (DO.sn rfl .n (O.asg rfl) (DA1 7 (DO.sn rfl .n (O.asg rfl) (DA1 8 (DO.sn rfl .n (O.asg rfl) (DA.nil (by kernel_rfl) ?_)))))))
        exact QE.join (Imp.c4 rfl rfl rfl rfl (Imp.c4 rfl rfl rfl rfl (Imp.c4 rfl rfl rfl rfl (Imp.c4 rfl rfl rfl rfl (Imp.cons rfl (Imp.cons rfl Imp.nil)))))) (OImp.refl _)
       ·
        refine DO.sn rfl .n (O.asg rfl) (DA1 5 (DO.sn rfl .n (O.lenS rfl U23) (DA1 7 (DO.sn rfl .n (O.asg rfl) (DA1 8 (DO.sn rfl .n (O.asg rfl) (DA.nil (by kernel_rfl) ?_)))))))
        exact QE.join (Imp.c4 rfl rfl rfl rfl (Imp.c4 rfl rfl rfl rfl (Imp.c4 rfl rfl rfl rfl (Imp.c4 rfl rfl rfl rfl (Imp.cons rfl (Imp.cons rfl Imp.nil)))))) (OImp.refl _)
      ·
       refine DO.sn rfl .n (O.asg rfl) (DA1 4 (DO.sn rfl .n (O.ldP rfl ty23) (DA1 5 (DO.sn rfl .n (O.lenS rfl U23) (DA1 7 (DO.sn rfl .n (O.asg rfl) (DA1 8 (DO.sn rfl .n (O.asg rfl) (DA.nil (by kernel_rfl) ?_)))))))))
       exact QE.join (Imp.c4 rfl rfl rfl rfl (Imp.c4 rfl rfl rfl rfl (Imp.c4 rfl rfl rfl rfl (Imp.c4 rfl rfl rfl rfl (Imp.cons rfl (Imp.cons rfl Imp.nil)))))) (OImp.refl _)
     ·
      refine DO.sn rfl .n (O.asg rfl) (DA1 3 (DO.sn rfl .n (O.ix 0 rfl rfl U22 ty23 rfl (v := (b.getD 0 [])) (gd [] (by omega))) (DA1 4 (DO.sn rfl .n (O.ldP rfl ty23) (DA1 5 (DO.sn rfl .n (O.lenS rfl U23) (DA1 7 (DO.sn rfl .n (O.asg rfl) (DA1 8 (DO.sn rfl .n (O.asg rfl) (DA.nil (by kernel_rfl) ?_)))))))))))
      exact QE.join (Imp.c4 rfl rfl rfl rfl (Imp.c4 rfl rfl rfl rfl (Imp.c4 rfl rfl rfl rfl (Imp.c4 rfl rfl rfl rfl (Imp.cons rfl (Imp.cons rfl Imp.nil)))))) (OImp.refl _)
    ·
     refine DO.sn rfl .n (O.ix 0 rfl rfl U22 ty23 rfl (v := (b.getD 0 [])) (gd [] (by omega))) ?_
     refine DAg 1 [4] ⟨?_, ⟨?_, trivial⟩⟩
     ·
      refine DO.sn rfl .n (O.lenS rfl U22) ?_
      refine DAg 4 [6] ⟨?_, ⟨?_, trivial⟩⟩
      ·
       refine DO.sn rfl .n (O.ldP rfl ty23) ?_
       refine DAg 5 [6] ⟨?_, ⟨?_, trivial⟩⟩
       ·
        refine DO.sn rfl .n (O.lenS rfl U23) (DA1 6 (DO.sn rfl .n (O.asg rfl) (DA1 7 (DO.sn rfl .n (O.asg rfl) (DA1 8 (DO.sn rfl .n (O.asg rfl) (DA.nil (by kernel_rfl) ?_)))))))
        exact QE.join (Imp.c4 rfl rfl rfl rfl (Imp.c4 rfl rfl rfl rfl (Imp.c4 rfl rfl rfl rfl (Imp.c4 rfl rfl rfl rfl (Imp.cons rfl (Imp.cons rfl Imp.nil)))))) (OImp.refl _)
       ·
        refine DO.sn rfl .n (O.asg rfl) (DA1 5 (DO.sn rfl .n (O.lenS rfl U23) (DA1 7 (DO.sn rfl .n (O.asg rfl) (DA1 8 (DO.sn rfl .n (O.asg rfl) (DA.nil (by kernel_rfl) ?_)))))))
        exact QE.join (Imp.c4 rfl rfl rfl rfl (Imp.c4 rfl rfl rfl rfl (Imp.c4 rfl rfl rfl rfl (Imp.c4 rfl rfl rfl rfl (Imp.cons rfl (Imp.cons rfl Imp.nil)))))) (OImp.refl _)
      ·
       refine DO.sn rfl .n (O.asg rfl) (DA1 4 (DO.sn rfl .n (O.ldP rfl ty23) (DA1 5 (DO.sn rfl .n (O.lenS rfl U23) (DA1 7 (DO.sn rfl .n (O.asg rfl) (DA1 8 (DO.sn rfl .n (O.asg rfl) (DA.nil (by kernel_rfl) ?_)))))))))
       exact QE.join (Imp.c4 rfl rfl rfl rfl (Imp.c4 rfl rfl rfl rfl (Imp.c4 rfl rfl rfl rfl (Imp.c4 rfl rfl rfl rfl (Imp.cons rfl (Imp.cons rfl Imp.nil)))))) (OImp.refl _)
     ·
      refine DO.sn rfl .n (O.ldP rfl ty23) ?_
      refine DAg 1 [5] ⟨?_, ⟨?_, trivial⟩⟩
      ·
       refine DO.sn rfl .n (O.lenS rfl U22) ?_
       refine DAg 5 [6] ⟨?_, ⟨?_, trivial⟩⟩
       ·
        refine DO.sn rfl .n (O.lenS rfl U23) (DA1 6 (DO.sn rfl .n (O.asg rfl) (DA1 7 (DO.sn rfl .n (O.asg rfl) (DA1 8 (DO.sn rfl .n (O.asg rfl) (DA.nil (by kernel_rfl) ?_)))))))
        exact QE.join (Imp.c4 rfl rfl rfl rfl (Imp.c4 rfl rfl rfl rfl (Imp.c4 rfl rfl rfl rfl (Imp.c4 rfl rfl rfl rfl (Imp.cons rfl (Imp.cons rfl Imp.nil)))))) (OImp.refl _)
       ·
        refine DO.sn rfl .n (O.asg rfl) (DA1 5 (DO.sn rfl .n (O.lenS rfl U23) (DA1 7 (DO.sn rfl .n (O.asg rfl) (DA1 8 (DO.sn rfl .n (O.asg rfl) (DA.nil (by kernel_rfl) ?_)))))))
        exact QE.join (Imp.c4 rfl rfl rfl rfl (Imp.c4 rfl rfl rfl rfl (Imp.c4 rfl rfl rfl rfl (Imp.c4 rfl rfl rfl rfl (Imp.cons rfl (Imp.cons rfl Imp.nil)))))) (OImp.refl _)
      ·
       refine DO.sn rfl .n (O.lenS rfl U23) (DA1 1 (DO.sn rfl .n (O.lenS rfl U22) (DA1 6 (DO.sn rfl .n (O.asg rfl) (DA1 7 (DO.sn rfl .n (O.asg rfl) (DA1 8 (DO.sn rfl .n (O.asg rfl) (DA.nil (by kernel_rfl) ?_)))))))))
       exact QE.join (Imp.c4 rfl rfl rfl rfl (Imp.c4 rfl rfl rfl rfl (Imp.c4 rfl rfl rfl rfl (Imp.c4 rfl rfl rfl rfl (Imp.cons rfl (Imp.cons rfl Imp.nil)))))) (OImp.refl _)
   refine QE.next (CW.ret ?_)
   have hx := sh_yes (b := b) (fun j hj => hl j (by omega))
   refine ST.told 2 rfl (is_eq (y := (shN b)) (by rw [hx.1])) (ST.told 3 rfl (is_eq (y := (shM b)) (by rw [hx.2.1])) (ST.told 4 rfl (is_eq (y := (shE b)) (by rw [hx.2.2])) ?_))
   exact QE.done (.inl rfl) rfl (ResOk.t rfl (ResOk.t rfl (ResOk.t rfl ResOk.nil))) (OImp.sub (List.nil_sublist _)) ⟨rfl, rfl⟩
theorem c_mat_Bits (b : List (List Int)) : Fn Tryz.prog 212 [kMZ.is b] (kN6.is (mbits b)) := by
 refine Con.enter Tryz.func212 rfl rfl fun m w => ST.fact (i := 0) rfl sl_len fun hB => Cr (Wa rfl (Wr (Wa rfl (Wn (CW.seq (Cr (Wm rfl (Ws (O.lenS rfl U22) (Wm rfl (Wn (CW.block (CW.loop (fun (i : Nat) => i ≤ b.length) (fun (i : Nat) => [(0, kMZ.is b), (3, kN6.is ((b.take i).foldl vbN 0)), (8, kMZ.is b), (9, kN6.is (b.length : Int)), (10, kN6.is (i : Int))]) (fun (i : Nat) => []) (fun (i : Nat) => b.length - i) 0 (by omega) (Imp.cons rfl (Imp.consLe rfl (is_eq (y := ((b.take 0).foldl vbN 0)) (by rfl)) (Imp.cons rfl (Imp.cons rfl (Imp.consLe rfl (is_eq (y := (0 : Int)) (by rfl)) Imp.nil))))) (OImp.refl _) ?_))))))))))))
 intro i hi
 refine Cr (Ws (O.lt rfl rfl) (Wn (CW.seq ?_)))
 refine CW.condD rfl (fun h_t11 => ?_) (fun h_t11 => ?_)
 ·
  refine CW.skip (QE.next (CW.seq (CW.block (Cr (Ws (O.ix i rfl rfl U22 ty23 rfl (v := (b.getD i [])) (gd [] (by omega))) (Ws (O.ldP rfl ty23) (Wa rfl (Wr (ST.fact (i := 5) rfl sl_len fun hlk => Wm rfl (Ws (O.lenS rfl U23) (Wm rfl (Wn (CW.block (CW.loop (fun (k : Nat) => k ≤ (b.getD i []).length) (fun (k : Nat) => [(0, kMZ.is b), (3, kN6.is (vbN ((b.take i).foldl vbN 0) ((b.getD i []).take k))), (8, kMZ.is b), (9, kN6.is (b.length : Int)), (10, kN6.is (i : Int)), (14, kVZ.is (b.getD i [])), (15, kN6.is ((b.getD i []).length : Int)), (16, kN6.is (k : Int))]) (fun (k : Nat) => []) (fun (k : Nat) => (b.getD i []).length - k) 0 (by omega) (Imp.cons rfl (Imp.consLe rfl (is_eq (y := (vbN ((b.take i).foldl vbN 0) ((b.getD i []).take 0))) (by rfl)) (Imp.c4 rfl rfl rfl rfl (Imp.cons rfl (Imp.consLe rfl (is_eq (y := (0 : Int)) (by rfl)) Imp.nil))))) (OImp.refl _) ?_))))))))))))))
  intro k hk
  refine Cr (Ws (O.lt rfl rfl) (Wn (CW.seq ?_)))
  refine CW.condD rfl (fun h_t17 => ?_) (fun h_t17 => ?_)
  ·
   refine CW.skip (QE.next (CW.seq (CW.block (Cr (Ws (O.ix k rfl rfl U23 ty29 rfl (v := ((b.getD i []).getD k 0)) (gd 0 (by omega))) (Ws (O.ldP rfl ty29) (WP.al .n z29_C fun b1 => WP.t .n (O.stW (l := kZ) (u := ((b.getD i []).getD k 0)) 0 rfl rfl rfl ty29 rfl Lr) (Wn (CW.region (Wm rfl (Ws (O.ld rfl (mem_at 0 rfl) Li ty29 rfl) (Ws (O.fn fn188 (evs.c rfl evs.nil) (c_zint_Bits ((b.getD i []).getD k 0))) (Ws (O.mx rfl rfl) (Wa rfl (WP.nil (QE.blkN (QE.next (CW.region (Ws (O.add rfl rfl (c := ((k : Int) + 1)) (w64 (by omega))) (Wm rfl ?_))))))))))))))))))))
   refine WP.nil (ST.told 3 rfl (is_eq (y := (vbN ((b.take i).foldl vbN 0) ((b.getD i []).take (k + 1)))) (vbN_s (by omega))) ?_)
   exact QE.round (k + 1) (by omega) (by omega) (Imp.c4 rfl rfl rfl rfl (Imp.cons rfl (Imp.cons rfl (Imp.cons rfl (Imp.consLe rfl (is_eq (y := (((k + 1) : Nat) : Int)) (by rfl)) Imp.nil))))) (OImp.sub (List.nil_sublist _))
  ·
   refine CW.exit (QE.thenE (QE.thenE (QE.blkH (QE.blkN (QE.next (CW.region (Ws (O.add rfl rfl (c := ((i : Int) + 1)) (w64 (by omega))) (Wm rfl (WP.nil (ST.told 3 rfl (is_eq (y := ((b.take (i + 1)).foldl vbN 0)) (mb_done (by omega) (by omega))) ?_))))))))))
   exact QE.round (i + 1) (by omega) (by omega) (Imp.c4 rfl rfl rfl rfl (Imp.consLe rfl (is_eq (y := (((i + 1) : Nat) : Int)) (by rfl)) Imp.nil)) (OImp.refl _)
 ·
  refine CW.exit (QE.thenE (QE.thenE (QE.blkH (QE.next (Cr (Wm rfl (Wa rfl (Wn (CW.ret (ST.told 2 rfl (is_eq (y := (mbits b)) (by rw [List.take_of_length_le (by omega)]; rfl)) ?_))))))))))
  exact QE.done (.inl rfl) rfl (ResOk.t rfl ResOk.nil) (OImp.sub (List.nil_sublist _)) ⟨rfl, rfl⟩
end Fw
/- Plain facts: the whole data of Gram-Schmidt and the fractions: one is the other's numerator; sizes. -/
set_option linter.unusedVariables false
set_option linter.unusedSimpArgs false
set_option exponentiation.threshold 400
namespace Fw
open Go
theorem gsE_frac {G : Nat → Nat → Int} (hs : SymG G) {k : Nat} (hp : PosU G k) {i j : Nat} (hi : k ≤ i) (hj : k ≤ j) : gsE (qG G) k i j = (uE G k i j : Rat) / (uD G k : Rat) := by
  have h := ugs hs k hp
  have h1 := h.e i j hi hj
  have h2 : uD G k ≠ 0 := by have := hp.uD (Nat.le_refl k); omega
  have h3 := rat_ne h2
  rw [h1, h.d]; rw [h.d] at h3; grind
theorem gsE_pos {G : Nat → Nat → Int} (hs : SymG G) {k : Nat} (hp : PosU G k) : 0 < gsE (qG G) k k k ↔ 0 < uE G k k k := by
  have h2 : 0 < uD G k := hp.uD (Nat.le_refl k)
  have h1 := gsE_frac hs hp (Nat.le_refl k) (Nat.le_refl k)
  have hd : (0 : Rat) < (uD G k : Rat) := by exact_mod_cast h2
  have hne := rat_ne (show uD G k ≠ 0 by omega)
  have e : (uE G k k k : Rat) = gsE (qG G) k k k * (uD G k : Rat) := by rw [h1]; grind
  constructor
  · intro h
    have : (0 : Rat) < (uE G k k k : Rat) := by rw [e]; exact Rat.mul_pos h hd
    exact_mod_cast this
  · intro h
    have h4 : (0 : Rat) < (uE G k k k : Rat) := by exact_mod_cast h
    rw [h1, Rat.div_def]; exact Rat.mul_pos h4 (Rat.inv_pos.2 hd)
def szU (n : Nat) : Nat → Nat
  | 0 => n
  | k + 1 => 2 * szU n k + 1
theorem uE_Sz {G : Nat → Nat → Int} (hs : SymG G) {n : Nat} (hn : ∀ i j, Sz n (G i j)) {K : Nat} (hp : PosU G K) : ∀ k, k ≤ K → ∀ i j, k ≤ i → k ≤ j → Sz (szU n k) (uE G k i j)
  | 0, _, i, j, _, _ => hn i j
  | k + 1, hk, i, j, hi, hj => by
    have ih := uE_Sz hs hn hp k (by omega)
    have hx := (ugs hs K hp).x k (by omega) i j (by omega) (by omega) (by omega) (by omega)
    have hd : 0 < uD G k := hp.uD (by omega)
    have h1 := Sz.add1 (((ih k k (Nat.le_refl _) (Nat.le_refl _)).mul (ih i j (by omega) (by omega)))) ((((ih i k (by omega) (Nat.le_refl _)).mul (ih j k (by omega) (Nat.le_refl _)))).neg)
    have e : uE G k k k * uE G k i j + -(uE G k i k * uE G k j k) = uE G (k + 1) i j * uD G k := by
      rw [hx]; show _ = uE G k k k * uE G k i j - _; omega
    rw [e] at h1
    have h2 := h1.le (y := uE G (k + 1) i j) (by
      rw [Int.natAbs_mul]; exact Nat.le_mul_of_pos_right _ (by omega))
    exact h2.up (by simp only [szU]; omega)
end Fw
/- Plain facts: the sum of rows, each so many times. -/
set_option linter.unusedVariables false
set_option linter.unusedSimpArgs false
set_option exponentiation.threshold 400
namespace Fw
open Go
def combN (x : List Int) (b : List (List Int)) (k : Nat) : Nat → Int
  | 0 => 0
  | i + 1 => combN x b k i + x.getD i 0 * (b.getD i []).getD k 0
theorem combN_Sz {n m x b} (hx : SzL n x) (hb : ∀ i, SzL m (b.getD i [])) (k) : ∀ i, Sz (n + m + i) (combN x b k i)
  | 0 => Sz.zero _
  | i + 1 => Sz.add1 (combN_Sz hx hb k i) (((hx i).mul (hb i k)).up (show n + m ≤ n + m + i by omega))
def combP (x : List Int) (b : List (List Int)) (i k0 : Nat) : List Int := (List.range (b.getD 0 []).length).map (fun k => combN x b k (if k < k0 then i + 1 else i))
def combV (x : List Int) (b : List (List Int)) : List Int := (List.range (b.getD 0 []).length).map (fun k => combN x b k b.length)
theorem combP_len (x b i k0) : (combP x b i k0).length = (b.getD 0 []).length := by simp [combP]
theorem combP_get {x b i k0} (h : k0 < (b.getD 0 []).length) : (combP x b i k0).getD k0 0 = combN x b k0 i := by
  rw [gde _ 0 (by rw [combP_len]; exact h)]; simp [combP]
theorem combP_set {x b i k0} (h : k0 < (b.getD 0 []).length) : (combP x b i k0).set k0 (combN x b k0 i + x.getD i 0 * (b.getD i []).getD k0 0) = combP x b i (k0 + 1) := by
  apply List.ext_getElem
  · simp [combP]
  · intro k h1 h2
    simp only [List.getElem_set, combP, List.getElem_map, List.getElem_range]
    by_cases e : k0 = k
    · subst e; rw [if_pos rfl, if_pos (by omega)]; rfl
    · rw [if_neg e]
      by_cases e2 : k < k0
      · rw [if_pos e2, if_pos (by omega)]
      · rw [if_neg e2, if_neg (by omega)]
theorem combP_row {x b i k0} (h : (b.getD 0 []).length ≤ k0) : combP x b i k0 = combP x b (i + 1) 0 := by
  apply List.map_congr_left
  intro k hk
  have := List.mem_range.1 hk
  rw [if_pos (by omega), if_neg (by omega)]
theorem combP_zero (x b) : combP x b 0 0 = List.replicate (b.getD 0 []).length 0 := by
  apply List.ext_getElem
  · simp [combP]
  · intro k h1 h2; simp [combP, combN]
theorem combP_end (x) (b : List (List Int)) : combP x b b.length 0 = combV x b := by
  apply List.map_congr_left
  intro k hk; rw [if_neg (by omega)]
end Fw
/- Plain facts: combinations of rows, and Gram-Schmidt data as lists. -/
set_option linter.unusedVariables false
set_option linter.unusedSimpArgs false
set_option exponentiation.threshold 400
namespace Fw
open Go
theorem slsl_len {α : Type} {k : Kd α} {b : List (List α)} (m : Mem) (v : Value) (h : ((kSl (kSl k)).is b).p m v) : ∀ i, (b.getD i []).length ≤ 1099511627776 := by
  intro i
  obtain ⟨a, cap, rfl, h1, h2, h3⟩ := Kd.is_sl h
  by_cases hi : i < b.length
  · rcases h3 with rfl | ⟨g, o, c, cells, rfl, e1, e2, e3⟩
    · simp at hi
    · have := e3.get i hi
      obtain ⟨a', cap', _, h4, _⟩ := this
      rw [gde _ [] hi]; exact h4
  · have e : b.getD i [] = [] := by simp [List.getD, Nat.le_of_not_lt hi]
    rw [e]; simp
def RectL (b : List (List Int)) : Prop := ∀ i, i < b.length → (b.getD i []).length = (b.getD 0 []).length
def SzM (n : Nat) (b : List (List Int)) : Prop := ∀ i, SzL n (b.getD i [])
theorem combV_len (x b) : (combV x b).length = (b.getD 0 []).length := by simp [combV]
theorem combV_get {x b k} (h : k < (b.getD 0 []).length) : (combV x b).getD k 0 = combN x b k b.length := by
  rw [gde _ 0 (by rw [combV_len]; exact h)]; simp [combV]
theorem combV_app {x b k} (h : k < (b.getD 0 []).length) : (combV x b).take k ++ [combN x b k b.length] = (combV x b).take (k + 1) := by
  rw [← combV_get h, gde _ 0 (by rw [combV_len]; exact h), List.take_succ_eq_append_getElem (by rw [combV_len]; exact h)]
theorem combP_at {x b i k} (h : k < (b.getD 0 []).length) : (combP x b i k)[k]? = some (combN x b k i) := by
  rw [gd (l := combP x b i k) (i := k) 0 (by rw [combP_len]; exact h), combP_get h]
theorem combV_nil (x) {b : List (List Int)} (h : b.length = 0) : combV x b = [] := by
  have := List.eq_nil_of_length_eq_zero h; subst this; rfl
def combOk (x : List Int) (b : List (List Int)) : Prop := rect b = true ∧ x.length = b.length
instance (x b) : Decidable (combOk x b) := by unfold combOk; infer_instance
def combA (x : List Int) (b : List (List Int)) : List Int := if combOk x b then combV x b else []
def combE (x : List Int) (b : List (List Int)) : Int := if combOk x b then 0 else 8
theorem comb_yes {x b} (h : combOk x b) : combV x b = combA x b ∧ combE x b = 0 := ⟨(if_pos h).symm, if_pos h⟩
theorem comb_no {x b} (h : ¬ combOk x b) : combA x b = [] ∧ combE x b = 8 := ⟨if_neg h, if_neg h⟩
theorem rectL {b} (h : rect b = true) : RectL b := rect_iff.1 h
theorem rect_of_shE {b} (h : ¬ shE b ≠ 0) : rect b = true := by
  unfold shE at h
  by_cases e : rect b = true
  · exact e
  · rw [if_neg e] at h; exact absurd (by decide) h
theorem not_rect_of_shE {b} (h : shE b ≠ 0) : ¬ rect b = true := by
  intro e; unfold shE at h; rw [if_pos e] at h; exact h rfl
def gOk (G : Nat → Nat → Int) (n : Nat) : Bool := (List.range n).all (fun i => decide (0 < uE G i i i))
def gDs (G : Nat → Nat → Int) (n : Nat) : List Int := (List.range (n + 1)).map (uD G)
def gRow (G : Nat → Nat → Int) (i m : Nat) : List Int := (List.range m).map (fun j => uE G j i j)
def gLs (G : Nat → Nat → Int) (n : Nat) : List (List Int) := (List.range n).map (fun i => gRow G i i)
theorem gOk_iff {G n} : gOk G n = true ↔ PosU G n := by
  unfold gOk PosU; simp
theorem gRow_len (G i m) : (gRow G i m).length = m := by simp [gRow]
theorem gRow_get {G i m j} (h : j < m) : (gRow G i m).getD j 0 = uE G j i j := by
  rw [gde _ 0 (by rw [gRow_len]; exact h)]; simp [gRow]
theorem gRow_app (G i m) : gRow G i m ++ [uE G m i m] = gRow G i (m + 1) := by
  simp [gRow, List.range_succ]
theorem gRow_take (G i m) : (gRow G i (m + 1)).take m = gRow G i m := by
  rw [← gRow_app, List.take_left' (gRow_len G i m)]
theorem gDs_len (G n) : (gDs G n).length = n + 1 := by simp [gDs]
theorem gDs_get {G n k} (h : k ≤ n) : (gDs G n).getD k 0 = uD G k := by
  rw [gde _ 0 (by rw [gDs_len]; omega)]; simp [gDs]
theorem gDs_app (G n) : gDs G n ++ [uE G n n n] = gDs G (n + 1) := by
  simp [gDs, List.range_succ]; rfl
theorem gLs_len (G n) : (gLs G n).length = n := by simp [gLs]
theorem gLs_get {G n k} (h : k < n) : (gLs G n).getD k [] = gRow G k k := by
  rw [gde _ [] (by rw [gLs_len]; omega)]; simp [gLs]
theorem gLs_app (G n) : gLs G n ++ [gRow G n n] = gLs G (n + 1) := by
  simp [gLs, List.range_succ]
def gram (b : List (List Int)) : Nat → Nat → Int := fun i j => dotV (b.getD i []) (b.getD j [])
theorem gram_sym {b} (h : RectL b) {i j} (hi : i < b.length) (hj : j < b.length) : gram b i j = gram b j i := dotV_comm (by rw [h i hi, h j hj])
theorem dotV_nilr (u : List Int) : dotV u [] = 0 := by
  have : ∀ i, dotN u [] i = 0 := by
    intro i
    induction i with
    | zero => rfl
    | succ i ih => simp [dotN, ih]
  exact this _
theorem gram_symG {b} (h : RectL b) : SymG (gram b) := by
  intro i j
  by_cases hi : i < b.length
  · by_cases hj : j < b.length
    · exact gram_sym h hi hj
    · have e : b.getD j [] = [] := by simp [List.getD, Nat.le_of_not_lt hj]
      unfold gram; rw [e, dotV_nilr]; rfl
  · have e : b.getD i [] = [] := by simp [List.getD, Nat.le_of_not_lt hi]
    unfold gram; rw [e, dotV_nilr]; rfl
theorem row_le {b : List (List Int)} (h : RectL b) {m : Nat} (hc : (b.getD 0 []).length ≤ m) (i : Nat) : (b.getD i []).length ≤ m := by
  by_cases hi : i < b.length
  · rw [h i hi]; exact hc
  · have e : b.getD i [] = [] := by simp [List.getD, Nat.le_of_not_lt hi]
    rw [e]; simp
theorem gram_Sz {n m b} (hb : SzM n b) (h : RectL b) (hc : (b.getD 0 []).length ≤ m) (i j : Nat) : Sz (n + n + m) (gram b i j) :=
  (dotN_Sz (hb i) (hb j) _).up (by have := row_le h hc i; omega)
theorem szU_eq (n) : ∀ k, szU n k + 1 = 2 ^ k * (n + 1)
  | 0 => by simp [szU]
  | k + 1 => by rw [szU, Nat.pow_succ, Nat.mul_comm (2 ^ k) 2, Nat.mul_assoc, ← szU_eq n k]; omega
theorem szU_le (n) {k : Nat} (h : k ≤ 12) : szU n k ≤ 4096 * (n + 1) := by
  have h1 := szU_eq n k
  have h2 : 2 ^ k ≤ 2 ^ 12 := Nat.pow_le_pow_right (by decide) h
  have h3 := Nat.mul_le_mul_right (n + 1) h2
  omega
theorem gDs_at {G n k} (h : k ≤ n) : (gDs G n)[k]? = some (uD G k) := by
  have := gDs_get (G := G) h; rw [gd (l := gDs G n) (i := k) 0 (by rw [gDs_len]; omega), this]
theorem gRow_at {G i m j} (h : j < m) : (gRow G i m)[j]? = some (uE G j i j) := by
  have := gRow_get (G := G) (i := i) h; rw [gd (l := gRow G i m) (i := j) 0 (by rw [gRow_len]; omega), this]
theorem gLs_at {G n i k} (hi : i < n) (h : k < i) : ((gLs G n).getD i [])[k]? = some (uE G k i k) := by
  rw [gLs_get hi]; exact gRow_at h
def gsoV (G : Nat → Nat → Int) (n : Nat) : List Int × List (List Int) := if gOk G n = true then (gDs G n, gLs G n) else ([], [])
theorem gso_yes {G n} (h : PosU G n) : gOk G n = true ∧ gsoV G n = (gDs G n, gLs G n) := ⟨gOk_iff.2 h, if_pos (gOk_iff.2 h)⟩
theorem gso_no {G n i} (hi : i < n) (h : (uE G i i i).sign ≤ 0) : gOk G n = false ∧ gsoV G n = ([], []) := by
  have e : ¬ gOk G n = true := fun e => by
    have h1 := gOk_iff.1 e i hi
    have := Int.sign_eq_one_of_pos h1
    omega
  exact ⟨by simpa using e, if_neg e⟩
theorem posU_succ {G i} (h : PosU G i) (hs : ¬ (uE G i i i).sign ≤ 0) : PosU G (i + 1) := by
  intro l hl
  by_cases e : l = i
  · subst e
    rcases Int.lt_trichotomy (uE G l l l) 0 with h1 | h1 | h1
    · rw [Int.sign_eq_neg_one_of_neg h1] at hs; omega
    · rw [h1] at hs; simp at hs
    · exact h1
  · exact h l (by omega)
theorem uD_Sz {G : Nat → Nat → Int} (hs : SymG G) {n : Nat} (hn : ∀ i j, Sz n (G i j)) {K : Nat} (hp : PosU G K) : ∀ k, k ≤ K → Sz (szU n k + 1) (uD G k)
  | 0, _ => by
    show (1 : Int).natAbs < 2 ^ (n + 1)
    have := Nat.one_le_two_pow (n := n)
    rw [Nat.pow_succ]; simp; omega
  | k + 1, hk => (uE_Sz hs hn hp k (by omega) k k (Nat.le_refl _) (Nat.le_refl _)).up (by simp only [szU]; omega)
end Fw
/- Combinations of rows: what the functions answer. -/
set_option linter.unusedVariables false
set_option linter.unusedSimpArgs false
set_option exponentiation.threshold 400
set_option maxRecDepth 20000
set_option maxHeartbeats 1000000
namespace Fw
open Go Go.Proofs
theorem c_mat_combine (n : Nat) (x : List Int) (b : List (List Int)) (hx : SzL n x) (hb : SzM n b) (hr : RectL b) (hl : b.length ≤ x.length) (hn : n + n + b.length ≤ 549755813000) : Fn Tryz.prog 118 [kVZ.is x, kMZ.is b] (kVC.is (combV x b)) := by
 refine Con.enter Tryz.func118 rfl rfl fun m w => ST.fact (i := 0) rfl sl_len fun hA => ST.fact (i := 1) rfl sl_len fun hB => Cr (Wa rfl (Wn (CW.seq (Cr (Wm rfl (Ws (O.lenS rfl U22) (Ws (O.eq rfl rfl) (Wn ?_))))))))
 refine CW.condD rfl (fun h_t12 => ?_) (fun h_t12 => ?_)
 ·
  refine CW.seq (ST.told (q := kVC.is (combV x b)) 4 rfl (VP.le_trans (nil_le _) (is_eq (combV_nil x (by omega)).symm)) (CW.region (Wa rfl (Wn (CW.ret (QE.thenR (ST.told (q := kVC.is (combV x b)) 4 rfl (VP.le_trans (nil_le _) (is_eq (combV_nil x (by omega)).symm)) ?_)))))))
  exact QE.done (.inl rfl) rfl (ResOk.t rfl ResOk.nil) (OImp.sub (List.nil_sublist _)) ⟨rfl, rfl⟩
 ·
  refine CW.skip (QE.next (Cr (Wm rfl (Ws (O.ix 0 rfl rfl U22 ty23 rfl (v := (b.getD 0 [])) (gd [] (by (first | omega | (simp only [combP_len]; have := hr i (by omega); omega))))) (Ws (O.ldP rfl ty23) (ST.fact (i := 15) rfl sl_len fun hlr => Ws (O.lenS rfl U23) (WP.mk ((b.getD 0 []).length) .n rfl rfl rfl (by (first | omega | (simp only [combP_len]; have := hr i (by omega); omega))) U23 el29_C z29_C fun v1 => Wa rfl (Wn (CW.seq (Cr (Wm rfl (Ws (O.lenS rfl U22) (Wm rfl (Wn (CW.block (ST.obtold 0 rfl (OB.row_eq (ys := (combP x b 0 0)) (combP_zero x b).symm) (CW.loop (fun (i : Nat) => i ≤ b.length) (fun (i : Nat) => [(0, kVZ.is x), (1, kMZ.is b), (5, VP.ex v1), (18, kMZ.is b), (19, kN6.is (b.length : Int)), (20, kN6.is (i : Int))]) (fun (i : Nat) => [OB.row v1 29 kC (combP x b i 0)]) (fun (i : Nat) => b.length - i) 0 (by omega) (Imp.c4 rfl rfl rfl rfl (Imp.cons rfl (Imp.consLe rfl (is_eq (y := (0 : Int)) (by rfl)) Imp.nil))) (OImp.refl _) ?_)))))))))))))))))
  intro i hi
  refine Cr (Ws (O.lt rfl rfl) (Wn (CW.seq ?_)))
  refine CW.condD rfl (fun h_t21 => ?_) (fun h_t21 => ?_)
  ·
   refine CW.skip (QE.next (CW.seq (CW.block (Cr (Wm rfl (Ws (O.ix i rfl rfl U22 ty23 rfl (v := (b.getD i [])) (gd [] (by (first | omega | (simp only [combP_len]; have := hr i (by omega); omega))))) (Ws (O.ldP rfl ty23) (Wa rfl (Wa rfl (Wr (ST.fact (i := 7) rfl sl_len fun hlk => Wm rfl (Ws (O.lenS rfl U23) (Wm rfl (Wn (CW.block (CW.loop (fun (k : Nat) => k ≤ (b.getD i []).length) (fun (k : Nat) => [(0, kVZ.is x), (1, kMZ.is b), (5, VP.ex v1), (6, kN6.is (i : Int)), (7, kVZ.is (b.getD i [])), (18, kMZ.is b), (19, kN6.is (b.length : Int)), (20, kN6.is (i : Int)), (25, kVZ.is (b.getD i [])), (26, kN6.is ((b.getD i []).length : Int)), (27, kN6.is (k : Int))]) (fun (k : Nat) => [OB.row v1 29 kC (combP x b i k)]) (fun (k : Nat) => (b.getD i []).length - k) 0 (by omega) (Imp.c4 rfl rfl rfl rfl (Imp.c4 rfl rfl rfl rfl (Imp.cons rfl (Imp.cons rfl (Imp.consLe rfl (is_eq (y := (0 : Int)) (by rfl)) Imp.nil))))) (OImp.refl _) ?_))))))))))))))))
   intro k hk
   refine Cr (Ws (O.lt rfl rfl) (Wn (CW.seq ?_)))
   refine CW.condD rfl (fun h_t28 => ?_) (fun h_t28 => ?_)
   ·
    refine CW.skip (QE.next (CW.seq (CW.block (Cr (Wm rfl (Ws (O.ix k rfl rfl U23 ty29 rfl (v := ((b.getD i []).getD k 0)) (gd 0 (by (first | omega | (simp only [combP_len]; have := hr i (by omega); omega))))) (Ws (O.ldP rfl ty29) (WP.al .n z29_C fun b2 => Wa rfl (WP.t .n (O.stW (l := kZ) (u := ((b.getD i []).getD k 0)) 0 rfl rfl rfl ty29 rfl Lr) (Wn ?_))))))))))
    refine CW.drawM (Γ := [.fr (VP.ex v1), .fr (kN6.is (k : Int)), .fr (VP.ex v1), .fr (kN6.is (k : Int)), .fr (VP.pel v1 (k * 2)), .fr (kC.is (combN x b k i)), .fr (kVZ.is x), .fr (kN6.is (i : Int)), .fr (VP.pim kZ (x.getD i 0)), .fr (kZ.is (x.getD i 0)), .fr (kZ.is ((b.getD i []).getD k 0)), .fr (kC.is ((x.getD i 0) * ((b.getD i []).getD k 0))), .fr (kC.is ((combN x b k i) + ((x.getD i 0) * ((b.getD i []).getD k 0)))), .fr (VP.pel v1 (k * 2))]) (om rfl rfl (om rfl rfl (om rfl rfl (om rfl rfl (of_ rfl (fun N => O.ixR (k := kC) (xs := (combP x b i k)) (n := (k : Int)) k rfl rfl (mem_app N (mem_at 1 rfl)) U23 ty29 rfl (by (first | omega | (simp only [combP_len]; have := hr i (by omega); omega)))) (of_ rfl (fun N => O.ldR (k := kC) (xs := (combP x b i k)) k rfl (mem_app N (mem_at 1 rfl)) Li (ho := rfl) (y := (combN x b k i)) (combP_at (by have := hr i (by omega); omega)) ty29 rfl) (om rfl rfl (om rfl rfl (of_ rfl (fun N => O.ix i rfl rfl U23 ty29 rfl (v := (x.getD i 0)) (gd 0 (by (first | omega | (simp only [combP_len]; have := hr i (by omega); omega))))) (of_ rfl (fun N => O.ldP rfl ty29) (of_ rfl (fun N => O.ld rfl (mem_app N (mem_at 0 rfl)) Li ty29 rfl) (of_ rfl (fun N => O.fn fn122 (evs.c rfl (evs.c rfl evs.nil)) (c_zint_Mul (x.getD i 0) ((b.getD i []).getD k 0))) (of_ rfl (fun N => O.fn fn189 (evs.l rfl (kC_Z ((combN_Sz hx hb k i).sm (by omega))) (evs.l rfl (kC_Z (((hx i).mul (hb i k)).sm (by omega))) evs.nil)) (c_zint_Add (combN x b k i) ((x.getD i 0) * ((b.getD i []).getD k 0)))) (of_ rfl (fun N => O.ixR (k := kC) (xs := (combP x b i k)) (n := (k : Int)) k rfl rfl (mem_app N (mem_at 1 rfl)) U23 ty29 rfl (by (first | omega | (simp only [combP_len]; have := hr i (by omega); omega)))) oz)))))))))))))) (fun σ1 => ?_)
    refine WP.t .n (O.stR 1 k rfl rfl Li rfl (y0 := ((combP x b i k).getD k 0)) (gd 0 (by (first | omega | (simp only [combP_len]; have := hr i (by omega); omega)))) ty29 rfl Lr) (WP.nil (QE.blkN (QE.next (CW.region (Ws (O.add rfl rfl (c := ((k : Int) + 1)) (w64 (by omega))) (Wm rfl (WP.nil (ST.obtold 1 rfl (OB.row_eq (ys := (combP x b i (k + 1))) (combP_set (by have := hr i (by omega); omega))) ?_))))))))
    exact QE.round (k + 1) (by omega) (by omega) (Imp.c4 rfl rfl rfl rfl (Imp.c4 rfl rfl rfl rfl (Imp.cons rfl (Imp.cons rfl (Imp.consLe rfl (is_eq (y := (((k + 1) : Nat) : Int)) (by rfl)) Imp.nil))))) (OImp.os (OS.skip (OS.keep OS.nil)))
   ·
    refine CW.exit (QE.thenE (QE.thenE (QE.blkH (QE.blkN (QE.next (CW.region (Ws (O.add rfl rfl (c := ((i : Int) + 1)) (w64 (by omega))) (Wm rfl (WP.nil (ST.obtold 0 rfl (OB.row_eq (ys := (combP x b (i + 1) 0)) (combP_row (by have := hr i (by omega); omega))) ?_))))))))))
    exact QE.round (i + 1) (by omega) (by omega) (Imp.c4 rfl rfl rfl rfl (Imp.cons rfl (Imp.consLe rfl (is_eq (y := (((i + 1) : Nat) : Int)) (by rfl)) Imp.nil))) (OImp.refl _)
  ·
   refine CW.exit (QE.thenE (QE.thenE (QE.blkH (QE.next (Cr (Wm rfl (Wa rfl (Wn (CW.ret (ST.freeze 0 rfl (kp 0 rfl (kp 1 rfl (.hit (i := 4) rfl (.hit (i := 5) rfl (kp 18 rfl (kp 19 rfl (kp 20 rfl (kp 21 rfl (.hit (i := 48) rfl .nil))))))))) (ST.told 4 rfl (is_eq (y := (combV x b)) (by rw [show i = b.length by omega, combP_end])) ?_)))))))))))
   exact QE.done (.inl rfl) rfl (ResOk.t rfl ResOk.nil) (OImp.sub (List.nil_sublist _)) ⟨rfl, rfl⟩
theorem c_mat_Combine (n : Nat) (x : List Int) (b : List (List Int)) (hx : SzL n x) (hb : SzM n b) (hn : n + n + b.length ≤ 549755813000) : Fn Tryz.prog 55 [kVZ.is x, kMZ.is b] (VP.tup [kVC.is (combA x b), kN6.is (combE x b)]) := by
 refine Con.enter Tryz.func55 rfl rfl fun m w => ST.fact (i := 0) rfl sl_len fun hA => ST.fact (i := 1) rfl sl_len fun hB => Cr (Wa rfl (Wa rfl (Wr (Wm rfl (Ws (O.fn fn82 (evs.c rfl evs.nil) (c_mat_Shape b)) (Wm rfl (Ws (O.ext rfl rfl) (Ws (O.ext rfl rfl) (Ws (O.ext rfl rfl) (Wa rfl (Wa rfl (Wa rfl (Wn (CW.seq (CW.seq ?_)))))))))))))))
 refine CW.region (Wm rfl (Ws (O.ne rfl rfl) (Wm rfl ?_)))
 refine WP.splitD 17 rfl (fun h_t17 => ?_) (fun h_t17 => ?_)
 ·
  have hno : ¬ combOk x b := fun h => not_rect_of_shE h_t17 h.1
  refine WP.ku (b := true) rfl rfl (WP.ku (b := true) rfl rfl (WP.ku (b := true) rfl rfl (WP.ku (b := true) rfl rfl (Ws (O.pickT rfl rfl) (Wn (CW.condT rfl (Cr (Wa rfl (Wa rfl (Wn (CW.ret (QE.thenR (ST.told (q := kVC.is (combA x b)) 4 rfl (VP.le_trans (nil_le _) (is_eq (comb_no hno).1.symm)) (ST.told 5 rfl (is_eq (y := (combE x b)) (comb_no hno).2.symm) ?_))))))))))))))
  exact QE.done (.inl rfl) rfl (ResOk.t rfl (ResOk.t rfl ResOk.nil)) (OImp.sub (List.nil_sublist _)) ⟨rfl, rfl⟩
 ·
  refine WP.s (.g rfl rfl) (O.mv rfl) (WP.s (.g rfl rfl) (O.lenS rfl U23) (WP.s (.g rfl rfl) (O.mv rfl) (WP.s (.g rfl rfl) (O.ne rfl rfl) (Ws (O.pickF rfl rfl) (Wn ?_)))))
  refine CW.condD rfl (fun h_t22 => ?_) (fun h_t22 => ?_)
  ·
   refine Cr (Wa rfl (Wa rfl (Wn (CW.ret (QE.thenR ?_)))))
   have hno : ¬ combOk x b := fun h => h_t22 (by rw [h.2]; unfold shN; rw [if_pos h.1])
   refine ST.told (q := kVC.is (combA x b)) 4 rfl (VP.le_trans (nil_le _) (is_eq (comb_no hno).1.symm)) (ST.told 5 rfl (is_eq (y := (combE x b)) (comb_no hno).2.symm) ?_)
   exact QE.done (.inl rfl) rfl (ResOk.t rfl (ResOk.t rfl ResOk.nil)) (OImp.sub (List.nil_sublist _)) ⟨rfl, rfl⟩
  ·
   refine CW.skip (QE.next (CW.seq ?_))
   have hok : combOk x b := ⟨rect_of_shE h_t17, by have h := h_t22; unfold shN at h; rw [if_pos (rect_of_shE h_t17)] at h; omega⟩
   refine CW.region (Wm rfl (Wm rfl (Ws (O.fn fn118 (evs.c rfl (evs.c rfl evs.nil)) (c_mat_combine n x b (by assumption) (by assumption) (rectL hok.1) (by have := hok.2; omega) (by assumption))) (Wa rfl (Wa rfl (Wn (CW.ret (ST.told 4 rfl (is_eq (y := (combA x b)) (comb_yes hok).1) (ST.told 5 rfl (is_eq (y := (combE x b)) (comb_yes hok).2.symm) ?_)))))))))
   exact QE.done (.inl rfl) rfl (ResOk.t rfl (ResOk.t rfl ResOk.nil)) (OImp.sub (List.nil_sublist _)) ⟨rfl, rfl⟩
theorem c_ref04_Combine (n : Nat) (x : List Int) (b : List (List Int)) (hx : SzL n x) (hb : SzM n b) (hn : n + n + b.length ≤ 549755813000) : Fn Tryz.prog 62 [kVZ.is x, kMZ.is b] (VP.tup [kVC.is (combA x b), kN6.is (combE x b)]) := by
 refine Con.enter Tryz.func62 rfl rfl fun m w => ST.fact (i := 0) rfl sl_len fun hA => ST.fact (i := 1) rfl sl_len fun hB => Cr (Wa rfl (Wa rfl (Wr (Wm rfl (Ws (O.fn fn126 (evs.c rfl evs.nil) (c_ref04_Shape b)) (Wm rfl (Ws (O.ext rfl rfl) (Ws (O.ext rfl rfl) (Ws (O.ext rfl rfl) (Wa rfl (Wa rfl (Wa rfl (Wn (CW.seq (CW.seq ?_)))))))))))))))
 refine CW.region (Wm rfl (Ws (O.ne rfl rfl) (Wm rfl ?_)))
 refine WP.splitD 21 rfl (fun h_t21 => ?_) (fun h_t21 => ?_)
 ·
  refine WP.ku (b := true) rfl rfl (WP.ku (b := true) rfl rfl (WP.ku (b := true) rfl rfl (WP.ku (b := true) rfl rfl (WP.ku (b := true) rfl rfl (Ws (O.pickT rfl rfl) (Wn (CW.condT rfl (Cr (Wa rfl (Wa rfl (Wn (CW.ret (QE.thenR ?_)))))))))))))
  have hno : ¬ combOk x b := fun h => not_rect_of_shE h_t21 h.1
  refine ST.told (q := kVC.is (combA x b)) 4 rfl (VP.le_trans (nil_le _) (is_eq (comb_no hno).1.symm)) (ST.told 5 rfl (is_eq (y := (combE x b)) (comb_no hno).2.symm) ?_)
  exact QE.done (.inl rfl) rfl (ResOk.t rfl (ResOk.t rfl ResOk.nil)) (OImp.sub (List.nil_sublist _)) ⟨rfl, rfl⟩
 ·
  refine WP.s (.g rfl rfl) (O.mv rfl) (WP.s (.g rfl rfl) (O.lenS rfl U23) (WP.s (.g rfl rfl) (O.mv rfl) (WP.s (.g rfl rfl) (O.lenS rfl U22) (WP.s (.g rfl rfl) (O.ne rfl rfl) (Ws (O.pickF rfl rfl) (Wn ?_))))))
  refine CW.condD rfl (fun h_t27 => ?_) (fun h_t27 => ?_)
  ·
   refine Cr (Wa rfl (Wa rfl (Wn (CW.ret (QE.thenR ?_)))))
   have hno : ¬ combOk x b := fun h => h_t27 (by rw [h.2])
   refine ST.told (q := kVC.is (combA x b)) 4 rfl (VP.le_trans (nil_le _) (is_eq (comb_no hno).1.symm)) (ST.told 5 rfl (is_eq (y := (combE x b)) (comb_no hno).2.symm) ?_)
   exact QE.done (.inl rfl) rfl (ResOk.t rfl (ResOk.t rfl ResOk.nil)) (OImp.sub (List.nil_sublist _)) ⟨rfl, rfl⟩
  ·
   refine CW.skip (QE.next (CW.seq ?_))
   have hok : combOk x b := ⟨rect_of_shE h_t21, by have h := h_t27; omega⟩
   have hr := rectL hok.1
   refine ST.fact (i := 1) rfl slsl_len fun hlc => ?_
   have hlc0 := hlc 0
   refine ST.told 7 rfl (is_eq (y := ((b.getD 0 []).length : Int)) (by unfold shM; rw [if_pos hok.1])) (CW.region (Wa rfl (Wn (CW.seq (Cr (Wa rfl (Wn (CW.block (ST.nilrow 29 kC (CW.loop2 (fun (k : Nat) (v : Value) => k ≤ (b.getD 0 []).length) (fun (k : Nat) (v : Value) => [(0, kVZ.is x), (1, kMZ.is b), (7, kN6.is ((b.getD 0 []).length : Int)), (9, VP.ex v), (10, kN6.is (k : Int))]) (fun (k : Nat) (v : Value) => [OB.row v 29 kC ((combV x b).take k)]) (fun (k : Nat) (v : Value) => (b.getD 0 []).length - k) 0 (.slice none 0 0) (by omega) (Imp.c4 rfl rfl rfl rfl (Imp.consLe rfl (is_eq (y := (0 : Int)) (by rfl)) Imp.nil)) (OImp.os (OS.keepLe (OB.row_eq (by rfl)) OS.nil)) ?_))))))))))
   intro k v hk
   refine CW.seq (CW.seq ?_)
   have hcl : (combV x b).length = (b.getD 0 []).length := combV_len x b
   have hct : ((combV x b).take k).length = k := by rw [List.length_take]; omega
   refine CW.region (Wm rfl (Wm rfl (Ws (O.lt rfl rfl) (Wn ?_))))
   refine CW.condD rfl (fun h_t30 => ?_) (fun h_t30 => ?_)
   ·
    refine CW.skip (QE.next (CW.seq (CW.block (Cr (Ws (O.fn fn77 (evs.l rfl (i64_int (by omega)) evs.nil) (c_ref02_Of 0)) (WP.al .n z29_C fun b1 => WP.t .n (O.stW (l := kC) (u := 0) 0 rfl rfl rfl ty29 rfl Lr) (Wn (CW.seq (Cr (Wa rfl (Wn (CW.block (CW.loop (fun (i : Nat) => i ≤ b.length) (fun (i : Nat) => [(0, kVZ.is x), (1, kMZ.is b), (7, kN6.is ((b.getD 0 []).length : Int)), (9, VP.ex v), (10, kN6.is (k : Int)), (11, VP.pt b1 0), (12, kN6.is (i : Int))]) (fun (i : Nat) => [OB.box b1 29 kC (combN x b k i), OB.row v 29 kC ((combV x b).take k)]) (fun (i : Nat) => b.length - i) 0 (by omega) (Imp.c4 rfl rfl rfl rfl (Imp.cons rfl (Imp.cons rfl (Imp.consLe rfl (is_eq (y := (0 : Int)) (by rfl)) Imp.nil)))) (OImp.os (OS.keepLe (OB.box_eq (by rfl)) (OS.keep OS.nil))) ?_)))))))))))))
    intro i hi
    refine CW.seq (Cr (Wm rfl (Wm rfl (Ws (O.lenS rfl U22) (Ws (O.lt rfl rfl) (Wn ?_))))))
    refine CW.condD rfl (fun h_t37 => ?_) (fun h_t37 => ?_)
    ·
     refine CW.skip (QE.next (CW.seq (CW.block ?_)))
     refine CW.drawM (Γ := [.fr (kC.is (combN x b k i)), .fr (kVZ.is x), .fr (kN6.is (i : Int)), .fr (VP.pim kZ (x.getD i 0)), .fr (kZ.is (x.getD i 0)), .fr (kMZ.is b), .fr (kN6.is (i : Int)), .fr (VP.pim kVZ (b.getD i [])), .fr (kVZ.is (b.getD i [])), .fr (kN6.is (k : Int)), .fr (VP.pim kZ ((b.getD i []).getD k 0)), .fr (kZ.is ((b.getD i []).getD k 0)), .fr (kC.is ((x.getD i 0) * ((b.getD i []).getD k 0))), .fr (kC.is ((combN x b k i) + ((x.getD i 0) * ((b.getD i []).getD k 0))))]) (of_ rfl (fun N => O.ld rfl (mem_app N (mem_at 0 rfl)) Li ty29 rfl) (om rfl rfl (om rfl rfl (of_ rfl (fun N => O.ix i rfl rfl U23 ty29 rfl (v := (x.getD i 0)) (gd 0 (by (first | omega | (have := hr i (by omega); omega))))) (of_ rfl (fun N => O.ldP rfl ty29) (om rfl rfl (om rfl rfl (of_ rfl (fun N => O.ix i rfl rfl U22 ty23 rfl (v := (b.getD i [])) (gd [] (by (first | omega | (have := hr i (by omega); omega))))) (of_ rfl (fun N => O.ldP rfl ty23) (om rfl rfl (of_ rfl (fun N => O.ix k rfl rfl U23 ty29 rfl (v := ((b.getD i []).getD k 0)) (gd 0 (by (first | omega | (have := hr i (by omega); omega))))) (of_ rfl (fun N => O.ldP rfl ty29) (of_ rfl (fun N => O.fn fn128 (evs.c rfl (evs.c rfl evs.nil)) (c_ref02_Mul (x.getD i 0) ((b.getD i []).getD k 0))) (of_ rfl (fun N => O.fn fn127 (evs.l rfl (kC_Z ((combN_Sz hx hb k i).sm (by omega))) (evs.l rfl (kC_Z (((hx i).mul (hb i k)).sm (by omega))) evs.nil)) (c_ref02_Add (combN x b k i) ((x.getD i 0) * ((b.getD i []).getD k 0)))) oz)))))))))))))) (fun σ1 => ?_)
     refine WP.t .n (O.stW (l := kC) (u := (combN x b k i) + ((x.getD i 0) * ((b.getD i []).getD k 0))) 0 rfl rfl rfl ty29 rfl Lr) (WP.nil (QE.blkN (QE.next (CW.region (Wm rfl (Ws (O.add rfl rfl (c := ((i : Int) + 1)) (w64 (by omega))) (Wa rfl (WP.nil (ST.obtold 0 rfl (OB.box_eq (y := (combN x b k (i + 1))) rfl) ?_)))))))))
     exact QE.round (i + 1) (by omega) (by omega) (Imp.c4 rfl rfl rfl rfl (Imp.cons rfl (Imp.cons rfl (Imp.consLe rfl (is_eq (y := (((i + 1) : Nat) : Int)) (by rfl)) Imp.nil)))) (OImp.refl _)
    ·
     refine CW.exit (QE.thenE (QE.thenE (QE.blkH (QE.next (CW.region (Wm rfl (Ws (O.ld rfl (mem_at 0 rfl) Li ty29 rfl) (Ws (O.bs U23 el29_C (evl.c rfl evl.n) rfl (by decide)) (WP.ap 1 .n rfl rfl rfl Lr U23 el29_C (by (simp only [List.length_cons, List.length_nil]; omega)) fun v2 => Wa rfl (WP.nil (QE.blkN (QE.next (CW.region (Wm rfl (Ws (O.add rfl rfl (c := ((k : Int) + 1)) (w64 (by omega))) (Wa rfl (WP.nil (ST.obtold 1 rfl (OB.row_eq (ys := ((combV x b).take (k + 1))) (by rw [show i = b.length by omega]; exact combV_app (by omega))) ?_))))))))))))))))))
     exact QE.round2 (k + 1) v2 (by omega) (by omega) (Imp.c4 rfl rfl rfl rfl (Imp.consLe rfl (is_eq (y := (((k + 1) : Nat) : Int)) (by rfl)) Imp.nil)) (OImp.os (OS.skip (OS.keep OS.nil)))
   ·
    refine CW.exit (QE.thenE (QE.thenE (QE.blkH (QE.next (Cr (Wm rfl (Wa rfl (Wa rfl (Wn (CW.ret (ST.freeze 0 rfl (kp 0 rfl (kp 1 rfl (.hit (i := 4) rfl (kp 5 rfl (kp 7 rfl (.hit (i := 9) rfl (kp 10 rfl (kp 28 rfl (kp 29 rfl (kp 30 rfl (.hit (i := 58) rfl .nil))))))))))) (ST.told 4 rfl (is_eq (y := (combA x b)) (by rw [List.take_of_length_le (by omega)]; exact (comb_yes hok).1)) (ST.told 5 rfl (is_eq (y := (combE x b)) (comb_yes hok).2.symm) ?_)))))))))))))
    exact QE.done (.inl rfl) rfl (ResOk.t rfl (ResOk.t rfl ResOk.nil)) (OImp.sub (List.nil_sublist _)) ⟨rfl, rfl⟩
end Fw
/- Gram-Schmidt data: what the program answers. -/
set_option linter.unusedVariables false
set_option linter.unusedSimpArgs false
set_option exponentiation.threshold 400
set_option maxRecDepth 20000
set_option maxHeartbeats 1000000
namespace Fw
open Go Go.Proofs
theorem c_gso_built (n : Nat) (b : List (List Int)) (hb : SzM n b) (hr : RectL b) (hl : b.length ≤ 12) (hc : (b.getD 0 []).length ≤ 12) (hn : n ≤ 4194304) : Fn Tryz.prog 204 [kMZ.is b] (VP.tup [kGso.is (gsoV (gram b) b.length), kBool.is (gOk (gram b) b.length)]) := by
 refine Con.enter Tryz.func204 rfl rfl fun m w => ST.fact (i := 0) rfl sl_len fun hB => ST.fact (i := 0) rfl slsl_len fun hlc => ?_
 have hs := gram_symG hr
 have hz : ∀ i j, Sz (n + n + 12) (gram b i j) := fun i j => gram_Sz hb hr hc i j
 have hU : ∀ k, k ≤ 12 → szU (n + n + 12) k ≤ 34359902208 := fun k hk => by have := szU_le (n + n + 12) hk; omega
 refine Cr (WP.al .n z25_pr_sl_C_sl_sl_C_ fun b1 => Wa rfl (Wr (Ws (O.fn fn71 (evs.l rfl (i64_int (by omega)) evs.nil) (c_zint_Of 1)) (WP.bso .n U23 el29_C (evl.c rfl evl.n) rfl (by decide) fun v2 => ST.rowcell 0 rfl fun hcell_ => Ws (O.bld lit25_pr_val_val_ rfl (evp.l rfl (ex_val (by assumption)) evp.n) (.cons rfl (Lens.fst Li) (.nil _))) (WP.al .n z25_pr_val_val_ fun b3 => WP.t .n (O.stW (l := (kPair kVal kVal)) (u := (v2, (.slice none 0 0))) 0 rfl rfl rfl ty25 rfl Lr) (Wn (CW.seq (Cr (Wm rfl (Ws (O.lenS rfl U22) (Wm rfl (Wn ?_))))))))))))
 refine CW.block (ST.nilrow 23 kVC (CW.loop3 (fun (i : Nat) (vD : Value) (vL : Value) => i ≤ b.length ∧ PosU (gram b) i) (fun (i : Nat) (vD : Value) (vL : Value) => [(0, kMZ.is b), (2, VP.pt b1 0), (3, kBool.is false), (4, VP.pt b3 0), (16, kN6.is (b.length : Int)), (17, kN6.is (i : Int))]) (fun (i : Nat) (vD : Value) (vL : Value) => [OB.row vL 23 kVC (gLs (gram b) i), OB.box b3 25 (kPair kVal kVal) (vD, vL), OB.row vD 29 kC (gDs (gram b) i), OB.box b1 25 kGso ([], [])]) (fun (i : Nat) (vD : Value) (vL : Value) => b.length - i) 0 v2 (.slice none 0 0) ⟨Nat.zero_le _, fun l hl => absurd hl (by omega)⟩ (Imp.c4 rfl rfl rfl rfl (Imp.cons rfl (Imp.consLe rfl (is_eq (y := (0 : Int)) (by rfl)) Imp.nil))) (OImp.os (OS.keepLe (OB.row_eq (by rfl)) (OS.keep (OS.keepLe (OB.row_eq (by rfl)) (OS.keep OS.nil))))) ?_))
 intro i vD vL ⟨hi, hP⟩
 refine Cr (Ws (O.lt rfl rfl) (Wn (CW.seq ?_)))
 refine CW.condD rfl (fun h_t18 => ?_) (fun h_t18 => ?_)
 ·
  refine CW.skip (QE.next (CW.seq (CW.block (Cr (Wm rfl (Wa rfl (Wr (Wm rfl (Ws (O.add rfl rfl (c := ((i : Int) + 1)) (w64 (by omega))) (WP.mk0 ((((i : Int) + 1)).toNat) .n rfl rfl (by omega) (by omega) U23 el29_C z29_C fun v4 => Wa rfl (Wn (CW.seq (Cr (Wa rfl (Wn ?_)))))))))))))))
  refine CW.block (CW.loop2 (fun (j : Nat) (v : Value) => j ≤ i + 1) (fun (j : Nat) (v : Value) => [(0, kMZ.is b), (2, VP.pt b1 0), (3, kBool.is false), (4, VP.pt b3 0), (5, kN6.is (i : Int)), (6, VP.ex v), (7, kN6.is (j : Int)), (16, kN6.is (b.length : Int)), (17, kN6.is (i : Int))]) (fun (j : Nat) (v : Value) => [OB.row v 29 kC (gRow (gram b) i j), OB.row vL 23 kVC (gLs (gram b) i), OB.box b3 25 (kPair kVal kVal) (vD, vL), OB.row vD 29 kC (gDs (gram b) i), OB.box b1 25 kGso ([], [])]) (fun (j : Nat) (v : Value) => i + 1 - j) 0 v4 (by omega) (Imp.c4 rfl rfl rfl rfl (Imp.cons rfl (Imp.cons rfl (Imp.consLe rfl (is_eq (y := (0 : Int)) (by rfl)) (Imp.cons rfl (Imp.cons rfl Imp.nil)))))) (OImp.os (OS.keepLe (OB.row_eq (by rfl)) (OS.keep (OS.keep (OS.keep (OS.keep OS.nil)))))) ?_)
  intro j v hj
  refine CW.seq (Cr (Wm rfl (Wm rfl (Ws (O.le rfl rfl) (Wn ?_)))))
  refine CW.condD rfl (fun h_t25 => ?_) (fun h_t25 => ?_)
  ·
   refine CW.skip (QE.next (CW.seq (CW.block (CW.seq ?_))))
   have hi2 : i < b.length := by omega
   refine CW.drawM (Γ := [.fr (kMZ.is b), .fr (kN6.is (i : Int)), .fr (VP.pim kVZ (b.getD i [])), .fr (kVZ.is (b.getD i [])), .fr (kMZ.is b), .fr (kN6.is (j : Int)), .fr (VP.pim kVZ (b.getD j [])), .fr (kVZ.is (b.getD j [])), .fr (VP.tup [kC.is (uE (gram b) 0 i j), kN6.is 0]), .fr (VP.tup [kC.is (uE (gram b) 0 i j), kN6.is 0]), .fr (kC.is (uE (gram b) 0 i j)), .lt (kN6.is 0), .al (fun b => OB.box b 29 kC 0)]) (om rfl rfl (om rfl rfl (of_ rfl (fun N => O.ix i rfl rfl U22 ty23 rfl (v := (b.getD i [])) (gd [] (by omega))) (of_ rfl (fun N => O.ldP rfl ty23) (om rfl rfl (om rfl rfl (of_ rfl (fun N => O.ix j rfl rfl U22 ty23 rfl (v := (b.getD j [])) (gd [] (by omega))) (of_ rfl (fun N => O.ldP rfl ty23) (of_ rfl (fun N => OpOk.le (O.fn fn252 (evs.c rfl (evs.c rfl evs.nil)) (c_mat_Dot n (b.getD i []) (b.getD j []) (hb _) (hb _) (by have := row_le hr hc i; omega))) (tup_le (tup_cons (is_eq (if_pos (by rw [hr i (by omega), hr j (by omega)]))) (tup_cons (is_eq (if_pos (by rw [hr i (by omega), hr j (by omega)]))) tup_nil)))) (om rfl rfl (of_ rfl (fun N => O.ext rfl rfl) (oc (Ob.l rfl .n (OV.ext rfl rfl)) (oc (Ob.a rfl z29_C) oz))))))))))))) (fun σ1 => ?_)
   refine WP.t .n (O.stW (l := kC) (u := uE (gram b) 0 i j) 0 rfl rfl rfl ty29 rfl Lr) (Wa rfl (Wn (CW.seq (Cr (Wa rfl (Wn (CW.block (CW.loop2 (fun (k : Nat) (p : Nat) => k ≤ j) (fun (k : Nat) (p : Nat) => [(0, kMZ.is b), (2, VP.pt b1 0), (3, kBool.is false), (4, VP.pt b3 0), (5, kN6.is (i : Int)), (6, VP.ex v), (7, kN6.is (j : Int)), (8, VP.pt p 0), (10, kN6.is (k : Int)), (16, kN6.is (b.length : Int)), (17, kN6.is (i : Int))]) (fun (k : Nat) (p : Nat) => [OB.box p 29 kC (uE (gram b) k i j), OB.row v 29 kC (gRow (gram b) i j), OB.row vL 23 kVC (gLs (gram b) i), OB.box b3 25 (kPair kVal kVal) (vD, vL), OB.row vD 29 kC (gDs (gram b) i), OB.box b1 25 kGso ([], [])]) (fun (k : Nat) (p : Nat) => j - k) 0 (σ1 12) (by omega) (Imp.c4 rfl rfl rfl rfl (Imp.c4 rfl rfl rfl rfl (Imp.consLe rfl (is_eq (y := (0 : Int)) (by rfl)) (Imp.cons rfl (Imp.cons rfl Imp.nil))))) (OImp.refl _) ?_))))))))
   intro k p hk
   refine CW.seq (Cr (Wm rfl (Wm rfl (Ws (O.lt rfl rfl) (Wn ?_)))))
   refine CW.condD rfl (fun h_t42 => ?_) (fun h_t42 => ?_)
   ·
    refine CW.skip (QE.next (CW.seq (CW.block (CW.seq ?_))))
    have hE := uE_Sz hs hz hP
    have hD := uD_Sz hs hz hP
    have hUk := hU k (by omega)
    refine CW.region (Wm rfl (Wa rfl (Wn (CW.seq (Cr (Wm rfl (Wm rfl (Ws (O.lt rfl rfl) (Wn ?_)))))))))
    refine CW.condD rfl (fun h_t48 => ?_) (fun h_t48 => ?_)
    ·
     refine CW.region (Ws (O.fa rfl fld25_1 rfl) (Ws (OpOk.le (O.ld (p := kVal.is vL) rfl (mem_at 3 rfl) (Lens.snd Li) ty22 rfl) (val_ex _)) (Wm rfl (Ws (O.ixR (k := kVC) (xs := (gLs (gram b) i)) (n := (j : Int)) j rfl rfl (mem_at 2 rfl) U22 ty23 rfl (by simp only [gRow_len, gDs_len, gLs_len]; omega)) (Ws (O.ldR j rfl (mem_at 2 rfl) Li rfl (y := ((gLs (gram b) i).getD j [])) (gd [] (by simp only [gRow_len, gDs_len, gLs_len]; omega)) ty23 rfl) (Wa rfl (Wn (CW.seq ?_))))))))
     refine CW.drawM (Γ := [.fr (VP.pt b3 0), .fr (VP.ex vD), .fr (kN6.is (k : Int)), .fr (kN6.is ((k : Int) + 1)), .fr (VP.pel vD ((((k : Int) + 1)).toNat * 2)), .fr (kC.is (uD (gram b) (k + 1))), .fr (kC.is (uE (gram b) k i j)), .fr (kC.is ((uD (gram b) (k + 1)) * (uE (gram b) k i j))), .fr (VP.ex v), .fr (kN6.is (k : Int)), .fr (VP.pel v (k * 2)), .fr (kC.is (uE (gram b) k i k)), .fr (kVC.is ((gLs (gram b) i).getD j [])), .fr (kN6.is (k : Int)), .fr (VP.pim kC (uE (gram b) k j k)), .fr (kC.is (uE (gram b) k j k)), .fr (kC.is ((uE (gram b) k i k) * (uE (gram b) k j k))), .fr (kC.is (((uD (gram b) (k + 1)) * (uE (gram b) k i j)) - ((uE (gram b) k i k) * (uE (gram b) k j k))))]) (of_ rfl (fun N => O.fa rfl fld25_0 rfl) (of_ rfl (fun N => OpOk.le (O.ld (p := kVal.is vD) rfl (mem_app N (mem_at 3 rfl)) (Lens.fst Li) ty23 rfl) (val_ex _)) (om rfl rfl (of_ rfl (fun N => O.add rfl rfl (c := ((k : Int) + 1)) (w64 (by omega))) (of_ rfl (fun N => O.ixR (k := kC) (xs := (gDs (gram b) i)) (n := ((k : Int) + 1)) ((((k : Int) + 1)).toNat) rfl rfl (mem_app N (mem_at 4 rfl)) U23 ty29 (by omega) (by simp only [gRow_len, gDs_len, gLs_len]; omega)) (of_ rfl (fun N => O.ldR (k := kC) (xs := (gDs (gram b) i)) ((((k : Int) + 1)).toNat) rfl (mem_app N (mem_at 4 rfl)) Li (ho := rfl) (y := (uD (gram b) (k + 1))) (gDs_at (by omega)) ty29 rfl) (of_ rfl (fun N => O.ld rfl (mem_app N (mem_at 0 rfl)) Li ty29 rfl) (of_ rfl (fun N => O.fn fn122 (evs.l rfl (kC_Z ((hE k (by omega) k k (by omega) (by omega)).sm (by omega))) (evs.l rfl (kC_Z ((hE k (by omega) i j (by omega) (by omega)).sm (by omega))) evs.nil)) (c_zint_Mul (uD (gram b) (k + 1)) (uE (gram b) k i j))) (om rfl rfl (om rfl rfl (of_ rfl (fun N => O.ixR (k := kC) (xs := (gRow (gram b) i j)) (n := (k : Int)) k rfl rfl (mem_app N (mem_at 1 rfl)) U23 ty29 rfl (by simp only [gRow_len, gDs_len, gLs_len]; omega)) (of_ rfl (fun N => O.ldR (k := kC) (xs := (gRow (gram b) i j)) k rfl (mem_app N (mem_at 1 rfl)) Li (ho := rfl) (y := (uE (gram b) k i k)) (gRow_at (by omega)) ty29 rfl) (om rfl rfl (om rfl rfl (of_ rfl (fun N => O.ix k rfl rfl U23 ty29 rfl (v := (uE (gram b) k j k)) (gLs_at (by omega) (by omega))) (of_ rfl (fun N => O.ldP rfl ty29) (of_ rfl (fun N => O.fn fn122 (evs.l rfl (kC_Z ((hE k (by omega) i k (by omega) (by omega)).sm (by omega))) (evs.l rfl (kC_Z ((hE k (by omega) j k (by omega) (by omega)).sm (by omega))) evs.nil)) (c_zint_Mul (uE (gram b) k i k) (uE (gram b) k j k))) (of_ rfl (fun N => O.fn fn213 (evs.l rfl (kC_Z (((hE k (by omega) k k (by omega) (by omega)).mul (hE k (by omega) i j (by omega) (by omega))).sm (by omega))) (evs.l rfl (kC_Z (((hE k (by omega) i k (by omega) (by omega)).mul (hE k (by omega) j k (by omega) (by omega))).sm (by omega))) evs.nil)) (c_zint_Sub ((uD (gram b) (k + 1)) * (uE (gram b) k i j)) ((uE (gram b) k i k) * (uE (gram b) k j k)))) oz)))))))))))))))))) (fun σ2 => ?_)
     refine WP.t .n (O.stW (l := kC) (u := ((uD (gram b) (k + 1)) * (uE (gram b) k i j)) - ((uE (gram b) k i k) * (uE (gram b) k j k))) 0 rfl rfl rfl ty29 rfl Lr) (Wn ?_)
     refine CW.drawM (Γ := [.fr (kC.is (((uD (gram b) (k + 1)) * (uE (gram b) k i j)) - ((uE (gram b) k i k) * (uE (gram b) k j k)))), .fr (VP.pt b3 0), .fr (VP.ex vD), .fr (kN6.is (k : Int)), .fr (VP.pel vD (k * 2)), .fr (kC.is (uD (gram b) k)), .fr (VP.tup [kC.is ((((uD (gram b) (k + 1)) * (uE (gram b) k i j)) - ((uE (gram b) k i k) * (uE (gram b) k j k))).fdiv (uD (gram b) k)), kC.is (if (uD (gram b) k) = 0 then 0 else (((uD (gram b) (k + 1)) * (uE (gram b) k i j)) - ((uE (gram b) k i k) * (uE (gram b) k j k))).fmod (uD (gram b) k)), kN6.is (if (uD (gram b) k) = 0 then 11 else 0)]), .fr (VP.tup [kC.is ((((uD (gram b) (k + 1)) * (uE (gram b) k i j)) - ((uE (gram b) k i k) * (uE (gram b) k j k))).fdiv (uD (gram b) k)), kC.is (if (uD (gram b) k) = 0 then 0 else (((uD (gram b) (k + 1)) * (uE (gram b) k i j)) - ((uE (gram b) k i k) * (uE (gram b) k j k))).fmod (uD (gram b) k)), kN6.is (if (uD (gram b) k) = 0 then 11 else 0)]), .fr (kC.is ((((uD (gram b) (k + 1)) * (uE (gram b) k i j)) - ((uE (gram b) k i k) * (uE (gram b) k j k))).fdiv (uD (gram b) k))), .lt (kC.is (if (uD (gram b) k) = 0 then 0 else (((uD (gram b) (k + 1)) * (uE (gram b) k i j)) - ((uE (gram b) k i k) * (uE (gram b) k j k))).fmod (uD (gram b) k))), .lt (kN6.is (if (uD (gram b) k) = 0 then 11 else 0))]) (of_ rfl (fun N => O.ld rfl (mem_app N (mem_at 0 rfl)) Li ty29 rfl) (of_ rfl (fun N => O.fa rfl fld25_0 rfl) (of_ rfl (fun N => OpOk.le (O.ld (p := kVal.is vD) rfl (mem_app N (mem_at 3 rfl)) (Lens.fst Li) ty23 rfl) (val_ex _)) (om rfl rfl (of_ rfl (fun N => O.ixR (k := kC) (xs := (gDs (gram b) i)) (n := (k : Int)) k rfl rfl (mem_app N (mem_at 4 rfl)) U23 ty29 rfl (by simp only [gRow_len, gDs_len, gLs_len]; omega)) (of_ rfl (fun N => O.ldR (k := kC) (xs := (gDs (gram b) i)) k rfl (mem_app N (mem_at 4 rfl)) Li (ho := rfl) (y := (uD (gram b) k)) (gDs_at (by omega)) ty29 rfl) (of_ rfl (fun N => O.fn fn214 (evs.l rfl (kC_Z ((((hE k (by omega) k k (by omega) (by omega)).mul (hE k (by omega) i j (by omega) (by omega))).sub ((hE k (by omega) i k (by omega) (by omega)).mul (hE k (by omega) j k (by omega) (by omega)))).sm (by omega))) (evs.l rfl (kC_Z ((hD k (by omega)).sm (by omega))) evs.nil)) (c_zint_Floor (((uD (gram b) (k + 1)) * (uE (gram b) k i j)) - ((uE (gram b) k i k) * (uE (gram b) k j k))) (uD (gram b) k))) (om rfl rfl (of_ rfl (fun N => O.ext rfl rfl) (oc (Ob.l rfl .n (OV.ext rfl rfl)) (oc (Ob.l rfl .n (OV.ext rfl rfl)) oz))))))))))) (fun σ3 => ?_)
     refine WP.t .n (O.stW (l := kC) (u := (((uD (gram b) (k + 1)) * (uE (gram b) k i j)) - ((uE (gram b) k i k) * (uE (gram b) k j k))).fdiv (uD (gram b) k)) 0 rfl rfl rfl ty29 rfl Lr) (WP.nil (QE.blkN (QE.next (CW.region (Wm rfl (Ws (O.add rfl rfl (c := ((k : Int) + 1)) (w64 (by omega))) (Wa rfl (WP.nil (ST.obtold 0 rfl (OB.box_eq (y := (uE (gram b) (k + 1) i j)) (uE_succ _ k i j).symm) ?_)))))))))
     exact QE.round2 (k + 1) p (by omega) (by omega) (Imp.c4 rfl rfl rfl rfl (Imp.c4 rfl rfl rfl rfl (Imp.consLe rfl (is_eq (y := (((k + 1) : Nat) : Int)) (by rfl)) (Imp.cons rfl (Imp.cons rfl Imp.nil))))) (OImp.refl _)
    ·
     refine CW.skip (QE.next (CW.seq ?_))
     refine CW.drawM (Γ := [.fr (VP.pt b3 0), .fr (VP.ex vD), .fr (kN6.is (k : Int)), .fr (kN6.is ((k : Int) + 1)), .fr (VP.pel vD ((((k : Int) + 1)).toNat * 2)), .fr (kC.is (uD (gram b) (k + 1))), .fr (kC.is (uE (gram b) k i j)), .fr (kC.is ((uD (gram b) (k + 1)) * (uE (gram b) k i j))), .fr (VP.ex v), .fr (kN6.is (k : Int)), .fr (VP.pel v (k * 2)), .fr (kC.is (uE (gram b) k i k)), .fr (VP.ex v), .fr (kN6.is (k : Int)), .fr (VP.pel v (k * 2)), .fr (kC.is (uE (gram b) k j k)), .fr (kC.is ((uE (gram b) k i k) * (uE (gram b) k j k))), .fr (kC.is (((uD (gram b) (k + 1)) * (uE (gram b) k i j)) - ((uE (gram b) k i k) * (uE (gram b) k j k))))]) (of_ rfl (fun N => O.fa rfl fld25_0 rfl) (of_ rfl (fun N => OpOk.le (O.ld (p := kVal.is vD) rfl (mem_app N (mem_at 3 rfl)) (Lens.fst Li) ty23 rfl) (val_ex _)) (om rfl rfl (of_ rfl (fun N => O.add rfl rfl (c := ((k : Int) + 1)) (w64 (by omega))) (of_ rfl (fun N => O.ixR (k := kC) (xs := (gDs (gram b) i)) (n := ((k : Int) + 1)) ((((k : Int) + 1)).toNat) rfl rfl (mem_app N (mem_at 4 rfl)) U23 ty29 (by omega) (by simp only [gRow_len, gDs_len, gLs_len]; omega)) (of_ rfl (fun N => O.ldR (k := kC) (xs := (gDs (gram b) i)) ((((k : Int) + 1)).toNat) rfl (mem_app N (mem_at 4 rfl)) Li (ho := rfl) (y := (uD (gram b) (k + 1))) (gDs_at (by omega)) ty29 rfl) (of_ rfl (fun N => O.ld rfl (mem_app N (mem_at 0 rfl)) Li ty29 rfl) (of_ rfl (fun N => O.fn fn122 (evs.l rfl (kC_Z ((hE k (by omega) k k (by omega) (by omega)).sm (by omega))) (evs.l rfl (kC_Z ((hE k (by omega) i j (by omega) (by omega)).sm (by omega))) evs.nil)) (c_zint_Mul (uD (gram b) (k + 1)) (uE (gram b) k i j))) (om rfl rfl (om rfl rfl (of_ rfl (fun N => O.ixR (k := kC) (xs := (gRow (gram b) i j)) (n := (k : Int)) k rfl rfl (mem_app N (mem_at 1 rfl)) U23 ty29 rfl (by simp only [gRow_len, gDs_len, gLs_len]; omega)) (of_ rfl (fun N => O.ldR (k := kC) (xs := (gRow (gram b) i j)) k rfl (mem_app N (mem_at 1 rfl)) Li (ho := rfl) (y := (uE (gram b) k i k)) (gRow_at (by omega)) ty29 rfl) (om rfl rfl (om rfl rfl (of_ rfl (fun N => O.ixR (k := kC) (xs := (gRow (gram b) i j)) (n := (k : Int)) k rfl rfl (mem_app N (mem_at 1 rfl)) U23 ty29 rfl (by simp only [gRow_len, gDs_len, gLs_len]; omega)) (of_ rfl (fun N => O.ldR (k := kC) (xs := (gRow (gram b) i j)) k rfl (mem_app N (mem_at 1 rfl)) Li (ho := rfl) (y := (uE (gram b) k j k)) (by rw [show j = i by omega]; exact gRow_at (by omega)) ty29 rfl) (of_ rfl (fun N => O.fn fn122 (evs.l rfl (kC_Z ((hE k (by omega) i k (by omega) (by omega)).sm (by omega))) (evs.l rfl (kC_Z ((hE k (by omega) j k (by omega) (by omega)).sm (by omega))) evs.nil)) (c_zint_Mul (uE (gram b) k i k) (uE (gram b) k j k))) (of_ rfl (fun N => O.fn fn213 (evs.l rfl (kC_Z (((hE k (by omega) k k (by omega) (by omega)).mul (hE k (by omega) i j (by omega) (by omega))).sm (by omega))) (evs.l rfl (kC_Z (((hE k (by omega) i k (by omega) (by omega)).mul (hE k (by omega) j k (by omega) (by omega))).sm (by omega))) evs.nil)) (c_zint_Sub ((uD (gram b) (k + 1)) * (uE (gram b) k i j)) ((uE (gram b) k i k) * (uE (gram b) k j k)))) oz)))))))))))))))))) (fun σ4 => ?_)
     refine WP.t .n (O.stW (l := kC) (u := ((uD (gram b) (k + 1)) * (uE (gram b) k i j)) - ((uE (gram b) k i k) * (uE (gram b) k j k))) 0 rfl rfl rfl ty29 rfl Lr) (Wn ?_)
     refine CW.drawM (Γ := [.fr (kC.is (((uD (gram b) (k + 1)) * (uE (gram b) k i j)) - ((uE (gram b) k i k) * (uE (gram b) k j k)))), .fr (VP.pt b3 0), .fr (VP.ex vD), .fr (kN6.is (k : Int)), .fr (VP.pel vD (k * 2)), .fr (kC.is (uD (gram b) k)), .fr (VP.tup [kC.is ((((uD (gram b) (k + 1)) * (uE (gram b) k i j)) - ((uE (gram b) k i k) * (uE (gram b) k j k))).fdiv (uD (gram b) k)), kC.is (if (uD (gram b) k) = 0 then 0 else (((uD (gram b) (k + 1)) * (uE (gram b) k i j)) - ((uE (gram b) k i k) * (uE (gram b) k j k))).fmod (uD (gram b) k)), kN6.is (if (uD (gram b) k) = 0 then 11 else 0)]), .fr (VP.tup [kC.is ((((uD (gram b) (k + 1)) * (uE (gram b) k i j)) - ((uE (gram b) k i k) * (uE (gram b) k j k))).fdiv (uD (gram b) k)), kC.is (if (uD (gram b) k) = 0 then 0 else (((uD (gram b) (k + 1)) * (uE (gram b) k i j)) - ((uE (gram b) k i k) * (uE (gram b) k j k))).fmod (uD (gram b) k)), kN6.is (if (uD (gram b) k) = 0 then 11 else 0)]), .fr (kC.is ((((uD (gram b) (k + 1)) * (uE (gram b) k i j)) - ((uE (gram b) k i k) * (uE (gram b) k j k))).fdiv (uD (gram b) k))), .lt (kC.is (if (uD (gram b) k) = 0 then 0 else (((uD (gram b) (k + 1)) * (uE (gram b) k i j)) - ((uE (gram b) k i k) * (uE (gram b) k j k))).fmod (uD (gram b) k))), .lt (kN6.is (if (uD (gram b) k) = 0 then 11 else 0))]) (of_ rfl (fun N => O.ld rfl (mem_app N (mem_at 0 rfl)) Li ty29 rfl) (of_ rfl (fun N => O.fa rfl fld25_0 rfl) (of_ rfl (fun N => OpOk.le (O.ld (p := kVal.is vD) rfl (mem_app N (mem_at 3 rfl)) (Lens.fst Li) ty23 rfl) (val_ex _)) (om rfl rfl (of_ rfl (fun N => O.ixR (k := kC) (xs := (gDs (gram b) i)) (n := (k : Int)) k rfl rfl (mem_app N (mem_at 4 rfl)) U23 ty29 rfl (by simp only [gRow_len, gDs_len, gLs_len]; omega)) (of_ rfl (fun N => O.ldR (k := kC) (xs := (gDs (gram b) i)) k rfl (mem_app N (mem_at 4 rfl)) Li (ho := rfl) (y := (uD (gram b) k)) (gDs_at (by omega)) ty29 rfl) (of_ rfl (fun N => O.fn fn214 (evs.l rfl (kC_Z ((((hE k (by omega) k k (by omega) (by omega)).mul (hE k (by omega) i j (by omega) (by omega))).sub ((hE k (by omega) i k (by omega) (by omega)).mul (hE k (by omega) j k (by omega) (by omega)))).sm (by omega))) (evs.l rfl (kC_Z ((hD k (by omega)).sm (by omega))) evs.nil)) (c_zint_Floor (((uD (gram b) (k + 1)) * (uE (gram b) k i j)) - ((uE (gram b) k i k) * (uE (gram b) k j k))) (uD (gram b) k))) (om rfl rfl (of_ rfl (fun N => O.ext rfl rfl) (oc (Ob.l rfl .n (OV.ext rfl rfl)) (oc (Ob.l rfl .n (OV.ext rfl rfl)) oz))))))))))) (fun σ5 => ?_)
     refine WP.t .n (O.stW (l := kC) (u := (((uD (gram b) (k + 1)) * (uE (gram b) k i j)) - ((uE (gram b) k i k) * (uE (gram b) k j k))).fdiv (uD (gram b) k)) 0 rfl rfl rfl ty29 rfl Lr) (WP.nil (QE.blkN (QE.next (CW.region (Wm rfl (Ws (O.add rfl rfl (c := ((k : Int) + 1)) (w64 (by omega))) (Wa rfl (WP.nil (ST.obtold 0 rfl (OB.box_eq (y := (uE (gram b) (k + 1) i j)) (uE_succ _ k i j).symm) ?_)))))))))
     exact QE.round2 (k + 1) p (by omega) (by omega) (Imp.c4 rfl rfl rfl rfl (Imp.c4 rfl rfl rfl rfl (Imp.consLe rfl (is_eq (y := (((k + 1) : Nat) : Int)) (by rfl)) (Imp.cons rfl (Imp.cons rfl Imp.nil))))) (OImp.refl _)
   ·
    refine CW.exit (QE.thenE (QE.thenE (QE.blkH (QE.next (CW.region (Wm rfl (Ws (O.ld rfl (mem_at 0 rfl) Li ty29 rfl) (Ws (O.bs U23 el29_C (evl.c rfl evl.n) rfl (by decide)) (WP.ap 1 .n rfl rfl rfl Lr U23 el29_C (by simp only [gRow_len, gDs_len, gLs_len, List.length_cons, List.length_nil]; omega) fun v5 => Wa rfl (WP.nil (QE.blkN (QE.next (CW.region (Wm rfl (Ws (O.add rfl rfl (c := ((j : Int) + 1)) (w64 (by omega))) (Wa rfl (WP.nil (ST.obtold 1 rfl (OB.row_eq (ys := (gRow (gram b) i (j + 1))) (by rw [show k = j by omega]; exact gRow_app (gram b) i j)) ?_))))))))))))))))))
    exact QE.round2 (j + 1) v5 (by omega) (by omega) (Imp.c4 rfl rfl rfl rfl (Imp.cons rfl (Imp.cons rfl (Imp.consLe rfl (is_eq (y := (((j + 1) : Nat) : Int)) (by rfl)) (Imp.cons rfl (Imp.cons rfl Imp.nil)))))) (OImp.os (OS.skip (OS.keep (OS.keep (OS.keep (OS.keep (OS.keep OS.nil)))))))
  ·
   refine CW.exit (QE.thenE (QE.thenE (QE.blkH (QE.next (CW.seq (CW.seq (ST.obtold 0 rfl (OB.row_eq (ys := (gRow (gram b) i (i + 1))) (by rw [show j = i + 1 by omega])) ?_)))))))
   have hE := uE_Sz hs hz hP
   have hUi := hU i (by omega)
   refine CW.region (Wm rfl (Wm rfl (Ws (O.ixR (k := kC) (xs := (gRow (gram b) i (i + 1))) (n := (i : Int)) i rfl rfl (mem_at 0 rfl) U23 ty29 rfl (by simp only [gRow_len, gDs_len, gLs_len]; omega)) (Ws (O.ldR (k := kC) (xs := (gRow (gram b) i (i + 1))) i rfl (mem_at 0 rfl) Li (ho := rfl) (y := (uE (gram b) i i i)) (gRow_at (by omega)) ty29 rfl) (Ws (O.fn fn57 (evs.l rfl (kC_Z ((hE i (by omega) i i (by omega) (by omega)).sm (by omega))) evs.nil) (c_zint_Sign (uE (gram b) i i i))) (Ws (O.le rfl rfl) (Wn ?_)))))))
   refine CW.condD rfl (fun h_t92 => ?_) (fun h_t92 => ?_)
   ·
    refine Cr (Ws (O.bld lit25_pr_sl_C_sl_sl_C_ rfl evp.n (.nil _)) (WP.t .n (O.stW (l := kGso) (u := ([], [])) 4 rfl rfl rfl ty25 rfl Lr) (Wa rfl (Wn (CW.ret (QE.thenR (QE.blkR (QE.thenR (QE.thenR (QE.blkR (QE.thenR (ST.obtold 4 rfl (OB.box_eq (y := (gsoV (gram b) b.length)) (gso_no (by omega) h_t92).2.symm) (ST.told 3 rfl (is_eq (y := (gOk (gram b) b.length)) (gso_no (by omega) h_t92).1.symm) ?_)))))))))))))
    exact QE.done (.inl rfl) rfl (ResOk.c rfl (mem_at 4 rfl) ty25 (ResOk.t rfl ResOk.nil)) (OImp.sub (List.nil_sublist _)) ⟨rfl, rfl⟩
   ·
    refine CW.skip (QE.next (CW.seq ?_))
    refine CW.drawM (Γ := [.fr (VP.pt b3 0), .fr (VP.ex vD), .fr (VP.ex v), .fr (kN6.is (i : Int)), .fr (VP.pel v (i * 2)), .fr (kC.is (uE (gram b) i i i)), .fr (kVC.is [(uE (gram b) i i i)])]) (of_ rfl (fun N => O.fa rfl fld25_0 rfl) (of_ rfl (fun N => OpOk.le (O.ld (p := kVal.is vD) rfl (mem_app N (mem_at 2 rfl)) (Lens.fst Li) ty23 rfl) (val_ex _)) (om rfl rfl (om rfl rfl (of_ rfl (fun N => O.ixR (k := kC) (xs := (gRow (gram b) i (i + 1))) (n := (i : Int)) i rfl rfl (mem_app N (mem_at 0 rfl)) U23 ty29 rfl (by simp only [gRow_len, gDs_len, gLs_len]; omega)) (of_ rfl (fun N => O.ldR (k := kC) (xs := (gRow (gram b) i (i + 1))) i rfl (mem_app N (mem_at 0 rfl)) Li (ho := rfl) (y := (uE (gram b) i i i)) (gRow_at (by omega)) ty29 rfl) (of_ rfl (fun N => O.bs U23 el29_C (evl.c rfl evl.n) rfl (by decide)) oz))))))) (fun σ6 => ?_)
    refine WP.ap 3 .n rfl rfl rfl Lr U23 el29_C (by simp only [gRow_len, gDs_len, gLs_len, List.length_cons, List.length_nil]; omega) fun v6 => Ws (O.fa rfl fld25_0 rfl) (ST.rowcell 3 rfl fun hcell_ => WP.t .n (O.st 2 rfl rfl (Lens.fst Li) ty23 rfl (ex_val (by assumption))) (Wn (ST.freeze 0 rfl (kp 0 rfl (kp 2 rfl (kp 3 rfl (kp 4 rfl (kp 5 rfl (.hit (i := 6) rfl (kp 7 rfl (kp 16 rfl (kp 17 rfl (kp 23 rfl (kp 24 rfl (kp 25 rfl (.hit (i := 87) rfl (kp 88 rfl (kp 89 rfl (kp 90 rfl (kp 91 rfl (kp 92 rfl (kp 94 rfl (kp 95 rfl (.hit (i := 96) rfl (kp 97 rfl (kp 98 rfl (kp 99 rfl (kp 100 rfl (kp 101 rfl (kp 102 rfl .nil))))))))))))))))))))))))))) ?_)))
    refine CW.drawM (Γ := [.fr (VP.pt b3 1), .fr (VP.ex vL), .fr (kVC.is (gRow (gram b) i (i + 1))), .fr (kN6.is (i : Int)), .fr (kN6.is (i : Int)), .fr (kVC.is ((gRow (gram b) i (i + 1)).take i)), .fr (kMC.is [((gRow (gram b) i (i + 1)).take i)])]) (of_ rfl (fun N => O.fa rfl fld25_1 rfl) (of_ rfl (fun N => OpOk.le (O.ld (p := kVal.is vL) rfl (mem_app N (mem_at 1 rfl)) (Lens.snd Li) ty22 rfl) (val_ex _)) (om rfl rfl (om rfl rfl (om rfl rfl (of_ rfl (fun N => O.sl3 i rfl rfl rfl U23 ty29 rfl rfl (by simp only [gRow_len, gDs_len, gLs_len]; omega)) (of_ rfl (fun N => O.bs U22 el23_sl_C (evl.c rfl evl.n) rfl (by decide)) oz))))))) (fun σ7 => ?_)
    refine WP.ap 0 .n rfl rfl rfl Lr U22 el23_sl_C (by simp only [gRow_len, gDs_len, gLs_len, List.length_cons, List.length_nil]; omega) fun v7 => Ws (O.fa rfl fld25_1 rfl) (ST.rowcell 0 rfl fun hcell_ => WP.t .n (O.st 1 rfl rfl (Lens.snd Li) ty22 rfl (ex_val (by assumption))) (WP.nil (QE.blkN (QE.next (CW.region (Ws (O.add rfl rfl (c := ((i : Int) + 1)) (w64 (by omega))) (Wm rfl (WP.nil (ST.obtold 2 rfl (OB.row_eq (ys := (gDs (gram b) (i + 1))) (gDs_app (gram b) i)) (ST.obtold 0 rfl (OB.row_eq (ys := (gLs (gram b) (i + 1))) (by rw [gRow_take]; exact gLs_app (gram b) i)) ?_))))))))))
    exact QE.round3 (i + 1) v6 v7 (by omega) ⟨by omega, posU_succ hP h_t92⟩ (Imp.c4 rfl rfl rfl rfl (Imp.cons rfl (Imp.consLe rfl (is_eq (y := (((i + 1) : Nat) : Int)) (by rfl)) Imp.nil))) (OImp.refl _)
 ·
  refine CW.exit (QE.thenE (QE.thenE (QE.blkH (QE.next (CW.seq (ST.freezeIn (k2 := (kPair kVC kVal)) ((gDs (gram b) i), vL) 2 1 rfl rfl (fun m_ cs_ h_ c_ => fz_fst m_ cs_ h_ c_) (kp 0 rfl (kp 2 rfl (kp 3 rfl (kp 4 rfl (kp 16 rfl (kp 17 rfl (kp 18 rfl .nil))))))) (ST.freezeIn (k2 := kGso) ((gDs (gram b) i), (gLs (gram b) i)) 0 0 rfl rfl (fun m_ cs_ h_ c_ => fz_snd m_ cs_ h_ c_) (kp 0 rfl (kp 2 rfl (kp 3 rfl (kp 4 rfl (kp 16 rfl (kp 17 rfl (kp 18 rfl .nil))))))) ?_)))))))
  have hib : i = b.length := by omega
  refine CW.region (Ws (O.ld (p := kGso.is ((gDs (gram b) i), (gLs (gram b) i))) rfl (mem_at 0 rfl) Li ty25 rfl) (WP.t .n (O.stW (l := kGso) (u := ((gDs (gram b) i), (gLs (gram b) i))) 1 rfl rfl rfl ty25 rfl Lr) (Wa rfl (Wn (CW.ret (ST.obtold 1 rfl (OB.box_eq (y := (gsoV (gram b) b.length)) (by rw [hib]; rw [hib] at hP; exact (gso_yes hP).2.symm)) (ST.told 3 rfl (is_eq (y := (gOk (gram b) b.length)) (by rw [hib] at hP; exact (gso_yes hP).1.symm)) ?_)))))))
  exact QE.done (.inl rfl) rfl (ResOk.c rfl (mem_at 1 rfl) ty25 (ResOk.t rfl ResOk.nil)) (OImp.sub (List.nil_sublist _)) ⟨rfl, rfl⟩
end Fw
/- Plain facts: what rows may be; Gram-Schmidt data as fractions. -/
set_option linter.unusedVariables false
set_option linter.unusedSimpArgs false
set_option exponentiation.threshold 400
namespace Fw
open Go
section
variable {C : Ctx} {Q : Exit → Act → World → Prop} {ρ ρ' : Env} {L L' : List OB}
theorem ST.zp {K : Act → World → Prop} {z : Int} (i : Nat) (e : ρ.get i = some (VP.pim kZ z)) (h : ∀ y : Bool × List Nat, ival y = z → y.2.length ≤ 17179869184 → Lims y.2 → ST C K ((i, VP.pim kI y) :: ρ) L) : ST C K ρ L := fun m w a s t => by
  obtain ⟨g, o, c, cells, e1, e2, e3, y, e4, e5, e6⟩ := t.get i _ e
  have hl : Lims y.2 := by
    obtain ⟨c1, c2, h2, h3, h4⟩ := e4
    obtain ⟨ad, cap, rfl, _⟩ := h4
    exact kN_lims m _ ⟨_, rfl, ad, cap, rfl, by assumption⟩
  exact h y e5 e6 hl m w a s (t.consH ⟨g, o, c, cells, e1, e2, e3, e4⟩)
end
def bigN (b : List (List Int)) (bits : Bool) (i : Nat) : Bool := (decide ((12 : Int) < (b.length : Int)) || (bits && decide ((256 : Int) < mbits b))) || (b.take i).any (fun r => decide ((12 : Int) < (r.length : Int)))
theorem bigN_T {b bits} (h : (12 : Int) < (b.length : Int)) : true = bigN b bits 0 := by simp [bigN]; left; omega
theorem bigN_bT {b} (h : ¬ (12 : Int) < (b.length : Int)) : decide ((256 : Int) < mbits b) = bigN b true 0 := by simp [bigN]; omega
theorem bigN_bF {b} (h : ¬ (12 : Int) < (b.length : Int)) : false = bigN b false 0 := by simp [bigN]; omega
theorem bigN_succ {b bits i} (h : i < b.length) : bigN b bits (i + 1) = (bigN b bits i || decide ((12 : Int) < ((b.getD i []).length : Int))) := by
  unfold bigN
  rw [← take_app (d := []) h, List.any_append]
  simp [Bool.or_assoc]
def gshape (b : List (List Int)) (bits : Bool) : Int := if bigN b bits b.length = true then 40 else if b.length = 0 then 41 else shE b
theorem gshape_big {b bits} (h : bigN b bits b.length = true) : gshape b bits = 40 := if_pos h
theorem gshape_nil {b bits} (h : ¬ bigN b bits b.length = true) (h0 : b.length = 0) : gshape b bits = 41 := by unfold gshape; rw [if_neg h, if_pos h0]
theorem gshape_else {b bits} (h : ¬ bigN b bits b.length = true) (h0 : ¬ b.length = 0) : gshape b bits = shE b := by unfold gshape; rw [if_neg h, if_neg h0]
theorem bigN_no {b bits} (h : ¬ bigN b bits b.length = true) : b.length ≤ 12 ∧ (bits = true → mbits b ≤ 256) ∧ ∀ i, (b.getD i []).length ≤ 12 := by
  unfold bigN at h
  simp only [List.take_length, Bool.or_eq_true, Bool.and_eq_true, decide_eq_true_eq, List.any_eq_true, not_or, not_and, not_exists] at h
  obtain ⟨⟨h1, h2⟩, h3⟩ := h
  refine ⟨by omega, fun hb => by have := h2 hb; omega, fun i => ?_⟩
  by_cases hi : i < b.length
  · have := h3 (b.getD i []) (by rw [gde _ [] hi]; exact List.getElem_mem hi); omega
  · have e : b.getD i [] = [] := by simp [List.getD, Nat.le_of_not_lt hi]
    rw [e]; simp
theorem gshape_ok {b bits} (h : gshape b bits = 0) : ¬ bigN b bits b.length = true ∧ 0 < b.length ∧ rect b = true := by
  by_cases h1 : bigN b bits b.length = true
  · rw [gshape_big h1] at h; exact absurd h (by decide)
  · by_cases h2 : b.length = 0
    · rw [gshape_nil h1 h2] at h; exact absurd h (by decide)
    · rw [gshape_else h1 h2] at h; exact ⟨h1, by omega, rect_of_shE (by omega)⟩
theorem vbN_le {c : Int} {v : List Int} : ∀ {n : Int}, n ≤ c → (∀ x ∈ v, (bitlen x.natAbs : Int) ≤ c) → vbN n v ≤ c := by
  induction v with
  | nil => intro n h _; exact h
  | cons x v ih =>
    intro n h hx
    refine ih (n := vbF n x) ?_ (fun y hy => hx y (List.mem_cons_of_mem _ hy))
    have := hx x (by simp)
    unfold vbF
    omega
theorem mb_ge : ∀ (b : List (List Int)) (n : Int), n ≤ b.foldl vbN n
  | [], n => Int.le_refl n
  | r :: b, n => Int.le_trans (vbN_ge n r) (mb_ge b (vbN n r))
theorem mb_mem : ∀ {b : List (List Int)} {n : Int} {r : List Int} {x : Int}, r ∈ b → x ∈ r → (bitlen x.natAbs : Int) ≤ b.foldl vbN n
  | s :: b, n, r, x, h, hx => by
    rcases List.mem_cons.1 h with e | h
    · subst e; exact Int.le_trans (vbN_mem hx) (mb_ge b _)
    · exact mb_mem (b := b) (n := vbN n s) h hx
theorem mb_le {c : Int} : ∀ {b : List (List Int)} {n : Int}, n ≤ c → (∀ r ∈ b, ∀ x ∈ r, (bitlen x.natAbs : Int) ≤ c) → b.foldl vbN n ≤ c
  | [], n, h, _ => h
  | r :: b, n, h, hx => mb_le (b := b) (vbN_le h (hx r (by simp))) (fun s hs => hx s (List.mem_cons_of_mem _ hs))
theorem getD_mem {α : Type} {l : List α} {i : Nat} (d : α) (h : i < l.length) : l.getD i d ∈ l := by rw [gde l d h]; exact List.getElem_mem h
theorem mem_getD {α : Type} {l : List α} {x : α} (d : α) (h : x ∈ l) : ∃ i, i < l.length ∧ l.getD i d = x := by
  obtain ⟨i, hi, rfl⟩ := List.getElem_of_mem h
  exact ⟨i, hi, gde l d hi⟩
theorem mbits_Sz {b : List (List Int)} {c : Nat} (h : mbits b ≤ c) : SzM c b := by
  intro i k
  by_cases hi : i < b.length
  · by_cases hk : k < (b.getD i []).length
    · have h1 := mb_mem (n := 0) (getD_mem [] hi) (getD_mem 0 hk)
      have h2 := lt_bitlen ((b.getD i []).getD k 0).natAbs
      exact Nat.lt_of_lt_of_le h2 (Nat.pow_le_pow_right (by decide) (by have h3 : mbits b = b.foldl vbN 0 := rfl; omega))
    · have e : (b.getD i []).getD k 0 = 0 := by rw [List.getD_eq_getElem?_getD, List.getElem?_eq_none (by omega)]; rfl
      rw [e]; exact Sz.zero _
  · have e : b.getD i [] = [] := by simp [List.getD, Nat.le_of_not_lt hi]
    rw [e]; exact Sz.zero _
def rowsTo (b : List (List Int)) (bits : Bool) (i : Nat) : Prop := ∀ j, j < i → (b.getD j []).length ≤ 12 ∧ (bits = true → ∀ k, k < (b.getD j []).length → (bitlen ((b.getD j []).getD k 0).natAbs : Int) ≤ 256)
theorem rowsTo_end {b bits} (h0 : ¬ (12 : Int) < (b.length : Int)) (h : rowsTo b bits b.length) : ¬ bigN b bits b.length = true := by
  unfold bigN
  simp only [List.take_length, Bool.or_eq_true, Bool.and_eq_true, decide_eq_true_eq, List.any_eq_true, not_or, not_and, not_exists]
  refine ⟨⟨h0, fun hb => ?_⟩, fun r hr => ?_⟩
  · have : mbits b ≤ 256 := mb_le (by decide) fun r hr x hx => by
      obtain ⟨j, hj, rfl⟩ := mem_getD [] hr
      obtain ⟨k, hk, rfl⟩ := mem_getD 0 hx
      exact (h j hj).2 hb k hk
    omega
  · obtain ⟨j, hj, rfl⟩ := mem_getD [] hr
    have := (h j hj).1; omega
theorem big_row {b bits i} (hi : i < b.length) (h : (12 : Int) < ((b.getD i []).length : Int)) : bigN b bits b.length = true := by
  unfold bigN
  simp only [List.take_length, Bool.or_eq_true, decide_eq_true_eq, List.any_eq_true]
  exact .inr ⟨_, getD_mem [] hi, h⟩
theorem big_bit {b i k} (hi : i < b.length) (hk : k < (b.getD i []).length) (h : (256 : Int) < (bitlen ((b.getD i []).getD k 0).natAbs : Int)) : bigN b true b.length = true := by
  unfold bigN
  simp only [List.take_length, Bool.or_eq_true, Bool.and_eq_true, decide_eq_true_eq, List.any_eq_true]
  have h1 := mb_mem (n := 0) (getD_mem [] hi) (getD_mem 0 hk)
  have h3 : mbits b = b.foldl vbN 0 := rfl
  exact .inl (.inr ⟨trivial, by omega⟩)
theorem big_len {b bits} (h : (12 : Int) < (b.length : Int)) : bigN b bits b.length = true := by
  unfold bigN
  simp only [Bool.or_eq_true, decide_eq_true_eq]
  exact .inl (.inl h)
def gsoE (b : List (List Int)) (bits : Bool) : Int := if gshape b bits ≠ 0 then gshape b bits else if gOk (gram b) b.length = true then 0 else 50
def gsoR (b : List (List Int)) (bits : Bool) : List Int × List (List Int) := if gshape b bits ≠ 0 then ([], []) else gsoV (gram b) b.length
theorem gsoE_1 {b bits} (h : gshape b bits ≠ 0) : gsoE b bits = gshape b bits ∧ gsoR b bits = ([], []) := ⟨if_pos h, if_pos h⟩
theorem gsoE_2 {b bits} (h : ¬ gshape b bits ≠ 0) (h2 : gOk (gram b) b.length = false) : gsoE b bits = 50 ∧ gsoR b bits = ([], []) := by
  have h3 : ¬ gOk (gram b) b.length = true := by simp [h2]
  refine ⟨by unfold gsoE; rw [if_neg h, if_neg h3], ?_⟩
  unfold gsoR gsoV; rw [if_neg h, if_neg h3]
theorem gsoE_3 {b bits} (h : ¬ gshape b bits ≠ 0) (h2 : gOk (gram b) b.length = true) : gsoE b bits = 0 ∧ gsoR b bits = gsoV (gram b) b.length := by
  refine ⟨by unfold gsoE; rw [if_neg h, if_pos h2], ?_⟩
  unfold gsoR; rw [if_neg h]
def frS (G : Nat → Nat → Int) (k : Nat) : Rat := gsE (qG G) k k k
def frM (G : Nat → Nat → Int) (i j : Nat) : Rat := gsE (qG G) j i j / gsE (qG G) j j j
def frRow (G : Nat → Nat → Int) (i m : Nat) : List (Int × Int) := (List.range m).map (fun j => rq (frM G i j))
def frMus (G : Nat → Nat → Int) (n : Nat) : List (List (Int × Int)) := (List.range n).map (fun i => frRow G i i)
def frSts (G : Nat → Nat → Int) (n : Nat) : List (Int × Int) := (List.range n).map (fun k => rq (frS G k))
theorem frRow_len (G i m) : (frRow G i m).length = m := by simp [frRow]
theorem frMus_len (G n) : (frMus G n).length = n := by simp [frMus]
theorem frSts_len (G n) : (frSts G n).length = n := by simp [frSts]
theorem frRow_at {G i m j} (h : j < m) : (frRow G i m)[j]? = some (rq (frM G i j)) := by simp [frRow, h]
theorem frSts_at {G n k} (h : k < n) : (frSts G n)[k]? = some (rq (frS G k)) := by simp [frSts, h]
theorem frMus_at {G n i k} (hi : i < n) (h : k < i) : ((frMus G n).getD i [])[k]? = some (rq (frM G i k)) := by
  rw [gde _ [] (by rw [frMus_len]; omega)]; simp [frMus, frRow, h]
theorem frRow_app (G i m) : frRow G i m ++ [rq (frM G i m)] = frRow G i (m + 1) := by simp [frRow, List.range_succ]
theorem frMus_app (G n) : frMus G n ++ [frRow G n n] = frMus G (n + 1) := by simp [frMus, List.range_succ]
theorem frSts_app (G n) : frSts G n ++ [rq (frS G n)] = frSts G (n + 1) := by simp [frSts, List.range_succ]
theorem qG_sym {G} (h : SymG G) : ∀ i j, qG G i j = qG G j i := fun i j => by unfold qG; rw [h]
theorem frS_ne {G k} (hs : SymG G) (hp : PosU G (k + 1)) : gsE (qG G) k k k ≠ 0 := by
  have h := (gsE_pos hs (hp.le (by omega) : PosU G k)).2 (hp k (by omega))
  intro e; rw [e] at h; exact absurd h (by decide)
theorem fr_step {G i k} (hs : SymG G) (hp : PosU G (k + 1)) (j : Nat) : gsE (qG G) k i j - frM G j k * frM G i k * frS G k = gsE (qG G) (k + 1) i j := by
  have hne := frS_ne hs hp
  have e := gsE_sym (qG_sym hs) k j k
  unfold frM frS
  show _ = gsE (qG G) k i j - gsE (qG G) k i k * gsE (qG G) k k j / gsE (qG G) k k k
  rw [← e]
  grind
theorem frS_pos {G k} (hs : SymG G) (hp : PosU G k) : 0 < frS G k ↔ 0 < uE G k k k := gsE_pos hs hp
theorem frS_sgn {G k} (hs : SymG G) (hp : PosU G k) : (rq (frS G k)).1.sign ≤ 0 ↔ ¬ 0 < uE G k k k := by
  rw [← frS_pos hs hp, ← rq_pos]
  constructor
  · intro h h2; have := Int.sign_eq_one_of_pos h2; omega
  · intro h
    rcases Int.lt_trichotomy (rq (frS G k)).1 0 with h1 | h1 | h1
    · rw [Int.sign_eq_neg_one_of_neg h1]; omega
    · rw [h1]; simp
    · exact absurd h1 h
def gCnt (G : Nat → Nat → Int) : Nat → Nat
  | 0 => 0
  | n + 1 => if gCnt G n = n ∧ 0 < uE G n n n then n + 1 else gCnt G n
theorem gCnt_pos {G} : ∀ {n}, PosU G n → gCnt G n = n
  | 0, _ => rfl
  | n + 1, h => by rw [gCnt, if_pos ⟨gCnt_pos (h.le (by omega)), h n (by omega)⟩]
theorem gCnt_stop {G i} (hp : PosU G i) (h : ¬ 0 < uE G i i i) : ∀ {n}, i < n → gCnt G n = i
  | n + 1, hn => by
    by_cases e : i = n
    · subst e; rw [gCnt, if_neg (fun x => h x.2)]; exact gCnt_pos hp
    · have := gCnt_stop hp h (n := n) (by omega)
      rw [gCnt, if_neg (fun x => by omega), this]
def frV (G : Nat → Nat → Int) (n : Nat) : List (List (Int × Int)) × List (Int × Int) := (frMus G (gCnt G n), frSts G (gCnt G n))
theorem fr_yes {G n} (h : PosU G n) : (frMus G n, frSts G n) = frV G n ∧ true = gOk G n := ⟨by unfold frV; rw [gCnt_pos h], (gOk_iff.2 h).symm⟩
theorem fr_no {G n i} (hi : i < n) (hp : PosU G i) (h : ¬ 0 < uE G i i i) : (frMus G i, frSts G i) = frV G n ∧ false = gOk G n := by
  refine ⟨by unfold frV; rw [gCnt_stop hp h hi], ?_⟩
  have e : ¬ gOk G n = true := fun e => h (gOk_iff.1 e i hi)
  simpa using e
theorem posU_next {G i} (hp : PosU G i) (h : 0 < uE G i i i) : PosU G (i + 1) := fun l hl => if e : l = i then e ▸ h else hp l (by omega)
theorem frE_RZ {G : Nat → Nat → Int} (hs : SymG G) {n : Nat} (hn : ∀ i j, Sz n (G i j)) {K : Nat} (hp : PosU G K) {k i j : Nat} (hk : k ≤ K) (hi : k ≤ i) (hj : k ≤ j) : RZ (szU n k + 1) (gsE (qG G) k i j) := by
  rw [gsE_frac hs (hp.le hk) hi hj]
  have hd : 0 < uD G k := hp.uD hk
  exact RZ.frac (by omega) ((uE_Sz hs hn hp k hk i j hi hj).up (by omega)) (uD_Sz hs hn hp k hk)
theorem frM_eq {G : Nat → Nat → Int} (hs : SymG G) {j : Nat} (hp : PosU G (j + 1)) {i : Nat} (hi : j ≤ i) : frM G i j = (uE G j i j : Rat) / (uE G j j j : Rat) := by
  have h := hp.le (show j ≤ j + 1 by omega)
  have hd : 0 < uD G j := hp.uD (by omega)
  have hd2 := rat_ne (show uD G j ≠ 0 by omega)
  have hu := rat_ne (show uE G j j j ≠ 0 by have := hp j (by omega); omega)
  unfold frM
  rw [gsE_frac hs h hi (Nat.le_refl j), gsE_frac hs h (Nat.le_refl j) (Nat.le_refl j)]
  grind
theorem frM_RZ {G : Nat → Nat → Int} (hs : SymG G) {n : Nat} (hn : ∀ i j, Sz n (G i j)) {K : Nat} (hp : PosU G K) {i j : Nat} (hk : j < K) (hi : j ≤ i) : RZ (szU n j + 1) (frM G i j) := by
  rw [frM_eq hs (hp.le hk) hi]
  have hu : 0 < uE G j j j := hp j hk
  exact RZ.frac (by omega) ((uE_Sz hs hn hp j (by omega) i j hi (Nat.le_refl j)).up (by omega)) ((uE_Sz hs hn hp j (by omega) j j (Nat.le_refl j) (Nat.le_refl j)).up (by omega))
end Fw
/- Which rows may be; the data of rows: what the functions answer. -/
set_option linter.unusedVariables false
set_option linter.unusedSimpArgs false
set_option exponentiation.threshold 400
set_option maxRecDepth 20000
set_option maxHeartbeats 1000000
namespace Fw
open Go Go.Proofs
theorem c_gso_shaped (b : List (List Int)) (bits : Bool) : Fn Tryz.prog 203 [kMZ.is b, kBool.is bits] (kN6.is (gshape b bits)) := by
 refine Con.enter Tryz.func203 rfl rfl fun m w => ST.fact (i := 0) rfl sl_len fun hB => Cr (Wa rfl (Wr (Wm rfl (Ws (O.lenS rfl U22) (Ws (O.gt rfl rfl) (Wm rfl ?_))))))
 refine WP.splitD 14 rfl (fun h_t14 => ?_) (fun h_t14 => ?_)
 ·
  refine WP.ku (b := true) rfl rfl (WP.ku (b := true) rfl rfl (WP.kk rfl rfl (WP.kk rfl rfl (WP.kk rfl rfl (WP.ku (b := true) rfl rfl (Ws (O.pickT rfl rfl) (Wa rfl (Wn (CW.seq (Cr (Wm rfl (Ws (O.lenS rfl U22) (Wm rfl (Wn (CW.block (ST.told 5 rfl (is_eq (y := (bigN b bits 0)) (bigN_T h_t14)) (CW.loop (fun (i : Nat) => i ≤ b.length) (fun (i : Nat) => [(0, kMZ.is b), (5, kBool.is (bigN b bits i)), (22, kMZ.is b), (23, kN6.is (b.length : Int)), (24, kN6.is (i : Int))]) (fun (i : Nat) => []) (fun (i : Nat) => b.length - i) 0 (by omega) (Imp.c4 rfl rfl rfl rfl (Imp.consLe rfl (is_eq (y := (0 : Int)) (by rfl)) Imp.nil)) (OImp.refl _) ?_)))))))))))))))))
  intro i hi
  refine Cr (Ws (O.lt rfl rfl) (Wn (CW.seq ?_)))
  refine CW.condD rfl (fun h_t25 => ?_) (fun h_t25 => ?_)
  ·
   refine CW.skip (QE.next (CW.seq (CW.block (Cr (Ws (O.ix i rfl rfl U22 ty23 rfl (v := (b.getD i [])) (gd [] (by omega))) (Ws (O.ldP rfl ty23) (Wa rfl (Wn (CW.region (Wm rfl (Wm rfl ?_)))))))))))
   refine WP.split 29 rfl (fun h_t29 => ?_) (fun h_t29 => ?_)
   ·
    refine WP.ku (b := true) rfl rfl (WP.ku (b := true) rfl rfl (WP.ku (b := true) rfl rfl (Ws (O.pickT rfl rfl) (Wa rfl (WP.nil (QE.blkN (QE.next (CW.region (Ws (O.add rfl rfl (c := ((i : Int) + 1)) (w64 (by omega))) (Wm rfl (WP.nil (ST.told 5 rfl (is_eq (y := (bigN b bits (i + 1))) (by rw [bigN_succ (by omega)]; simp [h_t29])) ?_))))))))))))
    exact QE.round (i + 1) (by omega) (by omega) (Imp.c4 rfl rfl rfl rfl (Imp.consLe rfl (is_eq (y := (((i + 1) : Nat) : Int)) (by rfl)) Imp.nil)) (OImp.refl _)
   ·
    refine WP.s (.g rfl rfl) (O.mv rfl) (WP.s (.g rfl rfl) (O.lenS rfl U23) (WP.s (.g rfl rfl) (O.gt rfl rfl) (Ws (O.pickF rfl rfl) (Wa rfl (WP.nil (QE.blkN (QE.next (CW.region (Ws (O.add rfl rfl (c := ((i : Int) + 1)) (w64 (by omega))) (Wm rfl (WP.nil (ST.told 5 rfl (is_eq (y := (bigN b bits (i + 1))) (by rw [bigN_succ (by omega)]; simp [h_t29])) ?_))))))))))))
    exact QE.round (i + 1) (by omega) (by omega) (Imp.c4 rfl rfl rfl rfl (Imp.consLe rfl (is_eq (y := (((i + 1) : Nat) : Int)) (by rfl)) Imp.nil)) (OImp.refl _)
  ·
   refine CW.exit (QE.thenE (QE.thenE (QE.blkH (QE.next (CW.seq (Cr (Wm rfl (Wn ?_))))))))
   refine CW.cond rfl (fun h_t35 => ?_) (fun h_t35 => ?_)
   ·
    refine Cr (Wa rfl (Wn (CW.ret (QE.thenR ?_))))
    have hib : i = b.length := by omega
    subst hib
    refine ST.told 4 rfl (is_eq (y := (gshape b bits)) ((gshape_big (by assumption)).symm)) ?_
    exact QE.done (.inl rfl) rfl (ResOk.t rfl ResOk.nil) (OImp.sub (List.nil_sublist _)) ⟨rfl, rfl⟩
   ·
    refine CW.skip (QE.next (CW.seq (Cr (Wm rfl (Ws (O.lenS rfl U22) (Ws (O.eq rfl rfl) (Wn ?_)))))))
    refine CW.condD rfl (fun h_t38 => ?_) (fun h_t38 => ?_)
    ·
     refine Cr (Wa rfl (Wn (CW.ret (QE.thenR ?_))))
     have hib : i = b.length := by omega
     subst hib
     refine ST.told 4 rfl (is_eq (y := (gshape b bits)) ((gshape_nil (by simp [h_t35]) (by omega)).symm)) ?_
     exact QE.done (.inl rfl) rfl (ResOk.t rfl ResOk.nil) (OImp.sub (List.nil_sublist _)) ⟨rfl, rfl⟩
    ·
     refine CW.skip (QE.next (Cr (Wm rfl (Ws (O.fn fn82 (evs.c rfl evs.nil) (c_mat_Shape b)) (Wm rfl (Ws (O.ext rfl rfl) (Ws (O.ext rfl rfl) (Ws (O.ext rfl rfl) (Wa rfl (Wa rfl (Wa rfl (Wr (Wm rfl (Wa rfl (Wn (CW.ret ?_))))))))))))))))
     have hib : i = b.length := by omega
     subst hib
     refine ST.told 4 rfl (is_eq (y := (gshape b bits)) ((gshape_else (by simp [h_t35]) (by omega)).symm)) ?_
     exact QE.done (.inl rfl) rfl (ResOk.t rfl ResOk.nil) (OImp.sub (List.nil_sublist _)) ⟨rfl, rfl⟩
 ·
  refine WP.s (.g rfl rfl) (O.mv rfl) (WP.s (.g rfl rfl) (O.mv rfl) ?_)
  refine WP.split 16 rfl (fun h_t16 => ?_) (fun h_t16 => ?_)
  ·
   refine WP.s (.g rfl rfl) (O.mv rfl) (WP.s (.g rfl rfl) (O.fn fn212 (evs.c rfl evs.nil) (c_mat_Bits b)) (WP.s (.g rfl rfl) (O.gt rfl rfl) (WP.s (.g rfl rfl) (O.pickT rfl rfl) (Ws (O.pickF rfl rfl) (Wa rfl (Wn (CW.seq (Cr (Wm rfl (Ws (O.lenS rfl U22) (Wm rfl (Wn (CW.block ?_)))))))))))))
   have hbt : bits = true := by first | assumption | exact h_t16
   refine ST.told 5 rfl (is_eq (y := (bigN b bits 0)) (by rw [hbt]; exact bigN_bT h_t14)) (CW.loop (fun (i : Nat) => i ≤ b.length) (fun (i : Nat) => [(0, kMZ.is b), (5, kBool.is (bigN b bits i)), (22, kMZ.is b), (23, kN6.is (b.length : Int)), (24, kN6.is (i : Int))]) (fun (i : Nat) => []) (fun (i : Nat) => b.length - i) 0 (by omega) (Imp.c4 rfl rfl rfl rfl (Imp.consLe rfl (is_eq (y := (0 : Int)) (by rfl)) Imp.nil)) (OImp.refl _) ?_)
   intro i hi
   refine Cr (Ws (O.lt rfl rfl) (Wn (CW.seq ?_)))
   refine CW.condD rfl (fun h_t25 => ?_) (fun h_t25 => ?_)
   ·
    refine CW.skip (QE.next (CW.seq (CW.block (Cr (Ws (O.ix i rfl rfl U22 ty23 rfl (v := (b.getD i [])) (gd [] (by omega))) (Ws (O.ldP rfl ty23) (Wa rfl (Wn (CW.region (Wm rfl (Wm rfl ?_)))))))))))
    refine WP.split 29 rfl (fun h_t29 => ?_) (fun h_t29 => ?_)
    ·
     refine WP.ku (b := true) rfl rfl (WP.ku (b := true) rfl rfl (WP.ku (b := true) rfl rfl (Ws (O.pickT rfl rfl) (Wa rfl (WP.nil (QE.blkN (QE.next (CW.region (Ws (O.add rfl rfl (c := ((i : Int) + 1)) (w64 (by omega))) (Wm rfl (WP.nil (ST.told 5 rfl (is_eq (y := (bigN b bits (i + 1))) (by rw [bigN_succ (by omega)]; simp [h_t29])) ?_))))))))))))
     exact QE.round (i + 1) (by omega) (by omega) (Imp.c4 rfl rfl rfl rfl (Imp.consLe rfl (is_eq (y := (((i + 1) : Nat) : Int)) (by rfl)) Imp.nil)) (OImp.refl _)
    ·
     refine WP.s (.g rfl rfl) (O.mv rfl) (WP.s (.g rfl rfl) (O.lenS rfl U23) (WP.s (.g rfl rfl) (O.gt rfl rfl) (Ws (O.pickF rfl rfl) (Wa rfl (WP.nil (QE.blkN (QE.next (CW.region (Ws (O.add rfl rfl (c := ((i : Int) + 1)) (w64 (by omega))) (Wm rfl (WP.nil (ST.told 5 rfl (is_eq (y := (bigN b bits (i + 1))) (by rw [bigN_succ (by omega)]; simp [h_t29])) ?_))))))))))))
     exact QE.round (i + 1) (by omega) (by omega) (Imp.c4 rfl rfl rfl rfl (Imp.consLe rfl (is_eq (y := (((i + 1) : Nat) : Int)) (by rfl)) Imp.nil)) (OImp.refl _)
   ·
    refine CW.exit (QE.thenE (QE.thenE (QE.blkH (QE.next (CW.seq (Cr (Wm rfl (Wn ?_))))))))
    refine CW.cond rfl (fun h_t35 => ?_) (fun h_t35 => ?_)
    ·
     refine Cr (Wa rfl (Wn (CW.ret (QE.thenR ?_))))
     have hib : i = b.length := by omega
     subst hib
     refine ST.told 4 rfl (is_eq (y := (gshape b bits)) ((gshape_big (by assumption)).symm)) ?_
     exact QE.done (.inl rfl) rfl (ResOk.t rfl ResOk.nil) (OImp.sub (List.nil_sublist _)) ⟨rfl, rfl⟩
    ·
     refine CW.skip (QE.next (CW.seq (Cr (Wm rfl (Ws (O.lenS rfl U22) (Ws (O.eq rfl rfl) (Wn ?_)))))))
     refine CW.condD rfl (fun h_t38 => ?_) (fun h_t38 => ?_)
     ·
      refine Cr (Wa rfl (Wn (CW.ret (QE.thenR ?_))))
      have hib : i = b.length := by omega
      subst hib
      refine ST.told 4 rfl (is_eq (y := (gshape b bits)) ((gshape_nil (by simp [h_t35]) (by omega)).symm)) ?_
      exact QE.done (.inl rfl) rfl (ResOk.t rfl ResOk.nil) (OImp.sub (List.nil_sublist _)) ⟨rfl, rfl⟩
     ·
      refine CW.skip (QE.next (Cr (Wm rfl (Ws (O.fn fn82 (evs.c rfl evs.nil) (c_mat_Shape b)) (Wm rfl (Ws (O.ext rfl rfl) (Ws (O.ext rfl rfl) (Ws (O.ext rfl rfl) (Wa rfl (Wa rfl (Wa rfl (Wr (Wm rfl (Wa rfl (Wn (CW.ret ?_))))))))))))))))
      have hib : i = b.length := by omega
      subst hib
      refine ST.told 4 rfl (is_eq (y := (gshape b bits)) ((gshape_else (by simp [h_t35]) (by omega)).symm)) ?_
      exact QE.done (.inl rfl) rfl (ResOk.t rfl ResOk.nil) (OImp.sub (List.nil_sublist _)) ⟨rfl, rfl⟩
  ·
   refine WP.ku (b := false) rfl rfl (WP.ku (b := false) rfl rfl (WP.ku (b := false) rfl rfl (WP.s (.g rfl rfl) (O.pickF rfl rfl) (Ws (O.pickF rfl rfl) (Wa rfl (Wn (CW.seq (Cr (Wm rfl (Ws (O.lenS rfl U22) (Wm rfl (Wn (CW.block ?_)))))))))))))
   have hbt : bits = false := by first | assumption | exact h_t16
   refine ST.told 5 rfl (is_eq (y := (bigN b bits 0)) (by rw [hbt]; exact bigN_bF h_t14)) (CW.loop (fun (i : Nat) => i ≤ b.length) (fun (i : Nat) => [(0, kMZ.is b), (5, kBool.is (bigN b bits i)), (22, kMZ.is b), (23, kN6.is (b.length : Int)), (24, kN6.is (i : Int))]) (fun (i : Nat) => []) (fun (i : Nat) => b.length - i) 0 (by omega) (Imp.c4 rfl rfl rfl rfl (Imp.consLe rfl (is_eq (y := (0 : Int)) (by rfl)) Imp.nil)) (OImp.refl _) ?_)
   intro i hi
   refine Cr (Ws (O.lt rfl rfl) (Wn (CW.seq ?_)))
   refine CW.condD rfl (fun h_t25 => ?_) (fun h_t25 => ?_)
   ·
    refine CW.skip (QE.next (CW.seq (CW.block (Cr (Ws (O.ix i rfl rfl U22 ty23 rfl (v := (b.getD i [])) (gd [] (by omega))) (Ws (O.ldP rfl ty23) (Wa rfl (Wn (CW.region (Wm rfl (Wm rfl ?_)))))))))))
    refine WP.split 29 rfl (fun h_t29 => ?_) (fun h_t29 => ?_)
    ·
     refine WP.ku (b := true) rfl rfl (WP.ku (b := true) rfl rfl (WP.ku (b := true) rfl rfl (Ws (O.pickT rfl rfl) (Wa rfl (WP.nil (QE.blkN (QE.next (CW.region (Ws (O.add rfl rfl (c := ((i : Int) + 1)) (w64 (by omega))) (Wm rfl (WP.nil (ST.told 5 rfl (is_eq (y := (bigN b bits (i + 1))) (by rw [bigN_succ (by omega)]; simp [h_t29])) ?_))))))))))))
     exact QE.round (i + 1) (by omega) (by omega) (Imp.c4 rfl rfl rfl rfl (Imp.consLe rfl (is_eq (y := (((i + 1) : Nat) : Int)) (by rfl)) Imp.nil)) (OImp.refl _)
    ·
     refine WP.s (.g rfl rfl) (O.mv rfl) (WP.s (.g rfl rfl) (O.lenS rfl U23) (WP.s (.g rfl rfl) (O.gt rfl rfl) (Ws (O.pickF rfl rfl) (Wa rfl (WP.nil (QE.blkN (QE.next (CW.region (Ws (O.add rfl rfl (c := ((i : Int) + 1)) (w64 (by omega))) (Wm rfl (WP.nil (ST.told 5 rfl (is_eq (y := (bigN b bits (i + 1))) (by rw [bigN_succ (by omega)]; simp [h_t29])) ?_))))))))))))
     exact QE.round (i + 1) (by omega) (by omega) (Imp.c4 rfl rfl rfl rfl (Imp.consLe rfl (is_eq (y := (((i + 1) : Nat) : Int)) (by rfl)) Imp.nil)) (OImp.refl _)
   ·
    refine CW.exit (QE.thenE (QE.thenE (QE.blkH (QE.next (CW.seq (Cr (Wm rfl (Wn ?_))))))))
    refine CW.cond rfl (fun h_t35 => ?_) (fun h_t35 => ?_)
    ·
     refine Cr (Wa rfl (Wn (CW.ret (QE.thenR ?_))))
     have hib : i = b.length := by omega
     subst hib
     refine ST.told 4 rfl (is_eq (y := (gshape b bits)) ((gshape_big (by assumption)).symm)) ?_
     exact QE.done (.inl rfl) rfl (ResOk.t rfl ResOk.nil) (OImp.sub (List.nil_sublist _)) ⟨rfl, rfl⟩
    ·
     refine CW.skip (QE.next (CW.seq (Cr (Wm rfl (Ws (O.lenS rfl U22) (Ws (O.eq rfl rfl) (Wn ?_)))))))
     refine CW.condD rfl (fun h_t38 => ?_) (fun h_t38 => ?_)
     ·
      refine Cr (Wa rfl (Wn (CW.ret (QE.thenR ?_))))
      have hib : i = b.length := by omega
      subst hib
      refine ST.told 4 rfl (is_eq (y := (gshape b bits)) ((gshape_nil (by simp [h_t35]) (by omega)).symm)) ?_
      exact QE.done (.inl rfl) rfl (ResOk.t rfl ResOk.nil) (OImp.sub (List.nil_sublist _)) ⟨rfl, rfl⟩
     ·
      refine CW.skip (QE.next (Cr (Wm rfl (Ws (O.fn fn82 (evs.c rfl evs.nil) (c_mat_Shape b)) (Wm rfl (Ws (O.ext rfl rfl) (Ws (O.ext rfl rfl) (Ws (O.ext rfl rfl) (Wa rfl (Wa rfl (Wa rfl (Wr (Wm rfl (Wa rfl (Wn (CW.ret ?_))))))))))))))))
      have hib : i = b.length := by omega
      subst hib
      refine ST.told 4 rfl (is_eq (y := (gshape b bits)) ((gshape_else (by simp [h_t35]) (by omega)).symm)) ?_
      exact QE.done (.inl rfl) rfl (ResOk.t rfl ResOk.nil) (OImp.sub (List.nil_sublist _)) ⟨rfl, rfl⟩
theorem c_gso_of (n : Nat) (b : List (List Int)) (bits : Bool) (hb : gshape b bits = 0 → SzM n b) (hn : n ≤ 4194304) : Fn Tryz.prog 131 [kMZ.is b, kBool.is bits] (VP.tup [kGso.is (gsoR b bits), kN6.is (gsoE b bits)]) := by
 refine Con.enter Tryz.func131 rfl rfl fun m w => Cr (WP.al .n z25_pr_sl_C_sl_sl_C_ fun b1 => Wa rfl (Wn (CW.seq (Cr (Wm rfl (Wm rfl (Ws (O.fn fn203 (evs.c rfl (evs.c rfl evs.nil)) (c_gso_shaped b bits)) (Wa rfl (Wr (Wm rfl (Ws (O.ne rfl rfl) (Wn ?_))))))))))))
 refine CW.condD rfl (fun h_t13 => ?_) (fun h_t13 => ?_)
 ·
  refine Cr (Ws (O.bld lit25_pr_sl_C_sl_sl_C_ rfl evp.n (.nil _)) (Wm rfl (WP.t .n (O.stW (l := kGso) (u := ([], [])) 0 rfl rfl rfl ty25 rfl Lr) (Wa rfl (Wn (CW.ret (QE.thenR (ST.obtold 0 rfl (OB.box_eq (y := (gsoR b bits)) (gsoE_1 (by omega)).2.symm) (ST.told 5 rfl (is_eq (y := (gsoE b bits)) (gsoE_1 (by omega)).1.symm) ?_)))))))))
  exact QE.done (.inl rfl) rfl (ResOk.c rfl (mem_at 0 rfl) ty25 (ResOk.t rfl ResOk.nil)) (OImp.sub (List.nil_sublist _)) ⟨rfl, rfl⟩
 ·
  refine CW.skip (QE.next (CW.seq ?_))
  have hok := gshape_ok (show gshape b bits = 0 by omega)
  have hno := bigN_no hok.1
  have hr := rectL hok.2.2
  refine CW.region (Wm rfl (Ws (O.fn fn204 (evs.c rfl evs.nil) (c_gso_built n b (hb (by omega)) (by assumption) (by omega) (hno.2.2 0) (by assumption))) (Wm rfl (Ws (O.ext rfl rfl) (Ws (O.ext rfl rfl) (WP.al .n z25_pr_sl_C_sl_sl_C_ fun b2 => WP.t .n (O.stW (l := kGso) (u := gsoV (gram b) b.length) 0 rfl rfl rfl ty25 rfl Lr) (Wa rfl (Wn (CW.seq (Cr (Wm rfl (Ws (O.not rfl) (Wn ?_)))))))))))))
  refine CW.cond rfl (fun h_t22 => ?_) (fun h_t22 => ?_)
  ·
   refine Cr (Ws (O.bld lit25_pr_sl_C_sl_sl_C_ rfl evp.n (.nil _)) (WP.t .n (O.stW (l := kGso) (u := ([], [])) 1 rfl rfl rfl ty25 rfl Lr) (Wa rfl (Wn (CW.ret (QE.thenR ?_))))))
   have hk : gOk (gram b) b.length = false := by simpa using h_t22
   refine ST.obtold 1 rfl (OB.box_eq (y := (gsoR b bits)) (gsoE_2 (by omega) hk).2.symm) (ST.told 5 rfl (is_eq (y := (gsoE b bits)) (gsoE_2 (by omega) hk).1.symm) ?_)
   exact QE.done (.inl rfl) rfl (ResOk.c rfl (mem_at 1 rfl) ty25 (ResOk.t rfl ResOk.nil)) (OImp.sub (List.nil_sublist _)) ⟨rfl, rfl⟩
  ·
   refine CW.skip (QE.next (Cr (Ws (O.ld rfl (mem_at 0 rfl) Li ty25 rfl) (WP.t .n (O.stW (l := kGso) (u := gsoV (gram b) b.length) 1 rfl rfl rfl ty25 rfl Lr) (Wa rfl (Wn (CW.ret ?_)))))))
   have hk : gOk (gram b) b.length = true := by simpa using h_t22
   refine ST.obtold 1 rfl (OB.box_eq (y := (gsoR b bits)) (gsoE_3 (by omega) hk).2.symm) (ST.told 5 rfl (is_eq (y := (gsoE b bits)) (gsoE_3 (by omega) hk).1.symm) ?_)
   exact QE.done (.inl rfl) rfl (ResOk.c rfl (mem_at 1 rfl) ty25 (ResOk.t rfl ResOk.nil)) (OImp.sub (List.nil_sublist _)) ⟨rfl, rfl⟩
theorem c_gso_Valid (b : List (List Int)) : Fn Tryz.prog 116 [kMZ.is b] (kN6.is (gsoE b true)) := by
 refine Con.enter Tryz.func116 rfl rfl fun m w => Cr (Wa rfl (Wr (Wm rfl (Ws (O.fn fn131 (evs.c rfl (evs.c rfl evs.nil)) (c_gso_of 256 b true (fun h => mbits_Sz ((bigN_no (gshape_ok h).1).2.1 rfl)) (by decide))) (Wm rfl (Ws (O.ext rfl rfl) (Ws (O.ext rfl rfl) (WP.al .n z25_pr_sl_C_sl_sl_C_ fun b1 => WP.t .n (O.stW (l := kGso) (u := gsoR b true) 0 rfl rfl rfl ty25 rfl Lr) (Wa rfl (Wr (Wm rfl (Wa rfl (Wn ?_)))))))))))))
 refine CW.ret ?_
 exact QE.done (.inl rfl) rfl (ResOk.t rfl ResOk.nil) (OImp.sub (List.nil_sublist _)) ⟨rfl, rfl⟩
theorem c_ref05_shape (b : List (List Int)) (bits : Bool) : Fn Tryz.prog 180 [kMZ.is b, kBool.is bits] (kN6.is (gshape b bits)) := by
 refine Con.enter Tryz.func180 rfl rfl fun m w => ST.fact (i := 0) rfl sl_len fun hB => ST.fact (i := 0) rfl slsl_len fun hlc => Cr (Wa rfl (Wn (CW.seq (Cr (Wm rfl (Ws (O.lenS rfl U22) (Ws (O.gt rfl rfl) (Wn ?_))))))))
 refine CW.condD rfl (fun h_t10 => ?_) (fun h_t10 => ?_)
 ·
  refine Cr (Wa rfl (Wn (CW.ret (QE.thenR (ST.told 4 rfl (is_eq (y := (gshape b bits)) (gshape_big (big_len h_t10)).symm) ?_)))))
  exact QE.done (.inl rfl) rfl (ResOk.t rfl ResOk.nil) (OImp.sub (List.nil_sublist _)) ⟨rfl, rfl⟩
 ·
  refine CW.skip (QE.next (CW.seq (Cr (Wa rfl (Wn (CW.block (CW.loop (fun (i : Nat) => i ≤ b.length ∧ rowsTo b bits i) (fun (i : Nat) => [(0, kMZ.is b), (1, kBool.is bits), (5, kN6.is (i : Int))]) (fun (i : Nat) => []) (fun (i : Nat) => b.length - i) 0 ⟨Nat.zero_le _, fun j hj => absurd hj (by omega)⟩ (Imp.cons rfl (Imp.cons rfl (Imp.consLe rfl (is_eq (y := (0 : Int)) (by rfl)) Imp.nil))) (OImp.refl _) ?_)))))))
  intro i ⟨hi, hA⟩
  refine CW.seq (Cr (Wm rfl (Wm rfl (Ws (O.lenS rfl U22) (Ws (O.lt rfl rfl) (Wn ?_))))))
  refine CW.condD rfl (fun h_t14 => ?_) (fun h_t14 => ?_)
  ·
   refine CW.skip (QE.next (CW.seq (CW.block (CW.seq (CW.seq ?_)))))
   have hlci := hlc i
   refine CW.region (Wm rfl (Wm rfl (Ws (O.ix i rfl rfl U22 ty23 rfl (v := (b.getD i [])) (gd [] (by omega))) (Ws (O.ldP rfl ty23) (Ws (O.lenS rfl U23) (Ws (O.gt rfl rfl) (Wn ?_)))))))
   refine CW.condD rfl (fun h_t22 => ?_) (fun h_t22 => ?_)
   ·
    refine Cr (Wa rfl (Wn (CW.ret (QE.thenR (QE.blkR (QE.thenR (QE.thenR (QE.blkR (QE.thenR (ST.told 4 rfl (is_eq (y := (gshape b bits)) (gshape_big (big_row (i := i) (by omega) (by omega))).symm) ?_))))))))))
    exact QE.done (.inl rfl) rfl (ResOk.t rfl ResOk.nil) (OImp.sub (List.nil_sublist _)) ⟨rfl, rfl⟩
   ·
    refine CW.skip (QE.next (Cr (Wa rfl (Wn (CW.block (CW.loop (fun (k : Nat) => k ≤ (b.getD i []).length ∧ (bits = true → ∀ l, l < k → (bitlen ((b.getD i []).getD l 0).natAbs : Int) ≤ 256)) (fun (k : Nat) => [(0, kMZ.is b), (1, kBool.is bits), (5, kN6.is (i : Int)), (6, kN6.is (k : Int))]) (fun (k : Nat) => []) (fun (k : Nat) => (b.getD i []).length - k) 0 ⟨Nat.zero_le _, fun _ j hj => absurd hj (by omega)⟩ (Imp.cons rfl (Imp.cons rfl (Imp.cons rfl (Imp.consLe rfl (is_eq (y := (0 : Int)) (by rfl)) Imp.nil)))) (OImp.refl _) ?_))))))
    intro k ⟨hk, hK⟩
    refine CW.seq (Cr (Wm rfl (Wm rfl (Wm rfl (Ws (O.ix i rfl rfl U22 ty23 rfl (v := (b.getD i [])) (gd [] (by omega))) (Ws (O.ldP rfl ty23) (Ws (O.lenS rfl U23) (Ws (O.lt rfl rfl) (Wn ?_)))))))))
    refine CW.condD rfl (fun h_t29 => ?_) (fun h_t29 => ?_)
    ·
     refine CW.skip (QE.next (CW.seq (CW.block (Cr (Wm rfl (Wm rfl ?_))))))
     refine WP.split 33 rfl (fun h_t33 => ?_) (fun h_t33 => ?_)
     ·
      refine WP.s (.g rfl rfl) (O.mv rfl) (WP.s (.g rfl rfl) (O.mv rfl) (WP.s (.g rfl rfl) (O.ix i rfl rfl U22 ty23 rfl (v := (b.getD i [])) (gd [] (by omega))) (WP.s (.g rfl rfl) (O.ldP rfl ty23) (WP.s (.g rfl rfl) (O.mv rfl) (WP.s (.g rfl rfl) (O.ix k rfl rfl U23 ty29 rfl (v := ((b.getD i []).getD k 0)) (gd 0 (by omega))) (ST.zp 39 rfl fun y y_v y_n y_l => WP.s (.g rfl rfl) (O.faP rfl fld29_1 (Lens.snd Li) rfl) (WP.s (.g rfl rfl) (O.ldP rfl ty27) (WP.s (.g rfl rfl) (O.fn fn125 (evs.c rfl evs.nil) (c_ref01_Bits y.2)) (ST.told 42 rfl (is_eq (y := (bitlen ((b.getD i []).getD k 0).natAbs : Int)) (by rw [← y_v, ival_abs])) (WP.s (.g rfl rfl) (O.gt rfl rfl) (Ws (O.pickT rfl rfl) (Wn ?_))))))))))))
      refine CW.condD rfl (fun h_t44 => ?_) (fun h_t44 => ?_)
      ·
       refine Cr (Wa rfl (Wn (CW.ret (QE.blkR (QE.thenR (QE.thenR (QE.blkR (QE.blkR (QE.thenR (QE.thenR (QE.blkR (QE.thenR ?_))))))))))))
       have hbt : bits = true := by first | assumption | exact h_t33
       refine ST.told 4 rfl (is_eq (y := (gshape b bits)) (by rw [hbt]; exact (gshape_big (big_bit (i := i) (k := k) (by omega) (by omega) (by omega))).symm)) ?_
       exact QE.done (.inl rfl) rfl (ResOk.t rfl ResOk.nil) (OImp.sub (List.nil_sublist _)) ⟨rfl, rfl⟩
      ·
       refine CW.skip (QE.blkN (QE.next (CW.region (Wm rfl (Ws (O.add rfl rfl (c := ((k : Int) + 1)) (w64 (by omega))) (Wa rfl (WP.nil ?_)))))))
       exact QE.round (k + 1) (by omega) ⟨by omega, fun hb l hl => if e : l = k then by subst e; first | omega | simp_all else hK hb l (by omega)⟩ (Imp.cons rfl (Imp.cons rfl (Imp.cons rfl (Imp.consLe rfl (is_eq (y := (((k + 1) : Nat) : Int)) (by rfl)) Imp.nil)))) (OImp.refl _)
     ·
      refine WP.ku (b := false) rfl rfl (WP.ku (b := false) rfl rfl (WP.ku (b := false) rfl rfl (WP.ku (b := false) rfl rfl (WP.ku (b := false) rfl rfl (WP.ku (b := false) rfl rfl (WP.ku (b := false) rfl rfl (WP.ku (b := false) rfl rfl (WP.ku (b := false) rfl rfl (WP.ku (b := false) rfl rfl (Ws (O.pickF rfl rfl) (Wn (CW.condF rfl (CW.skip (QE.blkN (QE.next (CW.region (Wm rfl (Ws (O.add rfl rfl (c := ((k : Int) + 1)) (w64 (by omega))) (Wa rfl (WP.nil ?_))))))))))))))))))))
      exact QE.round (k + 1) (by omega) ⟨by omega, fun hb l hl => if e : l = k then by subst e; first | omega | simp_all else hK hb l (by omega)⟩ (Imp.cons rfl (Imp.cons rfl (Imp.cons rfl (Imp.consLe rfl (is_eq (y := (((k + 1) : Nat) : Int)) (by rfl)) Imp.nil)))) (OImp.refl _)
    ·
     refine CW.exit (QE.thenE (QE.thenE (QE.blkH (QE.blkN (QE.next (CW.region (Wm rfl (Ws (O.add rfl rfl (c := ((i : Int) + 1)) (w64 (by omega))) (Wa rfl (WP.nil ?_))))))))))
     exact QE.round (i + 1) (by omega) ⟨by omega, fun j hj => if e : j = i then by subst e; exact ⟨by omega, fun hb k hk => hK hb k (by omega)⟩ else hA j (by omega)⟩ (Imp.cons rfl (Imp.cons rfl (Imp.consLe rfl (is_eq (y := (((i + 1) : Nat) : Int)) (by rfl)) Imp.nil))) (OImp.refl _)
  ·
   refine CW.exit (QE.thenE (QE.thenE (QE.blkH (QE.next (CW.seq (CW.seq ?_))))))
   have hib : i = b.length := by omega
   subst hib
   have hne := rowsTo_end h_t10 hA
   refine CW.region (Wm rfl (Ws (O.lenS rfl U22) (Ws (O.eq rfl rfl) (Wn ?_))))
   refine CW.condD rfl (fun h_t47 => ?_) (fun h_t47 => ?_)
   ·
    refine Cr (Wa rfl (Wn (CW.ret (QE.thenR (ST.told 4 rfl (is_eq (y := (gshape b bits)) (gshape_nil hne (by omega)).symm) ?_)))))
    exact QE.done (.inl rfl) rfl (ResOk.t rfl ResOk.nil) (OImp.sub (List.nil_sublist _)) ⟨rfl, rfl⟩
   ·
    refine CW.skip (QE.next (CW.seq (Cr (Wa rfl (Wn (CW.block (CW.loop (fun (j : Nat) => j ≤ b.length ∧ ∀ l, l < j → (b.getD l []).length = (b.getD 0 []).length) (fun (j : Nat) => [(0, kMZ.is b), (1, kBool.is bits), (7, kN6.is (j : Int))]) (fun (j : Nat) => []) (fun (j : Nat) => b.length - j) 0 ⟨Nat.zero_le _, fun l hl => absurd hl (by omega)⟩ (Imp.cons rfl (Imp.cons rfl (Imp.consLe rfl (is_eq (y := (0 : Int)) (by rfl)) Imp.nil))) (OImp.refl _) ?_)))))))
    intro j ⟨hj, hE⟩
    refine CW.seq (Cr (Wm rfl (Wm rfl (Ws (O.lenS rfl U22) (Ws (O.lt rfl rfl) (Wn ?_))))))
    refine CW.condD rfl (fun h_t51 => ?_) (fun h_t51 => ?_)
    ·
     refine CW.skip (QE.next (CW.seq (CW.block (CW.seq ?_))))
     refine CW.drawM (Γ := [.fr (kMZ.is b), .fr (kN6.is (j : Int)), .fr (VP.pim kVZ (b.getD j [])), .fr (kVZ.is (b.getD j [])), .fr (kN6.is ((b.getD j []).length : Int)), .fr (kMZ.is b), .fr (VP.pim kVZ (b.getD 0 [])), .fr (kVZ.is (b.getD 0 [])), .fr (kN6.is ((b.getD 0 []).length : Int)), .fr (kBool.is (decide (((b.getD j []).length : Int) ≠ ((b.getD 0 []).length : Int))))]) (om rfl rfl (om rfl rfl (of_ rfl (fun N => O.ix j rfl rfl U22 ty23 rfl (v := (b.getD j [])) (gd [] (by omega))) (of_ rfl (fun N => O.ldP rfl ty23) (of_ rfl (fun N => O.lenS rfl U23) (om rfl rfl (of_ rfl (fun N => O.ix 0 rfl rfl U22 ty23 rfl (v := (b.getD 0 [])) (gd [] (by omega))) (of_ rfl (fun N => O.ldP rfl ty23) (of_ rfl (fun N => O.lenS rfl U23) (of_ rfl (fun N => O.ne rfl rfl) oz)))))))))) (fun σ1 => ?_)
     refine Wn ?_
     refine CW.condD rfl (fun h_t63 => ?_) (fun h_t63 => ?_)
     ·
      refine Cr (Wa rfl (Wn (CW.ret (QE.blkR (QE.thenR (QE.thenR (QE.blkR (QE.thenR (ST.told 4 rfl (is_eq (y := (gshape b bits)) (by rw [gshape_else hne (by omega), (sh_no (i := j) (by omega) (by omega)).2.2])) ?_)))))))))
      exact QE.done (.inl rfl) rfl (ResOk.t rfl ResOk.nil) (OImp.sub (List.nil_sublist _)) ⟨rfl, rfl⟩
     ·
      refine CW.skip (QE.blkN (QE.next (CW.region (Wm rfl (Ws (O.add rfl rfl (c := ((j : Int) + 1)) (w64 (by omega))) (Wa rfl (WP.nil ?_)))))))
      exact QE.round (j + 1) (by omega) ⟨by omega, fun l hl => if e : l = j then by subst e; omega else hE l (by omega)⟩ (Imp.cons rfl (Imp.cons rfl (Imp.consLe rfl (is_eq (y := (((j + 1) : Nat) : Int)) (by rfl)) Imp.nil))) (OImp.refl _)
    ·
     refine CW.exit (QE.thenE (QE.thenE (QE.blkH (QE.next (Cr (Wa rfl (Wn (CW.ret (ST.told 4 rfl (is_eq (y := (gshape b bits)) (by rw [gshape_else hne (by omega), (sh_yes (fun l hl => hE l (by omega))).2.2])) ?_)))))))))
     exact QE.done (.inl rfl) rfl (ResOk.t rfl ResOk.nil) (OImp.sub (List.nil_sublist _)) ⟨rfl, rfl⟩
end Fw
/- Gram-Schmidt data of the document. -/
set_option linter.unusedVariables false
set_option linter.unusedSimpArgs false
set_option exponentiation.threshold 400
set_option maxRecDepth 20000
set_option maxHeartbeats 1000000
namespace Fw
open Go Go.Proofs
theorem c_ref05_square (n : Nat) (p : Rat) (hp : RZ n p) (hn : n ≤ 68719476736) : Fn Tryz.prog 239 [kRC.is (rq p)] (kRC.is (rq (p * p))) := by
 refine Con.enter Tryz.func239 rfl rfl fun m w => Cr (WP.bx .n rfl fun b1 => WP.al .n z31_pr_C_C_ fun b2 => Wr (Ws (O.ld rfl (mem_at 1 rfl) Li ty31 rfl) (Ws (O.ld rfl (mem_at 1 rfl) Li ty31 rfl) (Ws (O.fn fn104 (evs.c rfl (evs.c rfl evs.nil)) (c_ref03_Mul n p p (by assumption) (by assumption) (by assumption))) (WP.t .n (O.stW (l := kRC) (u := rq (p * p)) 0 rfl rfl rfl ty31 rfl Lr) (Wn (CW.ret ?_)))))))
 exact QE.done (.inl rfl) rfl (ResOk.c rfl (mem_at 0 rfl) ty31 ResOk.nil) (OImp.sub (List.nil_sublist _)) ⟨rfl, rfl⟩
theorem c_ref05_Make (n : Nat) (b : List (List Int)) (hb : SzM n b) (hr : RectL b) (hl : b.length ≤ 12) (hc : (b.getD 0 []).length ≤ 12) (hn : n ≤ 1048576) : Fn Tryz.prog 181 [kMZ.is b] (VP.tup [kFrm.is (frV (gram b) b.length), kBool.is (gOk (gram b) b.length)]) := by
 refine Con.enter Tryz.func181 rfl rfl fun m w => ST.fact (i := 0) rfl sl_len fun hB => ST.fact (i := 0) rfl slsl_len fun hlc => ?_
 have hs := gram_symG hr
 have hz : ∀ i j, Sz (n + n + 12) (gram b i j) := fun i j => gram_Sz hb hr hc i j
 have hU : ∀ k, k ≤ 12 → szU (n + n + 12) k + 1 ≤ 8590000128 := fun k hk => by have := szU_eq (n + n + 12) k; have h2 : 2 ^ k ≤ 2 ^ 12 := Nat.pow_le_pow_right (by decide) hk; have h3 := Nat.mul_le_mul_right (n + n + 12 + 1) h2; omega
 refine Cr (WP.al .n z150_pr_sl_sl_pr_C_C__sl_pr_C_C__ fun b1 => Wa rfl (Wr (WP.al .n z150_pr_val_val_ fun b2 => Wn (CW.seq (Cr (Wa rfl (Wn (CW.block (ST.nilrow 31 kRC (ST.nilrow 26 (kSl kRC) (CW.loop3 (fun (i : Nat) (vM : Value) (vS : Value) => i ≤ b.length ∧ PosU (gram b) i) (fun (i : Nat) (vM : Value) (vS : Value) => [(0, kMZ.is b), (2, VP.pt b1 0), (3, kBool.is false), (4, VP.pt b2 0), (5, kN6.is (i : Int))]) (fun (i : Nat) (vM : Value) (vS : Value) => [OB.row vM 26 (kSl kRC) (frMus (gram b) i), OB.row vS 31 kRC (frSts (gram b) i), OB.box b2 150 (kPair kVal kVal) (vM, vS), OB.box b1 150 kFrm ([], [])]) (fun (i : Nat) (vM : Value) (vS : Value) => b.length - i) 0 (.slice none 0 0) (.slice none 0 0) ⟨Nat.zero_le _, fun l hl => absurd hl (by omega)⟩ (Imp.c4 rfl rfl rfl rfl (Imp.consLe rfl (is_eq (y := (0 : Int)) (by rfl)) Imp.nil)) (OImp.os (OS.keepLe (OB.row_eq (by rfl)) (OS.keepLe (OB.row_eq (by rfl)) (OS.keep (OS.keep OS.nil))))) ?_)))))))))))
 intro i vM vS ⟨hi, hP⟩
 refine CW.seq (Cr (Wm rfl (Wm rfl (Ws (O.lenS rfl U22) (Ws (O.lt rfl rfl) (Wn ?_))))))
 refine CW.condD rfl (fun h_t15 => ?_) (fun h_t15 => ?_)
 ·
  refine CW.skip (QE.next (CW.seq (CW.block (Cr (Wa rfl (Wn (CW.seq (Cr (Wa rfl (Wn (CW.block (ST.nilrow 31 kRC ?_))))))))))))
  have hE : ∀ k j, k ≤ i → k ≤ j → RZ 8590000128 (gsE (qG (gram b)) k i j) := fun k j hk hj => (frE_RZ hs hz hP hk hk hj).up (hU k (by omega))
  have hS : ∀ k, k < i → RZ 8590000128 (frS (gram b) k) := fun k hk => (frE_RZ hs hz hP (by omega) (Nat.le_refl k) (Nat.le_refl k)).up (hU k (by omega))
  have hM : ∀ x k, k < i → k ≤ x → RZ 8590000128 (frM (gram b) x k) := fun x k hk hx => (frM_RZ hs hz hP hk hx).up (hU k (by omega))
  refine CW.loop2 (fun (j : Nat) (v : Value) => j ≤ i) (fun (j : Nat) (v : Value) => [(0, kMZ.is b), (2, VP.pt b1 0), (3, kBool.is false), (4, VP.pt b2 0), (5, kN6.is (i : Int)), (6, VP.ex v), (7, kN6.is (j : Int))]) (fun (j : Nat) (v : Value) => [OB.row v 31 kRC (frRow (gram b) i j), OB.row vM 26 (kSl kRC) (frMus (gram b) i), OB.row vS 31 kRC (frSts (gram b) i), OB.box b2 150 (kPair kVal kVal) (vM, vS), OB.box b1 150 kFrm ([], [])]) (fun (j : Nat) (v : Value) => i - j) 0 (.slice none 0 0) (by omega) (Imp.c4 rfl rfl rfl rfl (Imp.cons rfl (Imp.cons rfl (Imp.consLe rfl (is_eq (y := (0 : Int)) (by rfl)) Imp.nil)))) (OImp.os (OS.keepLe (OB.row_eq (by rfl)) (OS.keep (OS.keep (OS.keep (OS.keep OS.nil)))))) ?_
  intro j v hj
  refine CW.seq (Cr (Wm rfl (Wm rfl (Ws (O.lt rfl rfl) (Wn ?_)))))
  refine CW.condD rfl (fun h_t20 => ?_) (fun h_t20 => ?_)
  ·
   refine CW.skip (QE.next (CW.seq (CW.block (CW.seq ?_))))
   refine CW.drawM (Γ := [.fr (kMZ.is b), .fr (kN6.is (i : Int)), .fr (VP.pim kVZ (b.getD i [])), .fr (kVZ.is (b.getD i [])), .fr (kMZ.is b), .fr (kN6.is (j : Int)), .fr (VP.pim kVZ (b.getD j [])), .fr (kVZ.is (b.getD j [])), .fr (kC.is (dotV (b.getD i []) (b.getD j []))), .fr (kRC.is (rq (gsE (qG (gram b)) 0 i j))), .al (fun b => OB.box b 31 kRC (0, 0))]) (om rfl rfl (om rfl rfl (of_ rfl (fun N => O.ix i rfl rfl U22 ty23 rfl (v := (b.getD i [])) (gd [] (by omega))) (of_ rfl (fun N => O.ldP rfl ty23) (om rfl rfl (om rfl rfl (of_ rfl (fun N => O.ix j rfl rfl U22 ty23 rfl (v := (b.getD j [])) (gd [] (by omega))) (of_ rfl (fun N => O.ldP rfl ty23) (of_ rfl (fun N => O.fn fn238 (evs.c rfl (evs.c rfl evs.nil)) (c_ref05_Dot n (b.getD i []) (b.getD j []) (hb i) (hb j) (by have := row_le hr hc i; omega) (by rw [hr i (by omega), hr j (by omega)]; exact Nat.le_refl _))) (of_ rfl (fun N => OpOk.le (O.fn fn52 (evs.l rfl (kC_Z ((hz i j).sm (by omega))) evs.nil) (c_ref03_Of (dotV (b.getD i []) (b.getD j [])))) (is_eq rfl)) (oc (Ob.a rfl z31_pr_C_C_) oz))))))))))) (fun σ1 => ?_)
   refine WP.t .n (O.stW (l := kRC) (u := rq (gsE (qG (gram b)) 0 i j)) 0 rfl rfl rfl ty31 rfl Lr) (Wn (CW.seq (Cr (Wa rfl (Wn (CW.block (CW.loop2 (fun (k : Nat) (p : Nat) => k ≤ j) (fun (k : Nat) (p : Nat) => [(0, kMZ.is b), (2, VP.pt b1 0), (3, kBool.is false), (4, VP.pt b2 0), (5, kN6.is (i : Int)), (6, VP.ex v), (7, kN6.is (j : Int)), (8, VP.pt p 0), (9, kN6.is (k : Int))]) (fun (k : Nat) (p : Nat) => [OB.box p 31 kRC (rq (gsE (qG (gram b)) k i j)), OB.row v 31 kRC (frRow (gram b) i j), OB.row vM 26 (kSl kRC) (frMus (gram b) i), OB.row vS 31 kRC (frSts (gram b) i), OB.box b2 150 (kPair kVal kVal) (vM, vS), OB.box b1 150 kFrm ([], [])]) (fun (k : Nat) (p : Nat) => j - k) 0 (σ1 10) (by omega) (Imp.c4 rfl rfl rfl rfl (Imp.c4 rfl rfl rfl rfl (Imp.consLe rfl (is_eq (y := (0 : Int)) (by rfl)) Imp.nil))) (OImp.refl _) ?_)))))))
   intro k p hk
   refine CW.seq (Cr (Wm rfl (Wm rfl (Ws (O.lt rfl rfl) (Wn ?_)))))
   refine CW.condD rfl (fun h_t35 => ?_) (fun h_t35 => ?_)
   ·
    refine CW.skip (QE.next (CW.seq (CW.block ?_)))
    refine CW.drawM (Γ := [.fr (kRC.is (rq (gsE (qG (gram b)) k i j))), .fr (VP.pt b2 0), .fr (VP.ex vM), .fr (kN6.is (j : Int)), .fr (VP.pel vM (j * 1)), .fr ((kSl kRC).is ((frMus (gram b) i).getD j [])), .fr (kN6.is (k : Int)), .fr (VP.pim kRC (rq (frM (gram b) j k))), .fr (kRC.is (rq (frM (gram b) j k))), .fr (VP.ex v), .fr (kN6.is (k : Int)), .fr (VP.pel v (k * 4)), .fr (kRC.is (rq (frM (gram b) i k))), .fr (kRC.is (rq ((frM (gram b) j k) * (frM (gram b) i k)))), .fr (VP.pt b2 1), .fr (VP.ex vS), .fr (kN6.is (k : Int)), .fr (VP.pel vS (k * 4)), .fr (kRC.is (rq (frS (gram b) k))), .fr (kRC.is (rq ((frM (gram b) j k * frM (gram b) i k) * (frS (gram b) k)))), .fr (kRC.is (rq ((gsE (qG (gram b)) k i j) - (frM (gram b) j k * frM (gram b) i k * frS (gram b) k))))]) (of_ rfl (fun N => O.ld rfl (mem_app N (mem_at 0 rfl)) Li ty31 rfl) (of_ rfl (fun N => O.fa rfl fld150_0 rfl) (of_ rfl (fun N => OpOk.le (O.ld (p := kVal.is vM) rfl (mem_app N (mem_at 4 rfl)) (Lens.fst Li) ty148 rfl) (val_ex _)) (om rfl rfl (of_ rfl (fun N => O.ixR (k := (kSl kRC)) (xs := (frMus (gram b) i)) (n := (j : Int)) j rfl rfl (mem_app N (mem_at 2 rfl)) U148 ty26 rfl (by simp only [frRow_len, frMus_len, frSts_len]; omega)) (of_ rfl (fun N => O.ldR j rfl (mem_app N (mem_at 2 rfl)) Li rfl (y := ((frMus (gram b) i).getD j [])) (gd [] (by simp only [frRow_len, frMus_len, frSts_len]; omega)) ty26 rfl) (om rfl rfl (of_ rfl (fun N => O.ix k rfl rfl U26 ty31 rfl (v := (rq (frM (gram b) j k))) (frMus_at (by omega) (by omega))) (of_ rfl (fun N => O.ldP rfl ty31) (om rfl rfl (om rfl rfl (of_ rfl (fun N => O.ixR (k := kRC) (xs := (frRow (gram b) i j)) (n := (k : Int)) k rfl rfl (mem_app N (mem_at 1 rfl)) U26 ty31 rfl (by simp only [frRow_len, frMus_len, frSts_len]; omega)) (of_ rfl (fun N => O.ldR (k := kRC) (xs := (frRow (gram b) i j)) k rfl (mem_app N (mem_at 1 rfl)) Li (ho := rfl) (y := (rq (frM (gram b) i k))) (frRow_at (by omega)) ty31 rfl) (of_ rfl (fun N => O.fn fn104 (evs.c rfl (evs.c rfl evs.nil)) (c_ref03_Mul 8590000128 (frM (gram b) j k) (frM (gram b) i k) (hM j k (by omega) (by omega)) (hM i k (by omega) (by omega)) (by omega))) (of_ rfl (fun N => O.fa rfl fld150_1 rfl) (of_ rfl (fun N => OpOk.le (O.ld (p := kVal.is vS) rfl (mem_app N (mem_at 4 rfl)) (Lens.snd Li) ty26 rfl) (val_ex _)) (om rfl rfl (of_ rfl (fun N => O.ixR (k := kRC) (xs := (frSts (gram b) i)) (n := (k : Int)) k rfl rfl (mem_app N (mem_at 3 rfl)) U26 ty31 rfl (by simp only [frRow_len, frMus_len, frSts_len]; omega)) (of_ rfl (fun N => O.ldR (k := kRC) (xs := (frSts (gram b) i)) k rfl (mem_app N (mem_at 3 rfl)) Li (ho := rfl) (y := (rq (frS (gram b) k))) (frSts_at (by omega)) ty31 rfl) (of_ rfl (fun N => O.fn fn104 (evs.l rfl (is_eq (y := rq (frM (gram b) j k * frM (gram b) i k)) (by rfl)) (evs.c rfl evs.nil)) (c_ref03_Mul 17180000256 (frM (gram b) j k * frM (gram b) i k) (frS (gram b) k) ((hM j k (by omega) (by omega)).mul (hM i k (by omega) (by omega))) ((hS k (by omega)).up (by omega)) (by omega))) (of_ rfl (fun N => O.fn fn103 (evs.c rfl (evs.l rfl (is_eq (y := rq (frM (gram b) j k * frM (gram b) i k * frS (gram b) k)) (by rfl)) evs.nil)) (c_ref03_Sub 25770000384 (gsE (qG (gram b)) k i j) (frM (gram b) j k * frM (gram b) i k * frS (gram b) k) ((hE k j (by omega) (by omega)).up (by omega)) (((hM j k (by omega) (by omega)).mul (hM i k (by omega) (by omega))).mul (hS k (by omega))) (by omega))) oz))))))))))))))))))))) (fun σ2 => ?_)
    refine WP.t .n (O.stW (l := kRC) (u := rq ((gsE (qG (gram b)) k i j) - (frM (gram b) j k * frM (gram b) i k * frS (gram b) k))) 0 rfl rfl rfl ty31 rfl Lr) (WP.nil (QE.blkN (QE.next (CW.region (Wm rfl (Ws (O.add rfl rfl (c := ((k : Int) + 1)) (w64 (by omega))) (Wa rfl (WP.nil (ST.obtold 0 rfl (OB.box_eq (y := (rq (gsE (qG (gram b)) (k + 1) i j))) (by rw [fr_step hs (hP.le (by omega))])) ?_)))))))))
    exact QE.round2 (k + 1) p (by omega) (by omega) (Imp.c4 rfl rfl rfl rfl (Imp.c4 rfl rfl rfl rfl (Imp.consLe rfl (is_eq (y := (((k + 1) : Nat) : Int)) (by rfl)) Imp.nil))) (OImp.refl _)
   ·
    refine CW.exit (QE.thenE (QE.thenE (QE.blkH (QE.next (ST.obtold 0 rfl (OB.box_eq (y := (rq (gsE (qG (gram b)) j i j))) (by rw [show k = j by omega])) ?_)))))
    refine CW.drawM (Γ := [.fr (VP.ex v), .fr (kRC.is (rq (gsE (qG (gram b)) j i j))), .fr (VP.pt b2 1), .fr (VP.ex vS), .fr (kN6.is (j : Int)), .fr (VP.pel vS (j * 4)), .fr (kRC.is (rq (frS (gram b) j))), .fr (kRC.is (rq ((gsE (qG (gram b)) j i j) / (frS (gram b) j)))), .fr ((kSl kRC).is [rq ((gsE (qG (gram b)) j i j) / (frS (gram b) j))])]) (om rfl rfl (of_ rfl (fun N => O.ld rfl (mem_app N (mem_at 0 rfl)) Li ty31 rfl) (of_ rfl (fun N => O.fa rfl fld150_1 rfl) (of_ rfl (fun N => OpOk.le (O.ld (p := kVal.is vS) rfl (mem_app N (mem_at 4 rfl)) (Lens.snd Li) ty26 rfl) (val_ex _)) (om rfl rfl (of_ rfl (fun N => O.ixR (k := kRC) (xs := (frSts (gram b) i)) (n := (j : Int)) j rfl rfl (mem_app N (mem_at 3 rfl)) U26 ty31 rfl (by simp only [frRow_len, frMus_len, frSts_len]; omega)) (of_ rfl (fun N => O.ldR (k := kRC) (xs := (frSts (gram b) i)) j rfl (mem_app N (mem_at 3 rfl)) Li (ho := rfl) (y := (rq (frS (gram b) j))) (frSts_at (by omega)) ty31 rfl) (of_ rfl (fun N => O.fn fn76 (evs.c rfl (evs.c rfl evs.nil)) (c_ref03_Div 8590000128 (gsE (qG (gram b)) j i j) (frS (gram b) j) (hE j j (by omega) (by omega)) (hS j (by omega)) (by omega) (frS_ne hs (hP.le (by omega))))) (of_ rfl (fun N => O.bs U26 el31_pr_C_C_ (evl.c rfl evl.n) rfl (by decide)) oz))))))))) (fun σ3 => ?_)
    refine WP.ap 1 .n rfl rfl rfl Lr U26 el31_pr_C_C_ (by simp only [frRow_len, frMus_len, frSts_len, List.length_cons, List.length_nil]; omega) fun v3 => Wa rfl (WP.nil (QE.blkN (QE.next (CW.region (Wm rfl (Ws (O.add rfl rfl (c := ((j : Int) + 1)) (w64 (by omega))) (Wa rfl (WP.nil (ST.obtold 1 rfl (OB.row_eq (ys := (frRow (gram b) i (j + 1))) (frRow_app (gram b) i j)) ?_)))))))))
    exact QE.round2 (j + 1) v3 (by omega) (by omega) (Imp.c4 rfl rfl rfl rfl (Imp.cons rfl (Imp.cons rfl (Imp.consLe rfl (is_eq (y := (((j + 1) : Nat) : Int)) (by rfl)) Imp.nil)))) (OImp.os (OS.skip (OS.keep (OS.keep (OS.keep (OS.keep (OS.keep OS.nil)))))))
  ·
   refine CW.exit (QE.thenE (QE.thenE (QE.blkH (QE.next (CW.seq (ST.obtold 0 rfl (OB.row_eq (ys := (frRow (gram b) i i)) (by rw [show j = i by omega])) ?_))))))
   refine CW.drawM (Γ := [.fr (kMZ.is b), .fr (kN6.is (i : Int)), .fr (VP.pim kVZ (b.getD i [])), .fr (kVZ.is (b.getD i [])), .fr (kMZ.is b), .fr (kN6.is (i : Int)), .fr (VP.pim kVZ (b.getD i [])), .fr (kVZ.is (b.getD i [])), .fr (kC.is (dotV (b.getD i []) (b.getD i []))), .fr (kRC.is (rq (gsE (qG (gram b)) 0 i i))), .al (fun b => OB.box b 31 kRC (0, 0))]) (om rfl rfl (om rfl rfl (of_ rfl (fun N => O.ix i rfl rfl U22 ty23 rfl (v := (b.getD i [])) (gd [] (by omega))) (of_ rfl (fun N => O.ldP rfl ty23) (om rfl rfl (om rfl rfl (of_ rfl (fun N => O.ix i rfl rfl U22 ty23 rfl (v := (b.getD i [])) (gd [] (by omega))) (of_ rfl (fun N => O.ldP rfl ty23) (of_ rfl (fun N => O.fn fn238 (evs.c rfl (evs.c rfl evs.nil)) (c_ref05_Dot n (b.getD i []) (b.getD i []) (hb i) (hb i) (by have := row_le hr hc i; omega) (Nat.le_refl _))) (of_ rfl (fun N => OpOk.le (O.fn fn52 (evs.l rfl (kC_Z ((hz i i).sm (by omega))) evs.nil) (c_ref03_Of (dotV (b.getD i []) (b.getD i [])))) (is_eq rfl)) (oc (Ob.a rfl z31_pr_C_C_) oz))))))))))) (fun σ4 => ?_)
   refine WP.t .n (O.stW (l := kRC) (u := rq (gsE (qG (gram b)) 0 i i)) 0 rfl rfl rfl ty31 rfl Lr) (Wn (CW.seq (Cr (Wa rfl (Wn (CW.block (CW.loop2 (fun (l : Nat) (p : Nat) => l ≤ i) (fun (l : Nat) (p : Nat) => [(0, kMZ.is b), (2, VP.pt b1 0), (3, kBool.is false), (4, VP.pt b2 0), (5, kN6.is (i : Int)), (6, VP.ex v), (10, VP.pt p 0), (11, kN6.is (l : Int))]) (fun (l : Nat) (p : Nat) => [OB.box p 31 kRC (rq (gsE (qG (gram b)) l i i)), OB.row v 31 kRC (frRow (gram b) i i), OB.row vM 26 (kSl kRC) (frMus (gram b) i), OB.row vS 31 kRC (frSts (gram b) i), OB.box b2 150 (kPair kVal kVal) (vM, vS), OB.box b1 150 kFrm ([], [])]) (fun (l : Nat) (p : Nat) => i - l) 0 (σ4 10) (by omega) (Imp.c4 rfl rfl rfl rfl (Imp.cons rfl (Imp.cons rfl (Imp.cons rfl (Imp.consLe rfl (is_eq (y := (0 : Int)) (by rfl)) Imp.nil))))) (OImp.refl _) ?_)))))))
   intro l p hl2
   refine CW.seq (Cr (Wm rfl (Wm rfl (Ws (O.lt rfl rfl) (Wn ?_)))))
   refine CW.condD rfl (fun h_t81 => ?_) (fun h_t81 => ?_)
   ·
    refine CW.skip (QE.next (CW.seq (CW.block ?_)))
    refine CW.drawM (Γ := [.fr (kRC.is (rq (gsE (qG (gram b)) l i i))), .fr (VP.ex v), .fr (kN6.is (l : Int)), .fr (VP.pel v (l * 4)), .fr (kRC.is (rq (frM (gram b) i l))), .fr (kRC.is (rq ((frM (gram b) i l) * (frM (gram b) i l)))), .fr (VP.pt b2 1), .fr (VP.ex vS), .fr (kN6.is (l : Int)), .fr (VP.pel vS (l * 4)), .fr (kRC.is (rq (frS (gram b) l))), .fr (kRC.is (rq ((frM (gram b) i l * frM (gram b) i l) * (frS (gram b) l)))), .fr (kRC.is (rq ((gsE (qG (gram b)) l i i) - (frM (gram b) i l * frM (gram b) i l * frS (gram b) l))))]) (of_ rfl (fun N => O.ld rfl (mem_app N (mem_at 0 rfl)) Li ty31 rfl) (om rfl rfl (om rfl rfl (of_ rfl (fun N => O.ixR (k := kRC) (xs := (frRow (gram b) i i)) (n := (l : Int)) l rfl rfl (mem_app N (mem_at 1 rfl)) U26 ty31 rfl (by simp only [frRow_len, frMus_len, frSts_len]; omega)) (of_ rfl (fun N => O.ldR (k := kRC) (xs := (frRow (gram b) i i)) l rfl (mem_app N (mem_at 1 rfl)) Li (ho := rfl) (y := (rq (frM (gram b) i l))) (frRow_at (by omega)) ty31 rfl) (of_ rfl (fun N => O.fn fn239 (evs.c rfl evs.nil) (c_ref05_square 8590000128 (frM (gram b) i l) (hM i l (by omega) (by omega)) (by omega))) (of_ rfl (fun N => O.fa rfl fld150_1 rfl) (of_ rfl (fun N => OpOk.le (O.ld (p := kVal.is vS) rfl (mem_app N (mem_at 4 rfl)) (Lens.snd Li) ty26 rfl) (val_ex _)) (om rfl rfl (of_ rfl (fun N => O.ixR (k := kRC) (xs := (frSts (gram b) i)) (n := (l : Int)) l rfl rfl (mem_app N (mem_at 3 rfl)) U26 ty31 rfl (by simp only [frRow_len, frMus_len, frSts_len]; omega)) (of_ rfl (fun N => O.ldR (k := kRC) (xs := (frSts (gram b) i)) l rfl (mem_app N (mem_at 3 rfl)) Li (ho := rfl) (y := (rq (frS (gram b) l))) (frSts_at (by omega)) ty31 rfl) (of_ rfl (fun N => O.fn fn104 (evs.l rfl (is_eq (y := rq (frM (gram b) i l * frM (gram b) i l)) (by rfl)) (evs.c rfl evs.nil)) (c_ref03_Mul 17180000256 (frM (gram b) i l * frM (gram b) i l) (frS (gram b) l) ((hM i l (by omega) (by omega)).mul (hM i l (by omega) (by omega))) ((hS l (by omega)).up (by omega)) (by omega))) (of_ rfl (fun N => O.fn fn103 (evs.c rfl (evs.l rfl (is_eq (y := rq (frM (gram b) i l * frM (gram b) i l * frS (gram b) l)) (by rfl)) evs.nil)) (c_ref03_Sub 25770000384 (gsE (qG (gram b)) l i i) (frM (gram b) i l * frM (gram b) i l * frS (gram b) l) ((hE l i (by omega) (by omega)).up (by omega)) (((hM i l (by omega) (by omega)).mul (hM i l (by omega) (by omega))).mul (hS l (by omega))) (by omega))) oz))))))))))))) (fun σ5 => ?_)
    refine WP.t .n (O.stW (l := kRC) (u := rq ((gsE (qG (gram b)) l i i) - (frM (gram b) i l * frM (gram b) i l * frS (gram b) l))) 0 rfl rfl rfl ty31 rfl Lr) (WP.nil (QE.blkN (QE.next (CW.region (Wm rfl (Ws (O.add rfl rfl (c := ((l : Int) + 1)) (w64 (by omega))) (Wa rfl (WP.nil (ST.obtold 0 rfl (OB.box_eq (y := (rq (gsE (qG (gram b)) (l + 1) i i))) (by rw [fr_step hs (hP.le (by omega))])) ?_)))))))))
    exact QE.round2 (l + 1) p (by omega) (by omega) (Imp.c4 rfl rfl rfl rfl (Imp.cons rfl (Imp.cons rfl (Imp.cons rfl (Imp.consLe rfl (is_eq (y := (((l + 1) : Nat) : Int)) (by rfl)) Imp.nil))))) (OImp.refl _)
   ·
    refine CW.exit (QE.thenE (QE.thenE (QE.blkH (QE.next (CW.seq (CW.seq ?_))))))
    have hSi : RZ 8590000128 (frS (gram b) i) := (frE_RZ hs hz hP (Nat.le_refl i) (Nat.le_refl i) (Nat.le_refl i)).up (hU i (by omega))
    refine ST.obtold 0 rfl (OB.box_eq (y := (rq (frS (gram b) i))) (by rw [show l = i by omega]; rfl)) (CW.region (Ws (O.fa rfl fld31_0 rfl) (Ws (O.ld rfl (mem_at 0 rfl) (Lens.fst Li) ty29 rfl) (Ws (O.fn fn88 (evs.l rfl (kC_Z (hSi.a.sm (by omega))) evs.nil) (c_ref02_Sign ((rq (frS (gram b) i)).1))) (Ws (O.le rfl rfl) (Wn ?_))))))
    refine CW.condD rfl (fun h_t100 => ?_) (fun h_t100 => ?_)
    ·
     refine CW.seq (ST.freezeIn (k2 := (kPair (kSl (kSl kRC)) kVal)) ((frMus (gram b) i), vS) 2 3 rfl rfl (fun m_ cs_ h_ c_ => fz_fst m_ cs_ h_ c_) (kp 0 rfl (kp 2 rfl (kp 3 rfl (kp 4 rfl (kp 5 rfl (kp 6 rfl (kp 10 rfl (kp 11 rfl (kp 79 rfl (kp 80 rfl (kp 81 rfl (kp 97 rfl (kp 98 rfl (kp 99 rfl (kp 100 rfl .nil))))))))))))))) (ST.freezeIn (k2 := kFrm) ((frMus (gram b) i), (frSts (gram b) i)) 2 2 rfl rfl (fun m_ cs_ h_ c_ => fz_snd m_ cs_ h_ c_) (kp 0 rfl (kp 2 rfl (kp 3 rfl (kp 4 rfl (kp 5 rfl (kp 6 rfl (kp 10 rfl (kp 11 rfl (kp 79 rfl (kp 80 rfl (kp 81 rfl (kp 97 rfl (kp 98 rfl (kp 99 rfl (kp 100 rfl .nil))))))))))))))) (CW.region (Ws (O.ld (p := kFrm.is ((frMus (gram b) i), (frSts (gram b) i))) rfl (mem_at 2 rfl) Li ty150 rfl) (WP.t .n (O.stW (l := kFrm) (u := ((frMus (gram b) i), (frSts (gram b) i))) 3 rfl rfl rfl ty150 rfl Lr) (Wa rfl (Wn (CW.ret (QE.thenR (QE.blkR (QE.thenR (QE.thenR (QE.blkR (QE.thenR ?_))))))))))))))
     have hneg := (frS_sgn hs hP).1 h_t100
     refine ST.obtold 3 rfl (OB.box_eq (y := (frV (gram b) b.length)) (fr_no (by omega) hP hneg).1) (ST.told 3 rfl (is_eq (y := (gOk (gram b) b.length)) (fr_no (by omega) hP hneg).2) ?_)
     exact QE.done (.inl rfl) rfl (ResOk.c rfl (mem_at 3 rfl) ty150 (ResOk.t rfl ResOk.nil)) (OImp.sub (List.nil_sublist _)) ⟨rfl, rfl⟩
    ·
     refine CW.skip (QE.next (CW.seq (ST.freeze 1 rfl (kp 0 rfl (kp 2 rfl (kp 3 rfl (kp 4 rfl (kp 5 rfl (.hit (i := 6) rfl (kp 10 rfl (kp 11 rfl (kp 79 rfl (kp 80 rfl (kp 81 rfl (kp 97 rfl (kp 98 rfl (kp 99 rfl (kp 100 rfl .nil))))))))))))))) ?_)))
     have hpos : 0 < uE (gram b) i i i := Classical.byContradiction fun e => h_t100 ((frS_sgn hs hP).2 e)
     refine CW.region (Ws (O.fa rfl fld150_0 rfl) (Ws (OpOk.le (O.ld (p := kVal.is vM) rfl (mem_at 3 rfl) (Lens.fst Li) ty148 rfl) (val_ex _)) (Wm rfl (Ws (O.bs U148 el26_sl_pr_C_C_ (evl.c rfl evl.n) rfl (by decide)) (WP.ap 1 .n rfl rfl rfl Lr U148 el26_sl_pr_C_C_ (by simp only [frRow_len, frMus_len, frSts_len, List.length_cons, List.length_nil]; omega) fun v4 => Ws (O.fa rfl fld150_0 rfl) (ST.rowcell 1 rfl fun hcell_ => WP.t .n (O.st 3 rfl rfl (Lens.fst Li) ty148 rfl (ex_val (by assumption))) (Wn (CW.region (Ws (O.fa rfl fld150_1 rfl) (Ws (OpOk.le (O.ld (p := kVal.is vS) rfl (mem_at 3 rfl) (Lens.snd Li) ty26 rfl) (val_ex _)) (Ws (O.ld rfl (mem_at 0 rfl) Li ty31 rfl) (Ws (O.bs U26 el31_pr_C_C_ (evl.c rfl evl.n) rfl (by decide)) (WP.ap 2 .n rfl rfl rfl Lr U26 el31_pr_C_C_ (by simp only [frRow_len, frMus_len, frSts_len, List.length_cons, List.length_nil]; omega) fun v5 => Ws (O.fa rfl fld150_1 rfl) (ST.rowcell 2 rfl fun hcell_ => WP.t .n (O.st 3 rfl rfl (Lens.snd Li) ty26 rfl (ex_val (by assumption))) (WP.nil (QE.blkN (QE.next (CW.region ?_))))))))))))))))))
     refine Wm rfl (Ws (O.add rfl rfl (c := ((i : Int) + 1)) (w64 (by omega))) (Wa rfl (WP.nil (ST.obtold 1 rfl (OB.row_eq (ys := (frMus (gram b) (i + 1))) (frMus_app (gram b) i)) (ST.obtold 2 rfl (OB.row_eq (ys := (frSts (gram b) (i + 1))) (frSts_app (gram b) i)) ?_)))))
     exact QE.round3 (i + 1) v4 v5 (by omega) ⟨by omega, posU_next hP hpos⟩ (Imp.c4 rfl rfl rfl rfl (Imp.consLe rfl (is_eq (y := (((i + 1) : Nat) : Int)) (by rfl)) Imp.nil)) (OImp.os (OS.skip (OS.keep (OS.keep (OS.keep (OS.keep OS.nil))))))
 ·
  refine CW.exit (QE.thenE (QE.thenE (QE.blkH (QE.next (CW.seq (ST.freezeIn (k2 := (kPair (kSl (kSl kRC)) kVal)) ((frMus (gram b) i), vS) 0 1 rfl rfl (fun m_ cs_ h_ c_ => fz_fst m_ cs_ h_ c_) (kp 0 rfl (kp 2 rfl (kp 3 rfl (kp 4 rfl (kp 5 rfl (kp 12 rfl (kp 13 rfl (kp 14 rfl (kp 15 rfl .nil))))))))) (ST.freezeIn (k2 := kFrm) ((frMus (gram b) i), (frSts (gram b) i)) 0 0 rfl rfl (fun m_ cs_ h_ c_ => fz_snd m_ cs_ h_ c_) (kp 0 rfl (kp 2 rfl (kp 3 rfl (kp 4 rfl (kp 5 rfl (kp 12 rfl (kp 13 rfl (kp 14 rfl (kp 15 rfl .nil))))))))) ?_)))))))
  have hib : i = b.length := by omega
  refine CW.region (Ws (O.ld (p := kFrm.is ((frMus (gram b) i), (frSts (gram b) i))) rfl (mem_at 0 rfl) Li ty150 rfl) (WP.t .n (O.stW (l := kFrm) (u := ((frMus (gram b) i), (frSts (gram b) i))) 1 rfl rfl rfl ty150 rfl Lr) (Wa rfl (Wn (CW.ret (ST.obtold 1 rfl (OB.box_eq (y := (frV (gram b) b.length)) (by rw [← hib]; exact (fr_yes hP).1)) (ST.told 3 rfl (is_eq (y := (gOk (gram b) b.length)) (by rw [← hib]; exact (fr_yes hP).2)) ?_)))))))
  exact QE.done (.inl rfl) rfl (ResOk.c rfl (mem_at 1 rfl) ty150 (ResOk.t rfl ResOk.nil)) (OImp.sub (List.nil_sublist _)) ⟨rfl, rfl⟩
end Fw
/- Plain facts: whether an answer on a shortest vector belongs together. -/
set_option linter.unusedVariables false
set_option linter.unusedSimpArgs false
set_option exponentiation.threshold 400
namespace Fw
open Go
def frR (b : List (List Int)) (bits : Bool) : List (List (Int × Int)) × List (Int × Int) := if gsoE b bits = 0 then frV (gram b) b.length else ([], [])
theorem frR_1 {b bits} (h : gshape b bits ≠ 0) : ([], []) = frR b bits ∧ gshape b bits = gsoE b bits := by
  have e := (gsoE_1 h).1
  exact ⟨by unfold frR; rw [if_neg (by rw [e]; exact h)], e.symm⟩
theorem frR_2 {b bits} (h : ¬ gshape b bits ≠ 0) (h2 : gOk (gram b) b.length = false) : ([], []) = frR b bits ∧ 50 = gsoE b bits := by
  have e := (gsoE_2 h h2).1
  exact ⟨by unfold frR; rw [if_neg (by rw [e]; decide)], e.symm⟩
theorem frR_3 {b bits} (h : ¬ gshape b bits ≠ 0) (h2 : gOk (gram b) b.length = true) : frV (gram b) b.length = frR b bits ∧ 0 = gsoE b bits := by
  have e := (gsoE_3 h h2).1
  exact ⟨by unfold frR; rw [if_pos e], e.symm⟩
theorem gsoE_ok {b bits} (h : gsoE b bits = 0) : gshape b bits = 0 ∧ PosU (gram b) b.length := by
  unfold gsoE at h
  by_cases h1 : gshape b bits ≠ 0
  · rw [if_pos h1] at h; exact absurd h h1
  · rw [if_neg h1] at h
    by_cases h2 : gOk (gram b) b.length = true
    · exact ⟨by omega, gOk_iff.1 h2⟩
    · rw [if_neg h2] at h; exact absurd h (by decide)
structure Basis (b : List (List Int)) : Prop where
  z : SzM 256 b
  n : b.length ≤ 12
  n0 : 0 < b.length
  r : RectL b
  rb : rect b = true
  c : ∀ i, (b.getD i []).length ≤ 12
  p : PosU (gram b) b.length
theorem basis_of {b} (h : gsoE b true = 0) : Basis b := by
  obtain ⟨h1, h2⟩ := gsoE_ok h
  obtain ⟨h3, h4, h5⟩ := gshape_ok h1
  obtain ⟨h6, h7, h8⟩ := bigN_no h3
  exact ⟨mbits_Sz (h7 rfl), h6, h4, rectL h5, h5, h8, h2⟩
theorem SzM.up {n m b} (h : SzM n b) (hm : n ≤ m) : SzM m b := fun i k => (h i k).up hm
theorem SzL.up {n m u} (h : SzL n u) (hm : n ≤ m) : SzL m u := fun k => (h k).up hm
theorem SzL.nil (n) : SzL n [] := fun k => by rw [List.getD_nil]; exact Sz.zero _
theorem combA_Sz {n m x b} (hx : SzL n x) (hb : SzM m b) : SzL (n + m + b.length) (combA x b) := by
  unfold combA
  split
  · intro k
    by_cases hk : k < (b.getD 0 []).length
    · rw [combV_get hk]; exact combN_Sz hx hb k _
    · rw [List.getD_eq_getElem?_getD, List.getElem?_eq_none (by rw [combV_len]; omega)]; exact Sz.zero _
  · exact SzL.nil _
theorem combA_len (x b) : (combA x b).length ≤ (b.getD 0 []).length := by
  unfold combA
  split
  · rw [combV_len]; exact Nat.le_refl _
  · simp
theorem SzL.sm {m u} (h : SzL m u) (hm : m ≤ 549755813888) : ∀ x ∈ u, Sm x := fun x hx => by
  obtain ⟨i, hi, rfl⟩ := mem_getD 0 hx
  exact (h i).sm hm
theorem sgn0 {x y : Int} : (x - y).sign = 0 ↔ x = y := by rw [Int.sign_eq_zero_iff_zero]; omega
def optP (w g : Int) : Prop := 1 ≤ w ∧ w ≤ 64 ∧ 1 ≤ g ∧ g ≤ 1048576
instance (w g) : Decidable (optP w g) := by unfold optP; infer_instance
def chk16 (b : List (List Int)) (w g : Int) : Int := if gsoE b true = 0 ∧ ¬ optP w g then 150 else gsoE b true
theorem chk16_1 (b) : chk16 b 1 1 = gsoE b true := by
  unfold chk16; rw [if_neg]; intro h; exact h.2 ⟨by decide, by decide, by decide, by decide⟩
theorem bel_C {n b X} (hZ : Basis b) (hX : SzL n X) (m : Nat) (hm : n + 268 ≤ m) : SzL m (combA X b) := (combA_Sz hX hZ.z).up (by have := hZ.n; omega)
end Fw
/- Own memory: what the helpers of the statements on layer 16 answer. -/
set_option linter.unusedVariables false
set_option linter.unusedSimpArgs false
set_option exponentiation.threshold 70
set_option maxRecDepth 20000
set_option maxHeartbeats 1000000
namespace Fw
open Go Go.Proofs
end Fw
/- ShortChecks: what the functions answer. -/
set_option linter.unusedVariables false
set_option linter.unusedSimpArgs false
set_option exponentiation.threshold 400
set_option maxRecDepth 20000
set_option maxHeartbeats 1000000
namespace Fw
open Go Go.Proofs
theorem c_ref05_check (n : Nat) (b : List (List Int)) (bits : Bool) (hb : gshape b bits = 0 → SzM n b) (hn : n ≤ 1048576) : Fn Tryz.prog 110 [kMZ.is b, kBool.is bits] (VP.tup [kFrm.is (frR b bits), kN6.is (gsoE b bits)]) := by
 refine Con.enter Tryz.func110 rfl rfl fun m w => Cr (WP.al .n z150_pr_sl_sl_pr_C_C__sl_pr_C_C__ fun b1 => Wa rfl (Wr (Wm rfl (Wm rfl (Ws (O.fn fn180 (evs.c rfl (evs.c rfl evs.nil)) (c_ref05_shape b bits)) (Wa rfl (Wn (CW.seq (Cr (Wm rfl (Ws (O.ne rfl rfl) (Wn ?_))))))))))))
 refine CW.condD rfl (fun h_t13 => ?_) (fun h_t13 => ?_)
 ·
  refine Cr (Ws (O.bld lit150_pr_sl_sl_pr_C_C__sl_pr_C_C__ rfl evp.n (.nil _)) (Wm rfl (WP.t .n (O.stW (l := kFrm) (u := ([], [])) 0 rfl rfl rfl ty150 rfl Lr) (Wa rfl (Wn (CW.ret (QE.thenR (ST.obtold 0 rfl (OB.box_eq (y := (frR b bits)) (frR_1 (by omega)).1) (ST.told 5 rfl (is_eq (y := (gsoE b bits)) (frR_1 (by omega)).2) ?_)))))))))
  exact QE.done (.inl rfl) rfl (ResOk.c rfl (mem_at 0 rfl) ty150 (ResOk.t rfl ResOk.nil)) (OImp.sub (List.nil_sublist _)) ⟨rfl, rfl⟩
 ·
  refine CW.skip (QE.next (CW.seq ?_))
  have hok := gshape_ok (show gshape b bits = 0 by omega)
  have hno := bigN_no hok.1
  have hr := rectL hok.2.2
  refine CW.region (Wm rfl (Ws (O.fn fn181 (evs.c rfl evs.nil) (c_ref05_Make n b (hb (by omega)) (by assumption) (by omega) (hno.2.2 0) (by assumption))) (Wm rfl (Ws (O.ext rfl rfl) (Ws (O.ext rfl rfl) (WP.al .n z150_pr_sl_sl_pr_C_C__sl_pr_C_C__ fun b2 => WP.t .n (O.stW (l := kFrm) (u := frV (gram b) b.length) 0 rfl rfl rfl ty150 rfl Lr) (Wa rfl (Wn (CW.seq (Cr (Wm rfl (Ws (O.not rfl) (Wn ?_)))))))))))))
  refine CW.cond rfl (fun h_t22 => ?_) (fun h_t22 => ?_)
  ·
   refine Cr (Ws (O.bld lit150_pr_sl_sl_pr_C_C__sl_pr_C_C__ rfl evp.n (.nil _)) (WP.t .n (O.stW (l := kFrm) (u := ([], [])) 1 rfl rfl rfl ty150 rfl Lr) (Wa rfl (Wn (CW.ret (QE.thenR ?_))))))
   have hk : gOk (gram b) b.length = false := by simpa using h_t22
   refine ST.obtold 1 rfl (OB.box_eq (y := (frR b bits)) (frR_2 (by omega) hk).1) (ST.told 5 rfl (is_eq (y := (gsoE b bits)) (frR_2 (by omega) hk).2) ?_)
   exact QE.done (.inl rfl) rfl (ResOk.c rfl (mem_at 1 rfl) ty150 (ResOk.t rfl ResOk.nil)) (OImp.sub (List.nil_sublist _)) ⟨rfl, rfl⟩
  ·
   refine CW.skip (QE.next (Cr (Ws (O.ld rfl (mem_at 0 rfl) Li ty150 rfl) (WP.t .n (O.stW (l := kFrm) (u := frV (gram b) b.length) 1 rfl rfl rfl ty150 rfl Lr) (Wa rfl (Wn (CW.ret ?_)))))))
   have hk : gOk (gram b) b.length = true := by simpa using h_t22
   refine ST.obtold 1 rfl (OB.box_eq (y := (frR b bits)) (frR_3 (by omega) hk).1) (ST.told 5 rfl (is_eq (y := (gsoE b bits)) (frR_3 (by omega) hk).2) ?_)
   exact QE.done (.inl rfl) rfl (ResOk.c rfl (mem_at 1 rfl) ty150 (ResOk.t rfl ResOk.nil)) (OImp.sub (List.nil_sublist _)) ⟨rfl, rfl⟩
theorem c_ref05_Valid (b : List (List Int)) : Fn Tryz.prog 48 [kMZ.is b] (kN6.is (gsoE b true)) := by
 refine Con.enter Tryz.func48 rfl rfl fun m w => Cr (Wa rfl (Wr (Wm rfl (Ws (O.fn fn110 (evs.c rfl (evs.c rfl evs.nil)) (c_ref05_check 256 b true (fun h => mbits_Sz ((bigN_no (gshape_ok h).1).2.1 rfl)) (by decide))) (Wm rfl (Ws (O.ext rfl rfl) (Ws (O.ext rfl rfl) (WP.al .n z150_pr_sl_sl_pr_C_C__sl_pr_C_C__ fun b1 => WP.t .n (O.stW (l := kFrm) (u := frR b true) 0 rfl rfl rfl ty150 rfl Lr) (Wa rfl (Wr (Wm rfl (Wa rfl (Wn ?_)))))))))))))
 refine CW.ret ?_
 exact QE.done (.inl rfl) rfl (ResOk.t rfl ResOk.nil) (OImp.sub (List.nil_sublist _)) ⟨rfl, rfl⟩
theorem c_ref15_Valid (wk bg : Int) (f : Bool) : Fn Tryz.prog 49 [(kPair kN6 (kPair kN6 kBool)).is (wk, bg, f)] (kBool.is (decide (optP wk bg))) := by
 refine Con.enter Tryz.func49 rfl rfl fun m w => Cr (WP.bx .n rfl fun b1 => Wa rfl (Wr (Ws (O.fa rfl fld44_0 rfl) (Ws (O.ld (p := kN6.is wk) rfl (mem_at 0 rfl) (Lens.fst Li) ty3 rfl) (Ws (O.ge rfl rfl) (Wm rfl ?_))))))
 refine WP.splitD 6 rfl (fun h_t6 => ?_) (fun h_t6 => ?_)
 ·
  refine WP.s (.g rfl rfl) (O.fa rfl fld44_0 rfl) (WP.s (.g rfl rfl) (O.ld (p := kN6.is wk) rfl (mem_at 0 rfl) (Lens.fst Li) ty3 rfl) (WP.s (.g rfl rfl) (O.le rfl rfl) (Ws (O.pickT rfl rfl) (Wm rfl ?_))))
  refine WP.splitD 11 rfl (fun h_t11 => ?_) (fun h_t11 => ?_)
  ·
   refine WP.s (.g rfl rfl) (O.fa rfl fld44_1 rfl) (WP.s (.g rfl rfl) (O.ld (p := kN6.is bg) rfl (mem_at 0 rfl) (Lens.snd (Lens.fst Li)) ty3 rfl) (WP.s (.g rfl rfl) (O.ge rfl rfl) (Ws (O.pickT rfl rfl) (Wm rfl ?_))))
   refine WP.splitD 16 rfl (fun h_t16 => ?_) (fun h_t16 => ?_)
   ·
    refine WP.s (.g rfl rfl) (O.fa rfl fld44_1 rfl) (WP.s (.g rfl rfl) (O.ld (p := kN6.is bg) rfl (mem_at 0 rfl) (Lens.snd (Lens.fst Li)) ty3 rfl) (WP.s (.g rfl rfl) (O.le rfl rfl) (Ws (O.pickT rfl rfl) (Wa rfl (Wn (CW.ret ?_))))))
    exact QE.done (.inl rfl) rfl (ResOk.tl rfl (is_eq (y := decide (optP wk bg)) (by exact decide_eq_decide.2 (by unfold optP; omega))) ResOk.nil) (OImp.sub (List.nil_sublist _)) ⟨rfl, rfl⟩
   ·
    refine WP.ku (b := false) rfl rfl (WP.ku (b := false) rfl rfl (WP.ku (b := false) rfl rfl (Ws (O.pickF rfl rfl) (Wa rfl (Wn (CW.ret ?_))))))
    exact QE.done (.inl rfl) rfl (ResOk.tl rfl (is_eq (y := decide (optP wk bg)) (by exact (decide_eq_false (by unfold optP; omega)).symm)) ResOk.nil) (OImp.sub (List.nil_sublist _)) ⟨rfl, rfl⟩
  ·
   refine WP.ku (b := false) rfl rfl (WP.ku (b := false) rfl rfl (WP.ku (b := false) rfl rfl (Ws (O.pickF rfl rfl) (Wm rfl (WP.ku (b := false) rfl rfl (WP.ku (b := false) rfl rfl (WP.ku (b := false) rfl rfl (Ws (O.pickF rfl rfl) (Wa rfl (Wn (CW.ret ?_)))))))))))
   exact QE.done (.inl rfl) rfl (ResOk.tl rfl (is_eq (y := decide (optP wk bg)) (by exact (decide_eq_false (by unfold optP; omega)).symm)) ResOk.nil) (OImp.sub (List.nil_sublist _)) ⟨rfl, rfl⟩
 ·
  refine WP.ku (b := false) rfl rfl (WP.ku (b := false) rfl rfl (WP.ku (b := false) rfl rfl (Ws (O.pickF rfl rfl) (Wm rfl (WP.ku (b := false) rfl rfl (WP.ku (b := false) rfl rfl (WP.ku (b := false) rfl rfl (Ws (O.pickF rfl rfl) (Wm rfl (WP.ku (b := false) rfl rfl (WP.ku (b := false) rfl rfl (WP.ku (b := false) rfl rfl (Ws (O.pickF rfl rfl) (Wa rfl (Wn (CW.ret ?_))))))))))))))))
  exact QE.done (.inl rfl) rfl (ResOk.tl rfl (is_eq (y := decide (optP wk bg)) (by exact (decide_eq_false (by unfold optP; omega)).symm)) ResOk.nil) (OImp.sub (List.nil_sublist _)) ⟨rfl, rfl⟩
theorem c_ref16_Check (b : List (List Int)) (wk bg : Int) (f : Bool) : Fn Tryz.prog 11 [kMZ.is b, (kPair kN6 (kPair kN6 kBool)).is (wk, bg, f)] (kN6.is (chk16 b wk bg)) := by
 refine Con.enter Tryz.func11 rfl rfl fun m w => Cr (WP.bx .n rfl fun b1 => Wa rfl (Wr (Wm rfl (Ws (O.fn fn48 (evs.c rfl evs.nil) (c_ref05_Valid b)) (Wa rfl (Wn (CW.seq (Cr (Wm rfl (Ws (O.eq rfl rfl) (Wm rfl ?_)))))))))))
 refine WP.splitD 10 rfl (fun h_t10 => ?_) (fun h_t10 => ?_)
 ·
  refine WP.s (.g rfl rfl) (O.ld (p := (kPair kN6 (kPair kN6 kBool)).is (wk, bg, f)) rfl (mem_at 0 rfl) Li ty44 rfl) (WP.s (.g rfl rfl) (O.fn fn49 (evs.c rfl evs.nil) (c_ref15_Valid wk bg f)) (WP.s (.g rfl rfl) (O.not rfl) (Ws (O.pickT rfl rfl) (Wn ?_))))
  refine CW.cond rfl (fun h_t14 => ?_) (fun h_t14 => ?_)
  ·
   refine Cr (Wa rfl (Wn (CW.ret (QE.thenR (ST.told 4 rfl (is_eq (y := (chk16 b wk bg)) (by unfold chk16; split <;> simp_all)) ?_)))))
   exact QE.done (.inl rfl) rfl (ResOk.t rfl ResOk.nil) (OImp.sub (List.nil_sublist _)) ⟨rfl, rfl⟩
  ·
   refine CW.skip (QE.next (Cr (Wm rfl (Wa rfl (Wn (CW.ret (ST.told 4 rfl (is_eq (y := (chk16 b wk bg)) (by unfold chk16; split <;> simp_all)) ?_)))))))
   exact QE.done (.inl rfl) rfl (ResOk.t rfl ResOk.nil) (OImp.sub (List.nil_sublist _)) ⟨rfl, rfl⟩
 ·
  refine WP.ku (b := false) rfl rfl (WP.ku (b := false) rfl rfl (WP.ku (b := false) rfl rfl (Ws (O.pickF rfl rfl) (Wn (CW.condF rfl (CW.skip (QE.next (Cr (Wm rfl (Wa rfl (Wn (CW.ret (ST.told 4 rfl (is_eq (y := (chk16 b wk bg)) (by unfold chk16; split <;> simp_all)) ?_)))))))))))))
  exact QE.done (.inl rfl) rfl (ResOk.t rfl ResOk.nil) (OImp.sub (List.nil_sublist _)) ⟨rfl, rfl⟩
end Fw
/- Plain facts: forms by their matrices: which may be, their data, their values. -/
set_option linter.unusedVariables false
set_option linter.unusedSimpArgs false
set_option exponentiation.threshold 400
namespace Fw
open Go
def matF (a : List (List Int)) : Nat → Nat → Int := fun i j => (a.getD i []).getD j 0
end Fw
/- Plain facts: Gauss's steps on binary forms. -/
set_option linter.unusedVariables false
set_option linter.unusedSimpArgs false
set_option exponentiation.threshold 400
namespace Fw
open Go
def posF (A B C : Int) : Prop := 0 < A ∧ B * B < 4 * (A * C)
instance (A B C : Int) : Decidable (posF A B C) := by unfold posF; infer_instance
def kF (A B : Int) : Int := (A - B).fdiv (A + A)
def sB (A B : Int) : Int := B + (A * kF A B + A * kF A B)
def sC (A B C : Int) : Int := (A * kF A B + B) * kF A B + C
def redF (A B C : Int) : Prop := A < C ∨ (A = C ∧ 0 ≤ B)
instance (A B C : Int) : Decidable (redF A B C) := by unfold redF; infer_instance
def gFlag (A B : Int) : Nat := if 0 ≤ B ∧ B ≤ A then 0 else 1
theorem sq_nn (x : Int) : 0 ≤ x * x := by
  rcases Int.le_total 0 x with h | h
  · exact Int.mul_nonneg h h
  · exact Int.mul_nonneg_of_nonpos_of_nonpos h h
theorem kF_rng {A B : Int} (hA : 0 < A) : A * kF A B + A * kF A B ≤ A - B ∧ A - B < A * kF A B + A * kF A B + (A + A) := by
  have h1 := Int.fmod_nonneg_of_pos (A - B) (show 0 < A + A by omega)
  have h2 := Int.fmod_lt_of_pos (A - B) (show 0 < A + A by omega)
  have h3 := Int.mul_fdiv_add_fmod (A - B) (A + A)
  have h4 : (A + A) * (A - B).fdiv (A + A) = A * kF A B + A * kF A B := by unfold kF; rw [Int.add_mul]
  omega
theorem sB_rng {A B : Int} (hA : 0 < A) : -A < sB A B ∧ sB A B ≤ A := by
  have := kF_rng (B := B) hA
  unfold sB; omega
theorem disc_s (A B C : Int) : sB A B * sB A B - 4 * (A * sC A B C) = B * B - 4 * (A * C) := by
  unfold sB sC
  generalize kF A B = k
  grind
theorem pos_s {A B C : Int} (h : posF A B C) : sB A B * sB A B < 4 * (A * sC A B C) ∧ 0 < sC A B C := by
  have h1 := disc_s A B C
  have h2 : sB A B * sB A B < 4 * (A * sC A B C) := by have := h.2; omega
  refine ⟨h2, ?_⟩
  have h3 := sq_nn (sB A B)
  rcases Int.lt_or_le 0 (sC A B C) with h4 | h4
  · exact h4
  · have := Int.mul_nonpos_of_nonneg_of_nonpos (Int.le_of_lt h.1) h4
    omega
theorem kF_0 {A B : Int} (hA : 0 < A) (h : 0 ≤ B ∧ B ≤ A) : kF A B = 0 := by
  unfold kF
  rw [Int.fdiv_eq_ediv_of_nonneg _ (by omega)]
  exact Int.ediv_eq_zero_of_lt (by omega) (by omega)
theorem g_dec {A B C : Int} (h : posF A B C ∧ ¬ redF A (sB A B) (sC A B C)) : 2 * (sC A B C).toNat + gFlag (sC A B C) (-(sB A B)) < 2 * A.toNat + gFlag A B := by
  obtain ⟨hp, hr⟩ := h
  obtain ⟨h1, h2⟩ := pos_s hp
  have hA := hp.1
  have h3 := sB_rng (B := B) hA
  unfold redF at hr
  by_cases hc : sC A B C < A
  · have h4 : gFlag (sC A B C) (-(sB A B)) ≤ 1 := by unfold gFlag; split <;> omega
    omega
  · have h5 : A = sC A B C := by omega
    have h6 : sB A B < 0 := by omega
    have h7 : gFlag (sC A B C) (-(sB A B)) = 0 := by unfold gFlag; rw [if_pos (by omega)]
    have h8 : gFlag A B = 1 := by
      unfold gFlag
      rw [if_neg]
      intro h9
      have := kF_0 hA h9
      have h10 : sB A B = B := by unfold sB; rw [this]; omega
      omega
    omega
def gs (A B C x y z t : Int) : (Int × Int × Int) × List Int :=
  if h : posF A B C ∧ ¬ redF A (sB A B) (sC A B C) then gs (sC A B C) (-(sB A B)) A (y + x * kF A B) (-x) (t + z * kF A B) (-z)
  else ((A, sB A B, sC A B C), [x, y + x * kF A B, z, t + z * kF A B])
termination_by 2 * A.toNat + gFlag A B
decreasing_by exact g_dec h
def g1 (A B C : Int) : Int × Int × Int := (gs A B C 1 0 0 1).1
end Fw
/- Plain facts: what the functions on binary forms answer. -/
set_option linter.unusedVariables false
set_option linter.unusedSimpArgs false
set_option exponentiation.threshold 400
namespace Fw
open Go
end Fw
/- Gauss on binary forms: what the functions answer. -/
set_option linter.unusedVariables false
set_option linter.unusedSimpArgs false
set_option exponentiation.threshold 400
set_option maxRecDepth 20000
set_option maxHeartbeats 1000000
namespace Fw
open Go Go.Proofs
end Fw
/- Forms by their matrices: what the program answers. -/
set_option linter.unusedVariables false
set_option linter.unusedSimpArgs false
set_option exponentiation.threshold 400
set_option maxRecDepth 20000
set_option maxHeartbeats 1000000
namespace Fw
open Go Go.Proofs
end Fw
/- Plain facts: products of rows as a form. -/
set_option linter.unusedVariables false
set_option linter.unusedSimpArgs false
set_option exponentiation.threshold 400
namespace Fw
open Go
theorem map_take_app {α β : Type} {l : List α} {F : α → β} {d : α} {i : Nat} (h : i < l.length) : (l.take i).map F ++ [F (l.getD i d)] = (l.take (i + 1)).map F := by
  rw [← take_app (d := d) h, List.map_append]; rfl
def sumN (f : Nat → Int) : Nat → Int
  | 0 => 0
  | n + 1 => sumN f n + f n
theorem sumN_congr {f g : Nat → Int} : ∀ {n}, (∀ i, i < n → f i = g i) → sumN f n = sumN g n
  | 0, _ => rfl
  | n + 1, h => by rw [sumN, sumN, sumN_congr (fun i hi => h i (by omega)), h n (by omega)]
theorem mul_sumN (f : Nat → Int) (c : Int) : ∀ n, c * sumN f n = sumN (fun i => c * f i) n
  | 0 => by simp [sumN]
  | n + 1 => by rw [sumN, sumN, Int.mul_add, mul_sumN f c n]
theorem sumN_add (f g : Nat → Int) : ∀ n, sumN (fun i => f i + g i) n = sumN f n + sumN g n
  | 0 => rfl
  | n + 1 => by simp only [sumN]; rw [sumN_add f g n]; omega
theorem sumN_zero : ∀ n, sumN (fun _ => 0) n = 0
  | 0 => rfl
  | n + 1 => by rw [sumN, sumN_zero n]; rfl
theorem dotN_sum (u v : List Int) : ∀ n, dotN u v n = sumN (fun k => u.getD k 0 * v.getD k 0) n
  | 0 => rfl
  | n + 1 => by rw [dotN, sumN, dotN_sum u v n]
theorem getD_map {α β : Type} (F : α → β) (l : List α) (d : α) (e : β) {i : Nat} (h : i < l.length) : (l.map F).getD i e = F (l.getD i d) := by
  rw [gde _ e (by simpa using h), gde _ d h]; simp
theorem slslC_Z {xs : List (List Int)} (h : ∀ r ∈ xs, ∀ x ∈ r, Sm x) : VP.le (kMC.is xs) (kMZ.is xs) :=
  is_kd rfl fun m cs hx => sl_kd (f := fun r s => r = s ∧ ∀ x ∈ r, Sm x) (fun m cs r s hrs hr => by
    obtain ⟨rfl, h2⟩ := hrs
    exact sl_kd (f := fun x y => x = y ∧ Sm x) (fun m cs x y hxy hx => by obtain ⟨rfl, h4⟩ := hxy; exact kC_Zat h4 hx) (F2.same h2) hr) (F2.same h) hx
theorem SzM_mem {n b} (h : SzM n b) {r : List Int} (hr : r ∈ b) : SzL n r := by
  obtain ⟨i, hi, rfl⟩ := mem_getD [] hr
  exact h i
theorem SzM.sm {n b} (h : SzM n b) (hn : n ≤ 549755813888) : ∀ r ∈ b, ∀ x ∈ r, Sm x := fun r hr => (SzM_mem h hr).sm hn
end Fw
/- Values of forms; products of rows; QuadRows. -/
set_option linter.unusedVariables false
set_option linter.unusedSimpArgs false
set_option exponentiation.threshold 400
set_option maxRecDepth 20000
set_option maxHeartbeats 1000000
namespace Fw
open Go Go.Proofs
theorem c_mat_eachRR (fid : FuncId) (caps : List VP) (F : List Int → List Int) (l : List (List Int)) (hok : FnOk Tryz.prog fid) (hF : ∀ x, x ∈ l → Fn Tryz.prog fid (kVZ.is x :: caps) (kVC.is (F x))) : Fn Tryz.prog 223 [kMZ.is l, VP.clo fid caps] (kMC.is (l.map F)) := by
 refine Con.enter Tryz.func223 rfl rfl fun m w => ST.fact (i := 0) rfl sl_len fun hB => Cr (Wa rfl (Wr (Wm rfl (Ws (O.lenS rfl U22) (WP.mk0 l.length .n rfl rfl rfl (by omega) U22 el23_sl_C z23_sl_C fun v1 => Wa rfl (Wn (CW.seq (Cr (Wm rfl (Ws (O.lenS rfl U22) (Wm rfl (Wn (CW.block ?_)))))))))))))
 refine CW.loop2 (fun (i : Nat) (v : Value) => i ≤ l.length) (fun (i : Nat) (v : Value) => [(0, kMZ.is l), (1, VP.clo fid caps), (5, VP.ex v), (11, kMZ.is l), (12, kN6.is (l.length : Int)), (13, kN6.is (i : Int))]) (fun (i : Nat) (v : Value) => [OB.row v 23 kVC ((l.take i).map F)]) (fun (i : Nat) (v : Value) => l.length - i) 0 v1 (by omega) (Imp.c4 rfl rfl rfl rfl (Imp.cons rfl (Imp.consLe rfl (is_eq (y := (0 : Int)) (by rfl)) Imp.nil))) (OImp.os (OS.keepLe (OB.row_eq (by rfl)) OS.nil)) ?_
 intro i v hi
 refine Cr (Ws (O.lt rfl rfl) (Wn (CW.seq ?_)))
 refine CW.condD rfl (fun h_t14 => ?_) (fun h_t14 => ?_)
 ·
  refine CW.skip (QE.next (CW.seq (CW.block (Cr (Ws (O.ix i rfl rfl U22 ty23 rfl (v := (l.getD i [])) (gd [] (by omega))) (Ws (O.ldP rfl ty23) (Wa rfl (Wn (CW.region (Wm rfl (Wm rfl (Wm rfl (Ws (O.clo rfl hok (evs.c rfl evs.nil) (hF _ (getD_mem [] (by omega)))) (Ws (O.bs U22 el23_sl_C (evl.c rfl evl.n) rfl (by decide)) (WP.ap 0 .n rfl rfl rfl Lr U22 el23_sl_C (by simp; omega) fun v2 => Wa rfl (WP.nil (QE.blkN (QE.next (CW.region (Ws (O.add rfl rfl (c := ((i : Int) + 1)) (w64 (by omega))) ?_))))))))))))))))))))
  refine Wm rfl (WP.nil (ST.obtold 0 rfl (OB.row_eq (ys := ((l.take (i + 1)).map F)) (map_take_app (by omega))) ?_))
  exact QE.round2 (i + 1) v2 (by omega) (by omega) (Imp.c4 rfl rfl rfl rfl (Imp.cons rfl (Imp.consLe rfl (is_eq (y := (((i + 1) : Nat) : Int)) (by rfl)) Imp.nil))) (OImp.refl _)
 ·
  refine CW.exit (QE.thenE (QE.thenE (QE.blkH (QE.next (Cr (Wm rfl (Wa rfl (Wn (CW.ret (ST.freeze 0 rfl (kp 0 rfl (kp 1 rfl (.hit (i := 4) rfl (.hit (i := 5) rfl (kp 11 rfl (kp 12 rfl (kp 13 rfl (kp 14 rfl (.hit (i := 24) rfl .nil))))))))) (ST.told 4 rfl (is_eq (y := (l.map F)) (by rw [List.take_of_length_le (by omega)])) ?_)))))))))))
  exact QE.done (.inl rfl) rfl (ResOk.t rfl ResOk.nil) (OImp.sub (List.nil_sublist _)) ⟨rfl, rfl⟩
end Fw
/- Plain facts: Gram-Schmidt data when a row grows by another one, and when two rows are exchanged. -/
set_option linter.unusedVariables false
set_option linter.unusedSimpArgs false
set_option exponentiation.threshold 400
namespace Fw
open Go
theorem gsE_succ (G : Nat → Nat → Rat) (k x y) : gsE G (k + 1) x y = gsE G k x y - gsE G k x k * gsE G k k y / gsE G k k k := rfl
def cI (i : Nat) (t : Rat) (x : Nat) : Rat := if x = i then t else 0
theorem cI_ne {i x t} (h : x ≠ i) : cI i t x = 0 := if_neg h
theorem cI_eq {i t} : cI i t i = t := if_pos rfl
def rowQ (G : Nat → Nat → Rat) (i j : Nat) (t : Rat) : Nat → Nat → Rat := fun x y => G x y + cI i t x * G j y + cI i t y * G x j + cI i t x * cI i t y * G j j
theorem gsE_row {G : Nat → Nat → Rat} {i j : Nat} {t : Rat} (hij : j < i) : ∀ k, k ≤ j → (∀ l, l < k → gsE G l l l ≠ 0) → ∀ x y, gsE (rowQ G i j t) k x y = gsE G k x y + cI i t x * gsE G k j y + cI i t y * gsE G k x j + cI i t x * cI i t y * gsE G k j j
  | 0, _, _, x, y => rfl
  | k + 1, hk, hn, x, y => by
    have ih := gsE_row (G := G) (t := t) hij k (by omega) (fun l hl => hn l (by omega))
    have h0 := hn k (by omega)
    have ck : cI i t k = 0 := cI_ne (by omega)
    rw [gsE_succ, ih x y, ih x k, ih k y, ih k k, ck, gsE_succ, gsE_succ, gsE_succ, gsE_succ]
    grind
theorem gsE_row_hi {G : Nat → Nat → Rat} {i j : Nat} {t : Rat} (hij : j < i) : ∀ k, j < k → (∀ l, l < k → gsE G l l l ≠ 0) → ∀ x y, gsE (rowQ G i j t) k x y = gsE G k x y
  | 0, hk, _, x, y => absurd hk (by omega)
  | k + 1, hk, hn, x, y => by
    by_cases e : j = k
    · subst e
      have ih := gsE_row (G := G) (t := t) hij j (Nat.le_refl _) (fun l hl => hn l (by omega))
      have h0 := hn j (by omega)
      have cj : cI i t j = 0 := cI_ne (by omega)
      rw [gsE_succ, ih x y, ih x j, ih j y, ih j j, cj, gsE_succ]
      grind
    · have ih := gsE_row_hi (G := G) (t := t) hij k (by omega) (fun l hl => hn l (by omega))
      rw [gsE_succ, ih x y, ih x k, ih k y, ih k k, gsE_succ]
theorem gsE_row_piv {G : Nat → Nat → Rat} {i j : Nat} {t : Rat} (hij : j < i) (k : Nat) (hn : ∀ l, l < k → gsE G l l l ≠ 0) : gsE (rowQ G i j t) k k k = gsE G k k k := by
  by_cases h : k ≤ j
  · rw [gsE_row hij k h hn, cI_ne (show k ≠ i by omega)]; grind
  · exact gsE_row_hi hij k (by omega) hn k k
theorem gsD_row {G : Nat → Nat → Rat} {i j : Nat} {t : Rat} (hij : j < i) : ∀ k, (∀ l, l < k → gsE G l l l ≠ 0) → gsD (rowQ G i j t) k = gsD G k
  | 0, _ => rfl
  | k + 1, hn => by
    show gsD (rowQ G i j t) k * gsE (rowQ G i j t) k k k = gsD G k * gsE G k k k
    rw [gsD_row hij k (fun l hl => hn l (by omega)), gsE_row_piv hij k (fun l hl => hn l (by omega))]
def sg (p x : Nat) : Nat := if x = p then p + 1 else if x = p + 1 then p else x
theorem sg_p (p) : sg p p = p + 1 := if_pos rfl
theorem sg_q (p) : sg p (p + 1) = p := by unfold sg; rw [if_neg (by omega), if_pos rfl]
theorem sg_ne {p x} (h : x ≠ p) (h2 : x ≠ p + 1) : sg p x = x := by unfold sg; rw [if_neg h, if_neg h2]
def swpQ (G : Nat → Nat → Rat) (p : Nat) : Nat → Nat → Rat := fun x y => G (sg p x) (sg p y)
theorem gsE_swp_lo {G : Nat → Nat → Rat} {p : Nat} : ∀ k, k ≤ p → ∀ x y, gsE (swpQ G p) k x y = gsE G k (sg p x) (sg p y)
  | 0, _, x, y => rfl
  | k + 1, hk, x, y => by
    have ih := gsE_swp_lo (G := G) (p := p) k (by omega)
    rw [gsE_succ, ih x y, ih x k, ih k y, ih k k, gsE_succ, sg_ne (show k ≠ p by omega) (by omega)]
theorem gsE_swp_1 {G : Nat → Nat → Rat} {p : Nat} (x y) : gsE (swpQ G p) (p + 1) x y = gsE G p (sg p x) (sg p y) - gsE G p (sg p x) (p + 1) * gsE G p (p + 1) (sg p y) / gsE G p (p + 1) (p + 1) := by
  rw [gsE_succ, gsE_swp_lo p (Nat.le_refl _), gsE_swp_lo p (Nat.le_refl _), gsE_swp_lo p (Nat.le_refl _), gsE_swp_lo p (Nat.le_refl _), sg_p]
theorem inv_div {D c : Rat} (hc : c ≠ 0) (hD : D ≠ 0) : (D / c)⁻¹ = c / D := Rat.inv_eq_of_mul_eq_one (by grind)
theorem schur2_ring (A x1 x2 y1 y2 a b c u v w : Rat) (hu : c * u = 1) (hv : a * v = 1) (hw : (a * c - b * b) * w = 1) : A - x2 * y2 * u - (x1 - x2 * b * u) * (y1 - b * y2 * u) * (c * w) = A - x1 * y1 * v - (x2 - x1 * b * v) * (y2 - b * y1 * v) * (a * w) := by
  grind
theorem schur2 {A x1 x2 y1 y2 a b c : Rat} (h1 : a ≠ 0) (h2 : c ≠ 0) (h3 : c - b * b / a ≠ 0) : A - x2 * y2 / c - (x1 - x2 * b / c) * (y1 - b * y2 / c) / (a - b * b / c) = A - x1 * y1 / a - (x2 - x1 * b / a) * (y2 - b * y1 / a) / (c - b * b / a) := by
  have h4 : a * c - b * b ≠ 0 := by
    intro e
    apply h3
    have : c - b * b / a = (a * c - b * b) / a := by grind
    rw [this, e]; grind
  have e1 : a - b * b / c = (a * c - b * b) / c := by grind
  have e2 : c - b * b / a = (a * c - b * b) / a := by grind
  have i1 := inv_div h2 h4
  have i2 := inv_div h1 h4
  have hw : (a * c - b * b) * (a * c - b * b)⁻¹ = 1 := Rat.mul_inv_cancel _ h4
  have hu : c * c⁻¹ = 1 := Rat.mul_inv_cancel _ h2
  have hv : a * a⁻¹ = 1 := Rat.mul_inv_cancel _ h1
  have key := schur2_ring A x1 x2 y1 y2 a b c c⁻¹ a⁻¹ (a * c - b * b)⁻¹ hu hv hw
  rw [e1, e2, Rat.div_def _ ((a * c - b * b) / c), Rat.div_def _ ((a * c - b * b) / a), i1, i2]
  simp only [Rat.div_def]
  exact key
theorem gsE_swp_2 {G : Nat → Nat → Rat} {p : Nat} (hs : ∀ i j, G i j = G j i) (h1 : gsE G p p p ≠ 0) (h2 : gsE G p (p + 1) (p + 1) ≠ 0) (h3 : gsE G (p + 1) (p + 1) (p + 1) ≠ 0) {x y} (hx : p + 1 < x) (hy : p + 1 < y) : gsE (swpQ G p) (p + 2) x y = gsE G (p + 2) x y := by
  have s := gsE_sym hs p
  rw [gsE_succ (swpQ G p) (p + 1), gsE_swp_1, gsE_swp_1, gsE_swp_1, gsE_swp_1, sg_q, sg_ne (show x ≠ p by omega) (by omega), sg_ne (show y ≠ p by omega) (by omega)]
  rw [gsE_succ] at h3
  rw [gsE_succ G (p + 1), gsE_succ G p, gsE_succ G p, gsE_succ G p, gsE_succ G p]
  rw [s p (p + 1)] at h3
  rw [s p y, s (p + 1) y, s p (p + 1)]
  generalize gsE G p x y = A at *
  generalize gsE G p x p = x1 at *
  generalize gsE G p x (p + 1) = x2 at *
  generalize gsE G p y p = y1 at *
  generalize gsE G p y (p + 1) = y2 at *
  generalize gsE G p p p = a at *
  generalize gsE G p (p + 1) p = b at *
  generalize gsE G p (p + 1) (p + 1) = c at *
  exact schur2 h1 h2 h3
theorem gsE_swp_hi {G : Nat → Nat → Rat} {p : Nat} (hs : ∀ i j, G i j = G j i) (h1 : gsE G p p p ≠ 0) (h2 : gsE G p (p + 1) (p + 1) ≠ 0) (h3 : gsE G (p + 1) (p + 1) (p + 1) ≠ 0) : ∀ k, p + 2 ≤ k → ∀ x y, k ≤ x → k ≤ y → gsE (swpQ G p) k x y = gsE G k x y
  | 0, hk, _, _, _, _ => absurd hk (by omega)
  | k + 1, hk, x, y, hx, hy => by
    by_cases e : k = p + 1
    · subst e; exact gsE_swp_2 hs h1 h2 h3 (by omega) (by omega)
    · have ih := gsE_swp_hi hs h1 h2 h3 k (by omega)
      rw [gsE_succ, ih x y (by omega) (by omega), ih x k (by omega) (Nat.le_refl _), ih k y (Nat.le_refl _) (by omega), ih k k (Nat.le_refl _) (Nat.le_refl _), gsE_succ]
end Fw
