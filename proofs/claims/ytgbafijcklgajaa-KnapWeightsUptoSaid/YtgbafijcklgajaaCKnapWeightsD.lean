/- Proved: KnapWeights, for every input of bulk at most 1048576; no other condition. -/
import Derived.Test.YtgbafijcklgajaaCKnapWeightsC
/- What Floor of layer 2 answers. -/
set_option linter.unusedVariables false
set_option linter.unusedSimpArgs false
set_option exponentiation.threshold 70
namespace Fw
open Go Go.Proofs

set_option maxRecDepth 20000 in
set_option maxHeartbeats 8000000 in
theorem c_zint_Floor (x y : Int) : Fn Try.prog 105 [kZ.is x, kZ.is y] (VP.tup [kC.is (x.fdiv y), kC.is (if y = 0 then 0 else x.fmod y), (kInt .i64).is (if y = 0 then 11 else 0)]) := by
  refine Con.enter Try.func105 rfl rfl fun m w => ?_
  refine ST.fact (i := 0) rfl kZ_sm fun hsx => ?_
  refine ST.z 0 rfl fun p p_v p_n p_l => ?_
  refine ST.z 1 rfl fun q q_v q_n q_l => ?_
  refine CW.seq ?_
  refine CW.region ?_
  refine WP.bx .n rfl fun b1 => ?_
  refine WP.bx .n rfl fun b2 => ?_
  refine WP.al .n z31_C fun b3 => ?_
  refine WP.al .n z31_C fun b4 => ?_
  refine WP.s .n (O.asg rfl) ?_
  refine WP.nil ?_
  refine QE.next ?_
  refine CW.seq ?_
  refine CW.region ?_
  refine WP.s .n (O.fa rfl fld31_1 rfl) ?_
  refine WP.s .n (O.ld rfl (mem_at 3 rfl) (Lens.snd (Lens.id _)) ty29 rfl) ?_
  refine WP.s .n (O.fa rfl fld31_1 rfl) ?_
  refine WP.s .n (O.ld rfl (mem_at 2 rfl) (Lens.snd (Lens.id _)) ty29 rfl) ?_
  refine WP.s .n (O.fn fn169 (evs.c rfl (evs.c rfl evs.nil)) (c_nat_Div p.2 q.2 (by omega) (by omega))) ?_
  refine WP.s .n (O.mv rfl) ?_
  refine WP.s .n (O.ext rfl rfl) ?_
  refine WP.s .n (O.ext rfl rfl) ?_
  refine WP.s .n (O.ext rfl rfl) ?_
  refine WP.s .n (O.asg rfl) ?_
  refine WP.s .n (O.asg rfl) ?_
  refine WP.s .n (O.asg rfl) ?_
  refine WP.nil ?_
  refine QE.next ?_
  refine CW.seq ?_
  refine CW.seq ?_
  refine CW.region ?_
  refine WP.s .n (O.mv rfl) ?_
  refine WP.s .n (O.ne rfl rfl) ?_
  refine WP.nil ?_
  refine QE.next ?_
  refine CW.condD rfl (fun h_t22 => ?_) (fun h_t22 => ?_)
  · have hq0 : nval q.2 = 0 := by by_cases h : nval q.2 = 0; exact h; simp [h] at h_t22
    have hy : y = 0 := by rw [← q_v, ival0 hq0]
    refine CW.seq ?_
    refine CW.region ?_
    refine WP.s .n (O.bld lit31_C rfl evp.n (.nil _)) ?_
    refine WP.s .n (O.bld lit31_C rfl evp.n (.nil _)) ?_
    refine WP.t .n (O.stW (l := kC) (u := 0) 1 rfl rfl rfl ty31 rfl (VP.le_refl _)) ?_
    refine WP.t .n (O.stW (l := kC) (u := 0) 0 rfl rfl rfl ty31 rfl (VP.le_refl _)) ?_
    refine WP.s .n (O.asg rfl) ?_
    refine WP.nil ?_
    refine QE.next ?_
    refine CW.ret ?_
    refine QE.thenR ?_
    refine ST.obtold 1 rfl (OB.box_eq (y := (x.fdiv y)) (by rw [hy, Int.fdiv_zero])) ?_
    refine ST.obtold 0 rfl (OB.box_eq (y := (if y = 0 then 0 else x.fmod y)) (by rw [if_pos hy])) ?_
    refine ST.told 6 rfl (is_eq (y := (if y = 0 then 11 else 0)) (by rw [if_pos hy])) ?_
    exact QE.done (.inl rfl) rfl (ResOk.c rfl (mem_at 1 rfl) ty31 (ResOk.c rfl (mem_at 0 rfl) ty31 (ResOk.t rfl ResOk.nil))) (OImp.sub (List.nil_sublist _)) ⟨rfl, rfl⟩
  · have hq0 : nval q.2 ≠ 0 := fun h => by simp [h] at h_t22
    have hy : y ≠ 0 := fun h => by rw [← q_v] at h; have := ival_abs q; rw [h] at this; exact hq0 this.symm
    refine CW.skip ?_
    refine QE.next ?_
    refine CW.seq ?_
    refine CW.draw (Γ := [.fr (VP.ex (.pointer (some ⟨b1, 0, none⟩))), .fr (kBool.is p.1), .fr (VP.ex (.pointer (some ⟨b2, 0, none⟩))), .fr (kBool.is q.1), .fr (kBool.is (decide (p.1 ≠ q.1))), .fr (kN.is (limbs (nval p.2 / nval q.2))), .fr (kC.is (ival ((decide (p.1 ≠ q.1)), (limbs (nval p.2 / nval q.2))))), .fr (VP.ex (.pointer (some ⟨b1, 0, none⟩))), .fr (kBool.is p.1), .fr (kN.is (if nval q.2 = 0 then [] else limbs (nval p.2 % nval q.2))), .fr (kC.is (ival (p.1, (if nval q.2 = 0 then [] else limbs (nval p.2 % nval q.2))))), .al (fun b => OB.box b 31 kC 0), .al (fun b => OB.box b 31 kC 0)]) (lates := [false, false, false, false, false, false, false, false, false, false, false, false, false]) (by kernel_rfl) (Chk.of rfl (by kernel_rfl) rfl) (fun _ _ _ _ _ h => h) (fun q_ x_ h_ => ?_) (fun σ => ?_)
    · match q_, h_ with
      | 0, h_ => cases h_; exact Ob.f rfl .n fun N => (O.fa rfl fld31_0 rfl)
      | 1, h_ => cases h_; exact Ob.f rfl .n fun N => (O.ld rfl (mem_app N (mem_at 3 rfl)) (Lens.fst (Lens.id _)) ty4 rfl)
      | 2, h_ => cases h_; exact Ob.f rfl .n fun N => (O.fa rfl fld31_0 rfl)
      | 3, h_ => cases h_; exact Ob.f rfl .n fun N => (O.ld rfl (mem_app N (mem_at 2 rfl)) (Lens.fst (Lens.id _)) ty4 rfl)
      | 4, h_ => cases h_; exact Ob.f rfl .n fun N => (O.neB rfl rfl Try.underlying4)
      | 5, h_ => cases h_; exact Ob.f rfl .n fun N => (O.mv rfl)
      | 6, h_ => cases h_; exact Ob.f rfl .n fun N => (O.fn fn147 (evs.c rfl (evs.c rfl evs.nil)) (c_zint_made (decide (p.1 ≠ q.1)) (limbs (nval p.2 / nval q.2))))
      | 7, h_ => cases h_; exact Ob.f rfl .n fun N => (O.fa rfl fld31_0 rfl)
      | 8, h_ => cases h_; exact Ob.f rfl .n fun N => (O.ld rfl (mem_app N (mem_at 3 rfl)) (Lens.fst (Lens.id _)) ty4 rfl)
      | 9, h_ => cases h_; exact Ob.f rfl .n fun N => (O.mv rfl)
      | 10, h_ => cases h_; exact Ob.f rfl .n fun N => (O.fn fn147 (evs.c rfl (evs.c rfl evs.nil)) (c_zint_made p.1 (if nval q.2 = 0 then [] else limbs (nval p.2 % nval q.2))))
      | 11, h_ => cases h_; exact Ob.a rfl z31_C
      | 12, h_ => cases h_; exact Ob.a rfl z31_C
      | n_ + 13, h_ => simp at h_
    refine WP.t .n (O.stW (l := kC) (u := ival ((decide (p.1 ≠ q.1)), (limbs (nval p.2 / nval q.2)))) 0 rfl rfl rfl ty31 rfl (VP.le_refl _)) ?_
    refine WP.t .n (O.stW (l := kC) (u := ival (p.1, (if nval q.2 = 0 then [] else limbs (nval p.2 % nval q.2)))) 1 rfl rfl rfl ty31 rfl (VP.le_refl _)) ?_
    refine WP.nil ?_
    refine QE.next ?_
    refine CW.seq ?_
    refine CW.seq ?_
    obtain ⟨M, hM⟩ : ∃ M, M = ival (decide (p.1 ≠ q.1), limbs (nval p.2 / nval q.2)) := ⟨_, rfl⟩
    obtain ⟨R, hR⟩ : ∃ R, R = ival (p.1, if nval q.2 = 0 then [] else limbs (nval p.2 % nval q.2)) := ⟨_, rfl⟩
    refine ST.obtold 0 rfl (OB.box_eq (y := M) hM.symm) ?_
    refine ST.obtold 1 rfl (OB.box_eq (y := R) hR.symm) ?_
    have hx : x = M * y + R := by rw [← p_v, ← q_v, hM, hR]; exact div_split hq0
    have hl : R.natAbs < y.natAbs := by rw [← q_v, hR]; exact rem_lt hq0
    have hsM : Sm M := Sm_le hsx (by rw [hM, ← p_v, ival_abs, ival_abs, nval_limbs]; exact Nat.div_le_self _ _)
    have hsR : Sm R := Sm_le hsx (by rw [hR, ← p_v, ival_abs, ival_abs, if_neg hq0, nval_limbs]; exact Nat.mod_le _ _)
    have hs1 : Sm 1 := Sm_lit (by decide)
    by_cases h5 : R.sign ≠ 0
    · refine CW.draw (Γ := [.fr (kC.is R), .fr ((kInt .i64).is R.sign), .fr (kBool.is true), .fr (kBool.is true), .fr (kC.is R), .fr ((kInt .i64).is R.sign), .fr (kI.is (q.1, q.2)), .fr ((kInt .i64).is ((ival (q.1, q.2)).sign)), .fr (kBool.is (decide (R.sign ≠ ((ival (q.1, q.2)).sign)))), .fr (kBool.is (decide (R.sign ≠ ((ival (q.1, q.2)).sign))))]) (lates := [false, false, false, false, false, false, false, false, false, false]) (by kernel_rfl) (Chk.of rfl (by kernel_rfl) rfl) (fun _ _ _ _ _ h => h) (fun q_ x_ h_ => ?_) (fun σ => ?_)
      · match q_, h_ with
        | 0, h_ => cases h_; exact Ob.f rfl .n fun N => (O.ld rfl (mem_app N (mem_at 1 rfl)) (Lens.id _) ty31 rfl)
        | 1, h_ => cases h_; exact Ob.f rfl .n fun N => (O.fn fn80 (evs.l rfl (kC_Z (by assumption)) evs.nil) (c_zint_Sign R))
        | 2, h_ => cases h_; exact Ob.f rfl .n fun N => (OpOk.le (O.ne rfl rfl) (is_eq (by simp [h5])))
        | 3, h_ => cases h_; exact Ob.f rfl .n fun N => (O.mv rfl)
        | 4, h_ => cases h_; exact Ob.f rfl (.g rfl rfl) fun N => (O.ld rfl (mem_app N (mem_at 1 rfl)) (Lens.id _) ty31 rfl)
        | 5, h_ => cases h_; exact Ob.f rfl (.g rfl rfl) fun N => (O.fn fn80 (evs.l rfl (kC_Z (by assumption)) evs.nil) (c_zint_Sign R))
        | 6, h_ => cases h_; exact Ob.f rfl (.g rfl rfl) fun N => (O.ld rfl (mem_app N (mem_at 4 rfl)) (Lens.id _) ty31 rfl)
        | 7, h_ => cases h_; exact Ob.f rfl (.g rfl rfl) fun N => (O.fn fn80 (evs.l rfl (kI_Z rfl (by omega)) evs.nil) (c_zint_Sign (ival (q.1, q.2))))
        | 8, h_ => cases h_; exact Ob.f rfl (.g rfl rfl) fun N => (O.ne rfl rfl)
        | 9, h_ => cases h_; exact Ob.f rfl .n fun N => (O.pickT rfl rfl)
        | n_ + 10, h_ => simp at h_
      refine WP.nil ?_
      refine QE.next ?_
      refine CW.condD rfl (fun h_t45 => ?_) (fun h_t45 => ?_)
      · refine CW.draw (Γ := [.fr (kC.is M), .fr (kC.is 1), .fr (kC.is (M - 1)), .fr (kC.is R), .fr (kI.is (q.1, q.2)), .fr (kC.is (R + (ival (q.1, q.2))))]) (lates := [false, false, false, false, false, false]) (by kernel_rfl) (Chk.of rfl (by kernel_rfl) rfl) (fun _ _ _ _ _ h => h) (fun q_ x_ h_ => ?_) (fun σ => ?_)
        · match q_, h_ with
          | 0, h_ => cases h_; exact Ob.f rfl .n fun N => (O.ld rfl (mem_app N (mem_at 0 rfl)) (Lens.id _) ty31 rfl)
          | 1, h_ => cases h_; exact Ob.f rfl .n fun N => (O.fn fn74 (evs.l rfl (i64_int (by omega)) evs.nil) (c_zint_Of 1))
          | 2, h_ => cases h_; exact Ob.f rfl .n fun N => (O.fn fn157 (evs.l rfl (kC_Z (by assumption)) (evs.l rfl (kC_Z (by assumption)) evs.nil)) (c_zint_Sub M 1))
          | 3, h_ => cases h_; exact Ob.f rfl .n fun N => (O.ld rfl (mem_app N (mem_at 1 rfl)) (Lens.id _) ty31 rfl)
          | 4, h_ => cases h_; exact Ob.f rfl .n fun N => (O.ld rfl (mem_app N (mem_at 4 rfl)) (Lens.id _) ty31 rfl)
          | 5, h_ => cases h_; exact Ob.f rfl .n fun N => (O.fn fn77 (evs.l rfl (kC_Z (by assumption)) (evs.l rfl (kI_Z rfl (by omega)) evs.nil)) (c_zint_Add R (ival (q.1, q.2))))
          | n_ + 6, h_ => simp at h_
        refine WP.t .n (O.stW (l := kC) (u := M - 1) 0 rfl rfl rfl ty31 rfl (VP.le_refl _)) ?_
        refine WP.t .n (O.stW (l := kC) (u := R + (ival (q.1, q.2))) 1 rfl rfl rfl ty31 rfl (VP.le_refl _)) ?_
        refine WP.nil ?_
        refine QE.next ?_
        refine CW.seq ?_
        refine CW.any (by kernel_rfl) ?_
        refine DA.go 0 [1] (by kernel_rfl) ⟨?_, ⟨?_, trivial⟩⟩
        · refine DO.s rfl .n (O.ld rfl (mem_at 0 rfl) (Lens.id _) ty31 rfl) ?_
          refine DA.go 1 [2] (by kernel_rfl) ⟨?_, ⟨?_, trivial⟩⟩
          · refine DO.s rfl .n (O.ld rfl (mem_at 1 rfl) (Lens.id _) ty31 rfl) ?_
            refine DA.go 2 [] (by kernel_rfl) ⟨?_, trivial⟩
            refine DO.t rfl .n (O.stW (l := kC) (u := M - 1) 3 rfl rfl rfl ty31 rfl (VP.le_refl _)) ?_
            refine DA.go 3 [] (by kernel_rfl) ⟨?_, trivial⟩
            refine DO.t rfl .n (O.stW (l := kC) (u := R + (ival (q.1, q.2))) 2 rfl rfl rfl ty31 rfl (VP.le_refl _)) ?_
            refine DA.go 4 [] (by kernel_rfl) ⟨?_, trivial⟩
            refine DO.s rfl .n (O.asg rfl) ?_
            refine DA.nil (by kernel_rfl) ?_
            refine QE.next ?_
            refine CW.ret ?_
            have hf := floor_2 hx hl h5 (by rw [← q_v]; exact h_t45)
            refine ST.obtold 3 rfl (OB.box_eq (y := (x.fdiv y)) hf.1) ?_
            refine ST.obtold 2 rfl (OB.box_eq (y := (if y = 0 then 0 else x.fmod y)) (by rw [if_neg hy, q_v]; exact hf.2)) ?_
            refine ST.told 6 rfl (is_eq (y := (if y = 0 then 11 else 0)) (by rw [if_neg hy])) ?_
            exact QE.done (.inl rfl) rfl (ResOk.c rfl (mem_at 3 rfl) ty31 (ResOk.c rfl (mem_at 2 rfl) ty31 (ResOk.t rfl ResOk.nil))) (OImp.sub (List.nil_sublist _)) ⟨rfl, rfl⟩
          · refine DO.t rfl .n (O.stW (l := kC) (u := M - 1) 3 rfl rfl rfl ty31 rfl (VP.le_refl _)) ?_
            refine DA.go 1 [] (by kernel_rfl) ⟨?_, trivial⟩
            refine DO.s rfl .n (O.ld rfl (mem_at 1 rfl) (Lens.id _) ty31 rfl) ?_
            refine DA.go 3 [] (by kernel_rfl) ⟨?_, trivial⟩
            refine DO.t rfl .n (O.stW (l := kC) (u := R + (ival (q.1, q.2))) 2 rfl rfl rfl ty31 rfl (VP.le_refl _)) ?_
            refine DA.go 4 [] (by kernel_rfl) ⟨?_, trivial⟩
            refine DO.s rfl .n (O.asg rfl) ?_
            refine DA.nil (by kernel_rfl) ?_
            refine QE.next ?_
            refine CW.ret ?_
            have hf := floor_2 hx hl h5 (by rw [← q_v]; exact h_t45)
            refine ST.obtold 3 rfl (OB.box_eq (y := (x.fdiv y)) hf.1) ?_
            refine ST.obtold 2 rfl (OB.box_eq (y := (if y = 0 then 0 else x.fmod y)) (by rw [if_neg hy, q_v]; exact hf.2)) ?_
            refine ST.told 6 rfl (is_eq (y := (if y = 0 then 11 else 0)) (by rw [if_neg hy])) ?_
            exact QE.done (.inl rfl) rfl (ResOk.c rfl (mem_at 3 rfl) ty31 (ResOk.c rfl (mem_at 2 rfl) ty31 (ResOk.t rfl ResOk.nil))) (OImp.sub (List.nil_sublist _)) ⟨rfl, rfl⟩
        · refine DO.s rfl .n (O.ld rfl (mem_at 1 rfl) (Lens.id _) ty31 rfl) ?_
          refine DA.go 0 [] (by kernel_rfl) ⟨?_, trivial⟩
          refine DO.s rfl .n (O.ld rfl (mem_at 0 rfl) (Lens.id _) ty31 rfl) ?_
          refine DA.go 2 [] (by kernel_rfl) ⟨?_, trivial⟩
          refine DO.t rfl .n (O.stW (l := kC) (u := M - 1) 3 rfl rfl rfl ty31 rfl (VP.le_refl _)) ?_
          refine DA.go 3 [] (by kernel_rfl) ⟨?_, trivial⟩
          refine DO.t rfl .n (O.stW (l := kC) (u := R + (ival (q.1, q.2))) 2 rfl rfl rfl ty31 rfl (VP.le_refl _)) ?_
          refine DA.go 4 [] (by kernel_rfl) ⟨?_, trivial⟩
          refine DO.s rfl .n (O.asg rfl) ?_
          refine DA.nil (by kernel_rfl) ?_
          refine QE.next ?_
          refine CW.ret ?_
          have hf := floor_2 hx hl h5 (by rw [← q_v]; exact h_t45)
          refine ST.obtold 3 rfl (OB.box_eq (y := (x.fdiv y)) hf.1) ?_
          refine ST.obtold 2 rfl (OB.box_eq (y := (if y = 0 then 0 else x.fmod y)) (by rw [if_neg hy, q_v]; exact hf.2)) ?_
          refine ST.told 6 rfl (is_eq (y := (if y = 0 then 11 else 0)) (by rw [if_neg hy])) ?_
          exact QE.done (.inl rfl) rfl (ResOk.c rfl (mem_at 3 rfl) ty31 (ResOk.c rfl (mem_at 2 rfl) ty31 (ResOk.t rfl ResOk.nil))) (OImp.sub (List.nil_sublist _)) ⟨rfl, rfl⟩
      · refine CW.skip ?_
        refine QE.next ?_
        refine CW.seq ?_
        refine CW.any (by kernel_rfl) ?_
        refine DA.go 0 [1] (by kernel_rfl) ⟨?_, ⟨?_, trivial⟩⟩
        · refine DO.s rfl .n (O.ld rfl (mem_at 0 rfl) (Lens.id _) ty31 rfl) ?_
          refine DA.go 1 [2] (by kernel_rfl) ⟨?_, ⟨?_, trivial⟩⟩
          · refine DO.s rfl .n (O.ld rfl (mem_at 1 rfl) (Lens.id _) ty31 rfl) ?_
            refine DA.go 2 [] (by kernel_rfl) ⟨?_, trivial⟩
            refine DO.t rfl .n (O.stW (l := kC) (u := M) 3 rfl rfl rfl ty31 rfl (VP.le_refl _)) ?_
            refine DA.go 3 [] (by kernel_rfl) ⟨?_, trivial⟩
            refine DO.t rfl .n (O.stW (l := kC) (u := R) 2 rfl rfl rfl ty31 rfl (VP.le_refl _)) ?_
            refine DA.go 4 [] (by kernel_rfl) ⟨?_, trivial⟩
            refine DO.s rfl .n (O.asg rfl) ?_
            refine DA.nil (by kernel_rfl) ?_
            refine QE.next ?_
            refine CW.ret ?_
            have hf := floor_1 hx hl h5 (by rw [← q_v]; exact h_t45)
            refine ST.obtold 3 rfl (OB.box_eq (y := (x.fdiv y)) hf.1) ?_
            refine ST.obtold 2 rfl (OB.box_eq (y := (if y = 0 then 0 else x.fmod y)) (by rw [if_neg hy]; exact hf.2)) ?_
            refine ST.told 6 rfl (is_eq (y := (if y = 0 then 11 else 0)) (by rw [if_neg hy])) ?_
            exact QE.done (.inl rfl) rfl (ResOk.c rfl (mem_at 3 rfl) ty31 (ResOk.c rfl (mem_at 2 rfl) ty31 (ResOk.t rfl ResOk.nil))) (OImp.sub (List.nil_sublist _)) ⟨rfl, rfl⟩
          · refine DO.t rfl .n (O.stW (l := kC) (u := M) 3 rfl rfl rfl ty31 rfl (VP.le_refl _)) ?_
            refine DA.go 1 [] (by kernel_rfl) ⟨?_, trivial⟩
            refine DO.s rfl .n (O.ld rfl (mem_at 1 rfl) (Lens.id _) ty31 rfl) ?_
            refine DA.go 3 [] (by kernel_rfl) ⟨?_, trivial⟩
            refine DO.t rfl .n (O.stW (l := kC) (u := R) 2 rfl rfl rfl ty31 rfl (VP.le_refl _)) ?_
            refine DA.go 4 [] (by kernel_rfl) ⟨?_, trivial⟩
            refine DO.s rfl .n (O.asg rfl) ?_
            refine DA.nil (by kernel_rfl) ?_
            refine QE.next ?_
            refine CW.ret ?_
            have hf := floor_1 hx hl h5 (by rw [← q_v]; exact h_t45)
            refine ST.obtold 3 rfl (OB.box_eq (y := (x.fdiv y)) hf.1) ?_
            refine ST.obtold 2 rfl (OB.box_eq (y := (if y = 0 then 0 else x.fmod y)) (by rw [if_neg hy]; exact hf.2)) ?_
            refine ST.told 6 rfl (is_eq (y := (if y = 0 then 11 else 0)) (by rw [if_neg hy])) ?_
            exact QE.done (.inl rfl) rfl (ResOk.c rfl (mem_at 3 rfl) ty31 (ResOk.c rfl (mem_at 2 rfl) ty31 (ResOk.t rfl ResOk.nil))) (OImp.sub (List.nil_sublist _)) ⟨rfl, rfl⟩
        · refine DO.s rfl .n (O.ld rfl (mem_at 1 rfl) (Lens.id _) ty31 rfl) ?_
          refine DA.go 0 [] (by kernel_rfl) ⟨?_, trivial⟩
          refine DO.s rfl .n (O.ld rfl (mem_at 0 rfl) (Lens.id _) ty31 rfl) ?_
          refine DA.go 2 [] (by kernel_rfl) ⟨?_, trivial⟩
          refine DO.t rfl .n (O.stW (l := kC) (u := M) 3 rfl rfl rfl ty31 rfl (VP.le_refl _)) ?_
          refine DA.go 3 [] (by kernel_rfl) ⟨?_, trivial⟩
          refine DO.t rfl .n (O.stW (l := kC) (u := R) 2 rfl rfl rfl ty31 rfl (VP.le_refl _)) ?_
          refine DA.go 4 [] (by kernel_rfl) ⟨?_, trivial⟩
          refine DO.s rfl .n (O.asg rfl) ?_
          refine DA.nil (by kernel_rfl) ?_
          refine QE.next ?_
          refine CW.ret ?_
          have hf := floor_1 hx hl h5 (by rw [← q_v]; exact h_t45)
          refine ST.obtold 3 rfl (OB.box_eq (y := (x.fdiv y)) hf.1) ?_
          refine ST.obtold 2 rfl (OB.box_eq (y := (if y = 0 then 0 else x.fmod y)) (by rw [if_neg hy]; exact hf.2)) ?_
          refine ST.told 6 rfl (is_eq (y := (if y = 0 then 11 else 0)) (by rw [if_neg hy])) ?_
          exact QE.done (.inl rfl) rfl (ResOk.c rfl (mem_at 3 rfl) ty31 (ResOk.c rfl (mem_at 2 rfl) ty31 (ResOk.t rfl ResOk.nil))) (OImp.sub (List.nil_sublist _)) ⟨rfl, rfl⟩
    · refine CW.draw (Γ := [.fr (kC.is R), .fr ((kInt .i64).is R.sign), .fr (kBool.is false), .fr (kBool.is false), .fr VP.tt, .fr VP.tt, .fr VP.tt, .fr VP.tt, .fr VP.tt, .fr (kBool.is false)]) (lates := [false, false, false, false, false, false, false, false, false, false]) (by kernel_rfl) (Chk.of rfl (by kernel_rfl) rfl) (fun _ _ _ _ _ h => h) (fun q_ x_ h_ => ?_) (fun σ => ?_)
      · match q_, h_ with
        | 0, h_ => cases h_; exact Ob.f rfl .n fun N => (O.ld rfl (mem_app N (mem_at 1 rfl)) (Lens.id _) ty31 rfl)
        | 1, h_ => cases h_; exact Ob.f rfl .n fun N => (O.fn fn80 (evs.l rfl (kC_Z (by assumption)) evs.nil) (c_zint_Sign R))
        | 2, h_ => cases h_; exact Ob.f rfl .n fun N => (OpOk.le (O.ne rfl rfl) (is_eq (by simp at h5; simp [h5])))
        | 3, h_ => cases h_; exact Ob.f rfl .n fun N => (O.mv rfl)
        | 4, h_ => cases h_; exact Ob.k (b := false) rfl rfl rfl
        | 5, h_ => cases h_; exact Ob.k (b := false) rfl rfl rfl
        | 6, h_ => cases h_; exact Ob.k (b := false) rfl rfl rfl
        | 7, h_ => cases h_; exact Ob.k (b := false) rfl rfl rfl
        | 8, h_ => cases h_; exact Ob.k (b := false) rfl rfl rfl
        | 9, h_ => cases h_; exact Ob.f rfl .n fun N => (O.pickF rfl rfl)
        | n_ + 10, h_ => simp at h_
      refine WP.nil ?_
      refine QE.next ?_
      refine CW.condF rfl ?_
      refine CW.skip ?_
      refine QE.next ?_
      refine CW.seq ?_
      refine CW.any (by kernel_rfl) ?_
      refine DA.go 0 [1] (by kernel_rfl) ⟨?_, ⟨?_, trivial⟩⟩
      · refine DO.s rfl .n (O.ld rfl (mem_at 0 rfl) (Lens.id _) ty31 rfl) ?_
        refine DA.go 1 [2] (by kernel_rfl) ⟨?_, ⟨?_, trivial⟩⟩
        · refine DO.s rfl .n (O.ld rfl (mem_at 1 rfl) (Lens.id _) ty31 rfl) ?_
          refine DA.go 2 [] (by kernel_rfl) ⟨?_, trivial⟩
          refine DO.t rfl .n (O.stW (l := kC) (u := M) 3 rfl rfl rfl ty31 rfl (VP.le_refl _)) ?_
          refine DA.go 3 [] (by kernel_rfl) ⟨?_, trivial⟩
          refine DO.t rfl .n (O.stW (l := kC) (u := R) 2 rfl rfl rfl ty31 rfl (VP.le_refl _)) ?_
          refine DA.go 4 [] (by kernel_rfl) ⟨?_, trivial⟩
          refine DO.s rfl .n (O.asg rfl) ?_
          refine DA.nil (by kernel_rfl) ?_
          refine QE.next ?_
          refine CW.ret ?_
          have hf := floor_0 hx hl h5
          refine ST.obtold 3 rfl (OB.box_eq (y := (x.fdiv y)) hf.1) ?_
          refine ST.obtold 2 rfl (OB.box_eq (y := (if y = 0 then 0 else x.fmod y)) (by rw [if_neg hy]; exact hf.2)) ?_
          refine ST.told 6 rfl (is_eq (y := (if y = 0 then 11 else 0)) (by rw [if_neg hy])) ?_
          exact QE.done (.inl rfl) rfl (ResOk.c rfl (mem_at 3 rfl) ty31 (ResOk.c rfl (mem_at 2 rfl) ty31 (ResOk.t rfl ResOk.nil))) (OImp.sub (List.nil_sublist _)) ⟨rfl, rfl⟩
        · refine DO.t rfl .n (O.stW (l := kC) (u := M) 3 rfl rfl rfl ty31 rfl (VP.le_refl _)) ?_
          refine DA.go 1 [] (by kernel_rfl) ⟨?_, trivial⟩
          refine DO.s rfl .n (O.ld rfl (mem_at 1 rfl) (Lens.id _) ty31 rfl) ?_
          refine DA.go 3 [] (by kernel_rfl) ⟨?_, trivial⟩
          refine DO.t rfl .n (O.stW (l := kC) (u := R) 2 rfl rfl rfl ty31 rfl (VP.le_refl _)) ?_
          refine DA.go 4 [] (by kernel_rfl) ⟨?_, trivial⟩
          refine DO.s rfl .n (O.asg rfl) ?_
          refine DA.nil (by kernel_rfl) ?_
          refine QE.next ?_
          refine CW.ret ?_
          have hf := floor_0 hx hl h5
          refine ST.obtold 3 rfl (OB.box_eq (y := (x.fdiv y)) hf.1) ?_
          refine ST.obtold 2 rfl (OB.box_eq (y := (if y = 0 then 0 else x.fmod y)) (by rw [if_neg hy]; exact hf.2)) ?_
          refine ST.told 6 rfl (is_eq (y := (if y = 0 then 11 else 0)) (by rw [if_neg hy])) ?_
          exact QE.done (.inl rfl) rfl (ResOk.c rfl (mem_at 3 rfl) ty31 (ResOk.c rfl (mem_at 2 rfl) ty31 (ResOk.t rfl ResOk.nil))) (OImp.sub (List.nil_sublist _)) ⟨rfl, rfl⟩
      · refine DO.s rfl .n (O.ld rfl (mem_at 1 rfl) (Lens.id _) ty31 rfl) ?_
        refine DA.go 0 [] (by kernel_rfl) ⟨?_, trivial⟩
        refine DO.s rfl .n (O.ld rfl (mem_at 0 rfl) (Lens.id _) ty31 rfl) ?_
        refine DA.go 2 [] (by kernel_rfl) ⟨?_, trivial⟩
        refine DO.t rfl .n (O.stW (l := kC) (u := M) 3 rfl rfl rfl ty31 rfl (VP.le_refl _)) ?_
        refine DA.go 3 [] (by kernel_rfl) ⟨?_, trivial⟩
        refine DO.t rfl .n (O.stW (l := kC) (u := R) 2 rfl rfl rfl ty31 rfl (VP.le_refl _)) ?_
        refine DA.go 4 [] (by kernel_rfl) ⟨?_, trivial⟩
        refine DO.s rfl .n (O.asg rfl) ?_
        refine DA.nil (by kernel_rfl) ?_
        refine QE.next ?_
        refine CW.ret ?_
        have hf := floor_0 hx hl h5
        refine ST.obtold 3 rfl (OB.box_eq (y := (x.fdiv y)) hf.1) ?_
        refine ST.obtold 2 rfl (OB.box_eq (y := (if y = 0 then 0 else x.fmod y)) (by rw [if_neg hy]; exact hf.2)) ?_
        refine ST.told 6 rfl (is_eq (y := (if y = 0 then 11 else 0)) (by rw [if_neg hy])) ?_
        exact QE.done (.inl rfl) rfl (ResOk.c rfl (mem_at 3 rfl) ty31 (ResOk.c rfl (mem_at 2 rfl) ty31 (ResOk.t rfl ResOk.nil))) (OImp.sub (List.nil_sublist _)) ⟨rfl, rfl⟩

end Fw


/- What Exact of layer 2 answers. -/
set_option linter.unusedVariables false
set_option linter.unusedSimpArgs false
set_option exponentiation.threshold 70
namespace Fw
open Go Go.Proofs

set_option maxRecDepth 20000 in
set_option maxHeartbeats 1000000 in
theorem c_zint_Exact (x y : Int) : Fn Try.prog 206 [kZ.is x, kZ.is y] (VP.tup [kC.is (if x.fmod y = 0 ∧ y ≠ 0 then x.fdiv y else 0), (kInt .i64).is (if y = 0 then 11 else if x.fmod y = 0 then 0 else 20)]) := by
  refine Con.enter Try.func206 rfl rfl fun m w => ?_
  refine ST.fact (i := 0) rfl kZ_sm fun hsx => ?_
  refine ST.fact (i := 1) rfl kZ_sm fun hsy => ?_
  refine CW.seq ?_
  refine CW.region ?_
  refine WP.bx .n rfl fun b1 => ?_
  refine WP.bx .n rfl fun b2 => ?_
  refine WP.al .n z31_C fun b3 => ?_
  refine WP.s .n (O.asg rfl) ?_
  refine WP.nil ?_
  refine QE.next ?_
  refine CW.seq ?_
  refine CW.region ?_
  refine WP.s .n (O.ld rfl (mem_at 2 rfl) (Lens.id _) ty31 rfl) ?_
  refine WP.s .n (O.ld rfl (mem_at 1 rfl) (Lens.id _) ty31 rfl) ?_
  refine WP.s .n (O.fn fn105 (evs.c rfl (evs.c rfl evs.nil)) (c_zint_Floor x y)) ?_
  refine WP.s .n (O.mv rfl) ?_
  refine WP.s .n (O.ext rfl rfl) ?_
  refine WP.s .n (O.ext rfl rfl) ?_
  refine WP.s .n (O.ext rfl rfl) ?_
  refine WP.al .n z31_C fun b4 => ?_
  refine WP.al .n z31_C fun b5 => ?_
  refine WP.t .n (O.stW (l := kC) (u := x.fdiv y) 1 rfl rfl rfl ty31 rfl (VP.le_refl _)) ?_
  refine WP.t .n (O.stW (l := kC) (u := if y = 0 then 0 else x.fmod y) 0 rfl rfl rfl ty31 rfl (VP.le_refl _)) ?_
  refine WP.s .n (O.asg rfl) ?_
  refine WP.nil ?_
  refine QE.next ?_
  refine CW.seq ?_
  refine CW.block ?_
  refine CW.seq ?_
  refine CW.region ?_
  refine WP.s .n (O.mv rfl) ?_
  refine WP.s .n (O.ne rfl rfl) ?_
  refine WP.s .n (O.asg rfl) ?_
  refine WP.nil ?_
  refine QE.next ?_
  refine CW.condD rfl (fun h_t16 => ?_) (fun h_t16 => ?_)
  · refine CW.seq ?_
    refine CW.region ?_
    refine WP.s .n (O.bld lit31_C rfl evp.n (.nil _)) ?_
    refine WP.s .n (O.mv rfl) ?_
    refine WP.t .n (O.stW (l := kC) (u := 0) 2 rfl rfl rfl ty31 rfl (VP.le_refl _)) ?_
    refine WP.s .n (O.asg rfl) ?_
    refine WP.nil ?_
    refine QE.next ?_
    refine CW.ret ?_
    refine QE.blkR ?_
    refine QE.thenR ?_
    have hy : y = 0 := by by_cases h : y = 0; exact h; simp [h] at h_t16
    refine ST.obtold 2 rfl (OB.box_eq (y := (if x.fmod y = 0 ∧ y ≠ 0 then x.fdiv y else 0)) (by simp [hy])) ?_
    refine ST.told 5 rfl (is_eq (y := (if y = 0 then 11 else if x.fmod y = 0 then 0 else 20)) (by simp [hy])) ?_
    exact QE.done (.inl rfl) rfl (ResOk.c rfl (mem_at 2 rfl) ty31 (ResOk.t rfl ResOk.nil)) (OImp.sub (List.nil_sublist _)) ⟨rfl, rfl⟩
  · refine CW.seq ?_
    have hy : y ≠ 0 := fun h => by simp [h] at h_t16
    have hsr : Sm (if y = 0 then 0 else x.fmod y) := by rw [if_neg hy]; exact fmod_sm hsy hy
    refine CW.region ?_
    refine WP.s .n (O.ld rfl (mem_at 0 rfl) (Lens.id _) ty31 rfl) ?_
    refine WP.s .n (O.fn fn80 (evs.l rfl (kC_Z (by assumption)) evs.nil) (c_zint_Sign (if y = 0 then 0 else x.fmod y))) ?_
    refine WP.s .n (O.ne rfl rfl) ?_
    refine WP.s .n (O.asg rfl) ?_
    refine WP.nil ?_
    refine QE.next ?_
    refine CW.condD rfl (fun h_t21 => ?_) (fun h_t21 => ?_)
    · refine CW.seq ?_
      refine CW.region ?_
      refine WP.s .n (O.bld lit31_C rfl evp.n (.nil _)) ?_
      refine WP.t .n (O.stW (l := kC) (u := 0) 2 rfl rfl rfl ty31 rfl (VP.le_refl _)) ?_
      refine WP.s .n (O.asg rfl) ?_
      refine WP.nil ?_
      refine QE.next ?_
      refine CW.ret ?_
      refine QE.blkR ?_
      refine QE.thenR ?_
      have hm : ¬ x.fmod y = 0 := fun h => by simp [hy, h] at h_t21
      refine ST.obtold 2 rfl (OB.box_eq (y := (if x.fmod y = 0 ∧ y ≠ 0 then x.fdiv y else 0)) (by simp [hm])) ?_
      refine ST.told 5 rfl (is_eq (y := (if y = 0 then 11 else if x.fmod y = 0 then 0 else 20)) (by simp [hy, hm])) ?_
      exact QE.done (.inl rfl) rfl (ResOk.c rfl (mem_at 2 rfl) ty31 (ResOk.t rfl ResOk.nil)) (OImp.sub (List.nil_sublist _)) ⟨rfl, rfl⟩
    · refine CW.skip ?_
      refine QE.blkN ?_
      refine QE.next ?_
      refine CW.seq ?_
      refine CW.region ?_
      refine WP.s .n (O.ld rfl (mem_at 1 rfl) (Lens.id _) ty31 rfl) ?_
      refine WP.t .n (O.stW (l := kC) (u := x.fdiv y) 2 rfl rfl rfl ty31 rfl (VP.le_refl _)) ?_
      refine WP.s .n (O.asg rfl) ?_
      refine WP.nil ?_
      refine QE.next ?_
      refine CW.ret ?_
      have hm : x.fmod y = 0 := by by_cases h : x.fmod y = 0; exact h; exfalso; apply h_t21; rw [if_neg hy]; exact fun h0 => h (Int.sign_eq_zero_iff_zero.1 h0)
      refine ST.obtold 2 rfl (OB.box_eq (y := (if x.fmod y = 0 ∧ y ≠ 0 then x.fdiv y else 0)) (by simp [hm, hy])) ?_
      refine ST.told 5 rfl (is_eq (y := (if y = 0 then 11 else if x.fmod y = 0 then 0 else 20)) (by simp [hy, hm])) ?_
      exact QE.done (.inl rfl) rfl (ResOk.c rfl (mem_at 2 rfl) ty31 (ResOk.t rfl ResOk.nil)) (OImp.sub (List.nil_sublist _)) ⟨rfl, rfl⟩

end Fw


/- Plain facts: rationals in lowest terms, bits of vectors and matrices, the rows of a sum. -/
set_option linter.unusedVariables false
set_option linter.unusedSimpArgs false
set_option exponentiation.threshold 400
namespace Fw
open Go

/-! ### Sizes -/
/-- Of at most n bits. -/
def Sz (n : Nat) (z : Int) : Prop := z.natAbs < 2 ^ n
theorem Sz.up {n m : Nat} {z : Int} (h : Sz n z) (hm : n ≤ m) : Sz m z := Nat.lt_of_lt_of_le h (Nat.pow_le_pow_right (by decide) hm)
theorem Sz.neg {n : Nat} {z : Int} (h : Sz n z) : Sz n (-z) := by unfold Sz at *; rwa [Int.natAbs_neg]
theorem Sz.add {n m : Nat} {x y : Int} (h : Sz n x) (k : Sz m y) : Sz (n + m + 1) (x + y) := by
  unfold Sz at *
  have h1 : (x + y).natAbs ≤ x.natAbs + y.natAbs := Int.natAbs_add_le x y
  have h2 : 2 ^ n ≤ 2 ^ (n + m) := Nat.pow_le_pow_right (by decide) (by omega)
  have h3 : 2 ^ m ≤ 2 ^ (n + m) := Nat.pow_le_pow_right (by decide) (by omega)
  rw [Nat.pow_succ]
  omega
theorem Sz.max {n m : Nat} {x y : Int} (h : Sz n x) (k : Sz m y) : Sz (Nat.max n m + 1) (x + y) := by
  have h' := Sz.up h (Nat.le_max_left n m)
  have k' := Sz.up k (Nat.le_max_right n m)
  unfold Sz at *
  have h1 : (x + y).natAbs ≤ x.natAbs + y.natAbs := Int.natAbs_add_le x y
  have e : Max.max n m = Nat.max n m := rfl
  rw [e] at h' k'
  rw [Nat.pow_succ]
  omega
theorem Sz.sub {n m : Nat} {x y : Int} (h : Sz n x) (k : Sz m y) : Sz (n + m + 1) (x - y) := by
  rw [Int.sub_eq_add_neg]; exact h.add k.neg
theorem Sz.mul {n m : Nat} {x y : Int} (h : Sz n x) (k : Sz m y) : Sz (n + m) (x * y) := by
  unfold Sz at *
  rw [Int.natAbs_mul, Nat.pow_add]
  exact Nat.mul_lt_mul'' h k
theorem Sz.le {n : Nat} {x y : Int} (h : Sz n x) (hl : y.natAbs ≤ x.natAbs) : Sz n y := Nat.lt_of_le_of_lt hl h
theorem Sz.zero (n : Nat) : Sz n 0 := Nat.two_pow_pos n

/-! ### Rationals -/
def rmk (n d : Int) : Int × Int := ((n * d.sign).fdiv (Int.gcd n d), (d.natAbs : Int).fdiv (Int.gcd n d))
theorem gcd_dvd_fmod {n g : Int} (h : g ∣ n) : n.fmod g = 0 := Int.fmod_eq_zero_of_dvd h
theorem gcd_ne {n d : Int} (hd : d ≠ 0) : ((Int.gcd n d : Nat) : Int) ≠ 0 := by
  intro h
  have h1 : Int.gcd n d = 0 := by omega
  exact hd (Int.gcd_eq_zero_iff.1 h1).2
theorem gcd_sign {n d : Int} (hd : d ≠ 0) : Int.gcd (n * d.sign) (d.natAbs : Int) = Int.gcd n d := by
  have h1 : (n * d.sign).natAbs = n.natAbs := by
    rw [Int.natAbs_mul, Int.natAbs_sign, if_neg hd, Nat.mul_one]
  simp [Int.gcd, h1]
theorem mul_sign_pos {n d : Int} (h : 0 < d) : n * d.sign = n := by rw [Int.sign_eq_one_of_pos h, Int.mul_one]
theorem mul_sign_neg {n d : Int} (h : d < 0) : n * d.sign = -n := by rw [Int.sign_eq_neg_one_of_neg h]; omega
theorem rmk_exact {n d : Int} (hd : d ≠ 0) : (if (n * d.sign).fmod (Int.gcd (n * d.sign) (d.natAbs : Int) : Int) = 0 ∧ ((Int.gcd (n * d.sign) (d.natAbs : Int) : Nat) : Int) ≠ 0 then (n * d.sign).fdiv (Int.gcd (n * d.sign) (d.natAbs : Int) : Int) else 0) = (rmk n d).1
    ∧ (if (d.natAbs : Int).fmod (Int.gcd (n * d.sign) (d.natAbs : Int) : Int) = 0 ∧ ((Int.gcd (n * d.sign) (d.natAbs : Int) : Nat) : Int) ≠ 0 then (d.natAbs : Int).fdiv (Int.gcd (n * d.sign) (d.natAbs : Int) : Int) else 0) = (rmk n d).2 := by
  rw [gcd_sign hd]
  have h0 := gcd_ne (n := n) hd
  have h1 : ((Int.gcd n d : Nat) : Int) ∣ n * d.sign := by
    rw [← gcd_sign hd]; exact Int.gcd_dvd_left ..
  have h2 : ((Int.gcd n d : Nat) : Int) ∣ (d.natAbs : Int) := by
    rw [← gcd_sign hd]; exact Int.gcd_dvd_right ..
  rw [if_pos ⟨gcd_dvd_fmod h1, h0⟩, if_pos ⟨gcd_dvd_fmod h2, h0⟩]
  exact ⟨rfl, rfl⟩
theorem gcd_le_abs {n d : Int} (hd : d ≠ 0) : ((Int.gcd n d : Nat) : Int).natAbs ≤ d.natAbs := by
  rw [Int.natAbs_natCast]
  exact Nat.le_of_dvd (by omega) (Nat.gcd_dvd_right _ _)
theorem canon_len {z : Int} (h : Sm z) : (canon z).2.length ≤ 17179869184 := limbs_len_lt h
theorem canon_nval (z : Int) : nval (canon z).2 = z.natAbs := by simp [canon, nval_limbs]
/-- A quotient of magnitudes with the sign of n. -/
theorem ival_div {n : Int} {g : Nat} (hg : g ≠ 0) (hn : (g : Int) ∣ n) : ival (decide (n < 0), limbs (n.natAbs / g)) = n.fdiv g := by
  obtain ⟨k, rfl⟩ := hn
  have hg0 : 0 < g := by omega
  have h1 : ((g : Int) * k).natAbs / g = k.natAbs := by
    rw [Int.natAbs_mul, Int.natAbs_natCast, Nat.mul_div_cancel_left _ hg0]
  have h2 : ((g : Int) * k).fdiv g = k := by
    rw [Int.mul_fdiv_cancel_left _ (by omega)]
  rw [h1, h2]
  have h3 : decide ((g : Int) * k < 0) = decide (k < 0) := by
    have : ((g : Int) * k < 0) ↔ (k < 0) := by
      constructor
      · intro h
        rcases Int.lt_or_le k 0 with h4 | h4
        · exact h4
        · have := Int.mul_nonneg (show (0 : Int) ≤ g by omega) h4; omega
      · intro h; exact Int.mul_neg_of_pos_of_neg (by omega) h
    simp [this]
  rw [h3]
  exact ival_canon k
theorem rmk_den {n d d1 : Int} (hd : d ≠ 0) (h : d1 = (d.natAbs : Int)) : (false, limbs (d1.natAbs / Int.gcd n d)) = canon (rmk n d).2 := by
  subst h
  rw [Int.natAbs_natCast]
  have e : (rmk n d).2 = ((d.natAbs / Int.gcd n d : Nat) : Int) := by
    show ((d.natAbs : Int)).fdiv ((Int.gcd n d : Nat) : Int) = _
    rw [Int.fdiv_eq_ediv_of_nonneg _ (by omega)]
    exact (Int.natCast_ediv _ _).symm
  rw [e]
  generalize d.natAbs / Int.gcd n d = k
  have h1 : ¬ ((k : Nat) : Int) < 0 := by omega
  simp [canon, h1]

/-! ### Bits -/
def vbF (n : Int) (x : Int) : Int := max n (bitlen x.natAbs : Int)
def vbN (n : Int) (v : List Int) : Int := v.foldl vbF n
def vbits (v : List Int) : Int := vbN 0 v
def mbits (b : List (List Int)) : Int := b.foldl vbN 0
theorem vbN_s {n : Int} {v : List Int} {i : Nat} (hi : i < v.length) : max (vbN n (v.take i)) (bitlen (v.getD i 0).natAbs : Int) = vbN n (v.take (i + 1)) := by
  rw [← take_app (d := 0) hi]; unfold vbN; rw [List.foldl_append]; rfl
theorem vbN_ge (n : Int) : ∀ v : List Int, n ≤ vbN n v
  | [] => Int.le_refl n
  | x :: v => by
    have := vbN_ge (vbF n x) v
    have h2 : n ≤ vbF n x := Int.le_max_left _ _
    exact Int.le_trans h2 this
theorem vbN_mem : ∀ {v : List Int} {n : Int} {x : Int}, x ∈ v → (bitlen x.natAbs : Int) ≤ vbN n v
  | y :: v, n, x, h => by
    rcases List.mem_cons.1 h with e | h
    · subst e
      exact Int.le_trans (Int.le_max_right _ _) (vbN_ge (vbF n x) v)
    · exact vbN_mem (v := v) (n := vbF n y) h
theorem mb_s {b : List (List Int)} {i : Nat} (hi : i < b.length) : vbN ((b.take i).foldl vbN 0) (b.getD i []) = (b.take (i + 1)).foldl vbN 0 := by
  rw [← take_app (d := []) hi, List.foldl_append]; rfl
theorem mb_done {b : List (List Int)} {i k : Nat} (hi : i < b.length) (hk : (b.getD i []).length ≤ k) : vbN ((b.take i).foldl vbN 0) ((b.getD i []).take k) = (b.take (i + 1)).foldl vbN 0 := by
  rw [List.take_of_length_le hk]; exact mb_s hi
theorem vbits_pos {xs : List Int} (h : wOk xs = true) : 0 < vbits xs := by
  have hl := wOk_len h
  have h1 := wOk_get h (show 0 < xs.length by omega)
  have hm : xs.getD 0 0 ∈ xs := by
    rw [List.getD_eq_getElem?_getD, List.getElem?_eq_getElem (show 0 < xs.length by omega)]; simp
  have h2 := vbN_mem (n := 0) hm
  have h3 : bitlen (xs.getD 0 0).natAbs ≠ 0 := fun h => by have := bitlen_0.1 h; omega
  unfold vbits
  omega

/-! ### Density, sums, rows -/
def denV (xs : List Int) : Int × Int := if wErr xs ≠ 0 then (0, 0) else rmk xs.length (vbits xs)
def sErr (xs : List Int) (s : Int) : Int := if wErr xs ≠ 0 then wErr xs else if s < 0 ∨ 200 < bitlen s.natAbs then 1 else 0
theorem sErr_1 {xs : List Int} {s : Int} (h : wErr xs ≠ 0) : sErr xs s = wErr xs := by unfold sErr; rw [if_pos h]
theorem sErr_2 {xs : List Int} {s : Int} (h : ¬ wErr xs ≠ 0) (h2 : s < 0 ∨ 200 < bitlen s.natAbs) : sErr xs s = 1 := by unfold sErr; rw [if_neg h, if_pos h2]
theorem sErr_3 {xs : List Int} {s : Int} (h : ¬ wErr xs ≠ 0) (h2 : ¬ (s < 0 ∨ 200 < bitlen s.natAbs)) : sErr xs s = 0 := by unfold sErr; rw [if_neg h, if_neg h2]
def rowF (n i c : Nat) : Int := if i = n then 1 else if i = c then 2 else 0
def rowK (xs : List Int) (s : Int) (i : Nat) : List Int := (List.range (xs.length + 1)).map (rowF xs.length i) ++ [((xs.length : Int) + 2) * (if i = xs.length then s else xs.getD i 0)]
def rowsK (xs : List Int) (s : Int) : List (List Int) := (List.range (xs.length + 1)).map (rowK xs s)
def rowsV (xs : List Int) (s : Int) : List (List Int) := if sErr xs s ≠ 0 then [] else rowsK xs s
theorem map_range_s {α : Type} (f : Nat → α) (k : Nat) : (List.range k).map f ++ [f k] = (List.range (k + 1)).map f := by
  rw [List.range_succ, List.map_append]; rfl
theorem rowK_prog {xs : List Int} {s : Int} {i : Nat} (hi : i < xs.length) : ((List.replicate (xs.length + 2) (0 : Int)).set i 2).set (xs.length + 1) (((xs.length : Int) + 2) * xs.getD i 0) = rowK xs s i := by
  apply List.ext_getElem?
  intro c
  unfold rowK
  rw [if_neg (by omega)]
  by_cases hc : c < xs.length + 1
  · rw [List.getElem?_set_ne (by omega), List.getElem?_append_left (by simpa using hc), List.getElem?_map, List.getElem?_range hc]
    by_cases hci : i = c
    · subst hci
      rw [List.getElem?_set_self (by simp; omega)]
      simp [rowF, show i ≠ xs.length from by omega]
    · rw [List.getElem?_set_ne hci, List.getElem?_replicate, if_pos (by omega)]
      simp [rowF, hci, show i ≠ xs.length from by omega]
  · by_cases hc2 : c = xs.length + 1
    · subst hc2
      rw [List.getElem?_set_self (by simp), List.getElem?_append_right (by simp)]
      simp
    · rw [List.getElem?_eq_none (by simp; omega), List.getElem?_eq_none (by simp; omega)]
theorem rowK_last {xs : List Int} {s : Int} : (List.replicate (xs.length + 1) (1 : Int)) ++ [((xs.length : Int) + 2) * s] = rowK xs s xs.length := by
  unfold rowK
  rw [if_pos rfl]
  congr 1
  apply List.ext_getElem?
  intro c
  by_cases hc : c < xs.length + 1
  · rw [List.getElem?_replicate, if_pos hc, List.getElem?_map, List.getElem?_range hc]; simp [rowF]
  · rw [List.getElem?_eq_none (by simp; omega), List.getElem?_eq_none (by simp; omega)]
/-- Ones so far, noughts behind. -/
def onesTo (n i : Nat) : List Int := List.replicate i 1 ++ List.replicate (n - i) 0
theorem onesTo_0 (n : Nat) : List.replicate n (0 : Int) = onesTo n 0 := by simp [onesTo]
theorem onesTo_len {n i : Nat} (h : i ≤ n) : (onesTo n i).length = n := by simp [onesTo]; omega
theorem onesTo_s {n i : Nat} (h : i < n) : (onesTo n i).set i 1 = onesTo n (i + 1) := by
  unfold onesTo
  rw [List.set_append_right _ _ (by simp)]
  simp only [List.length_replicate, Nat.sub_self]
  rw [show n - i = (n - (i + 1)) + 1 from by omega, List.replicate_succ, List.set_cons_zero, List.replicate_succ', List.append_assoc]
  rfl
theorem onesTo_last {n : Nat} {v : Int} : (onesTo (n + 2) (n + 1)).set (n + 1) v = List.replicate (n + 1) 1 ++ [v] := by
  unfold onesTo
  rw [List.set_append_right _ _ (by simp)]
  simp
theorem rowsK_s {xs : List Int} {s : Int} {i : Nat} : (List.range i).map (rowK xs s) ++ [rowK xs s i] = (List.range (i + 1)).map (rowK xs s) := map_range_s _ _
theorem bitlen_200 {n : Nat} (h : n < 2 ^ 200) : bitlen n ≤ 200 := @bitlen_le n 200 h
theorem vbN_bound {v : List Int} : ∀ {n : Int}, n ≤ 200 → (∀ x ∈ v, bitlen x.natAbs ≤ 200) → vbN n v ≤ 200 := by
  induction v with
  | nil => intro n h _; exact h
  | cons x v ih =>
    intro n h hx
    refine ih (n := vbF n x) ?_ (fun y hy => hx y (List.mem_cons_of_mem _ hy))
    have := hx x (by simp)
    unfold vbF
    omega
theorem vbits_le {xs : List Int} (h : wOk xs = true) : vbits xs ≤ 200 := by
  refine vbN_bound (by omega) fun x hx => ?_
  obtain ⟨i, hi, rfl⟩ := List.getElem_of_mem hx
  have h1 := wOk_get h hi
  rw [List.getD_eq_getElem?_getD, List.getElem?_eq_getElem hi] at h1
  simp only [Option.getD_some] at h1
  exact bitlen_200 (by omega)
theorem vbits_Sm {xs : List Int} (h : wOk xs = true) : Sm (vbits xs) := by
  have h1 := vbits_pos h
  have h2 := vbits_le h
  exact Sm_lit (by omega)
theorem int_any {n : Int} {k : IntKind} (m : Mem) (v : Value) (h : ((kInt k).is n).p m v) : True := trivial
theorem wErr_ok' {xs : List Int} (h : wOk xs = true) : wErr xs = 0 := by unfold wErr; rw [if_pos h]
theorem sErr_w {xs : List Int} {s : Int} (h : ¬ sErr xs s ≠ 0) : ¬ wErr xs ≠ 0 := fun h1 => h (by rw [sErr_1 h1]; exact h1)
theorem canon_eqd {a b : Int} (h : (!decide (canon a = canon b)) = false) : a = b := by
  simp at h; exact canon_inj h
theorem canon_ned {a b : Int} (h : (!decide (canon a = canon b)) = true) : ¬ a = b := by
  intro e; subst e; simp at h
theorem eqr_t {x y : Int × Int} (h : canon x.1 = canon y.1) : decide (canon x.2 = canon y.2) = decide (x = y) := by
  have h1 := canon_inj h
  rw [decide_eq_decide]
  constructor
  · intro h2; exact Prod.ext h1 (canon_inj h2)
  · intro h2; rw [h2]
theorem eqr_f {x y : Int × Int} (h : ¬ canon x.1 = canon y.1) : false = decide (x = y) := by
  rw [eq_comm, decide_eq_false_iff_not]
  intro e; exact h (by rw [e])
end Fw


/- Rationals in lowest terms; the document's floor. -/
set_option linter.unusedVariables false
set_option linter.unusedSimpArgs false
set_option exponentiation.threshold 400
namespace Fw
open Go Go.Proofs

set_option maxRecDepth 20000 in
set_option maxHeartbeats 1000000 in
theorem c_rat_made (n d : Int) (hd : d ≠ 0) : Fn Try.prog 165 [kZ.is n, kZ.is d] ((kPair kC kC).is (rmk n d)) := by
  refine Con.enter Try.func165 rfl rfl fun m w => ?_
  refine ST.fact (i := 0) rfl kZ_sm fun hsn => ?_
  refine ST.fact (i := 1) rfl kZ_sm fun hsd => ?_
  refine CW.seq ?_
  refine CW.region ?_
  refine WP.bx .n rfl fun b1 => ?_
  refine WP.bx .n rfl fun b2 => ?_
  refine WP.al .n z60_pr_C_C_ fun b3 => ?_
  refine WP.nil ?_
  refine QE.next ?_
  refine CW.cut2 (fun (n1 : Int) (d1 : Int) => n1 = n * d.sign ∧ d1 = (d.natAbs : Int) ∧ Sm n1 ∧ Sm d1) (fun (n1 : Int) (d1 : Int) => [(2, VP.ex (.pointer (some ⟨b1, 0, none⟩))), (3, VP.ex (.pointer (some ⟨b2, 0, none⟩))), (4, VP.ex (.pointer (some ⟨b3, 0, none⟩)))]) (fun (n1 : Int) (d1 : Int) => [OB.box b3 60 (kPair kC kC) (0, 0), OB.box b2 31 kZ d1, OB.box b1 31 kZ n1]) ?_ ?_
  · refine CW.seq ?_
    refine CW.region ?_
    refine WP.s .n (O.ld rfl (mem_at 1 rfl) (Lens.id _) ty31 rfl) ?_
    refine WP.s .n (O.fn fn80 (evs.c rfl evs.nil) (c_zint_Sign d)) ?_
    refine WP.s .n (O.lt rfl rfl) ?_
    refine WP.nil ?_
    refine QE.next ?_
    refine CW.condD rfl (fun h_t12 => ?_) (fun h_t12 => ?_)
    · refine CW.draw (Γ := [.fr (kZ.is n), .fr (kC.is (-n)), .fr (kZ.is d), .fr (kC.is (-d))]) (lates := [false, false, false, false]) (by kernel_rfl) (Chk.of rfl (by kernel_rfl) rfl) (fun _ _ _ _ _ h => h) (fun q_ x_ h_ => ?_) (fun σ => ?_)
      · match q_, h_ with
        | 0, h_ => cases h_; exact Ob.f rfl .n fun N => (O.ld rfl (mem_app N (mem_at 2 rfl)) (Lens.id _) ty31 rfl)
        | 1, h_ => cases h_; exact Ob.f rfl .n fun N => (O.fn fn161 (evs.c rfl evs.nil) (c_zint_Neg n))
        | 2, h_ => cases h_; exact Ob.f rfl .n fun N => (O.ld rfl (mem_app N (mem_at 1 rfl)) (Lens.id _) ty31 rfl)
        | 3, h_ => cases h_; exact Ob.f rfl .n fun N => (O.fn fn161 (evs.c rfl evs.nil) (c_zint_Neg d))
        | n_ + 4, h_ => simp at h_
      refine WP.t .n (O.stW (l := kC) (u := -n) 2 rfl rfl rfl ty31 rfl (VP.le_refl _)) ?_
      refine WP.t .n (O.stW (l := kC) (u := -d) 1 rfl rfl rfl ty31 rfl (VP.le_refl _)) ?_
      refine WP.nil ?_
      exact QE.mid2 (-n) (-d) ⟨(mul_sign_neg (sgn_lt0 h_t12)).symm, by have := sgn_lt0 h_t12; omega, Sm_neg hsn, Sm_neg hsd⟩ (Imp.cons rfl (Imp.cons rfl (Imp.cons rfl Imp.nil))) (OImp.os (OS.keep (OS.keepLe (OB.C_Zeq (by first | assumption | exact Sm_neg (by assumption)) (by first | omega | rfl | assumption)) (OS.keepLe (OB.C_Zeq (by first | assumption | exact Sm_neg (by assumption)) (by first | omega | rfl | assumption)) OS.nil))))
    · refine CW.skip ?_
      exact QE.mid2 n d ⟨(mul_sign_pos (by have := sgn_ge0 h_t12; omega)).symm, by have := sgn_ge0 h_t12; omega, hsn, hsd⟩ (Imp.cons rfl (Imp.cons rfl (Imp.cons rfl Imp.nil))) (OImp.refl _)
  intro n1 d1 ⟨hn1, hd1, hs1, hs2⟩
  have hs3 : Sm ((Int.gcd n1 d1 : Nat) : Int) := Sm_le hsd (by rw [hn1, hd1, gcd_sign hd]; exact gcd_le_abs hd)
  refine CW.seq ?_
  refine CW.region ?_
  refine WP.s .n (O.ld rfl (mem_at 2 rfl) (Lens.id _) ty31 rfl) ?_
  refine WP.s .n (O.ld rfl (mem_at 1 rfl) (Lens.id _) ty31 rfl) ?_
  refine WP.s .n (O.fn fn102 (evs.c rfl (evs.c rfl evs.nil)) (c_zint_Gcd n1 d1)) ?_
  refine WP.al .n z31_C fun b4 => ?_
  refine WP.t .n (O.stW (l := kC) (u := (Int.gcd n1 d1 : Int)) 0 rfl rfl rfl ty31 rfl (VP.le_refl _)) ?_
  refine WP.nil ?_
  refine QE.next ?_
  refine CW.seq ?_
  refine CW.region ?_
  refine WP.s .n (O.ld rfl (mem_at 3 rfl) (Lens.id _) ty31 rfl) ?_
  refine WP.s .n (O.ld rfl (mem_at 0 rfl) (Lens.id _) ty31 rfl) ?_
  refine WP.s .n (O.fn fn206 (evs.c rfl (evs.l rfl (kC_Z (by first | assumption | exact Sm_neg (by assumption))) evs.nil)) (c_zint_Exact n1 (Int.gcd n1 d1 : Int))) ?_
  refine WP.s .n (O.mv rfl) ?_
  refine WP.s .n (O.ext rfl rfl) ?_
  refine WP.s .n (O.ext rfl rfl) ?_
  refine WP.al .n z31_C fun b5 => ?_
  refine WP.t .n (O.stW (l := kC) (u := if n1.fmod (Int.gcd n1 d1 : Int) = 0 ∧ (Int.gcd n1 d1 : Int) ≠ 0 then n1.fdiv (Int.gcd n1 d1 : Int) else 0) 0 rfl rfl rfl ty31 rfl (VP.le_refl _)) ?_
  refine WP.s .n (O.asg rfl) ?_
  refine WP.nil ?_
  refine QE.next ?_
  refine CW.seq ?_
  refine CW.region ?_
  refine WP.s .n (O.ld rfl (mem_at 3 rfl) (Lens.id _) ty31 rfl) ?_
  refine WP.s .n (O.ld rfl (mem_at 1 rfl) (Lens.id _) ty31 rfl) ?_
  refine WP.s .n (O.fn fn206 (evs.c rfl (evs.l rfl (kC_Z (by first | assumption | exact Sm_neg (by assumption))) evs.nil)) (c_zint_Exact d1 (Int.gcd n1 d1 : Int))) ?_
  refine WP.s .n (O.mv rfl) ?_
  refine WP.s .n (O.ext rfl rfl) ?_
  refine WP.s .n (O.ext rfl rfl) ?_
  refine WP.al .n z31_C fun b6 => ?_
  refine WP.t .n (O.stW (l := kC) (u := if d1.fmod (Int.gcd n1 d1 : Int) = 0 ∧ (Int.gcd n1 d1 : Int) ≠ 0 then d1.fdiv (Int.gcd n1 d1 : Int) else 0) 0 rfl rfl rfl ty31 rfl (VP.le_refl _)) ?_
  refine WP.s .n (O.asg rfl) ?_
  refine WP.nil ?_
  refine QE.next ?_
  refine CW.seq ?_
  refine CW.region ?_
  refine WP.s .n (O.ld rfl (mem_at 1 rfl) (Lens.id _) ty31 rfl) ?_
  refine WP.s .n (O.ld rfl (mem_at 0 rfl) (Lens.id _) ty31 rfl) ?_
  refine WP.s .n (O.bld lit60_pr_C_C_ rfl (evp.c rfl (evp.c rfl evp.n)) (.cons rfl (Lens.fst (Lens.id _)) (.cons rfl (Lens.snd (Lens.id _)) (.nil _)))) ?_
  refine WP.t .n (O.stW (l := (kPair kC kC)) (u := (if n1.fmod (Int.gcd n1 d1 : Int) = 0 ∧ (Int.gcd n1 d1 : Int) ≠ 0 then n1.fdiv (Int.gcd n1 d1 : Int) else 0, if d1.fmod (Int.gcd n1 d1 : Int) = 0 ∧ (Int.gcd n1 d1 : Int) ≠ 0 then d1.fdiv (Int.gcd n1 d1 : Int) else 0)) 3 rfl rfl rfl ty60 rfl (VP.le_refl _)) ?_
  refine WP.nil ?_
  refine QE.next ?_
  refine CW.ret ?_
  refine ST.obtold 3 rfl (OB.box_eq (y := (rmk n d)) (by subst hn1 hd1; have := rmk_exact (n := n) hd; rw [← Prod.eta (rmk n d), ← this.1, ← this.2])) ?_
  exact QE.done (.inl rfl) rfl (ResOk.c rfl (mem_at 3 rfl) ty60 ResOk.nil) (OImp.sub (List.nil_sublist _)) ⟨rfl, rfl⟩

set_option maxRecDepth 20000 in
set_option maxHeartbeats 1000000 in
theorem c_rat_Make (n d : Int) : Fn Try.prog 97 [kZ.is n, kZ.is d] (VP.tup [(kPair kC kC).is (if d = 0 then (0, 0) else rmk n d), (kInt .i64).is (if d = 0 then 11 else 0)]) := by
  refine Con.enter Try.func97 rfl rfl fun m w => ?_
  refine CW.seq ?_
  refine CW.region ?_
  refine WP.bx .n rfl fun b1 => ?_
  refine WP.bx .n rfl fun b2 => ?_
  refine WP.al .n z60_pr_C_C_ fun b3 => ?_
  refine WP.s .n (O.asg rfl) ?_
  refine WP.nil ?_
  refine QE.next ?_
  refine CW.seq ?_
  refine CW.seq ?_
  refine CW.region ?_
  refine WP.s .n (O.ld rfl (mem_at 1 rfl) (Lens.id _) ty31 rfl) ?_
  refine WP.s .n (O.fn fn80 (evs.c rfl evs.nil) (c_zint_Sign d)) ?_
  refine WP.s .n (O.eq rfl rfl) ?_
  refine WP.nil ?_
  refine QE.next ?_
  refine CW.condD rfl (fun h_t8 => ?_) (fun h_t8 => ?_)
  · refine CW.seq ?_
    refine CW.region ?_
    refine WP.s .n (O.bld lit60_pr_C_C_ rfl evp.n (.nil _)) ?_
    refine WP.t .n (O.stW (l := (kPair kC kC)) (u := (0, 0)) 0 rfl rfl rfl ty60 rfl (VP.le_refl _)) ?_
    refine WP.s .n (O.asg rfl) ?_
    refine WP.nil ?_
    refine QE.next ?_
    refine CW.ret ?_
    refine QE.thenR ?_
    have hd : d = 0 := Int.sign_eq_zero_iff_zero.1 h_t8
    refine ST.obtold 0 rfl (OB.box_eq (y := (if d = 0 then (0, 0) else rmk n d)) (by rw [if_pos hd])) ?_
    refine ST.told 5 rfl (is_eq (y := (if d = 0 then 11 else 0)) (by rw [if_pos hd])) ?_
    exact QE.done (.inl rfl) rfl (ResOk.c rfl (mem_at 0 rfl) ty60 (ResOk.t rfl ResOk.nil)) (OImp.sub (List.nil_sublist _)) ⟨rfl, rfl⟩
  · refine CW.skip ?_
    refine QE.next ?_
    refine CW.seq ?_
    refine CW.region ?_
    refine WP.s .n (O.ld rfl (mem_at 2 rfl) (Lens.id _) ty31 rfl) ?_
    refine WP.s .n (O.ld rfl (mem_at 1 rfl) (Lens.id _) ty31 rfl) ?_
    refine WP.s .n (O.fn fn165 (evs.c rfl (evs.c rfl evs.nil)) (c_rat_made n d (fun h => h_t8 (by rw [h]; rfl)))) ?_
    refine WP.t .n (O.stW (l := (kPair kC kC)) (u := rmk n d) 0 rfl rfl rfl ty60 rfl (VP.le_refl _)) ?_
    refine WP.s .n (O.asg rfl) ?_
    refine WP.nil ?_
    refine QE.next ?_
    refine CW.ret ?_
    have hd : ¬ d = 0 := fun h => h_t8 (by rw [h]; rfl)
    refine ST.obtold 0 rfl (OB.box_eq (y := (if d = 0 then (0, 0) else rmk n d)) (by rw [if_neg hd])) ?_
    refine ST.told 5 rfl (is_eq (y := (if d = 0 then 11 else 0)) (by rw [if_neg hd])) ?_
    exact QE.done (.inl rfl) rfl (ResOk.c rfl (mem_at 0 rfl) ty60 (ResOk.t rfl ResOk.nil)) (OImp.sub (List.nil_sublist _)) ⟨rfl, rfl⟩

set_option maxRecDepth 20000 in
set_option maxHeartbeats 1000000 in
theorem c_ref03_Make (n d : Int) (hd : d ≠ 0) : Fn Try.prog 99 [kZ.is n, kZ.is d] ((kPair kC kC).is (rmk n d)) := by
  refine Con.enter Try.func99 rfl rfl fun m w => ?_
  refine ST.fact (i := 0) rfl kZ_sm fun hsn => ?_
  refine ST.fact (i := 1) rfl kZ_sm fun hsd => ?_
  refine CW.seq ?_
  refine CW.region ?_
  refine WP.bx .n rfl fun b1 => ?_
  refine WP.bx .n rfl fun b2 => ?_
  refine WP.al .n z60_pr_C_C_ fun b3 => ?_
  refine WP.nil ?_
  refine QE.next ?_
  refine CW.seq ?_
  refine CW.region ?_
  refine WP.s .n (O.ld rfl (mem_at 2 rfl) (Lens.id _) ty31 rfl) ?_
  refine WP.s .n (O.fn fn92 (evs.c rfl evs.nil) (c_ref02_Norm n)) ?_
  refine WP.al .n z31_C fun b4 => ?_
  refine WP.t .n (O.stW (l := kC) (u := n) 0 rfl rfl rfl ty31 rfl (VP.le_refl _)) ?_
  refine WP.nil ?_
  refine QE.next ?_
  refine CW.seq ?_
  refine CW.region ?_
  refine WP.s .n (O.ld rfl (mem_at 2 rfl) (Lens.id _) ty31 rfl) ?_
  refine WP.s .n (O.fn fn92 (evs.c rfl evs.nil) (c_ref02_Norm d)) ?_
  refine WP.al .n z31_C fun b5 => ?_
  refine WP.t .n (O.stW (l := kC) (u := d) 0 rfl rfl rfl ty31 rfl (VP.le_refl _)) ?_
  refine WP.nil ?_
  refine QE.next ?_
  refine CW.cut2 (fun (n1 : Int) (d1 : Int) => n1 = n * d.sign ∧ d1 = (d.natAbs : Int) ∧ Sm n1 ∧ Sm d1) (fun (n1 : Int) (d1 : Int) => [(4, VP.ex (.pointer (some ⟨b3, 0, none⟩))), (5, VP.ex (.pointer (some ⟨b4, 0, none⟩))), (6, VP.ex (.pointer (some ⟨b5, 0, none⟩)))]) (fun (n1 : Int) (d1 : Int) => [OB.box b5 31 kC d1, OB.box b4 31 kC n1, OB.box b3 60 (kPair kC kC) (0, 0)]) ?_ ?_
  · refine CW.seq ?_
    refine CW.region ?_
    refine WP.s .n (O.ld rfl (mem_at 0 rfl) (Lens.id _) ty31 rfl) ?_
    refine WP.s .n (O.fn fn83 (evs.l rfl (kC_Z (by first | assumption | exact Sm_neg (by assumption))) evs.nil) (c_ref02_Sign d)) ?_
    refine WP.s .n (O.lt rfl rfl) ?_
    refine WP.nil ?_
    refine QE.next ?_
    refine CW.condD rfl (fun h_t20 => ?_) (fun h_t20 => ?_)
    · refine CW.seq ?_
      refine CW.region ?_
      refine WP.s .n (O.ld rfl (mem_at 1 rfl) (Lens.id _) ty31 rfl) ?_
      refine WP.s .n (O.fn fn93 (evs.l rfl (kC_Z (by first | assumption | exact Sm_neg (by assumption))) evs.nil) (c_ref02_Neg n)) ?_
      refine WP.t .n (O.stW (l := kC) (u := -n) 1 rfl rfl rfl ty31 rfl (VP.le_refl _)) ?_
      refine WP.nil ?_
      refine QE.next ?_
      refine CW.region ?_
      refine WP.s .n (O.ld rfl (mem_at 0 rfl) (Lens.id _) ty31 rfl) ?_
      refine WP.s .n (O.fn fn93 (evs.l rfl (kC_Z (by first | assumption | exact Sm_neg (by assumption))) evs.nil) (c_ref02_Neg d)) ?_
      refine WP.t .n (O.stW (l := kC) (u := -d) 0 rfl rfl rfl ty31 rfl (VP.le_refl _)) ?_
      refine WP.nil ?_
      exact QE.mid2 (-n) (-d) ⟨(mul_sign_neg (sgn_lt0 h_t20)).symm, by have := sgn_lt0 h_t20; omega, Sm_neg hsn, Sm_neg hsd⟩ (Imp.cons rfl (Imp.cons rfl (Imp.cons rfl Imp.nil))) (OImp.os (OS.keep (OS.keep (OS.keep (OS.skip (OS.skip OS.nil))))))
    · refine CW.skip ?_
      exact QE.mid2 n d ⟨(mul_sign_pos (by have := sgn_ge0 h_t20; omega)).symm, by have := sgn_ge0 h_t20; omega, hsn, hsd⟩ (Imp.cons rfl (Imp.cons rfl (Imp.cons rfl Imp.nil))) (OImp.os (OS.keep (OS.keep (OS.keep (OS.skip (OS.skip OS.nil))))))
  intro n1 d1 ⟨hn1, hd1, hs1, hs2⟩
  have hg : Nat.gcd (nval (canon n1).2) (nval (canon d1).2) = Int.gcd n d := by rw [canon_nval, canon_nval, ← gcd_sign hd, hn1, hd1]; rfl
  have hgn := gcd_ne (n := n) hd
  have hl1 := canon_len hs1
  have hl2 := canon_len hs2
  have hgl : (limbs (Nat.gcd (nval (canon n1).2) (nval (canon d1).2))).length ≤ 17179869184 := by rw [hg]; exact canon_len (z := ((Int.gcd n d : Nat) : Int)) (Sm_le hsd (gcd_le_abs hd))
  refine ST.obtold (b' := OB.box b5 31 kI ((canon d1).1, (canon d1).2)) 0 rfl OB.C_I ?_
  refine ST.obtold (b' := OB.box b4 31 kI ((canon n1).1, (canon n1).2)) 1 rfl OB.C_I ?_
  refine CW.seq ?_
  refine CW.region ?_
  refine WP.s .n (O.fa rfl fld31_1 rfl) ?_
  refine WP.s .n (O.ld rfl (mem_at 1 rfl) (Lens.snd (Lens.id _)) ty29 rfl) ?_
  refine WP.s .n (O.fa rfl fld31_1 rfl) ?_
  refine WP.s .n (O.ld rfl (mem_at 0 rfl) (Lens.snd (Lens.id _)) ty29 rfl) ?_
  refine WP.s .n (O.fn fn166 (evs.c rfl (evs.c rfl evs.nil)) (c_ref01_Gcd ((canon n1).2) ((canon d1).2) (by omega) (by omega))) ?_
  refine WP.s .n (O.asg rfl) ?_
  refine WP.nil ?_
  refine QE.next ?_
  refine CW.seq ?_
  refine CW.region ?_
  refine WP.s .n (O.fa rfl fld31_1 rfl) ?_
  refine WP.s .n (O.ld rfl (mem_at 1 rfl) (Lens.snd (Lens.id _)) ty29 rfl) ?_
  refine WP.s .n (O.mv rfl) ?_
  refine WP.s .n (O.fn fn162 (evs.c rfl (evs.c rfl evs.nil)) (c_ref01_Div ((canon n1).2) (limbs (Nat.gcd (nval ((canon n1).2)) (nval ((canon d1).2)))) (by omega) (by omega))) ?_
  refine WP.s .n (O.mv rfl) ?_
  refine WP.s .n (O.ext rfl rfl) ?_
  refine WP.s .n (O.ext rfl rfl) ?_
  refine WP.s .n (O.ext rfl rfl) ?_
  refine WP.s .n (O.asg rfl) ?_
  refine WP.s .n (O.asg rfl) ?_
  refine WP.s .n (O.asg rfl) ?_
  refine WP.nil ?_
  refine QE.next ?_
  refine CW.seq ?_
  refine ST.told 8 rfl (is_eq (y := (limbs (n1.natAbs / Int.gcd n d))) (by rw [nval_limbs, hg, canon_nval])) ?_
  have hlx : (limbs (n1.natAbs / Int.gcd n d)).length ≤ 17179869184 := Nat.le_trans (limbs_mono (Nat.div_le_self _ _)) hl1
  refine CW.region ?_
  refine WP.s .n (O.fa rfl fld31_1 rfl) ?_
  refine WP.s .n (O.ld rfl (mem_at 0 rfl) (Lens.snd (Lens.id _)) ty29 rfl) ?_
  refine WP.s .n (O.mv rfl) ?_
  refine WP.s .n (O.fn fn162 (evs.c rfl (evs.c rfl evs.nil)) (c_ref01_Div ((canon d1).2) (limbs (Nat.gcd (nval ((canon n1).2)) (nval ((canon d1).2)))) (by omega) (by omega))) ?_
  refine WP.s .n (O.mv rfl) ?_
  refine WP.s .n (O.ext rfl rfl) ?_
  refine WP.s .n (O.ext rfl rfl) ?_
  refine WP.s .n (O.ext rfl rfl) ?_
  refine WP.s .n (O.asg rfl) ?_
  refine WP.s .n (O.asg rfl) ?_
  refine WP.s .n (O.asg rfl) ?_
  refine WP.nil ?_
  refine QE.next ?_
  refine CW.seq ?_
  refine ST.told 11 rfl (is_eq (y := (limbs (d1.natAbs / Int.gcd n d))) (by rw [nval_limbs, hg, canon_nval])) ?_
  refine CW.region ?_
  refine WP.s .n (O.fa rfl fld31_0 rfl) ?_
  refine WP.s .n (O.ld rfl (mem_at 1 rfl) (Lens.fst (Lens.id _)) ty4 rfl) ?_
  refine WP.s .n (O.mv rfl) ?_
  refine WP.s .n (O.bld lit31_I rfl (evp.c rfl (evp.c rfl evp.n)) (.cons rfl (Lens.fst (Lens.id _)) (.cons rfl (Lens.snd (Lens.id _)) (.nil _)))) ?_
  refine WP.s .n (O.fn fn92 (evs.l rfl (kI_Z rfl (by omega)) evs.nil) (c_ref02_Norm (ival ((canon n1).1, (limbs (n1.natAbs / Int.gcd n d)))))) ?_
  refine ST.told 50 rfl (is_eq (y := (rmk n d).1) (by rw [hn1]; exact ival_div (by omega) (by rw [← gcd_sign hd]; exact Int.gcd_dvd_left ..))) ?_
  refine WP.s .n (O.mv rfl) ?_
  refine WP.s .n (O.bld lit31_I rfl (evp.c rfl evp.n) (.cons rfl (Lens.snd (Lens.id _)) (.nil _))) ?_
  refine ST.told (q := kC.is ((rmk n d).2)) 52 rfl (kI_C (rmk_den hd hd1)) ?_
  refine WP.s .n (O.bld lit60_pr_C_C_ rfl (evp.c rfl (evp.c rfl evp.n)) (.cons rfl (Lens.fst (Lens.id _)) (.cons rfl (Lens.snd (Lens.id _)) (.nil _)))) ?_
  refine WP.t .n (O.stW (l := (kPair kC kC)) (u := ((rmk n d).1, (rmk n d).2)) 2 rfl rfl rfl ty60 rfl (VP.le_refl _)) ?_
  refine WP.nil ?_
  refine QE.next ?_
  refine CW.ret ?_
  exact QE.done (.inl rfl) rfl (ResOk.cl rfl (mem_at 2 rfl) ty60 (is_eq (y := rmk n d) (by first | omega | rfl | assumption)) ResOk.nil) (OImp.sub (List.nil_sublist _)) ⟨rfl, rfl⟩

end Fw


/- Bits, density and the rows of a sum; the statement KnapWeights. -/
set_option linter.unusedVariables false
set_option linter.unusedSimpArgs false
set_option exponentiation.threshold 400
namespace Fw
open Go Go.Proofs

set_option maxRecDepth 20000 in
set_option maxHeartbeats 1000000 in
theorem c_ref04_Bits (b : List (List Int)) : Fn Try.prog 98 [(kSl (kSl kZ)).is b] ((kInt .i64).is (mbits b)) := by
  refine Con.enter Try.func98 rfl rfl fun m w => ?_
  refine ST.fact (i := 0) rfl sl_len fun hB => ?_
  refine CW.seq ?_
  refine CW.region ?_
  refine WP.s .n (O.asg rfl) ?_
  refine WP.nil ?_
  refine QE.next ?_
  refine CW.seq ?_
  refine CW.region ?_
  refine WP.s .n (O.asg rfl) ?_
  refine WP.nil ?_
  refine QE.next ?_
  refine CW.seq ?_
  refine CW.seq ?_
  refine CW.region ?_
  refine WP.s .n (O.asg rfl) ?_
  refine WP.nil ?_
  refine QE.next ?_
  refine CW.block ?_
  refine CW.loop (fun (i : Nat) => i ≤ b.length) (fun (i : Nat) => [(0, (kSl (kSl kZ)).is b), (3, (kInt .i64).is ((b.take i).foldl vbN 0)), (4, (kInt .i64).is (i : Int))]) (fun (i : Nat) => []) (fun (i : Nat) => b.length - i) 0 (by omega) (Imp.cons rfl (Imp.consLe rfl (is_eq (y := ((b.take 0).foldl vbN 0)) (by first | omega | rfl | assumption | simp)) (Imp.consLe rfl (is_eq (y := (0 : Int)) (by first | omega | rfl | assumption | simp)) Imp.nil))) (OImp.refl _) ?_
  intro i hi
  refine CW.seq ?_
  refine CW.seq ?_
  refine CW.region ?_
  refine WP.s .n (O.mv rfl) ?_
  refine WP.s .n (O.mv rfl) ?_
  refine WP.s .n (O.lenS rfl Try.underlying67) ?_
  refine WP.s .n (O.lt rfl rfl) ?_
  refine WP.nil ?_
  refine QE.next ?_
  refine CW.condD rfl (fun h_t9 => ?_) (fun h_t9 => ?_)
  · refine CW.skip ?_
    refine QE.next ?_
    refine CW.seq ?_
    refine CW.block ?_
    refine CW.seq ?_
    refine CW.region ?_
    refine WP.s .n (O.asg rfl) ?_
    refine WP.nil ?_
    refine QE.next ?_
    refine CW.block ?_
    refine CW.loop (fun (k : Nat) => k ≤ (b.getD i []).length) (fun (k : Nat) => [(0, (kSl (kSl kZ)).is b), (3, (kInt .i64).is (vbN ((b.take i).foldl vbN 0) ((b.getD i []).take k))), (4, (kInt .i64).is (i : Int)), (5, (kInt .i64).is (k : Int))]) (fun (k : Nat) => []) (fun (k : Nat) => (b.getD i []).length - k) 0 (by omega) (Imp.cons rfl (Imp.consLe rfl (is_eq (y := (vbN ((b.take i).foldl vbN 0) ((b.getD i []).take 0))) (by first | omega | rfl | assumption | simp)) (Imp.cons rfl (Imp.consLe rfl (is_eq (y := (0 : Int)) (by first | omega | rfl | assumption | simp)) Imp.nil)))) (OImp.refl _) ?_
    intro k hk
    refine CW.seq ?_
    refine CW.seq ?_
    refine CW.region ?_
    refine WP.s .n (O.mv rfl) ?_
    refine WP.s .n (O.mv rfl) ?_
    refine WP.s .n (O.mv rfl) ?_
    refine WP.s .n (O.ix i rfl rfl Try.underlying67 ty27 rfl (v := (b.getD i [])) (gd [] (by omega))) ?_
    refine WP.s .n (O.ldP rfl ty27) ?_
    refine ST.fact (i := 16) rfl sl_len fun hlk => ?_
    refine WP.s .n (O.lenS rfl Try.underlying27) ?_
    refine WP.s .n (O.lt rfl rfl) ?_
    refine WP.nil ?_
    refine QE.next ?_
    refine CW.condD rfl (fun h_t18 => ?_) (fun h_t18 => ?_)
    · refine CW.skip ?_
      refine QE.next ?_
      refine CW.seq ?_
      refine CW.block ?_
      have hlen : (b.getD i []).length ≤ 1099511627776 := by omega
      refine CW.region ?_
      refine WP.s .n (O.mv rfl) ?_
      refine WP.s .n (O.mv rfl) ?_
      refine WP.s .n (O.mv rfl) ?_
      refine WP.s .n (O.ix i rfl rfl Try.underlying67 ty27 rfl (v := (b.getD i [])) (gd [] (by omega))) ?_
      refine WP.s .n (O.ldP rfl ty27) ?_
      refine WP.s .n (O.mv rfl) ?_
      refine WP.s .n (O.ix k rfl rfl Try.underlying27 ty31 rfl (v := ((b.getD i []).getD k 0)) (gd 0 (by omega))) ?_
      refine WP.s .n (O.ldP rfl ty31) ?_
      refine WP.s .n (O.fn fn95 (evs.c rfl evs.nil) (c_ref02_Bits ((b.getD i []).getD k 0))) ?_
      refine WP.s .n (O.mx rfl rfl) ?_
      refine WP.s .n (O.asg rfl) ?_
      refine WP.nil ?_
      refine QE.blkN ?_
      refine QE.next ?_
      refine CW.region ?_
      refine WP.s .n (O.mv rfl) ?_
      refine WP.s .n (O.add rfl rfl (c := ((k : Int) + 1)) (w64 (by omega))) ?_
      refine WP.s .n (O.asg rfl) ?_
      refine WP.nil ?_
      refine ST.told 3 rfl (is_eq (y := (vbN ((b.take i).foldl vbN 0) ((b.getD i []).take (k + 1)))) (vbN_s (by omega))) ?_
      exact QE.round (k + 1) (by omega) (by omega) (Imp.cons rfl (Imp.cons rfl (Imp.cons rfl (Imp.consLe rfl (is_eq (y := (((k + 1) : Nat) : Int)) (by first | omega | rfl | assumption | simp)) Imp.nil)))) (OImp.refl _)
    · refine CW.exit ?_
      refine QE.thenE ?_
      refine QE.thenE ?_
      refine QE.blkH ?_
      refine QE.blkN ?_
      refine QE.next ?_
      refine CW.region ?_
      refine WP.s .n (O.mv rfl) ?_
      refine WP.s .n (O.add rfl rfl (c := ((i : Int) + 1)) (w64 (by omega))) ?_
      refine WP.s .n (O.asg rfl) ?_
      refine WP.nil ?_
      refine ST.told 3 rfl (is_eq (y := ((b.take (i + 1)).foldl vbN 0)) (mb_done (by omega) (by omega))) ?_
      exact QE.round (i + 1) (by omega) (by omega) (Imp.cons rfl (Imp.cons rfl (Imp.consLe rfl (is_eq (y := (((i + 1) : Nat) : Int)) (by first | omega | rfl | assumption | simp)) Imp.nil))) (OImp.refl _)
  · refine CW.exit ?_
    refine QE.thenE ?_
    refine QE.thenE ?_
    refine QE.blkH ?_
    refine QE.next ?_
    refine CW.seq ?_
    refine CW.region ?_
    refine WP.s .n (O.mv rfl) ?_
    refine WP.s .n (O.asg rfl) ?_
    refine WP.nil ?_
    refine QE.next ?_
    refine CW.ret ?_
    refine ST.told 2 rfl (is_eq (y := (mbits b)) (by rw [List.take_of_length_le (by omega)]; rfl)) ?_
    exact QE.done (.inl rfl) rfl (ResOk.t rfl ResOk.nil) (OImp.sub (List.nil_sublist _)) ⟨rfl, rfl⟩

set_option maxRecDepth 20000 in
set_option maxHeartbeats 1000000 in
theorem c_knap_Density (xs : List Int) : Fn Try.prog 33 [(kSl kZ).is xs] (VP.tup [(kPair kC kC).is (denV xs), (kInt .i64).is (wErr xs)]) := by
  refine Con.enter Try.func33 rfl rfl fun m w => ?_
  refine ST.fact (i := 0) rfl sl_len fun hB => ?_
  refine CW.seq ?_
  refine CW.region ?_
  refine WP.al .n z60_pr_C_C_ fun b1 => ?_
  refine WP.s .n (O.asg rfl) ?_
  refine WP.nil ?_
  refine QE.next ?_
  refine CW.seq ?_
  refine CW.seq ?_
  refine CW.region ?_
  refine WP.s .n (O.mv rfl) ?_
  refine WP.s .n (O.fn fn32 (evs.c rfl evs.nil) (c_knap_Valid xs)) ?_
  refine WP.s .n (O.asg rfl) ?_
  refine WP.nil ?_
  refine QE.next ?_
  refine CW.seq ?_
  refine CW.region ?_
  refine WP.s .n (O.mv rfl) ?_
  refine WP.s .n (O.ne rfl rfl) ?_
  refine WP.nil ?_
  refine QE.next ?_
  refine CW.condD rfl (fun h_t11 => ?_) (fun h_t11 => ?_)
  · refine CW.seq ?_
    refine CW.region ?_
    refine WP.s .n (O.bld lit60_pr_C_C_ rfl evp.n (.nil _)) ?_
    refine WP.s .n (O.mv rfl) ?_
    refine WP.t .n (O.stW (l := (kPair kC kC)) (u := (0, 0)) 0 rfl rfl rfl ty60 rfl (VP.le_refl _)) ?_
    refine WP.s .n (O.asg rfl) ?_
    refine WP.nil ?_
    refine QE.next ?_
    refine CW.ret ?_
    refine QE.thenR ?_
    refine ST.obtold 0 rfl (OB.box_eq (y := (denV xs)) (by unfold denV; rw [if_pos h_t11])) ?_
    exact QE.done (.inl rfl) rfl (ResOk.c rfl (mem_at 0 rfl) ty60 (ResOk.t rfl ResOk.nil)) (OImp.sub (List.nil_sublist _)) ⟨rfl, rfl⟩
  · refine CW.skip ?_
    refine QE.next ?_
    refine CW.seq ?_
    refine CW.region ?_
    refine WP.s .n (O.asg rfl) ?_
    refine WP.nil ?_
    refine QE.next ?_
    refine CW.seq ?_
    refine CW.seq ?_
    refine CW.region ?_
    refine WP.s .n (O.mv rfl) ?_
    refine WP.s .n (O.lenS rfl Try.underlying27) ?_
    refine WP.s .n (O.mv rfl) ?_
    refine WP.nil ?_
    refine QE.next ?_
    refine CW.block ?_
    refine CW.loop (fun (i : Nat) => i ≤ xs.length) (fun (i : Nat) => [(0, (kSl kZ).is xs), (2, VP.ex (.pointer (some ⟨b1, 0, none⟩))), (5, (kInt .i64).is (vbN 0 (xs.take i))), (14, (kSl kZ).is xs), (15, (kInt .i64).is (xs.length : Int)), (16, (kInt .i64).is (i : Int))]) (fun (i : Nat) => [OB.box b1 60 (kPair kC kC) (0, 0)]) (fun (i : Nat) => xs.length - i) 0 (by omega) (Imp.cons rfl (Imp.cons rfl (Imp.consLe rfl (is_eq (y := (vbN 0 (xs.take 0))) (by first | omega | rfl | assumption)) (Imp.cons rfl (Imp.cons rfl (Imp.consLe rfl (is_eq (y := (0 : Int)) (by first | omega | rfl | assumption)) Imp.nil)))))) (OImp.refl _) ?_
    intro i hi
    refine CW.seq ?_
    refine CW.region ?_
    refine WP.s .n (O.lt rfl rfl) ?_
    refine WP.nil ?_
    refine QE.next ?_
    refine CW.seq ?_
    refine CW.condD rfl (fun h_t17 => ?_) (fun h_t17 => ?_)
    · refine CW.skip ?_
      refine QE.next ?_
      refine CW.seq ?_
      refine CW.block ?_
      refine CW.seq ?_
      refine CW.region ?_
      refine WP.s .n (O.ix i rfl rfl Try.underlying27 ty31 rfl (v := (xs.getD i 0)) (gd 0 (by omega))) ?_
      refine WP.s .n (O.ldP rfl ty31) ?_
      refine WP.al .n z31_C fun b2 => ?_
      refine WP.t .n (O.stW (l := kZ) (u := (xs.getD i 0)) 0 rfl rfl rfl ty31 rfl (VP.le_refl _)) ?_
      refine WP.nil ?_
      refine QE.next ?_
      refine CW.region ?_
      refine WP.s .n (O.mv rfl) ?_
      refine WP.s .n (O.ld rfl (mem_at 0 rfl) (Lens.id _) ty31 rfl) ?_
      refine WP.s .n (O.fn fn96 (evs.c rfl evs.nil) (c_zint_Bits (xs.getD i 0))) ?_
      refine WP.s .n (O.mx rfl rfl) ?_
      refine WP.s .n (O.asg rfl) ?_
      refine WP.nil ?_
      refine QE.blkN ?_
      refine QE.next ?_
      refine CW.region ?_
      refine WP.s .n (O.add rfl rfl (c := ((i : Int) + 1)) (w64 (by omega))) ?_
      refine WP.s .n (O.mv rfl) ?_
      refine WP.nil ?_
      refine ST.told 5 rfl (is_eq (y := (vbN 0 (xs.take (i + 1)))) (vbN_s (by omega))) ?_
      exact QE.round (i + 1) (by omega) (by omega) (Imp.cons rfl (Imp.cons rfl (Imp.cons rfl (Imp.cons rfl (Imp.cons rfl (Imp.consLe rfl (is_eq (y := (((i + 1) : Nat) : Int)) (by first | omega | rfl | assumption)) Imp.nil)))))) (OImp.os (OS.skip (OS.keep OS.nil)))
    · refine CW.exit ?_
      refine QE.thenE ?_
      refine QE.thenE ?_
      refine QE.blkH ?_
      refine QE.next ?_
      refine CW.seq ?_
      have hvb := vbits_pos (wErr_0 h_t11)
      refine ST.told 5 rfl (is_eq (y := (vbits xs)) (by rw [List.take_of_length_le (by omega)]; rfl)) ?_
      refine ST.fact (i := 5) rfl int_any fun hv5 => ?_
      have hsl : Sm (xs.length : Int) := Sm_lit (by omega)
      have hsv : Sm (vbits xs) := vbits_Sm (wErr_0 h_t11)
      have hv6 := vbits_le (wErr_0 h_t11)
      refine CW.region ?_
      refine WP.s .n (O.mv rfl) ?_
      refine WP.s .n (O.lenS rfl Try.underlying27) ?_
      refine WP.s .n (O.fn fn74 (evs.l rfl (i64_int (by omega)) evs.nil) (c_zint_Of (xs.length : Int))) ?_
      refine WP.s .n (O.mv rfl) ?_
      refine WP.s .n (O.fn fn74 (evs.l rfl (i64_int (by omega)) evs.nil) (c_zint_Of (vbits xs))) ?_
      refine WP.s .n (O.fn fn97 (evs.l rfl (kC_Z (by first | assumption | exact Sm_lit (by decide))) (evs.l rfl (kC_Z (by first | assumption | exact Sm_lit (by decide))) evs.nil)) (c_rat_Make (xs.length : Int) (vbits xs))) ?_
      refine WP.s .n (O.ext rfl rfl) ?_
      refine WP.s .n (O.ext rfl rfl) ?_
      refine WP.t .n (O.stW (l := (kPair kC kC)) (u := if (vbits xs) = 0 then (0, 0) else rmk (xs.length : Int) (vbits xs)) 0 rfl rfl rfl ty60 rfl (VP.le_refl _)) ?_
      refine WP.s .n (O.asg rfl) ?_
      refine WP.nil ?_
      refine QE.next ?_
      refine CW.ret ?_
      refine ST.obtold 0 rfl (OB.box_eq (y := (denV xs)) (by unfold denV; rw [if_neg h_t11, if_neg (by omega)])) ?_
      refine ST.told 3 rfl (is_eq (y := (wErr xs)) (by rw [if_neg (by omega)]; omega)) ?_
      exact QE.done (.inl rfl) rfl (ResOk.c rfl (mem_at 0 rfl) ty60 (ResOk.t rfl ResOk.nil)) (OImp.sub (List.nil_sublist _)) ⟨rfl, rfl⟩

set_option maxRecDepth 20000 in
set_option maxHeartbeats 1000000 in
theorem c_ref24_Density (xs : List Int) (hk : wOk xs = true) : Fn Try.prog 37 [(kSl kZ).is xs] ((kPair kC kC).is (denV xs)) := by
  refine Con.enter Try.func37 rfl rfl fun m w => ?_
  refine ST.fact (i := 0) rfl sl_len fun hB => ?_
  have hvb := vbits_pos hk
  have hv6 := vbits_le hk
  have hsl : Sm (xs.length : Int) := Sm_lit (by omega)
  have hsv : Sm (vbits xs) := vbits_Sm hk
  refine CW.seq ?_
  refine CW.region ?_
  refine WP.al .n z60_pr_C_C_ fun b1 => ?_
  refine WP.nil ?_
  refine QE.next ?_
  refine CW.seq ?_
  refine CW.region ?_
  refine WP.s .n (O.mv rfl) ?_
  refine WP.s .n (O.bs Try.underlying67 el27_sl_Z (evl.c rfl evl.n) rfl (by decide)) ?_
  refine WP.s .n (O.fn fn98 (evs.c rfl evs.nil) (c_ref04_Bits [xs])) ?_
  refine WP.s .n (O.asg rfl) ?_
  refine WP.nil ?_
  refine QE.next ?_
  refine CW.seq ?_
  refine ST.told 3 rfl (is_eq (y := (vbits xs)) rfl) ?_
  refine CW.region ?_
  refine WP.s .n (O.mv rfl) ?_
  refine WP.s .n (O.lenS rfl Try.underlying27) ?_
  refine WP.s .n (O.fn fn78 (evs.l rfl (i64_int (by omega)) evs.nil) (c_ref02_Of (xs.length : Int))) ?_
  refine WP.s .n (O.mv rfl) ?_
  refine WP.s .n (O.fn fn78 (evs.l rfl (i64_int (by omega)) evs.nil) (c_ref02_Of (vbits xs))) ?_
  refine WP.s .n (O.fn fn99 (evs.l rfl (kC_Z (by assumption)) (evs.l rfl (kC_Z (by assumption)) evs.nil)) (c_ref03_Make (xs.length : Int) (vbits xs) (by omega))) ?_
  refine WP.t .n (O.stW (l := (kPair kC kC)) (u := rmk (xs.length : Int) (vbits xs)) 0 rfl rfl rfl ty60 rfl (VP.le_refl _)) ?_
  refine WP.nil ?_
  refine QE.next ?_
  refine CW.ret ?_
  refine ST.obtold 0 rfl (OB.box_eq (y := (denV xs)) (by unfold denV; rw [if_neg (by have := wErr_ok' hk; omega)])) ?_
  exact QE.done (.inl rfl) rfl (ResOk.c rfl (mem_at 0 rfl) ty60 ResOk.nil) (OImp.sub (List.nil_sublist _)) ⟨rfl, rfl⟩

set_option maxRecDepth 20000 in
set_option maxHeartbeats 1000000 in
theorem c_knap_Climbs (xs : List Int) : Fn Try.prog 34 [(kSl kZ).is xs] (VP.tup [kBool.is (if wErr xs ≠ 0 then false else climb xs), (kInt .i64).is (wErr xs)]) := by
  refine Con.enter Try.func34 rfl rfl fun m w => ?_
  refine ST.fact (i := 0) rfl sl_len fun hB => ?_
  refine CW.seq ?_
  refine CW.region ?_
  refine WP.s .n (O.asg rfl) ?_
  refine WP.s .n (O.asg rfl) ?_
  refine WP.nil ?_
  refine QE.next ?_
  refine CW.seq ?_
  refine CW.seq ?_
  refine CW.region ?_
  refine WP.s .n (O.mv rfl) ?_
  refine WP.s .n (O.fn fn32 (evs.c rfl evs.nil) (c_knap_Valid xs)) ?_
  refine WP.s .n (O.asg rfl) ?_
  refine WP.nil ?_
  refine QE.next ?_
  refine CW.seq ?_
  refine CW.region ?_
  refine WP.s .n (O.mv rfl) ?_
  refine WP.s .n (O.ne rfl rfl) ?_
  refine WP.nil ?_
  refine QE.next ?_
  refine CW.condD rfl (fun h_t8 => ?_) (fun h_t8 => ?_)
  · refine CW.seq ?_
    refine CW.region ?_
    refine WP.s .n (O.mv rfl) ?_
    refine WP.s .n (O.asg rfl) ?_
    refine WP.s .n (O.asg rfl) ?_
    refine WP.nil ?_
    refine QE.next ?_
    refine CW.ret ?_
    refine QE.thenR ?_
    refine ST.told 2 rfl (is_eq (y := (if wErr xs ≠ 0 then false else climb xs)) (by rw [if_pos h_t8])) ?_
    exact QE.done (.inl rfl) rfl (ResOk.t rfl (ResOk.t rfl ResOk.nil)) (OImp.sub (List.nil_sublist _)) ⟨rfl, rfl⟩
  · refine CW.skip ?_
    refine QE.next ?_
    refine CW.seq ?_
    refine CW.region ?_
    refine WP.s .n (O.mv rfl) ?_
    refine WP.s .n (O.fn fn81 (evs.c rfl evs.nil) (c_knap_climbs xs (wErr_0 h_t8))) ?_
    refine WP.s .n (O.asg rfl) ?_
    refine WP.s .n (O.asg rfl) ?_
    refine WP.nil ?_
    refine QE.next ?_
    refine CW.ret ?_
    refine ST.told 2 rfl (is_eq (y := (if wErr xs ≠ 0 then false else climb xs)) (by rw [if_neg h_t8])) ?_
    exact QE.done (.inl rfl) rfl (ResOk.t rfl (ResOk.tl rfl (is_eq (y := wErr xs) (by first | omega | rfl)) ResOk.nil)) (OImp.sub (List.nil_sublist _)) ⟨rfl, rfl⟩

set_option maxRecDepth 20000 in
set_option maxHeartbeats 1000000 in
theorem c_knap_asked (xs : List Int) (s : Int) : Fn Try.prog 100 [(kSl kZ).is xs, kZ.is s] ((kInt .i64).is (sErr xs s)) := by
  refine Con.enter Try.func100 rfl rfl fun m w => ?_
  refine ST.fact (i := 0) rfl sl_len fun hB => ?_
  refine CW.seq ?_
  refine CW.region ?_
  refine WP.bx .n rfl fun b1 => ?_
  refine WP.s .n (O.asg rfl) ?_
  refine WP.nil ?_
  refine QE.next ?_
  refine CW.seq ?_
  refine CW.seq ?_
  refine CW.region ?_
  refine WP.s .n (O.mv rfl) ?_
  refine WP.s .n (O.fn fn32 (evs.c rfl evs.nil) (c_knap_Valid xs)) ?_
  refine WP.s .n (O.asg rfl) ?_
  refine WP.nil ?_
  refine QE.next ?_
  refine CW.seq ?_
  refine CW.region ?_
  refine WP.s .n (O.mv rfl) ?_
  refine WP.s .n (O.ne rfl rfl) ?_
  refine WP.nil ?_
  refine QE.next ?_
  refine CW.condD rfl (fun h_t9 => ?_) (fun h_t9 => ?_)
  · refine CW.seq ?_
    refine CW.region ?_
    refine WP.s .n (O.mv rfl) ?_
    refine WP.s .n (O.asg rfl) ?_
    refine WP.nil ?_
    refine QE.next ?_
    refine CW.ret ?_
    refine QE.thenR ?_
    refine ST.told 4 rfl (is_eq (y := (sErr xs s)) (by rw [sErr_1 h_t9])) ?_
    exact QE.done (.inl rfl) rfl (ResOk.t rfl ResOk.nil) (OImp.sub (List.nil_sublist _)) ⟨rfl, rfl⟩
  · refine CW.skip ?_
    refine QE.next ?_
    refine CW.seq ?_
    refine CW.seq ?_
    refine CW.region ?_
    refine WP.s .n (O.ld rfl (mem_at 0 rfl) (Lens.id _) ty31 rfl) ?_
    refine WP.s .n (O.fn fn80 (evs.c rfl evs.nil) (c_zint_Sign s)) ?_
    refine WP.s .n (O.lt rfl rfl) ?_
    refine WP.s .n (O.mv rfl) ?_
    refine WP.splitD 14 rfl (fun h_t14 => ?_) (fun h_t14 => ?_)
    · refine WP.ku (b := true) rfl rfl ?_
      refine WP.ku (b := true) rfl rfl ?_
      refine WP.ku (b := true) rfl rfl ?_
      refine WP.s .n (O.pickT rfl rfl) ?_
      refine WP.nil ?_
      refine QE.next ?_
      refine CW.condT rfl ?_
      refine CW.seq ?_
      refine CW.region ?_
      refine WP.s .n (O.asg rfl) ?_
      refine WP.nil ?_
      refine QE.next ?_
      refine CW.ret ?_
      refine QE.thenR ?_
      refine ST.told 4 rfl (is_eq (y := (sErr xs s)) (by rw [sErr_2 h_t9 (.inl (sgn_lt0 h_t14))])) ?_
      exact QE.done (.inl rfl) rfl (ResOk.t rfl ResOk.nil) (OImp.sub (List.nil_sublist _)) ⟨rfl, rfl⟩
    · refine WP.s (.g rfl rfl) (O.ld rfl (mem_at 0 rfl) (Lens.id _) ty31 rfl) ?_
      refine WP.s (.g rfl rfl) (O.fn fn96 (evs.c rfl evs.nil) (c_zint_Bits s)) ?_
      refine WP.s (.g rfl rfl) (O.gt rfl rfl) ?_
      refine WP.s .n (O.pickF rfl rfl) ?_
      refine WP.nil ?_
      refine QE.next ?_
      refine CW.condD rfl (fun h_t18 => ?_) (fun h_t18 => ?_)
      · refine CW.seq ?_
        refine CW.region ?_
        refine WP.s .n (O.asg rfl) ?_
        refine WP.nil ?_
        refine QE.next ?_
        refine CW.ret ?_
        refine QE.thenR ?_
        refine ST.told 4 rfl (is_eq (y := (sErr xs s)) (by rw [sErr_2 h_t9 (.inr (by omega))])) ?_
        exact QE.done (.inl rfl) rfl (ResOk.t rfl ResOk.nil) (OImp.sub (List.nil_sublist _)) ⟨rfl, rfl⟩
      · refine CW.skip ?_
        refine QE.next ?_
        refine CW.seq ?_
        refine CW.region ?_
        refine WP.s .n (O.asg rfl) ?_
        refine WP.nil ?_
        refine QE.next ?_
        refine CW.ret ?_
        refine ST.told 4 rfl (is_eq (y := (sErr xs s)) (by rw [sErr_3 h_t9 (by have := sgn_ge0 h_t14; omega)])) ?_
        exact QE.done (.inl rfl) rfl (ResOk.t rfl ResOk.nil) (OImp.sub (List.nil_sublist _)) ⟨rfl, rfl⟩

set_option maxRecDepth 20000 in
set_option maxHeartbeats 1000000 in
theorem c_ref24_Sum (xs : List Int) (s : Int) : Fn Try.prog 39 [(kSl kZ).is xs, kZ.is s] ((kInt .i64).is (sErr xs s)) := by
  refine Con.enter Try.func39 rfl rfl fun m w => ?_
  refine ST.fact (i := 0) rfl sl_len fun hB => ?_
  refine CW.seq ?_
  refine CW.region ?_
  refine WP.bx .n rfl fun b1 => ?_
  refine WP.s .n (O.asg rfl) ?_
  refine WP.nil ?_
  refine QE.next ?_
  refine CW.seq ?_
  refine CW.region ?_
  refine WP.s .n (O.mv rfl) ?_
  refine WP.s .n (O.fn fn31 (evs.c rfl evs.nil) (c_ref24_Valid xs)) ?_
  refine WP.s .n (O.asg rfl) ?_
  refine WP.nil ?_
  refine QE.next ?_
  refine CW.seq ?_
  refine CW.seq ?_
  refine CW.region ?_
  refine WP.s .n (O.mv rfl) ?_
  refine WP.s .n (O.eq rfl rfl) ?_
  refine WP.s .n (O.mv rfl) ?_
  refine WP.splitD 10 rfl (fun h_t10 => ?_) (fun h_t10 => ?_)
  · refine WP.s (.g rfl rfl) (O.ld rfl (mem_at 0 rfl) (Lens.id _) ty31 rfl) ?_
    refine WP.s (.g rfl rfl) (O.fn fn83 (evs.c rfl evs.nil) (c_ref02_Sign s)) ?_
    refine WP.s (.g rfl rfl) (O.lt rfl rfl) ?_
    refine WP.s (.g rfl rfl) (O.mv rfl) ?_
    refine WP.splitD 14 rfl (fun h_t14 => ?_) (fun h_t14 => ?_)
    · refine WP.ku (b := true) rfl rfl ?_
      refine WP.ku (b := true) rfl rfl ?_
      refine WP.ku (b := true) rfl rfl ?_
      refine WP.s (.g rfl rfl) (O.pickT rfl rfl) ?_
      refine WP.s .n (O.pickT rfl rfl) ?_
      refine WP.nil ?_
      refine QE.next ?_
      refine CW.condT rfl ?_
      refine CW.seq ?_
      refine CW.region ?_
      refine WP.s .n (O.asg rfl) ?_
      refine WP.nil ?_
      refine QE.next ?_
      refine CW.ret ?_
      refine QE.thenR ?_
      refine ST.told 4 rfl (is_eq (y := (sErr xs s)) (by rw [sErr_2 (by omega) (.inl (sgn_lt0 h_t14))])) ?_
      exact QE.done (.inl rfl) rfl (ResOk.t rfl ResOk.nil) (OImp.sub (List.nil_sublist _)) ⟨rfl, rfl⟩
    · refine WP.s (.g rfl rfl) (O.ld rfl (mem_at 0 rfl) (Lens.id _) ty31 rfl) ?_
      refine WP.s (.g rfl rfl) (O.fn fn95 (evs.c rfl evs.nil) (c_ref02_Bits s)) ?_
      refine WP.s (.g rfl rfl) (O.gt rfl rfl) ?_
      refine WP.s (.g rfl rfl) (O.pickF rfl rfl) ?_
      refine WP.s .n (O.pickT rfl rfl) ?_
      refine WP.nil ?_
      refine QE.next ?_
      refine CW.condD rfl (fun h_t19 => ?_) (fun h_t19 => ?_)
      · refine CW.seq ?_
        refine CW.region ?_
        refine WP.s .n (O.asg rfl) ?_
        refine WP.nil ?_
        refine QE.next ?_
        refine CW.ret ?_
        refine QE.thenR ?_
        refine ST.told 4 rfl (is_eq (y := (sErr xs s)) (by rw [sErr_2 (by omega) (.inr (by omega))])) ?_
        exact QE.done (.inl rfl) rfl (ResOk.t rfl ResOk.nil) (OImp.sub (List.nil_sublist _)) ⟨rfl, rfl⟩
      · refine CW.skip ?_
        refine QE.next ?_
        refine CW.seq ?_
        refine CW.region ?_
        refine WP.s .n (O.mv rfl) ?_
        refine WP.s .n (O.asg rfl) ?_
        refine WP.nil ?_
        refine QE.next ?_
        refine CW.ret ?_
        refine ST.told 4 rfl (is_eq (y := (sErr xs s)) (by rw [sErr_3 (by omega) (by have := sgn_ge0 h_t14; omega)]; omega)) ?_
        exact QE.done (.inl rfl) rfl (ResOk.t rfl ResOk.nil) (OImp.sub (List.nil_sublist _)) ⟨rfl, rfl⟩
  · refine WP.ku (b := false) rfl rfl ?_
    refine WP.ku (b := false) rfl rfl ?_
    refine WP.ku (b := false) rfl rfl ?_
    refine WP.ku (b := false) rfl rfl ?_
    refine WP.kk rfl rfl ?_
    refine WP.kk rfl rfl ?_
    refine WP.kk rfl rfl ?_
    refine WP.ku (b := false) rfl rfl ?_
    refine WP.s .n (O.pickF rfl rfl) ?_
    refine WP.nil ?_
    refine QE.next ?_
    refine CW.condF rfl ?_
    refine CW.skip ?_
    refine QE.next ?_
    refine CW.seq ?_
    refine CW.region ?_
    refine WP.s .n (O.mv rfl) ?_
    refine WP.s .n (O.asg rfl) ?_
    refine WP.nil ?_
    refine QE.next ?_
    refine CW.ret ?_
    refine ST.told 4 rfl (is_eq (y := (sErr xs s)) (by rw [sErr_1 h_t10])) ?_
    exact QE.done (.inl rfl) rfl (ResOk.t rfl ResOk.nil) (OImp.sub (List.nil_sublist _)) ⟨rfl, rfl⟩

set_option maxRecDepth 20000 in
set_option maxHeartbeats 1000000 in
theorem c_knap_Rows (xs : List Int) (s : Int) : Fn Try.prog 38 [(kSl kZ).is xs, kZ.is s] (VP.tup [(kSl (kSl kC)).is (rowsV xs s), (kInt .i64).is (sErr xs s)]) := by
  refine Con.enter Try.func38 rfl rfl fun m w => ?_
  refine ST.fact (i := 0) rfl sl_len fun hB => ?_
  refine CW.seq ?_
  refine CW.region ?_
  refine WP.bx .n rfl fun b1 => ?_
  refine WP.s .n (O.asg rfl) ?_
  refine WP.s .n (O.asg rfl) ?_
  refine WP.nil ?_
  refine QE.next ?_
  refine CW.seq ?_
  refine CW.seq ?_
  refine CW.region ?_
  refine WP.s .n (O.mv rfl) ?_
  refine WP.s .n (O.ld rfl (mem_at 0 rfl) (Lens.id _) ty31 rfl) ?_
  refine WP.s .n (O.fn fn100 (evs.c rfl (evs.c rfl evs.nil)) (c_knap_asked xs s)) ?_
  refine WP.s .n (O.asg rfl) ?_
  refine WP.nil ?_
  refine QE.next ?_
  refine CW.seq ?_
  refine CW.region ?_
  refine WP.s .n (O.mv rfl) ?_
  refine WP.s .n (O.ne rfl rfl) ?_
  refine WP.nil ?_
  refine QE.next ?_
  refine CW.condD rfl (fun h_t18 => ?_) (fun h_t18 => ?_)
  · refine CW.seq ?_
    refine CW.region ?_
    refine WP.s .n (O.mv rfl) ?_
    refine WP.s .n (O.asg rfl) ?_
    refine WP.s .n (O.asg rfl) ?_
    refine WP.nil ?_
    refine QE.next ?_
    refine CW.ret ?_
    refine QE.thenR ?_
    refine ST.told (q := (kSl (kSl kC)).is ([] : List (List Int))) 4 rfl (nil_le _) ?_
    refine ST.told 4 rfl (is_eq (y := (rowsV xs s)) (by unfold rowsV; rw [if_pos h_t18])) ?_
    exact QE.done (.inl rfl) rfl (ResOk.t rfl (ResOk.t rfl ResOk.nil)) (OImp.sub (List.nil_sublist _)) ⟨rfl, rfl⟩
  · have hok := wErr_0 (sErr_w h_t18)
    have hlw := wOk_len hok
    refine CW.skip ?_
    refine QE.next ?_
    refine CW.seq ?_
    refine CW.region ?_
    refine WP.s .n (O.mv rfl) ?_
    refine WP.s .n (O.lenS rfl Try.underlying27) ?_
    refine WP.s .n (O.asg rfl) ?_
    refine WP.nil ?_
    refine QE.next ?_
    refine CW.seq ?_
    have hsb : Sm ((xs.length : Int) + 2) := Sm_lit (by omega)
    refine CW.region ?_
    refine WP.s .n (O.mv rfl) ?_
    refine WP.s .n (O.add rfl rfl (c := ((xs.length : Int) + 2)) (w64 (by omega))) ?_
    refine WP.s .n (O.fn fn74 (evs.l rfl (i64_int (by omega)) evs.nil) (c_zint_Of ((xs.length : Int) + 2))) ?_
    refine WP.al .n z31_C fun b2 => ?_
    refine WP.t .n (O.stW (l := kC) (u := ((xs.length : Int) + 2)) 0 rfl rfl rfl ty31 rfl (VP.le_refl _)) ?_
    refine WP.nil ?_
    refine QE.next ?_
    refine CW.seq ?_
    refine CW.region ?_
    refine WP.s .n (O.asg rfl) ?_
    refine WP.nil ?_
    refine QE.next ?_
    refine CW.seq ?_
    refine CW.seq ?_
    refine CW.region ?_
    refine WP.s .n (O.mv rfl) ?_
    refine WP.s .n (O.mv rfl) ?_
    refine WP.nil ?_
    refine QE.next ?_
    refine CW.block ?_
    refine ST.nilrow 27 (kSl kC) ?_
    refine CW.loop2 (fun (i : Nat) (v : Value) => i ≤ xs.length) (fun (i : Nat) (v : Value) => [(0, (kSl kZ).is xs), (3, VP.ex (.pointer (some ⟨b1, 0, none⟩))), (7, (kInt .i64).is (xs.length : Int)), (8, VP.ex (.pointer (some ⟨b2, 0, none⟩))), (9, VP.ex v), (25, (kInt .i64).is (xs.length : Int)), (26, (kInt .i64).is (i : Int))]) (fun (i : Nat) (v : Value) => [OB.row v 27 (kSl kC) ((List.range i).map (rowK xs s)), OB.box b2 31 kC ((xs.length : Int) + 2), OB.box b1 31 kZ s]) (fun (i : Nat) (v : Value) => xs.length - i) 0 (.slice none 0 0) (by omega) (Imp.cons rfl (Imp.cons rfl (Imp.cons rfl (Imp.cons rfl (Imp.cons rfl (Imp.cons rfl (Imp.consLe rfl (is_eq (y := (0 : Int)) (by first | omega | rfl | assumption | simp)) Imp.nil))))))) (OImp.os (OS.keepLe (OB.row_eq (by first | omega | rfl | assumption | simp)) (OS.keep (OS.keep OS.nil)))) ?_
    intro i v hi
    have hmap : ((List.range i).map (rowK xs s)).length = i := by simp
    refine CW.seq ?_
    refine CW.region ?_
    refine WP.s .n (O.lt rfl rfl) ?_
    refine WP.nil ?_
    refine QE.next ?_
    refine CW.seq ?_
    refine CW.condD rfl (fun h_t27 => ?_) (fun h_t27 => ?_)
    · refine CW.skip ?_
      refine QE.next ?_
      refine CW.seq ?_
      refine CW.block ?_
      refine CW.seq ?_
      refine CW.region ?_
      refine WP.s .n (O.mv rfl) ?_
      refine WP.s .n (O.asg rfl) ?_
      refine WP.nil ?_
      refine QE.next ?_
      refine CW.seq ?_
      refine CW.region ?_
      refine WP.s .n (O.mv rfl) ?_
      refine WP.s .n (O.add rfl rfl (c := ((xs.length : Int) + 2)) (w64 (by omega))) ?_
      refine WP.mk (xs.length + 2) .n rfl rfl (by omega) (by first | omega | (simp <;> omega) | (rw [onesTo_len (by omega)]; omega)) Try.underlying27 el31_C z31_C fun v3 => ?_
      refine WP.s .n (O.asg rfl) ?_
      refine WP.nil ?_
      refine QE.next ?_
      refine CW.seq ?_
      refine CW.draw (Γ := [.fr (VP.ex v3), .fr ((kInt .i64).is (i : Int)), .lt (VP.ex v3), .lt ((kInt .i64).is (xs.length : Int)), .lt ((kInt .i64).is ((xs.length : Int) + 1)), .fr (kC.is 2), .fr (kC.is ((xs.length : Int) + 2)), .fr ((kSl kZ).is xs), .fr ((kInt .i64).is (i : Int)), .fr (VP.pim kZ (xs.getD i 0)), .fr (kZ.is (xs.getD i 0)), .fr (kC.is (((xs.length : Int) + 2) * (xs.getD i 0))), .fr (VP.pel v3 (i * 2))]) (lates := [false, false, true, true, true, false, false, false, false, false, false, false, false]) (by kernel_rfl) (Chk.of rfl (by kernel_rfl) rfl) (fun _ _ _ _ _ h => h) (fun q_ x_ h_ => ?_) (fun σ => ?_)
      · match q_, h_ with
        | 0, h_ => cases h_; exact Ob.f rfl .n fun N => (O.mv rfl)
        | 1, h_ => cases h_; exact Ob.f rfl .n fun N => (O.mv rfl)
        | 2, h_ => cases h_; exact Ob.l rfl .n (OV.mv rfl)
        | 3, h_ => cases h_; exact Ob.l rfl .n (OV.mv rfl)
        | 4, h_ => cases h_; exact Ob.l rfl .n (OV.add rfl rfl (c := ((xs.length : Int) + 1)) (w64 (by omega)))
        | 5, h_ => cases h_; exact Ob.f rfl .n fun N => (O.fn fn74 (evs.l rfl (i64_int (by omega)) evs.nil) (c_zint_Of 2))
        | 6, h_ => cases h_; exact Ob.f rfl .n fun N => (O.ld rfl (mem_app N (mem_at 2 rfl)) (Lens.id _) ty31 rfl)
        | 7, h_ => cases h_; exact Ob.f rfl .n fun N => (O.mv rfl)
        | 8, h_ => cases h_; exact Ob.f rfl .n fun N => (O.mv rfl)
        | 9, h_ => cases h_; exact Ob.f rfl .n fun N => (O.ix i rfl rfl Try.underlying27 ty31 rfl (v := (xs.getD i 0)) (gd 0 (by first | omega | (simp <;> omega) | (rw [onesTo_len (by omega)]; omega))))
        | 10, h_ => cases h_; exact Ob.f rfl .n fun N => (O.ldP rfl ty31)
        | 11, h_ => cases h_; exact Ob.f rfl .n fun N => (O.fn fn76 (evs.l rfl (kC_Z (by first | assumption | exact Sm_lit (by decide))) (evs.c rfl evs.nil)) (c_zint_Mul ((xs.length : Int) + 2) (xs.getD i 0)))
        | 12, h_ => cases h_; exact Ob.f rfl .n fun N => (O.ixR (k := kC) (xs := (List.replicate (xs.length + 2) 0)) (n := (i : Int)) i rfl rfl (mem_app N (mem_at 0 rfl)) Try.underlying27 ty31 rfl (by first | omega | (simp <;> omega) | (rw [onesTo_len (by omega)]; omega)))
        | n_ + 13, h_ => simp at h_
      refine WP.t .n (O.stR 0 i rfl rfl (Lens.id _) rfl (y0 := ((List.replicate (xs.length + 2) 0).getD i 0)) (gd 0 (by first | omega | (simp <;> omega) | (rw [onesTo_len (by omega)]; omega))) ty31 rfl (VP.le_refl _)) ?_
      refine WP.s .n (O.ixR (k := kC) (xs := ((List.replicate (xs.length + 2) 0).set i 2)) (n := ((xs.length : Int) + 1)) (xs.length + 1) rfl rfl (mem_at 0 rfl) Try.underlying27 ty31 (by omega) (by first | omega | (simp <;> omega) | (rw [onesTo_len (by omega)]; omega))) ?_
      refine WP.t .n (O.stR 0 (xs.length + 1) rfl rfl (Lens.id _) rfl (y0 := (((List.replicate (xs.length + 2) 0).set i 2).getD (xs.length + 1) 0)) (gd 0 (by first | omega | (simp <;> omega) | (rw [onesTo_len (by omega)]; omega))) ty31 rfl (VP.le_refl _)) ?_
      refine WP.nil ?_
      refine QE.next ?_
      refine ST.obtold 0 rfl (OB.row_eq (ys := ((rowK xs s i))) (rowK_prog (by omega))) ?_
      refine ST.freeze 0 rfl (.keep (i := 0) rfl (.keep (i := 3) rfl (.keep (i := 7) rfl (.keep (i := 8) rfl (.keep (i := 9) rfl (.keep (i := 10) rfl (.hit (i := 11) rfl (.keep (i := 25) rfl (.keep (i := 26) rfl (.keep (i := 27) rfl (.keep (i := 28) rfl (.keep (i := 29) rfl (.keep (i := 30) rfl (.hit (i := 31) rfl (.hit (i := 32) rfl (.keep (i := 33) rfl (.hit (i := 34) rfl (.keep (i := 35) rfl (.keep (i := 36) rfl (.keep (i := 37) rfl (.keep (i := 38) rfl (.keep (i := 39) rfl (.keep (i := 40) rfl (.keep (i := 41) rfl (.keep (i := 42) rfl (.keep (i := 43) rfl (.keep (i := 44) rfl (.keep (i := 45) rfl .nil)))))))))))))))))))))))))))) ?_
      refine CW.region ?_
      refine WP.s .n (O.mv rfl) ?_
      refine WP.s .n (O.mv rfl) ?_
      refine WP.s .n (O.bs Try.underlying67 el27_sl_C (evl.c rfl evl.n) rfl (by decide)) ?_
      refine WP.ap 0 .n rfl rfl rfl (VP.le_refl _) Try.underlying67 el27_sl_C (by simp <;> omega) fun v4 => ?_
      refine WP.s .n (O.asg rfl) ?_
      refine WP.nil ?_
      refine QE.blkN ?_
      refine QE.next ?_
      refine CW.region ?_
      refine WP.s .n (O.add rfl rfl (c := ((i : Int) + 1)) (w64 (by omega))) ?_
      refine WP.s .n (O.mv rfl) ?_
      refine WP.nil ?_
      refine ST.obtold 0 rfl (OB.row_eq (ys := ((List.range (i + 1)).map (rowK xs s))) rowsK_s) ?_
      exact QE.round2 (i + 1) v4 (by omega) (by omega) (Imp.cons rfl (Imp.cons rfl (Imp.cons rfl (Imp.cons rfl (Imp.cons rfl (Imp.cons rfl (Imp.consLe rfl (is_eq (y := (((i + 1) : Nat) : Int)) (by first | omega | rfl | assumption | simp)) Imp.nil))))))) (OImp.refl _)
    · refine CW.exit ?_
      refine QE.thenE ?_
      refine QE.thenE ?_
      refine QE.blkH ?_
      refine QE.next ?_
      refine CW.seq ?_
      refine CW.region ?_
      refine WP.s .n (O.mv rfl) ?_
      refine WP.s .n (O.add rfl rfl (c := ((xs.length : Int) + 2)) (w64 (by omega))) ?_
      refine WP.mk (xs.length + 2) .n rfl rfl (by omega) (by first | omega | (simp <;> omega) | (rw [onesTo_len (by omega)]; omega)) Try.underlying27 el31_C z31_C fun v5 => ?_
      refine WP.s .n (O.asg rfl) ?_
      refine WP.nil ?_
      refine QE.next ?_
      refine CW.seq ?_
      refine CW.seq ?_
      refine CW.region ?_
      refine WP.s .n (O.mv rfl) ?_
      refine WP.s .n (O.add rfl rfl (c := ((xs.length : Int) + 1)) (w64 (by omega))) ?_
      refine WP.s .n (O.mv rfl) ?_
      refine WP.nil ?_
      refine QE.next ?_
      refine CW.block ?_
      refine ST.obtold 0 rfl (OB.row_eq (ys := (onesTo (xs.length + 2) 0)) (onesTo_0 _)) ?_
      refine ST.obtold 1 rfl (OB.row_eq (ys := ((List.range xs.length).map (rowK xs s))) (by rw [show i = xs.length from by omega])) ?_
      refine CW.loop2 (fun (i : Nat) (vL : Value) => i ≤ xs.length + 1) (fun (i : Nat) (vL : Value) => [(0, (kSl kZ).is xs), (3, VP.ex (.pointer (some ⟨b1, 0, none⟩))), (7, (kInt .i64).is (xs.length : Int)), (8, VP.ex (.pointer (some ⟨b2, 0, none⟩))), (9, VP.ex v), (12, VP.ex vL), (55, (kInt .i64).is ((xs.length : Int) + 1)), (56, (kInt .i64).is (i : Int))]) (fun (i : Nat) (vL : Value) => [OB.row vL 31 kC (onesTo (xs.length + 2) i), OB.row v 27 (kSl kC) ((List.range xs.length).map (rowK xs s)), OB.box b2 31 kC ((xs.length : Int) + 2), OB.box b1 31 kZ s]) (fun (i : Nat) (vL : Value) => xs.length + 1 - i) 0 v5 (by omega) (Imp.cons rfl (Imp.cons rfl (Imp.cons rfl (Imp.cons rfl (Imp.cons rfl (Imp.cons rfl (Imp.cons rfl (Imp.consLe rfl (is_eq (y := (0 : Int)) (by first | omega | rfl | assumption | simp)) Imp.nil)))))))) (OImp.refl _) ?_
      intro i vL hi
      have hol := onesTo_len (n := xs.length + 2) (i := i) (by omega)
      refine CW.seq ?_
      refine CW.region ?_
      refine WP.s .n (O.lt rfl rfl) ?_
      refine WP.nil ?_
      refine QE.next ?_
      refine CW.seq ?_
      refine CW.condD rfl (fun h_t57 => ?_) (fun h_t57 => ?_)
      · refine CW.skip ?_
        refine QE.next ?_
        refine CW.seq ?_
        refine CW.block ?_
        refine CW.seq ?_
        refine CW.region ?_
        refine WP.s .n (O.mv rfl) ?_
        refine WP.s .n (O.asg rfl) ?_
        refine WP.nil ?_
        refine QE.next ?_
        refine CW.region ?_
        refine WP.s .n (O.mv rfl) ?_
        refine WP.s .n (O.mv rfl) ?_
        refine WP.s .n (O.fn fn74 (evs.l rfl (i64_int (by omega)) evs.nil) (c_zint_Of 1)) ?_
        refine WP.s .n (O.ixR (k := kC) (xs := (onesTo (xs.length + 2) i)) (n := (i : Int)) i rfl rfl (mem_at 0 rfl) Try.underlying27 ty31 rfl (by first | omega | (simp <;> omega) | (rw [onesTo_len (by omega)]; omega))) ?_
        refine WP.t .n (O.stR 0 i rfl rfl (Lens.id _) rfl (y0 := ((onesTo (xs.length + 2) i).getD i 0)) (gd 0 (by first | omega | (simp <;> omega) | (rw [onesTo_len (by omega)]; omega))) ty31 rfl (VP.le_refl _)) ?_
        refine WP.nil ?_
        refine QE.blkN ?_
        refine QE.next ?_
        refine CW.region ?_
        refine WP.s .n (O.add rfl rfl (c := ((i : Int) + 1)) (w64 (by omega))) ?_
        refine WP.s .n (O.mv rfl) ?_
        refine WP.nil ?_
        refine ST.obtold 0 rfl (OB.row_eq (ys := (onesTo (xs.length + 2) (i + 1))) (onesTo_s (by omega))) ?_
        exact QE.round2 (i + 1) vL (by omega) (by omega) (Imp.cons rfl (Imp.cons rfl (Imp.cons rfl (Imp.cons rfl (Imp.cons rfl (Imp.cons rfl (Imp.cons rfl (Imp.consLe rfl (is_eq (y := (((i + 1) : Nat) : Int)) (by first | omega | rfl | assumption | simp)) Imp.nil)))))))) (OImp.refl _)
      · refine CW.exit ?_
        refine QE.thenE ?_
        refine QE.thenE ?_
        refine QE.blkH ?_
        refine QE.next ?_
        refine CW.seq ?_
        refine CW.region ?_
        refine WP.s .n (O.mv rfl) ?_
        refine WP.s .n (O.mv rfl) ?_
        refine WP.s .n (O.add rfl rfl (c := ((xs.length : Int) + 1)) (w64 (by omega))) ?_
        refine WP.s .n (O.ld rfl (mem_at 2 rfl) (Lens.id _) ty31 rfl) ?_
        refine WP.s .n (O.ld rfl (mem_at 3 rfl) (Lens.id _) ty31 rfl) ?_
        refine WP.s .n (O.fn fn76 (evs.l rfl (kC_Z (by first | assumption | exact Sm_lit (by decide))) (evs.c rfl evs.nil)) (c_zint_Mul ((xs.length : Int) + 2) s)) ?_
        refine WP.s .n (O.ixR (k := kC) (xs := (onesTo (xs.length + 2) i)) (n := ((xs.length : Int) + 1)) (xs.length + 1) rfl rfl (mem_at 0 rfl) Try.underlying27 ty31 (by omega) (by first | omega | (simp <;> omega) | (rw [onesTo_len (by omega)]; omega))) ?_
        refine WP.t .n (O.stR 0 (xs.length + 1) rfl rfl (Lens.id _) rfl (y0 := ((onesTo (xs.length + 2) i).getD (xs.length + 1) 0)) (gd 0 (by first | omega | (simp <;> omega) | (rw [onesTo_len (by omega)]; omega))) ty31 rfl (VP.le_refl _)) ?_
        refine WP.nil ?_
        refine QE.next ?_
        refine CW.seq ?_
        refine ST.obtold 0 rfl (OB.row_eq (ys := ((rowK xs s xs.length))) (by rw [show i = xs.length + 1 from by omega, onesTo_last]; exact rowK_last)) ?_
        refine ST.freeze 0 rfl (.keep (i := 0) rfl (.keep (i := 3) rfl (.keep (i := 7) rfl (.keep (i := 8) rfl (.keep (i := 9) rfl (.hit (i := 12) rfl (.keep (i := 55) rfl (.keep (i := 56) rfl (.keep (i := 57) rfl (.hit (i := 64) rfl (.keep (i := 65) rfl (.keep (i := 66) rfl (.keep (i := 67) rfl (.keep (i := 68) rfl (.keep (i := 69) rfl (.keep (i := 70) rfl .nil)))))))))))))))) ?_
        refine CW.region ?_
        refine WP.s .n (O.mv rfl) ?_
        refine WP.s .n (O.mv rfl) ?_
        refine WP.s .n (O.bs Try.underlying67 el27_sl_C (evl.c rfl evl.n) rfl (by decide)) ?_
        refine WP.ap 0 .n rfl rfl rfl (VP.le_refl _) Try.underlying67 el27_sl_C (by simp <;> omega) fun v6 => ?_
        refine WP.s .n (O.asg rfl) ?_
        refine WP.s .n (O.asg rfl) ?_
        refine WP.nil ?_
        refine QE.next ?_
        refine CW.ret ?_
        refine ST.freeze 0 rfl (.keep (i := 0) rfl (.keep (i := 3) rfl (.hit (i := 4) rfl (.keep (i := 5) rfl (.keep (i := 7) rfl (.keep (i := 8) rfl (.keep (i := 9) rfl (.keep (i := 12) rfl (.keep (i := 55) rfl (.keep (i := 56) rfl (.keep (i := 57) rfl (.keep (i := 64) rfl (.keep (i := 65) rfl (.keep (i := 66) rfl (.keep (i := 67) rfl (.keep (i := 68) rfl (.keep (i := 69) rfl (.keep (i := 70) rfl (.keep (i := 71) rfl (.keep (i := 72) rfl (.keep (i := 73) rfl (.hit (i := 74) rfl .nil)))))))))))))))))))))) ?_
        refine ST.told 4 rfl (is_eq (y := (rowsV xs s)) (by unfold rowsV; rw [if_neg h_t18]; exact rowsK_s)) ?_
        refine ST.told 5 rfl (is_eq (y := (sErr xs s)) (by omega)) ?_
        exact QE.done (.inl rfl) rfl (ResOk.t rfl (ResOk.t rfl ResOk.nil)) (OImp.sub (List.nil_sublist _)) ⟨rfl, rfl⟩

set_option maxRecDepth 20000 in
set_option maxHeartbeats 1000000 in
theorem c_ref24_Rows (xs : List Int) (s : Int) (hl : xs.length ≤ 10) : Fn Try.prog 41 [(kSl kZ).is xs, kZ.is s] ((kSl (kSl kC)).is (rowsK xs s)) := by
  refine Con.enter Try.func41 rfl rfl fun m w => ?_
  refine ST.fact (i := 0) rfl sl_len fun hB => ?_
  refine CW.seq ?_
  refine CW.region ?_
  refine WP.bx .n rfl fun b1 => ?_
  refine WP.s .n (O.asg rfl) ?_
  refine WP.nil ?_
  refine QE.next ?_
  refine CW.seq ?_
  refine CW.region ?_
  refine WP.s .n (O.mv rfl) ?_
  refine WP.s .n (O.lenS rfl Try.underlying27) ?_
  refine WP.s .n (O.asg rfl) ?_
  refine WP.nil ?_
  refine QE.next ?_
  refine CW.seq ?_
  refine CW.region ?_
  refine WP.s .n (O.mv rfl) ?_
  refine WP.s .n (O.add rfl rfl (c := ((xs.length : Int) + 2)) (w64 (by omega))) ?_
  refine WP.s .n (O.fn fn78 (evs.l rfl (i64_int (by omega)) evs.nil) (c_ref02_Of ((xs.length : Int) + 2))) ?_
  refine WP.al .n z31_C fun b2 => ?_
  refine WP.t .n (O.stW (l := kC) (u := ((xs.length : Int) + 2)) 0 rfl rfl rfl ty31 rfl (VP.le_refl _)) ?_
  refine WP.nil ?_
  refine QE.next ?_
  refine CW.seq ?_
  have hsb : Sm ((xs.length : Int) + 2) := Sm_lit (by omega)
  refine CW.region ?_
  refine WP.s .n (O.asg rfl) ?_
  refine WP.nil ?_
  refine QE.next ?_
  refine CW.seq ?_
  refine CW.seq ?_
  refine CW.region ?_
  refine WP.s .n (O.asg rfl) ?_
  refine WP.nil ?_
  refine QE.next ?_
  refine CW.block ?_
  refine ST.nilrow 27 (kSl kC) ?_
  refine CW.loop2 (fun (i : Nat) (v : Value) => i ≤ xs.length + 1) (fun (i : Nat) (v : Value) => [(0, (kSl kZ).is xs), (3, VP.ex (.pointer (some ⟨b1, 0, none⟩))), (5, (kInt .i64).is (xs.length : Int)), (6, VP.ex (.pointer (some ⟨b2, 0, none⟩))), (7, VP.ex v), (8, (kInt .i64).is (i : Int))]) (fun (i : Nat) (v : Value) => [OB.row v 27 (kSl kC) ((List.range i).map (rowK xs s)), OB.box b2 31 kC ((xs.length : Int) + 2), OB.box b1 31 kZ s]) (fun (i : Nat) (v : Value) => xs.length + 1 - i) 0 (.slice none 0 0) (by omega) (Imp.cons rfl (Imp.cons rfl (Imp.cons rfl (Imp.cons rfl (Imp.cons rfl (Imp.consLe rfl (is_eq (y := (0 : Int)) (by first | omega | rfl | assumption | simp)) Imp.nil)))))) (OImp.os (OS.keepLe (OB.row_eq (by first | omega | rfl | assumption | simp)) (OS.keep (OS.keep OS.nil)))) ?_
  intro i v hi
  have hmap : ((List.range i).map (rowK xs s)).length = i := by simp
  refine CW.seq ?_
  refine CW.seq ?_
  refine CW.region ?_
  refine WP.s .n (O.mv rfl) ?_
  refine WP.s .n (O.mv rfl) ?_
  refine WP.s .n (O.le rfl rfl) ?_
  refine WP.nil ?_
  refine QE.next ?_
  refine CW.condD rfl (fun h_t18 => ?_) (fun h_t18 => ?_)
  · refine CW.skip ?_
    refine QE.next ?_
    refine CW.seq ?_
    refine CW.block ?_
    refine CW.seq ?_
    refine CW.region ?_
    refine WP.s .n (O.asg rfl) ?_
    refine WP.nil ?_
    refine QE.next ?_
    refine CW.seq ?_
    refine CW.seq ?_
    refine CW.region ?_
    refine WP.s .n (O.asg rfl) ?_
    refine WP.nil ?_
    refine QE.next ?_
    refine CW.block ?_
    refine ST.nilrow 31 kC ?_
    refine CW.loop2 (fun (c : Nat) (u : Value) => c ≤ xs.length + 1) (fun (c : Nat) (u : Value) => [(0, (kSl kZ).is xs), (3, VP.ex (.pointer (some ⟨b1, 0, none⟩))), (5, (kInt .i64).is (xs.length : Int)), (6, VP.ex (.pointer (some ⟨b2, 0, none⟩))), (7, VP.ex v), (8, (kInt .i64).is (i : Int)), (9, VP.ex u), (10, (kInt .i64).is (c : Int))]) (fun (c : Nat) (u : Value) => [OB.row u 31 kC ((List.range c).map (rowF xs.length i)), OB.row v 27 (kSl kC) ((List.range i).map (rowK xs s)), OB.box b2 31 kC ((xs.length : Int) + 2), OB.box b1 31 kZ s]) (fun (c : Nat) (u : Value) => xs.length + 1 - c) 0 (.slice none 0 0) (by omega) (Imp.cons rfl (Imp.cons rfl (Imp.cons rfl (Imp.cons rfl (Imp.cons rfl (Imp.cons rfl (Imp.cons rfl (Imp.consLe rfl (is_eq (y := (0 : Int)) (by first | omega | rfl | assumption | simp)) Imp.nil)))))))) (OImp.os (OS.keepLe (OB.row_eq (by first | omega | rfl | assumption | simp)) (OS.keep (OS.keep (OS.keep OS.nil))))) ?_
    intro c u hc
    refine CW.seq ?_
    refine CW.seq ?_
    refine CW.region ?_
    refine WP.s .n (O.mv rfl) ?_
    refine WP.s .n (O.mv rfl) ?_
    refine WP.s .n (O.le rfl rfl) ?_
    refine WP.nil ?_
    refine QE.next ?_
    refine CW.condD rfl (fun h_t23 => ?_) (fun h_t23 => ?_)
    · refine CW.skip ?_
      refine QE.next ?_
      refine CW.seq ?_
      refine CW.block ?_
      refine CW.block ?_
      refine CW.seq ?_
      refine CW.region ?_
      refine WP.s .n (O.mv rfl) ?_
      refine WP.s .n (O.mv rfl) ?_
      refine WP.s .n (O.eq rfl rfl) ?_
      refine WP.s .n (O.asg rfl) ?_
      refine WP.nil ?_
      refine QE.next ?_
      refine CW.condD rfl (fun h_t30 => ?_) (fun h_t30 => ?_)
      · have hin : i = xs.length := by omega
        refine CW.region ?_
        refine WP.s .n (O.mv rfl) ?_
        refine WP.s .n (O.fn fn78 (evs.l rfl (i64_int (by omega)) evs.nil) (c_ref02_Of 1)) ?_
        refine WP.s .n (O.bs Try.underlying27 el31_C (evl.c rfl evl.n) rfl (by decide)) ?_
        refine WP.ap 0 .n rfl rfl rfl (VP.le_refl _) Try.underlying27 el31_C (by simp <;> omega) fun v3 => ?_
        refine WP.s .n (O.asg rfl) ?_
        refine WP.nil ?_
        refine QE.blkN ?_
        refine QE.blkN ?_
        refine QE.next ?_
        refine CW.region ?_
        refine WP.s .n (O.mv rfl) ?_
        refine WP.s .n (O.add rfl rfl (c := ((c : Int) + 1)) (w64 (by omega))) ?_
        refine WP.s .n (O.asg rfl) ?_
        refine WP.nil ?_
        refine ST.obtold 0 rfl (OB.row_eq (ys := ((List.range (c + 1)).map (rowF xs.length i))) (by rw [← map_range_s]; unfold rowF; rw [if_pos hin])) ?_
        exact QE.round2 (c + 1) v3 (by omega) (by omega) (Imp.cons rfl (Imp.cons rfl (Imp.cons rfl (Imp.cons rfl (Imp.cons rfl (Imp.cons rfl (Imp.cons rfl (Imp.consLe rfl (is_eq (y := (((c + 1) : Nat) : Int)) (by first | omega | rfl | assumption | simp)) Imp.nil)))))))) (OImp.refl _)
      · have hin : i ≠ xs.length := by omega
        refine CW.seq ?_
        refine CW.region ?_
        refine WP.s .n (O.mv rfl) ?_
        refine WP.s .n (O.mv rfl) ?_
        refine WP.s .n (O.eq rfl rfl) ?_
        refine WP.s .n (O.asg rfl) ?_
        refine WP.nil ?_
        refine QE.next ?_
        refine CW.condD rfl (fun h_t38 => ?_) (fun h_t38 => ?_)
        · refine CW.region ?_
          refine WP.s .n (O.mv rfl) ?_
          refine WP.s .n (O.fn fn78 (evs.l rfl (i64_int (by omega)) evs.nil) (c_ref02_Of 2)) ?_
          refine WP.s .n (O.bs Try.underlying27 el31_C (evl.c rfl evl.n) rfl (by decide)) ?_
          refine WP.ap 0 .n rfl rfl rfl (VP.le_refl _) Try.underlying27 el31_C (by simp <;> omega) fun v4 => ?_
          refine WP.s .n (O.asg rfl) ?_
          refine WP.nil ?_
          refine QE.blkN ?_
          refine QE.blkN ?_
          refine QE.next ?_
          refine CW.region ?_
          refine WP.s .n (O.mv rfl) ?_
          refine WP.s .n (O.add rfl rfl (c := ((c : Int) + 1)) (w64 (by omega))) ?_
          refine WP.s .n (O.asg rfl) ?_
          refine WP.nil ?_
          refine ST.obtold 0 rfl (OB.row_eq (ys := ((List.range (c + 1)).map (rowF xs.length i))) (by rw [← map_range_s]; unfold rowF; rw [if_neg hin, if_pos (by omega)])) ?_
          exact QE.round2 (c + 1) v4 (by omega) (by omega) (Imp.cons rfl (Imp.cons rfl (Imp.cons rfl (Imp.cons rfl (Imp.cons rfl (Imp.cons rfl (Imp.cons rfl (Imp.consLe rfl (is_eq (y := (((c + 1) : Nat) : Int)) (by first | omega | rfl | assumption | simp)) Imp.nil)))))))) (OImp.refl _)
        · refine CW.region ?_
          refine WP.s .n (O.mv rfl) ?_
          refine WP.s .n (O.fn fn78 (evs.l rfl (i64_int (by omega)) evs.nil) (c_ref02_Of 0)) ?_
          refine WP.s .n (O.bs Try.underlying27 el31_C (evl.c rfl evl.n) rfl (by decide)) ?_
          refine WP.ap 0 .n rfl rfl rfl (VP.le_refl _) Try.underlying27 el31_C (by simp <;> omega) fun v5 => ?_
          refine WP.s .n (O.asg rfl) ?_
          refine WP.nil ?_
          refine QE.blkN ?_
          refine QE.blkN ?_
          refine QE.next ?_
          refine CW.region ?_
          refine WP.s .n (O.mv rfl) ?_
          refine WP.s .n (O.add rfl rfl (c := ((c : Int) + 1)) (w64 (by omega))) ?_
          refine WP.s .n (O.asg rfl) ?_
          refine WP.nil ?_
          refine ST.obtold 0 rfl (OB.row_eq (ys := ((List.range (c + 1)).map (rowF xs.length i))) (by rw [← map_range_s]; unfold rowF; rw [if_neg hin, if_neg (by omega)])) ?_
          exact QE.round2 (c + 1) v5 (by omega) (by omega) (Imp.cons rfl (Imp.cons rfl (Imp.cons rfl (Imp.cons rfl (Imp.cons rfl (Imp.cons rfl (Imp.cons rfl (Imp.consLe rfl (is_eq (y := (((c + 1) : Nat) : Int)) (by first | omega | rfl | assumption | simp)) Imp.nil)))))))) (OImp.refl _)
    · refine CW.exit ?_
      refine QE.thenE ?_
      refine QE.thenE ?_
      refine QE.blkH ?_
      refine QE.next ?_
      refine CW.seq ?_
      refine CW.seq ?_
      refine CW.region ?_
      refine WP.s .n (O.mv rfl) ?_
      refine WP.s .n (O.mv rfl) ?_
      refine WP.s .n (O.eq rfl rfl) ?_
      refine WP.nil ?_
      refine QE.next ?_
      refine CW.condD rfl (fun h_t48 => ?_) (fun h_t48 => ?_)
      · refine CW.region ?_
        refine WP.s .n (O.mv rfl) ?_
        refine WP.s .n (O.ld rfl (mem_at 2 rfl) (Lens.id _) ty31 rfl) ?_
        refine WP.s .n (O.ld rfl (mem_at 3 rfl) (Lens.id _) ty31 rfl) ?_
        refine WP.s .n (O.fn fn91 (evs.l rfl (kC_Z (by first | assumption | exact Sm_lit (by decide))) (evs.c rfl evs.nil)) (c_ref02_Mul ((xs.length : Int) + 2) s)) ?_
        refine WP.s .n (O.bs Try.underlying27 el31_C (evl.c rfl evl.n) rfl (by decide)) ?_
        refine WP.ap 0 .n rfl rfl rfl (VP.le_refl _) Try.underlying27 el31_C (by simp <;> omega) fun v6 => ?_
        refine WP.s .n (O.asg rfl) ?_
        refine WP.nil ?_
        refine QE.next ?_
        have hin : i = xs.length := by omega
        refine ST.obtold 0 rfl (OB.row_eq (ys := ((rowK xs s i))) (by unfold rowK; rw [if_pos hin, show c = xs.length + 1 from by omega])) ?_
        refine ST.freeze 0 rfl (.keep (i := 0) rfl (.keep (i := 3) rfl (.keep (i := 5) rfl (.keep (i := 6) rfl (.keep (i := 7) rfl (.keep (i := 8) rfl (.hit (i := 9) rfl (.keep (i := 10) rfl (.keep (i := 21) rfl (.keep (i := 22) rfl (.keep (i := 23) rfl (.keep (i := 46) rfl (.keep (i := 47) rfl (.keep (i := 48) rfl (.keep (i := 49) rfl (.keep (i := 50) rfl (.keep (i := 51) rfl (.keep (i := 52) rfl (.keep (i := 53) rfl (.hit (i := 54) rfl .nil)))))))))))))))))))) ?_
        refine CW.region ?_
        refine WP.s .n (O.mv rfl) ?_
        refine WP.s .n (O.mv rfl) ?_
        refine WP.s .n (O.bs Try.underlying67 el27_sl_C (evl.c rfl evl.n) rfl (by decide)) ?_
        refine WP.ap 0 .n rfl rfl rfl (VP.le_refl _) Try.underlying67 el27_sl_C (by simp <;> omega) fun v7 => ?_
        refine WP.s .n (O.asg rfl) ?_
        refine WP.nil ?_
        refine QE.blkN ?_
        refine QE.next ?_
        refine CW.region ?_
        refine WP.s .n (O.mv rfl) ?_
        refine WP.s .n (O.add rfl rfl (c := ((i : Int) + 1)) (w64 (by omega))) ?_
        refine WP.s .n (O.asg rfl) ?_
        refine WP.nil ?_
        refine ST.obtold 0 rfl (OB.row_eq (ys := ((List.range (i + 1)).map (rowK xs s))) rowsK_s) ?_
        exact QE.round2 (i + 1) v7 (by omega) (by omega) (Imp.cons rfl (Imp.cons rfl (Imp.cons rfl (Imp.cons rfl (Imp.cons rfl (Imp.consLe rfl (is_eq (y := (((i + 1) : Nat) : Int)) (by first | omega | rfl | assumption | simp)) Imp.nil)))))) (OImp.refl _)
      · refine CW.draw (Γ := [.fr (VP.ex u), .fr (kC.is ((xs.length : Int) + 2)), .fr ((kSl kZ).is xs), .fr ((kInt .i64).is (i : Int)), .fr (VP.pim kZ (xs.getD i 0)), .fr (kZ.is (xs.getD i 0)), .fr (kC.is (((xs.length : Int) + 2) * (xs.getD i 0))), .fr ((kSl kC).is [((xs.length : Int) + 2) * (xs.getD i 0)])]) (lates := [false, false, false, false, false, false, false, false]) (by kernel_rfl) (Chk.of rfl (by kernel_rfl) rfl) (fun _ _ _ _ _ h => h) (fun q_ x_ h_ => ?_) (fun σ => ?_)
        · match q_, h_ with
          | 0, h_ => cases h_; exact Ob.f rfl .n fun N => (O.mv rfl)
          | 1, h_ => cases h_; exact Ob.f rfl .n fun N => (O.ld rfl (mem_app N (mem_at 2 rfl)) (Lens.id _) ty31 rfl)
          | 2, h_ => cases h_; exact Ob.f rfl .n fun N => (O.mv rfl)
          | 3, h_ => cases h_; exact Ob.f rfl .n fun N => (O.mv rfl)
          | 4, h_ => cases h_; exact Ob.f rfl .n fun N => (O.ix i rfl rfl Try.underlying27 ty31 rfl (v := (xs.getD i 0)) (gd 0 (by omega)))
          | 5, h_ => cases h_; exact Ob.f rfl .n fun N => (O.ldP rfl ty31)
          | 6, h_ => cases h_; exact Ob.f rfl .n fun N => (O.fn fn91 (evs.l rfl (kC_Z (by first | assumption | exact Sm_lit (by decide))) (evs.c rfl evs.nil)) (c_ref02_Mul ((xs.length : Int) + 2) (xs.getD i 0)))
          | 7, h_ => cases h_; exact Ob.f rfl .n fun N => (O.bs Try.underlying27 el31_C (evl.c rfl evl.n) rfl (by decide))
          | n_ + 8, h_ => simp at h_
        refine WP.ap 0 .n rfl rfl rfl (VP.le_refl _) Try.underlying27 el31_C (by simp <;> omega) fun v8 => ?_
        refine WP.s .n (O.asg rfl) ?_
        refine WP.nil ?_
        refine QE.next ?_
        have hin : i ≠ xs.length := by omega
        refine ST.obtold 0 rfl (OB.row_eq (ys := ((rowK xs s i))) (by unfold rowK; rw [if_neg hin, show c = xs.length + 1 from by omega])) ?_
        refine ST.freeze 0 rfl (.keep (i := 0) rfl (.keep (i := 3) rfl (.keep (i := 5) rfl (.keep (i := 6) rfl (.keep (i := 7) rfl (.keep (i := 8) rfl (.hit (i := 9) rfl (.keep (i := 10) rfl (.keep (i := 21) rfl (.keep (i := 22) rfl (.keep (i := 23) rfl (.keep (i := 46) rfl (.keep (i := 47) rfl (.keep (i := 48) rfl (.keep (i := 55) rfl (.keep (i := 56) rfl (.keep (i := 57) rfl (.keep (i := 58) rfl (.keep (i := 59) rfl (.keep (i := 60) rfl (.keep (i := 61) rfl (.keep (i := 62) rfl (.hit (i := 63) rfl .nil))))))))))))))))))))))) ?_
        refine CW.region ?_
        refine WP.s .n (O.mv rfl) ?_
        refine WP.s .n (O.mv rfl) ?_
        refine WP.s .n (O.bs Try.underlying67 el27_sl_C (evl.c rfl evl.n) rfl (by decide)) ?_
        refine WP.ap 0 .n rfl rfl rfl (VP.le_refl _) Try.underlying67 el27_sl_C (by simp <;> omega) fun v9 => ?_
        refine WP.s .n (O.asg rfl) ?_
        refine WP.nil ?_
        refine QE.blkN ?_
        refine QE.next ?_
        refine CW.region ?_
        refine WP.s .n (O.mv rfl) ?_
        refine WP.s .n (O.add rfl rfl (c := ((i : Int) + 1)) (w64 (by omega))) ?_
        refine WP.s .n (O.asg rfl) ?_
        refine WP.nil ?_
        refine ST.obtold 0 rfl (OB.row_eq (ys := ((List.range (i + 1)).map (rowK xs s))) rowsK_s) ?_
        exact QE.round2 (i + 1) v9 (by omega) (by omega) (Imp.cons rfl (Imp.cons rfl (Imp.cons rfl (Imp.cons rfl (Imp.cons rfl (Imp.consLe rfl (is_eq (y := (((i + 1) : Nat) : Int)) (by first | omega | rfl | assumption | simp)) Imp.nil)))))) (OImp.refl _)
  · refine CW.exit ?_
    refine QE.thenE ?_
    refine QE.thenE ?_
    refine QE.blkH ?_
    refine QE.next ?_
    refine CW.seq ?_
    refine CW.region ?_
    refine WP.s .n (O.mv rfl) ?_
    refine WP.s .n (O.asg rfl) ?_
    refine WP.nil ?_
    refine QE.next ?_
    refine CW.ret ?_
    refine ST.freeze 0 rfl (.keep (i := 0) rfl (.keep (i := 3) rfl (.hit (i := 4) rfl (.keep (i := 5) rfl (.keep (i := 6) rfl (.hit (i := 7) rfl (.keep (i := 8) rfl (.keep (i := 16) rfl (.keep (i := 17) rfl (.keep (i := 18) rfl (.hit (i := 68) rfl .nil))))))))))) ?_
    refine ST.told 4 rfl (is_eq (y := (rowsK xs s)) (by rw [show i = xs.length + 1 from by omega]; rfl)) ?_
    exact QE.done (.inl rfl) rfl (ResOk.t rfl ResOk.nil) (OImp.sub (List.nil_sublist _)) ⟨rfl, rfl⟩

set_option maxRecDepth 20000 in
set_option maxHeartbeats 1000000 in
theorem c_law24_eqs (x y : List Int) : Fn Try.prog 47 [(kSl kC).is x, (kSl kC).is y] (kBool.is (decide (x = y))) := by
  refine Con.enter Try.func47 rfl rfl fun m w => ?_
  refine ST.fact (i := 0) rfl sl_len fun hB => ?_
  refine CW.seq ?_
  refine CW.region ?_
  refine WP.s .n (O.asg rfl) ?_
  refine WP.nil ?_
  refine QE.next ?_
  refine CW.seq ?_
  refine CW.seq ?_
  refine CW.region ?_
  refine WP.s .n (O.mv rfl) ?_
  refine WP.s .n (O.lenS rfl Try.underlying27) ?_
  refine WP.s .n (O.mv rfl) ?_
  refine WP.s .n (O.lenS rfl Try.underlying27) ?_
  refine WP.s .n (O.ne rfl rfl) ?_
  refine WP.nil ?_
  refine QE.next ?_
  refine CW.condD rfl (fun h_t10 => ?_) (fun h_t10 => ?_)
  · refine CW.seq ?_
    refine CW.region ?_
    refine WP.s .n (O.asg rfl) ?_
    refine WP.nil ?_
    refine QE.next ?_
    refine CW.ret ?_
    refine QE.thenR ?_
    refine ST.told 4 rfl (is_eq (y := (decide (x = y))) (by rw [eq_comm, decide_eq_false_iff_not]; intro e; exact h_t10 (by rw [e]))) ?_
    exact QE.done (.inl rfl) rfl (ResOk.t rfl ResOk.nil) (OImp.sub (List.nil_sublist _)) ⟨rfl, rfl⟩
  · refine CW.skip ?_
    refine QE.next ?_
    refine CW.seq ?_
    refine CW.seq ?_
    refine CW.region ?_
    refine WP.s .n (O.asg rfl) ?_
    refine WP.nil ?_
    refine QE.next ?_
    refine CW.block ?_
    refine CW.loop (fun (i : Nat) => i ≤ x.length ∧ x.take i = y.take i) (fun (i : Nat) => [(0, (kSl kC).is x), (1, (kSl kC).is y), (5, (kInt .i64).is (i : Int))]) (fun (i : Nat) => []) (fun (i : Nat) => x.length - i) 0 ⟨Nat.zero_le _, rfl⟩ (Imp.cons rfl (Imp.cons rfl (Imp.consLe rfl (is_eq (y := (0 : Int)) (by omega)) Imp.nil))) (OImp.refl _) ?_
    intro i ⟨hi, ht⟩
    refine CW.seq ?_
    refine CW.seq ?_
    refine CW.region ?_
    refine WP.s .n (O.mv rfl) ?_
    refine WP.s .n (O.mv rfl) ?_
    refine WP.s .n (O.lenS rfl Try.underlying27) ?_
    refine WP.s .n (O.lt rfl rfl) ?_
    refine WP.nil ?_
    refine QE.next ?_
    refine CW.condD rfl (fun h_t14 => ?_) (fun h_t14 => ?_)
    · refine CW.skip ?_
      refine QE.next ?_
      refine CW.seq ?_
      refine CW.block ?_
      refine CW.seq ?_
      refine CW.draw (Γ := [.fr ((kSl kC).is x), .fr ((kInt .i64).is (i : Int)), .fr (VP.pim kC (x.getD i 0)), .fr (kC.is (x.getD i 0)), .fr ((kSl kC).is y), .fr ((kInt .i64).is (i : Int)), .fr (VP.pim kC (y.getD i 0)), .fr (kC.is (y.getD i 0)), .fr (kBool.is (decide ((canon (x.getD i 0)) = (canon (y.getD i 0))))), .fr (kBool.is (!(decide ((canon (x.getD i 0)) = (canon (y.getD i 0))))))]) (lates := [false, false, false, false, false, false, false, false, false, false]) (by kernel_rfl) (Chk.of rfl (by kernel_rfl) rfl) (fun _ _ _ _ _ h => h) (fun q_ x_ h_ => ?_) (fun σ => ?_)
      · match q_, h_ with
        | 0, h_ => cases h_; exact Ob.f rfl .n fun N => (O.mv rfl)
        | 1, h_ => cases h_; exact Ob.f rfl .n fun N => (O.mv rfl)
        | 2, h_ => cases h_; exact Ob.f rfl .n fun N => (O.ix i rfl rfl Try.underlying27 ty31 rfl (v := (x.getD i 0)) (gd 0 (by omega)))
        | 3, h_ => cases h_; exact Ob.f rfl .n fun N => (O.ldP rfl ty31)
        | 4, h_ => cases h_; exact Ob.f rfl .n fun N => (O.mv rfl)
        | 5, h_ => cases h_; exact Ob.f rfl .n fun N => (O.mv rfl)
        | 6, h_ => cases h_; exact Ob.f rfl .n fun N => (O.ix i rfl rfl Try.underlying27 ty31 rfl (v := (y.getD i 0)) (gd 0 (by omega)))
        | 7, h_ => cases h_; exact Ob.f rfl .n fun N => (O.ldP rfl ty31)
        | 8, h_ => cases h_; exact Ob.f rfl .n fun N => (O.fn fn18 (evs.l rfl (kC_I _) (evs.l rfl (kC_I _) evs.nil)) (c_law24_eq (canon (x.getD i 0)) (canon (y.getD i 0))))
        | 9, h_ => cases h_; exact Ob.f rfl .n fun N => (O.not rfl)
        | n_ + 10, h_ => simp at h_
      refine WP.nil ?_
      refine QE.next ?_
      refine CW.cond rfl (fun h_t26 => ?_) (fun h_t26 => ?_)
      · refine CW.seq ?_
        refine CW.region ?_
        refine WP.s .n (O.asg rfl) ?_
        refine WP.nil ?_
        refine QE.next ?_
        refine CW.ret ?_
        refine QE.blkR ?_
        refine QE.thenR ?_
        refine QE.thenR ?_
        refine QE.blkR ?_
        refine QE.thenR ?_
        refine ST.told 4 rfl (is_eq (y := (decide (x = y))) (by rw [eq_comm, decide_eq_false_iff_not]; intro e; exact canon_ned h_t26 (by rw [e]))) ?_
        exact QE.done (.inl rfl) rfl (ResOk.t rfl ResOk.nil) (OImp.sub (List.nil_sublist _)) ⟨rfl, rfl⟩
      · refine CW.skip ?_
        refine QE.blkN ?_
        refine QE.next ?_
        refine CW.region ?_
        refine WP.s .n (O.mv rfl) ?_
        refine WP.s .n (O.add rfl rfl (c := ((i : Int) + 1)) (w64 (by omega))) ?_
        refine WP.s .n (O.asg rfl) ?_
        refine WP.nil ?_
        exact QE.round (i + 1) (by omega) ⟨by omega, eq_take (d := 0) (by omega) (by omega) ht (canon_eqd h_t26)⟩ (Imp.cons rfl (Imp.cons rfl (Imp.consLe rfl (is_eq (y := (((i + 1) : Nat) : Int)) (by omega)) Imp.nil))) (OImp.refl _)
    · refine CW.exit ?_
      refine QE.thenE ?_
      refine QE.thenE ?_
      refine QE.blkH ?_
      refine QE.next ?_
      refine CW.seq ?_
      refine CW.region ?_
      refine WP.s .n (O.asg rfl) ?_
      refine WP.nil ?_
      refine QE.next ?_
      refine CW.ret ?_
      refine ST.told 4 rfl (is_eq (y := (decide (x = y))) (by rw [eq_comm, decide_eq_true_iff]; exact eq_full (i := i) (by omega) (by omega) ht)) ?_
      exact QE.done (.inl rfl) rfl (ResOk.t rfl ResOk.nil) (OImp.sub (List.nil_sublist _)) ⟨rfl, rfl⟩

set_option maxRecDepth 20000 in
set_option maxHeartbeats 1000000 in
theorem c_law24_eqm (x y : List (List Int)) : Fn Try.prog 40 [(kSl (kSl kC)).is x, (kSl (kSl kC)).is y] (kBool.is (decide (x = y))) := by
  refine Con.enter Try.func40 rfl rfl fun m w => ?_
  refine ST.fact (i := 0) rfl sl_len fun hB => ?_
  refine CW.seq ?_
  refine CW.region ?_
  refine WP.s .n (O.asg rfl) ?_
  refine WP.nil ?_
  refine QE.next ?_
  refine CW.seq ?_
  refine CW.seq ?_
  refine CW.region ?_
  refine WP.s .n (O.mv rfl) ?_
  refine WP.s .n (O.lenS rfl Try.underlying67) ?_
  refine WP.s .n (O.mv rfl) ?_
  refine WP.s .n (O.lenS rfl Try.underlying67) ?_
  refine WP.s .n (O.ne rfl rfl) ?_
  refine WP.nil ?_
  refine QE.next ?_
  refine CW.condD rfl (fun h_t10 => ?_) (fun h_t10 => ?_)
  · refine CW.seq ?_
    refine CW.region ?_
    refine WP.s .n (O.asg rfl) ?_
    refine WP.nil ?_
    refine QE.next ?_
    refine CW.ret ?_
    refine QE.thenR ?_
    refine ST.told 4 rfl (is_eq (y := (decide (x = y))) (by rw [eq_comm, decide_eq_false_iff_not]; intro e; exact h_t10 (by rw [e]))) ?_
    exact QE.done (.inl rfl) rfl (ResOk.t rfl ResOk.nil) (OImp.sub (List.nil_sublist _)) ⟨rfl, rfl⟩
  · refine CW.skip ?_
    refine QE.next ?_
    refine CW.seq ?_
    refine CW.seq ?_
    refine CW.region ?_
    refine WP.s .n (O.asg rfl) ?_
    refine WP.nil ?_
    refine QE.next ?_
    refine CW.block ?_
    refine CW.loop (fun (i : Nat) => i ≤ x.length ∧ x.take i = y.take i) (fun (i : Nat) => [(0, (kSl (kSl kC)).is x), (1, (kSl (kSl kC)).is y), (5, (kInt .i64).is (i : Int))]) (fun (i : Nat) => []) (fun (i : Nat) => x.length - i) 0 ⟨Nat.zero_le _, rfl⟩ (Imp.cons rfl (Imp.cons rfl (Imp.consLe rfl (is_eq (y := (0 : Int)) (by omega)) Imp.nil))) (OImp.refl _) ?_
    intro i ⟨hi, ht⟩
    refine CW.seq ?_
    refine CW.seq ?_
    refine CW.region ?_
    refine WP.s .n (O.mv rfl) ?_
    refine WP.s .n (O.mv rfl) ?_
    refine WP.s .n (O.lenS rfl Try.underlying67) ?_
    refine WP.s .n (O.lt rfl rfl) ?_
    refine WP.nil ?_
    refine QE.next ?_
    refine CW.condD rfl (fun h_t14 => ?_) (fun h_t14 => ?_)
    · refine CW.skip ?_
      refine QE.next ?_
      refine CW.seq ?_
      refine CW.block ?_
      refine CW.seq ?_
      refine CW.draw (Γ := [.fr ((kSl (kSl kC)).is x), .fr ((kInt .i64).is (i : Int)), .fr (VP.pim (kSl kC) (x.getD i [])), .fr ((kSl kC).is (x.getD i [])), .fr ((kSl (kSl kC)).is y), .fr ((kInt .i64).is (i : Int)), .fr (VP.pim (kSl kC) (y.getD i [])), .fr ((kSl kC).is (y.getD i [])), .fr (kBool.is (decide ((x.getD i []) = (y.getD i [])))), .fr (kBool.is (!(decide ((x.getD i []) = (y.getD i [])))))]) (lates := [false, false, false, false, false, false, false, false, false, false]) (by kernel_rfl) (Chk.of rfl (by kernel_rfl) rfl) (fun _ _ _ _ _ h => h) (fun q_ x_ h_ => ?_) (fun σ => ?_)
      · match q_, h_ with
        | 0, h_ => cases h_; exact Ob.f rfl .n fun N => (O.mv rfl)
        | 1, h_ => cases h_; exact Ob.f rfl .n fun N => (O.mv rfl)
        | 2, h_ => cases h_; exact Ob.f rfl .n fun N => (O.ix i rfl rfl Try.underlying67 ty27 rfl (v := (x.getD i [])) (gd [] (by omega)))
        | 3, h_ => cases h_; exact Ob.f rfl .n fun N => (O.ldP rfl ty27)
        | 4, h_ => cases h_; exact Ob.f rfl .n fun N => (O.mv rfl)
        | 5, h_ => cases h_; exact Ob.f rfl .n fun N => (O.mv rfl)
        | 6, h_ => cases h_; exact Ob.f rfl .n fun N => (O.ix i rfl rfl Try.underlying67 ty27 rfl (v := (y.getD i [])) (gd [] (by omega)))
        | 7, h_ => cases h_; exact Ob.f rfl .n fun N => (O.ldP rfl ty27)
        | 8, h_ => cases h_; exact Ob.f rfl .n fun N => (O.fn fn47 (evs.c rfl (evs.c rfl evs.nil)) (c_law24_eqs (x.getD i []) (y.getD i [])))
        | 9, h_ => cases h_; exact Ob.f rfl .n fun N => (O.not rfl)
        | n_ + 10, h_ => simp at h_
      refine WP.nil ?_
      refine QE.next ?_
      refine CW.cond rfl (fun h_t26 => ?_) (fun h_t26 => ?_)
      · refine CW.seq ?_
        refine CW.region ?_
        refine WP.s .n (O.asg rfl) ?_
        refine WP.nil ?_
        refine QE.next ?_
        refine CW.ret ?_
        refine QE.blkR ?_
        refine QE.thenR ?_
        refine QE.thenR ?_
        refine QE.blkR ?_
        refine QE.thenR ?_
        refine ST.told 4 rfl (is_eq (y := (decide (x = y))) (by rw [eq_comm, decide_eq_false_iff_not]; intro e; simp [e] at h_t26)) ?_
        exact QE.done (.inl rfl) rfl (ResOk.t rfl ResOk.nil) (OImp.sub (List.nil_sublist _)) ⟨rfl, rfl⟩
      · refine CW.skip ?_
        refine QE.blkN ?_
        refine QE.next ?_
        refine CW.region ?_
        refine WP.s .n (O.mv rfl) ?_
        refine WP.s .n (O.add rfl rfl (c := ((i : Int) + 1)) (w64 (by omega))) ?_
        refine WP.s .n (O.asg rfl) ?_
        refine WP.nil ?_
        exact QE.round (i + 1) (by omega) ⟨by omega, eq_take (d := []) (by omega) (by omega) ht (by simpa using h_t26)⟩ (Imp.cons rfl (Imp.cons rfl (Imp.consLe rfl (is_eq (y := (((i + 1) : Nat) : Int)) (by omega)) Imp.nil))) (OImp.refl _)
    · refine CW.exit ?_
      refine QE.thenE ?_
      refine QE.thenE ?_
      refine QE.blkH ?_
      refine QE.next ?_
      refine CW.seq ?_
      refine CW.region ?_
      refine WP.s .n (O.asg rfl) ?_
      refine WP.nil ?_
      refine QE.next ?_
      refine CW.ret ?_
      refine ST.told 4 rfl (is_eq (y := (decide (x = y))) (by rw [eq_comm, decide_eq_true_iff]; exact eq_full (i := i) (by omega) (by omega) ht)) ?_
      exact QE.done (.inl rfl) rfl (ResOk.t rfl ResOk.nil) (OImp.sub (List.nil_sublist _)) ⟨rfl, rfl⟩

set_option maxRecDepth 20000 in
set_option maxHeartbeats 1000000 in
theorem c_law24_eqr (x y : Int × Int) : Fn Try.prog 35 [(kPair kC kC).is x, (kPair kC kC).is y] (kBool.is (decide (x = y))) := by
  refine Con.enter Try.func35 rfl rfl fun m w => ?_
  refine CW.seq ?_
  refine CW.region ?_
  refine WP.bx .n rfl fun b1 => ?_
  refine WP.bx .n rfl fun b2 => ?_
  refine WP.s .n (O.asg rfl) ?_
  refine WP.nil ?_
  refine QE.next ?_
  refine CW.seq ?_
  refine CW.region ?_
  refine WP.s .n (O.fa rfl fld60_0 rfl) ?_
  refine WP.s .n (O.ld rfl (mem_at 1 rfl) (Lens.fst (Lens.id _)) ty31 rfl) ?_
  refine WP.s .n (O.fa rfl fld60_0 rfl) ?_
  refine WP.s .n (O.ld rfl (mem_at 0 rfl) (Lens.fst (Lens.id _)) ty31 rfl) ?_
  refine WP.s .n (O.fn fn18 (evs.l rfl (kC_I _) (evs.l rfl (kC_I _) evs.nil)) (c_law24_eq (canon x.1) (canon y.1))) ?_
  refine WP.s .n (O.mv rfl) ?_
  refine WP.splitD 10 rfl (fun h_t10 => ?_) (fun h_t10 => ?_)
  · refine WP.s (.g rfl rfl) (O.fa rfl fld60_1 rfl) ?_
    refine WP.s (.g rfl rfl) (O.ld rfl (mem_at 1 rfl) (Lens.snd (Lens.id _)) ty31 rfl) ?_
    refine WP.s (.g rfl rfl) (O.fa rfl fld60_1 rfl) ?_
    refine WP.s (.g rfl rfl) (O.ld rfl (mem_at 0 rfl) (Lens.snd (Lens.id _)) ty31 rfl) ?_
    refine WP.s (.g rfl rfl) (O.fn fn18 (evs.l rfl (kC_I _) (evs.l rfl (kC_I _) evs.nil)) (c_law24_eq (canon x.2) (canon y.2))) ?_
    refine WP.s .n (O.pickT rfl rfl) ?_
    refine WP.s .n (O.asg rfl) ?_
    refine WP.nil ?_
    refine QE.next ?_
    refine CW.ret ?_
    refine ST.told 4 rfl (is_eq (y := (decide (x = y))) (eqr_t h_t10)) ?_
    exact QE.done (.inl rfl) rfl (ResOk.t rfl ResOk.nil) (OImp.sub (List.nil_sublist _)) ⟨rfl, rfl⟩
  · refine WP.ku (b := false) rfl rfl ?_
    refine WP.ku (b := false) rfl rfl ?_
    refine WP.ku (b := false) rfl rfl ?_
    refine WP.ku (b := false) rfl rfl ?_
    refine WP.ku (b := false) rfl rfl ?_
    refine WP.s .n (O.pickF rfl rfl) ?_
    refine WP.s .n (O.asg rfl) ?_
    refine WP.nil ?_
    refine QE.next ?_
    refine CW.ret ?_
    refine ST.told 4 rfl (is_eq (y := (decide (x = y))) (eqr_f h_t10)) ?_
    exact QE.done (.inl rfl) rfl (ResOk.t rfl ResOk.nil) (OImp.sub (List.nil_sublist _)) ⟨rfl, rfl⟩

set_option maxRecDepth 20000 in
set_option maxHeartbeats 1000000 in
theorem c_law24_KnapWeights (xs : List Int) (s : Int) : Fn Try.prog 7 [(kSl kZ).is xs, kZ.is s] (kBool.is true) := by
  refine Con.enter Try.func7 rfl rfl fun m w => ?_
  refine ST.fact (i := 0) rfl sl_len fun hB => ?_
  refine CW.seq ?_
  refine CW.region ?_
  refine WP.bx .n rfl fun b1 => ?_
  refine WP.s .n (O.asg rfl) ?_
  refine WP.nil ?_
  refine QE.next ?_
  refine CW.seq ?_
  refine CW.region ?_
  refine WP.s .n (O.mv rfl) ?_
  refine WP.s .n (O.fn fn31 (evs.c rfl evs.nil) (c_ref24_Valid xs)) ?_
  refine WP.s .n (O.asg rfl) ?_
  refine WP.nil ?_
  refine QE.next ?_
  refine CW.seq ?_
  refine CW.seq ?_
  refine CW.region ?_
  refine WP.s .n (O.mv rfl) ?_
  refine WP.s .n (O.fn fn16 (evs.c rfl evs.nil) (c_law24_owns xs)) ?_
  refine WP.s .n (O.fn fn32 (evs.c rfl evs.nil) (c_knap_Valid xs)) ?_
  refine WP.s .n (O.mv rfl) ?_
  refine WP.s .n (O.ne rfl rfl) ?_
  refine WP.nil ?_
  refine QE.next ?_
  refine CW.condD rfl (fun h => absurd h (fun h => h rfl)) (fun h_t18 => ?_)
  refine CW.skip ?_
  refine QE.next ?_
  refine CW.seq ?_
  refine CW.region ?_
  refine WP.s .n (O.mv rfl) ?_
  refine WP.s .n (O.fn fn16 (evs.c rfl evs.nil) (c_law24_owns xs)) ?_
  refine WP.s .n (O.fn fn33 (evs.c rfl evs.nil) (c_knap_Density xs)) ?_
  refine WP.s .n (O.mv rfl) ?_
  refine WP.s .n (O.ext rfl rfl) ?_
  refine WP.s .n (O.ext rfl rfl) ?_
  refine WP.al .n z60_pr_C_C_ fun b2 => ?_
  refine WP.t .n (O.stW (l := (kPair kC kC)) (u := denV xs) 0 rfl rfl rfl ty60 rfl (VP.le_refl _)) ?_
  refine WP.s .n (O.asg rfl) ?_
  refine WP.nil ?_
  refine QE.next ?_
  refine CW.seq ?_
  refine CW.region ?_
  refine WP.s .n (O.mv rfl) ?_
  refine WP.s .n (O.fn fn16 (evs.c rfl evs.nil) (c_law24_owns xs)) ?_
  refine WP.s .n (O.fn fn34 (evs.c rfl evs.nil) (c_knap_Climbs xs)) ?_
  refine WP.s .n (O.mv rfl) ?_
  refine WP.s .n (O.ext rfl rfl) ?_
  refine WP.s .n (O.ext rfl rfl) ?_
  refine WP.s .n (O.asg rfl) ?_
  refine WP.s .n (O.asg rfl) ?_
  refine WP.nil ?_
  refine QE.next ?_
  refine CW.seq ?_
  refine CW.seq ?_
  refine CW.region ?_
  refine WP.s .n (O.mv rfl) ?_
  refine WP.s .n (O.mv rfl) ?_
  refine WP.s .n (O.ne rfl rfl) ?_
  refine WP.s .n (O.mv rfl) ?_
  refine WP.splitD 34 rfl (fun h => absurd h (fun h => h rfl)) (fun h_t34 => ?_)
  refine WP.s (.g rfl rfl) (O.mv rfl) ?_
  refine WP.s (.g rfl rfl) (O.mv rfl) ?_
  refine WP.s (.g rfl rfl) (O.ne rfl rfl) ?_
  refine WP.s .n (O.pickF rfl rfl) ?_
  refine WP.nil ?_
  refine QE.next ?_
  refine CW.condD rfl (fun h => absurd h (fun h => h rfl)) (fun h_t38 => ?_)
  refine CW.skip ?_
  refine QE.next ?_
  refine CW.seq ?_
  refine CW.seq ?_
  by_cases hw : wErr xs ≠ 0
  · refine CW.draw (Γ := [.fr ((kInt .i64).is (wErr xs)), .fr (kBool.is true), .fr (kBool.is true), .fr (kBool.is false), .fr (kBool.is false), .fr ((kPair kC kC).is (denV xs)), .fr ((kPair kC kC).is (0, 0)), .fr (kBool.is true), .fr (kBool.is false), .fr (kBool.is false), .fr (kBool.is false), .fr (kBool.is false), .fr ((kInt .i64).is (wErr xs)), .fr (kBool.is false), .fr (kBool.is false), .fr (VP.ex undef), .fr (VP.ex undef), .fr (VP.ex undef), .fr (VP.ex undef), .fr (VP.ex undef), .fr (VP.ex undef), .fr (VP.ex undef), .fr (VP.ex undef), .fr (VP.ex undef), .fr (VP.ex undef), .fr (VP.ex undef), .fr (kBool.is false), .fr (kBool.is false)]) (lates := [false, false, false, false, false, false, false, false, false, false, false, false, false, false, false, false, false, false, false, false, false, false, false, false, false, false, false, false]) (by kernel_rfl) (Chk.of rfl (by kernel_rfl) rfl) (fun _ _ _ _ _ h => h) (fun q_ x_ h_ => ?_) (fun σ => ?_)
    · match q_, h_ with
      | 0, h_ => cases h_; exact Ob.f rfl .n fun N => (O.mv rfl)
      | 1, h_ => cases h_; exact Ob.f rfl .n fun N => (OpOk.le (O.ne rfl rfl) (is_eq (by simp [hw])))
      | 2, h_ => cases h_; exact Ob.f rfl .n fun N => (O.mv rfl)
      | 3, h_ => cases h_; exact Ob.f rfl (.g rfl rfl) fun N => (OpOk.le (O.mv rfl) (is_eq (by simp [hw])))
      | 4, h_ => cases h_; exact Ob.f rfl (.g rfl rfl) fun N => (O.mv rfl)
      | 5, h_ => cases h_; exact Ob.f rfl (.g rfl rfl) fun N => (O.ld rfl (mem_app N (mem_at 0 rfl)) (Lens.id _) ty60 rfl)
      | 6, h_ => cases h_; exact Ob.f rfl (.g rfl rfl) fun N => (O.bld lit60_pr_C_C_ rfl evp.n (.nil _))
      | 7, h_ => cases h_; exact Ob.f rfl (.g rfl rfl) fun N => (OpOk.le (O.fn fn35 (evs.c rfl (evs.c rfl evs.nil)) (c_law24_eqr (denV xs) (0, 0))) (is_eq (by simp [denV, hw])))
      | 8, h_ => cases h_; exact Ob.f rfl (.g rfl rfl) fun N => (OpOk.le (O.not rfl) (is_eq rfl))
      | 9, h_ => cases h_; exact Ob.f rfl (.g rfl rfl) fun N => (O.pickF rfl rfl)
      | 10, h_ => cases h_; exact Ob.f rfl .n fun N => (O.pickT rfl rfl)
      | 11, h_ => cases h_; exact Ob.f rfl .n fun N => (O.mv rfl)
      | 12, h_ => cases h_; exact Ob.f rfl (.g rfl rfl) fun N => (O.mv rfl)
      | 13, h_ => cases h_; exact Ob.f rfl (.g rfl rfl) fun N => (OpOk.le (O.eq rfl rfl) (is_eq (by simp [hw])))
      | 14, h_ => cases h_; exact Ob.f rfl (.g rfl rfl) fun N => (O.mv rfl)
      | 15, h_ => cases h_; exact Ob.ku (b := false) rfl rfl rfl
      | 16, h_ => cases h_; exact Ob.ku (b := false) rfl rfl rfl
      | 17, h_ => cases h_; exact Ob.ku (b := false) rfl rfl rfl
      | 18, h_ => cases h_; exact Ob.ku (b := false) rfl rfl rfl
      | 19, h_ => cases h_; exact Ob.ku (b := false) rfl rfl rfl
      | 20, h_ => cases h_; exact Ob.kk rfl rfl rfl
      | 21, h_ => cases h_; exact Ob.kk rfl rfl rfl
      | 22, h_ => cases h_; exact Ob.kk rfl rfl rfl
      | 23, h_ => cases h_; exact Ob.kk rfl rfl rfl
      | 24, h_ => cases h_; exact Ob.kk rfl rfl rfl
      | 25, h_ => cases h_; exact Ob.ku (b := false) rfl rfl rfl
      | 26, h_ => cases h_; exact Ob.f rfl (.g rfl rfl) fun N => (O.pickF rfl rfl)
      | 27, h_ => cases h_; exact Ob.f rfl .n fun N => (O.pickF rfl rfl)
      | n_ + 28, h_ => simp at h_
    refine WP.nil ?_
    refine QE.next ?_
    refine CW.condF rfl ?_
    refine CW.skip ?_
    refine QE.next ?_
    refine CW.seq ?_
    refine CW.draw (Γ := [.fr ((kSl kZ).is xs), .fr ((kSl kZ).is xs), .fr (kZ.is s), .fr (kZ.is s), .fr (VP.tup [(kSl (kSl kC)).is (rowsV xs s), (kInt .i64).is (sErr xs s)]), .fr (VP.tup [(kSl (kSl kC)).is (rowsV xs s), (kInt .i64).is (sErr xs s)]), .fr ((kSl (kSl kC)).is (rowsV xs s)), .lt ((kInt .i64).is (sErr xs s))]) (lates := [false, false, false, false, false, false, false, true]) (by kernel_rfl) (Chk.of rfl (by kernel_rfl) rfl) (fun _ _ _ _ _ h => h) (fun q_ x_ h_ => ?_) (fun σ => ?_)
    · match q_, h_ with
      | 0, h_ => cases h_; exact Ob.f rfl .n fun N => (O.mv rfl)
      | 1, h_ => cases h_; exact Ob.f rfl .n fun N => (O.fn fn16 (evs.c rfl evs.nil) (c_law24_owns xs))
      | 2, h_ => cases h_; exact Ob.f rfl .n fun N => (O.ld rfl (mem_app N (mem_at 1 rfl)) (Lens.id _) ty31 rfl)
      | 3, h_ => cases h_; exact Ob.f rfl .n fun N => (O.fn fn20 (evs.c rfl evs.nil) (c_law24_own s))
      | 4, h_ => cases h_; exact Ob.f rfl .n fun N => (O.fn fn38 (evs.c rfl (evs.c rfl evs.nil)) (c_knap_Rows xs s))
      | 5, h_ => cases h_; exact Ob.f rfl .n fun N => (O.mv rfl)
      | 6, h_ => cases h_; exact Ob.f rfl .n fun N => (O.ext rfl rfl)
      | 7, h_ => cases h_; exact Ob.l rfl .n (OV.ext rfl rfl)
      | n_ + 8, h_ => simp at h_
    refine WP.s .n (O.asg rfl) ?_
    refine WP.s .n (O.asg rfl) ?_
    refine WP.nil ?_
    refine QE.next ?_
    refine CW.seq ?_
    refine CW.region ?_
    refine WP.s .n (O.mv rfl) ?_
    refine WP.s .n (O.ld rfl (mem_at 1 rfl) (Lens.id _) ty31 rfl) ?_
    refine WP.s .n (O.fn fn39 (evs.c rfl (evs.c rfl evs.nil)) (c_ref24_Sum xs s)) ?_
    refine WP.s .n (O.asg rfl) ?_
    refine WP.nil ?_
    refine QE.next ?_
    refine CW.seq ?_
    refine CW.seq ?_
    refine CW.region ?_
    refine WP.s .n (O.mv rfl) ?_
    refine WP.s .n (O.ne rfl rfl) ?_
    refine WP.nil ?_
    refine QE.next ?_
    refine CW.condD rfl (fun h_t79 => ?_) (fun h_t79 => ?_)
    · refine CW.seq ?_
      refine CW.region ?_
      refine WP.s .n (O.mv rfl) ?_
      refine WP.s .n (O.mv rfl) ?_
      refine WP.s .n (O.eq rfl rfl) ?_
      refine WP.s .n (O.mv rfl) ?_
      refine WP.splitD 83 rfl (fun h_t83 => ?_) (fun h => absurd rfl h)
      refine WP.s (.g rfl rfl) (O.mv rfl) ?_
      refine WP.s (.g rfl rfl) (O.lenS rfl Try.underlying67) ?_
      refine WP.s (.g rfl rfl) (O.eq rfl rfl) ?_
      refine WP.s .n (O.pickT rfl rfl) ?_
      refine WP.s .n (O.asg rfl) ?_
      refine WP.nil ?_
      refine QE.next ?_
      refine CW.ret ?_
      refine QE.thenR ?_
      exact QE.done (.inl rfl) rfl (ResOk.tl rfl (is_eq (y := true) (by first | (simp; done) | (simp [rowsV, *]; done))) ResOk.nil) (OImp.sub (List.nil_sublist _)) ⟨rfl, rfl⟩
    · refine CW.skip ?_
      refine QE.next ?_
      refine CW.seq ?_
      refine CW.region ?_
      refine WP.s .n (O.mv rfl) ?_
      refine WP.s .n (O.eq rfl rfl) ?_
      refine WP.s .n (O.mv rfl) ?_
      refine WP.splitD 90 rfl (fun h_t90 => ?_) (fun h => absurd (by omega) h)
      refine WP.s (.g rfl rfl) (O.mv rfl) ?_
      refine WP.s (.g rfl rfl) (O.mv rfl) ?_
      refine WP.s (.g rfl rfl) (O.ld rfl (mem_at 1 rfl) (Lens.id _) ty31 rfl) ?_
      refine WP.s (.g rfl rfl) (O.fn fn41 (evs.c rfl (evs.c rfl evs.nil)) (c_ref24_Rows xs s ((wOk_len (wErr_0 (sErr_w h_t79))).2))) ?_
      refine WP.s (.g rfl rfl) (O.fn fn40 (evs.c rfl (evs.c rfl evs.nil)) (c_law24_eqm (rowsV xs s) (rowsK xs s))) ?_
      refine WP.s .n (O.pickT rfl rfl) ?_
      refine WP.s .n (O.asg rfl) ?_
      refine WP.nil ?_
      refine QE.next ?_
      refine CW.ret ?_
      exact QE.done (.inl rfl) rfl (ResOk.tl rfl (is_eq (y := true) (by first | (simp; done) | (simp [rowsV, *]; done))) ResOk.nil) (OImp.sub (List.nil_sublist _)) ⟨rfl, rfl⟩
  · refine CW.draw (Γ := [.fr ((kInt .i64).is (wErr xs)), .fr (kBool.is false), .fr (kBool.is false), .fr (VP.ex undef), .fr (VP.ex undef), .fr (VP.ex undef), .fr (VP.ex undef), .fr (VP.ex undef), .fr (VP.ex undef), .fr (VP.ex undef), .fr (kBool.is false), .fr (kBool.is false), .fr ((kInt .i64).is (wErr xs)), .fr (kBool.is true), .fr (kBool.is true), .fr (kBool.is (if wErr xs ≠ 0 then false else climb xs)), .fr ((kSl kZ).is xs), .fr (kBool.is (climb xs)), .fr (kBool.is false), .fr (kBool.is false), .fr ((kPair kC kC).is (denV xs)), .fr ((kSl kZ).is xs), .fr ((kPair kC kC).is (denV xs)), .fr (kBool.is true), .fr (kBool.is false), .fr (kBool.is false), .fr (kBool.is false), .fr (kBool.is false)]) (lates := [false, false, false, false, false, false, false, false, false, false, false, false, false, false, false, false, false, false, false, false, false, false, false, false, false, false, false, false]) (by kernel_rfl) (Chk.of rfl (by kernel_rfl) rfl) (fun _ _ _ _ _ h => h) (fun q_ x_ h_ => ?_) (fun σ => ?_)
    · match q_, h_ with
      | 0, h_ => cases h_; exact Ob.f rfl .n fun N => (O.mv rfl)
      | 1, h_ => cases h_; exact Ob.f rfl .n fun N => (OpOk.le (O.ne rfl rfl) (is_eq (by simpa using hw)))
      | 2, h_ => cases h_; exact Ob.f rfl .n fun N => (O.mv rfl)
      | 3, h_ => cases h_; exact Ob.ku (b := false) rfl rfl rfl
      | 4, h_ => cases h_; exact Ob.ku (b := false) rfl rfl rfl
      | 5, h_ => cases h_; exact Ob.kk rfl rfl rfl
      | 6, h_ => cases h_; exact Ob.kk rfl rfl rfl
      | 7, h_ => cases h_; exact Ob.kk rfl rfl rfl
      | 8, h_ => cases h_; exact Ob.kk rfl rfl rfl
      | 9, h_ => cases h_; exact Ob.ku (b := false) rfl rfl rfl
      | 10, h_ => cases h_; exact Ob.f rfl .n fun N => (O.pickF rfl rfl)
      | 11, h_ => cases h_; exact Ob.f rfl .n fun N => (O.mv rfl)
      | 12, h_ => cases h_; exact Ob.f rfl (.g rfl rfl) fun N => (O.mv rfl)
      | 13, h_ => cases h_; exact Ob.f rfl (.g rfl rfl) fun N => (OpOk.le (O.eq rfl rfl) (is_eq (by simpa using hw)))
      | 14, h_ => cases h_; exact Ob.f rfl (.g rfl rfl) fun N => (O.mv rfl)
      | 15, h_ => cases h_; exact Ob.f rfl (.g rfl rfl) fun N => (O.mv rfl)
      | 16, h_ => cases h_; exact Ob.f rfl (.g rfl rfl) fun N => (O.mv rfl)
      | 17, h_ => cases h_; exact Ob.f rfl (.g rfl rfl) fun N => (O.fn fn36 (evs.c rfl evs.nil) (c_ref24_Climbs xs (wErr_0 hw)))
      | 18, h_ => cases h_; exact Ob.f rfl (.g rfl rfl) fun N => (OpOk.le (O.neB rfl rfl Try.underlying4) (is_eq (by simp at hw; simp [hw])))
      | 19, h_ => cases h_; exact Ob.f rfl (.g rfl rfl) fun N => (O.mv rfl)
      | 20, h_ => cases h_; exact Ob.f rfl (.g rfl rfl) fun N => (O.ld rfl (mem_app N (mem_at 0 rfl)) (Lens.id _) ty60 rfl)
      | 21, h_ => cases h_; exact Ob.f rfl (.g rfl rfl) fun N => (O.mv rfl)
      | 22, h_ => cases h_; exact Ob.f rfl (.g rfl rfl) fun N => (O.fn fn37 (evs.c rfl evs.nil) (c_ref24_Density xs (wErr_0 hw)))
      | 23, h_ => cases h_; exact Ob.f rfl (.g rfl rfl) fun N => (OpOk.le (O.fn fn35 (evs.c rfl (evs.c rfl evs.nil)) (c_law24_eqr (denV xs) (denV xs))) (is_eq (by simp)))
      | 24, h_ => cases h_; exact Ob.f rfl (.g rfl rfl) fun N => (OpOk.le (O.not rfl) (is_eq rfl))
      | 25, h_ => cases h_; exact Ob.f rfl (.g rfl rfl) fun N => (O.pickF rfl rfl)
      | 26, h_ => cases h_; exact Ob.f rfl (.g rfl rfl) fun N => (O.pickT rfl rfl)
      | 27, h_ => cases h_; exact Ob.f rfl .n fun N => (O.pickF rfl rfl)
      | n_ + 28, h_ => simp at h_
    refine WP.nil ?_
    refine QE.next ?_
    refine CW.condF rfl ?_
    refine CW.skip ?_
    refine QE.next ?_
    refine CW.seq ?_
    refine CW.draw (Γ := [.fr ((kSl kZ).is xs), .fr ((kSl kZ).is xs), .fr (kZ.is s), .fr (kZ.is s), .fr (VP.tup [(kSl (kSl kC)).is (rowsV xs s), (kInt .i64).is (sErr xs s)]), .fr (VP.tup [(kSl (kSl kC)).is (rowsV xs s), (kInt .i64).is (sErr xs s)]), .fr ((kSl (kSl kC)).is (rowsV xs s)), .lt ((kInt .i64).is (sErr xs s))]) (lates := [false, false, false, false, false, false, false, true]) (by kernel_rfl) (Chk.of rfl (by kernel_rfl) rfl) (fun _ _ _ _ _ h => h) (fun q_ x_ h_ => ?_) (fun σ => ?_)
    · match q_, h_ with
      | 0, h_ => cases h_; exact Ob.f rfl .n fun N => (O.mv rfl)
      | 1, h_ => cases h_; exact Ob.f rfl .n fun N => (O.fn fn16 (evs.c rfl evs.nil) (c_law24_owns xs))
      | 2, h_ => cases h_; exact Ob.f rfl .n fun N => (O.ld rfl (mem_app N (mem_at 1 rfl)) (Lens.id _) ty31 rfl)
      | 3, h_ => cases h_; exact Ob.f rfl .n fun N => (O.fn fn20 (evs.c rfl evs.nil) (c_law24_own s))
      | 4, h_ => cases h_; exact Ob.f rfl .n fun N => (O.fn fn38 (evs.c rfl (evs.c rfl evs.nil)) (c_knap_Rows xs s))
      | 5, h_ => cases h_; exact Ob.f rfl .n fun N => (O.mv rfl)
      | 6, h_ => cases h_; exact Ob.f rfl .n fun N => (O.ext rfl rfl)
      | 7, h_ => cases h_; exact Ob.l rfl .n (OV.ext rfl rfl)
      | n_ + 8, h_ => simp at h_
    refine WP.s .n (O.asg rfl) ?_
    refine WP.s .n (O.asg rfl) ?_
    refine WP.nil ?_
    refine QE.next ?_
    refine CW.seq ?_
    refine CW.region ?_
    refine WP.s .n (O.mv rfl) ?_
    refine WP.s .n (O.ld rfl (mem_at 1 rfl) (Lens.id _) ty31 rfl) ?_
    refine WP.s .n (O.fn fn39 (evs.c rfl (evs.c rfl evs.nil)) (c_ref24_Sum xs s)) ?_
    refine WP.s .n (O.asg rfl) ?_
    refine WP.nil ?_
    refine QE.next ?_
    refine CW.seq ?_
    refine CW.seq ?_
    refine CW.region ?_
    refine WP.s .n (O.mv rfl) ?_
    refine WP.s .n (O.ne rfl rfl) ?_
    refine WP.nil ?_
    refine QE.next ?_
    refine CW.condD rfl (fun h_t79 => ?_) (fun h_t79 => ?_)
    · refine CW.seq ?_
      refine CW.region ?_
      refine WP.s .n (O.mv rfl) ?_
      refine WP.s .n (O.mv rfl) ?_
      refine WP.s .n (O.eq rfl rfl) ?_
      refine WP.s .n (O.mv rfl) ?_
      refine WP.splitD 83 rfl (fun h_t83 => ?_) (fun h => absurd rfl h)
      refine WP.s (.g rfl rfl) (O.mv rfl) ?_
      refine WP.s (.g rfl rfl) (O.lenS rfl Try.underlying67) ?_
      refine WP.s (.g rfl rfl) (O.eq rfl rfl) ?_
      refine WP.s .n (O.pickT rfl rfl) ?_
      refine WP.s .n (O.asg rfl) ?_
      refine WP.nil ?_
      refine QE.next ?_
      refine CW.ret ?_
      refine QE.thenR ?_
      exact QE.done (.inl rfl) rfl (ResOk.tl rfl (is_eq (y := true) (by first | (simp; done) | (simp [rowsV, *]; done))) ResOk.nil) (OImp.sub (List.nil_sublist _)) ⟨rfl, rfl⟩
    · refine CW.skip ?_
      refine QE.next ?_
      refine CW.seq ?_
      refine CW.region ?_
      refine WP.s .n (O.mv rfl) ?_
      refine WP.s .n (O.eq rfl rfl) ?_
      refine WP.s .n (O.mv rfl) ?_
      refine WP.splitD 90 rfl (fun h_t90 => ?_) (fun h => absurd (by omega) h)
      refine WP.s (.g rfl rfl) (O.mv rfl) ?_
      refine WP.s (.g rfl rfl) (O.mv rfl) ?_
      refine WP.s (.g rfl rfl) (O.ld rfl (mem_at 1 rfl) (Lens.id _) ty31 rfl) ?_
      refine WP.s (.g rfl rfl) (O.fn fn41 (evs.c rfl (evs.c rfl evs.nil)) (c_ref24_Rows xs s ((wOk_len (wErr_0 (sErr_w h_t79))).2))) ?_
      refine WP.s (.g rfl rfl) (O.fn fn40 (evs.c rfl (evs.c rfl evs.nil)) (c_law24_eqm (rowsV xs s) (rowsK xs s))) ?_
      refine WP.s .n (O.pickT rfl rfl) ?_
      refine WP.s .n (O.asg rfl) ?_
      refine WP.nil ?_
      refine QE.next ?_
      refine CW.ret ?_
      exact QE.done (.inl rfl) rfl (ResOk.tl rfl (is_eq (y := true) (by first | (simp; done) | (simp [rowsV, *]; done))) ResOk.nil) (OImp.sub (List.nil_sublist _)) ⟨rfl, rfl⟩

end Fw


/- Proved: KnapWeights, for every input of bulk at most 1048576; no other condition. -/
set_option linter.unusedVariables false
namespace Go.Proofs.Ytgbafijcklgajaa.knapWeights
open Go.ChangeShapes Go.WideShapes Go.ChangeAt Go.RowKit Fw
theorem rd31 : Rd Try.prog 31 kZ ZB := rd_Z (rd_struct (fs := [_, _]) Try.underlying31 (by kernel_rfl) (rdf_cons rfl (by kernel_rfl) (rd_bool Try.underlying4) rfl (rdf_last rfl (by kernel_rfl) (rd_sl Try.underlying29 (by kernel_rfl) (by decide) (rd_limb Try.underlying121)))))
theorem rd27 : Rd Try.prog 27 (kSl kZ) (fun xs => xs.length ≤ uptoN ∧ ∀ x ∈ xs, ZB x) := rd_sl Try.underlying27 (by kernel_rfl) (by decide) rd31
theorem own : ownKnob Try.prog.godebug = none := by kernel_rfl
theorem laidOut : laidOutB Try.prog = true := by kernel_rfl
set_option maxRecDepth 100000 in
theorem contract (H : Type) (enc : TypeId × Value → H) (W : World) (base : Nat) (args : Array Value) (ds gs : List (DataW H)) (before : List MemPlace)
    (hval : ∀ (j : Nat) t v, Try.f7.params[j]? = some t → args[j]? = some v → Value.okWide Try.prog W .any base t v)
    (hW : DataW.Whole enc Try.prog Try.f7.params.toList Rows.knapWeightsSpec.vars false W args.toList ds gs before) (hk : Rows.uptoSmall H (ds ++ gs) = true) :
    Calls Try.prog 7 args W fun e W' => ∃ v, e = .returned v ∧ Rows.knapWeightsSpec.post enc Try.prog Try.f7 false true false false W args v W' := by
  have hW' := hW
  obtain ⟨p, q, hA0, hV, rfl, hfz, hnd⟩ := hW
  have hA : DataW.TrodAll enc Try.prog W 0 (fun _ => true) true Try.f7.params.toList args.toList ds p := hA0
  rw [Try.params7] at hA hval
  obtain ⟨rfl, rfl⟩ := trodVars_none hV
  unfold Rows.uptoSmall at hk
  have hbulk := of_decide_eq_true hk
  rw [List.append_nil] at hbulk
  obtain ⟨v0, vs0, d0, ds0, p0, q0, hargs, rfl, rfl, h0, r0⟩ := trodAll_cons hA
  obtain ⟨v1, vs1, d1, ds1, p1, q1, rfl, rfl, rfl, h1, r1⟩ := trodAll_cons r0
  obtain ⟨rfl, rfl, rfl⟩ := trodAll_nil r1
  obtain rfl : args = [v0, v1].toArray := by cases args; simp_all
  simp only [Rows.uptoBulkAll] at hbulk
  obtain ⟨x0, a0, b0⟩ := arg_sl Try.underlying27 rd27 (hval 0 27 v0 rfl rfl) h0 (by unfold uptoN; omega)
  obtain ⟨x1, a1, b1⟩ := arg_agg Try.underlying31 rfl rd31 (hval 1 31 v1 rfl rfl) h1 (by unfold uptoN; omega)
  refine ((c_law24_KnapWeights x0 x1).calls (vs := [v0, v1]) ⟨a0, a1, trivial⟩).mono fun e W' ⟨he, bel⟩ => ?_
  subst he
  exact ⟨_, rfl, _, _, _, [], _, [], hW', trodAll_mk1 (shut_bool Try.underlying4 _), below_all laidOut bel (by kernel_rfl) hA0 (fun x hx => by simpa using hW'.lt x (by simpa using hx)), rfl, bel.frame _, fun h => by cases h⟩
set_option maxRecDepth 100000 in
theorem lifted (os : Os) (started : os.Started) (H : Type) (enc : TypeId × Value → H) (F : Stop.Interp) :
    ReturnsInHanded {} Try.checked os 7 .any ((Rows.OpenSpec.upto Rows.knapWeightsSpec).pre6 enc Try.prog Try.f7 Rows.knapWeightsUptoRow.domain false) (((Rows.OpenSpec.upto Rows.knapWeightsSpec).at F).post enc Try.prog Try.f7 false true false false) := by
  refine returnsInHanded_of_cond (C := Try.checked) (s := Rows.OpenSpec.upto Rows.knapWeightsSpec) (k := Rows.uptoSmall) rfl own started (by kernel_rfl) Try.func7
    (OpenSpec.witness (enc := enc) (C := Try.checked) (s := Rows.OpenSpec.upto Rows.knapWeightsSpec) (k := Rows.uptoSmall) rfl false ⟨#[], #[.slice none 0 0, .agg #[.bool false, .slice none 0 0]], []⟩ 8 (by kernel_rfl) (by kernel_rfl) (by kernel_rfl)
      (x := ([.nil, .agg [.lit (.bool false), .nil]], [], [])) (by kernel_rfl) rfl (by kernel_rfl)) ?_
  intro W base args ds gs before hval hW _ hk _
  exact contract H enc W base args ds gs before hval hW hk
theorem over : Rows.knapWeightsUptoRow.holds Try.pinned (Rows.OpenSpec.upto Rows.knapWeightsSpec) :=
  OpenClaim.holds_of_cond 7 Try.f7 rfl rfl rfl rfl rfl rfl rfl ⟨rfl, rfl, rfl, rfl, rfl⟩ rfl rfl rfl rfl rfl (by kernel_rfl) Try.func7 (by kernel_rfl)
    (of_decide_eq_true (by kernel_rfl)) (by unfold Func.isWrapper; first | (rw [if_pos (by decide +kernel)]; kernel_rfl) | (rw [if_neg (by decide +kernel)]; exact ⟨rfl, rfl⟩))
    (fun os started H enc _ F => lifted os started H enc F)
theorem proved : Rows.KnapWeightsUptoSaid := over
end Go.Proofs.Ytgbafijcklgajaa.knapWeights
