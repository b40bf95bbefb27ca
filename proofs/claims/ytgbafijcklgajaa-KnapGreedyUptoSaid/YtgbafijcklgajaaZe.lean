/- Plain facts on whole numbers: the floor of a quotient. -/
import Derived.Test.YtgbafijcklgajaaZc
set_option linter.unusedVariables false
set_option linter.unusedSimpArgs false
set_option exponentiation.threshold 70
namespace Fw
theorem fdiv_unique {x y q r : Int} (h : x = q * y + r) (hr : (0 ≤ r ∧ r < y) ∨ (y < r ∧ r ≤ 0)) : q = x.fdiv y ∧ r = x.fmod y := by
  have key : q = x.fdiv y := by
    rcases hr with ⟨h1, h2⟩ | ⟨h1, h2⟩
    · rw [Int.fdiv_eq_ediv_of_nonneg _ (by omega), h, Int.add_comm, Int.add_mul_ediv_right _ _ (by omega), Int.ediv_eq_zero_of_lt h1 h2]; omega
    · rw [← Int.neg_fdiv_neg, Int.fdiv_eq_ediv_of_nonneg _ (by omega), h, show -(q * y + r) = -r + q * -y by rw [Int.mul_neg]; omega, Int.add_mul_ediv_right _ _ (by omega), Int.ediv_eq_zero_of_lt (by omega) (by omega)]; omega
  refine ⟨key, ?_⟩
  rw [Int.fmod_def, ← key, h, Int.mul_comm y q]; omega
theorem div_split {p q : Bool × List Nat} (hq : nval q.2 ≠ 0) : ival p = ival (decide (p.1 ≠ q.1), limbs (nval p.2 / nval q.2)) * ival q + ival (p.1, if nval q.2 = 0 then [] else limbs (nval p.2 % nval q.2)) := by
  have h := Nat.div_add_mod (nval p.2) (nval q.2)
  rw [if_neg hq]
  unfold ival
  simp only [nval_limbs]
  have h' : (nval p.2 : Int) = (nval q.2 : Int) * ((nval p.2 / nval q.2 : Nat) : Int) + ((nval p.2 % nval q.2 : Nat) : Int) := by
    rw [← Int.natCast_mul, ← Int.natCast_add, h]
  rw [Int.mul_comm] at h'
  generalize ((nval p.2 / nval q.2 : Nat) : Int) = d at *
  generalize ((nval p.2 % nval q.2 : Nat) : Int) = r at *
  rw [h']
  cases hp : p.1 <;> cases hq : q.1 <;> simp [Int.neg_mul, Int.mul_neg] <;> omega
theorem rem_lt {p q : Bool × List Nat} (hq : nval q.2 ≠ 0) : (ival (p.1, if nval q.2 = 0 then [] else limbs (nval p.2 % nval q.2))).natAbs < (ival q).natAbs := by
  rw [ival_abs, ival_abs, if_neg hq, nval_limbs]
  exact Nat.mod_lt _ (by omega)
theorem floor_0 {x y M R : Int} (h : x = M * y + R) (hl : R.natAbs < y.natAbs) (h0 : ¬ R.sign ≠ 0) : M = x.fdiv y ∧ R = x.fmod y := by
  have : R = 0 := Int.sign_eq_zero_iff_zero.1 (by omega)
  exact fdiv_unique h (by omega)
theorem floor_1 {x y M R : Int} (h : x = M * y + R) (hl : R.natAbs < y.natAbs) (h0 : R.sign ≠ 0) (h1 : ¬ R.sign ≠ y.sign) : M = x.fdiv y ∧ R = x.fmod y := by
  refine fdiv_unique h ?_
  have h2 : R.sign = y.sign := by omega
  rcases Int.lt_trichotomy R 0 with h3 | h3 | h3
  · rw [Int.sign_eq_neg_one_of_neg h3] at h2
    have := Int.sign_eq_neg_one_iff_neg.1 h2.symm
    omega
  · rw [h3] at h0; simp at h0
  · rw [Int.sign_eq_one_of_pos h3] at h2
    have := Int.sign_eq_one_iff_pos.1 h2.symm
    omega
theorem floor_2 {x y M R : Int} (h : x = M * y + R) (hl : R.natAbs < y.natAbs) (h0 : R.sign ≠ 0) (h1 : R.sign ≠ y.sign) : M - 1 = x.fdiv y ∧ R + y = x.fmod y := by
  refine fdiv_unique (by rw [h, Int.sub_mul, Int.one_mul]; omega) ?_
  rcases Int.lt_trichotomy R 0 with h3 | h3 | h3
  · rw [Int.sign_eq_neg_one_of_neg h3] at h1
    have : ¬ y < 0 := fun hy => h1 (by rw [Int.sign_eq_neg_one_of_neg hy])
    omega
  · rw [h3] at h0; simp at h0
  · rw [Int.sign_eq_one_of_pos h3] at h1
    have : ¬ 0 < y := fun hy => h1 (by rw [Int.sign_eq_one_of_pos hy])
    omega
theorem Sm_le {x y : Int} (h : Sm x) (hl : y.natAbs ≤ x.natAbs) : Sm y := Nat.lt_of_le_of_lt hl h
theorem Sm_lit {n : Int} (h : n.natAbs < 2 ^ 64) : Sm n := Sm_of (n := 64) h (by decide)
theorem fmod_abs {x y : Int} (hy : y ≠ 0) : (x.fmod y).natAbs < y.natAbs := by
  rcases Int.lt_trichotomy y 0 with h | h | h
  · have h1 : x.fmod y = -((-x).fmod (-y)) := by
      rw [Int.fmod_def, Int.fmod_def, Int.neg_fdiv_neg, Int.neg_mul]; omega
    have h2 := Int.fmod_nonneg_of_pos (-x) (show 0 < -y by omega)
    have h3 := Int.fmod_lt_of_pos (-x) (show 0 < -y by omega)
    omega
  · exact absurd h hy
  · have h2 := Int.fmod_nonneg_of_pos x h
    have h3 := Int.fmod_lt_of_pos x h
    omega
theorem fmod_sm {x y : Int} (h : Sm y) (hy : y ≠ 0) : Sm (x.fmod y) := Sm_le h (Nat.le_of_lt (fmod_abs hy))
end Fw
