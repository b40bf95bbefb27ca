/- Plain facts on whole numbers: more of layer 2. -/
import Derived.Test.YtgbafijcklgajaaRa
set_option linter.unusedVariables false
set_option linter.unusedSimpArgs false
set_option exponentiation.threshold 70
namespace Fw

theorem lt_gen {n k x : Nat} (h : n ≤ k) (hx : x < 4294967296 ^ n) : x < 4294967296 ^ k := Nat.lt_of_lt_of_le hx (Nat.pow_le_pow_right (by decide) h)
theorem kZ_sm {z : Int} (m : Mem) (v : Go.Value) (h : (kZ.is z).p m v) : Sm z := by
  obtain ⟨cs, _, y, h1, rfl, h2⟩ := h
  have hl : Lims y.2 := by
    obtain ⟨a, b, _, _, _, _, _, _, _, h3⟩ := h1
    rcases h3 with h3 | ⟨_, _, _, _, _, _, _, r⟩
    · intro x hx; rw [h3] at hx; cases hx
    · exact rows_lims r
  unfold Sm
  rw [ival_abs]
  have h5 := lt_gen h2 (nval_lt hl)
  exact h5
theorem Sm_mono {x y : Int} (h : Sm x) (hl : y.natAbs ≤ x.natAbs) : Sm y := Nat.lt_of_le_of_lt hl h
theorem Sm_neg {z : Int} (h : Sm z) : Sm (-z) := Sm_mono h (Nat.le_of_eq (Int.natAbs_neg z))
theorem ival_not {y : Bool × List Nat} : ival (!y.1, y.2) = -ival y := by
  unfold ival
  cases y.1 <;> simp
theorem ival_mul {p q : Bool × List Nat} : ival (decide (p.1 ≠ q.1), limbs (nval p.2 * nval q.2)) = ival p * ival q := by
  unfold ival
  simp only [nval_limbs]
  cases hp : p.1 <;> cases hq : q.1 <;> simp [Int.neg_mul, Int.mul_neg]
theorem zcmp_lt {p q : Bool × List Nat} {x y : Int} (hp : ival p = x) (hq : ival q = y) (h : (ival p).sign < (ival q).sign) : (-1) = (x - y).sign := by
  subst hp hq
  have : ival p < ival q := by
    rcases Int.lt_trichotomy (ival p) 0 with h1 | h1 | h1 <;> rcases Int.lt_trichotomy (ival q) 0 with h2 | h2 | h2 <;>
      simp_all [Int.sign_eq_one_of_pos, Int.sign_eq_neg_one_of_neg] <;> omega
  rw [Int.sign_eq_neg_one_of_neg (by omega)]
theorem zcmp_gt {p q : Bool × List Nat} {x y : Int} (hp : ival p = x) (hq : ival q = y) (h : (ival q).sign < (ival p).sign) : 1 = (x - y).sign := by
  subst hp hq
  have : ival q < ival p := by
    rcases Int.lt_trichotomy (ival p) 0 with h1 | h1 | h1 <;> rcases Int.lt_trichotomy (ival q) 0 with h2 | h2 | h2 <;>
      simp_all [Int.sign_eq_one_of_pos, Int.sign_eq_neg_one_of_neg] <;> omega
  rw [Int.sign_eq_one_of_pos (by omega)]
theorem cmpI_sign (a b : Nat) : cmpI a b = ((a : Int) - b).sign := by
  unfold cmpI
  rcases Nat.lt_trichotomy a b with h | h | h
  · rw [if_pos h, Int.sign_eq_neg_one_of_neg (by omega)]
  · subst h; simp
  · rw [if_neg (by omega), if_pos h, Int.sign_eq_one_of_pos (by omega)]
theorem zcmp_same {p q : Bool × List Nat} {x y : Int} (hp : ival p = x) (hq : ival q = y) (h1 : ¬ (ival p).sign < (ival q).sign) (h2 : ¬ (ival q).sign < (ival p).sign) : Go.IntKind.i64.wrap ((ival p).sign * cmpI (nval p.2) (nval q.2)) = (x - y).sign := by
  subst hp hq
  have hs : (ival p).sign = (ival q).sign := by omega
  have key : (ival p).sign * cmpI (nval p.2) (nval q.2) = (ival p - ival q).sign := by
    rcases Int.lt_trichotomy (ival p) 0 with h1 | h1 | h1
    · have hq : ival q < 0 := by
        rw [Int.sign_eq_neg_one_of_neg h1] at hs
        exact Int.sign_eq_neg_one_iff_neg.1 hs.symm
      have e1 : ival p = -(nval p.2 : Int) := by
        unfold ival at h1 ⊢; split <;> simp_all <;> omega
      have e2 : ival q = -(nval q.2 : Int) := by
        unfold ival at hq ⊢; split <;> simp_all <;> omega
      rw [Int.sign_eq_neg_one_of_neg h1, cmpI_sign, e1, e2, show (-(nval p.2 : Int) - -(nval q.2 : Int)) = -((nval p.2 : Int) - (nval q.2 : Int)) by omega, Int.sign_neg]
      omega
    · have hq : ival q = 0 := by
        rw [h1] at hs
        exact Int.sign_eq_zero_iff_zero.1 hs.symm
      rw [h1, hq]; simp
    · have hq : 0 < ival q := by
        rw [Int.sign_eq_one_of_pos h1] at hs
        exact Int.sign_eq_one_iff_pos.1 hs.symm
      have e1 : ival p = (nval p.2 : Int) := by
        unfold ival at h1 ⊢; split <;> simp_all <;> omega
      have e2 : ival q = (nval q.2 : Int) := by
        unfold ival at hq ⊢; split <;> simp_all <;> omega
      rw [Int.sign_eq_one_of_pos h1, cmpI_sign, e1, e2, Int.one_mul]
  rw [key]
  rcases Int.lt_trichotomy (ival p - ival q) 0 with h | h | h
  · rw [Int.sign_eq_neg_one_of_neg h]; rfl
  · rw [h]; rfl
  · rw [Int.sign_eq_one_of_pos h]; rfl
end Fw
