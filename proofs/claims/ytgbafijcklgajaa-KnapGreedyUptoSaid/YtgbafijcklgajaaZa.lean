/- Plain facts on whole numbers: what the functions of layer 2 rest on. -/
import Derived.Test.YtgbafijcklgajaaNa
set_option linter.unusedVariables false
set_option linter.unusedSimpArgs false
set_option exponentiation.threshold 70
namespace Fw

theorem ival_neg {b : Bool} {l : List Nat} (h : b = true) : ival (b, l) = -(nval l : Int) := by simp [ival, h]
theorem ival_pos {b : Bool} {l : List Nat} (h : b = false) : ival (b, l) = (nval l : Int) := by simp [ival, h]
theorem ival_abs (y : Bool × List Nat) : (ival y).natAbs = nval y.2 := by
  unfold ival; split <;> simp
theorem ival0 {y : Bool × List Nat} (h : nval y.2 = 0) : ival y = 0 := by
  unfold ival; split <;> simp [h]
theorem bitlen_0 {n : Nat} : bitlen n = 0 ↔ n = 0 := by
  constructor
  · intro h
    by_cases h0 : n = 0
    · exact h0
    · simp [bitlen, h0] at h
  · intro h; subst h; rfl
theorem sign_0 {y : Bool × List Nat} (h : (bitlen (nval y.2) : Int) = 0) : 0 = (ival y).sign := by
  rw [ival0 (bitlen_0.1 (by omega))]; rfl
theorem sign_neg {y : Bool × List Nat} (h : ¬ (bitlen (nval y.2) : Int) = 0) (hb : y.1 = true) : (-1) = (ival y).sign := by
  have : nval y.2 ≠ 0 := fun h0 => h (by rw [bitlen_0.2 h0]; rfl)
  unfold ival; rw [if_pos hb]
  rw [Int.sign_neg, Int.sign_eq_one_of_pos (by omega)]
theorem sign_pos {y : Bool × List Nat} (h : ¬ (bitlen (nval y.2) : Int) = 0) (hb : y.1 = false) : 1 = (ival y).sign := by
  have : nval y.2 ≠ 0 := fun h0 => h (by rw [bitlen_0.2 h0]; rfl)
  unfold ival; rw [if_neg (by simp [hb])]
  rw [Int.sign_eq_one_of_pos (by omega)]
theorem limbs0 {n : Nat} (h : (limbs n).length = 0) : n = 0 := by
  by_cases h0 : n = 0
  · exact h0
  · rw [limbs_pos h0] at h; simp at h
theorem made_zero {b : Bool} {l : List Nat} (h : nval l = 0) : (0 : Int) = ival (b, l) := (ival0 (y := (b, l)) h).symm
theorem canon_of {b : Bool} {l : List Nat} (h : nval l ≠ 0) : (b, limbs (nval l)) = canon (ival (b, l)) := by
  cases b with
  | true =>
    rw [ival_neg rfl]
    simp only [canon, Int.natAbs_neg, Int.natAbs_natCast, Prod.mk.injEq, and_true]
    rw [eq_comm, decide_eq_true_iff]
    omega
  | false =>
    rw [ival_pos rfl]
    simp only [canon, Int.natAbs_natCast, Prod.mk.injEq, and_true]
    rw [eq_comm, decide_eq_false_iff_not]
    omega
theorem canon_of' {b : Bool} {l : List Nat} : (b && decide (0 < ((limbs (nval l)).length : Int)), limbs (nval l)) = canon (ival (b, l)) := by
  by_cases h : nval l = 0
  · rw [h, ival0 (y := (b, l)) h]; simp [limbs_zero, canon]
  · rw [← canon_of h]
    rw [limbs_pos h]; simp
theorem copy_take {l : List Nat} {i : Nat} (h : i ≤ l.length) : l.take (min l.length (List.replicate i 0).length) ++ (List.replicate i 0).drop (min l.length (List.replicate i 0).length) = l.take i := by
  rw [List.length_replicate, Nat.min_eq_right h, List.drop_of_length_le (by simp), List.append_nil]
theorem add_same {p q : Bool × List Nat} (h : p.1 = q.1) : ival (p.1, limbs (nval p.2 + nval q.2)) = ival p + ival q := by
  unfold ival
  simp only [nval_limbs, ← h]
  split <;> omega
theorem add_ge {p q : Bool × List Nat} (h : p.1 ≠ q.1) (hc : ¬ cmpI (nval p.2) (nval q.2) < 0) : ival (p.1, if nval p.2 < nval q.2 then [] else limbs (nval p.2 - nval q.2)) = ival p + ival q := by
  have := cmpI_ge hc
  rw [if_neg (by omega)]
  unfold ival
  simp only [nval_limbs]
  cases hp : p.1 <;> cases hq : q.1 <;> simp_all <;> omega
theorem add_lt {p q : Bool × List Nat} (h : p.1 ≠ q.1) (hc : cmpI (nval p.2) (nval q.2) < 0) : ival (q.1, if nval q.2 < nval p.2 then [] else limbs (nval q.2 - nval p.2)) = ival p + ival q := by
  have := cmpI_lt hc
  rw [if_neg (by omega)]
  unfold ival
  simp only [nval_limbs]
  cases hp : p.1 <;> cases hq : q.1 <;> simp_all <;> omega
theorem copy_len (i : Nat) : (List.replicate i 0).length = i := List.length_replicate
theorem own_val {y : Bool × List Nat} {z : Int} {t : List Nat} (h : ival y = z) : ival (y.1, (y.2 ++ t).take y.2.length) = z := by
  rw [List.take_left]; exact h
theorem made_nz {l : List Nat} {i : Nat} (hlim : l.take i = limbs (nval l)) (hi : i ≤ l.length) (h : i ≠ 0) : nval l ≠ 0 := fun h0 => by
  rw [h0, limbs_zero] at hlim
  have := congrArg List.length hlim
  rw [List.length_take, List.length_nil] at this
  omega
end Fw
