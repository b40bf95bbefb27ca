/- Plain facts on limbs: shifts by less than a limb; a long quotient. -/
import Derived.Test.YtgbafijcklgajaaNe
set_option linter.unusedVariables false
set_option linter.unusedSimpArgs false
set_option exponentiation.threshold 70
namespace Fw
open Go (IntKind)
theorem quo32 {n : Nat} (h : n < 32) : IntKind.i64.wrap ((n : Int).tdiv 32) = 0 := by
  have : (n : Int).tdiv 32 = ((n / 32 : Nat) : Int) := rfl
  rw [this, Nat.div_eq_of_lt h]; rfl
theorem rem32 {n : Nat} (h : n < 32) : (n : Int).tmod 32 = (n : Int) := by
  have : (n : Int).tmod 32 = ((n % 32 : Nat) : Int) := rfl
  rw [this, Nat.mod_eq_of_lt h]
theorem orN32 (j : Nat) {a b : Int} {s t : Nat} (ha : a = t) (hb : b = ((s * 2 ^ j : Nat) : Int)) (ht : t < 2 ^ j) (hs : s * 2 ^ j + t < 4294967296) : IntKind.u32.wrap ((BitVec.ofInt IntKind.u32.bits a ||| BitVec.ofInt IntKind.u32.bits b).toNat) = ((s * 2 ^ j + t : Nat) : Int) := by
  subst ha hb
  have h1 : (BitVec.ofInt IntKind.u32.bits ((s * 2 ^ j : Nat) : Int)).toNat = s * 2 ^ j := by
    rw [BitVec.ofInt_natCast, BitVec.toNat_ofNat]
    exact Nat.mod_eq_of_lt (Nat.lt_of_le_of_lt (Nat.le_add_right _ t) hs)
  have h2 : (BitVec.ofInt IntKind.u32.bits (t : Int)).toNat = t := by
    rw [BitVec.ofInt_natCast, BitVec.toNat_ofNat]
    exact Nat.mod_eq_of_lt (Nat.lt_of_le_of_lt (Nat.le_add_left t _) hs)
  rw [BitVec.toNat_or, h1, h2, Nat.or_comm, Nat.mul_comm s, ← Nat.two_pow_add_eq_or_of_lt ht, Nat.mul_comm, wr32 rfl, Nat.mod_eq_of_lt hs]
theorem pow32 {n : Nat} (h : n < 32) : 1 ≤ 2 ^ n ∧ 2 ^ n ≤ 2147483648 ∧ 2 ^ n * 2 ^ (32 - n) = 4294967296 := by
  refine ⟨Nat.two_pow_pos n, ?_, ?_⟩
  · exact Nat.pow_le_pow_right (n := 2) (by decide) (Nat.le_of_lt_succ h : n ≤ 31)
  · rw [← Nat.pow_add, Nat.add_sub_cancel' (Nat.le_of_lt h)]
theorem shl_lo {x n : Nat} (h : n < 32) : x * 2 ^ n % 4294967296 = x % 2 ^ (32 - n) * 2 ^ n := by
  rw [← (pow32 h).2.2, Nat.mul_comm (2 ^ n), Nat.mul_mod_mul_right]
theorem shl_hi {x n : Nat} (h : n < 32) (hx : x < 4294967296) : x * 2 ^ n / 2 ^ 32 < 2 ^ n ∧ x * 2 ^ n < 18446744073709551616 := by
  obtain ⟨h1, h2, h3⟩ := pow32 h
  constructor
  · rw [Nat.div_lt_iff_lt_mul (by decide), Nat.mul_comm]
    exact Nat.mul_lt_mul_of_pos_left hx h1
  · have : x * 2 ^ n ≤ 4294967295 * 2147483648 := Nat.mul_le_mul (Nat.le_of_lt_succ hx) h2
    exact Nat.lt_of_le_of_lt this (by decide)
theorem shl_or {x n t : Nat} (h : n < 32) (ht : t < 2 ^ n) : x % 2 ^ (32 - n) * 2 ^ n + t < 4294967296 := by
  obtain ⟨h1, h2, h3⟩ := pow32 h
  have h4 : x % 2 ^ (32 - n) + 1 ≤ 2 ^ (32 - n) := Nat.mod_lt _ (Nat.two_pow_pos _)
  have h5 := Nat.mul_le_mul_right (2 ^ n) h4
  rw [Nat.succ_mul, Nat.mul_comm (2 ^ (32 - n)), h3] at h5
  omega
def ShlR (l row : List Nat) (n i : Nat) : Prop := i ≤ l.length ∧ row.length = l.length + 1 ∧ Lims row ∧ row.getD i 0 < 2 ^ n ∧ nval (row.take (i + 1)) = nval (l.take i) * 2 ^ n
theorem shlR_0 (l : List Nat) (n : Nat) : ShlR l (List.replicate (l.length + 1) 0) n 0 := by
  refine ⟨by omega, by simp, fun x hx => ?_, ?_, ?_⟩
  · have := (List.mem_replicate.1 hx).2; omega
  · rw [List.getD_eq_getElem?_getD, List.getElem?_replicate]
    have := Nat.two_pow_pos n
    split <;> simpa using this
  · rw [List.take_replicate, nval_replicate0]; simp [nval]
theorem shlR_s {l row : List Nat} {n i : Nat} (lL : Lims l) (hn : n < 32) (hi : i < l.length) (h : ShlR l row n i) :
    ShlR l ((row.set i (l.getD i 0 % 2 ^ (32 - n) * 2 ^ n + row.getD i 0)).set (i + 1) (l.getD i 0 * 2 ^ n / 2 ^ 32)) n (i + 1) := by
  obtain ⟨h1, h2, h3, h4, h5⟩ := h
  have hx := getD_lt lL i
  obtain ⟨k1, k2⟩ := shl_hi hn hx
  have k3 := shl_or (x := l.getD i 0) hn h4
  have k4 : l.getD i 0 * 2 ^ n / 2 ^ 32 < 4294967296 := Nat.lt_of_lt_of_le k1 (Nat.le_trans (pow32 hn).2.1 (by decide))
  refine ⟨by omega, by simpa using h2, (h3.set k3).set k4, ?_, ?_⟩
  · rw [List.getD_eq_getElem?_getD, List.getElem?_set_self (by simp; omega)]; exact k1
  · rw [nval_take_set (by simp; omega), nval_take_set (by omega), nval_take_succ, Nat.add_mul, ← h5, nval_take_succ, ← shl_lo hn, Nat.pow_succ]
    rw [Nat.mul_assoc _ (l.getD i 0), Nat.mul_assoc (4294967296 ^ i) 4294967296]
    generalize l.getD i 0 * 2 ^ n = s
    have e2 : s % 4294967296 + 4294967296 * (s / 2 ^ 32) = s := by
      have := Nat.div_add_mod s 4294967296
      omega
    have e3 := congrArg (4294967296 ^ i * ·) e2
    simp only [Nat.mul_add] at e3 ⊢
    omega
theorem shlR_end {l row : List Nat} {n i : Nat} (hi : i = l.length) (h : ShlR l row n i) : nval row = nval l * 2 ^ n := by
  obtain ⟨h1, h2, h3, h4, h5⟩ := h
  subst hi
  rwa [List.take_length, List.take_of_length_le (Nat.le_of_eq h2)] at h5
/-! ### shr -/
def ShrR (l r : List Nat) (n : Nat) : Prop := r.length ≤ l.length ∧ Lims r ∧ nval r = (nval l / 2 ^ n) % 4294967296 ^ r.length
theorem shrR_0 (l : List Nat) (n : Nat) : ShrR l [] n := ⟨by simp, fun x h => (by cases h), by simp [nval, Nat.mod_one]⟩
theorem shr_or {x y : Nat} (hx : x < 4294967296) (hy : y < 4294967296) : y * 2 ^ 32 + x < 18446744073709551616 := by omega
theorem limb_at (l : List Nat) (hl : Lims l) (i : Nat) : l.getD i 0 = nval l / 4294967296 ^ i % 4294967296 := by
  have h1 := nval_split l i
  rw [nval_drop] at h1
  have h2 := nval_lt' hl i
  have h3 := getD_lt hl i
  have hp : 0 < 4294967296 ^ i := Nat.pow_pos (by decide)
  rw [h1, Nat.add_mul_div_left _ _ hp, Nat.div_eq_of_lt h2, Nat.zero_add, Nat.add_mul_mod_self_left, Nat.mod_eq_of_lt h3]
theorem two_limbs (l : List Nat) (hl : Lims l) (i : Nat) : l.getD (i + 1) 0 * 2 ^ 32 + l.getD i 0 = nval l / 4294967296 ^ i % 18446744073709551616 := by
  rw [limb_at l hl i, limb_at l hl (i + 1), Nat.pow_succ, ← Nat.div_div_eq_div_mul]
  generalize nval l / 4294967296 ^ i = z
  omega
theorem shr_dig {z n : Nat} (hn : n < 32) : z % 18446744073709551616 / 2 ^ n % 4294967296 = z / 2 ^ n % 4294967296 := by
  obtain ⟨h1, h2, h3⟩ := pow32 hn
  have e : 18446744073709551616 = 2 ^ n * (2 ^ (32 - n) * 4294967296) := by
    rw [← Nat.mul_assoc, h3]
  rw [e, Nat.mod_mul_right_div_self, Nat.mul_comm (2 ^ (32 - n)), Nat.mod_mul_right_mod]
theorem shrR_s {l r : List Nat} {n : Nat} (lL : Lims l) (hn : n < 32) (hi : r.length < l.length) (h : ShrR l r n) :
    ShrR l (r ++ [(l.getD (r.length + 1) 0 * 2 ^ 32 + l.getD r.length 0) / 2 ^ n % 4294967296]) n := by
  obtain ⟨h1, h2, h3⟩ := h
  refine ⟨by simp; omega, h2.concat (Nat.mod_lt _ (by decide)), ?_⟩
  rw [nval_concat, two_limbs l lL, shr_dig hn, h3, List.length_append, List.length_singleton, Nat.div_div_eq_div_mul, Nat.mul_comm (4294967296 ^ r.length) (2 ^ n), ← Nat.div_div_eq_div_mul, Nat.pow_succ, Nat.mod_mul]
theorem shrR_end {l r : List Nat} {n : Nat} (lL : Lims l) (hr : r.length = l.length) (h : ShrR l r n) : nval r = nval l / 2 ^ n := by
  obtain ⟨h1, h2, h3⟩ := h
  rw [h3, hr, Nat.mod_eq_of_lt]
  exact Nat.lt_of_le_of_lt (Nat.div_le_self _ _) (nval_lt lL)
theorem orN' (j : Nat) {a b : Int} {s t : Nat} (ha : a = t) (hb : b = ((s * 2 ^ j : Nat) : Int)) (ht : t < 2 ^ j) (hs : s * 2 ^ j + t < 18446744073709551616) : IntKind.u64.wrap ((BitVec.ofInt IntKind.u64.bits a ||| BitVec.ofInt IntKind.u64.bits b).toNat) = ((s * 2 ^ j + t : Nat) : Int) := by
  rw [BitVec.or_comm]
  exact orN j hb ha ht hs
end Fw
