/- Plain facts on limbs: products, quotients by one limb, shifts. -/
import Derived.Test.YtgbafijcklgajaaRa
set_option linter.unusedVariables false
set_option linter.unusedSimpArgs false
set_option exponentiation.threshold 70
namespace Fw
open Go (IntKind)

theorem nval_set {l : List Nat} {k d : Nat} (h : k < l.length) : nval (l.set k d) + 4294967296 ^ k * l.getD k 0 = nval l + 4294967296 ^ k * d := by
  have h1 := split_at (l := l) (i := k + 1) (by omega) (by omega)
  have h2 := split_at (l := l.set k d) (i := k + 1) (by simp; omega) (by omega)
  simp only [Nat.add_sub_cancel] at h1 h2
  rw [List.take_set_of_le (by omega), List.drop_set_of_lt (by omega)] at h2
  have h3 : (l.set k d).getD k 0 = d := by
    rw [List.getD_eq_getElem?_getD, List.getElem?_set_self h]; rfl
  rw [h3] at h2
  rw [h1, h2, Nat.mul_add, Nat.mul_add]
  omega
theorem getD_set_ne' {l : List Nat} {k j d : Nat} (h : k ≠ j) : (l.set k d).getD j 0 = l.getD j 0 := by
  rw [List.getD_eq_getElem?_getD, List.getElem?_set_ne h, ← List.getD_eq_getElem?_getD]
theorem Lims.set {l : List Nat} {k d : Nat} (h : Lims l) (hd : d < 4294967296) : Lims (l.set k d) := fun x hx => by
  rcases List.mem_or_eq_of_mem_set hx with hx | rfl
  · exact h x hx
  · exact hd
theorem mul_bd {a b : Nat} (ha : a < 4294967296) (hb : b < 4294967296) : a * b ≤ 18446744065119617025 := by
  have : a * b ≤ 4294967295 * 4294967295 := Nat.mul_le_mul (by omega) (by omega)
  omega
def MulO (A B row : List Nat) (i : Nat) : Prop := Lims row ∧ row.length = A.length + B.length ∧ nval row = nval (A.take i) * nval B ∧ ∀ p, i + B.length ≤ p → row.getD p 0 = 0
def MulI (A B row : List Nat) (i j c : Nat) : Prop := Lims row ∧ row.length = A.length + B.length ∧ c < 4294967296 ∧ nval row + 4294967296 ^ (i + j) * c = nval (A.take i) * nval B + 4294967296 ^ i * (A.getD i 0 * nval (B.take j)) ∧ ∀ p, i + B.length ≤ p → row.getD p 0 = 0
theorem mulO_0 (A B : List Nat) : MulO A B (List.replicate (A.length + B.length) 0) 0 := by
  refine ⟨fun x hx => ?_, by simp, by simp [nval_replicate0, nval], fun p hp => ?_⟩
  · have := (List.mem_replicate.1 hx).2; omega
  · rw [List.getD_eq_getElem?_getD, List.getElem?_replicate]; split <;> rfl
theorem mulI_0 {A B row : List Nat} {i : Nat} (h : MulO A B row i) : MulI A B row i 0 0 := by
  obtain ⟨h1, h2, h3, h4⟩ := h
  exact ⟨h1, h2, by omega, by simp [nval, h3], h4⟩
theorem mulI_s {A B row : List Nat} {i j c : Nat} (lA : Lims A) (lB : Lims B) (hi : i < A.length) (hj : j < B.length) (h : MulI A B row i j c) : MulI A B (row.set (i + j) ((c + (A.getD i 0 * B.getD j 0 + row.getD (i + j) 0)) % 4294967296)) i (j + 1) ((c + (A.getD i 0 * B.getD j 0 + row.getD (i + j) 0)) / 2 ^ 32) := by
  obtain ⟨h1, h2, h3, h4, h5⟩ := h
  have a1 := getD_lt h1 (i + j)
  have a2 := mul_bd (getD_lt lA i) (getD_lt lB j)
  generalize hs : c + (A.getD i 0 * B.getD j 0 + row.getD (i + j) 0) = s
  have hset := nval_set (l := row) (k := i + j) (d := s % 4294967296) (by omega)
  refine ⟨h1.set (by omega), by simpa using h2, by omega, ?_, fun p hp => ?_⟩
  · rw [nval_take_succ, ← Nat.add_assoc, Nat.pow_succ, Nat.mul_assoc]
    have e1 : 4294967296 ^ (i + j) * (4294967296 * (s / 2 ^ 32)) + 4294967296 ^ (i + j) * (s % 4294967296) = 4294967296 ^ (i + j) * s := by
      rw [← Nat.mul_add]; congr 1; omega
    have e2 : 4294967296 ^ (i + j) * s = 4294967296 ^ (i + j) * c + (4294967296 ^ (i + j) * (A.getD i 0 * B.getD j 0) + 4294967296 ^ (i + j) * row.getD (i + j) 0) := by
      rw [← hs, Nat.mul_add, Nat.mul_add]
    have e3 : 4294967296 ^ i * (A.getD i 0 * (nval (B.take j) + 4294967296 ^ j * B.getD j 0)) = 4294967296 ^ i * (A.getD i 0 * nval (B.take j)) + 4294967296 ^ (i + j) * (A.getD i 0 * B.getD j 0) := by
      rw [Nat.mul_add, Nat.mul_add, Nat.pow_add]
      congr 1
      rw [Nat.mul_assoc]
      congr 1
      rw [← Nat.mul_assoc, ← Nat.mul_assoc, Nat.mul_comm (A.getD i 0)]
    rw [e3]
    omega
  · rw [getD_set_ne' (by omega)]; exact h5 p hp
theorem mulI_end {A B row : List Nat} {i c : Nat} (hi : i < A.length) (h : MulI A B row i B.length c) : MulO A B (row.set (i + B.length) c) (i + 1) := by
  obtain ⟨h1, h2, h3, h4, h5⟩ := h
  have hset := nval_set (l := row) (k := i + B.length) (d := c) (by omega)
  rw [h5 _ (Nat.le_refl _), Nat.mul_zero, Nat.add_zero, h4, List.take_length] at hset
  refine ⟨h1.set h3, by simpa using h2, ?_, fun p hp => ?_⟩
  · rw [hset, nval_take_succ, Nat.add_mul, Nat.mul_assoc]
  · rw [getD_set_ne' (by omega)]; exact h5 p (by omega)
theorem mulO_end {A B row : List Nat} {i : Nat} (hi : i = A.length) (h : MulO A B row i) : nval row = nval A * nval B := by
  obtain ⟨h1, h2, h3, h4⟩ := h
  rw [h3, hi, List.take_length]
/-! ### By one limb -/
def ShortR (l row : List Nat) (d i r : Nat) : Prop := Lims row ∧ row.length = l.length ∧ r < d ∧ nval (l.drop i) = nval (row.drop i) * d + r
theorem drop_set {l : List Nat} {i d : Nat} (h : i < l.length) : (l.set i d).drop i = d :: l.drop (i + 1) := by
  rw [List.drop_eq_getElem_cons (by simpa using h), List.getElem_set_self, List.drop_set_of_lt (by omega)]
theorem shortR_0 {l : List Nat} {d : Nat} (hd : d ≠ 0) : ShortR l (List.replicate l.length 0) d l.length 0 := by
  refine ⟨fun x hx => ?_, by simp, by omega, ?_⟩
  · have := (List.mem_replicate.1 hx).2; omega
  · rw [List.drop_length, List.drop_of_length_le (by simp)]; simp [nval]
theorem shortR_s {l row : List Nat} {d i r : Nat} (lL : Lims l) (hd : d < 4294967296) (hi : i ≤ l.length) (h0 : 0 < i) (h : ShortR l row d i r) : ShortR l (row.set (i - 1) ((r * 2 ^ 32 + l.getD (i - 1) 0) / d)) d (i - 1) ((r * 2 ^ 32 + l.getD (i - 1) 0) % d) := by
  obtain ⟨h1, h2, h3, h4⟩ := h
  have hx := getD_lt lL (i - 1)
  generalize hs : r * 2 ^ 32 + l.getD (i - 1) 0 = s
  have hq : s / d < 4294967296 := by
    rw [Nat.div_lt_iff_lt_mul (by omega)]
    have : (r + 1) * 4294967296 ≤ d * 4294967296 := Nat.mul_le_mul_right _ h3
    rw [Nat.mul_comm 4294967296 d]
    omega
  refine ⟨h1.set hq, by simpa using h2, Nat.mod_lt _ (by omega), ?_⟩
  rw [nval_drop, show i - 1 + 1 = i from by omega, h4, drop_set (by omega), nval, show i - 1 + 1 = i from by omega]
  have e1 := Nat.div_add_mod s d
  have e2 : (s / d + 4294967296 * nval (row.drop i)) * d = d * (s / d) + 4294967296 * (nval (row.drop i) * d) := by
    rw [Nat.add_mul, Nat.mul_comm (s / d), Nat.mul_assoc]
  rw [e2]
  omega
theorem short_q {r x d : Nat} (h3 : r < d) (hx : x < 4294967296) : (r * 2 ^ 32 + x) / d < 4294967296 := by
  rw [Nat.div_lt_iff_lt_mul (by omega)]
  have : (r + 1) * 4294967296 ≤ d * 4294967296 := Nat.mul_le_mul_right _ h3
  rw [Nat.mul_comm 4294967296 d]
  omega
theorem shortR_end {l row : List Nat} {d i r : Nat} (hi : i = 0) (h : ShortR l row d i r) : nval row = nval l / d ∧ r = nval l % d := by
  obtain ⟨h1, h2, h3, h4⟩ := h
  subst hi
  simp only [List.drop_zero] at h4
  rw [h4]
  constructor
  · rw [Nat.mul_comm, Nat.mul_add_div (by omega), Nat.div_eq_of_lt h3, Nat.add_zero]
  · rw [Nat.mul_comm, Nat.mul_add_mod, Nat.mod_eq_of_lt h3]
end Fw
