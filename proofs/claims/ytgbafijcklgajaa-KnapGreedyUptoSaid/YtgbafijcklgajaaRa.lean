/- Plain facts on limbs and whole numbers: what the document's functions of layers 1 and 2 rest on. -/
import Derived.Test.YtgbafijcklgajaaZa
set_option linter.unusedVariables false
set_option linter.unusedSimpArgs false
set_option exponentiation.threshold 70
namespace Fw
open Go (IntKind)

theorem take_app1 {l : List Nat} {j : Nat} (h : j < l.length) : l.take j ++ [l.getD j 0] = l.take (j + 1) := (take_succ' h).symm
theorem nval_split (l : List Nat) (i : Nat) : nval l = nval (l.take i) + 4294967296 ^ i * nval (l.drop i) := by
  by_cases h : i ≤ l.length
  · conv => lhs; rw [← List.take_append_drop i l, nval_append, List.length_take, Nat.min_eq_left h]
  · rw [List.take_of_length_le (by omega), List.drop_of_length_le (by omega)]; simp [nval]
theorem nval_drop (l : List Nat) (i : Nat) : nval (l.drop i) = l.getD i 0 + 4294967296 * nval (l.drop (i + 1)) := by
  by_cases h : i < l.length
  · rw [List.drop_eq_getElem_cons h, nval, List.getD_eq_getElem?_getD, List.getElem?_eq_getElem h]; rfl
  · rw [List.drop_of_length_le (by omega), List.drop_of_length_le (by omega), getD_out (by omega)]; rfl
theorem nval_lt' {l : List Nat} (h : Lims l) (i : Nat) : nval (l.take i) < 4294967296 ^ i := by
  have h1 := nval_lt (h.take i)
  refine Nat.lt_of_lt_of_le h1 (Nat.pow_le_pow_right (by omega) ?_)
  rw [List.length_take]; omega
theorem rcmp_core {a b : List Nat} {i : Nat} (h0 : 0 < i) (hd : nval (a.drop i) = nval (b.drop i)) (la : Lims a) (h : a.getD (i - 1) 0 < b.getD (i - 1) 0) : nval a < nval b := by
  obtain ⟨j, rfl⟩ : ∃ j, i = j + 1 := ⟨i - 1, by omega⟩
  rw [Nat.add_sub_cancel] at h
  rw [nval_split a j, nval_split b j, nval_drop a j, nval_drop b j, hd]
  have h1 := nval_lt' la j
  have h2 : 4294967296 ^ j * (a.getD j 0 + 4294967296 * nval (b.drop (j + 1)) + 1) ≤ 4294967296 ^ j * (b.getD j 0 + 4294967296 * nval (b.drop (j + 1))) := Nat.mul_le_mul_left _ (by omega)
  rw [Nat.mul_add, Nat.mul_one] at h2
  omega
theorem rcmp_lt {a b : List Nat} {i : Nat} (h0 : 0 < i) (hd : nval (a.drop i) = nval (b.drop i)) (la : Lims a) (h : a.getD (i - 1) 0 < b.getD (i - 1) 0) : (-1) = cmpI (nval a) (nval b) := by
  simp [cmpI, rcmp_core h0 hd la h]
theorem rcmp_gt {a b : List Nat} {i : Nat} (h0 : 0 < i) (hd : nval (a.drop i) = nval (b.drop i)) (lb : Lims b) (h : b.getD (i - 1) 0 < a.getD (i - 1) 0) : 1 = cmpI (nval a) (nval b) := by
  have := rcmp_core h0 hd.symm lb h
  simp [cmpI, this, Nat.lt_asymm this]
theorem rcmp_eq {a b : List Nat} {i : Nat} (h0 : i = 0) (hd : nval (a.drop i) = nval (b.drop i)) : 0 = cmpI (nval a) (nval b) := by
  subst h0
  simp only [List.drop_zero] at hd
  simp [cmpI, hd]
theorem rcmp_down {a b : List Nat} {i : Nat} (h0 : 0 < i) (hd : nval (a.drop i) = nval (b.drop i)) (h : a.getD (i - 1) 0 = b.getD (i - 1) 0) : nval (a.drop (i - 1)) = nval (b.drop (i - 1)) := by
  rw [nval_drop a, nval_drop b, show i - 1 + 1 = i from by omega, hd, h]
theorem drop_max {a b : List Nat} {i : Nat} (h : i = max a.length b.length) : nval (a.drop i) = nval (b.drop i) := by
  have h1 : a.length ≤ i := by rw [h]; exact Nat.le_max_left _ _
  have h2 : b.length ≤ i := by rw [h]; exact Nat.le_max_right _ _
  rw [List.drop_of_length_le h1, List.drop_of_length_le h2]
theorem bitlen_half {w : Nat} (h : 0 < w) : bitlen w = bitlen (w / 2) + 1 := by
  by_cases h1 : w = 1
  · subst h1; decide +kernel
  · have := bitlen_shift (n := w) 1 (show 2 ^ 1 ≤ w by omega)
    rw [this, Nat.add_comm]
theorem rbits_end {l : List Nat} {i : Nat} (hl : Lims l) (h0 : 0 < i) (hd : nval (l.drop i) = 0) (hx : l.getD (i - 1) 0 ≠ 0) : bitlen (nval l) = 32 * (i - 1) + bitlen (l.getD (i - 1) 0) := by
  obtain ⟨j, rfl⟩ : ∃ j, i = j + 1 := ⟨i - 1, by omega⟩
  rw [Nat.add_sub_cancel] at hx ⊢
  have h1 := nval_split l j
  rw [nval_drop l j, hd, Nat.mul_zero, Nat.add_zero] at h1
  have h2 := nval_lt' hl j
  have e : (4294967296 : Nat) ^ j = 2 ^ (32 * j) := by
    rw [show (4294967296 : Nat) = 2 ^ 32 from rfl, ← Nat.pow_mul]
  rw [e] at h1 h2
  have hp := Nat.two_pow_pos (32 * j)
  have h3 : 2 ^ (32 * j) ≤ nval l := by
    rw [h1]
    have : 2 ^ (32 * j) * 1 ≤ 2 ^ (32 * j) * l.getD j 0 := Nat.mul_le_mul_left _ (by omega)
    omega
  rw [bitlen_shift _ h3]
  congr 2
  rw [h1, Nat.add_mul_div_left _ _ hp, Nat.div_eq_of_lt h2, Nat.zero_add]
theorem rbits_down {l : List Nat} {i : Nat} (h0 : 0 < i) (hd : nval (l.drop i) = 0) (hx : l.getD (i - 1) 0 = 0) : nval (l.drop (i - 1)) = 0 := by
  rw [nval_drop, show i - 1 + 1 = i from by omega, hd, hx]
theorem rbits_0 {l : List Nat} {i : Nat} (h0 : i = 0) (hd : nval (l.drop i) = 0) : 0 = (bitlen (nval l) : Int) := by
  subst h0
  simp only [List.drop_zero] at hd
  rw [hd]; rfl
theorem tmodN {n b : Int} {s : Nat} (k : Nat) (h : n = s) (hb : b = k) : n.tmod b = ((s % k : Nat) : Int) := by
  subst h hb; rfl
theorem quoN {n b : Int} {s : Nat} (k : Nat) (h : n = s) (hb : b = k) (hs : s < 18446744073709551616) : IntKind.u64.wrap (n.tdiv b) = ((s / k : Nat) : Int) := by
  subst h hb
  have e : (s : Int).tdiv (k : Int) = ((s / k : Nat) : Int) := rfl
  rw [e, wr64 rfl, Nat.mod_eq_of_lt (Nat.lt_of_le_of_lt (Nat.div_le_self _ _) hs)]
theorem quoN32 {n b : Int} {s : Nat} (k : Nat) (h : n = s) (hb : b = k) (hs : s < 4294967296) : IntKind.u32.wrap (n.tdiv b) = ((s / k : Nat) : Int) := by
  subst h hb
  have e : (s : Int).tdiv (k : Int) = ((s / k : Nat) : Int) := rfl
  rw [e, wr32 rfl, Nat.mod_eq_of_lt (Nat.lt_of_le_of_lt (Nat.div_le_self _ _) hs)]
theorem lessR_g {x y r : List Nat} {c d c' : Nat} (h : LessR x y r c) (he : d + (c + y.getD r.length 0) = x.getD r.length 0 + 4294967296 * c') (hd : d < 4294967296) (hc : c' ≤ 1) : LessR x y (r ++ [d]) c' := by
  obtain ⟨h1, h2, h3⟩ := h
  refine ⟨h1.concat hd, hc, ?_⟩
  rw [List.length_append, List.length_singleton, nval_take_succ, nval_take_succ, nval_concat, Nat.pow_succ, Nat.mul_assoc]
  have := congrArg (4294967296 ^ r.length * ·) he
  simp only [Nat.mul_add] at this
  omega
theorem lessR_end' {x y r : List Nat} {c : Nat} (h : LessR x y r c) (hr : r.length = x.length) (hx : Lims x) (hy : Lims y) (hle : nval y ≤ nval x) : nval r = nval x - nval y := by
  obtain ⟨h1, h2, h3⟩ := h
  have h4 := nval_lt h1
  have h5 := nval_lt hx
  have h6 := nval_split y x.length
  rw [hr, List.take_length] at h3
  rw [hr] at h4
  have h7 : nval (y.drop x.length) = 0 := by
    rcases Nat.eq_zero_or_pos (nval (y.drop x.length)) with h | h
    · exact h
    · have : 4294967296 ^ x.length * 1 ≤ 4294967296 ^ x.length * nval (y.drop x.length) := Nat.mul_le_mul_left _ h
      omega
  rw [h7, Nat.mul_zero] at h6
  have : c = 0 := by
    rcases Nat.lt_or_ge c 1 with h | h
    · omega
    · have hc : c = 1 := by omega
      subst hc
      omega
  subst this
  omega
theorem of_neg {n : Int} (h : n < 0) (h2 : -9223372036854775808 ≤ n) : IntKind.u64.wrap (0 - IntKind.u64.wrap n) = ((n.natAbs : Nat) : Int) := by
  simp [IntKind.wrap, IntKind.signed, IntKind.bits]; omega
theorem of_pos {n : Int} (h : ¬ n < 0) (h2 : n ≤ 9223372036854775807) : IntKind.u64.wrap n = ((n.natAbs : Nat) : Int) := by
  simp [IntKind.wrap, IntKind.signed, IntKind.bits]; omega
theorem of_val {n : Int} : ival (decide (n < 0), [n.natAbs % 4294967296, n.natAbs / 2 ^ 32]) = n := by
  have : nval [n.natAbs % 4294967296, n.natAbs / 2 ^ 32] = n.natAbs := by simp only [nval]; omega
  by_cases h : n < 0
  · rw [ival_neg (by simp [h]), this]; omega
  · rw [ival_pos (by simp [h]), this]; omega
theorem radd_ge {p q : Bool × List Nat} (h : p.1 ≠ q.1) (hc : (0 : Int) ≤ cmpI (nval p.2) (nval q.2)) : ival (p.1, if nval p.2 < nval q.2 then [] else limbs (nval p.2 - nval q.2)) = ival p + ival q := add_ge h (by omega)
theorem radd_lt {p q : Bool × List Nat} (h : p.1 ≠ q.1) (hc : ¬ (0 : Int) ≤ cmpI (nval p.2) (nval q.2)) : ival (q.1, if nval q.2 < nval p.2 then [] else limbs (nval q.2 - nval p.2)) = ival p + ival q := add_lt h (by omega)
theorem take_all {l : List Nat} {i : Nat} (h : ¬ (i : Int) < (l.length : Int)) : l.take i = l := List.take_of_length_le (by omega)
theorem eq_take {α : Type} {a b : List α} {i : Nat} {d : α} (hl : a.length = b.length) (hi : i < a.length) (h : a.take i = b.take i) (hx : a.getD i d = b.getD i d) : a.take (i + 1) = b.take (i + 1) := by
  rw [List.take_add_one, List.take_add_one, h]
  congr 1
  rw [List.getElem?_eq_getElem hi, List.getElem?_eq_getElem (by omega)]
  simp only [List.getD_eq_getElem?_getD, List.getElem?_eq_getElem hi, List.getElem?_eq_getElem (show i < b.length by omega), Option.getD_some] at hx
  rw [hx]
theorem eq_full {α : Type} {a b : List α} {i : Nat} (hl : a.length = b.length) (hi : a.length ≤ i) (h : a.take i = b.take i) : a = b := by
  rwa [List.take_of_length_le hi, List.take_of_length_le (by omega)] at h
theorem ne_at {α : Type} {a b : List α} {i : Nat} {d : α} (h : a.getD i d ≠ b.getD i d) : ¬ a = b := fun e => h (by rw [e])
theorem take_app {α : Type} {l : List α} {j : Nat} {d : α} (h : j < l.length) : l.take j ++ [l.getD j d] = l.take (j + 1) := by
  rw [List.take_add_one, List.getD_eq_getElem?_getD, List.getElem?_eq_getElem h]; rfl
theorem rsign_z {y : Bool × List Nat} (h : (limbs (nval y.2)).length ≠ 0) : ¬ (bitlen (nval y.2) : Int) = 0 := fun h0 => by
  have h1 : nval y.2 = 0 := bitlen_0.1 (by omega)
  rw [h1, limbs_zero] at h
  exact h rfl
theorem rsign_neg {y : Bool × List Nat} (h : (limbs (nval y.2)).length ≠ 0) (hb : y.1 = true) : (-1) = (ival y).sign := sign_neg (rsign_z h) hb
theorem rsign_pos {y : Bool × List Nat} (h : (limbs (nval y.2)).length ≠ 0) (hb : y.1 = false) : 1 = (ival y).sign := sign_pos (rsign_z h) hb
end Fw
