/- Plain facts on limbs: what the functions of layer 1 rest on. -/
import Derived.Test.YtgbafijcklgajaaFwL
set_option linter.unusedVariables false
set_option linter.unusedSimpArgs false
set_option exponentiation.threshold 70
namespace Fw

/-- below, the same, above -/
def cmpI (x y : Nat) : Int := if x < y then -1 else if y < x then 1 else 0
theorem take_take1 {l : List Nat} {i : Nat} (hi : i ≤ l.length) : (l.take i).take (i - 1) = l.take (i - 1) := by
  rw [List.take_take, Nat.min_eq_left (by omega)]
theorem take_succ' {l : List Nat} {i : Nat} (hi : i < l.length) : l.take (i + 1) = l.take i ++ [l.getD i 0] := by
  rw [List.take_add_one, List.getElem?_eq_getElem hi]
  simp [List.getElem?_eq_getElem hi]
theorem take_pred {l : List Nat} {i : Nat} (hi : i ≤ l.length) (h0 : 0 < i) : l.take i = l.take (i - 1) ++ [l.getD (i - 1) 0] := by
  obtain ⟨j, rfl⟩ : ∃ j, i = j + 1 := ⟨i - 1, by omega⟩
  exact take_succ' (by omega)
theorem getD_take {l : List Nat} {i j : Nat} (h : j < i) : (l.take i).getD j 0 = l.getD j 0 := by
  simp [List.getElem?_take, h]
theorem getD_lt {l : List Nat} (hl : Lims l) (i : Nat) : l.getD i 0 < 4294967296 := by
  rw [List.getD_eq_getElem?_getD]
  cases h : l[i]? with
  | none => simp
  | some x => exact hl x (List.mem_of_getElem? h)
theorem Lims.take {l : List Nat} (h : Lims l) (i : Nat) : Lims (l.take i) := fun x hx => h x (List.mem_of_mem_take hx)
theorem Lims.drop {l : List Nat} (h : Lims l) (i : Nat) : Lims (l.drop i) := fun x hx => h x (List.mem_of_mem_drop hx)
theorem trim_down {l : List Nat} {i : Nat} (hi : i ≤ l.length) (h0 : 0 < i) (h : ((l.take i).getD (i - 1) 0 : Int) = 0) : nval (l.take (i - 1)) = nval (l.take i) := by
  rw [getD_take (by omega)] at h
  rw [take_pred hi h0, nval_append, nval, nval, show l.getD (i - 1) 0 = 0 from by omega]
  simp
theorem trim_stop {l : List Nat} {i : Nat} (hl : Lims l) (hi : i ≤ l.length) (h0 : 0 < i) (h : ¬ ((l.take i).getD (i - 1) 0 : Int) = 0) (hr : nval (l.take i) = nval l) : l.take i = limbs (nval l) := by
  rw [getD_take (by omega)] at h
  rw [← hr]
  exact (limbs_nval (hl.take i) (.inr ⟨_, _, take_pred hi h0, by omega⟩)).symm
theorem trim_stop0 {l : List Nat} {i : Nat} (hr : nval (l.take i) = nval l) (h0 : i = 0) : l.take i = limbs (nval l) := by
  subst h0
  rw [← hr]
  simp [nval, limbs_zero]
/-! ### Comparing -/
theorem limbs_last {n : Nat} (h : n ≠ 0) : 4294967296 ^ ((limbs n).length - 1) ≤ n := by
  induction n using Nat.strongRecOn with
  | _ n ih =>
    rw [limbs_pos h]
    simp only [List.length_cons, Nat.add_sub_cancel]
    by_cases h1 : n / 4294967296 = 0
    · rw [h1, limbs_zero]; simp; omega
    · have := ih (n / 4294967296) (by omega) h1
      have hl : (limbs (n / 4294967296)).length = (limbs (n / 4294967296)).length - 1 + 1 := by
        rw [limbs_pos h1]; simp
      rw [hl, Nat.pow_succ]
      have := Nat.mul_le_mul_right 4294967296 this
      omega
theorem lt_limbs (n : Nat) : n < 4294967296 ^ (limbs n).length := by
  have := nval_lt (limbs_lims n)
  rwa [nval_limbs] at this
theorem limbs_mono {a b : Nat} (h : a ≤ b) : (limbs a).length ≤ (limbs b).length := limbs_len_lt (Nat.lt_of_le_of_lt h (lt_limbs b))
theorem cmp_len_lt {a b : Nat} (h : (limbs a).length < (limbs b).length) : (-1) = cmpI a b := by
  have : a < b := by
    rcases Nat.lt_or_ge a b with h1 | h1
    · exact h1
    · have := limbs_mono h1; omega
  simp [cmpI, this]
theorem cmp_len_gt {a b : Nat} (h : (limbs b).length < (limbs a).length) : 1 = cmpI a b := by
  have : b < a := by
    rcases Nat.lt_or_ge b a with h1 | h1
    · exact h1
    · have := limbs_mono h1; omega
  simp [cmpI, this, Nat.lt_asymm this]
theorem cmp_drop {a b : List Nat} (h : a.length = b.length) : a.drop a.length = b.drop a.length := by
  rw [List.drop_length, h, List.drop_length]
theorem split_at {l : List Nat} {i : Nat} (hi : i ≤ l.length) (h0 : 0 < i) : nval l = nval (l.take (i - 1)) + 4294967296 ^ (i - 1) * (l.getD (i - 1) 0 + 4294967296 * nval (l.drop i)) := by
  conv => lhs; rw [← List.take_append_drop (i - 1) l, nval_append]
  rw [List.length_take, Nat.min_eq_left (by omega), List.drop_eq_getElem_cons (by omega), nval]
  have e : l.getD (i - 1) 0 = l[i - 1] := by
    rw [List.getD_eq_getElem?_getD, List.getElem?_eq_getElem (by omega)]; rfl
  rw [e, show i - 1 + 1 = i from by omega]
theorem cmp_lt_core {a b : List Nat} {i : Nat} (hi : i ≤ a.length) (hl : a.length = b.length) (h0 : 0 < i) (hd : a.drop i = b.drop i) (la : Lims a) (h : a.getD (i - 1) 0 < b.getD (i - 1) 0) : nval a < nval b := by
  rw [split_at hi h0, split_at (l := b) (by omega) h0, hd]
  have h1 := nval_lt (la.take (i - 1))
  rw [List.length_take, Nat.min_eq_left (by omega)] at h1
  have h2 : 4294967296 ^ (i - 1) * (a.getD (i - 1) 0 + 4294967296 * nval (b.drop i) + 1) ≤ 4294967296 ^ (i - 1) * (b.getD (i - 1) 0 + 4294967296 * nval (b.drop i)) := Nat.mul_le_mul_left _ (by omega)
  rw [Nat.mul_add, Nat.mul_one] at h2
  omega
theorem cmp_at_lt {a b i : Nat} (hi : i ≤ (limbs a).length) (hl : (limbs a).length = (limbs b).length) (hd : (limbs a).drop i = (limbs b).drop i) (h : 0 < i ∧ (limbs a).getD (i - 1) 0 < (limbs b).getD (i - 1) 0) : (-1) = cmpI a b := by
  have := cmp_lt_core hi hl h.1 hd (limbs_lims a) h.2
  rw [nval_limbs, nval_limbs] at this
  simp [cmpI, this]
theorem cmp_at_gt {a b i : Nat} (hi : i ≤ (limbs a).length) (hl : (limbs a).length = (limbs b).length) (hd : (limbs a).drop i = (limbs b).drop i) (h0 : 0 < i) (h : (limbs b).getD (i - 1) 0 < (limbs a).getD (i - 1) 0) : 1 = cmpI a b := by
  have := cmp_lt_core (a := limbs b) (b := limbs a) (by omega) hl.symm h0 hd.symm (limbs_lims b) h
  rw [nval_limbs, nval_limbs] at this
  simp [cmpI, this, Nat.lt_asymm this]
theorem cmp_at_eq {a b i : Nat} (h0 : i = 0) (hd : (limbs a).drop i = (limbs b).drop i) : 0 = cmpI a b := by
  subst h0
  simp only [List.drop_zero] at hd
  have := congrArg nval hd
  rw [nval_limbs, nval_limbs] at this
  simp [cmpI, this]
theorem cmp_down {a b : List Nat} {i : Nat} (hl : a.length = b.length) (hi : i ≤ a.length) (h0 : 0 < i) (hd : a.drop i = b.drop i) (h : a.getD (i - 1) 0 = b.getD (i - 1) 0) : a.drop (i - 1) = b.drop (i - 1) := by
  have e : ∀ l : List Nat, i ≤ l.length → l.drop (i - 1) = l.getD (i - 1) 0 :: l.drop i := by
    intro l hl
    rw [List.drop_eq_getElem_cons (by omega), List.getD_eq_getElem?_getD, List.getElem?_eq_getElem (by omega), show i - 1 + 1 = i from by omega]
    rfl
  rw [e a hi, e b (by omega), hd, h]

/-! ### Machine words -/
open Go (IntKind)
theorem wr32 {n : Int} {s : Nat} (h : n = s) : IntKind.u32.wrap n = ((s % 4294967296 : Nat) : Int) := by
  subst h; simp [IntKind.wrap, IntKind.signed, IntKind.bits]
theorem wr64 {n : Int} {s : Nat} (h : n = s) : IntKind.u64.wrap n = ((s % 18446744073709551616 : Nat) : Int) := by
  subst h; simp [IntKind.wrap, IntKind.signed, IntKind.bits]
theorem wrs32 {n : Int} {s : Nat} (h : n = s ∧ s < 4294967296) : IntKind.u32.wrap n = (s : Int) := by
  rw [wr32 h.1, Nat.mod_eq_of_lt h.2]
theorem wr8 {n : Int} {s : Nat} (h : n = s ∧ s < 256) : IntKind.u8.wrap n = (s : Int) := by
  obtain ⟨rfl, h⟩ := h
  simp [IntKind.wrap, IntKind.signed, IntKind.bits]; omega
theorem shrN (j : Nat) {n b : Int} {s w : Nat} (h : n = s) (hb : b = j) (hj : j ≤ w) : n.fdiv (2 ^ (min b.toNat w)) = ((s / 2 ^ j : Nat) : Int) := by
  subst h hb
  rw [Int.toNat_natCast, Nat.min_eq_left hj, Int.fdiv_eq_ediv_of_nonneg _ (by have := Int.pow_nonneg (n := 2) (m := j) (by omega : (0 : Int) ≤ 2); exact this)]
  norm_cast
theorem shlN (j : Nat) {n b : Int} {s : Nat} (h : n = s) (hb : b = j) (hj : j ≤ 64) (hs : s * 2 ^ j < 18446744073709551616) : IntKind.u64.wrap (n * 2 ^ (min b.toNat IntKind.u64.bits)) = ((s * 2 ^ j : Nat) : Int) := by
  subst h hb
  show IntKind.u64.wrap (_ * 2 ^ (min _ 64)) = _
  rw [Int.toNat_natCast, Nat.min_eq_left hj, wr64 (s := s * 2 ^ j) (by norm_cast), Nat.mod_eq_of_lt hs]
theorem orN (j : Nat) {a b : Int} {s t : Nat} (ha : a = ((s * 2 ^ j : Nat) : Int)) (hb : b = t) (ht : t < 2 ^ j) (hs : s * 2 ^ j + t < 18446744073709551616) : IntKind.u64.wrap ((BitVec.ofInt IntKind.u64.bits a ||| BitVec.ofInt IntKind.u64.bits b).toNat) = ((s * 2 ^ j + t : Nat) : Int) := by
  subst ha hb
  have h1 : (BitVec.ofInt IntKind.u64.bits ((s * 2 ^ j : Nat) : Int)).toNat = s * 2 ^ j := by
    rw [BitVec.ofInt_natCast, BitVec.toNat_ofNat]
    exact Nat.mod_eq_of_lt (Nat.lt_of_le_of_lt (Nat.le_add_right _ t) hs)
  have h2 : (BitVec.ofInt IntKind.u64.bits (t : Int)).toNat = t := by
    rw [BitVec.ofInt_natCast, BitVec.toNat_ofNat]
    exact Nat.mod_eq_of_lt (Nat.lt_of_le_of_lt (Nat.le_add_left t _) hs)
  rw [BitVec.toNat_or, h1, h2, Nat.mul_comm s, ← Nat.two_pow_add_eq_or_of_lt ht, Nat.mul_comm, wr64 rfl, Nat.mod_eq_of_lt hs]
/-! ### How many binary digits -/
def bitlen (n : Nat) : Nat := if n = 0 then 0 else n.log2 + 1
theorem bitlen_eq {n k : Nat} (h1 : 2 ^ k ≤ n) (h2 : n < 2 ^ (k + 1)) : bitlen n = k + 1 := by
  have h0 : n ≠ 0 := by
    intro h; subst h
    have := Nat.two_pow_pos k; omega
  have h3 : n.log2 < k + 1 := (Nat.log2_lt h0).2 h2
  have h4 : ¬ n.log2 < k := fun h => by
    have := (Nat.log2_lt h0).1 h; omega
  simp [bitlen, h0]; omega
theorem bitlen_spec {n : Nat} (h : n ≠ 0) : ∃ k, bitlen n = k + 1 ∧ 2 ^ k ≤ n ∧ n < 2 ^ (k + 1) :=
  ⟨n.log2, by simp [bitlen, h], Nat.log2_self_le h, Nat.lt_log2_self⟩
theorem bitlen_shift {n : Nat} (j : Nat) (h : 2 ^ j ≤ n) : bitlen n = j + bitlen (n / 2 ^ j) := by
  have hp := Nat.two_pow_pos j
  have h0 : n / 2 ^ j ≠ 0 := by
    have := Nat.div_pos h hp; omega
  obtain ⟨k, h1, h2, h3⟩ := bitlen_spec h0
  rw [h1]
  have h4 : 2 ^ (j + k) ≤ n := by
    rw [Nat.pow_add, Nat.mul_comm]
    exact (Nat.le_div_iff_mul_le hp).1 h2
  have h5 : n < 2 ^ (j + k + 1) := by
    rw [Nat.add_assoc, Nat.pow_add, Nat.mul_comm]
    exact (Nat.div_lt_iff_lt_mul hp).1 h3
  rw [bitlen_eq h4 h5]; omega
theorem bitlen_le {n k : Nat} (h : n < 2 ^ k) : bitlen n ≤ k := by
  by_cases h0 : n = 0
  · subst h0; simp [bitlen]
  · have := (Nat.log2_lt h0).2 h
    simp [bitlen, h0]; omega
theorem lt_bitlen (n : Nat) : n < 2 ^ bitlen n := by
  by_cases h0 : n = 0
  · subst h0; simp [bitlen]
  · simp [bitlen, h0]; exact Nat.lt_log2_self
theorem len8 : ([0, 1, 2, 2, 3, 3, 3, 3, 4, 4, 4, 4, 4, 4, 4, 4] ++ List.replicate 16 5 ++ List.replicate 32 6 ++ List.replicate 64 7 ++ List.replicate 128 8 : List Nat) = (List.range 256).map bitlen := by decide +kernel
theorem bits_limbs {n : Nat} (h : n ≠ 0) : bitlen n = 32 * ((limbs n).length - 1) + bitlen ((limbs n).getD ((limbs n).length - 1) 0) := by
  have h1 : 0 < (limbs n).length := by rw [limbs_pos h]; simp
  have h2 := split_at (l := limbs n) (Nat.le_refl _) h1
  rw [List.drop_length, nval_limbs, nval, Nat.mul_zero, Nat.add_zero] at h2
  have h3 := nval_lt ((limbs_lims n).take ((limbs n).length - 1))
  rw [List.length_take, Nat.min_eq_left (by omega)] at h3
  have h4 := limbs_last h
  have e : (4294967296 : Nat) ^ ((limbs n).length - 1) = 2 ^ (32 * ((limbs n).length - 1)) := by
    rw [show (4294967296 : Nat) = 2 ^ 32 from rfl, ← Nat.pow_mul]
  rw [e] at h2 h3 h4
  rw [bitlen_shift _ h4]
  congr 2
  have hp := Nat.two_pow_pos (32 * ((limbs n).length - 1))
  generalize (limbs n).length - 1 = q at h2 h3 hp ⊢
  generalize nval ((limbs n).take q) = u at h2 h3
  generalize (limbs n).getD q 0 = v at h2 ⊢
  rw [h2, Nat.add_mul_div_left _ _ hp, Nat.div_eq_of_lt h3, Nat.zero_add]
/-! ### Digits laid one by one -/
def fil (n : Nat) (r : List Nat) : List Nat := r ++ List.replicate (n - r.length) 0
theorem fil_nil (n : Nat) : List.replicate n 0 = fil n [] := by simp [fil]
theorem fil_len {n : Nat} {r : List Nat} (h : r.length ≤ n) : (fil n r).length = n := by simp [fil]; omega
theorem fil_set {n : Nat} {r : List Nat} {d : Nat} (h : r.length < n) : (fil n r).set r.length d = fil n (r ++ [d]) := by
  obtain ⟨k, hk⟩ : ∃ k, n - r.length = k + 1 := ⟨n - r.length - 1, by omega⟩
  have h2 : n - (r ++ [d]).length = k := by simp; omega
  simp only [fil, hk, h2, List.replicate_succ, List.append_assoc]
  rw [List.set_append_right _ _ (by omega)]
  simp
theorem fil_full {n : Nat} {r : List Nat} (h : r.length = n) : fil n r = r := by simp [fil, h]
theorem fil_set_end {n : Nat} {r : List Nat} {d : Nat} (h : n = r.length + 1) : (fil n r).set r.length d = r ++ [d] := by
  rw [fil_set (by omega), fil_full (by simp [h])]
theorem fil_lims {n : Nat} {r : List Nat} (h : Lims r) : Lims (fil n r) := fun x hx => by
  rcases List.mem_append.1 hx with hx | hx
  · exact h x hx
  · have := (List.mem_replicate.1 hx).2; omega
theorem nval_concat (r : List Nat) (d : Nat) : nval (r ++ [d]) = nval r + 4294967296 ^ r.length * d := by
  rw [nval_append]; simp [nval]
theorem Lims.concat {r : List Nat} {d : Nat} (h : Lims r) (hd : d < 4294967296) : Lims (r ++ [d]) := fun x hx => by
  rcases List.mem_append.1 hx with hx | hx
  · exact h x hx
  · simp at hx; omega
theorem nval_take_succ (l : List Nat) (i : Nat) : nval (l.take (i + 1)) = nval (l.take i) + 4294967296 ^ i * l.getD i 0 := by
  by_cases h : i < l.length
  · rw [take_succ' h, nval_concat, List.length_take, Nat.min_eq_left (by omega)]
  · rw [List.take_of_length_le (by omega), List.take_of_length_le (by omega), List.getD_eq_getElem?_getD, List.getElem?_eq_none (by omega)]
    simp
theorem getD_out {l : List Nat} {i : Nat} (h : l.length ≤ i) : l.getD i 0 = 0 := by
  rw [List.getD_eq_getElem?_getD, List.getElem?_eq_none h]; rfl
def AddR (x y r : List Nat) (c : Nat) : Prop := Lims r ∧ c ≤ 1 ∧ nval r + 4294967296 ^ r.length * c = nval (x.take r.length) + nval (y.take r.length)
theorem addR_0 (x y : List Nat) : AddR x y [] 0 := ⟨fun x h => (by cases h), by omega, by simp [nval]⟩
theorem addR_s {x y r : List Nat} {c : Nat} (hx : Lims x) (hy : Lims y) (h : AddR x y r c) : AddR x y (r ++ [(c + x.getD r.length 0 + y.getD r.length 0) % 4294967296]) ((c + x.getD r.length 0 + y.getD r.length 0) / 4294967296) := by
  obtain ⟨h1, h2, h3⟩ := h
  have a1 := getD_lt hx r.length
  have a2 := getD_lt hy r.length
  refine ⟨h1.concat (by omega), by omega, ?_⟩
  rw [List.length_append, List.length_singleton, nval_take_succ, nval_take_succ, nval_concat]
  generalize hs : c + x.getD r.length 0 + y.getD r.length 0 = s
  rw [Nat.pow_succ, Nat.mul_assoc, Nat.add_assoc, ← Nat.mul_add, Nat.add_comm (s % 4294967296), Nat.div_add_mod, ← hs, Nat.mul_add, Nat.mul_add]
  omega
theorem addR_end {x y r : List Nat} {c : Nat} (h : AddR x y r c) (hr : r.length = x.length) (hy : y.length ≤ x.length) : nval (r ++ [c]) = nval x + nval y := by
  obtain ⟨h1, h2, h3⟩ := h
  rw [nval_concat, h3, hr, List.take_length, List.take_of_length_le hy]
/-- the difference, limb by limb -/
def LessR (x y r : List Nat) (c : Nat) : Prop := Lims r ∧ c ≤ 1 ∧ nval r + nval (y.take r.length) = nval (x.take r.length) + 4294967296 ^ r.length * c
def lessV (c x y : Nat) : Nat := if x < c + y then x + 18446744073709551616 - c - y else x - c - y
theorem lessR_0 (x y : List Nat) : LessR x y [] 0 := ⟨fun x h => (by cases h), by omega, by simp [nval]⟩
theorem lessR_s {x y r : List Nat} {c : Nat} (hx : Lims x) (hy : Lims y) (h : LessR x y r c) : LessR x y (r ++ [lessV c (x.getD r.length 0) (y.getD r.length 0) % 4294967296]) (lessV c (x.getD r.length 0) (y.getD r.length 0) / 2 ^ 63) := by
  obtain ⟨h1, h2, h3⟩ := h
  have a1 := getD_lt hx r.length
  have a2 := getD_lt hy r.length
  have hv : lessV c (x.getD r.length 0) (y.getD r.length 0) % 4294967296 + (c + y.getD r.length 0) = x.getD r.length 0 + 4294967296 * (lessV c (x.getD r.length 0) (y.getD r.length 0) / 2 ^ 63) ∧ lessV c (x.getD r.length 0) (y.getD r.length 0) / 2 ^ 63 ≤ 1 := by
    unfold lessV; split <;> omega
  generalize lessV c (x.getD r.length 0) (y.getD r.length 0) = v at hv ⊢
  obtain ⟨hv, hv1⟩ := hv
  refine ⟨h1.concat (by omega), hv1, ?_⟩
  rw [List.length_append, List.length_singleton, nval_take_succ, nval_take_succ, nval_concat, Nat.pow_succ, Nat.mul_assoc]
  have := congrArg (4294967296 ^ r.length * ·) hv
  simp only [Nat.mul_add] at this
  omega
theorem lessR_end {x y r : List Nat} {c : Nat} (h : LessR x y r c) (hr : r.length = x.length) (hy : y.length ≤ x.length) (hle : nval y ≤ nval x) : nval r = nval x - nval y := by
  obtain ⟨h1, h2, h3⟩ := h
  have h4 := nval_lt h1
  rw [hr, List.take_length, List.take_of_length_le hy] at h3
  rw [hr] at h4
  have : c = 0 := by
    rcases Nat.lt_or_ge c 1 with h | h
    · omega
    · have hc : c = 1 := by omega
      subst hc
      omega
  subst this
  omega
theorem less_sub1 {c x : Nat} (hc : c ≤ 1) (hx : x < 4294967296) : IntKind.u64.wrap ((x : Int) - (c : Int)) = ((lessV c x 0 : Nat) : Int) := by
  unfold lessV
  simp [IntKind.wrap, IntKind.signed, IntKind.bits]
  split <;> omega
theorem less_sub2 {c x y : Nat} (hc : c ≤ 1) (hx : x < 4294967296) (hy : y < 4294967296) : IntKind.u64.wrap (((lessV c x 0 : Nat) : Int) - (y : Int)) = ((lessV c x y : Nat) : Int) := by
  unfold lessV
  simp [IntKind.wrap, IntKind.signed, IntKind.bits]
  split <;> split <;> omega
theorem bitlen0 {n : Nat} (h : (limbs n).length = 0) : bitlen n = 0 := by
  by_cases h0 : n = 0
  · subst h0; rfl
  · rw [limbs_pos h0] at h; simp at h
theorem cmpI_lt {a b : Nat} (h : cmpI a b < 0) : a < b := by
  unfold cmpI at h; split at h
  · assumption
  · split at h <;> omega
theorem cmpI_ge {a b : Nat} (h : ¬ cmpI a b < 0) : b ≤ a := by
  unfold cmpI at h; split at h
  · omega
  · omega
end Fw
