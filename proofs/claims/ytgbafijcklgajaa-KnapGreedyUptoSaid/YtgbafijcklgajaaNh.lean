/- Plain facts on limbs: a long quotient. -/
import Derived.Test.YtgbafijcklgajaaNg
set_option linter.unusedVariables false
set_option linter.unusedSimpArgs false
set_option exponentiation.threshold 70
namespace Fw
open Go (IntKind)
theorem limbs_len_pos {n : Nat} (h : n ≠ 0) : 1 ≤ (limbs n).length := by rw [limbs_pos h]; simp
theorem limbs_top {n : Nat} (h : n ≠ 0) : (limbs n).getD ((limbs n).length - 1) 0 ≠ 0 := by
  have h1 := limbs_len_pos h
  have h2 := split_at (l := limbs n) (Nat.le_refl _) h1
  rw [List.drop_length, nval_limbs, nval, Nat.mul_zero, Nat.add_zero] at h2
  intro h0
  rw [h0, Nat.mul_zero, Nat.add_zero] at h2
  have h3 := nval_lt ((limbs_lims n).take ((limbs n).length - 1))
  rw [List.length_take, Nat.min_eq_left (Nat.sub_le _ _), ← h2] at h3
  have h4 := limbs_last h
  omega
theorem one_limb {n : Nat} (h : (limbs n).length = 1) : (limbs n).getD 0 0 = n := by
  have h1 := nval_limbs n
  match hl : limbs n, h with
  | [x], _ => rw [hl] at h1; simp [nval] at h1; simpa using h1
/-- by how much the divisor is shifted -/
theorem div_sh {b : Nat} (hb : b ≠ 0) : ∃ s : Nat, (32 : Int) - (bitlen ((limbs b).getD ((limbs b).length - 1) 0) : Int) = s ∧ s < 32 ∧ (limbs (b * 2 ^ s)).length = (limbs b).length := by
  have ht := limbs_top hb
  have hx := getD_lt (limbs_lims b) ((limbs b).length - 1)
  have h1 := @bitlen_le ((limbs b).getD ((limbs b).length - 1) 0) 32 hx
  have h2 : bitlen ((limbs b).getD ((limbs b).length - 1) 0) ≠ 0 := fun h => ht (bitlen_0.1 h)
  refine ⟨32 - bitlen ((limbs b).getD ((limbs b).length - 1) 0), by omega, by omega, ?_⟩
  have hp := limbs_len_pos hb
  have h3 := split_at (l := limbs b) (Nat.le_refl _) hp
  rw [List.drop_length, nval_limbs, nval, Nat.mul_zero, Nat.add_zero] at h3
  have h4 := nval_lt ((limbs_lims b).take ((limbs b).length - 1))
  rw [List.length_take, Nat.min_eq_left (Nat.sub_le _ _)] at h4
  have h5 := lt_bitlen ((limbs b).getD ((limbs b).length - 1) 0)
  generalize hq : bitlen ((limbs b).getD ((limbs b).length - 1) 0) = q at *
  generalize (limbs b).getD ((limbs b).length - 1) 0 = t at *
  apply Nat.le_antisymm
  · apply limbs_len_lt
    have h6 : b < 4294967296 ^ ((limbs b).length - 1) * 2 ^ q := by
      have : 4294967296 ^ ((limbs b).length - 1) * (t + 1) ≤ 4294967296 ^ ((limbs b).length - 1) * 2 ^ q := Nat.mul_le_mul_left _ h5
      rw [Nat.mul_add, Nat.mul_one] at this
      omega
    have h7 : b * 2 ^ (32 - q) < 4294967296 ^ ((limbs b).length - 1) * 2 ^ q * 2 ^ (32 - q) := Nat.mul_lt_mul_of_pos_right h6 (Nat.two_pow_pos _)
    rw [Nat.mul_assoc, ← Nat.pow_add, Nat.add_sub_cancel' h1, show (2 : Nat) ^ 32 = 4294967296 from rfl, ← Nat.pow_succ, show ((limbs b).length - 1).succ = (limbs b).length from by omega] at h7
    exact h7
  · exact limbs_mono (Nat.le_mul_of_pos_right _ (Nat.two_pow_pos _))
theorem take_pad {L : List Nat} {k : Nat} (h : L.length ≤ k) (hk : k ≤ L.length + 2) : ((L ++ [0, 0]).take k).length = k ∧ nval ((L ++ [0, 0]).take k) = nval L := by
  refine ⟨by simp; omega, ?_⟩
  rw [List.take_append, List.take_of_length_le h, nval_append]
  have : nval (([0, 0] : List Nat).take (k - L.length)) = 0 := by
    have : [0, 0] = List.replicate 2 0 := rfl
    rw [this, List.take_replicate, nval_replicate0]
  rw [this]; rfl
/-- a long quotient under way: the dividend's list, the digits, how many are still to come -/
def DivR (D V la lb : Nat) (us qs : List Nat) (k : Nat) : Prop := us.length = la + 1 ∧ Lims us ∧ qs.length = la - lb + 1 ∧ Lims qs ∧ k ≤ la - lb + 1 ∧ nval us + V * (4294967296 ^ k * nval (qs.drop k)) = D ∧ nval (us.drop k) < V
theorem divR_0 {a b s : Nat} {us : List Nat} (hb : b ≠ 0) (hab : b ≤ a) (hu : us.length = (limbs a).length + 1) (lu : Lims us) (hv : nval us = a * 2 ^ s) :
    DivR (a * 2 ^ s) (b * 2 ^ s) (limbs a).length (limbs b).length us (List.replicate ((limbs a).length - (limbs b).length + 1) 0) ((limbs a).length - (limbs b).length + 1) := by
  have hl := limbs_mono hab
  have hp := limbs_len_pos hb
  obtain ⟨K, hK⟩ : ∃ K, K = (limbs a).length - (limbs b).length + 1 := ⟨_, rfl⟩
  rw [← hK]
  refine ⟨hu, lu, by simp [hK], fun x hx => ?_, Nat.le_of_eq hK, ?_, ?_⟩
  · have := (List.mem_replicate.1 hx).2; omega
  · rw [List.drop_of_length_le (by simp), hv]; simp [nval]
  · have h1 := nval_split us K
    rw [hv] at h1
    have h2 := lt_limbs a
    have h3 := limbs_last hb
    have h4 : 4294967296 ^ K * nval (us.drop K) < 4294967296 ^ K * (b * 2 ^ s) := by
      have h5 : a * 2 ^ s < 4294967296 ^ (limbs a).length * 2 ^ s := Nat.mul_lt_mul_of_pos_right h2 (Nat.two_pow_pos _)
      have h6 : 4294967296 ^ (limbs a).length * 2 ^ s ≤ 4294967296 ^ K * (b * 2 ^ s) := by
        rw [← Nat.mul_assoc]
        apply Nat.mul_le_mul_right
        have h7 : 4294967296 ^ (limbs a).length = 4294967296 ^ K * 4294967296 ^ ((limbs b).length - 1) := by
          rw [← Nat.pow_add]; congr 1; omega
        rw [h7]
        exact Nat.mul_le_mul_left _ h3
      omega
    exact Nat.lt_of_mul_lt_mul_left h4
theorem divR_win {D V la lb : Nat} {us qs : List Nat} {k : Nat} (hlb : lb = (limbs V).length) (hl : lb ≤ la) (hk : 0 < k) (h : DivR D V la lb us qs k) :
    nval ((us.drop (k - 1)).take (lb + 1)) < V * 4294967296 ∧ nval (us.drop (k - 1)) = nval ((us.drop (k - 1)).take (lb + 1)) ∧ nval (us.drop (k - 1 + (lb + 1))) = 0 := by
  obtain ⟨h1, h2, h3, h4, h5, h6, h7⟩ := h
  have e1 := nval_drop us (k - 1)
  rw [show k - 1 + 1 = k from by omega] at e1
  have e2 := getD_lt h2 (k - 1)
  have e3 : nval (us.drop (k - 1)) < V * 4294967296 := by omega
  have e4 := nval_split (us.drop (k - 1)) (lb + 1)
  rw [List.drop_drop] at e4
  have e5 := lt_limbs V
  rw [← hlb] at e5
  have e6 : nval (us.drop (k - 1 + (lb + 1))) = 0 := by
    rcases Nat.eq_zero_or_pos (nval (us.drop (k - 1 + (lb + 1)))) with h | h
    · exact h
    · exfalso
      have : 4294967296 ^ (lb + 1) * 1 ≤ 4294967296 ^ (lb + 1) * nval (us.drop (k - 1 + (lb + 1))) := Nat.mul_le_mul_left _ h
      rw [Nat.mul_one] at this
      have h8 : V * 4294967296 < 4294967296 ^ (lb + 1) := by
        rw [Nat.pow_succ]; exact Nat.mul_lt_mul_of_pos_right e5 (by decide)
      omega
  rw [e6, Nat.mul_zero, Nat.add_zero] at e4
  exact ⟨by rw [← e4]; exact e3, e4, e6⟩
theorem divR_q {D V la lb : Nat} {us qs : List Nat} {k : Nat} (hlb : lb = (limbs V).length) (hl : lb ≤ la) (hk : 0 < k) (h : DivR D V la lb us qs k) : nval ((us.drop (k - 1)).take (lb + 1)) / V < 4294967296 := by
  have g1 := (divR_win hlb hl hk h).1
  have hVp : 0 < V := by have := h.2.2.2.2.2.2; omega
  rw [Nat.div_lt_iff_lt_mul hVp, Nat.mul_comm]; exact g1
theorem divR_s {D V la lb : Nat} {us qs w : List Nat} {k : Nat} (hlb : lb = (limbs V).length) (hl : lb ≤ la) (hk : 0 < k) (h : DivR D V la lb us qs k) (hw : w.length = lb + 1) (lw : Lims w) (hwv : nval w = nval ((us.drop (k - 1)).take (lb + 1)) % V) :
    DivR D V la lb (us.take (k - 1) ++ w ++ us.drop (k - 1 + (lb + 1))) (qs.set (k - 1) (nval ((us.drop (k - 1)).take (lb + 1)) / V)) (k - 1) := by
  obtain ⟨g1, g2, g3⟩ := divR_win hlb hl hk h
  obtain ⟨h1, h2, h3, h4, h5, h6, h7⟩ := h
  have hVp : 0 < V := by omega
  have hq : nval ((us.drop (k - 1)).take (lb + 1)) / V < 4294967296 := by
    rw [Nat.div_lt_iff_lt_mul hVp, Nat.mul_comm]; exact g1
  generalize hU : nval ((us.drop (k - 1)).take (lb + 1)) = U at *
  have htl : (us.take (k - 1)).length = k - 1 := by simp; omega
  have hnv : nval (us.take (k - 1) ++ w ++ us.drop (k - 1 + (lb + 1))) = nval (us.take (k - 1)) + 4294967296 ^ (k - 1) * (U % V) := by
    rw [List.append_assoc, nval_append, nval_append, g3, Nat.mul_zero, Nat.add_zero, hwv, htl]
  have hus := nval_split us (k - 1)
  rw [g2] at hus
  refine ⟨?_, ?_, by simpa using h3, h4.set hq, by omega, ?_, ?_⟩
  · simp [htl, hw]; omega
  · intro x hx
    rcases List.mem_append.1 hx with hx | hx
    · rcases List.mem_append.1 hx with hx | hx
      · exact h2.take _ x hx
      · exact lw x hx
    · exact h2.drop _ x hx
  · rw [hnv, drop_set (by omega), nval, show k - 1 + 1 = k from by omega, ← h6, hus]
    have e1 := Nat.div_add_mod U V
    have e2 : 4294967296 ^ (k - 1) * (4294967296 * nval (qs.drop k)) = 4294967296 ^ k * nval (qs.drop k) := by
      rw [← Nat.mul_assoc, ← Nat.pow_succ, show (k - 1).succ = k from by omega]
    rw [Nat.mul_add (4294967296 ^ (k - 1)) (U / V), e2, Nat.mul_add V]
    have e3 : V * (4294967296 ^ (k - 1) * (U / V)) + 4294967296 ^ (k - 1) * (U % V) = 4294967296 ^ (k - 1) * U := by
      rw [Nat.mul_left_comm, ← Nat.mul_add, e1]
    omega
  · rw [List.append_assoc, List.drop_append_of_le_length (by omega), List.drop_of_length_le (by omega), List.nil_append, nval_append, g3, Nat.mul_zero, Nat.add_zero, hwv]
    exact Nat.mod_lt _ hVp
theorem divR_end {a b s la lb : Nat} {us qs : List Nat} {k : Nat} (hk : k = 0) (h : DivR (a * 2 ^ s) (b * 2 ^ s) la lb us qs k) : nval qs = a / b ∧ nval us / 2 ^ s = a % b := by
  obtain ⟨h1, h2, h3, h4, h5, h6, h7⟩ := h
  subst hk
  simp only [List.drop_zero, Nat.pow_zero, Nat.one_mul] at h6 h7
  have hp := Nat.two_pow_pos s
  have e1 : nval qs = a * 2 ^ s / (b * 2 ^ s) := by
    rw [← h6, Nat.add_mul_div_left _ _ (by omega), Nat.div_eq_of_lt h7, Nat.zero_add]
  have e2 : nval us = a * 2 ^ s % (b * 2 ^ s) := by
    rw [← h6, Nat.add_mul_mod_self_left, Nat.mod_eq_of_lt h7]
  refine ⟨?_, ?_⟩
  · rw [e1, Nat.mul_div_mul_right _ _ hp]
  · rw [e2, Nat.mul_mod_mul_right, Nat.mul_div_cancel _ hp]
end Fw
