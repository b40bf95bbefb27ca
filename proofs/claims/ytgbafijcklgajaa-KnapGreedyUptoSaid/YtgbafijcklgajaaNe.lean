/- Plain facts on limbs: shifts, digits of a quotient. -/
import Derived.Test.YtgbafijcklgajaaNc
set_option linter.unusedVariables false
set_option linter.unusedSimpArgs false
set_option exponentiation.threshold 70
namespace Fw
open Go (IntKind)
/-- What a slice of limbs of the call's own tells. -/
theorem ST.rowfact {C : Ctx} {K : Go.Act → Go.World → Prop} {ρ : Env} {L : List OB} {v : Go.Value} {e : Go.TypeId} {l : List Nat} (j : Nat) (hj : L[j]? = some (OB.row v e kLimb l)) (h : l.length ≤ 1099511627776 → Lims l → ST C K ρ L) : ST C K ρ L := fun m w a s t => by
  obtain ⟨cells, h1, h2, h3⟩ := row_own s (List.mem_of_getElem? hj)
  exact h h3 (rows_lims h2) m w a s t
/-! ### A window -/
theorem win_get {l w r : List Nat} {o i : Nat} (ho : o ≤ l.length) (hi : i < w.length) : (l.take o ++ w ++ r)[o + i]? = some (w.getD i 0) := by
  rw [List.append_assoc, List.getElem?_append_right (by simp; omega), List.getElem?_append_left (by simp; omega)]
  simp only [List.length_take, Nat.min_eq_left ho, Nat.add_sub_cancel_left]
  exact gd 0 hi
theorem win_set {l w r : List Nat} {o i d : Nat} (ho : o ≤ l.length) (hi : i < w.length) : (l.take o ++ w ++ r).set (o + i) d = l.take o ++ w.set i d ++ r := by
  rw [List.append_assoc, List.set_append_right _ _ (by simp; omega), List.set_append_left _ _ (by simp; omega), List.append_assoc]
  simp only [List.length_take, Nat.min_eq_left ho, Nat.add_sub_cancel_left]
theorem win_len {l w : List Nat} {o n : Nat} (ho : o + n ≤ l.length) (hw : w.length = n) : (l.take o ++ w ++ l.drop (o + n)).length = l.length := by
  simp [hw]; omega
theorem win_self {l : List Nat} {o n : Nat} : l = l.take o ++ (l.drop o).take n ++ l.drop (o + n) := by
  rw [List.append_assoc, ← List.drop_drop, List.take_append_drop, List.take_append_drop]
theorem minN {a b : Nat} : min (a : Int) (b : Int) = ((min a b : Nat) : Int) := by omega
theorem dsub1 {x y : Nat} (hx : x < 4294967296) (hy : y < 4294967296) : IntKind.u64.wrap ((x : Int) - (y : Int)) = ((lessV 0 x y : Nat) : Int) := by
  unfold lessV
  simp [IntKind.wrap, IntKind.signed, IntKind.bits]
  split <;> omega
theorem dsub2 {c x y : Nat} (hc : c ≤ 1) (hx : x < 4294967296) (hy : y < 4294967296) : IntKind.u64.wrap (((lessV 0 x y : Nat) : Int) - (c : Int)) = ((lessV c x y : Nat) : Int) := by
  unfold lessV
  simp [IntKind.wrap, IntKind.signed, IntKind.bits]
  split <;> split <;> omega
theorem nval_take_set {w : List Nat} {i d : Nat} (h : i < w.length) : nval ((w.set i d).take (i + 1)) = nval (w.take i) + 4294967296 ^ i * d := by
  rw [nval_take_succ, List.take_set_of_le (Nat.le_refl _)]
  congr 2
  rw [List.getD_eq_getElem?_getD, List.getElem?_set_self h]; rfl
theorem drop_set_succ {w w0 : List Nat} {i d : Nat} (h : w.drop i = w0.drop i) : (w.set i d).drop (i + 1) = w0.drop (i + 1) := by
  rw [List.drop_set_of_lt (by omega), ← List.drop_drop, h, List.drop_drop]
theorem getD_drop_eq {w w0 : List Nat} {i : Nat} (h : w.drop i = w0.drop i) : w.getD i 0 = w0.getD i 0 := by
  have := congrArg (fun l => l.getD 0 0) h
  simpa [List.getD_eq_getElem?_getD] using this
/-- a digit taken off -/
def DigR (w0 vs : List Nat) (q : Nat) (w : List Nat) (i c b : Nat) : Prop := i ≤ vs.length + 1 ∧ w.length = vs.length + 1 ∧ Lims w ∧ c < 4294967296 ∧ b ≤ 1 ∧ (i ≤ vs.length ∨ c = 0) ∧ nval (w.take i) + q * nval (vs.take i) = nval (w0.take i) + 4294967296 ^ i * (c + b) ∧ w.drop i = w0.drop i
theorem digR_0 {w0 vs : List Nat} {q : Nat} (h : w0.length = vs.length + 1) (hl : Lims w0) : DigR w0 vs q w0 0 0 0 := ⟨by omega, h, hl, by omega, by omega, .inl (by omega), by simp [nval], rfl⟩
theorem dig_p {q c v : Nat} (hq : q < 4294967296) (hc : c < 4294967296) (hv : v < 4294967296) : (c + q * v) / 2 ^ 32 < 4294967296 ∧ c + q * v < 18446744073709551616 := by
  have := mul_bd hq hv
  omega
theorem digR_s {w0 vs w : List Nat} {q i c b : Nat} (lv : Lims vs) (hq : q < 4294967296) (hi : i < vs.length + 1) (h : DigR w0 vs q w i c b) :
    DigR w0 vs q (w.set i (lessV b (w.getD i 0) ((c + q * vs.getD i 0) % 4294967296) % 4294967296)) (i + 1) ((c + q * vs.getD i 0) / 2 ^ 32) (lessV b (w.getD i 0) ((c + q * vs.getD i 0) % 4294967296) / 2 ^ 63) := by
  obtain ⟨h1, h2, h3, h4, h5, h6, h7, h8⟩ := h
  have hv := getD_lt lv i
  have hx := getD_lt h3 i
  have hxx := getD_drop_eq h8
  obtain ⟨hp1, hp2⟩ := dig_p hq h4 hv
  have hlv : lessV b (w.getD i 0) ((c + q * vs.getD i 0) % 4294967296) % 4294967296 + (b + (c + q * vs.getD i 0) % 4294967296) = w.getD i 0 + 4294967296 * (lessV b (w.getD i 0) ((c + q * vs.getD i 0) % 4294967296) / 2 ^ 63) ∧ lessV b (w.getD i 0) ((c + q * vs.getD i 0) % 4294967296) / 2 ^ 63 ≤ 1 := by
    have : (c + q * vs.getD i 0) % 4294967296 < 4294967296 := Nat.mod_lt _ (by omega)
    generalize (c + q * vs.getD i 0) % 4294967296 = y at this ⊢
    unfold lessV; split <;> omega
  generalize lessV b (w.getD i 0) ((c + q * vs.getD i 0) % 4294967296) = V at hlv ⊢
  obtain ⟨hV1, hV2⟩ := hlv
  refine ⟨by omega, by simpa using h2, h3.set (by omega), hp1, hV2, ?_, ?_, drop_set_succ h8⟩
  · by_cases hin : i < vs.length
    · left; omega
    · right
      have : vs.getD i 0 = 0 := getD_out (by omega)
      rw [this, Nat.mul_zero, Nat.add_zero]
      rcases h6 with h6 | h6 <;> omega
  · rw [nval_take_set (by omega), nval_take_succ, nval_take_succ, Nat.pow_succ, Nat.mul_assoc]
    rw [← hxx]
    generalize hs : c + q * vs.getD i 0 = s at *
    have e1 : q * (nval (vs.take i) + 4294967296 ^ i * vs.getD i 0) = q * nval (vs.take i) + 4294967296 ^ i * (q * vs.getD i 0) := by
      rw [Nat.mul_add]; congr 1; rw [← Nat.mul_assoc, ← Nat.mul_assoc, Nat.mul_comm q]
    rw [e1]
    have e2 : V % 4294967296 + (q * vs.getD i 0) + (c + b) = w.getD i 0 + 4294967296 * (s / 2 ^ 32 + V / 2 ^ 63) := by
      have := Nat.div_add_mod s 4294967296
      omega
    have e3 := congrArg (4294967296 ^ i * ·) e2
    simp only [Nat.mul_add] at e3 h7 ⊢
    omega
theorem dig_top {w0 vs : List Nat} (lw : Lims w0) (hl : w0.length = vs.length + 1) (hn : 1 ≤ vs.length) (hv : vs.getD (vs.length - 1) 0 ≠ 0) (hU : nval w0 < nval vs * 4294967296) : nval w0 / nval vs ≤ min ((w0.getD vs.length 0 * 2 ^ 32 + w0.getD (vs.length - 1) 0) / vs.getD (vs.length - 1) 0) 4294967295 := by
  have hv1 := split_at (l := vs) (Nat.le_refl _) hn
  rw [List.drop_length, nval, Nat.mul_zero, Nat.add_zero] at hv1
  have hV : 4294967296 ^ (vs.length - 1) * vs.getD (vs.length - 1) 0 ≤ nval vs := by omega
  have hpos : 0 < 4294967296 ^ (vs.length - 1) := Nat.pow_pos (by omega)
  have hVp : 0 < nval vs := by
    have : 0 < 4294967296 ^ (vs.length - 1) * vs.getD (vs.length - 1) 0 := Nat.mul_pos hpos (by omega)
    omega
  have h1 : nval w0 / nval vs < 4294967296 := by
    rw [Nat.div_lt_iff_lt_mul hVp, Nat.mul_comm]; exact hU
  have h2 : nval w0 < 4294967296 ^ (vs.length - 1) * (w0.getD vs.length 0 * 2 ^ 32 + w0.getD (vs.length - 1) 0 + 1) := by
    have a1 := split_at (l := w0) (i := vs.length + 1) (by omega) (by omega)
    have a2 := split_at (l := w0.take vs.length) (i := vs.length) (by simp; omega) hn
    rw [Nat.add_sub_cancel, List.drop_of_length_le (by omega), nval, Nat.mul_zero, Nat.add_zero] at a1
    rw [List.drop_of_length_le (by simp; omega), nval, Nat.mul_zero, Nat.add_zero, List.take_take, Nat.min_eq_left (by omega), getD_take (by omega)] at a2
    have a3 := nval_lt (lw.take (vs.length - 1))
    rw [List.length_take, Nat.min_eq_left (by omega)] at a3
    have e : (4294967296 : Nat) ^ vs.length = 4294967296 ^ (vs.length - 1) * 4294967296 := by
      conv => lhs; rw [show vs.length = vs.length - 1 + 1 from by omega, Nat.pow_succ]
    rw [e, Nat.mul_assoc] at a1
    rw [Nat.mul_add, Nat.mul_add, Nat.mul_one, Nat.mul_comm _ (2 ^ 32), show (2 : Nat) ^ 32 = 4294967296 from rfl]
    generalize 4294967296 ^ (vs.length - 1) * (4294967296 * w0.getD vs.length 0) = u1 at a1 ⊢
    generalize 4294967296 ^ (vs.length - 1) * w0.getD (vs.length - 1) 0 = u2 at a2 ⊢
    omega
  refine Nat.le_min.2 ⟨?_, by omega⟩
  rw [Nat.le_div_iff_mul_le (by omega)]
  have h3 := Nat.div_mul_le_self (nval w0) (nval vs)
  have h4 : nval w0 / nval vs * (4294967296 ^ (vs.length - 1) * vs.getD (vs.length - 1) 0) ≤ nval w0 / nval vs * nval vs := Nat.mul_le_mul_left _ hV
  have h5 : 4294967296 ^ (vs.length - 1) * (nval w0 / nval vs * vs.getD (vs.length - 1) 0) < 4294967296 ^ (vs.length - 1) * (w0.getD vs.length 0 * 2 ^ 32 + w0.getD (vs.length - 1) 0 + 1) := by
    rw [Nat.mul_left_comm]
    omega
  have := Nat.lt_of_mul_lt_mul_left h5
  omega
/-- what is left, and the digit so far -/
def DigS (w0 vs w : List Nat) (q b : Nat) : Prop := w.length = vs.length + 1 ∧ Lims w ∧ b ≤ 1 ∧ q < 4294967296 ∧ nval w + q * nval vs = nval w0 + 4294967296 ^ (vs.length + 1) * b ∧ nval w0 / nval vs ≤ q
theorem digS_0 {w0 vs w : List Nat} {q i c b : Nat} (hi : i = vs.length + 1) (hl : w0.length = vs.length + 1) (hq : q < 4294967296) (hq2 : nval w0 / nval vs ≤ q) (h : DigR w0 vs q w i c b) : DigS w0 vs w q b := by
  obtain ⟨h1, h2, h3, h4, h5, h6, h7, h8⟩ := h
  subst hi
  rw [List.take_of_length_le (by omega), List.take_of_length_le (by omega), List.take_of_length_le (by omega)] at h7
  have : c = 0 := by rcases h6 with h6 | h6 <;> omega
  subst this
  rw [Nat.zero_add] at h7
  exact ⟨h2, h3, h5, hq, h7, hq2⟩
def DigA (w1 vs w : List Nat) (i c : Nat) : Prop := i ≤ vs.length + 1 ∧ w.length = vs.length + 1 ∧ Lims w ∧ c ≤ 1 ∧ nval (w.take i) + 4294967296 ^ i * c = nval (w1.take i) + nval (vs.take i) ∧ w.drop i = w1.drop i
theorem digA_0 {w0 vs w : List Nat} {q b : Nat} (h : DigS w0 vs w q b) : DigA w vs w 0 0 := ⟨by omega, h.1, h.2.1, by omega, by simp [nval], rfl⟩
theorem digA_s {w1 vs w : List Nat} {i c : Nat} (lv : Lims vs) (hi : i < vs.length + 1) (h : DigA w1 vs w i c) : DigA w1 vs (w.set i ((c + w.getD i 0 + vs.getD i 0) % 4294967296)) (i + 1) ((c + w.getD i 0 + vs.getD i 0) / 2 ^ 32) := by
  obtain ⟨h1, h2, h3, h4, h5, h6⟩ := h
  have hv := getD_lt lv i
  have hx := getD_lt h3 i
  have hxx := getD_drop_eq h6
  refine ⟨by omega, by simpa using h2, h3.set (by omega), by omega, ?_, drop_set_succ h6⟩
  rw [nval_take_set (by omega), nval_take_succ, nval_take_succ, Nat.pow_succ, Nat.mul_assoc, ← hxx]
  generalize hs : c + w.getD i 0 + vs.getD i 0 = s
  have e2 : s % 4294967296 + 4294967296 * (s / 2 ^ 32) = c + w.getD i 0 + vs.getD i 0 := by
    have := Nat.div_add_mod s 4294967296
    omega
  have e3 := congrArg (4294967296 ^ i * ·) e2
  simp only [Nat.mul_add] at e3
  omega
theorem dig_core {W W1 V U q P c : Nat} (h5 : W + P * c = W1 + V) (s5 : W1 + q * V = U + P) (hw : W1 < P) (hc : c ≤ 1) : W + (q - 1) * V = U + P * (1 - c) ∧ U / V < q := by
  have hqv : U < q * V := by omega
  have hVp : 0 < V := by
    rcases Nat.eq_zero_or_pos V with h | h
    · rw [h, Nat.mul_zero] at hqv; omega
    · exact h
  have hlt : U / V < q := (Nat.div_lt_iff_lt_mul hVp).2 hqv
  refine ⟨?_, hlt⟩
  have hq0 := Nat.zero_lt_of_lt hlt
  clear hlt
  obtain ⟨k, rfl⟩ : ∃ k, q = k + 1 := ⟨q - 1, by omega⟩
  rw [Nat.succ_mul] at s5
  rw [Nat.add_sub_cancel]
  have : c = 0 ∨ c = 1 := by omega
  rcases this with rfl | rfl
  · rw [Nat.mul_zero] at h5; rw [Nat.sub_zero, Nat.mul_one]; omega
  · rw [Nat.mul_one] at h5; rw [Nat.sub_self, Nat.mul_zero]; omega
theorem digA_end {w0 w1 vs w : List Nat} {q b i c : Nat} (hi : i = vs.length + 1) (hb : 0 < b) (hs : DigS w0 vs w1 q b) (h : DigA w1 vs w i c) : DigS w0 vs w (q - 1) (b - c) ∧ 1 ≤ q := by
  obtain ⟨h1, h2, h3, h4, h5, h6⟩ := h
  obtain ⟨s1, s2, s3, s4, s5, s6⟩ := hs
  subst hi
  rw [List.take_of_length_le (Nat.le_of_eq h2), List.take_of_length_le (Nat.le_of_eq s1), List.take_of_length_le (Nat.le_succ _)] at h5
  have hb1 : b = 1 := Nat.le_antisymm s3 hb
  subst hb1
  have hw := nval_lt s2
  rw [s1] at hw
  rw [Nat.mul_one] at s5
  obtain ⟨k1, k2⟩ := dig_core h5 s5 hw h4
  exact ⟨⟨h2, h3, Nat.sub_le _ _, Nat.lt_of_le_of_lt (Nat.sub_le _ _) s4, k1, Nat.le_sub_one_of_lt k2⟩, Nat.one_le_of_lt k2⟩
theorem digS_end {w0 vs w : List Nat} {q b : Nat} (hb : b = 0) (h : DigS w0 vs w q b) (hV : nval vs ≠ 0) : q = nval w0 / nval vs ∧ w.length = vs.length + 1 ∧ Lims w ∧ nval w = nval w0 % nval vs := by
  obtain ⟨s1, s2, s3, s4, s5, s6⟩ := h
  subst hb
  rw [Nat.mul_zero, Nat.add_zero] at s5
  have h1 : q ≤ nval w0 / nval vs := by
    rw [Nat.le_div_iff_mul_le (by omega)]; omega
  have h2 : q = nval w0 / nval vs := by omega
  refine ⟨h2, s1, s2, ?_⟩
  have := Nat.div_add_mod (nval w0) (nval vs)
  rw [← h2, Nat.mul_comm] at this
  omega
theorem top_ne {vs : List Nat} (hv : vs.getD (vs.length - 1) 0 ≠ 0) (hn : 1 ≤ vs.length) : nval vs ≠ 0 := by
  have hv1 := split_at (l := vs) (Nat.le_refl _) hn
  rw [List.drop_length, nval, Nat.mul_zero, Nat.add_zero] at hv1
  have : 0 < 4294967296 ^ (vs.length - 1) * vs.getD (vs.length - 1) 0 := Nat.mul_pos (Nat.pow_pos (by omega)) (by omega)
  omega
theorem min_lt32 {a : Nat} : min a 4294967295 < 4294967296 := by omega
theorem offs1 {o i : Nat} : o + i * 1 = (o + i) * 1 + 0 := by omega
theorem digS_pos {w0 vs w : List Nat} {q b : Nat} (hs : DigS w0 vs w q b) (hb : 0 < b) : 1 ≤ q := by
  obtain ⟨s1, s2, s3, s4, s5, s6⟩ := hs
  have hb1 : b = 1 := Nat.le_antisymm s3 hb
  subst hb1
  have hw := nval_lt s2
  rw [s1] at hw
  rw [Nat.mul_one] at s5
  generalize 4294967296 ^ (vs.length + 1) = P at s5 hw
  rcases Nat.eq_zero_or_pos q with h | h
  · subst h; rw [Nat.zero_mul] at s5; omega
  · exact h
end Fw
