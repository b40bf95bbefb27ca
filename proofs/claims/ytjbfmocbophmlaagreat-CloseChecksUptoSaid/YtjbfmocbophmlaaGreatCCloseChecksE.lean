/- Frame, facts and contracts for CloseChecks. -/
import Derived.Test.YtjbfmocbophmlaaGreatCCloseChecksD
/- Plain facts: the program's Gram-Schmidt numbers when a row grows by another one, and when two rows are exchanged. -/
set_option linter.unusedVariables false
set_option linter.unusedSimpArgs false
set_option exponentiation.threshold 400
namespace Fw
open Go
theorem uE_q {G : Nat → Nat → Int} (hs : SymG G) {k : Nat} (hp : PosU G k) {i j : Nat} (hi : k ≤ i) (hj : k ≤ j) : (uE G k i j : Rat) = gsD (qG G) k * gsE (qG G) k i j := (ugs hs k hp).e i j hi hj
theorem uD_q {G : Nat → Nat → Int} (hs : SymG G) {k : Nat} (hp : PosU G k) : (uD G k : Rat) = gsD (qG G) k := (ugs hs k hp).d
theorem piv_pos {G : Nat → Nat → Int} (hs : SymG G) {k n : Nat} (hp : PosU G n) (hk : k < n) : 0 < gsE (qG G) k k k := (gsE_pos hs (hp.le (by omega))).2 (hp k hk)
theorem piv_ne {G : Nat → Nat → Int} (hs : SymG G) {k n : Nat} (hp : PosU G n) (hk : k < n) : gsE (qG G) k k k ≠ 0 := fun e => by
  have := piv_pos hs hp hk; rw [e] at this; exact absurd this (by decide)
theorem posU_of {G : Nat → Nat → Int} (hs : SymG G) : ∀ n, (∀ k, k < n → 0 < gsE (qG G) k k k) → PosU G n
  | 0, _ => fun l hl => absurd hl (by omega)
  | n + 1, h => by
    have ih := posU_of hs n (fun k hk => h k (by omega))
    intro l hl
    by_cases e : l = n
    · subst e; exact (gsE_pos hs ih).1 (h l (by omega))
    · exact ih l (by omega)
def rowI (G : Nat → Nat → Int) (i j : Nat) (q : Int) : Nat → Nat → Int := fun x y => G x y + (if x = i then q else 0) * G j y + (if y = i then q else 0) * G x j + (if x = i then q else 0) * (if y = i then q else 0) * G j j
theorem qG_row (G i j q) : qG (rowI G i j q) = rowQ (qG G) i j (q : Rat) := by
  funext x y
  unfold qG rowI rowQ cI
  by_cases hx : x = i <;> by_cases hy : y = i <;> simp [hx, hy, Rat.intCast_add, Rat.intCast_mul] <;> grind
theorem rowI_sym {G i j q} (h : SymG G) : SymG (rowI G i j q) := fun x y => by
  unfold rowI; rw [h x y, h j y, h x j]
  by_cases hx : x = i <;> by_cases hy : y = i <;> simp [hx, hy] <;> omega
section
variable {G : Nat → Nat → Int} {i j n : Nat} {q : Int}
theorem rowI_pos (hs : SymG G) (hp : PosU G n) (hij : j < i) : PosU (rowI G i j q) n := posU_of (rowI_sym hs) n fun k hk => by
  rw [qG_row, gsE_row_piv hij k (fun l hl => piv_ne hs hp (by omega))]; exact piv_pos hs hp hk
theorem rowI_uD (hs : SymG G) (hp : PosU G n) (hij : j < i) {k : Nat} (hk : k ≤ n) : uD (rowI G i j q) k = uD G k := by
  have h1 := uD_q (rowI_sym (i := i) (j := j) (q := q) hs) ((rowI_pos hs hp hij).le hk)
  rw [qG_row, gsD_row hij k (fun l hl => piv_ne hs hp (by omega)), ← uD_q hs (hp.le hk)] at h1
  exact_mod_cast h1
theorem rowI_lo (hs : SymG G) (hp : PosU G n) (hij : j < i) (hi : i < n) {k : Nat} (hk : k < j) : uE (rowI G i j q) k i k = uE G k i k + q * uE G k j k := by
  have h1 := uE_q (rowI_sym (i := i) (j := j) (q := q) hs) ((rowI_pos hs hp hij).le (show k ≤ n by omega)) (show k ≤ i by omega) (Nat.le_refl k)
  rw [qG_row, gsD_row hij k (fun l hl => piv_ne hs hp (by omega)), gsE_row hij k (by omega) (fun l hl => piv_ne hs hp (by omega)), cI_eq, cI_ne (show k ≠ i by omega)] at h1
  have h2 := uE_q hs (hp.le (show k ≤ n by omega)) (show k ≤ i by omega) (Nat.le_refl k)
  have h3 := uE_q hs (hp.le (show k ≤ n by omega)) (show k ≤ j by omega) (Nat.le_refl k)
  have h4 : (uE (rowI G i j q) k i k : Rat) = ((uE G k i k + q * uE G k j k : Int) : Rat) := by
    rw [h1, Rat.intCast_add, Rat.intCast_mul, h2, h3]; grind
  exact_mod_cast h4
theorem rowI_at (hs : SymG G) (hp : PosU G n) (hij : j < i) (hi : i < n) : uE (rowI G i j q) j i j = uE G j i j + q * uD G (j + 1) := by
  have h1 := uE_q (rowI_sym (i := i) (j := j) (q := q) hs) ((rowI_pos hs hp hij).le (show j ≤ n by omega)) (show j ≤ i by omega) (Nat.le_refl j)
  rw [qG_row, gsD_row hij j (fun l hl => piv_ne hs hp (by omega)), gsE_row hij j (Nat.le_refl _) (fun l hl => piv_ne hs hp (by omega)), cI_eq, cI_ne (show j ≠ i by omega)] at h1
  have h2 := uE_q hs (hp.le (show j ≤ n by omega)) (show j ≤ i by omega) (Nat.le_refl j)
  have h3 := uE_q hs (hp.le (show j ≤ n by omega)) (Nat.le_refl j) (Nat.le_refl j)
  have h4 : (uE (rowI G i j q) j i j : Rat) = ((uE G j i j + q * uE G j j j : Int) : Rat) := by
    rw [h1, Rat.intCast_add, Rat.intCast_mul, h2, h3]; grind
  exact_mod_cast h4
theorem rowI_hi (hs : SymG G) (hp : PosU G n) (hij : j < i) {k x : Nat} (hk : j < k) (hkx : k ≤ x) (hx : x < n) : uE (rowI G i j q) k x k = uE G k x k := by
  have h1 := uE_q (rowI_sym (i := i) (j := j) (q := q) hs) ((rowI_pos hs hp hij).le (show k ≤ n by omega)) hkx (Nat.le_refl k)
  rw [qG_row, gsD_row hij k (fun l hl => piv_ne hs hp (by omega)), gsE_row_hi hij k hk (fun l hl => piv_ne hs hp (by omega)), ← uE_q hs (hp.le (show k ≤ n by omega)) hkx (Nat.le_refl k)] at h1
  exact_mod_cast h1
theorem rowI_ne (hs : SymG G) (hp : PosU G n) (hij : j < i) {k x : Nat} (hxi : x ≠ i) (hkx : k ≤ x) (hx : x < n) : uE (rowI G i j q) k x k = uE G k x k := by
  by_cases hk : j < k
  · exact rowI_hi hs hp hij hk hkx hx
  · have h1 := uE_q (rowI_sym (i := i) (j := j) (q := q) hs) ((rowI_pos hs hp hij).le (show k ≤ n by omega)) hkx (Nat.le_refl k)
    rw [qG_row, gsD_row hij k (fun l hl => piv_ne hs hp (by omega)), gsE_row hij k (by omega) (fun l hl => piv_ne hs hp (by omega)), cI_ne hxi, cI_ne (show k ≠ i by omega)] at h1
    have h2 := uE_q hs (hp.le (show k ≤ n by omega)) hkx (Nat.le_refl k)
    have h4 : (uE (rowI G i j q) k x k : Rat) = (uE G k x k : Rat) := by rw [h1, h2]; grind
    exact_mod_cast h4
end
def swpI (G : Nat → Nat → Int) (p : Nat) : Nat → Nat → Int := fun x y => G (sg p x) (sg p y)
theorem qG_swp (G p) : qG (swpI G p) = swpQ (qG G) p := rfl
theorem swpI_sym {G p} (h : SymG G) : SymG (swpI G p) := fun x y => h _ _
section
variable {G : Nat → Nat → Int} {p n : Nat}
theorem swp_c (hs : SymG G) (hp : PosU G n) (h : p + 1 < n) : 0 < gsE (qG G) p (p + 1) (p + 1) ∧ gsE (qG G) p p p * gsE (qG G) (p + 1) (p + 1) (p + 1) = gsE (qG G) p p p * gsE (qG G) p (p + 1) (p + 1) - gsE (qG G) p (p + 1) p * gsE (qG G) p (p + 1) p := by
  have h1 := piv_pos hs hp (show p < n by omega)
  have h2 := piv_pos hs hp h
  have h3 := piv_ne hs hp (show p < n by omega)
  have hsy := gsE_sym (fun i j => by unfold qG; rw [hs i j] : ∀ i j, qG G i j = qG G j i) p p (p + 1)
  rw [gsE_succ] at h2 ⊢
  rw [hsy] at h2 ⊢
  generalize gsE (qG G) p p p = a at *
  generalize gsE (qG G) p (p + 1) p = b at *
  generalize gsE (qG G) p (p + 1) (p + 1) = c at *
  refine ⟨?_, by grind⟩
  have h4 : 0 ≤ b * b / a := by
    rw [Rat.div_def]
    exact Rat.mul_nonneg (by rcases Rat.le_total (a := 0) (b := b) with hb | hb; exact Rat.mul_nonneg hb hb; have := Rat.mul_nonneg (a := -b) (b := -b) (by grind) (by grind); grind) (Rat.le_of_lt (Rat.inv_pos.2 h1))
  grind
theorem swp_piv (hs : SymG G) (hp : PosU G n) (h : p + 1 < n) : ∀ k, k < n → 0 < gsE (qG (swpI G p)) k k k := by
  intro k hk
  rw [qG_swp]
  have hq : ∀ i j, qG G i j = qG G j i := fun i j => by unfold qG; rw [hs i j]
  obtain ⟨c1, c2⟩ := swp_c hs hp h
  have a1 := piv_pos hs hp (show p < n by omega)
  have b1 := piv_pos hs hp h
  have cn : gsE (qG G) p (p + 1) (p + 1) ≠ 0 := fun e => by rw [e] at c1; exact absurd c1 (by decide)
  rcases Nat.lt_trichotomy k p with h1 | h1 | h1
  · rw [gsE_swp_lo k (by omega), sg_ne (by omega) (by omega)]; exact piv_pos hs hp hk
  · rw [h1, gsE_swp_lo p (Nat.le_refl _), sg_p]; exact c1
  · by_cases h2 : k = p + 1
    · rw [h2, gsE_swp_1, sg_q, gsE_sym hq p p (p + 1)]
      have e : gsE (qG G) p p p - gsE (qG G) p (p + 1) p * gsE (qG G) p (p + 1) p / gsE (qG G) p (p + 1) (p + 1) = gsE (qG G) p p p * gsE (qG G) (p + 1) (p + 1) (p + 1) / gsE (qG G) p (p + 1) (p + 1) := by
        rw [c2]; grind
      rw [e, Rat.div_def]
      exact Rat.mul_pos (Rat.mul_pos a1 b1) (Rat.inv_pos.2 c1)
    · rw [gsE_swp_hi hq (piv_ne hs hp (by omega)) cn (piv_ne hs hp h) k (by omega) k k (Nat.le_refl _) (Nat.le_refl _)]
      exact piv_pos hs hp hk
theorem swpI_pos (hs : SymG G) (hp : PosU G n) (h : p + 1 < n) : PosU (swpI G p) n := posU_of (swpI_sym hs) n (swp_piv hs hp h)
theorem gsD_swp_lo : ∀ k, k ≤ p → gsD (qG (swpI G p)) k = gsD (qG G) k
  | 0, _ => rfl
  | k + 1, hk => by
    show gsD (qG (swpI G p)) k * gsE (qG (swpI G p)) k k k = gsD (qG G) k * gsE (qG G) k k k
    rw [gsD_swp_lo k (by omega), qG_swp, gsE_swp_lo k (by omega), sg_ne (by omega) (by omega)]
theorem gsD_swp_1 : gsD (qG (swpI G p)) (p + 1) = gsD (qG G) p * gsE (qG G) p (p + 1) (p + 1) := by
  show gsD (qG (swpI G p)) p * gsE (qG (swpI G p)) p p p = _
  rw [gsD_swp_lo p (Nat.le_refl _), qG_swp, gsE_swp_lo p (Nat.le_refl _), sg_p]
theorem gsD_swp_2 (hs : SymG G) (hp : PosU G n) (h : p + 1 < n) : gsD (qG (swpI G p)) (p + 2) = gsD (qG G) (p + 2) := by
  have hq : ∀ i j, qG G i j = qG G j i := fun i j => by unfold qG; rw [hs i j]
  obtain ⟨c1, c2⟩ := swp_c hs hp h
  have cn : gsE (qG G) p (p + 1) (p + 1) ≠ 0 := fun e => by rw [e] at c1; exact absurd c1 (by decide)
  show gsD (qG (swpI G p)) (p + 1) * gsE (qG (swpI G p)) (p + 1) (p + 1) (p + 1) = gsD (qG G) p * gsE (qG G) p p p * gsE (qG G) (p + 1) (p + 1) (p + 1)
  rw [gsD_swp_1, qG_swp, gsE_swp_1, sg_q, gsE_sym hq p p (p + 1)]
  have e : gsE (qG G) p (p + 1) (p + 1) * (gsE (qG G) p p p - gsE (qG G) p (p + 1) p * gsE (qG G) p (p + 1) p / gsE (qG G) p (p + 1) (p + 1)) = gsE (qG G) p p p * gsE (qG G) (p + 1) (p + 1) (p + 1) := by
    rw [c2]; grind
  rw [Rat.mul_assoc, e, Rat.mul_assoc]
theorem gsD_swp_hi (hs : SymG G) (hp : PosU G n) (h : p + 1 < n) : ∀ k, p + 2 ≤ k → k ≤ n → gsD (qG (swpI G p)) k = gsD (qG G) k
  | 0, hk, _ => absurd hk (by omega)
  | k + 1, hk, hkn => by
    by_cases e : k = p + 1
    · subst e; exact gsD_swp_2 hs hp h
    · have hq : ∀ i j, qG G i j = qG G j i := fun i j => by unfold qG; rw [hs i j]
      obtain ⟨c1, c2⟩ := swp_c hs hp h
      have cn : gsE (qG G) p (p + 1) (p + 1) ≠ 0 := fun e => by rw [e] at c1; exact absurd c1 (by decide)
      show gsD (qG (swpI G p)) k * gsE (qG (swpI G p)) k k k = gsD (qG G) k * gsE (qG G) k k k
      rw [gsD_swp_hi hs hp h k (by omega) (by omega), qG_swp, gsE_swp_hi hq (piv_ne hs hp (by omega)) cn (piv_ne hs hp h) k (by omega) k k (Nat.le_refl _) (Nat.le_refl _)]
theorem swpI_uD (hs : SymG G) (hp : PosU G n) (h : p + 1 < n) {k : Nat} (hk : k ≤ n) (hne : k ≠ p + 1) : uD (swpI G p) k = uD G k := by
  have h1 := uD_q (swpI_sym (p := p) hs) ((swpI_pos hs hp h).le hk)
  have e : gsD (qG (swpI G p)) k = gsD (qG G) k := by
    by_cases h2 : k ≤ p
    · exact gsD_swp_lo k h2
    · exact gsD_swp_hi hs hp h k (by omega) hk
  rw [e, ← uD_q hs (hp.le hk)] at h1
  exact_mod_cast h1
theorem swpI_D (hs : SymG G) (hp : PosU G n) (h : p + 1 < n) : uD (swpI G p) (p + 1) * uD G (p + 1) = uD G p * uD G (p + 2) + uE G p (p + 1) p * uE G p (p + 1) p := by
  have h1 := uD_q (swpI_sym (p := p) hs) ((swpI_pos hs hp h).le (show p + 1 ≤ n by omega))
  rw [gsD_swp_1] at h1
  obtain ⟨c1, c2⟩ := swp_c hs hp h
  have d0 := uD_q hs (hp.le (show p ≤ n by omega))
  have d1 := uD_q hs (hp.le (show p + 1 ≤ n by omega))
  have d2 := uD_q hs (hp.le (show p + 2 ≤ n by omega))
  have l0 := uE_q hs (hp.le (show p ≤ n by omega)) (show p ≤ p + 1 by omega) (Nat.le_refl p)
  have g1 : gsD (qG G) (p + 1) = gsD (qG G) p * gsE (qG G) p p p := rfl
  have g2 : gsD (qG G) (p + 2) = gsD (qG G) p * gsE (qG G) p p p * gsE (qG G) (p + 1) (p + 1) (p + 1) := rfl
  have h4 : ((uD (swpI G p) (p + 1) * uD G (p + 1) : Int) : Rat) = ((uD G p * uD G (p + 2) + uE G p (p + 1) p * uE G p (p + 1) p : Int) : Rat) := by
    rw [Rat.intCast_add, Rat.intCast_mul, Rat.intCast_mul, Rat.intCast_mul, h1, d0, d1, d2, l0, g1, g2]
    grind
  exact_mod_cast h4
theorem swpI_lo (hs : SymG G) (hp : PosU G n) (h : p + 1 < n) {k x : Nat} (hk : k < p) (hkx : k ≤ x) : uE (swpI G p) k x k = uE G k (sg p x) k := by
  have h1 := uE_q (swpI_sym (p := p) hs) ((swpI_pos hs hp h).le (show k ≤ n by omega)) hkx (Nat.le_refl k)
  have hsg : k ≤ sg p x := by unfold sg; split; omega; split <;> omega
  rw [gsD_swp_lo k (by omega), qG_swp, gsE_swp_lo k (by omega), sg_ne (show k ≠ p by omega) (by omega), ← uE_q hs (hp.le (show k ≤ n by omega)) hsg (Nat.le_refl k)] at h1
  exact_mod_cast h1
theorem swpI_mid (hs : SymG G) (hp : PosU G n) (h : p + 1 < n) : uE (swpI G p) p (p + 1) p = uE G p (p + 1) p := by
  have hq : ∀ i j, qG G i j = qG G j i := fun i j => by unfold qG; rw [hs i j]
  have h1 := uE_q (swpI_sym (p := p) hs) ((swpI_pos hs hp h).le (show p ≤ n by omega)) (show p ≤ p + 1 by omega) (Nat.le_refl p)
  rw [gsD_swp_lo p (Nat.le_refl _), qG_swp, gsE_swp_lo p (Nat.le_refl _), sg_q, sg_p, gsE_sym hq p p (p + 1), ← uE_q hs (hp.le (show p ≤ n by omega)) (show p ≤ p + 1 by omega) (Nat.le_refl p)] at h1
  exact_mod_cast h1
theorem swpI_1 (hs : SymG G) (hp : PosU G n) (h : p + 1 < n) {x : Nat} (hx : p + 1 < x) : uE (swpI G p) p x p * uD G (p + 1) = uD G p * uE G (p + 1) x (p + 1) + uE G p (p + 1) p * uE G p x p := by
  have hq : ∀ i j, qG G i j = qG G j i := fun i j => by unfold qG; rw [hs i j]
  have h1 := uE_q (swpI_sym (p := p) hs) ((swpI_pos hs hp h).le (show p ≤ n by omega)) (show p ≤ x by omega) (Nat.le_refl p)
  rw [gsD_swp_lo p (Nat.le_refl _), qG_swp, gsE_swp_lo p (Nat.le_refl _), sg_p, sg_ne (show x ≠ p by omega) (by omega)] at h1
  have an := piv_ne hs hp (show p < n by omega)
  have d0 := uD_q hs (hp.le (show p ≤ n by omega))
  have d1 := uD_q hs (hp.le (show p + 1 ≤ n by omega))
  have l0 := uE_q hs (hp.le (show p ≤ n by omega)) (show p ≤ p + 1 by omega) (Nat.le_refl p)
  have l1 := uE_q hs (hp.le (show p ≤ n by omega)) (show p ≤ x by omega) (Nat.le_refl p)
  have l2 := uE_q hs (hp.le (show p + 1 ≤ n by omega)) (show p + 1 ≤ x by omega) (Nat.le_refl (p + 1))
  have g1 : gsD (qG G) (p + 1) = gsD (qG G) p * gsE (qG G) p p p := rfl
  rw [gsE_succ, gsE_sym hq p p (p + 1)] at l2
  have h4 : ((uE (swpI G p) p x p * uD G (p + 1) : Int) : Rat) = ((uD G p * uE G (p + 1) x (p + 1) + uE G p (p + 1) p * uE G p x p : Int) : Rat) := by
    rw [Rat.intCast_add, Rat.intCast_mul, Rat.intCast_mul, Rat.intCast_mul, h1, d0, d1, l0, l1, l2, g1]
    grind
  exact_mod_cast h4
theorem swpI_2 (hs : SymG G) (hp : PosU G n) (h : p + 1 < n) {x : Nat} (hx : p + 1 < x) : uE (swpI G p) (p + 1) x (p + 1) * uD G (p + 1) = uD G (p + 2) * uE G p x p - uE G p (p + 1) p * uE G (p + 1) x (p + 1) := by
  have hq : ∀ i j, qG G i j = qG G j i := fun i j => by unfold qG; rw [hs i j]
  have h1 := uE_q (swpI_sym (p := p) hs) ((swpI_pos hs hp h).le (show p + 1 ≤ n by omega)) (show p + 1 ≤ x by omega) (Nat.le_refl (p + 1))
  rw [gsD_swp_1, qG_swp, gsE_swp_1, sg_q, sg_ne (show x ≠ p by omega) (by omega)] at h1
  obtain ⟨c1, c2⟩ := swp_c hs hp h
  have cn : gsE (qG G) p (p + 1) (p + 1) ≠ 0 := fun e => by rw [e] at c1; exact absurd c1 (by decide)
  have an := piv_ne hs hp (show p < n by omega)
  have d0 := uD_q hs (hp.le (show p ≤ n by omega))
  have d1 := uD_q hs (hp.le (show p + 1 ≤ n by omega))
  have d2 := uD_q hs (hp.le (show p + 2 ≤ n by omega))
  have l0 := uE_q hs (hp.le (show p ≤ n by omega)) (show p ≤ p + 1 by omega) (Nat.le_refl p)
  have l1 := uE_q hs (hp.le (show p ≤ n by omega)) (show p ≤ x by omega) (Nat.le_refl p)
  have l2 := uE_q hs (hp.le (show p + 1 ≤ n by omega)) (show p + 1 ≤ x by omega) (Nat.le_refl (p + 1))
  have g1 : gsD (qG G) (p + 1) = gsD (qG G) p * gsE (qG G) p p p := rfl
  have g2 : gsD (qG G) (p + 2) = gsD (qG G) p * gsE (qG G) p p p * gsE (qG G) (p + 1) (p + 1) (p + 1) := rfl
  rw [gsE_succ, gsE_sym hq p p (p + 1)] at l2
  have h4 : ((uE (swpI G p) (p + 1) x (p + 1) * uD G (p + 1) : Int) : Rat) = ((uD G (p + 2) * uE G p x p - uE G p (p + 1) p * uE G (p + 1) x (p + 1) : Int) : Rat) := by
    rw [Rat.intCast_sub, Rat.intCast_mul, Rat.intCast_mul, Rat.intCast_mul, h1, d1, d2, l0, l1, l2, g1, g2]
    grind
  exact_mod_cast h4
theorem swpI_hi (hs : SymG G) (hp : PosU G n) (h : p + 1 < n) {k x : Nat} (hk : p + 2 ≤ k) (hkx : k ≤ x) (hx : x < n) : uE (swpI G p) k x k = uE G k x k := by
  have hq : ∀ i j, qG G i j = qG G j i := fun i j => by unfold qG; rw [hs i j]
  obtain ⟨c1, c2⟩ := swp_c hs hp h
  have cn : gsE (qG G) p (p + 1) (p + 1) ≠ 0 := fun e => by rw [e] at c1; exact absurd c1 (by decide)
  have h1 := uE_q (swpI_sym (p := p) hs) ((swpI_pos hs hp h).le (show k ≤ n by omega)) hkx (Nat.le_refl k)
  rw [gsD_swp_hi hs hp h k hk (by omega), qG_swp, gsE_swp_hi hq (piv_ne hs hp (by omega)) cn (piv_ne hs hp h) k hk x k hkx (Nat.le_refl _), ← uE_q hs (hp.le (show k ≤ n by omega)) hkx (Nat.le_refl k)] at h1
  exact_mod_cast h1
theorem swpI_low (hs : SymG G) (hp : PosU G n) (h : p + 1 < n) {k x : Nat} (hkx : k ≤ x) (hx : x < p) : uE (swpI G p) k x k = uE G k x k := by
  rw [swpI_lo hs hp h (by omega) hkx, sg_ne (by omega) (by omega)]
end
end Fw
/- Plain facts: the document's elimination by fractions. -/
set_option linter.unusedVariables false
set_option linter.unusedSimpArgs false
set_option exponentiation.threshold 400
namespace Fw
open Go
theorem RZ.add {n p q} (h : RZ n p) (k : RZ n q) : RZ (n + n + 1) (p + q) :=
  RZ.of (Int.mul_ne_zero (rq_den_ne p) (rq_den_ne q)) (rq_add p q) (Sz.add1 (h.a.mul k.b) (k.a.mul h.b)) ((h.b.mul k.b).up (by omega))
theorem RZ.sub2 {n m p q} (h : RZ n p) (k : RZ m q) : RZ (n + m + 1) (p - q) := by
  rw [Rat.sub_eq_add_neg]
  refine RZ.of (Int.mul_ne_zero (rq_den_ne p) (rq_den_ne (-q))) (rq_add p (-q)) (Sz.add1 (h.a.mul k.neg.b) ?_) ((h.b.mul k.neg.b).up (by omega))
  have := k.neg.a.mul h.b
  exact this.up (by omega)
theorem rq_zero {q : Rat} : (rq q).1.sign = 0 ↔ q = 0 := by
  rw [Int.sign_eq_zero_iff_zero]
  constructor
  · intro h; exact Classical.byContradiction fun e => rq_num_ne e h
  · intro h; subst h; rfl
end Fw
/- Plain facts: nearest whole numbers, comparisons of fractions. -/
set_option linter.unusedVariables false
set_option linter.unusedSimpArgs false
set_option exponentiation.threshold 400
namespace Fw
open Go
def nearI (a b : Int) : Int := (a + a + b).fdiv (b + b)
def nearQ (q : Rat) : Int := nearI (rq q).1 (rq q).2
theorem rq_cmp (p q : Rat) : ((rq p).1 * (rq q).2 - (rq q).1 * (rq p).2).sign ≤ 0 ↔ p ≤ q := by
  have hp : (0 : Rat) < ((rq p).2 : Rat) := by exact_mod_cast rq_den_pos p
  have hq : (0 : Rat) < ((rq q).2 : Rat) := by exact_mod_cast rq_den_pos q
  have ep := rq_val p
  have eq_ := rq_val q
  have np : ((rq p).2 : Rat) ≠ 0 := fun e => by rw [e] at hp; exact absurd hp (by decide)
  have nq : ((rq q).2 : Rat) ≠ 0 := fun e => by rw [e] at hq; exact absurd hq (by decide)
  have e1 : (((rq p).1 * (rq q).2 - (rq q).1 * (rq p).2 : Int) : Rat) = (p - q) * (((rq p).2 : Rat) * ((rq q).2 : Rat)) := by
    rw [Rat.intCast_sub, Rat.intCast_mul, Rat.intCast_mul]
    have a1 : ((rq p).1 : Rat) = p * ((rq p).2 : Rat) := by rw [← ep]; grind
    have a2 : ((rq q).1 : Rat) = q * ((rq q).2 : Rat) := by rw [← eq_]; grind
    rw [a1, a2]; grind
  have hd := Rat.mul_pos hp hq
  have key : ((rq p).1 * (rq q).2 - (rq q).1 * (rq p).2) ≤ 0 ↔ p ≤ q := by
    constructor
    · intro h
      have h2 : (((rq p).1 * (rq q).2 - (rq q).1 * (rq p).2 : Int) : Rat) ≤ 0 := by exact_mod_cast h
      rw [e1] at h2
      rcases Rat.le_total (a := p) (b := q) with h3 | h3
      · exact h3
      · by_cases e : p = q
        · rw [e]; exact Rat.le_refl
        · have h4 : 0 < p - q := by grind
          have := Rat.mul_pos h4 hd
          grind
    · intro h
      have h2 : (((rq p).1 * (rq q).2 - (rq q).1 * (rq p).2 : Int) : Rat) ≤ 0 := by
        rw [e1]
        have h3 : 0 ≤ q - p := by grind
        have := Rat.mul_nonneg h3 (Rat.le_of_lt hd)
        grind
      exact_mod_cast h2
  rw [← key]
  generalize (rq p).1 * (rq q).2 - (rq q).1 * (rq p).2 = z
  rcases Int.lt_trichotomy z 0 with h | h | h
  · rw [Int.sign_eq_neg_one_of_neg h]; omega
  · subst h; simp
  · rw [Int.sign_eq_one_of_pos h]; omega
end Fw
/- Fractions: what the program answers. -/
set_option linter.unusedVariables false
set_option linter.unusedSimpArgs false
set_option exponentiation.threshold 400
set_option maxRecDepth 20000
set_option maxHeartbeats 1000000
namespace Fw
open Go Go.Proofs
theorem c_zint_Near (n : Nat) (a b : Int) (ha : Sz n a) (hb : Sz n b) (h0 : 0 < b) (hn : n ≤ 274877906944) : Fn Tryz.prog 215 [kZ.is a, kZ.is b] (VP.tup [kC.is (nearI a b), kN6.is 0]) := by
 refine Con.enter Tryz.func215 rfl rfl fun m w => Cr (WP.bx .n rfl fun b1 => WP.bx .n rfl fun b2 => WP.al .n z29_C fun b3 => Wa rfl (Wn (CW.seq ?_)))
 refine CW.drawM (Γ := [.fr (kZ.is a), .fr (kZ.is a), .fr (kC.is (a + a)), .fr (kZ.is b), .fr (kC.is ((a + a) + b)), .fr (kZ.is b), .fr (kZ.is b), .fr (kC.is (b + b)), .fr (VP.tup [kC.is (((a + a) + b).fdiv (b + b)), kC.is (if (b + b) = 0 then 0 else ((a + a) + b).fmod (b + b)), kN6.is (if (b + b) = 0 then 11 else 0)]), .fr (VP.tup [kC.is (((a + a) + b).fdiv (b + b)), kC.is (if (b + b) = 0 then 0 else ((a + a) + b).fmod (b + b)), kN6.is (if (b + b) = 0 then 11 else 0)]), .fr (kC.is (((a + a) + b).fdiv (b + b))), .lt (kC.is (if (b + b) = 0 then 0 else ((a + a) + b).fmod (b + b))), .lt (kN6.is (if (b + b) = 0 then 11 else 0)), .al (fun b => OB.box b 29 kC 0), .al (fun b => OB.box b 29 kC 0)]) (of_ rfl (fun N => O.ld rfl (mem_app N (mem_at 2 rfl)) Li ty29 rfl) (of_ rfl (fun N => O.ld rfl (mem_app N (mem_at 2 rfl)) Li ty29 rfl) (of_ rfl (fun N => O.fn fn189 (evs.c rfl (evs.c rfl evs.nil)) (c_zint_Add a a)) (of_ rfl (fun N => O.ld rfl (mem_app N (mem_at 1 rfl)) Li ty29 rfl) (of_ rfl (fun N => O.fn fn189 (evs.l rfl (kC_Z ((Sz.add1 ha ha).sm (by omega))) (evs.c rfl evs.nil)) (c_zint_Add (a + a) b)) (of_ rfl (fun N => O.ld rfl (mem_app N (mem_at 1 rfl)) Li ty29 rfl) (of_ rfl (fun N => O.ld rfl (mem_app N (mem_at 1 rfl)) Li ty29 rfl) (of_ rfl (fun N => O.fn fn189 (evs.c rfl (evs.c rfl evs.nil)) (c_zint_Add b b)) (of_ rfl (fun N => O.fn fn214 (evs.l rfl (kC_Z ((Sz.add1 (Sz.add1 ha ha) (hb.up (by omega))).sm (by omega))) (evs.l rfl (kC_Z ((Sz.add1 hb hb).sm (by omega))) evs.nil)) (c_zint_Floor ((a + a) + b) (b + b))) (om rfl rfl (of_ rfl (fun N => O.ext rfl rfl) (oc (Ob.l rfl .n (OV.ext rfl rfl)) (oc (Ob.l rfl .n (OV.ext rfl rfl)) (oc (Ob.a rfl z29_C) (oc (Ob.a rfl z29_C) oz))))))))))))))) (fun σ1 => ?_)
 refine WP.t .n (O.stW (l := kC) (u := ((a + a) + b).fdiv (b + b)) 0 rfl rfl rfl ty29 rfl Lr) (WP.t .n (O.stW (l := kC) (u := if (b + b) = 0 then 0 else ((a + a) + b).fmod (b + b)) 1 rfl rfl rfl ty29 rfl Lr) (Wa rfl (Wr (Ws (O.ld rfl (mem_at 0 rfl) Li ty29 rfl) (Wm rfl (WP.t .n (O.stW (l := kC) (u := ((a + a) + b).fdiv (b + b)) 2 rfl rfl rfl ty29 rfl Lr) (Wa rfl (Wn (CW.ret (ST.obtold 2 rfl (OB.box_eq (y := (nearI a b)) rfl) ?_))))))))))
 exact QE.done (.inl rfl) rfl (ResOk.c rfl (mem_at 2 rfl) ty29 (ResOk.tl rfl (is_eq (y := 0) (by omega)) ResOk.nil)) (OImp.sub (List.nil_sublist _)) ⟨rfl, rfl⟩
theorem c_rat_valid (l : List (Int × Int)) (hv : ∀ x, x ∈ l → 0 < x.2 ∧ Sm x.2) : Fn Tryz.prog 121 [(kSl kRC).is l] (kN6.is 0) := by
 refine Con.enter Tryz.func121 rfl rfl fun m w => ST.fact (i := 0) rfl sl_len fun hB => Cr (Wa rfl (Wn (CW.seq (Cr (Wm rfl (Ws (O.lenS rfl U26) (Wm rfl (Wn (CW.block (CW.loop (fun (i : Nat) => i ≤ l.length) (fun (i : Nat) => [(0, (kSl kRC).is l), (5, (kSl kRC).is l), (6, kN6.is (l.length : Int)), (7, kN6.is (i : Int))]) (fun (i : Nat) => []) (fun (i : Nat) => l.length - i) 0 (by omega) (Imp.cons rfl (Imp.cons rfl (Imp.cons rfl (Imp.consLe rfl (is_eq (y := (0 : Int)) (by rfl)) Imp.nil)))) (OImp.refl _) ?_))))))))))
 intro i hi
 refine Cr (Ws (O.lt rfl rfl) (Wn (CW.seq ?_)))
 refine CW.condD rfl (fun h_t8 => ?_) (fun h_t8 => ?_)
 ·
  refine CW.skip (QE.next (CW.seq (CW.block (Cr (Ws (O.ix i rfl rfl U26 ty31 rfl (v := (l.getD i (0, 0))) (gd (0, 0) (by omega))) (Ws (O.ldP rfl ty31) (WP.al .n z31_pr_C_C_ fun b1 => WP.t .n (O.stW (l := kRC) (u := (l.getD i (0, 0))) 0 rfl rfl rfl ty31 rfl Lr) (Wr (Ws (O.fa rfl fld31_1 rfl) (Ws (O.ld rfl (mem_at 0 rfl) (Lens.snd Li) ty29 rfl) (Ws (O.fn fn57 (evs.l rfl (kC_Z (by exact (hv _ (getD_mem (0, 0) (by omega))).2)) evs.nil) (c_zint_Sign ((l.getD i (0, 0)).2))) (Ws (O.le rfl rfl) (Wn ?_)))))))))))))
  refine CW.condD rfl (fun h => absurd h (by have h1 := (hv _ (getD_mem (0, 0) (show i < l.length by omega))).1; have := Int.sign_eq_one_of_pos h1; omega)) (fun h_t14 => ?_)
  refine CW.skip (QE.blkN (QE.next (CW.region (Ws (O.add rfl rfl (c := ((i : Int) + 1)) (w64 (by omega))) (Wm rfl (WP.nil ?_))))))
  exact QE.round (i + 1) (by omega) (by omega) (Imp.cons rfl (Imp.cons rfl (Imp.cons rfl (Imp.consLe rfl (is_eq (y := (((i + 1) : Nat) : Int)) (by rfl)) Imp.nil)))) (OImp.sub (List.nil_sublist _))
 ·
  refine CW.exit (QE.thenE (QE.thenE (QE.blkH (QE.next (Cr (Wa rfl (Wn (CW.ret ?_))))))))
  exact QE.done (.inl rfl) rfl (ResOk.t rfl ResOk.nil) (OImp.sub (List.nil_sublist _)) ⟨rfl, rfl⟩
theorem c_rat_two (n : Nat) (p q r : Rat) (fid : FuncId) (caps : List VP) (hok : FnOk Tryz.prog fid) (hF : Fn Tryz.prog fid caps (kRC.is (rq r))) (hp : RZ n p) (hq : RZ n q) (hn : n ≤ 68719476736) : Fn Tryz.prog 205 [kRC.is (rq p), kRC.is (rq q), VP.clo fid caps] (VP.tup [kRC.is (rq r), kN6.is 0]) := by
 refine Con.enter Tryz.func205 rfl rfl fun m w => ?_
 have hv2 : ∀ x, x ∈ [rq p, rq q] → 0 < x.2 ∧ Sm x.2 := by intro x hx; rcases List.mem_cons.1 hx with rfl | hx; exact ⟨rq_den_pos p, hp.b.sm (by omega)⟩; rcases List.mem_cons.1 hx with rfl | hx; exact ⟨rq_den_pos q, hq.b.sm (by omega)⟩; cases hx
 refine Cr (WP.bx .n rfl fun b1 => WP.bx .n rfl fun b2 => WP.al .n z31_pr_C_C_ fun b3 => Wa rfl (Wn (CW.seq (Cr (Ws (O.ld rfl (mem_at 2 rfl) Li ty31 rfl) (Ws (O.ld rfl (mem_at 1 rfl) Li ty31 rfl) (Ws (O.bs U26 el31_pr_C_C_ (evl.c rfl (evl.c rfl evl.n)) rfl (by decide)) (Ws (O.fn fn121 (evs.c rfl evs.nil) (c_rat_valid [rq p, rq q] hv2)) (Wa rfl (Wr (Wm rfl (Ws (O.ne rfl rfl) (Wn ?_)))))))))))))
 refine CW.condD rfl (fun h => absurd h (fun h => h rfl)) (fun h_t14 => ?_)
 refine CW.skip (QE.next (Cr (Wm rfl (Ws (O.clo rfl hok evs.nil hF) (WP.t .n (O.stW (l := kRC) (u := rq r) 0 rfl rfl rfl ty31 rfl Lr) (Wa rfl (Wn (CW.ret ?_))))))))
 exact QE.done (.inl rfl) rfl (ResOk.c rfl (mem_at 0 rfl) ty31 (ResOk.t rfl ResOk.nil)) (OImp.sub (List.nil_sublist _)) ⟨rfl, rfl⟩
theorem c_rat_Mul1 (n : Nat) (p q : Rat) (hp : RZ n p) (hq : RZ n q) (hn : n ≤ 68719476736) : Fn Tryz.prog 258 [VP.pim kRC (rq p), VP.pim kRC (rq q)] (kRC.is (rq (p * q))) := by
 refine Con.enter Tryz.func258 rfl rfl fun m w => Cr (WP.al .n z31_pr_C_C_ fun b1 => Wn (CW.seq ?_))
 refine CW.drawM (Γ := [.fr (VP.pim kC ((rq p).1)), .fr (kC.is ((rq p).1)), .fr (VP.pim kC ((rq q).1)), .fr (kC.is ((rq q).1)), .fr (kC.is (((rq p).1) * ((rq q).1))), .fr (VP.pim kC ((rq p).2)), .fr (kC.is ((rq p).2)), .fr (VP.pim kC ((rq q).2)), .fr (kC.is ((rq q).2)), .fr (kC.is (((rq p).2) * ((rq q).2))), .fr (kRC.is (rmk (((rq p).1) * ((rq q).1)) (((rq p).2) * ((rq q).2))))]) (of_ rfl (fun N => O.faP rfl fld31_0 (Lens.fst Li) rfl) (of_ rfl (fun N => O.ldP rfl ty29) (of_ rfl (fun N => O.faP rfl fld31_0 (Lens.fst Li) rfl) (of_ rfl (fun N => O.ldP rfl ty29) (of_ rfl (fun N => O.fn fn122 (evs.l rfl (kC_Z (hp.a.sm (by omega))) (evs.l rfl (kC_Z (hq.a.sm (by omega))) evs.nil)) (c_zint_Mul ((rq p).1) ((rq q).1))) (of_ rfl (fun N => O.faP rfl fld31_1 (Lens.snd Li) rfl) (of_ rfl (fun N => O.ldP rfl ty29) (of_ rfl (fun N => O.faP rfl fld31_1 (Lens.snd Li) rfl) (of_ rfl (fun N => O.ldP rfl ty29) (of_ rfl (fun N => O.fn fn122 (evs.l rfl (kC_Z (hp.b.sm (by omega))) (evs.l rfl (kC_Z (hq.b.sm (by omega))) evs.nil)) (c_zint_Mul ((rq p).2) ((rq q).2))) (of_ rfl (fun N => O.fn fn136 (evs.l rfl (kC_Z ((hp.a.mul hq.a).sm (by omega))) (evs.l rfl (kC_Z ((hp.b.mul hq.b).sm (by omega))) evs.nil)) (c_rat_made (((rq p).1) * ((rq q).1)) (((rq p).2) * ((rq q).2)) (by exact Int.mul_ne_zero (rq_den_ne p) (rq_den_ne q)))) oz))))))))))) (fun σ1 => ?_)
 refine WP.t .n (O.stW (l := kRC) (u := rmk (((rq p).1) * ((rq q).1)) (((rq p).2) * ((rq q).2))) 0 rfl rfl rfl ty31 rfl Lr) (Wn (CW.ret (ST.obtold 0 rfl (OB.box_eq (y := (rq (p * q))) (rq_mul p q)) ?_)))
 exact QE.done (.inl rfl) rfl (ResOk.c rfl (mem_at 0 rfl) ty31 ResOk.nil) (OImp.sub (List.nil_sublist _)) ⟨rfl, rfl⟩
theorem c_rat_Mul (n : Nat) (p q : Rat) (hp : RZ n p) (hq : RZ n q) (hn : n ≤ 68719476736) : Fn Tryz.prog 221 [kRC.is (rq p), kRC.is (rq q)] (VP.tup [kRC.is (rq (p * q)), kN6.is 0]) := by
 refine Con.enter Tryz.func221 rfl rfl fun m w => Cr (WP.bx .n rfl fun b1 => WP.bx .n rfl fun b2 => WP.al .n z31_pr_C_C_ fun b3 => Wa rfl (Wr (Ws (O.ld rfl (mem_at 2 rfl) Li ty31 rfl) (Ws (O.ld rfl (mem_at 1 rfl) Li ty31 rfl) (ST.freezeb 2 rfl (kp 0 rfl (kp 1 rfl (.hit (i := 2) rfl (kp 3 rfl (kp 4 rfl (kp 5 rfl (kp 6 rfl (kp 7 rfl .nil)))))))) (ST.freezeb 1 rfl (kp 0 rfl (kp 1 rfl (kp 2 rfl (.hit (i := 3) rfl (kp 4 rfl (kp 5 rfl (kp 6 rfl (kp 7 rfl .nil)))))))) (Ws (O.mkf (evs.c rfl (evs.c rfl evs.nil))) (Ws (O.fn fn205 (evs.c rfl (evs.c rfl (evs.c rfl evs.nil))) (c_rat_two n p q (p * q) 258 [VP.pim kRC (rq p), VP.pim kRC (rq q)] fn258 (c_rat_Mul1 n p q hp hq hn) hp hq hn)) (Ws (O.ext rfl rfl) (Ws (O.ext rfl rfl) (WP.t .n (O.stW (l := kRC) (u := rq (p * q)) 0 rfl rfl rfl ty31 rfl Lr) (Wa rfl (Wn (CW.ret ?_))))))))))))))
 exact QE.done (.inl rfl) rfl (ResOk.c rfl (mem_at 0 rfl) ty31 (ResOk.t rfl ResOk.nil)) (OImp.sub (List.nil_sublist _)) ⟨rfl, rfl⟩
theorem c_rat_Add1 (n : Nat) (p q : Rat) (hp : RZ n p) (hq : RZ n q) (hn : n ≤ 68719476736) : Fn Tryz.prog 206 [VP.pim kRC (rq p), VP.pim kRC (rq q)] (kRC.is (rq (p + q))) := by
 refine Con.enter Tryz.func206 rfl rfl fun m w => Cr (WP.al .n z31_pr_C_C_ fun b1 => Wn (CW.seq ?_))
 refine CW.drawM (Γ := [.fr (VP.pim kC ((rq p).1)), .fr (kC.is ((rq p).1)), .fr (VP.pim kC ((rq q).2)), .fr (kC.is ((rq q).2)), .fr (kC.is (((rq p).1) * ((rq q).2))), .fr (VP.pim kC ((rq q).1)), .fr (kC.is ((rq q).1)), .fr (VP.pim kC ((rq p).2)), .fr (kC.is ((rq p).2)), .fr (kC.is (((rq q).1) * ((rq p).2))), .fr (kC.is ((((rq p).1) * ((rq q).2)) + (((rq q).1) * ((rq p).2)))), .fr (VP.pim kC ((rq p).2)), .fr (kC.is ((rq p).2)), .fr (VP.pim kC ((rq q).2)), .fr (kC.is ((rq q).2)), .fr (kC.is (((rq p).2) * ((rq q).2))), .fr (kRC.is (rmk ((((rq p).1) * ((rq q).2)) + (((rq q).1) * ((rq p).2))) (((rq p).2) * ((rq q).2))))]) (of_ rfl (fun N => O.faP rfl fld31_0 (Lens.fst Li) rfl) (of_ rfl (fun N => O.ldP rfl ty29) (of_ rfl (fun N => O.faP rfl fld31_1 (Lens.snd Li) rfl) (of_ rfl (fun N => O.ldP rfl ty29) (of_ rfl (fun N => O.fn fn122 (evs.l rfl (kC_Z (hp.a.sm (by omega))) (evs.l rfl (kC_Z (hq.b.sm (by omega))) evs.nil)) (c_zint_Mul ((rq p).1) ((rq q).2))) (of_ rfl (fun N => O.faP rfl fld31_0 (Lens.fst Li) rfl) (of_ rfl (fun N => O.ldP rfl ty29) (of_ rfl (fun N => O.faP rfl fld31_1 (Lens.snd Li) rfl) (of_ rfl (fun N => O.ldP rfl ty29) (of_ rfl (fun N => O.fn fn122 (evs.l rfl (kC_Z (hq.a.sm (by omega))) (evs.l rfl (kC_Z (hp.b.sm (by omega))) evs.nil)) (c_zint_Mul ((rq q).1) ((rq p).2))) (of_ rfl (fun N => O.fn fn189 (evs.l rfl (kC_Z ((hp.a.mul hq.b).sm (by omega))) (evs.l rfl (kC_Z ((hq.a.mul hp.b).sm (by omega))) evs.nil)) (c_zint_Add (((rq p).1) * ((rq q).2)) (((rq q).1) * ((rq p).2)))) (of_ rfl (fun N => O.faP rfl fld31_1 (Lens.snd Li) rfl) (of_ rfl (fun N => O.ldP rfl ty29) (of_ rfl (fun N => O.faP rfl fld31_1 (Lens.snd Li) rfl) (of_ rfl (fun N => O.ldP rfl ty29) (of_ rfl (fun N => O.fn fn122 (evs.l rfl (kC_Z (hp.b.sm (by omega))) (evs.l rfl (kC_Z (hq.b.sm (by omega))) evs.nil)) (c_zint_Mul ((rq p).2) ((rq q).2))) (of_ rfl (fun N => O.fn fn136 (evs.l rfl (kC_Z (((hp.a.mul hq.b).add (hq.a.mul hp.b)).sm (by omega))) (evs.l rfl (kC_Z ((hp.b.mul hq.b).sm (by omega))) evs.nil)) (c_rat_made ((((rq p).1) * ((rq q).2)) + (((rq q).1) * ((rq p).2))) (((rq p).2) * ((rq q).2)) (by exact Int.mul_ne_zero (rq_den_ne p) (rq_den_ne q)))) oz))))))))))))))))) (fun σ1 => ?_)
 refine WP.t .n (O.stW (l := kRC) (u := rmk ((((rq p).1) * ((rq q).2)) + (((rq q).1) * ((rq p).2))) (((rq p).2) * ((rq q).2))) 0 rfl rfl rfl ty31 rfl Lr) (Wn (CW.ret (ST.obtold 0 rfl (OB.box_eq (y := (rq (p + q))) (rq_add p q)) ?_)))
 exact QE.done (.inl rfl) rfl (ResOk.c rfl (mem_at 0 rfl) ty31 ResOk.nil) (OImp.sub (List.nil_sublist _)) ⟨rfl, rfl⟩
theorem c_rat_Add (n : Nat) (p q : Rat) (hp : RZ n p) (hq : RZ n q) (hn : n ≤ 68719476736) : Fn Tryz.prog 135 [kRC.is (rq p), kRC.is (rq q)] (VP.tup [kRC.is (rq (p + q)), kN6.is 0]) := by
 refine Con.enter Tryz.func135 rfl rfl fun m w => Cr (WP.bx .n rfl fun b1 => WP.bx .n rfl fun b2 => WP.al .n z31_pr_C_C_ fun b3 => Wa rfl (Wr (Ws (O.ld rfl (mem_at 2 rfl) Li ty31 rfl) (Ws (O.ld rfl (mem_at 1 rfl) Li ty31 rfl) (ST.freezeb 2 rfl (kp 0 rfl (kp 1 rfl (.hit (i := 2) rfl (kp 3 rfl (kp 4 rfl (kp 5 rfl (kp 6 rfl (kp 7 rfl .nil)))))))) (ST.freezeb 1 rfl (kp 0 rfl (kp 1 rfl (kp 2 rfl (.hit (i := 3) rfl (kp 4 rfl (kp 5 rfl (kp 6 rfl (kp 7 rfl .nil)))))))) (Ws (O.mkf (evs.c rfl (evs.c rfl evs.nil))) (Ws (O.fn fn205 (evs.c rfl (evs.c rfl (evs.c rfl evs.nil))) (c_rat_two n p q (p + q) 206 [VP.pim kRC (rq p), VP.pim kRC (rq q)] fn206 (c_rat_Add1 n p q hp hq hn) hp hq hn)) (Ws (O.ext rfl rfl) (Ws (O.ext rfl rfl) (WP.t .n (O.stW (l := kRC) (u := rq (p + q)) 0 rfl rfl rfl ty31 rfl Lr) (Wa rfl (Wn (CW.ret ?_))))))))))))))
 exact QE.done (.inl rfl) rfl (ResOk.c rfl (mem_at 0 rfl) ty31 (ResOk.t rfl ResOk.nil)) (OImp.sub (List.nil_sublist _)) ⟨rfl, rfl⟩
theorem c_rat_Of (z : Int) : Fn Tryz.prog 67 [kZ.is z] (kRC.is (rq (z : Rat))) := by
 refine Con.enter Tryz.func67 rfl rfl fun m w => Cr (WP.bx .n rfl fun b1 => WP.al .n z31_pr_C_C_ fun b2 => Wr (Ws (O.ld rfl (mem_at 1 rfl) Li ty29 rfl) (Ws (O.fn fn132 (evs.c rfl evs.nil) (c_zint_Form z)) (Ws (O.fn fn71 (evs.l rfl (i64_int (by omega)) evs.nil) (c_zint_Of 1)) (Ws (O.bld lit31_pr_C_C_ rfl (evp.c rfl (evp.c rfl evp.n)) (.cons rfl (Lens.fst Li) (.cons rfl (Lens.snd Li) (.nil _)))) (WP.t .n (O.stW (l := kRC) (u := (z, 1)) 0 rfl rfl rfl ty31 rfl Lr) (Wn (CW.ret (ST.obtold 0 rfl (OB.box_eq (y := (rq (z : Rat))) (rq_int z).symm) ?_)))))))))
 exact QE.done (.inl rfl) rfl (ResOk.c rfl (mem_at 0 rfl) ty31 ResOk.nil) (OImp.sub (List.nil_sublist _)) ⟨rfl, rfl⟩
end Fw
/- Plain facts: Gram-Schmidt data as triangles of numbers; what the program makes of them. -/
set_option linter.unusedVariables false
set_option linter.unusedSimpArgs false
set_option exponentiation.threshold 400
namespace Fw
open Go
theorem copy_all {α : Type} {ys xs : List α} (h : ys.length = xs.length) : ys.take (min ys.length xs.length) ++ xs.drop (min ys.length xs.length) = ys := by
  rw [h, Nat.min_self, ← h, List.take_length, h, List.drop_length, List.append_nil]
abbrev Fi := Nat → Nat → Int
def triR (n : Nat) (f : Fi) (x : Nat) : List Int := (List.range x).map (f x)
def tri (n : Nat) (f : Fi) : List (List Int) := (List.range n).map (triR n f)
theorem tri_len (n f) : (tri n f).length = n := by simp [tri]
theorem tri_row {n f x} (h : x < n) : (tri n f).getD x [] = triR n f x := by
  rw [gde _ [] (by rw [tri_len]; exact h)]; simp [tri]
theorem tri_rlen {n f x} (h : x < n) : ((tri n f).getD x []).length = x := by rw [tri_row h]; simp [triR]
theorem tri_at {n f x k} (h : x < n) (hk : k < x) : ((tri n f).getD x [])[k]? = some (f x k) := by rw [tri_row h]; simp [triR, hk]
theorem tri_get {n f x k} (h : x < n) (hk : k < x) : ((tri n f).getD x []).getD k 0 = f x k := by rw [List.getD_eq_getElem?_getD, tri_at h hk]; rfl
theorem tri_at2 {n f x k} {q : Int} (h : x < n) (hk : k < x) (e : f x k = q) : ((tri n f).getD x [])[k]? = some q := by rw [← e]; exact tri_at h hk
theorem Sz.fdiv {n : Nat} {x y : Int} (h : Sz n x) (hy : 0 < y) : Sz n (x.fdiv y) := by
  refine h.le ?_
  have h1 : (1 : Int) ≤ y := hy
  rw [Int.fdiv_eq_ediv_of_nonneg _ (by omega)]
  exact Int.natAbs_ediv_le_natAbs x y
theorem tri_congr {n} {f g : Fi} (h : ∀ x k, x < n → k < x → f x k = g x k) : tri n f = tri n g :=
  List.map_congr_left fun x hx => List.map_congr_left fun k hk => h x k (List.mem_range.1 hx) (List.mem_range.1 hk)
def updI (f : Fi) (i k : Nat) (q : Int) : Fi := fun a b => if a = i ∧ b = k then q else f a b
theorem tri_set {n f i k} (q : Int) (h : i < n) : (tri n f).set i (((tri n f).getD i []).set k q) = tri n (updI f i k q) := by
  apply List.ext_getElem
  · simp [tri]
  · intro a h1 h2
    rw [List.getElem_set]
    split
    · rename_i e
      subst e
      rw [tri_row h]
      apply List.ext_getElem
      · simp [tri, triR]
      · intro b h3 h4
        simp only [tri, triR, List.getElem_map, List.getElem_range, List.getElem_set, updI]
        by_cases e : k = b
        · subst e; rw [if_pos rfl, if_pos ⟨trivial, rfl⟩]
        · rw [if_neg e, if_neg (fun x => e x.2.symm)]
    · rename_i e
      simp only [tri, triR, List.getElem_map, List.getElem_range]
      apply List.map_congr_left
      intro b hb
      show f a b = (if a = i ∧ b = k then q else f a b)
      rw [if_neg (fun h : a = i ∧ b = k => e h.1.symm)]
def eF (G : Fi) : Fi := fun x k => uE G k x k
theorem gLs_tri (G n) : gLs G n = tri n (eF G) := rfl
def addF (G : Fi) (i j : Nat) (q : Int) (c : Nat) : Fi := fun x k => if x = i ∧ k = j then uE G j i j + q * uD G (j + 1) else if x = i ∧ k < c then uE G k i k + q * uE G k j k else uE G k x k
theorem addF_0 (G i j q) : updI (eF G) i j (uE G j i j + q * uD G (j + 1)) = addF G i j q 0 := by
  funext x k; unfold updI addF eF; simp
theorem addF_at {G i j q c} (h : c < j) : addF G i j q c i c = uE G c i c := by
  unfold addF; simp [show c ≠ j by omega]
theorem addF_s {G i j q c} (h : c < j) : updI (addF G i j q c) i c (uE G c i c + q * uE G c j c) = addF G i j q (c + 1) := by
  funext x k; unfold updI addF
  by_cases h1 : x = i
  · subst h1
    by_cases h2 : k = c
    · subst h2; simp [show k ≠ j by omega]
    · simp [h2, Nat.lt_succ_iff_lt_or_eq]
  · simp [h1]
theorem addF_end {G : Fi} {n i j : Nat} {q : Int} (hs : SymG G) (hp : PosU G n) (hij : j < i) (hi : i < n) : tri n (addF G i j q j) = gLs (rowI G i j q) n := by
  rw [gLs_tri]
  refine tri_congr fun x k hx hk => ?_
  unfold addF eF
  by_cases h1 : x = i
  · subst h1
    by_cases h2 : k = j
    · subst h2; simp [rowI_at hs hp hij hi]
    · by_cases h3 : k < j
      · simp [h2, h3, rowI_lo hs hp hij hi h3]
      · simp [h2, h3, rowI_hi hs hp hij (show j < k by omega) (show k ≤ x by omega) hx]
  · simp [h1, rowI_ne hs hp hij h1 (show k ≤ x by omega) hx]
theorem gDs_row {G : Fi} {n i j : Nat} {q : Int} (hs : SymG G) (hp : PosU G n) (hij : j < i) : gDs (rowI G i j q) n = gDs G n :=
  List.map_congr_left fun k hk => rowI_uD hs hp hij (by have := List.mem_range.1 hk; omega)
def swF1 (G : Fi) (p c : Nat) : Fi := fun x k => if x = p ∧ k < c then uE G k (p + 1) k else if x = p + 1 ∧ k < c then uE G k p k else uE G k x k
def swA (G : Fi) (p x : Nat) : Int := (uD G p * uE G (p + 1) x (p + 1) + uE G p (p + 1) p * uE G p x p).fdiv (uD G (p + 1))
def swB (G : Fi) (p x : Nat) : Int := (uD G (p + 2) * uE G p x p + -(uE G p (p + 1) p) * uE G (p + 1) x (p + 1)).fdiv (uD G (p + 1))
def swD (G : Fi) (p : Nat) : Int := (uD G p * uD G (p + 2) + uE G p (p + 1) p * uE G p (p + 1) p).fdiv (uD G (p + 1))
def swF2 (G : Fi) (p c : Nat) : Fi := fun x k => if p + 1 < x ∧ x < c ∧ k = p then swA G p x else if p + 1 < x ∧ x < c ∧ k = p + 1 then swB G p x else swF1 G p p x k
theorem swF1_0 (G p) : eF G = swF1 G p 0 := by
  funext x k; unfold eF swF1; simp
theorem swF1_a {G p c} : swF1 G p c (p + 1) c = uE G c (p + 1) c := by unfold swF1; simp
theorem swF1_b {G p c} : swF1 G p c p c = uE G c p c := by unfold swF1; simp
theorem swF1_s {G p c} : updI (updI (swF1 G p c) p c (uE G c (p + 1) c)) (p + 1) c (uE G c p c) = swF1 G p (c + 1) := by
  funext x k; unfold updI swF1
  by_cases h1 : x = p + 1
  · subst h1
    by_cases h2 : k = c
    · subst h2; simp
    · simp [h2, Nat.lt_succ_iff_lt_or_eq]
  · by_cases h3 : x = p
    · subst h3
      by_cases h2 : k = c
      · subst h2; simp
      · simp [h2, Nat.lt_succ_iff_lt_or_eq]
    · simp [h1, h3]
theorem swF2_0 (G p) : swF1 G p p = swF2 G p (p + 2) := by
  funext x k; unfold swF2
  have h1 : ¬ (p + 1 < x ∧ x < p + 2) := by omega
  have h2 : ¬ (p + 1 < x ∧ x < p + 2 ∧ k = p) := fun h => h1 ⟨h.1, h.2.1⟩
  have h3 : ¬ (p + 1 < x ∧ x < p + 2 ∧ k = p + 1) := fun h => h1 ⟨h.1, h.2.1⟩
  rw [if_neg h2, if_neg h3]
theorem swF2_s {G p c} (hc : p + 1 < c) : updI (updI (swF2 G p c) c p (swA G p c)) c (p + 1) (swB G p c) = swF2 G p (c + 1) := by
  funext x k; unfold updI swF2
  by_cases h1 : x = c
  · subst h1
    by_cases h2 : k = p + 1
    · subst h2; simp [hc]
    · by_cases h3 : k = p
      · subst h3; simp [hc]
      · simp [h2, h3]
  · simp [h1, Nat.lt_succ_iff_lt_or_eq]
section
variable {G : Fi} {n p : Nat}
theorem uD_ne (hp : PosU G n) {k} (hk : k ≤ n) : uD G k ≠ 0 := by have := hp.uD hk; omega
theorem swD_eq (hs : SymG G) (hp : PosU G n) (h : p + 1 < n) : swD G p = uD (swpI G p) (p + 1) := fdiv_ex (uD_ne hp (by omega)) (swpI_D hs hp h).symm
theorem swA_eq (hs : SymG G) (hp : PosU G n) (h : p + 1 < n) {x} (hx : p + 1 < x) : swA G p x = uE (swpI G p) p x p := fdiv_ex (uD_ne hp (by omega)) (swpI_1 hs hp h hx).symm
theorem swB_eq (hs : SymG G) (hp : PosU G n) (h : p + 1 < n) {x} (hx : p + 1 < x) : swB G p x = uE (swpI G p) (p + 1) x (p + 1) := fdiv_ex (uD_ne hp (by omega)) (by rw [swpI_2 hs hp h hx]; rw [Int.neg_mul]; omega)
theorem swF2_end (hs : SymG G) (hp : PosU G n) (h : p + 1 < n) : tri n (swF2 G p n) = gLs (swpI G p) n := by
  rw [gLs_tri]
  refine tri_congr fun x k hx hk => ?_
  unfold eF swF2 swF1
  rcases Nat.lt_trichotomy x p with h1 | h1 | h1
  · simp [show ¬ p + 1 < x by omega, show x ≠ p by omega, show x ≠ p + 1 by omega, swpI_low hs hp h (show k ≤ x by omega) h1]
  · subst h1
    have e := swpI_lo hs hp h (x := x) hk (by omega)
    rw [sg_p] at e
    simp [hk, e, show ¬ x + 1 < x by omega]
  · by_cases h2 : x = p + 1
    · subst h2
      by_cases h3 : k < p
      · have e := swpI_lo hs hp h (x := p + 1) h3 (by omega)
        rw [sg_q] at e
        simp [h3, e]
      · have h4 : k = p := by omega
        subst h4
        simp [swpI_mid hs hp h]
    · have h3 : p + 1 < x := by omega
      by_cases h4 : k = p
      · subst h4; simp [h3, hx, swA_eq hs hp h h3]
      · by_cases h5 : k = p + 1
        · subst h5; simp [h3, hx, swB_eq hs hp h h3]
        · by_cases h6 : k < p
          · have e := swpI_lo hs hp h (x := x) h6 (by omega)
            rw [sg_ne (by omega) (by omega)] at e
            simp [h4, h5, show x ≠ p by omega, h2, e]
          · simp [h4, h5, show x ≠ p by omega, h2, swpI_hi hs hp h (show p + 2 ≤ k by omega) (show k ≤ x by omega) hx]
theorem gDs_swp (hs : SymG G) (hp : PosU G n) (h : p + 1 < n) : (gDs G n).set (p + 1) (swD G p) = gDs (swpI G p) n := by
  apply List.ext_getElem
  · simp [gDs]
  · intro k h1 h2
    simp only [gDs, List.getElem_set, List.getElem_map, List.getElem_range]
    by_cases e : p + 1 = k
    · subst e; rw [if_pos rfl, swD_eq hs hp h]
    · rw [if_neg e, swpI_uD hs hp h (by simp [gDs] at h2; omega) (fun x => e x.symm)]
theorem frM_rmk (hs : SymG G) (hp : PosU G n) {i j} (hij : j < i) (hi : i < n) : rmk (uE G j i j) (uD G (j + 1)) = rq (frM G i j) := by
  rw [frM_eq hs (hp.le (by omega)) (by omega), rmk_rq (uD_ne hp (by omega))]; rfl
theorem frS_rmk (hs : SymG G) (hp : PosU G n) {i} (hi : i < n) : rmk (uD G (i + 1)) (uD G i) = rq (frS G i) := by
  unfold frS
  rw [gsE_frac hs (hp.le (by omega)) (Nat.le_refl i) (Nat.le_refl i), rmk_rq (uD_ne hp (by omega))]; rfl
theorem gDs_Sm {B : Nat} (h : ∀ k, k ≤ n → Sz B (uD G k)) (hB : B ≤ 549755813888) : ∀ x, x ∈ gDs G n → Sm x := fun x hx => by
  obtain ⟨k, hk, rfl⟩ := List.mem_map.1 hx
  exact (h k (by have := List.mem_range.1 hk; omega)).sm hB
theorem gLs_Sm {B : Nat} (h : ∀ x k, x < n → k < x → Sz B (uE G k x k)) (hB : B ≤ 549755813888) : ∀ r, r ∈ gLs G n → ∀ x, x ∈ r → Sm x := fun r hr x hx => by
  obtain ⟨i, hi, rfl⟩ := List.mem_map.1 hr
  obtain ⟨k, hk, rfl⟩ := List.mem_map.1 hx
  exact (h i k (List.mem_range.1 hi) (List.mem_range.1 hk)).sm hB
end
end Fw
/- Gram-Schmidt data of the program under row operations. -/
set_option linter.unusedVariables false
set_option linter.unusedSimpArgs false
set_option exponentiation.threshold 400
set_option maxRecDepth 20000
set_option maxHeartbeats 1000000
namespace Fw
open Go Go.Proofs
theorem c_gso_good (G : Nat → Nat → Int) (n B : Nat) (h0 : 0 < n) (h12 : n ≤ 12) (hP : PosU G n) (hD : ∀ k, k ≤ n → Sz B (uD G k)) (hB : B ≤ 68719476736) : Fn Tryz.prog 133 [kGso.is (gDs G n, gLs G n)] (kBool.is true) := by
 refine Con.enter Tryz.func133 rfl rfl fun m w => ?_
 have hn0 : 0 < n := h0
 have hLl : (gLs G n).length = n := gLs_len G n
 have hDl : (gDs G n).length = n + 1 := gDs_len G n
 refine Cr (WP.bx .n rfl fun b1 => Wa rfl (Wn (CW.seq (CW.seq ?_))))
 refine CW.drawM (Γ := [.fr (VP.pt b1 1), .fr (kMC.is (gLs G n)), .fr (kN6.is ((gLs G n).length : Int)), .fr (kBool.is false), .fr (kBool.is false), .fr (VP.pt b1 0), .fr (kVC.is (gDs G n)), .fr (kN6.is ((gDs G n).length : Int)), .fr (VP.pt b1 1), .fr (kMC.is (gLs G n)), .fr (kN6.is ((gLs G n).length : Int)), .fr (kN6.is (((gLs G n).length : Int) + 1)), .fr (kBool.is false), .fr (kBool.is false), .fr (kBool.is false), .fr (VP.pt b1 0), .fr (kVC.is (gDs G n)), .fr (VP.pim kC (uD G 0)), .fr (kC.is (uD G 0)), .fr (kC.is 1), .fr (kN6.is (((uD G 0) - 1).sign)), .fr (kBool.is false), .fr (kBool.is false)]) (of_ rfl (fun N => O.fa rfl fld25_1 rfl) (of_ rfl (fun N => O.ld (p := kMC.is (gLs G n)) rfl (mem_app N (mem_at 0 rfl)) (Lens.snd Li) ty22 rfl) (of_ rfl (fun N => O.lenS rfl U22) (of_ rfl (fun N => OpOk.le (O.eq rfl rfl) (is_eq (decide_eq_false (by rw [gLs_len]; omega)))) (om rfl rfl (oc (Ob.f rfl (.g rfl rfl) fun N => (O.fa rfl fld25_0 rfl)) (oc (Ob.f rfl (.g rfl rfl) fun N => (O.ld (p := kVC.is (gDs G n)) rfl (mem_app N (mem_at 0 rfl)) (Lens.fst Li) ty23 rfl)) (oc (Ob.f rfl (.g rfl rfl) fun N => (O.lenS rfl U23)) (oc (Ob.f rfl (.g rfl rfl) fun N => (O.fa rfl fld25_1 rfl)) (oc (Ob.f rfl (.g rfl rfl) fun N => (O.ld (p := kMC.is (gLs G n)) rfl (mem_app N (mem_at 0 rfl)) (Lens.snd Li) ty22 rfl)) (oc (Ob.f rfl (.g rfl rfl) fun N => (O.lenS rfl U22)) (oc (Ob.f rfl (.g rfl rfl) fun N => (O.add rfl rfl (c := (((gLs G n).length : Int) + 1)) (w64 (by omega)))) (oc (Ob.f rfl (.g rfl rfl) fun N => (OpOk.le (O.ne rfl rfl) (is_eq (decide_eq_false (by rw [gLs_len, gDs_len]; omega))))) (of_ rfl (fun N => O.pickF rfl rfl) (om rfl rfl (oc (Ob.f rfl (.g rfl rfl) fun N => (O.fa rfl fld25_0 rfl)) (oc (Ob.f rfl (.g rfl rfl) fun N => (O.ld (p := kVC.is (gDs G n)) rfl (mem_app N (mem_at 0 rfl)) (Lens.fst Li) ty23 rfl)) (oc (Ob.f rfl (.g rfl rfl) fun N => (O.ix 0 rfl rfl U23 ty29 rfl (v := (uD G 0)) (gDs_at (by omega)))) (oc (Ob.f rfl (.g rfl rfl) fun N => (O.ldP rfl ty29)) (oc (Ob.f rfl (.g rfl rfl) fun N => (O.fn fn71 (evs.l rfl (i64_int (by omega)) evs.nil) (c_zint_Of 1))) (oc (Ob.f rfl (.g rfl rfl) fun N => (O.fn fn119 (evs.l rfl (kC_Z ((hD 0 (by omega)).sm (by omega))) (evs.l rfl (kC_Z ((hD 0 (by omega)).sm (by omega))) evs.nil)) (c_zint_Compare (uD G 0) 1))) (oc (Ob.f rfl (.g rfl rfl) fun N => (OpOk.le (O.ne rfl rfl) (is_eq (decide_eq_false (by show ¬ ((uD G 0 - 1).sign ≠ 0); simp [uD]))))) (of_ rfl (fun N => O.pickF rfl rfl) oz))))))))))))))))))))))) (fun σ1 => ?_)
 refine Wn (CW.condF rfl (CW.skip (QE.next (CW.seq (Cr (Ws (O.fa rfl fld25_1 rfl) (Ws (O.ld (p := kMC.is (gLs G n)) rfl (mem_at 0 rfl) (Lens.snd Li) ty22 rfl) (Ws (O.lenS rfl U22) (Wm rfl (Wn (CW.block (ST.told 30 rfl (is_eq (y := (n : Int)) (by rw [gLs_len])) (CW.loop (fun (i : Nat) => i ≤ n) (fun (i : Nat) => [(1, VP.pt b1 0), (29, kMC.is (gLs G n)), (30, kN6.is (n : Int)), (31, kN6.is (i : Int))]) (fun (i : Nat) => [OB.box b1 25 kGso (gDs G n, gLs G n)]) (fun (i : Nat) => n - i) 0 (by omega) (Imp.cons rfl (Imp.cons rfl (Imp.cons rfl (Imp.consLe rfl (is_eq (y := (0 : Int)) (by rfl)) Imp.nil)))) (OImp.refl _) ?_)))))))))))))
 intro i hi
 refine Cr (Ws (O.lt rfl rfl) (Wn (CW.seq ?_)))
 refine CW.condD rfl (fun h_t32 => ?_) (fun h_t32 => ?_)
 ·
  refine CW.skip (QE.next (CW.seq (CW.block (Cr (Wm rfl (Ws (O.ix i rfl rfl U22 ty23 rfl (v := ((gLs G n).getD i [])) (gd [] (by omega))) (Ws (O.ldP rfl ty23) (Wa rfl (Wa rfl (Wr (Wm rfl (Ws (O.lenS rfl U23) (Wm rfl (Ws (O.ne rfl rfl) (Wm rfl ?_)))))))))))))))
  refine WP.splitD 40 rfl (fun h => absurd h (fun h => h (by rw [gLs_get (by omega), gRow_len]))) (fun h_t40 => ?_)
  refine WP.s (.g rfl rfl) (O.fa rfl fld25_0 rfl) (WP.s (.g rfl rfl) (O.ld (p := kVC.is (gDs G n)) rfl (mem_at 0 rfl) (Lens.fst Li) ty23 rfl) (WP.s (.g rfl rfl) (O.mv rfl) (WP.s (.g rfl rfl) (O.add rfl rfl (c := ((i : Int) + 1)) (w64 (by omega))) (WP.s (.g rfl rfl) (O.ix ((((i : Int) + 1)).toNat) rfl rfl U23 ty29 (by omega) (v := (uD G (i + 1))) (gDs_at (by omega))) (WP.s (.g rfl rfl) (O.ldP rfl ty29) (WP.s (.g rfl rfl) (O.fn fn57 (evs.l rfl (kC_Z ((hD (i + 1) (by omega)).sm (by omega))) evs.nil) (c_zint_Sign (uD G (i + 1)))) (WP.s (.g rfl rfl) (O.le rfl rfl) (Ws (O.pickF rfl rfl) (Wn ?_)))))))))
  refine CW.condD rfl (fun h => absurd h (by have h1 := hP i (by omega); have h2 := Int.sign_eq_one_of_pos h1; have h3 : uD G (i + 1) = uE G i i i := rfl; rw [h3]; omega)) (fun h_t49 => ?_)
  refine CW.skip (QE.blkN (QE.next (CW.region (Ws (O.add rfl rfl (c := ((i : Int) + 1)) (w64 (by omega))) (Wm rfl (WP.nil ?_))))))
  exact QE.round (i + 1) (by omega) (by omega) (Imp.cons rfl (Imp.cons rfl (Imp.cons rfl (Imp.consLe rfl (is_eq (y := (((i + 1) : Nat) : Int)) (by rfl)) Imp.nil)))) (OImp.refl _)
 ·
  refine CW.exit (QE.thenE (QE.thenE (QE.blkH (QE.next (Cr (Wa rfl (Wn (CW.ret ?_))))))))
  exact QE.done (.inl rfl) rfl (ResOk.t rfl ResOk.nil) (OImp.sub (List.nil_sublist _)) ⟨rfl, rfl⟩
theorem c_gso_Star (G : Nat → Nat → Int) (n B : Nat) (h0 : 0 < n) (h12 : n ≤ 12) (hP : PosU G n) (hD : ∀ k, k ≤ n → Sz B (uD G k)) (hB : B ≤ 68719476736) (i : Nat) (hi : i < n) (hs : SymG G) : Fn Tryz.prog 68 [kGso.is (gDs G n, gLs G n), kN6.is (i : Int)] (VP.tup [kRC.is (rq (frS G i)), kN6.is 0]) := by
 refine Con.enter Tryz.func68 rfl rfl fun m w => Cr (WP.bx .n rfl fun b1 => WP.al .n z31_pr_C_C_ fun b2 => Wa rfl (Wn (CW.seq (Cr (Ws (O.ld (p := kGso.is (gDs G n, gLs G n)) rfl (mem_at 1 rfl) Li ty25 rfl) (Ws (O.fn fn133 (evs.c rfl evs.nil) (c_gso_good G n B (by assumption) (by assumption) (by assumption) (by assumption) (by assumption))) (Ws (O.not (a := true) rfl) (Wn (CW.condF rfl (CW.skip (QE.next (CW.seq (Cr (Wm rfl (Ws (O.lt rfl rfl) ?_)))))))))))))))
 refine Wm rfl ?_
 refine WP.splitD 12 rfl (fun h => absurd h (by omega)) (fun h_t12 => ?_)
 refine WP.s (.g rfl rfl) (O.mv rfl) (WP.s (.g rfl rfl) (O.fa rfl fld25_1 rfl) (WP.s (.g rfl rfl) (O.ld (p := kMC.is (gLs G n)) rfl (mem_at 1 rfl) (Lens.snd Li) ty22 rfl) (WP.s (.g rfl rfl) (O.lenS rfl U22) (WP.s (.g rfl rfl) (O.ge rfl rfl) (Ws (O.pickF rfl rfl) (Wn ?_))))))
 refine CW.condD rfl (fun h => absurd h (by rw [gLs_len]; omega)) (fun h_t18 => ?_)
 refine CW.skip (QE.next (CW.seq ?_))
 refine CW.drawM (Γ := [.fr (VP.pt b1 0), .fr (kVC.is (gDs G n)), .fr (kN6.is (i : Int)), .fr (kN6.is ((i : Int) + 1)), .fr (VP.pim kC (uD G (i + 1))), .fr (kC.is (uD G (i + 1))), .fr (VP.pt b1 0), .fr (kVC.is (gDs G n)), .fr (kN6.is (i : Int)), .fr (VP.pim kC (uD G i)), .fr (kC.is (uD G i)), .fr (VP.tup [kRC.is (rq (frS G i)), kN6.is 0]), .fr (kRC.is (rq (frS G i))), .fr (kN6.is 0)]) (of_ rfl (fun N => O.fa rfl fld25_0 rfl) (of_ rfl (fun N => O.ld (p := kVC.is (gDs G n)) rfl (mem_app N (mem_at 1 rfl)) (Lens.fst Li) ty23 rfl) (om rfl rfl (of_ rfl (fun N => O.add rfl rfl (c := ((i : Int) + 1)) (w64 (by omega))) (of_ rfl (fun N => O.ix ((((i : Int) + 1)).toNat) rfl rfl U23 ty29 (by omega) (v := (uD G (i + 1))) (gDs_at (by omega))) (of_ rfl (fun N => O.ldP rfl ty29) (of_ rfl (fun N => O.fa rfl fld25_0 rfl) (of_ rfl (fun N => O.ld (p := kVC.is (gDs G n)) rfl (mem_app N (mem_at 1 rfl)) (Lens.fst Li) ty23 rfl) (om rfl rfl (of_ rfl (fun N => O.ix i rfl rfl U23 ty29 rfl (v := (uD G i)) (gDs_at (by omega))) (of_ rfl (fun N => O.ldP rfl ty29) (of_ rfl (fun N => OpOk.le (O.fn fn134 (evs.l rfl (kC_Z ((hD (i + 1) (by omega)).sm (by omega))) (evs.l rfl (kC_Z ((hD i (by omega)).sm (by omega))) evs.nil)) (c_rat_Make (uD G (i + 1)) (uD G i))) (tup_le (tup_cons (is_eq (by rw [if_neg (uD_ne hP (by omega)), frS_rmk hs hP hi])) (tup_cons (is_eq (if_neg (uD_ne hP (by omega)))) tup_nil)))) (of_ rfl (fun N => O.ext rfl rfl) (of_ rfl (fun N => O.ext rfl rfl) oz)))))))))))))) (fun σ1 => ?_)
 refine WP.t .n (O.stW (l := kRC) (u := rq (frS G i)) 0 rfl rfl rfl ty31 rfl Lr) (Wa rfl (Wn (CW.ret ?_)))
 exact QE.done (.inl rfl) rfl (ResOk.c rfl (mem_at 0 rfl) ty31 (ResOk.t rfl ResOk.nil)) (OImp.sub (List.nil_sublist _)) ⟨rfl, rfl⟩
theorem c_mat_eachII (fid : FuncId) (caps : List VP) (F : Int → Int) (l : List Int) (hok : FnOk Tryz.prog fid) (hF : ∀ x, x ∈ l → Fn Tryz.prog fid (kZ.is x :: caps) (kC.is (F x))) : Fn Tryz.prog 219 [kVZ.is l, VP.clo fid caps] (kVC.is (l.map F)) := by
 refine Con.enter Tryz.func219 rfl rfl fun m w => ST.fact (i := 0) rfl sl_len fun hB => Cr (Wa rfl (Wr (Wm rfl (Ws (O.lenS rfl U23) (WP.mk0 l.length .n rfl rfl rfl (by omega) U23 el29_C z29_C fun v1 => Wa rfl (Wn (CW.seq (Cr (Wm rfl (Ws (O.lenS rfl U23) (Wm rfl (Wn (CW.block ?_)))))))))))))
 refine CW.loop2 (fun (i : Nat) (v : Value) => i ≤ l.length) (fun (i : Nat) (v : Value) => [(0, kVZ.is l), (1, VP.clo fid caps), (5, VP.ex v), (11, kVZ.is l), (12, kN6.is (l.length : Int)), (13, kN6.is (i : Int))]) (fun (i : Nat) (v : Value) => [OB.row v 29 kC ((l.take i).map F)]) (fun (i : Nat) (v : Value) => l.length - i) 0 v1 (by omega) (Imp.c4 rfl rfl rfl rfl (Imp.cons rfl (Imp.consLe rfl (is_eq (y := (0 : Int)) (by rfl)) Imp.nil))) (OImp.os (OS.keepLe (OB.row_eq (by rfl)) OS.nil)) ?_
 intro i v hi
 refine Cr (Ws (O.lt rfl rfl) (Wn (CW.seq ?_)))
 refine CW.condD rfl (fun h_t14 => ?_) (fun h_t14 => ?_)
 ·
  refine CW.skip (QE.next (CW.seq (CW.block (Cr (Ws (O.ix i rfl rfl U23 ty29 rfl (v := (l.getD i 0)) (gd 0 (by omega))) (Ws (O.ldP rfl ty29) (WP.al .n z29_Z fun b2 => WP.t .n (O.stW (l := kZ) (u := (l.getD i 0)) 0 rfl rfl rfl ty29 rfl Lr) (Wn (CW.region (Wm rfl (Wm rfl (Ws (O.ld rfl (mem_at 0 rfl) Li ty29 rfl) (Ws (O.clo rfl hok (evs.c rfl evs.nil) (hF _ (getD_mem 0 (by omega)))) (Ws (O.bs U23 el29_C (evl.c rfl evl.n) rfl (by decide)) (WP.ap 1 .n rfl rfl rfl Lr U23 el29_C (by simp; omega) fun v3 => Wa rfl (WP.nil (QE.blkN (QE.next (CW.region ?_)))))))))))))))))))
  refine Ws (O.add rfl rfl (c := ((i : Int) + 1)) (w64 (by omega))) (Wm rfl (WP.nil (ST.obtold 1 rfl (OB.row_eq (ys := ((l.take (i + 1)).map F)) (map_take_app (by omega))) ?_)))
  exact QE.round2 (i + 1) v3 (by omega) (by omega) (Imp.c4 rfl rfl rfl rfl (Imp.cons rfl (Imp.consLe rfl (is_eq (y := (((i + 1) : Nat) : Int)) (by rfl)) Imp.nil))) (OImp.os (OS.skip (OS.keep OS.nil)))
 ·
  refine CW.exit (QE.thenE (QE.thenE (QE.blkH (QE.next (Cr (Wm rfl (Wa rfl (Wn (CW.ret (ST.freeze 0 rfl (kp 0 rfl (kp 1 rfl (.hit (i := 4) rfl (.hit (i := 5) rfl (kp 11 rfl (kp 12 rfl (kp 13 rfl (kp 14 rfl (.hit (i := 24) rfl .nil))))))))) (ST.told 4 rfl (is_eq (y := (l.map F)) (by rw [List.take_of_length_le (by omega)])) ?_)))))))))))
  exact QE.done (.inl rfl) rfl (ResOk.t rfl ResOk.nil) (OImp.sub (List.nil_sublist _)) ⟨rfl, rfl⟩
theorem c_mat_eachIIo (fid : FuncId) (caps : List VP) (F : Int → Int) (l : List Int) (hok : FnOk Tryz.prog fid) (hF : ∀ x, x ∈ l → Fn Tryz.prog fid (kZ.is x :: caps) (kC.is (F x))) : Con Tryz.prog 219 [kVZ.is l, VP.clo fid caps] [] (fun p Lo => ∃ (v : Value), p = VP.ex v ∧ Lo = [OB.row v 29 kC (l.map F)] ∧ True) := by
 refine Con.enter Tryz.func219 rfl rfl fun m w => ST.fact (i := 0) rfl sl_len fun hB => Cr (Wa rfl (Wr (Wm rfl (Ws (O.lenS rfl U23) (WP.mk0 l.length .n rfl rfl rfl (by omega) U23 el29_C z29_C fun v1 => Wa rfl (Wn (CW.seq (Cr (Wm rfl (Ws (O.lenS rfl U23) (Wm rfl (Wn (CW.block ?_)))))))))))))
 refine CW.loop2 (fun (i : Nat) (v : Value) => i ≤ l.length) (fun (i : Nat) (v : Value) => [(0, kVZ.is l), (1, VP.clo fid caps), (5, VP.ex v), (11, kVZ.is l), (12, kN6.is (l.length : Int)), (13, kN6.is (i : Int))]) (fun (i : Nat) (v : Value) => [OB.row v 29 kC ((l.take i).map F)]) (fun (i : Nat) (v : Value) => l.length - i) 0 v1 (by omega) (Imp.c4 rfl rfl rfl rfl (Imp.cons rfl (Imp.consLe rfl (is_eq (y := (0 : Int)) (by rfl)) Imp.nil))) (OImp.os (OS.keepLe (OB.row_eq (by rfl)) OS.nil)) ?_
 intro i v hi
 refine Cr (Ws (O.lt rfl rfl) (Wn (CW.seq ?_)))
 refine CW.condD rfl (fun h_t14 => ?_) (fun h_t14 => ?_)
 ·
  refine CW.skip (QE.next (CW.seq (CW.block (Cr (Ws (O.ix i rfl rfl U23 ty29 rfl (v := (l.getD i 0)) (gd 0 (by omega))) (Ws (O.ldP rfl ty29) (WP.al .n z29_Z fun b2 => WP.t .n (O.stW (l := kZ) (u := (l.getD i 0)) 0 rfl rfl rfl ty29 rfl Lr) (Wn (CW.region (Wm rfl (Wm rfl (Ws (O.ld rfl (mem_at 0 rfl) Li ty29 rfl) (Ws (O.clo rfl hok (evs.c rfl evs.nil) (hF _ (getD_mem 0 (by omega)))) (Ws (O.bs U23 el29_C (evl.c rfl evl.n) rfl (by decide)) (WP.ap 1 .n rfl rfl rfl Lr U23 el29_C (by simp; omega) fun v3 => Wa rfl (WP.nil (QE.blkN (QE.next (CW.region ?_)))))))))))))))))))
  refine Ws (O.add rfl rfl (c := ((i : Int) + 1)) (w64 (by omega))) (Wm rfl (WP.nil (ST.obtold 1 rfl (OB.row_eq (ys := ((l.take (i + 1)).map F)) (map_take_app (by omega))) ?_)))
  exact QE.round2 (i + 1) v3 (by omega) (by omega) (Imp.c4 rfl rfl rfl rfl (Imp.cons rfl (Imp.consLe rfl (is_eq (y := (((i + 1) : Nat) : Int)) (by rfl)) Imp.nil))) (OImp.os (OS.skip (OS.keep OS.nil)))
 ·
  refine CW.exit (QE.thenE (QE.thenE (QE.blkH (QE.next (Cr (Wm rfl (Wa rfl (Wn (CW.ret (ST.obtold 0 rfl (OB.row_eq (ys := (l.map F)) (by rw [List.take_of_length_le (by omega)])) ?_))))))))))
  exact QE.done (.inl rfl) rfl (ResOk.t rfl ResOk.nil) (OImp.refl _) ⟨v, rfl, rfl, trivial⟩
theorem c_mat_Form1 (l : List Int) (hl : ∀ x, x ∈ l → Sm x) : Fn Tryz.prog 268 [kVZ.is l] (kVC.is l) := by
 refine Con.enter Tryz.func268 rfl rfl fun m w => Cr (Wa rfl (Wr (Wm rfl (Ws (O.fn fn219 (evs.c rfl (evs.l rfl clo_fv evs.nil)) (c_mat_eachII 132 [] (fun x => x) l fn132 (fun x _ => c_zint_Form x))) (Wa rfl (Wn (CW.ret (ST.told 2 rfl (is_eq (y := l) (by simp)) ?_))))))))
 exact QE.done (.inl rfl) rfl (ResOk.t rfl ResOk.nil) (OImp.sub (List.nil_sublist _)) ⟨rfl, rfl⟩
theorem c_mat_Form1o (l : List Int) : Con Tryz.prog 268 [kVZ.is l] [] (fun p Lo => ∃ (v : Value), p = VP.ex v ∧ Lo = [OB.row v 29 kC l] ∧ True) := by
 refine Con.enter Tryz.func268 rfl rfl fun m w => Cr (Wa rfl (Wr (Wm rfl (WP.call (Li := []) (L := []) .n fn219 (evs.c rfl (evs.l rfl clo_fv evs.nil)) (c_mat_eachIIo 132 [] (fun x => x) l fn132 (fun x _ => c_zint_Form x)) fun p_ Lo_ hp_ => ?_))))
 obtain ⟨v1, rfl, rfl, hx_t4⟩ := hp_
 refine Wa rfl (Wn (CW.ret (ST.obtold 0 rfl (OB.row_eq (ys := l) (by simp)) ?_)))
 exact QE.done (.inl rfl) rfl (ResOk.t rfl ResOk.nil) (OImp.refl _) ⟨v1, rfl, rfl, trivial⟩
theorem c_mat_eachRRo (fid : FuncId) (caps : List VP) (F : List Int → List Int) (l : List (List Int)) (hok : FnOk Tryz.prog fid) (hF : ∀ x, x ∈ l → Con Tryz.prog fid (kVZ.is x :: caps) [] (fun p Lo => ∃ u : Value, p = VP.ex u ∧ Lo = [OB.row u 29 kC (F x)] ∧ True)) : Con Tryz.prog 223 [kMZ.is l, VP.clo fid caps] [] (fun p Lo => ∃ (v : Value) (vs : List Value), p = VP.ex v ∧ Lo = [OB.row v 23 kVal vs, OB.fam vs 29 kC (l.map F)] ∧ vs.length = l.length) := by
 refine Con.enter Tryz.func223 rfl rfl fun m w => ST.fact (i := 0) rfl sl_len fun hB => Cr (Wa rfl (Wr (Wm rfl (Ws (O.lenS rfl U22) (WP.mk0 l.length .n rfl rfl rfl (by omega) U22 el23_val z23_val fun v1 => Wa rfl (Wn (CW.seq (Cr (Wm rfl (Ws (O.lenS rfl U22) (Wm rfl (Wn (CW.block ?_)))))))))))))
 refine ST.famnil 29 kC (CW.loop3 (fun (i : Nat) (v : Value) (vs : List Value) => i ≤ l.length ∧ vs.length = i) (fun (i : Nat) (v : Value) (vs : List Value) => [(0, kMZ.is l), (1, VP.clo fid caps), (5, VP.ex v), (11, kMZ.is l), (12, kN6.is (l.length : Int)), (13, kN6.is (i : Int))]) (fun (i : Nat) (v : Value) (vs : List Value) => [OB.fam vs 29 kC ((l.take i).map F), OB.row v 23 kVal vs]) (fun (i : Nat) (v : Value) (vs : List Value) => l.length - i) 0 v1 [] ⟨Nat.zero_le _, rfl⟩ (Imp.c4 rfl rfl rfl rfl (Imp.cons rfl (Imp.consLe rfl (is_eq (y := (0 : Int)) (by rfl)) Imp.nil))) (OImp.os (OS.keepLe (OB.fam_eq (by rfl) (by rfl)) (OS.keep OS.nil))) ?_)
 intro i v vs ⟨hi, hvs⟩
 refine Cr (Ws (O.lt rfl rfl) (Wn (CW.seq ?_)))
 refine CW.condD rfl (fun h_t14 => ?_) (fun h_t14 => ?_)
 ·
  refine CW.skip (QE.next (CW.seq (CW.block (Cr (Ws (O.ix i rfl rfl U22 ty23 rfl (v := (l.getD i [])) (gd [] (by omega))) (Ws (O.ldP rfl ty23) (Wa rfl (Wn (CW.region (Wm rfl (Wm rfl (Wm rfl (WP.callc (Li := []) (L := [OB.fam vs 29 kC ((l.take i).map F), OB.row v 23 kVal vs]) .n rfl hok (evs.c rfl evs.nil) (hF _ (getD_mem [] (by omega))) fun p_ Lo_ hp_ => ?_)))))))))))))
  obtain ⟨v2, rfl, rfl, _⟩ := hp_
  refine ST.rowcell 0 rfl fun hcell_ => Ws (O.bs U22 el23_val (evl.l rfl (ex_val (by assumption)) evl.n) rfl (by decide)) (WP.ap 2 .n rfl rfl rfl Lr U22 el23_val (by simp; omega) fun v3 => Wa rfl (WP.nil (QE.blkN (QE.next (CW.region (Ws (O.add rfl rfl (c := ((i : Int) + 1)) (w64 (by omega))) (Wm rfl (WP.nil (ST.oimp (fam_push 0 rfl) (ST.obtold 0 rfl (OB.fam_eq rfl (yss := ((l.take (i + 1)).map F)) (map_take_app (by omega))) ?_))))))))))
  exact QE.round3 (i + 1) v3 (vs ++ [v2]) (by omega) ⟨by omega, by simp [hvs]⟩ (Imp.c4 rfl rfl rfl rfl (Imp.cons rfl (Imp.consLe rfl (is_eq (y := (((i + 1) : Nat) : Int)) (by rfl)) Imp.nil))) (OImp.refl _)
 ·
  refine CW.exit (QE.thenE (QE.thenE (QE.blkH (QE.next (Cr (Wm rfl (Wa rfl (Wn (CW.ret ?_)))))))))
  have hvl : vs.length = l.length := by omega
  refine ST.obtold 0 rfl (OB.fam_eq rfl (yss := (l.map F)) (by rw [List.take_of_length_le (by omega)])) (ST.oimp (OImp.ix [1, 0] (by decide) rfl) ?_)
  exact QE.done (.inl rfl) rfl (ResOk.t rfl ResOk.nil) (OImp.refl _) ⟨v, vs, rfl, rfl, hvl⟩
theorem c_mat_Form (l : List (List Int)) (hl : ∀ r, r ∈ l → ∀ x, x ∈ r → Sm x) : Fn Tryz.prog 248 [kMZ.is l] (kMC.is l) := by
 refine Con.enter Tryz.func248 rfl rfl fun m w => Cr (Wa rfl (Wr (Wm rfl (Ws (O.fn fn223 (evs.c rfl (evs.l rfl clo_fv evs.nil)) (c_mat_eachRR 268 [] (fun x => x) l fn268 (fun r hr => c_mat_Form1 r (hl r hr)))) (Wa rfl (Wn (CW.ret (ST.told 2 rfl (is_eq (y := l) (by simp)) ?_))))))))
 exact QE.done (.inl rfl) rfl (ResOk.t rfl ResOk.nil) (OImp.sub (List.nil_sublist _)) ⟨rfl, rfl⟩
theorem c_mat_Formo (l : List (List Int)) : Con Tryz.prog 248 [kMZ.is l] [] (fun p Lo => ∃ (v : Value) (vs : List Value), p = VP.ex v ∧ Lo = [OB.row v 23 kVal vs, OB.fam vs 29 kC l] ∧ vs.length = l.length) := by
 refine Con.enter Tryz.func248 rfl rfl fun m w => Cr (Wa rfl (Wr (Wm rfl (WP.call (Li := []) (L := []) .n fn223 (evs.c rfl (evs.l rfl clo_fv evs.nil)) (c_mat_eachRRo 268 [] (fun x => x) l fn268 (fun r _ => c_mat_Form1o r)) fun p_ Lo_ hp_ => ?_))))
 obtain ⟨v1, vs_t4, rfl, rfl, hx_t4⟩ := hp_
 refine Wa rfl (Wn (CW.ret (ST.obtold 1 rfl (OB.fam_eq rfl (yss := l) (by simp)) ?_)))
 exact QE.done (.inl rfl) rfl (ResOk.t rfl ResOk.nil) (OImp.refl _) ⟨v1, vs_t4, rfl, rfl, hx_t4⟩
end Fw
/- AddRow and Swap. -/
set_option linter.unusedVariables false
set_option linter.unusedSimpArgs false
set_option exponentiation.threshold 400
set_option maxRecDepth 20000
set_option maxHeartbeats 1000000
namespace Fw
open Go Go.Proofs
theorem c_gso_fresh (D : List Int) (Ls : List (List Int)) (hD : ∀ x, x ∈ D → Sm x) (hL : ∀ r, r ∈ Ls → ∀ x, x ∈ r → Sm x) (hDl : D.length ≤ 100) (hLl : Ls.length ≤ 100) : Con Tryz.prog 216 [kGso.is (D, Ls)] [] (fun p Lo => ∃ (vD : Value) (vL : Value) (vs : List Value), p = (kPair kVal kVal).is (vD, vL) ∧ Lo = [OB.row vD 29 kC D, OB.row vL 23 kVal vs, OB.fam vs 29 kC Ls] ∧ vs.length = Ls.length) := by
 refine Con.enter Tryz.func216 rfl rfl fun m w => Cr (WP.bx .n rfl fun b1 => WP.al .n z25_pr_val_val_ fun b2 => Wn ?_)
 refine CW.cut3 (fun (pb : Nat) (vD : Value) (vL : Value) => True) (fun (pb : Nat) (vD : Value) (vL : Value) => [(1, VP.pt b1 0), (2, VP.pt b2 0), (3, VP.pt pb 0)]) (fun (pb : Nat) (vD : Value) (vL : Value) => [OB.row vL 23 kVal (List.replicate Ls.length nilV), OB.row vD 29 kC (List.replicate D.length 0), OB.box pb 25 (kPair kVal kVal) (vD, vL), OB.box b2 25 (kPair kVal kVal) (nilV, nilV), OB.box b1 25 kGso (D, Ls)]) ?_ ?_
 ·
  refine CW.any (by kernel_rfl) (DA.first 0 rfl (by kernel_rfl) (by kernel_rfl) (by kernel_rfl) (fun _ _ _ _ _ h => h) .n (OV.fa rfl fld25_0 rfl) (DA.first 4 rfl (by kernel_rfl) (by kernel_rfl) (by kernel_rfl) (fun _ _ _ _ _ h => h) .n (OV.fa rfl fld25_1 rfl) ?_))
  refine DAg 1 [5, 9] ⟨?_, ⟨?_, ⟨?_, trivial⟩⟩⟩
  ·
   refine DO.sn rfl .n (O.ld (p := kVC.is D) rfl (mem_at 1 rfl) (Lens.fst Li) ty23 rfl) (DA.first 2 rfl (by kernel_rfl) (by kernel_rfl) (by kernel_rfl) (fun _ _ _ _ _ h => h) .n (OV.lenS rfl U23) ?_)
   refine DAg 3 [5, 9] ⟨?_, ⟨?_, ⟨?_, trivial⟩⟩⟩
   ·
    refine DO.w rfl (WP.mk D.length .n rfl rfl rfl (by omega) U23 el29_C z29_C fun v3 => WP.nil (DO.nx ?_))
    refine DAg 5 [9] ⟨?_, ⟨?_, trivial⟩⟩
    ·
     refine DO.sn rfl .n (O.ld (p := kMC.is Ls) rfl (mem_at 2 rfl) (Lens.snd Li) ty22 rfl) (DA.first 6 rfl (by kernel_rfl) (by kernel_rfl) (by kernel_rfl) (fun _ _ _ _ _ h => h) .n (OV.lenS rfl U22) ?_)
     refine DAg 7 [9] ⟨?_, ⟨?_, trivial⟩⟩
     ·
      refine DO.w rfl (WP.mk Ls.length .n rfl rfl rfl (by omega) U22 el23_val z23_val fun v4 => WP.nil (DO.nx (ST.rowcell 1 rfl fun hcell_ => ST.rowcell 0 rfl fun hcell_ => DA.first 8 rfl (by kernel_rfl) (by kernel_rfl) (by kernel_rfl) (fun _ _ _ _ _ h => h) .n (OV.bld lit25_pr_val_val_ rfl (evp.l rfl (ex_val (by assumption)) (evp.l rfl (ex_val (by assumption)) evp.n)) (.cons rfl (Lens.fst Li) (.cons rfl (Lens.snd Li) (.nil _)))) (DA1 9 (DO.w rfl (WP.al .n z25_pr_val_val_ fun b5 => WP.nil (DO.nx (DA1 10 (DO.tn rfl .n (O.stW (l := (kPair kVal kVal)) (u := (v3, v4)) 0 rfl rfl rfl ty25 rfl Lr) (DA.nil (by kernel_rfl) (ST.oimp (OImp.ix [1, 2, 0, 3, 4] (by decide) rfl) ?_)))))))))))
      exact QE.mid3 b5 v3 v4 trivial (Imp.cons rfl (Imp.cons rfl (Imp.cons rfl Imp.nil))) (OImp.os (OS.keepLe (OB.row_eq (by rfl)) (OS.keep (OS.keep (OS.keepLe (OB.box_eq (by rfl)) (OS.keep OS.nil))))))
     ·
      refine DO.w rfl (WP.al .n z25_pr_val_val_ fun b6 => WP.nil (DO.nx (DA1 7 (DO.w rfl (WP.mk Ls.length .n rfl rfl rfl (by omega) U22 el23_val z23_val fun v7 => WP.nil (DO.nx (ST.rowcell 2 rfl fun hcell_ => ST.rowcell 0 rfl fun hcell_ => DA.first 8 rfl (by kernel_rfl) (by kernel_rfl) (by kernel_rfl) (fun _ _ _ _ _ h => h) .n (OV.bld lit25_pr_val_val_ rfl (evp.l rfl (ex_val (by assumption)) (evp.l rfl (ex_val (by assumption)) evp.n)) (.cons rfl (Lens.fst Li) (.cons rfl (Lens.snd Li) (.nil _)))) (DA1 10 (DO.tn rfl .n (O.stW (l := (kPair kVal kVal)) (u := (v3, v7)) 1 rfl rfl rfl ty25 rfl Lr) (DA.nil (by kernel_rfl) (ST.oimp (OImp.ix [0, 2, 1, 3, 4] (by decide) rfl) ?_)))))))))))
      exact QE.mid3 b6 v3 v7 trivial (Imp.cons rfl (Imp.cons rfl (Imp.cons rfl Imp.nil))) (OImp.os (OS.keepLe (OB.row_eq (by rfl)) (OS.keep (OS.keep (OS.keepLe (OB.box_eq (by rfl)) (OS.keep OS.nil))))))
    ·
     refine DO.w rfl (WP.al .n z25_pr_val_val_ fun b8 => WP.nil (DO.nx (DA1 5 (DO.sn rfl .n (O.ld (p := kMC.is Ls) rfl (mem_at 3 rfl) (Lens.snd Li) ty22 rfl) (DA.first 6 rfl (by kernel_rfl) (by kernel_rfl) (by kernel_rfl) (fun _ _ _ _ _ h => h) .n (OV.lenS rfl U22) (DA1 7 (DO.w rfl (WP.mk Ls.length .n rfl rfl rfl (by omega) U22 el23_val z23_val fun v9 => WP.nil (DO.nx (ST.rowcell 2 rfl fun hcell_ => ST.rowcell 0 rfl fun hcell_ => DA.first 8 rfl (by kernel_rfl) (by kernel_rfl) (by kernel_rfl) (fun _ _ _ _ _ h => h) .n (OV.bld lit25_pr_val_val_ rfl (evp.l rfl (ex_val (by assumption)) (evp.l rfl (ex_val (by assumption)) evp.n)) (.cons rfl (Lens.fst Li) (.cons rfl (Lens.snd Li) (.nil _)))) (DA1 10 (DO.tn rfl .n (O.stW (l := (kPair kVal kVal)) (u := (v3, v9)) 1 rfl rfl rfl ty25 rfl Lr) (DA.nil (by kernel_rfl) (ST.oimp (OImp.ix [0, 2, 1, 3, 4] (by decide) rfl) ?_))))))))))))))
     exact QE.mid3 b8 v3 v9 trivial (Imp.cons rfl (Imp.cons rfl (Imp.cons rfl Imp.nil))) (OImp.os (OS.keepLe (OB.row_eq (by rfl)) (OS.keep (OS.keep (OS.keepLe (OB.box_eq (by rfl)) (OS.keep OS.nil))))))
   ·
    refine DO.sn rfl .n (O.ld (p := kMC.is Ls) rfl (mem_at 1 rfl) (Lens.snd Li) ty22 rfl) (DA.first 6 rfl (by kernel_rfl) (by kernel_rfl) (by kernel_rfl) (fun _ _ _ _ _ h => h) .n (OV.lenS rfl U22) ?_)
    refine DAg 3 [7, 9] ⟨?_, ⟨?_, ⟨?_, trivial⟩⟩⟩
    ·
     refine DO.w rfl (WP.mk D.length .n rfl rfl rfl (by omega) U23 el29_C z29_C fun v10 => WP.nil (DO.nx ?_))
     refine DAg 7 [9] ⟨?_, ⟨?_, trivial⟩⟩
     ·
      refine DO.w rfl (WP.mk Ls.length .n rfl rfl rfl (by omega) U22 el23_val z23_val fun v11 => WP.nil (DO.nx (ST.rowcell 1 rfl fun hcell_ => ST.rowcell 0 rfl fun hcell_ => DA.first 8 rfl (by kernel_rfl) (by kernel_rfl) (by kernel_rfl) (fun _ _ _ _ _ h => h) .n (OV.bld lit25_pr_val_val_ rfl (evp.l rfl (ex_val (by assumption)) (evp.l rfl (ex_val (by assumption)) evp.n)) (.cons rfl (Lens.fst Li) (.cons rfl (Lens.snd Li) (.nil _)))) (DA1 9 (DO.w rfl (WP.al .n z25_pr_val_val_ fun b12 => WP.nil (DO.nx (DA1 10 (DO.tn rfl .n (O.stW (l := (kPair kVal kVal)) (u := (v10, v11)) 0 rfl rfl rfl ty25 rfl Lr) (DA.nil (by kernel_rfl) (ST.oimp (OImp.ix [1, 2, 0, 3, 4] (by decide) rfl) ?_)))))))))))
      exact QE.mid3 b12 v10 v11 trivial (Imp.cons rfl (Imp.cons rfl (Imp.cons rfl Imp.nil))) (OImp.os (OS.keepLe (OB.row_eq (by rfl)) (OS.keep (OS.keep (OS.keepLe (OB.box_eq (by rfl)) (OS.keep OS.nil))))))
     ·
      refine DO.w rfl (WP.al .n z25_pr_val_val_ fun b13 => WP.nil (DO.nx (DA1 7 (DO.w rfl (WP.mk Ls.length .n rfl rfl rfl (by omega) U22 el23_val z23_val fun v14 => WP.nil (DO.nx (ST.rowcell 2 rfl fun hcell_ => ST.rowcell 0 rfl fun hcell_ => DA.first 8 rfl (by kernel_rfl) (by kernel_rfl) (by kernel_rfl) (fun _ _ _ _ _ h => h) .n (OV.bld lit25_pr_val_val_ rfl (evp.l rfl (ex_val (by assumption)) (evp.l rfl (ex_val (by assumption)) evp.n)) (.cons rfl (Lens.fst Li) (.cons rfl (Lens.snd Li) (.nil _)))) (DA1 10 (DO.tn rfl .n (O.stW (l := (kPair kVal kVal)) (u := (v10, v14)) 1 rfl rfl rfl ty25 rfl Lr) (DA.nil (by kernel_rfl) (ST.oimp (OImp.ix [0, 2, 1, 3, 4] (by decide) rfl) ?_)))))))))))
      exact QE.mid3 b13 v10 v14 trivial (Imp.cons rfl (Imp.cons rfl (Imp.cons rfl Imp.nil))) (OImp.os (OS.keepLe (OB.row_eq (by rfl)) (OS.keep (OS.keep (OS.keepLe (OB.box_eq (by rfl)) (OS.keep OS.nil))))))
    ·
     refine DO.w rfl (WP.mk Ls.length .n rfl rfl rfl (by omega) U22 el23_val z23_val fun v15 => WP.nil (DO.nx ?_))
     refine DAg 3 [9] ⟨?_, ⟨?_, trivial⟩⟩
     ·
      refine DO.w rfl (WP.mk D.length .n rfl rfl rfl (by omega) U23 el29_C z29_C fun v16 => WP.nil (DO.nx (ST.rowcell 0 rfl fun hcell_ => ST.rowcell 1 rfl fun hcell_ => DA.first 8 rfl (by kernel_rfl) (by kernel_rfl) (by kernel_rfl) (fun _ _ _ _ _ h => h) .n (OV.bld lit25_pr_val_val_ rfl (evp.l rfl (ex_val (by assumption)) (evp.l rfl (ex_val (by assumption)) evp.n)) (.cons rfl (Lens.fst Li) (.cons rfl (Lens.snd Li) (.nil _)))) (DA1 9 (DO.w rfl (WP.al .n z25_pr_val_val_ fun b17 => WP.nil (DO.nx (DA1 10 (DO.tn rfl .n (O.stW (l := (kPair kVal kVal)) (u := (v16, v15)) 0 rfl rfl rfl ty25 rfl Lr) (DA.nil (by kernel_rfl) (ST.oimp (OImp.ix [2, 1, 0, 3, 4] (by decide) rfl) ?_)))))))))))
      exact QE.mid3 b17 v16 v15 trivial (Imp.cons rfl (Imp.cons rfl (Imp.cons rfl Imp.nil))) (OImp.os (OS.keepLe (OB.row_eq (by rfl)) (OS.keep (OS.keep (OS.keepLe (OB.box_eq (by rfl)) (OS.keep OS.nil))))))
     ·
      refine DO.w rfl (WP.al .n z25_pr_val_val_ fun b18 => WP.nil (DO.nx (DA1 3 (DO.w rfl (WP.mk D.length .n rfl rfl rfl (by omega) U23 el29_C z29_C fun v19 => WP.nil (DO.nx (ST.rowcell 0 rfl fun hcell_ => ST.rowcell 2 rfl fun hcell_ => DA.first 8 rfl (by kernel_rfl) (by kernel_rfl) (by kernel_rfl) (fun _ _ _ _ _ h => h) .n (OV.bld lit25_pr_val_val_ rfl (evp.l rfl (ex_val (by assumption)) (evp.l rfl (ex_val (by assumption)) evp.n)) (.cons rfl (Lens.fst Li) (.cons rfl (Lens.snd Li) (.nil _)))) (DA1 10 (DO.tn rfl .n (O.stW (l := (kPair kVal kVal)) (u := (v19, v15)) 1 rfl rfl rfl ty25 rfl Lr) (DA.nil (by kernel_rfl) (ST.oimp (OImp.ix [2, 0, 1, 3, 4] (by decide) rfl) ?_)))))))))))
      exact QE.mid3 b18 v19 v15 trivial (Imp.cons rfl (Imp.cons rfl (Imp.cons rfl Imp.nil))) (OImp.os (OS.keepLe (OB.row_eq (by rfl)) (OS.keep (OS.keep (OS.keepLe (OB.box_eq (by rfl)) (OS.keep OS.nil))))))
    ·
     refine DO.w rfl (WP.al .n z25_pr_val_val_ fun b20 => WP.nil (DO.nx ?_))
     refine DAg 3 [7] ⟨?_, ⟨?_, trivial⟩⟩
     ·
      refine DO.w rfl (WP.mk D.length .n rfl rfl rfl (by omega) U23 el29_C z29_C fun v21 => WP.nil (DO.nx (DA1 7 (DO.w rfl (WP.mk Ls.length .n rfl rfl rfl (by omega) U22 el23_val z23_val fun v22 => WP.nil (DO.nx (ST.rowcell 1 rfl fun hcell_ => ST.rowcell 0 rfl fun hcell_ => DA.first 8 rfl (by kernel_rfl) (by kernel_rfl) (by kernel_rfl) (fun _ _ _ _ _ h => h) .n (OV.bld lit25_pr_val_val_ rfl (evp.l rfl (ex_val (by assumption)) (evp.l rfl (ex_val (by assumption)) evp.n)) (.cons rfl (Lens.fst Li) (.cons rfl (Lens.snd Li) (.nil _)))) (DA1 10 (DO.tn rfl .n (O.stW (l := (kPair kVal kVal)) (u := (v21, v22)) 2 rfl rfl rfl ty25 rfl Lr) (DA.nil (by kernel_rfl) (ST.oimp (OImp.ix [0, 1, 2, 3, 4] (by decide) rfl) ?_)))))))))))
      exact QE.mid3 b20 v21 v22 trivial (Imp.cons rfl (Imp.cons rfl (Imp.cons rfl Imp.nil))) (OImp.os (OS.keepLe (OB.row_eq (by rfl)) (OS.keep (OS.keep (OS.keepLe (OB.box_eq (by rfl)) (OS.keep OS.nil))))))
     ·
      refine DO.w rfl (WP.mk Ls.length .n rfl rfl rfl (by omega) U22 el23_val z23_val fun v23 => WP.nil (DO.nx (DA1 3 (DO.w rfl (WP.mk D.length .n rfl rfl rfl (by omega) U23 el29_C z29_C fun v24 => WP.nil (DO.nx (ST.rowcell 0 rfl fun hcell_ => ST.rowcell 1 rfl fun hcell_ => DA.first 8 rfl (by kernel_rfl) (by kernel_rfl) (by kernel_rfl) (fun _ _ _ _ _ h => h) .n (OV.bld lit25_pr_val_val_ rfl (evp.l rfl (ex_val (by assumption)) (evp.l rfl (ex_val (by assumption)) evp.n)) (.cons rfl (Lens.fst Li) (.cons rfl (Lens.snd Li) (.nil _)))) (DA1 10 (DO.tn rfl .n (O.stW (l := (kPair kVal kVal)) (u := (v24, v23)) 2 rfl rfl rfl ty25 rfl Lr) (DA.nil (by kernel_rfl) (ST.oimp (OImp.ix [1, 0, 2, 3, 4] (by decide) rfl) ?_)))))))))))
      exact QE.mid3 b20 v24 v23 trivial (Imp.cons rfl (Imp.cons rfl (Imp.cons rfl Imp.nil))) (OImp.os (OS.keepLe (OB.row_eq (by rfl)) (OS.keep (OS.keep (OS.keepLe (OB.box_eq (by rfl)) (OS.keep OS.nil))))))
   ·
    refine DO.w rfl (WP.al .n z25_pr_val_val_ fun b25 => WP.nil (DO.nx ?_))
    refine DAg 3 [5] ⟨?_, ⟨?_, trivial⟩⟩
    ·
     refine DO.w rfl (WP.mk D.length .n rfl rfl rfl (by omega) U23 el29_C z29_C fun v26 => WP.nil (DO.nx (DA1 5 (DO.sn rfl .n (O.ld (p := kMC.is Ls) rfl (mem_at 3 rfl) (Lens.snd Li) ty22 rfl) (DA.first 6 rfl (by kernel_rfl) (by kernel_rfl) (by kernel_rfl) (fun _ _ _ _ _ h => h) .n (OV.lenS rfl U22) (DA1 7 (DO.w rfl (WP.mk Ls.length .n rfl rfl rfl (by omega) U22 el23_val z23_val fun v27 => WP.nil (DO.nx (ST.rowcell 1 rfl fun hcell_ => ST.rowcell 0 rfl fun hcell_ => DA.first 8 rfl (by kernel_rfl) (by kernel_rfl) (by kernel_rfl) (fun _ _ _ _ _ h => h) .n (OV.bld lit25_pr_val_val_ rfl (evp.l rfl (ex_val (by assumption)) (evp.l rfl (ex_val (by assumption)) evp.n)) (.cons rfl (Lens.fst Li) (.cons rfl (Lens.snd Li) (.nil _)))) (DA1 10 (DO.tn rfl .n (O.stW (l := (kPair kVal kVal)) (u := (v26, v27)) 2 rfl rfl rfl ty25 rfl Lr) (DA.nil (by kernel_rfl) (ST.oimp (OImp.ix [0, 1, 2, 3, 4] (by decide) rfl) ?_))))))))))))))
     exact QE.mid3 b25 v26 v27 trivial (Imp.cons rfl (Imp.cons rfl (Imp.cons rfl Imp.nil))) (OImp.os (OS.keepLe (OB.row_eq (by rfl)) (OS.keep (OS.keep (OS.keepLe (OB.box_eq (by rfl)) (OS.keep OS.nil))))))
    ·
     refine DO.sn rfl .n (O.ld (p := kMC.is Ls) rfl (mem_at 2 rfl) (Lens.snd Li) ty22 rfl) (DA.first 6 rfl (by kernel_rfl) (by kernel_rfl) (by kernel_rfl) (fun _ _ _ _ _ h => h) .n (OV.lenS rfl U22) ?_)
     refine DAg 3 [7] ⟨?_, ⟨?_, trivial⟩⟩
     ·
      refine DO.w rfl (WP.mk D.length .n rfl rfl rfl (by omega) U23 el29_C z29_C fun v28 => WP.nil (DO.nx (DA1 7 (DO.w rfl (WP.mk Ls.length .n rfl rfl rfl (by omega) U22 el23_val z23_val fun v29 => WP.nil (DO.nx (ST.rowcell 1 rfl fun hcell_ => ST.rowcell 0 rfl fun hcell_ => DA.first 8 rfl (by kernel_rfl) (by kernel_rfl) (by kernel_rfl) (fun _ _ _ _ _ h => h) .n (OV.bld lit25_pr_val_val_ rfl (evp.l rfl (ex_val (by assumption)) (evp.l rfl (ex_val (by assumption)) evp.n)) (.cons rfl (Lens.fst Li) (.cons rfl (Lens.snd Li) (.nil _)))) (DA1 10 (DO.tn rfl .n (O.stW (l := (kPair kVal kVal)) (u := (v28, v29)) 2 rfl rfl rfl ty25 rfl Lr) (DA.nil (by kernel_rfl) (ST.oimp (OImp.ix [0, 1, 2, 3, 4] (by decide) rfl) ?_)))))))))))
      exact QE.mid3 b25 v28 v29 trivial (Imp.cons rfl (Imp.cons rfl (Imp.cons rfl Imp.nil))) (OImp.os (OS.keepLe (OB.row_eq (by rfl)) (OS.keep (OS.keep (OS.keepLe (OB.box_eq (by rfl)) (OS.keep OS.nil))))))
     ·
      refine DO.w rfl (WP.mk Ls.length .n rfl rfl rfl (by omega) U22 el23_val z23_val fun v30 => WP.nil (DO.nx (DA1 3 (DO.w rfl (WP.mk D.length .n rfl rfl rfl (by omega) U23 el29_C z29_C fun v31 => WP.nil (DO.nx (ST.rowcell 0 rfl fun hcell_ => ST.rowcell 1 rfl fun hcell_ => DA.first 8 rfl (by kernel_rfl) (by kernel_rfl) (by kernel_rfl) (fun _ _ _ _ _ h => h) .n (OV.bld lit25_pr_val_val_ rfl (evp.l rfl (ex_val (by assumption)) (evp.l rfl (ex_val (by assumption)) evp.n)) (.cons rfl (Lens.fst Li) (.cons rfl (Lens.snd Li) (.nil _)))) (DA1 10 (DO.tn rfl .n (O.stW (l := (kPair kVal kVal)) (u := (v31, v30)) 2 rfl rfl rfl ty25 rfl Lr) (DA.nil (by kernel_rfl) (ST.oimp (OImp.ix [1, 0, 2, 3, 4] (by decide) rfl) ?_)))))))))))
      exact QE.mid3 b25 v31 v30 trivial (Imp.cons rfl (Imp.cons rfl (Imp.cons rfl Imp.nil))) (OImp.os (OS.keepLe (OB.row_eq (by rfl)) (OS.keep (OS.keep (OS.keepLe (OB.box_eq (by rfl)) (OS.keep OS.nil))))))
  ·
   refine DO.sn rfl .n (O.ld (p := kMC.is Ls) rfl (mem_at 1 rfl) (Lens.snd Li) ty22 rfl) (DA.first 6 rfl (by kernel_rfl) (by kernel_rfl) (by kernel_rfl) (fun _ _ _ _ _ h => h) .n (OV.lenS rfl U22) ?_)
   refine DAg 1 [7, 9] ⟨?_, ⟨?_, ⟨?_, trivial⟩⟩⟩
   ·
    refine DO.sn rfl .n (O.ld (p := kVC.is D) rfl (mem_at 1 rfl) (Lens.fst Li) ty23 rfl) (DA.first 2 rfl (by kernel_rfl) (by kernel_rfl) (by kernel_rfl) (fun _ _ _ _ _ h => h) .n (OV.lenS rfl U23) ?_)
    refine DAg 3 [7, 9] ⟨?_, ⟨?_, ⟨?_, trivial⟩⟩⟩
    ·
     refine DO.w rfl (WP.mk D.length .n rfl rfl rfl (by omega) U23 el29_C z29_C fun v32 => WP.nil (DO.nx ?_))
     refine DAg 7 [9] ⟨?_, ⟨?_, trivial⟩⟩
     ·
      refine DO.w rfl (WP.mk Ls.length .n rfl rfl rfl (by omega) U22 el23_val z23_val fun v33 => WP.nil (DO.nx (ST.rowcell 1 rfl fun hcell_ => ST.rowcell 0 rfl fun hcell_ => DA.first 8 rfl (by kernel_rfl) (by kernel_rfl) (by kernel_rfl) (fun _ _ _ _ _ h => h) .n (OV.bld lit25_pr_val_val_ rfl (evp.l rfl (ex_val (by assumption)) (evp.l rfl (ex_val (by assumption)) evp.n)) (.cons rfl (Lens.fst Li) (.cons rfl (Lens.snd Li) (.nil _)))) (DA1 9 (DO.w rfl (WP.al .n z25_pr_val_val_ fun b34 => WP.nil (DO.nx (DA1 10 (DO.tn rfl .n (O.stW (l := (kPair kVal kVal)) (u := (v32, v33)) 0 rfl rfl rfl ty25 rfl Lr) (DA.nil (by kernel_rfl) (ST.oimp (OImp.ix [1, 2, 0, 3, 4] (by decide) rfl) ?_)))))))))))
      exact QE.mid3 b34 v32 v33 trivial (Imp.cons rfl (Imp.cons rfl (Imp.cons rfl Imp.nil))) (OImp.os (OS.keepLe (OB.row_eq (by rfl)) (OS.keep (OS.keep (OS.keepLe (OB.box_eq (by rfl)) (OS.keep OS.nil))))))
     ·
      refine DO.w rfl (WP.al .n z25_pr_val_val_ fun b35 => WP.nil (DO.nx (DA1 7 (DO.w rfl (WP.mk Ls.length .n rfl rfl rfl (by omega) U22 el23_val z23_val fun v36 => WP.nil (DO.nx (ST.rowcell 2 rfl fun hcell_ => ST.rowcell 0 rfl fun hcell_ => DA.first 8 rfl (by kernel_rfl) (by kernel_rfl) (by kernel_rfl) (fun _ _ _ _ _ h => h) .n (OV.bld lit25_pr_val_val_ rfl (evp.l rfl (ex_val (by assumption)) (evp.l rfl (ex_val (by assumption)) evp.n)) (.cons rfl (Lens.fst Li) (.cons rfl (Lens.snd Li) (.nil _)))) (DA1 10 (DO.tn rfl .n (O.stW (l := (kPair kVal kVal)) (u := (v32, v36)) 1 rfl rfl rfl ty25 rfl Lr) (DA.nil (by kernel_rfl) (ST.oimp (OImp.ix [0, 2, 1, 3, 4] (by decide) rfl) ?_)))))))))))
      exact QE.mid3 b35 v32 v36 trivial (Imp.cons rfl (Imp.cons rfl (Imp.cons rfl Imp.nil))) (OImp.os (OS.keepLe (OB.row_eq (by rfl)) (OS.keep (OS.keep (OS.keepLe (OB.box_eq (by rfl)) (OS.keep OS.nil))))))
    ·
     refine DO.w rfl (WP.mk Ls.length .n rfl rfl rfl (by omega) U22 el23_val z23_val fun v37 => WP.nil (DO.nx ?_))
     refine DAg 3 [9] ⟨?_, ⟨?_, trivial⟩⟩
     ·
      refine DO.w rfl (WP.mk D.length .n rfl rfl rfl (by omega) U23 el29_C z29_C fun v38 => WP.nil (DO.nx (ST.rowcell 0 rfl fun hcell_ => ST.rowcell 1 rfl fun hcell_ => DA.first 8 rfl (by kernel_rfl) (by kernel_rfl) (by kernel_rfl) (fun _ _ _ _ _ h => h) .n (OV.bld lit25_pr_val_val_ rfl (evp.l rfl (ex_val (by assumption)) (evp.l rfl (ex_val (by assumption)) evp.n)) (.cons rfl (Lens.fst Li) (.cons rfl (Lens.snd Li) (.nil _)))) (DA1 9 (DO.w rfl (WP.al .n z25_pr_val_val_ fun b39 => WP.nil (DO.nx (DA1 10 (DO.tn rfl .n (O.stW (l := (kPair kVal kVal)) (u := (v38, v37)) 0 rfl rfl rfl ty25 rfl Lr) (DA.nil (by kernel_rfl) (ST.oimp (OImp.ix [2, 1, 0, 3, 4] (by decide) rfl) ?_)))))))))))
      exact QE.mid3 b39 v38 v37 trivial (Imp.cons rfl (Imp.cons rfl (Imp.cons rfl Imp.nil))) (OImp.os (OS.keepLe (OB.row_eq (by rfl)) (OS.keep (OS.keep (OS.keepLe (OB.box_eq (by rfl)) (OS.keep OS.nil))))))
     ·
      refine DO.w rfl (WP.al .n z25_pr_val_val_ fun b40 => WP.nil (DO.nx (DA1 3 (DO.w rfl (WP.mk D.length .n rfl rfl rfl (by omega) U23 el29_C z29_C fun v41 => WP.nil (DO.nx (ST.rowcell 0 rfl fun hcell_ => ST.rowcell 2 rfl fun hcell_ => DA.first 8 rfl (by kernel_rfl) (by kernel_rfl) (by kernel_rfl) (fun _ _ _ _ _ h => h) .n (OV.bld lit25_pr_val_val_ rfl (evp.l rfl (ex_val (by assumption)) (evp.l rfl (ex_val (by assumption)) evp.n)) (.cons rfl (Lens.fst Li) (.cons rfl (Lens.snd Li) (.nil _)))) (DA1 10 (DO.tn rfl .n (O.stW (l := (kPair kVal kVal)) (u := (v41, v37)) 1 rfl rfl rfl ty25 rfl Lr) (DA.nil (by kernel_rfl) (ST.oimp (OImp.ix [2, 0, 1, 3, 4] (by decide) rfl) ?_)))))))))))
      exact QE.mid3 b40 v41 v37 trivial (Imp.cons rfl (Imp.cons rfl (Imp.cons rfl Imp.nil))) (OImp.os (OS.keepLe (OB.row_eq (by rfl)) (OS.keep (OS.keep (OS.keepLe (OB.box_eq (by rfl)) (OS.keep OS.nil))))))
    ·
     refine DO.w rfl (WP.al .n z25_pr_val_val_ fun b42 => WP.nil (DO.nx ?_))
     refine DAg 3 [7] ⟨?_, ⟨?_, trivial⟩⟩
     ·
      refine DO.w rfl (WP.mk D.length .n rfl rfl rfl (by omega) U23 el29_C z29_C fun v43 => WP.nil (DO.nx (DA1 7 (DO.w rfl (WP.mk Ls.length .n rfl rfl rfl (by omega) U22 el23_val z23_val fun v44 => WP.nil (DO.nx (ST.rowcell 1 rfl fun hcell_ => ST.rowcell 0 rfl fun hcell_ => DA.first 8 rfl (by kernel_rfl) (by kernel_rfl) (by kernel_rfl) (fun _ _ _ _ _ h => h) .n (OV.bld lit25_pr_val_val_ rfl (evp.l rfl (ex_val (by assumption)) (evp.l rfl (ex_val (by assumption)) evp.n)) (.cons rfl (Lens.fst Li) (.cons rfl (Lens.snd Li) (.nil _)))) (DA1 10 (DO.tn rfl .n (O.stW (l := (kPair kVal kVal)) (u := (v43, v44)) 2 rfl rfl rfl ty25 rfl Lr) (DA.nil (by kernel_rfl) (ST.oimp (OImp.ix [0, 1, 2, 3, 4] (by decide) rfl) ?_)))))))))))
      exact QE.mid3 b42 v43 v44 trivial (Imp.cons rfl (Imp.cons rfl (Imp.cons rfl Imp.nil))) (OImp.os (OS.keepLe (OB.row_eq (by rfl)) (OS.keep (OS.keep (OS.keepLe (OB.box_eq (by rfl)) (OS.keep OS.nil))))))
     ·
      refine DO.w rfl (WP.mk Ls.length .n rfl rfl rfl (by omega) U22 el23_val z23_val fun v45 => WP.nil (DO.nx (DA1 3 (DO.w rfl (WP.mk D.length .n rfl rfl rfl (by omega) U23 el29_C z29_C fun v46 => WP.nil (DO.nx (ST.rowcell 0 rfl fun hcell_ => ST.rowcell 1 rfl fun hcell_ => DA.first 8 rfl (by kernel_rfl) (by kernel_rfl) (by kernel_rfl) (fun _ _ _ _ _ h => h) .n (OV.bld lit25_pr_val_val_ rfl (evp.l rfl (ex_val (by assumption)) (evp.l rfl (ex_val (by assumption)) evp.n)) (.cons rfl (Lens.fst Li) (.cons rfl (Lens.snd Li) (.nil _)))) (DA1 10 (DO.tn rfl .n (O.stW (l := (kPair kVal kVal)) (u := (v46, v45)) 2 rfl rfl rfl ty25 rfl Lr) (DA.nil (by kernel_rfl) (ST.oimp (OImp.ix [1, 0, 2, 3, 4] (by decide) rfl) ?_)))))))))))
      exact QE.mid3 b42 v46 v45 trivial (Imp.cons rfl (Imp.cons rfl (Imp.cons rfl Imp.nil))) (OImp.os (OS.keepLe (OB.row_eq (by rfl)) (OS.keep (OS.keep (OS.keepLe (OB.box_eq (by rfl)) (OS.keep OS.nil))))))
   ·
    refine DO.w rfl (WP.mk Ls.length .n rfl rfl rfl (by omega) U22 el23_val z23_val fun v47 => WP.nil (DO.nx ?_))
    refine DAg 1 [9] ⟨?_, ⟨?_, trivial⟩⟩
    ·
     refine DO.sn rfl .n (O.ld (p := kVC.is D) rfl (mem_at 2 rfl) (Lens.fst Li) ty23 rfl) (DA.first 2 rfl (by kernel_rfl) (by kernel_rfl) (by kernel_rfl) (fun _ _ _ _ _ h => h) .n (OV.lenS rfl U23) ?_)
     refine DAg 3 [9] ⟨?_, ⟨?_, trivial⟩⟩
     ·
      refine DO.w rfl (WP.mk D.length .n rfl rfl rfl (by omega) U23 el29_C z29_C fun v48 => WP.nil (DO.nx (ST.rowcell 0 rfl fun hcell_ => ST.rowcell 1 rfl fun hcell_ => DA.first 8 rfl (by kernel_rfl) (by kernel_rfl) (by kernel_rfl) (fun _ _ _ _ _ h => h) .n (OV.bld lit25_pr_val_val_ rfl (evp.l rfl (ex_val (by assumption)) (evp.l rfl (ex_val (by assumption)) evp.n)) (.cons rfl (Lens.fst Li) (.cons rfl (Lens.snd Li) (.nil _)))) (DA1 9 (DO.w rfl (WP.al .n z25_pr_val_val_ fun b49 => WP.nil (DO.nx (DA1 10 (DO.tn rfl .n (O.stW (l := (kPair kVal kVal)) (u := (v48, v47)) 0 rfl rfl rfl ty25 rfl Lr) (DA.nil (by kernel_rfl) (ST.oimp (OImp.ix [2, 1, 0, 3, 4] (by decide) rfl) ?_)))))))))))
      exact QE.mid3 b49 v48 v47 trivial (Imp.cons rfl (Imp.cons rfl (Imp.cons rfl Imp.nil))) (OImp.os (OS.keepLe (OB.row_eq (by rfl)) (OS.keep (OS.keep (OS.keepLe (OB.box_eq (by rfl)) (OS.keep OS.nil))))))
     ·
      refine DO.w rfl (WP.al .n z25_pr_val_val_ fun b50 => WP.nil (DO.nx (DA1 3 (DO.w rfl (WP.mk D.length .n rfl rfl rfl (by omega) U23 el29_C z29_C fun v51 => WP.nil (DO.nx (ST.rowcell 0 rfl fun hcell_ => ST.rowcell 2 rfl fun hcell_ => DA.first 8 rfl (by kernel_rfl) (by kernel_rfl) (by kernel_rfl) (fun _ _ _ _ _ h => h) .n (OV.bld lit25_pr_val_val_ rfl (evp.l rfl (ex_val (by assumption)) (evp.l rfl (ex_val (by assumption)) evp.n)) (.cons rfl (Lens.fst Li) (.cons rfl (Lens.snd Li) (.nil _)))) (DA1 10 (DO.tn rfl .n (O.stW (l := (kPair kVal kVal)) (u := (v51, v47)) 1 rfl rfl rfl ty25 rfl Lr) (DA.nil (by kernel_rfl) (ST.oimp (OImp.ix [2, 0, 1, 3, 4] (by decide) rfl) ?_)))))))))))
      exact QE.mid3 b50 v51 v47 trivial (Imp.cons rfl (Imp.cons rfl (Imp.cons rfl Imp.nil))) (OImp.os (OS.keepLe (OB.row_eq (by rfl)) (OS.keep (OS.keep (OS.keepLe (OB.box_eq (by rfl)) (OS.keep OS.nil))))))
    ·
     refine DO.w rfl (WP.al .n z25_pr_val_val_ fun b52 => WP.nil (DO.nx (DA1 1 (DO.sn rfl .n (O.ld (p := kVC.is D) rfl (mem_at 3 rfl) (Lens.fst Li) ty23 rfl) (DA.first 2 rfl (by kernel_rfl) (by kernel_rfl) (by kernel_rfl) (fun _ _ _ _ _ h => h) .n (OV.lenS rfl U23) (DA1 3 (DO.w rfl (WP.mk D.length .n rfl rfl rfl (by omega) U23 el29_C z29_C fun v53 => WP.nil (DO.nx (ST.rowcell 0 rfl fun hcell_ => ST.rowcell 2 rfl fun hcell_ => DA.first 8 rfl (by kernel_rfl) (by kernel_rfl) (by kernel_rfl) (fun _ _ _ _ _ h => h) .n (OV.bld lit25_pr_val_val_ rfl (evp.l rfl (ex_val (by assumption)) (evp.l rfl (ex_val (by assumption)) evp.n)) (.cons rfl (Lens.fst Li) (.cons rfl (Lens.snd Li) (.nil _)))) (DA1 10 (DO.tn rfl .n (O.stW (l := (kPair kVal kVal)) (u := (v53, v47)) 1 rfl rfl rfl ty25 rfl Lr) (DA.nil (by kernel_rfl) (ST.oimp (OImp.ix [2, 0, 1, 3, 4] (by decide) rfl) ?_))))))))))))))
     exact QE.mid3 b52 v53 v47 trivial (Imp.cons rfl (Imp.cons rfl (Imp.cons rfl Imp.nil))) (OImp.os (OS.keepLe (OB.row_eq (by rfl)) (OS.keep (OS.keep (OS.keepLe (OB.box_eq (by rfl)) (OS.keep OS.nil))))))
   ·
    refine DO.w rfl (WP.al .n z25_pr_val_val_ fun b54 => WP.nil (DO.nx ?_))
    refine DAg 1 [7] ⟨?_, ⟨?_, trivial⟩⟩
    ·
     refine DO.sn rfl .n (O.ld (p := kVC.is D) rfl (mem_at 2 rfl) (Lens.fst Li) ty23 rfl) (DA.first 2 rfl (by kernel_rfl) (by kernel_rfl) (by kernel_rfl) (fun _ _ _ _ _ h => h) .n (OV.lenS rfl U23) ?_)
     refine DAg 3 [7] ⟨?_, ⟨?_, trivial⟩⟩
     ·
      refine DO.w rfl (WP.mk D.length .n rfl rfl rfl (by omega) U23 el29_C z29_C fun v55 => WP.nil (DO.nx (DA1 7 (DO.w rfl (WP.mk Ls.length .n rfl rfl rfl (by omega) U22 el23_val z23_val fun v56 => WP.nil (DO.nx (ST.rowcell 1 rfl fun hcell_ => ST.rowcell 0 rfl fun hcell_ => DA.first 8 rfl (by kernel_rfl) (by kernel_rfl) (by kernel_rfl) (fun _ _ _ _ _ h => h) .n (OV.bld lit25_pr_val_val_ rfl (evp.l rfl (ex_val (by assumption)) (evp.l rfl (ex_val (by assumption)) evp.n)) (.cons rfl (Lens.fst Li) (.cons rfl (Lens.snd Li) (.nil _)))) (DA1 10 (DO.tn rfl .n (O.stW (l := (kPair kVal kVal)) (u := (v55, v56)) 2 rfl rfl rfl ty25 rfl Lr) (DA.nil (by kernel_rfl) (ST.oimp (OImp.ix [0, 1, 2, 3, 4] (by decide) rfl) ?_)))))))))))
      exact QE.mid3 b54 v55 v56 trivial (Imp.cons rfl (Imp.cons rfl (Imp.cons rfl Imp.nil))) (OImp.os (OS.keepLe (OB.row_eq (by rfl)) (OS.keep (OS.keep (OS.keepLe (OB.box_eq (by rfl)) (OS.keep OS.nil))))))
     ·
      refine DO.w rfl (WP.mk Ls.length .n rfl rfl rfl (by omega) U22 el23_val z23_val fun v57 => WP.nil (DO.nx (DA1 3 (DO.w rfl (WP.mk D.length .n rfl rfl rfl (by omega) U23 el29_C z29_C fun v58 => WP.nil (DO.nx (ST.rowcell 0 rfl fun hcell_ => ST.rowcell 1 rfl fun hcell_ => DA.first 8 rfl (by kernel_rfl) (by kernel_rfl) (by kernel_rfl) (fun _ _ _ _ _ h => h) .n (OV.bld lit25_pr_val_val_ rfl (evp.l rfl (ex_val (by assumption)) (evp.l rfl (ex_val (by assumption)) evp.n)) (.cons rfl (Lens.fst Li) (.cons rfl (Lens.snd Li) (.nil _)))) (DA1 10 (DO.tn rfl .n (O.stW (l := (kPair kVal kVal)) (u := (v58, v57)) 2 rfl rfl rfl ty25 rfl Lr) (DA.nil (by kernel_rfl) (ST.oimp (OImp.ix [1, 0, 2, 3, 4] (by decide) rfl) ?_)))))))))))
      exact QE.mid3 b54 v58 v57 trivial (Imp.cons rfl (Imp.cons rfl (Imp.cons rfl Imp.nil))) (OImp.os (OS.keepLe (OB.row_eq (by rfl)) (OS.keep (OS.keep (OS.keepLe (OB.box_eq (by rfl)) (OS.keep OS.nil))))))
    ·
     refine DO.w rfl (WP.mk Ls.length .n rfl rfl rfl (by omega) U22 el23_val z23_val fun v59 => WP.nil (DO.nx (DA1 1 (DO.sn rfl .n (O.ld (p := kVC.is D) rfl (mem_at 3 rfl) (Lens.fst Li) ty23 rfl) (DA.first 2 rfl (by kernel_rfl) (by kernel_rfl) (by kernel_rfl) (fun _ _ _ _ _ h => h) .n (OV.lenS rfl U23) (DA1 3 (DO.w rfl (WP.mk D.length .n rfl rfl rfl (by omega) U23 el29_C z29_C fun v60 => WP.nil (DO.nx (ST.rowcell 0 rfl fun hcell_ => ST.rowcell 1 rfl fun hcell_ => DA.first 8 rfl (by kernel_rfl) (by kernel_rfl) (by kernel_rfl) (fun _ _ _ _ _ h => h) .n (OV.bld lit25_pr_val_val_ rfl (evp.l rfl (ex_val (by assumption)) (evp.l rfl (ex_val (by assumption)) evp.n)) (.cons rfl (Lens.fst Li) (.cons rfl (Lens.snd Li) (.nil _)))) (DA1 10 (DO.tn rfl .n (O.stW (l := (kPair kVal kVal)) (u := (v60, v59)) 2 rfl rfl rfl ty25 rfl Lr) (DA.nil (by kernel_rfl) (ST.oimp (OImp.ix [1, 0, 2, 3, 4] (by decide) rfl) ?_))))))))))))))
     exact QE.mid3 b54 v60 v59 trivial (Imp.cons rfl (Imp.cons rfl (Imp.cons rfl Imp.nil))) (OImp.os (OS.keepLe (OB.row_eq (by rfl)) (OS.keep (OS.keep (OS.keepLe (OB.box_eq (by rfl)) (OS.keep OS.nil))))))
  ·
   refine DO.w rfl (WP.al .n z25_pr_val_val_ fun b61 => WP.nil (DO.nx ?_))
   refine DAg 1 [5] ⟨?_, ⟨?_, trivial⟩⟩
   ·
    refine DO.sn rfl .n (O.ld (p := kVC.is D) rfl (mem_at 2 rfl) (Lens.fst Li) ty23 rfl) (DA.first 2 rfl (by kernel_rfl) (by kernel_rfl) (by kernel_rfl) (fun _ _ _ _ _ h => h) .n (OV.lenS rfl U23) ?_)
    refine DAg 3 [5] ⟨?_, ⟨?_, trivial⟩⟩
    ·
     refine DO.w rfl (WP.mk D.length .n rfl rfl rfl (by omega) U23 el29_C z29_C fun v62 => WP.nil (DO.nx (DA1 5 (DO.sn rfl .n (O.ld (p := kMC.is Ls) rfl (mem_at 3 rfl) (Lens.snd Li) ty22 rfl) (DA.first 6 rfl (by kernel_rfl) (by kernel_rfl) (by kernel_rfl) (fun _ _ _ _ _ h => h) .n (OV.lenS rfl U22) (DA1 7 (DO.w rfl (WP.mk Ls.length .n rfl rfl rfl (by omega) U22 el23_val z23_val fun v63 => WP.nil (DO.nx (ST.rowcell 1 rfl fun hcell_ => ST.rowcell 0 rfl fun hcell_ => DA.first 8 rfl (by kernel_rfl) (by kernel_rfl) (by kernel_rfl) (fun _ _ _ _ _ h => h) .n (OV.bld lit25_pr_val_val_ rfl (evp.l rfl (ex_val (by assumption)) (evp.l rfl (ex_val (by assumption)) evp.n)) (.cons rfl (Lens.fst Li) (.cons rfl (Lens.snd Li) (.nil _)))) (DA1 10 (DO.tn rfl .n (O.stW (l := (kPair kVal kVal)) (u := (v62, v63)) 2 rfl rfl rfl ty25 rfl Lr) (DA.nil (by kernel_rfl) (ST.oimp (OImp.ix [0, 1, 2, 3, 4] (by decide) rfl) ?_))))))))))))))
     exact QE.mid3 b61 v62 v63 trivial (Imp.cons rfl (Imp.cons rfl (Imp.cons rfl Imp.nil))) (OImp.os (OS.keepLe (OB.row_eq (by rfl)) (OS.keep (OS.keep (OS.keepLe (OB.box_eq (by rfl)) (OS.keep OS.nil))))))
    ·
     refine DO.sn rfl .n (O.ld (p := kMC.is Ls) rfl (mem_at 2 rfl) (Lens.snd Li) ty22 rfl) (DA.first 6 rfl (by kernel_rfl) (by kernel_rfl) (by kernel_rfl) (fun _ _ _ _ _ h => h) .n (OV.lenS rfl U22) ?_)
     refine DAg 3 [7] ⟨?_, ⟨?_, trivial⟩⟩
     ·
      refine DO.w rfl (WP.mk D.length .n rfl rfl rfl (by omega) U23 el29_C z29_C fun v64 => WP.nil (DO.nx (DA1 7 (DO.w rfl (WP.mk Ls.length .n rfl rfl rfl (by omega) U22 el23_val z23_val fun v65 => WP.nil (DO.nx (ST.rowcell 1 rfl fun hcell_ => ST.rowcell 0 rfl fun hcell_ => DA.first 8 rfl (by kernel_rfl) (by kernel_rfl) (by kernel_rfl) (fun _ _ _ _ _ h => h) .n (OV.bld lit25_pr_val_val_ rfl (evp.l rfl (ex_val (by assumption)) (evp.l rfl (ex_val (by assumption)) evp.n)) (.cons rfl (Lens.fst Li) (.cons rfl (Lens.snd Li) (.nil _)))) (DA1 10 (DO.tn rfl .n (O.stW (l := (kPair kVal kVal)) (u := (v64, v65)) 2 rfl rfl rfl ty25 rfl Lr) (DA.nil (by kernel_rfl) (ST.oimp (OImp.ix [0, 1, 2, 3, 4] (by decide) rfl) ?_)))))))))))
      exact QE.mid3 b61 v64 v65 trivial (Imp.cons rfl (Imp.cons rfl (Imp.cons rfl Imp.nil))) (OImp.os (OS.keepLe (OB.row_eq (by rfl)) (OS.keep (OS.keep (OS.keepLe (OB.box_eq (by rfl)) (OS.keep OS.nil))))))
     ·
      refine DO.w rfl (WP.mk Ls.length .n rfl rfl rfl (by omega) U22 el23_val z23_val fun v66 => WP.nil (DO.nx (DA1 3 (DO.w rfl (WP.mk D.length .n rfl rfl rfl (by omega) U23 el29_C z29_C fun v67 => WP.nil (DO.nx (ST.rowcell 0 rfl fun hcell_ => ST.rowcell 1 rfl fun hcell_ => DA.first 8 rfl (by kernel_rfl) (by kernel_rfl) (by kernel_rfl) (fun _ _ _ _ _ h => h) .n (OV.bld lit25_pr_val_val_ rfl (evp.l rfl (ex_val (by assumption)) (evp.l rfl (ex_val (by assumption)) evp.n)) (.cons rfl (Lens.fst Li) (.cons rfl (Lens.snd Li) (.nil _)))) (DA1 10 (DO.tn rfl .n (O.stW (l := (kPair kVal kVal)) (u := (v67, v66)) 2 rfl rfl rfl ty25 rfl Lr) (DA.nil (by kernel_rfl) (ST.oimp (OImp.ix [1, 0, 2, 3, 4] (by decide) rfl) ?_)))))))))))
      exact QE.mid3 b61 v67 v66 trivial (Imp.cons rfl (Imp.cons rfl (Imp.cons rfl Imp.nil))) (OImp.os (OS.keepLe (OB.row_eq (by rfl)) (OS.keep (OS.keep (OS.keepLe (OB.box_eq (by rfl)) (OS.keep OS.nil))))))
   ·
    refine DO.sn rfl .n (O.ld (p := kMC.is Ls) rfl (mem_at 2 rfl) (Lens.snd Li) ty22 rfl) (DA.first 6 rfl (by kernel_rfl) (by kernel_rfl) (by kernel_rfl) (fun _ _ _ _ _ h => h) .n (OV.lenS rfl U22) ?_)
    refine DAg 1 [7] ⟨?_, ⟨?_, trivial⟩⟩
    ·
     refine DO.sn rfl .n (O.ld (p := kVC.is D) rfl (mem_at 2 rfl) (Lens.fst Li) ty23 rfl) (DA.first 2 rfl (by kernel_rfl) (by kernel_rfl) (by kernel_rfl) (fun _ _ _ _ _ h => h) .n (OV.lenS rfl U23) ?_)
     refine DAg 3 [7] ⟨?_, ⟨?_, trivial⟩⟩
     ·
      refine DO.w rfl (WP.mk D.length .n rfl rfl rfl (by omega) U23 el29_C z29_C fun v68 => WP.nil (DO.nx (DA1 7 (DO.w rfl (WP.mk Ls.length .n rfl rfl rfl (by omega) U22 el23_val z23_val fun v69 => WP.nil (DO.nx (ST.rowcell 1 rfl fun hcell_ => ST.rowcell 0 rfl fun hcell_ => DA.first 8 rfl (by kernel_rfl) (by kernel_rfl) (by kernel_rfl) (fun _ _ _ _ _ h => h) .n (OV.bld lit25_pr_val_val_ rfl (evp.l rfl (ex_val (by assumption)) (evp.l rfl (ex_val (by assumption)) evp.n)) (.cons rfl (Lens.fst Li) (.cons rfl (Lens.snd Li) (.nil _)))) (DA1 10 (DO.tn rfl .n (O.stW (l := (kPair kVal kVal)) (u := (v68, v69)) 2 rfl rfl rfl ty25 rfl Lr) (DA.nil (by kernel_rfl) (ST.oimp (OImp.ix [0, 1, 2, 3, 4] (by decide) rfl) ?_)))))))))))
      exact QE.mid3 b61 v68 v69 trivial (Imp.cons rfl (Imp.cons rfl (Imp.cons rfl Imp.nil))) (OImp.os (OS.keepLe (OB.row_eq (by rfl)) (OS.keep (OS.keep (OS.keepLe (OB.box_eq (by rfl)) (OS.keep OS.nil))))))
     ·
      refine DO.w rfl (WP.mk Ls.length .n rfl rfl rfl (by omega) U22 el23_val z23_val fun v70 => WP.nil (DO.nx (DA1 3 (DO.w rfl (WP.mk D.length .n rfl rfl rfl (by omega) U23 el29_C z29_C fun v71 => WP.nil (DO.nx (ST.rowcell 0 rfl fun hcell_ => ST.rowcell 1 rfl fun hcell_ => DA.first 8 rfl (by kernel_rfl) (by kernel_rfl) (by kernel_rfl) (fun _ _ _ _ _ h => h) .n (OV.bld lit25_pr_val_val_ rfl (evp.l rfl (ex_val (by assumption)) (evp.l rfl (ex_val (by assumption)) evp.n)) (.cons rfl (Lens.fst Li) (.cons rfl (Lens.snd Li) (.nil _)))) (DA1 10 (DO.tn rfl .n (O.stW (l := (kPair kVal kVal)) (u := (v71, v70)) 2 rfl rfl rfl ty25 rfl Lr) (DA.nil (by kernel_rfl) (ST.oimp (OImp.ix [1, 0, 2, 3, 4] (by decide) rfl) ?_)))))))))))
      exact QE.mid3 b61 v71 v70 trivial (Imp.cons rfl (Imp.cons rfl (Imp.cons rfl Imp.nil))) (OImp.os (OS.keepLe (OB.row_eq (by rfl)) (OS.keep (OS.keep (OS.keepLe (OB.box_eq (by rfl)) (OS.keep OS.nil))))))
    ·
     refine DO.w rfl (WP.mk Ls.length .n rfl rfl rfl (by omega) U22 el23_val z23_val fun v72 => WP.nil (DO.nx (DA1 1 (DO.sn rfl .n (O.ld (p := kVC.is D) rfl (mem_at 3 rfl) (Lens.fst Li) ty23 rfl) (DA.first 2 rfl (by kernel_rfl) (by kernel_rfl) (by kernel_rfl) (fun _ _ _ _ _ h => h) .n (OV.lenS rfl U23) (DA1 3 (DO.w rfl (WP.mk D.length .n rfl rfl rfl (by omega) U23 el29_C z29_C fun v73 => WP.nil (DO.nx (ST.rowcell 0 rfl fun hcell_ => ST.rowcell 1 rfl fun hcell_ => DA.first 8 rfl (by kernel_rfl) (by kernel_rfl) (by kernel_rfl) (fun _ _ _ _ _ h => h) .n (OV.bld lit25_pr_val_val_ rfl (evp.l rfl (ex_val (by assumption)) (evp.l rfl (ex_val (by assumption)) evp.n)) (.cons rfl (Lens.fst Li) (.cons rfl (Lens.snd Li) (.nil _)))) (DA1 10 (DO.tn rfl .n (O.stW (l := (kPair kVal kVal)) (u := (v73, v72)) 2 rfl rfl rfl ty25 rfl Lr) (DA.nil (by kernel_rfl) (ST.oimp (OImp.ix [1, 0, 2, 3, 4] (by decide) rfl) ?_))))))))))))))
     exact QE.mid3 b61 v73 v72 trivial (Imp.cons rfl (Imp.cons rfl (Imp.cons rfl Imp.nil))) (OImp.os (OS.keepLe (OB.row_eq (by rfl)) (OS.keep (OS.keep (OS.keepLe (OB.box_eq (by rfl)) (OS.keep OS.nil))))))
 intro pb vD vL hR
 refine CW.seq ?_
 refine CW.drawM (Γ := [.fr (VP.pt pb 0), .fr (VP.ex vD), .fr (VP.pt b1 0), .fr (kVC.is D), .fr (kMC.is [D]), .fr (kMC.is [D]), .fr (VP.pim kVC D), .fr (kVC.is D)]) (of_ rfl (fun N => O.fa rfl fld25_0 rfl) (of_ rfl (fun N => OpOk.le (O.ld (p := kVal.is vD) rfl (mem_app N (mem_at 2 rfl)) (Lens.fst Li) ty23 rfl) (val_ex _)) (of_ rfl (fun N => O.fa rfl fld25_0 rfl) (of_ rfl (fun N => O.ld (p := kVC.is D) rfl (mem_app N (mem_at 4 rfl)) (Lens.fst Li) ty23 rfl) (of_ rfl (fun N => O.bs U22 el23_sl_C (evl.c rfl evl.n) rfl (by decide)) (of_ rfl (fun N => O.fn fn248 (evs.l rfl (slslC_Z (by intro r hr; rcases List.mem_cons.1 hr with rfl | hr; exact hD; cases hr)) evs.nil) (c_mat_Form [D] (by intro r hr; rcases List.mem_cons.1 hr with rfl | hr; exact hD; cases hr))) (of_ rfl (fun N => O.ix 0 rfl rfl U22 ty23 rfl (v := D) (by rfl)) (of_ rfl (fun N => O.ldP rfl ty23) oz)))))))) (fun σ2 => ?_)
 refine Ws (O.cp 1 rfl rfl rfl Lr U23 el29_C) (Wn (CW.seq (CW.any (by kernel_rfl) (DA.first 0 rfl (by kernel_rfl) (by kernel_rfl) (by kernel_rfl) (fun _ _ _ _ _ h => h) .n (OV.fa rfl fld25_1 rfl) (DA.first 2 rfl (by kernel_rfl) (by kernel_rfl) (by kernel_rfl) (fun _ _ _ _ _ h => h) .n (OV.fa rfl fld25_1 rfl) ?_)))))
 refine DAg 1 [3] ⟨?_, ⟨?_, trivial⟩⟩
 ·
  refine DO.sn rfl .n (OpOk.le (O.ld (p := kVal.is vL) rfl (mem_at 2 rfl) (Lens.snd Li) ty22 rfl) (val_ex _)) (DA1 3 (DO.sn rfl .n (O.ld (p := kMC.is Ls) rfl (mem_at 4 rfl) (Lens.snd Li) ty22 rfl) (DA1 4 (DO.w rfl (WP.call (Li := []) (L := [OB.row vL 23 kVal (List.replicate Ls.length nilV), OB.row vD 29 kC (D.take (min D.length (List.replicate D.length 0).length) ++ (List.replicate D.length 0).drop (min D.length (List.replicate D.length 0).length)), OB.box pb 25 (kPair kVal kVal) (vD, vL), OB.box b2 25 (kPair kVal kVal) (nilV, nilV), OB.box b1 25 kGso (D, Ls)]) .n fn248 (evs.l rfl (slslC_Z (hL)) evs.nil) (c_mat_Formo Ls) fun p_ Lo_ hp_ => ?_)))))
  obtain ⟨v74, vs_t26, rfl, rfl, hx_t26⟩ := hp_
  refine WP.nil (DO.nx (ST.freeze 0 rfl (kp 1 rfl (kp 2 rfl (kp 3 rfl (kp 13 rfl (kp 14 rfl (kp 15 rfl (kp 16 rfl (kp 17 rfl (kp 18 rfl (kp 19 rfl (kp 20 rfl (kp 21 rfl (kp 22 rfl (kp 23 rfl (kp 24 rfl (kp 25 rfl (.hit (i := 26) rfl .nil))))))))))))))))) (DA1 5 (DO.sn rfl .n (O.cp 1 rfl rfl rfl Lr U22 el23_val) (DA.nil (by kernel_rfl) (QE.next (Cr (Ws (O.ld (p := (kPair kVal kVal).is (vD, vL)) rfl (mem_at 3 rfl) Li ty25 rfl) (WP.t .n (O.stW (l := (kPair kVal kVal)) (u := (vD, vL)) 4 rfl rfl rfl ty25 rfl Lr) (Wn (CW.ret (ST.obtold 2 rfl (OB.row_eq (ys := D) (copy_all (by simp))) (ST.obtold 1 rfl (OB.row_eq (ys := vs_t26) (copy_all (by simp [hx_t26]))) (ST.oimp (OImp.ix [2, 1, 0, 4] (by decide) rfl) ?_))))))))))))))
  exact QE.done (.inl rfl) rfl (ResOk.c rfl (mem_at 3 rfl) ty25 ResOk.nil) (OImp.os (OS.keep (OS.keep (OS.keep (OS.skip OS.nil))))) ⟨vD, vL, vs_t26, rfl, rfl, hx_t26⟩
 ·
  refine DO.sn rfl .n (O.ld (p := kMC.is Ls) rfl (mem_at 4 rfl) (Lens.snd Li) ty22 rfl) ?_
  refine DAg 1 [4] ⟨?_, ⟨?_, trivial⟩⟩
  ·
   refine DO.sn rfl .n (OpOk.le (O.ld (p := kVal.is vL) rfl (mem_at 2 rfl) (Lens.snd Li) ty22 rfl) (val_ex _)) (DA1 4 (DO.w rfl (WP.call (Li := []) (L := [OB.row vL 23 kVal (List.replicate Ls.length nilV), OB.row vD 29 kC (D.take (min D.length (List.replicate D.length 0).length) ++ (List.replicate D.length 0).drop (min D.length (List.replicate D.length 0).length)), OB.box pb 25 (kPair kVal kVal) (vD, vL), OB.box b2 25 (kPair kVal kVal) (nilV, nilV), OB.box b1 25 kGso (D, Ls)]) .n fn248 (evs.l rfl (slslC_Z (hL)) evs.nil) (c_mat_Formo Ls) fun p_ Lo_ hp_ => ?_)))
   obtain ⟨v75, vs_t26, rfl, rfl, hx_t26⟩ := hp_
   refine WP.nil (DO.nx (ST.freeze 0 rfl (kp 1 rfl (kp 2 rfl (kp 3 rfl (kp 13 rfl (kp 14 rfl (kp 15 rfl (kp 16 rfl (kp 17 rfl (kp 18 rfl (kp 19 rfl (kp 20 rfl (kp 21 rfl (kp 22 rfl (kp 23 rfl (kp 24 rfl (kp 25 rfl (.hit (i := 26) rfl .nil))))))))))))))))) (DA1 5 (DO.sn rfl .n (O.cp 1 rfl rfl rfl Lr U22 el23_val) (DA.nil (by kernel_rfl) (QE.next (Cr (Ws (O.ld (p := (kPair kVal kVal).is (vD, vL)) rfl (mem_at 3 rfl) Li ty25 rfl) (WP.t .n (O.stW (l := (kPair kVal kVal)) (u := (vD, vL)) 4 rfl rfl rfl ty25 rfl Lr) (Wn (CW.ret (ST.obtold 2 rfl (OB.row_eq (ys := D) (copy_all (by simp))) (ST.obtold 1 rfl (OB.row_eq (ys := vs_t26) (copy_all (by simp [hx_t26]))) (ST.oimp (OImp.ix [2, 1, 0, 4] (by decide) rfl) ?_))))))))))))))
   exact QE.done (.inl rfl) rfl (ResOk.c rfl (mem_at 3 rfl) ty25 ResOk.nil) (OImp.os (OS.keep (OS.keep (OS.keep (OS.skip OS.nil))))) ⟨vD, vL, vs_t26, rfl, rfl, hx_t26⟩
  ·
   refine DO.w rfl (WP.call (Li := []) (L := [OB.row vL 23 kVal (List.replicate Ls.length nilV), OB.row vD 29 kC (D.take (min D.length (List.replicate D.length 0).length) ++ (List.replicate D.length 0).drop (min D.length (List.replicate D.length 0).length)), OB.box pb 25 (kPair kVal kVal) (vD, vL), OB.box b2 25 (kPair kVal kVal) (nilV, nilV), OB.box b1 25 kGso (D, Ls)]) .n fn248 (evs.l rfl (slslC_Z (hL)) evs.nil) (c_mat_Formo Ls) fun p_ Lo_ hp_ => ?_)
   obtain ⟨v76, vs_t26, rfl, rfl, hx_t26⟩ := hp_
   refine WP.nil (DO.nx (DA1 1 (DO.sn rfl .n (OpOk.le (O.ld (p := kVal.is vL) rfl (mem_at 4 rfl) (Lens.snd Li) ty22 rfl) (val_ex _)) (ST.freeze 0 rfl (kp 1 rfl (kp 2 rfl (kp 3 rfl (kp 13 rfl (kp 14 rfl (kp 15 rfl (kp 16 rfl (kp 17 rfl (kp 18 rfl (kp 19 rfl (kp 20 rfl (kp 21 rfl (kp 22 rfl (kp 23 rfl (kp 24 rfl (kp 25 rfl (.hit (i := 26) rfl .nil))))))))))))))))) (DA1 5 (DO.sn rfl .n (O.cp 1 rfl rfl rfl Lr U22 el23_val) (DA.nil (by kernel_rfl) (QE.next (Cr (Ws (O.ld (p := (kPair kVal kVal).is (vD, vL)) rfl (mem_at 3 rfl) Li ty25 rfl) (WP.t .n (O.stW (l := (kPair kVal kVal)) (u := (vD, vL)) 4 rfl rfl rfl ty25 rfl Lr) (Wn (CW.ret (ST.obtold 2 rfl (OB.row_eq (ys := D) (copy_all (by simp))) (ST.obtold 1 rfl (OB.row_eq (ys := vs_t26) (copy_all (by simp [hx_t26]))) (ST.oimp (OImp.ix [2, 1, 0, 4] (by decide) rfl) ?_))))))))))))))))
   exact QE.done (.inl rfl) rfl (ResOk.c rfl (mem_at 3 rfl) ty25 ResOk.nil) (OImp.os (OS.keep (OS.keep (OS.keep (OS.skip OS.nil))))) ⟨vD, vL, vs_t26, rfl, rfl, hx_t26⟩
theorem c_gso_AddRow1 (vD vL : Value) (bh : Nat) (vs : List Value) (xss : List (List Int)) (i k : Nat) (q y : Int) (hi : i < vs.length) (hk : k < (xss.getD i []).length) (h1 : Sm ((xss.getD i []).getD k 0)) (h2 : Sm (q * y)) : Con Tryz.prog 217 [kN6.is (k : Int), kZ.is y, VP.pt bh 0, VP.pim kN6 (i : Int), VP.pim kZ q] [OB.box bh 25 (kPair kVal kVal) (vD, vL), OB.row vL 23 kVal vs, OB.fam vs 29 kC xss] (fun p Lo => p = VP.tup [] ∧ Lo = [OB.box bh 25 (kPair kVal kVal) (vD, vL), OB.row vL 23 kVal vs, OB.fam vs 29 kC (xss.set i ((xss.getD i []).set k ((xss.getD i []).getD k 0 + q * y)))] ∧ True) := by
 refine Con.enter Tryz.func217 rfl rfl fun m w => Cr (WP.bx .n rfl fun b1 => Wn ?_)
 refine CW.drawM (Γ := [.fr (VP.pt bh 1), .fr (VP.ex vL), .fr (kN6.is (i : Int)), .fr (VP.pel vL (i * 1)), .fr (VP.ex (vs.getD i nilV)), .fr (kN6.is (k : Int)), .fr (VP.pt bh 1), .fr (VP.ex vL), .fr (kN6.is (i : Int)), .fr (VP.pel vL (i * 1)), .fr (VP.ex (vs.getD i nilV)), .fr (kN6.is (k : Int)), .fr (VP.pel (vs.getD i nilV) (k * 2)), .fr (kC.is ((xss.getD i []).getD k 0)), .fr (kZ.is q), .fr (kZ.is y), .fr (kC.is (q * y)), .fr (kC.is (((xss.getD i []).getD k 0) + (q * y))), .fr (VP.pel (vs.getD i nilV) (k * 2))]) (of_ rfl (fun N => O.fa rfl fld25_1 rfl) (of_ rfl (fun N => OpOk.le (O.ld (p := kVal.is vL) rfl (mem_app N (mem_at 1 rfl)) (Lens.snd Li) ty22 rfl) (val_ex _)) (of_ rfl (fun N => O.ldP rfl ty3) (of_ rfl (fun N => O.ixR (k := kVal) (xs := vs) (n := (i : Int)) i rfl rfl (mem_app N (mem_at 2 rfl)) U22 ty23 rfl (by omega)) (of_ rfl (fun N => OpOk.le (O.ldR i rfl (mem_app N (mem_at 2 rfl)) Li rfl (y := (vs.getD i nilV)) (gd nilV (by omega)) ty23 rfl) (val_ex _)) (om rfl rfl (of_ rfl (fun N => O.fa rfl fld25_1 rfl) (of_ rfl (fun N => OpOk.le (O.ld (p := kVal.is vL) rfl (mem_app N (mem_at 1 rfl)) (Lens.snd Li) ty22 rfl) (val_ex _)) (of_ rfl (fun N => O.ldP rfl ty3) (of_ rfl (fun N => O.ixR (k := kVal) (xs := vs) (n := (i : Int)) i rfl rfl (mem_app N (mem_at 2 rfl)) U22 ty23 rfl (by omega)) (of_ rfl (fun N => OpOk.le (O.ldR i rfl (mem_app N (mem_at 2 rfl)) Li rfl (y := (vs.getD i nilV)) (gd nilV (by omega)) ty23 rfl) (val_ex _)) (om rfl rfl (of_ rfl (fun N => O.ixF (e := 29) (k := kC) (xss := xss) (n := (k : Int)) i k rfl rfl (mem_app N (mem_at 3 rfl)) rfl (by omega) U23 ty29 rfl (by omega)) (of_ rfl (fun N => O.ldF (k := kC) (xss := xss) i k rfl (mem_app N (mem_at 3 rfl)) rfl (by omega) Li rfl (y := ((xss.getD i []).getD k 0)) (gd 0 (by omega)) ty29 rfl) (of_ rfl (fun N => O.ldP rfl ty29) (of_ rfl (fun N => O.ld rfl (mem_app N (mem_at 0 rfl)) Li ty29 rfl) (of_ rfl (fun N => O.fn fn122 (evs.c rfl (evs.c rfl evs.nil)) (c_zint_Mul q y)) (of_ rfl (fun N => O.fn fn189 (evs.l rfl (kC_Z (by assumption)) (evs.l rfl (kC_Z (by assumption)) evs.nil)) (c_zint_Add ((xss.getD i []).getD k 0) (q * y))) (of_ rfl (fun N => O.ixF (e := 29) (k := kC) (xss := xss) (n := (k : Int)) i k rfl rfl (mem_app N (mem_at 3 rfl)) rfl (by omega) U23 ty29 rfl (by omega)) oz))))))))))))))))))) (fun σ1 => ?_)
 refine WP.t .n (O.stF 3 i k rfl rfl rfl (by omega) Li rfl (y0 := ((xss.getD i []).getD k 0)) (gd 0 (by omega)) ty29 rfl Lr) (WP.nil ?_)
 exact QE.done (.inr rfl) rfl ResOk.nil (OImp.os (OS.skip (OS.keep (OS.keep (OS.keepLe (OB.fam_eq (by rfl) (by rfl)) OS.nil))))) ⟨rfl, rfl, trivial⟩
theorem c_gso_AddRow (G : Nat → Nat → Int) (n B : Nat) (h0 : 0 < n) (h12 : n ≤ 12) (hP : PosU G n) (hD : ∀ k, k ≤ n → Sz B (uD G k)) (hB : B ≤ 68719476736) (i j : Nat) (q : Int) (hj : j < i) (hi : i < n) (hs : SymG G) (hL : ∀ x k, x < n → k < x → Sz B (uE G k x k)) (hq : Sz B q) : Fn Tryz.prog 146 [kGso.is (gDs G n, gLs G n), kN6.is (i : Int), kN6.is (j : Int), kZ.is q] (VP.tup [kGso.is (gDs (rowI G i j q) n, gLs (rowI G i j q) n), kN6.is 0]) := by
 refine Con.enter Tryz.func146 rfl rfl fun m w => ?_
 have hLl : (gLs G n).length = n := gLs_len G n
 have hDl : (gDs G n).length = n + 1 := gDs_len G n
 refine Cr (WP.bx .n rfl fun b1 => WP.bx .n rfl fun b2 => WP.bx .n rfl fun b3 => WP.al .n z25_pr_sl_C_sl_sl_C_ fun b4 => Wa rfl (Wn (CW.seq (Cr (Ws (O.ld (p := kGso.is (gDs G n, gLs G n)) rfl (mem_at 3 rfl) Li ty25 rfl) (Ws (O.fn fn133 (evs.c rfl evs.nil) (c_gso_good G n B (by assumption) (by assumption) (by assumption) (by assumption) (by assumption))) (Ws (O.not (a := true) rfl) (Wn (CW.condF rfl (CW.skip (QE.next (CW.seq (Cr (Wm rfl ?_))))))))))))))
 refine Ws (O.lt rfl rfl) (Wm rfl ?_)
 refine WP.splitD 19 rfl (fun h => absurd h (by omega)) (fun h_t19 => ?_)
 refine WP.s (.g rfl rfl) (O.mv rfl) (WP.s (.g rfl rfl) (O.ld rfl (mem_at 2 rfl) Li ty3 rfl) (WP.s (.g rfl rfl) (O.ge rfl rfl) (Ws (O.pickF rfl rfl) (Wm rfl ?_))))
 refine WP.splitD 24 rfl (fun h => absurd h (by omega)) (fun h_t24 => ?_)
 refine WP.s (.g rfl rfl) (O.ld rfl (mem_at 2 rfl) Li ty3 rfl) (WP.s (.g rfl rfl) (O.fa rfl fld25_1 rfl) (WP.s (.g rfl rfl) (O.ld (p := kMC.is (gLs G n)) rfl (mem_at 3 rfl) (Lens.snd Li) ty22 rfl) (WP.s (.g rfl rfl) (O.lenS rfl U22) (WP.s (.g rfl rfl) (O.ge rfl rfl) (Ws (O.pickF rfl rfl) (Wn ?_))))))
 refine CW.condD rfl (fun h => absurd h (by rw [gLs_len]; omega)) (fun h_t30 => ?_)
 refine CW.skip (QE.next (Cr (Ws (O.ld (p := kGso.is (gDs G n, gLs G n)) rfl (mem_at 3 rfl) Li ty25 rfl) (WP.call (Li := []) (L := [OB.box b4 25 kGso ([], []), OB.box b3 29 kZ q, OB.box b2 3 kN6 (i : Int), OB.box b1 25 kGso (gDs G n, gLs G n)]) .n fn216 (evs.c rfl evs.nil) (c_gso_fresh (gDs G n) (gLs G n) (gDs_Sm hD (by omega)) (gLs_Sm hL (by omega)) (by rw [gDs_len]; omega) (by rw [gLs_len]; omega)) fun p_ Lo_ hp_ => ?_))))
 obtain ⟨vD, vL, us, rfl, rfl, hx_t33⟩ := hp_
 refine WP.al .n z25_pr_val_val_ fun b5 => WP.t .n (O.stW (l := (kPair kVal kVal)) (u := (vD, vL)) 0 rfl rfl rfl ty25 rfl Lr) (Wn (CW.seq (ST.freezeb 6 rfl (kp 0 rfl (kp 1 rfl (kp 2 rfl (kp 3 rfl (kp 4 rfl (.hit (i := 5) rfl (kp 7 rfl (kp 8 rfl (kp 9 rfl (kp 10 rfl (kp 13 rfl (kp 14 rfl (kp 15 rfl (kp 17 rfl (kp 18 rfl (kp 19 rfl (kp 20 rfl (kp 21 rfl (kp 22 rfl (kp 23 rfl (kp 24 rfl (kp 25 rfl (kp 26 rfl (kp 27 rfl (kp 28 rfl (kp 29 rfl (kp 30 rfl (kp 32 rfl (kp 33 rfl .nil))))))))))))))))))))))))))))) (ST.freezeb 5 rfl (kp 0 rfl (kp 1 rfl (kp 2 rfl (kp 3 rfl (kp 4 rfl (kp 5 rfl (.hit (i := 7) rfl (kp 8 rfl (kp 9 rfl (kp 10 rfl (kp 13 rfl (kp 14 rfl (kp 15 rfl (kp 17 rfl (kp 18 rfl (kp 19 rfl (kp 20 rfl (kp 21 rfl (kp 22 rfl (kp 23 rfl (kp 24 rfl (kp 25 rfl (kp 26 rfl (kp 27 rfl (kp 28 rfl (kp 29 rfl (kp 30 rfl (kp 32 rfl (kp 33 rfl .nil))))))))))))))))))))))))))))) ?_))))
 have hvl : us.length = n := by rw [hx_t33, gLs_len]
 refine ST.obtold 3 rfl (OB.fam_eq rfl (yss := (tri n (eF G))) (gLs_tri G n)) (CW.region (Ws (O.mkf (evs.c rfl (evs.c rfl (evs.c rfl evs.nil)))) (Wa rfl (Wr (Wm rfl (Wm rfl (Ws (O.fa rfl fld25_0 rfl) (Ws (O.ld (p := kVC.is (gDs G n)) rfl (mem_at 5 rfl) (Lens.fst Li) ty23 rfl) (Wm rfl (Ws (O.add rfl rfl (c := ((j : Int) + 1)) (w64 (by omega))) (Ws (O.ix ((((j : Int) + 1)).toNat) rfl rfl U23 ty29 (by omega) (v := (uD G (j + 1))) (gDs_at (by omega))) (Ws (O.ldP rfl ty29) (ST.oimp (OImp.ix [0, 2, 3, 1, 4, 5] (by decide) rfl) (WP.callc (Li := [OB.box b5 25 (kPair kVal kVal) (vD, vL), OB.row vL 23 kVal us, OB.fam us 29 kC (tri n (eF G))]) (L := [OB.row vD 29 kC (gDs G n), OB.box b4 25 kGso ([], []), OB.box b1 25 kGso (gDs G n, gLs G n)]) .n rfl fn217 (evs.c rfl (evs.l rfl (kC_Z ((hD (j + 1) (by omega)).sm (by omega))) evs.nil)) (c_gso_AddRow1 vD vL b5 us (tri n (eF G)) i j q (uD G (j + 1)) (by omega) (by rw [tri_rlen hi]; omega) (by rw [tri_get hi hj]; exact (hL i j hi hj).sm (by omega)) ((hq.mul (hD (j + 1) (by omega))).sm (by omega))) fun p_ Lo_ hp_ => ?_))))))))))))))
 obtain ⟨rfl, rfl, hx_t43⟩ := hp_
 refine Wn (CW.seq (CW.seq (ST.obtold 2 rfl (OB.fam_eq rfl (yss := (tri n (addF G i j q 0))) (by rw [tri_get hi hj, tri_set _ hi]; show tri n (updI (eF G) i j (uE G j i j + q * uD G (j + 1))) = _; rw [addF_0])) (CW.region (Wm rfl (Wm rfl (Wn (CW.block (CW.loop (fun (c : Nat) => c ≤ j) (fun (c : Nat) => [(2, kN6.is (j : Int)), (4, VP.pt b1 0), (8, VP.pt b4 0), (10, VP.pt b5 0), (11, VP.clo 217 [VP.pt b5 0, VP.pim kN6 (i : Int), VP.pim kZ q]), (44, kN6.is (j : Int)), (45, kN6.is (c : Int))]) (fun (c : Nat) => [OB.box b5 25 (kPair kVal kVal) (vD, vL), OB.row vL 23 kVal us, OB.fam us 29 kC (tri n (addF G i j q c)), OB.row vD 29 kC (gDs G n), OB.box b4 25 kGso ([], []), OB.box b1 25 kGso (gDs G n, gLs G n)]) (fun (c : Nat) => j - c) 0 (by omega) (Imp.c4 rfl rfl rfl rfl (Imp.cons rfl (Imp.cons rfl (Imp.consLe rfl (is_eq (y := (0 : Int)) (by rfl)) Imp.nil)))) (OImp.refl _) ?_)))))))))
 intro c hc
 refine Cr (Ws (O.lt rfl rfl) (Wn (CW.seq ?_)))
 refine CW.condD rfl (fun h_t46 => ?_) (fun h_t46 => ?_)
 ·
  refine CW.skip (QE.next (CW.seq (CW.block (Cr (Wm rfl (Wa rfl (Wn (CW.region (Wm rfl (Wm rfl (Ws (O.fa rfl fld25_1 rfl) (Ws (O.ld (p := kMC.is (gLs G n)) rfl (mem_at 5 rfl) (Lens.snd Li) ty22 rfl) (Wm rfl (Ws (O.ix j rfl rfl U22 ty23 rfl (v := ((gLs G n).getD j [])) (gd [] (by omega))) (Ws (O.ldP rfl ty23) (Wm rfl (Ws (O.ix c rfl rfl U23 ty29 rfl (v := (uE G c j c)) (gLs_at (by omega) (by omega))) (Ws (O.ldP rfl ty29) (WP.callc (Li := [OB.box b5 25 (kPair kVal kVal) (vD, vL), OB.row vL 23 kVal us, OB.fam us 29 kC (tri n (addF G i j q c))]) (L := [OB.row vD 29 kC (gDs G n), OB.box b4 25 kGso ([], []), OB.box b1 25 kGso (gDs G n, gLs G n)]) .n rfl fn217 (evs.c rfl (evs.l rfl (kC_Z ((hL j c (by omega) (by omega)).sm (by omega))) evs.nil)) (c_gso_AddRow1 vD vL b5 us (tri n (addF G i j q c)) i c q (uE G c j c) (by omega) (by rw [tri_rlen hi]; omega) (by rw [tri_get hi (by omega), addF_at (by omega)]; exact (hL i c hi (by omega)).sm (by omega)) ((hq.mul (hL j c (by omega) (by omega))).sm (by omega))) fun p_ Lo_ hp_ => ?_)))))))))))))))))))
  obtain ⟨rfl, rfl, hx_t58⟩ := hp_
  refine WP.nil (QE.blkN (QE.next (CW.region (Ws (O.add rfl rfl (c := ((c : Int) + 1)) (w64 (by omega))) (Wm rfl (WP.nil (ST.obtold 2 rfl (OB.fam_eq rfl (yss := (tri n (addF G i j q (c + 1)))) (by rw [tri_get hi (by omega), addF_at (by omega), tri_set _ hi, addF_s (by omega)])) ?_)))))))
  exact QE.round (c + 1) (by omega) (by omega) (Imp.c4 rfl rfl rfl rfl (Imp.cons rfl (Imp.cons rfl (Imp.consLe rfl (is_eq (y := (((c + 1) : Nat) : Int)) (by rfl)) Imp.nil)))) (OImp.refl _)
 ·
  refine CW.exit (QE.thenE (QE.thenE (QE.blkH (QE.next (CW.seq (ST.obtold 2 rfl (OB.fam_eq rfl (yss := (gLs (rowI G i j q) n)) (by rw [show c = j by omega]; exact addF_end hs hP hj hi)) (ST.obtold 3 rfl (OB.row_eq (ys := (gDs (rowI G i j q) n)) (gDs_row hs hP hj).symm) (ST.freezeIn (k2 := (kPair kVC kVal)) ((gDs (rowI G i j q) n), vL) 3 0 rfl rfl (fun m_ cs_ h_ c_ => fz_fst m_ cs_ h_ c_) (kp 2 rfl (kp 4 rfl (kp 8 rfl (kp 10 rfl (kp 11 rfl (kp 44 rfl (kp 45 rfl (kp 46 rfl .nil)))))))) (ST.freezeMIn (k2 := kGso) ((gDs (rowI G i j q) n), (gLs (rowI G i j q) n)) 2 1 0 rfl rfl rfl (fun m_ cs_ h_ c_ => fz_snd m_ cs_ h_ c_) (kp 2 rfl (kp 4 rfl (kp 8 rfl (kp 10 rfl (kp 11 rfl (kp 44 rfl (kp 45 rfl (kp 46 rfl .nil)))))))) (CW.region (Ws (O.ld (p := kGso.is ((gDs (rowI G i j q) n), (gLs (rowI G i j q) n))) rfl (mem_at 0 rfl) Li ty25 rfl) (WP.t .n (O.stW (l := kGso) (u := ((gDs (rowI G i j q) n), (gLs (rowI G i j q) n))) 1 rfl rfl rfl ty25 rfl Lr) (Wa rfl (Wn (CW.ret ?_)))))))))))))))
  exact QE.done (.inl rfl) rfl (ResOk.cl rfl (mem_at 1 rfl) ty25 (is_eq (y := (gDs (rowI G i j q) n, gLs (rowI G i j q) n)) (by rfl)) (ResOk.t rfl ResOk.nil)) (OImp.sub (List.nil_sublist _)) ⟨rfl, rfl⟩
theorem c_gso_Swap1 (B : Nat) (a b c x e : Int) (ha : Sz B a) (hb : Sz B b) (hc : Sz B c) (hx : Sz B x) (he : Sz B e) (h0 : e ≠ 0) (hB : B ≤ 68719476736) : Fn Tryz.prog 222 [kZ.is a, kZ.is b, kZ.is c, kZ.is x, VP.pim kC e] (kC.is ((a * b + c * x).fdiv e)) := by
 refine Con.enter Tryz.func222 rfl rfl fun m w => Cr (WP.bx .n rfl fun b1 => WP.bx .n rfl fun b2 => WP.bx .n rfl fun b3 => WP.bx .n rfl fun b4 => WP.al .n z29_C fun b5 => Wn (CW.seq ?_))
 refine CW.drawM (Γ := [.fr (kZ.is a), .fr (kZ.is b), .fr (kC.is (a * b)), .fr (kZ.is c), .fr (kZ.is x), .fr (kC.is (c * x)), .fr (kC.is ((a * b) + (c * x))), .fr (kC.is e), .fr (VP.tup [kC.is (((a * b) + (c * x)).fdiv e), kC.is (if e = 0 then 0 else ((a * b) + (c * x)).fmod e), kN6.is (if e = 0 then 11 else 0)]), .fr (VP.tup [kC.is (((a * b) + (c * x)).fdiv e), kC.is (if e = 0 then 0 else ((a * b) + (c * x)).fmod e), kN6.is (if e = 0 then 11 else 0)]), .fr (kC.is (((a * b) + (c * x)).fdiv e)), .lt (kC.is (if e = 0 then 0 else ((a * b) + (c * x)).fmod e)), .lt (kN6.is (if e = 0 then 11 else 0)), .al (fun b => OB.box b 29 kC 0), .al (fun b => OB.box b 29 kC 0)]) (of_ rfl (fun N => O.ld rfl (mem_app N (mem_at 4 rfl)) Li ty29 rfl) (of_ rfl (fun N => O.ld rfl (mem_app N (mem_at 3 rfl)) Li ty29 rfl) (of_ rfl (fun N => O.fn fn122 (evs.c rfl (evs.c rfl evs.nil)) (c_zint_Mul a b)) (of_ rfl (fun N => O.ld rfl (mem_app N (mem_at 2 rfl)) Li ty29 rfl) (of_ rfl (fun N => O.ld rfl (mem_app N (mem_at 1 rfl)) Li ty29 rfl) (of_ rfl (fun N => O.fn fn122 (evs.c rfl (evs.c rfl evs.nil)) (c_zint_Mul c x)) (of_ rfl (fun N => O.fn fn189 (evs.l rfl (kC_Z ((ha.mul hb).sm (by omega))) (evs.l rfl (kC_Z ((hc.mul hx).sm (by omega))) evs.nil)) (c_zint_Add (a * b) (c * x))) (of_ rfl (fun N => O.ldP rfl ty29) (of_ rfl (fun N => O.fn fn214 (evs.l rfl (kC_Z ((Sz.add1 (ha.mul hb) (hc.mul hx)).sm (by omega))) (evs.l rfl (kC_Z (he.sm (by omega))) evs.nil)) (c_zint_Floor ((a * b) + (c * x)) e)) (om rfl rfl (of_ rfl (fun N => O.ext rfl rfl) (oc (Ob.l rfl .n (OV.ext rfl rfl)) (oc (Ob.l rfl .n (OV.ext rfl rfl)) (oc (Ob.a rfl z29_C) (oc (Ob.a rfl z29_C) oz))))))))))))))) (fun σ1 => ?_)
 refine WP.t .n (O.stW (l := kC) (u := ((a * b) + (c * x)).fdiv e) 0 rfl rfl rfl ty29 rfl Lr) (WP.t .n (O.stW (l := kC) (u := if e = 0 then 0 else ((a * b) + (c * x)).fmod e) 1 rfl rfl rfl ty29 rfl Lr) (Wa rfl (Wr (Ws (O.ld rfl (mem_at 0 rfl) Li ty29 rfl) (WP.t .n (O.stW (l := kC) (u := ((a * b) + (c * x)).fdiv e) 2 rfl rfl rfl ty29 rfl Lr) (Wn (CW.ret ?_)))))))
 exact QE.done (.inl rfl) rfl (ResOk.cl rfl (mem_at 2 rfl) ty29 (is_eq (y := (a * b + c * x).fdiv e) (by rfl)) ResOk.nil) (OImp.sub (List.nil_sublist _)) ⟨rfl, rfl⟩
theorem c_gso_Swap (G : Nat → Nat → Int) (n B : Nat) (h0 : 0 < n) (h12 : n ≤ 12) (hP : PosU G n) (hD : ∀ k, k ≤ n → Sz B (uD G k)) (hB : B ≤ 68719476736) (p : Nat) (hp1 : p + 1 < n) (hs : SymG G) (hL : ∀ x k, x < n → k < x → Sz B (uE G k x k)) : Fn Tryz.prog 150 [kGso.is (gDs G n, gLs G n), kN6.is ((p : Int) + 1)] (VP.tup [kGso.is (gDs (swpI G p) n, gLs (swpI G p) n), kN6.is 0]) := by
 refine Con.enter Tryz.func150 rfl rfl fun m w => ?_
 have hLl : (gLs G n).length = n := gLs_len G n
 have hDl : (gDs G n).length = n + 1 := gDs_len G n
 have hP2 := swpI_pos hs hP hp1
 have hl0 := hL (p + 1) p (by omega) (by omega)
 have he0 := uD_ne hP (show p + 1 ≤ n by omega)
 refine Cr (WP.bx .n rfl fun b1 => WP.al .n z25_pr_sl_C_sl_sl_C_ fun b2 => Wa rfl (Wn (CW.seq (Cr (Ws (O.ld (p := kGso.is (gDs G n, gLs G n)) rfl (mem_at 1 rfl) Li ty25 rfl) (Ws (O.fn fn133 (evs.c rfl evs.nil) (c_gso_good G n B (by assumption) (by assumption) (by assumption) (by assumption) (by assumption))) (Ws (O.not (a := true) rfl) (Wn (CW.condF rfl (CW.skip (QE.next (CW.seq (Cr (Wm rfl (Ws (O.lt rfl rfl) (Wm rfl ?_))))))))))))))))
 refine WP.splitD 22 rfl (fun h => absurd h (by omega)) (fun h_t22 => ?_)
 refine WP.s (.g rfl rfl) (O.mv rfl) (WP.s (.g rfl rfl) (O.fa rfl fld25_1 rfl) (WP.s (.g rfl rfl) (O.ld (p := kMC.is (gLs G n)) rfl (mem_at 1 rfl) (Lens.snd Li) ty22 rfl) (WP.s (.g rfl rfl) (O.lenS rfl U22) (WP.s (.g rfl rfl) (O.ge rfl rfl) (Ws (O.pickF rfl rfl) (Wn ?_))))))
 refine CW.condD rfl (fun h => absurd h (by rw [gLs_len]; omega)) (fun h_t28 => ?_)
 refine CW.skip (QE.next (Cr (Ws (O.ld (p := kGso.is (gDs G n, gLs G n)) rfl (mem_at 1 rfl) Li ty25 rfl) (WP.call (Li := []) (L := [OB.box b2 25 kGso ([], []), OB.box b1 25 kGso (gDs G n, gLs G n)]) .n fn216 (evs.c rfl evs.nil) (c_gso_fresh (gDs G n) (gLs G n) (gDs_Sm hD (by omega)) (gLs_Sm hL (by omega)) (by rw [gDs_len]; omega) (by rw [gLs_len]; omega)) fun p_ Lo_ hp_ => ?_))))
 obtain ⟨vD, vL, us, rfl, rfl, hx_t31⟩ := hp_
 refine WP.al .n z25_pr_val_val_ fun b3 => WP.t .n (O.stW (l := (kPair kVal kVal)) (u := (vD, vL)) 0 rfl rfl rfl ty25 rfl Lr) (Wn (CW.seq ?_))
 have hvl : us.length = n := by rw [hx_t31, gLs_len]
 refine ST.obtold 3 rfl (OB.fam_eq rfl (yss := (tri n (eF G))) (gLs_tri G n)) ?_
 refine CW.drawS (Γ := [.fr (VP.pt b1 0), .fr (kVC.is (gDs G n)), .fr (kN6.is ((p : Int) + 1)), .fr (kN6.is (((p : Int) + 1) - 1)), .fr (VP.pim kC (uD G p)), .fr (kC.is (uD G p)), .fr (VP.pt b1 0), .fr (kVC.is (gDs G n)), .fr (kN6.is ((p : Int) + 1)), .fr (VP.pim kC (uD G (p + 1))), .fr (kC.is (uD G (p + 1))), .fr (VP.pt b1 0), .fr (kVC.is (gDs G n)), .fr (kN6.is ((p : Int) + 1)), .fr (kN6.is (((p : Int) + 1) + 1)), .fr (VP.pim kC (uD G (p + 2))), .fr (kC.is (uD G (p + 2))), .fr (VP.pt b1 1), .fr (kMC.is (gLs G n)), .fr (kN6.is ((p : Int) + 1)), .fr (VP.pim kVC ((gLs G n).getD (p + 1) [])), .fr (kVC.is ((gLs G n).getD (p + 1) [])), .fr (kN6.is ((p : Int) + 1)), .fr (kN6.is (((p : Int) + 1) - 1)), .fr (VP.pim kC (uE G p (p + 1) p)), .fr (kC.is (uE G p (p + 1) p)), .al (fun b => OB.box b 29 kC 0) (fun b => OB.box b 29 kC (uD G p)) 30, .al (fun b => OB.box b 29 kC 0) (fun b => OB.box b 29 kC (uD G (p + 1))) 31, .al (fun b => OB.box b 29 kC 0) (fun b => OB.box b 29 kC (uD G (p + 2))) 32, .al (fun b => OB.box b 29 kC 0) (fun b => OB.box b 29 kC (uE G p (p + 1) p)) 33, .st 26, .st 27, .st 28, .st 29]) (by kernel_rfl) (ChkS.of (sh := [(0, 0), (0, 0), (0, 0), (0, 0), (0, 0), (0, 0), (0, 0), (0, 0), (0, 0), (0, 0), (0, 0), (0, 0), (0, 0), (0, 0), (0, 0), (0, 0), (0, 0), (0, 0), (0, 0), (0, 0), (0, 0), (0, 0), (0, 0), (0, 0), (0, 0), (0, 0), (1, 30), (1, 31), (1, 32), (1, 33), (2, 26), (2, 27), (2, 28), (2, 29)]) rfl (by kernel_rfl) rfl) (fun q_ x_ h_ => ?_) (fun σ1 => ?_)
 ·
  match q_, h_ with
  | 0, h_ => cases h_; exact ObS.f rfl (fun σ1 => .n) (fun σ1 N => (O.fa rfl fld25_0 rfl))
  | 1, h_ => cases h_; exact ObS.f rfl (fun σ1 => .n) (fun σ1 N => (O.ld (p := kVC.is (gDs G n)) rfl (mem_app N (mem_at 5 rfl)) (Lens.fst Li) ty23 rfl))
  | 2, h_ => cases h_; exact ObS.f rfl (fun σ1 => .n) (fun σ1 N => (O.mv rfl))
  | 3, h_ => cases h_; exact ObS.f rfl (fun σ1 => .n) (fun σ1 N => (O.sub rfl rfl (c := (((p : Int) + 1) - 1)) (w64 (by omega))))
  | 4, h_ => cases h_; exact ObS.f rfl (fun σ1 => .n) (fun σ1 N => (O.ix p rfl rfl U23 ty29 (by omega) (v := (uD G p)) (gDs_at (by omega))))
  | 5, h_ => cases h_; exact ObS.f rfl (fun σ1 => .n) (fun σ1 N => (O.ldP rfl ty29))
  | 6, h_ => cases h_; exact ObS.f rfl (fun σ1 => .n) (fun σ1 N => (O.fa rfl fld25_0 rfl))
  | 7, h_ => cases h_; exact ObS.f rfl (fun σ1 => .n) (fun σ1 N => (O.ld (p := kVC.is (gDs G n)) rfl (mem_app N (mem_at 5 rfl)) (Lens.fst Li) ty23 rfl))
  | 8, h_ => cases h_; exact ObS.f rfl (fun σ1 => .n) (fun σ1 N => (O.mv rfl))
  | 9, h_ => cases h_; exact ObS.f rfl (fun σ1 => .n) (fun σ1 N => (O.ix (p + 1) rfl rfl U23 ty29 (by omega) (v := (uD G (p + 1))) (gDs_at (by omega))))
  | 10, h_ => cases h_; exact ObS.f rfl (fun σ1 => .n) (fun σ1 N => (O.ldP rfl ty29))
  | 11, h_ => cases h_; exact ObS.f rfl (fun σ1 => .n) (fun σ1 N => (O.fa rfl fld25_0 rfl))
  | 12, h_ => cases h_; exact ObS.f rfl (fun σ1 => .n) (fun σ1 N => (O.ld (p := kVC.is (gDs G n)) rfl (mem_app N (mem_at 5 rfl)) (Lens.fst Li) ty23 rfl))
  | 13, h_ => cases h_; exact ObS.f rfl (fun σ1 => .n) (fun σ1 N => (O.mv rfl))
  | 14, h_ => cases h_; exact ObS.f rfl (fun σ1 => .n) (fun σ1 N => (O.add rfl rfl (c := (((p : Int) + 1) + 1)) (w64 (by omega))))
  | 15, h_ => cases h_; exact ObS.f rfl (fun σ1 => .n) (fun σ1 N => (O.ix (p + 2) rfl rfl U23 ty29 (by omega) (v := (uD G (p + 2))) (gDs_at (by omega))))
  | 16, h_ => cases h_; exact ObS.f rfl (fun σ1 => .n) (fun σ1 N => (O.ldP rfl ty29))
  | 17, h_ => cases h_; exact ObS.f rfl (fun σ1 => .n) (fun σ1 N => (O.fa rfl fld25_1 rfl))
  | 18, h_ => cases h_; exact ObS.f rfl (fun σ1 => .n) (fun σ1 N => (O.ld (p := kMC.is (gLs G n)) rfl (mem_app N (mem_at 5 rfl)) (Lens.snd Li) ty22 rfl))
  | 19, h_ => cases h_; exact ObS.f rfl (fun σ1 => .n) (fun σ1 N => (O.mv rfl))
  | 20, h_ => cases h_; exact ObS.f rfl (fun σ1 => .n) (fun σ1 N => (O.ix (p + 1) rfl rfl U22 ty23 (by omega) (v := ((gLs G n).getD (p + 1) [])) (gd [] (by omega))))
  | 21, h_ => cases h_; exact ObS.f rfl (fun σ1 => .n) (fun σ1 N => (O.ldP rfl ty23))
  | 22, h_ => cases h_; exact ObS.f rfl (fun σ1 => .n) (fun σ1 N => (O.mv rfl))
  | 23, h_ => cases h_; exact ObS.f rfl (fun σ1 => .n) (fun σ1 N => (O.sub rfl rfl (c := (((p : Int) + 1) - 1)) (w64 (by omega))))
  | 24, h_ => cases h_; exact ObS.f rfl (fun σ1 => .n) (fun σ1 N => (O.ix p rfl rfl U23 ty29 (by omega) (v := (uE G p (p + 1) p)) (gLs_at (by omega) (by omega))))
  | 25, h_ => cases h_; exact ObS.f rfl (fun σ1 => .n) (fun σ1 N => (O.ldP rfl ty29))
  | 26, h_ => cases h_; exact ObS.a rfl z29_C
  | 27, h_ => cases h_; exact ObS.a rfl z29_C
  | 28, h_ => cases h_; exact ObS.a rfl z29_C
  | 29, h_ => cases h_; exact ObS.a rfl z29_C
  | 30, h_ => cases h_; exact ObS.s rfl rfl (fun σ1 => .n) (fun σ1 N => (O.stW (l := kC) (u := (uD G p)) 0 rfl rfl rfl ty29 rfl Lr))
  | 31, h_ => cases h_; exact ObS.s rfl rfl (fun σ1 => .n) (fun σ1 N => (O.stW (l := kC) (u := (uD G (p + 1))) 0 rfl rfl rfl ty29 rfl Lr))
  | 32, h_ => cases h_; exact ObS.s rfl rfl (fun σ1 => .n) (fun σ1 N => (O.stW (l := kC) (u := (uD G (p + 2))) 0 rfl rfl rfl ty29 rfl Lr))
  | 33, h_ => cases h_; exact ObS.s rfl rfl (fun σ1 => .n) (fun σ1 N => (O.stW (l := kC) (u := (uE G p (p + 1) p)) 0 rfl rfl rfl ty29 rfl Lr))
  | n_ + 34, h_ => simp at h_
 refine QE.next (CW.seq (ST.freezeb 1 rfl (kp 0 rfl (kp 1 rfl (kp 2 rfl (kp 4 rfl (kp 5 rfl (kp 6 rfl (kp 7 rfl (.hit (i := 8) rfl (kp 9 rfl (kp 10 rfl (kp 16 rfl (kp 17 rfl (kp 18 rfl (kp 20 rfl (kp 21 rfl (kp 22 rfl (kp 23 rfl (kp 24 rfl (kp 25 rfl (kp 26 rfl (kp 27 rfl (kp 28 rfl (kp 30 rfl (kp 31 rfl (kp 32 rfl (kp 33 rfl (kp 34 rfl (kp 35 rfl (kp 36 rfl (kp 37 rfl (kp 38 rfl (kp 39 rfl (kp 40 rfl (kp 41 rfl (kp 42 rfl (kp 43 rfl (kp 44 rfl (kp 45 rfl (kp 46 rfl (kp 47 rfl (kp 48 rfl (kp 49 rfl (kp 50 rfl (kp 51 rfl (kp 52 rfl (kp 53 rfl (kp 54 rfl (kp 55 rfl (kp 56 rfl (kp 57 rfl .nil)))))))))))))))))))))))))))))))))))))))))))))))))) (CW.region (Ws (O.mkf (evs.c rfl evs.nil)) (Wa rfl (Wn (CW.seq ?_)))))))
 refine CW.drawM (Γ := [.fr (VP.pt b3 0), .fr (VP.ex vD), .fr (kN6.is ((p : Int) + 1)), .fr (VP.clo 222 [VP.pim kC (uD G (p + 1))]), .fr (kC.is (uD G p)), .fr (kC.is (uD G (p + 2))), .fr (kC.is (uE G p (p + 1) p)), .fr (kC.is (uE G p (p + 1) p)), .fr (kC.is (((uD G p) * (uD G (p + 2)) + (uE G p (p + 1) p) * (uE G p (p + 1) p)).fdiv (uD G (p + 1)))), .fr (VP.pel vD ((p + 1) * 2))]) (of_ rfl (fun N => O.fa rfl fld25_0 rfl) (of_ rfl (fun N => OpOk.le (O.ld (p := kVal.is vD) rfl (mem_app N (mem_at 3 rfl)) (Lens.fst Li) ty23 rfl) (val_ex _)) (om rfl rfl (om rfl rfl (of_ rfl (fun N => O.ld rfl (mem_app N (mem_at 0 rfl)) Li ty29 rfl) (of_ rfl (fun N => O.ld rfl (mem_app N (mem_at 1 rfl)) Li ty29 rfl) (of_ rfl (fun N => O.ld rfl (mem_app N (mem_at 2 rfl)) Li ty29 rfl) (of_ rfl (fun N => O.ld rfl (mem_app N (mem_at 2 rfl)) Li ty29 rfl) (of_ rfl (fun N => O.clo rfl fn222 (evs.l rfl (kC_Z ((hD p (by omega)).sm (by omega))) (evs.l rfl (kC_Z ((hD (p + 2) (by omega)).sm (by omega))) (evs.l rfl (kC_Z (hl0.sm (by omega))) (evs.l rfl (kC_Z (hl0.sm (by omega))) evs.nil)))) (c_gso_Swap1 B (uD G p) (uD G (p + 2)) (uE G p (p + 1) p) (uE G p (p + 1) p) (uD G (p + 1)) (hD _ (by omega)) (hD _ (by omega)) hl0 hl0 (hD _ (by omega)) he0 (by assumption))) (of_ rfl (fun N => O.ixR (k := kC) (xs := gDs G n) (n := ((p : Int) + 1)) (p + 1) rfl rfl (mem_app N (mem_at 4 rfl)) U23 ty29 (by omega) (by omega)) oz)))))))))) (fun σ2 => ?_)
 refine WP.t .n (O.stR 4 (p + 1) rfl rfl Li rfl (y0 := ((gDs G n).getD (p + 1) 0)) (gd 0 (by omega)) ty29 rfl Lr) (Wn (CW.seq (CW.seq (ST.obtold 4 rfl (OB.row_eq (ys := (gDs (swpI G p) n)) (gDs_swp hs hP hp1)) ?_))))
 have hD2 : Sz (B + B + 1) (uD (swpI G p) (p + 1)) := by rw [← swD_eq hs hP hp1]; exact Sz.fdiv (Sz.add1 ((hD p (by omega)).mul (hD (p + 2) (by omega))) (hl0.mul hl0)) (hP.uD (by omega))
 refine CW.region (Ws (O.fa rfl fld25_0 rfl) (Ws (OpOk.le (O.ld (p := kVal.is vD) rfl (mem_at 3 rfl) (Lens.fst Li) ty23 rfl) (val_ex _)) (Wm rfl (Ws (O.ixR (k := kC) (xs := (gDs (swpI G p) n)) (n := ((p : Int) + 1)) (p + 1) rfl rfl (mem_at 4 rfl) U23 ty29 (by omega) (by simp only [gRow_len, gDs_len, gLs_len, List.length_set]; omega)) (Ws (O.ldR (k := kC) (xs := (gDs (swpI G p) n)) (p + 1) rfl (mem_at 4 rfl) Li (ho := rfl) (y := (uD (swpI G p) (p + 1))) (gDs_at (by omega)) ty29 rfl) (Ws (O.fn fn57 (evs.l rfl (kC_Z (hD2.sm (by omega))) evs.nil) (c_zint_Sign (uD (swpI G p) (p + 1)))) (Ws (O.le rfl rfl) (Wn ?_))))))))
 refine CW.condD rfl (fun h => absurd h (by have h1 := hP2.uD (show p + 1 ≤ n by omega); have := Int.sign_eq_one_of_pos h1; omega)) (fun h_t75 => ?_)
 refine CW.skip (QE.next (CW.seq (Cr (Wm rfl (Ws (O.sub rfl rfl (c := (p : Int)) (w64 (by omega))) (Wm rfl (Wn (CW.block (ST.obtold 6 rfl (OB.fam_eq rfl (yss := (tri n (swF1 G p 0))) (by rw [swF1_0])) (CW.loop (fun (c : Nat) => c ≤ p) (fun (c : Nat) => [(1, kN6.is ((p : Int) + 1)), (2, VP.pt b1 0), (4, VP.pt b2 0), (6, VP.pt b3 0), (7, VP.pt (σ1 26) 0), (9, VP.pt (σ1 28) 0), (10, VP.pt (σ1 29) 0), (11, VP.clo 222 [VP.pim kC (uD G (p + 1))]), (78, kN6.is (p : Int)), (79, kN6.is (c : Int))]) (fun (c : Nat) => [OB.box (σ1 26) 29 kC (uD G p), OB.box (σ1 28) 29 kC (uD G (p + 2)), OB.box (σ1 29) 29 kC (uE G p (p + 1) p), OB.box b3 25 (kPair kVal kVal) (vD, vL), OB.row vD 29 kC (gDs (swpI G p) n), OB.row vL 23 kVal us, OB.fam us 29 kC (tri n (swF1 G p c)), OB.box b2 25 kGso ([], []), OB.box b1 25 kGso (gDs G n, gLs G n)]) (fun (c : Nat) => p - c) 0 (by omega) (Imp.c4 rfl rfl rfl rfl (Imp.c4 rfl rfl rfl rfl (Imp.cons rfl (Imp.consLe rfl (is_eq (y := (0 : Int)) (by rfl)) Imp.nil)))) (OImp.refl _) ?_))))))))))
 intro c hc
 refine Cr (Ws (O.lt rfl rfl) (Wn (CW.seq ?_)))
 refine CW.condD rfl (fun h_t80 => ?_) (fun h_t80 => ?_)
 ·
  refine CW.skip (QE.next (CW.seq (CW.block (Cr (Wm rfl (Wa rfl (Wn ?_)))))))
  refine CW.drawM (Γ := [.fr (VP.pt b3 1), .fr (VP.ex vL), .fr (kN6.is ((p : Int) + 1)), .fr (kN6.is (((p : Int) + 1) - 1)), .fr (VP.pel vL (p * 1)), .fr (VP.ex (us.getD p nilV)), .fr (kN6.is (c : Int)), .fr (VP.pt b3 1), .fr (VP.ex vL), .fr (kN6.is ((p : Int) + 1)), .fr (VP.pel vL ((p + 1) * 1)), .fr (VP.ex (us.getD (p + 1) nilV)), .lt (kN6.is (c : Int)), .fr (VP.pt b3 1), .fr (VP.ex vL), .fr (kN6.is ((p : Int) + 1)), .fr (VP.pel vL ((p + 1) * 1)), .fr (VP.ex (us.getD (p + 1) nilV)), .fr (kN6.is (c : Int)), .fr (VP.pel (us.getD (p + 1) nilV) (c * 2)), .fr (kC.is (uE G c (p + 1) c)), .fr (VP.pt b3 1), .fr (VP.ex vL), .fr (kN6.is ((p : Int) + 1)), .fr (kN6.is (((p : Int) + 1) - 1)), .fr (VP.pel vL (p * 1)), .fr (VP.ex (us.getD p nilV)), .fr (kN6.is (c : Int)), .fr (VP.pel (us.getD p nilV) (c * 2)), .fr (kC.is (uE G c p c))]) (of_ rfl (fun N => O.fa rfl fld25_1 rfl) (of_ rfl (fun N => OpOk.le (O.ld (p := kVal.is vL) rfl (mem_app N (mem_at 3 rfl)) (Lens.snd Li) ty22 rfl) (val_ex _)) (om rfl rfl (of_ rfl (fun N => O.sub rfl rfl (c := (((p : Int) + 1) - 1)) (w64 (by omega))) (of_ rfl (fun N => O.ixR (k := kVal) (xs := us) (n := (((p : Int) + 1) - 1)) p rfl rfl (mem_app N (mem_at 5 rfl)) U22 ty23 (by omega) (by omega)) (of_ rfl (fun N => OpOk.le (O.ldR p rfl (mem_app N (mem_at 5 rfl)) Li rfl (y := (us.getD p nilV)) (gd nilV (by omega)) ty23 rfl) (val_ex _)) (om rfl rfl (of_ rfl (fun N => O.fa rfl fld25_1 rfl) (of_ rfl (fun N => OpOk.le (O.ld (p := kVal.is vL) rfl (mem_app N (mem_at 3 rfl)) (Lens.snd Li) ty22 rfl) (val_ex _)) (om rfl rfl (of_ rfl (fun N => O.ixR (k := kVal) (xs := us) (n := ((p : Int) + 1)) (p + 1) rfl rfl (mem_app N (mem_at 5 rfl)) U22 ty23 (by omega) (by omega)) (of_ rfl (fun N => OpOk.le (O.ldR (p + 1) rfl (mem_app N (mem_at 5 rfl)) Li rfl (y := (us.getD (p + 1) nilV)) (gd nilV (by omega)) ty23 rfl) (val_ex _)) (oc (Ob.l rfl .n (OV.mv rfl)) (of_ rfl (fun N => O.fa rfl fld25_1 rfl) (of_ rfl (fun N => OpOk.le (O.ld (p := kVal.is vL) rfl (mem_app N (mem_at 3 rfl)) (Lens.snd Li) ty22 rfl) (val_ex _)) (om rfl rfl (of_ rfl (fun N => O.ixR (k := kVal) (xs := us) (n := ((p : Int) + 1)) (p + 1) rfl rfl (mem_app N (mem_at 5 rfl)) U22 ty23 (by omega) (by omega)) (of_ rfl (fun N => OpOk.le (O.ldR (p + 1) rfl (mem_app N (mem_at 5 rfl)) Li rfl (y := (us.getD (p + 1) nilV)) (gd nilV (by omega)) ty23 rfl) (val_ex _)) (om rfl rfl (of_ rfl (fun N => O.ixF (e := 29) (k := kC) (xss := (tri n (swF1 G p c))) (n := (c : Int)) (p + 1) c rfl rfl (mem_app N (mem_at 6 rfl)) rfl (by omega) U23 ty29 rfl (by rw [tri_rlen (by omega)]; omega)) (of_ rfl (fun N => O.ldF (k := kC) (xss := (tri n (swF1 G p c))) (p + 1) c rfl (mem_app N (mem_at 6 rfl)) rfl (by omega) Li rfl (y := (uE G c (p + 1) c)) (tri_at2 (by omega) (by omega) swF1_a) ty29 rfl) (of_ rfl (fun N => O.fa rfl fld25_1 rfl) (of_ rfl (fun N => OpOk.le (O.ld (p := kVal.is vL) rfl (mem_app N (mem_at 3 rfl)) (Lens.snd Li) ty22 rfl) (val_ex _)) (om rfl rfl (of_ rfl (fun N => O.sub rfl rfl (c := (((p : Int) + 1) - 1)) (w64 (by omega))) (of_ rfl (fun N => O.ixR (k := kVal) (xs := us) (n := (((p : Int) + 1) - 1)) p rfl rfl (mem_app N (mem_at 5 rfl)) U22 ty23 (by omega) (by omega)) (of_ rfl (fun N => OpOk.le (O.ldR p rfl (mem_app N (mem_at 5 rfl)) Li rfl (y := (us.getD p nilV)) (gd nilV (by omega)) ty23 rfl) (val_ex _)) (om rfl rfl (of_ rfl (fun N => O.ixF (e := 29) (k := kC) (xss := (tri n (swF1 G p c))) (n := (c : Int)) p c rfl rfl (mem_app N (mem_at 6 rfl)) rfl (by omega) U23 ty29 rfl (by rw [tri_rlen (by omega)]; omega)) (of_ rfl (fun N => O.ldF (k := kC) (xss := (tri n (swF1 G p c))) p c rfl (mem_app N (mem_at 6 rfl)) rfl (by omega) Li rfl (y := (uE G c p c)) (tri_at2 (by omega) (by omega) swF1_b) ty29 rfl) oz)))))))))))))))))))))))))))))) (fun σ3 => ?_)
  refine Ws (O.ixF (e := 29) (k := kC) (xss := (tri n (swF1 G p c))) (n := (c : Int)) p c rfl rfl (mem_at 6 rfl) rfl (by omega) U23 ty29 rfl (by rw [tri_rlen (by omega)]; omega)) (WP.t .n (O.stF 6 p c rfl rfl rfl (by omega) Li rfl (y0 := (((tri n (swF1 G p c)).getD p []).getD c 0)) (gd 0 (by rw [tri_rlen (by omega)]; omega)) ty29 rfl Lr) (Ws (O.ixF (e := 29) (k := kC) (xss := ((tri n (swF1 G p c)).set p (((tri n (swF1 G p c)).getD p []).set c (uE G c (p + 1) c)))) (n := (c : Int)) (p + 1) c rfl rfl (mem_at 6 rfl) rfl (by omega) U23 ty29 rfl (by rw [tri_set _ (by omega), tri_rlen (by omega)]; omega)) (WP.t .n (O.stF 6 (p + 1) c rfl rfl rfl (by omega) Li rfl (y0 := ((((tri n (swF1 G p c)).set p (((tri n (swF1 G p c)).getD p []).set c (uE G c (p + 1) c))).getD (p + 1) []).getD c 0)) (gd 0 (by rw [tri_set _ (by omega), tri_rlen (by omega)]; omega)) ty29 rfl Lr) (WP.nil (QE.blkN (QE.next (CW.region (Ws (O.add rfl rfl (c := ((c : Int) + 1)) (w64 (by omega))) (Wm rfl (WP.nil (ST.obtold 6 rfl (OB.fam_eq rfl (yss := (tri n (swF1 G p (c + 1)))) (by rw [tri_set _ (by omega), tri_set _ (by omega), swF1_s])) ?_)))))))))))
  exact QE.round (c + 1) (by omega) (by omega) (Imp.c4 rfl rfl rfl rfl (Imp.c4 rfl rfl rfl rfl (Imp.cons rfl (Imp.consLe rfl (is_eq (y := (((c + 1) : Nat) : Int)) (by rfl)) Imp.nil)))) (OImp.refl _)
 ·
  refine CW.exit (QE.thenE (QE.thenE (QE.blkH (QE.next (CW.seq (Cr (Wm rfl (Ws (O.add rfl rfl (c := ((p + 2 : Nat) : Int)) (w64 (by omega))) (Wa rfl (Wn (CW.block (ST.obtold 6 rfl (OB.fam_eq rfl (yss := (tri n (swF2 G p (p + 2)))) (by rw [show c = p by omega, swF2_0])) (CW.loop (fun (c : Nat) => p + 2 ≤ c ∧ c ≤ n) (fun (c : Nat) => [(1, kN6.is ((p : Int) + 1)), (2, VP.pt b1 0), (4, VP.pt b2 0), (6, VP.pt b3 0), (7, VP.pt (σ1 26) 0), (9, VP.pt (σ1 28) 0), (10, VP.pt (σ1 29) 0), (11, VP.clo 222 [VP.pim kC (uD G (p + 1))]), (13, kN6.is (c : Int))]) (fun (c : Nat) => [OB.box (σ1 26) 29 kC (uD G p), OB.box (σ1 28) 29 kC (uD G (p + 2)), OB.box (σ1 29) 29 kC (uE G p (p + 1) p), OB.box b3 25 (kPair kVal kVal) (vD, vL), OB.row vD 29 kC (gDs (swpI G p) n), OB.row vL 23 kVal us, OB.fam us 29 kC (tri n (swF2 G p c)), OB.box b2 25 kGso ([], []), OB.box b1 25 kGso (gDs G n, gLs G n)]) (fun (c : Nat) => n - c) (p + 2) ⟨Nat.le_refl _, by omega⟩ (Imp.c4 rfl rfl rfl rfl (Imp.c4 rfl rfl rfl rfl (Imp.consLe rfl (is_eq (y := (((p + 2) : Nat) : Int)) (by rfl)) Imp.nil))) (OImp.refl _) ?_)))))))))))))
  intro c ⟨hc0, hc⟩
  refine CW.seq (Cr (Wm rfl (Ws (O.fa rfl fld25_1 rfl) (Ws (O.ld (p := kMC.is (gLs G n)) rfl (mem_at 8 rfl) (Lens.snd Li) ty22 rfl) (Ws (O.lenS rfl U22) (Ws (O.lt rfl rfl) (Wn ?_)))))))
  refine CW.condD rfl (fun h_t121 => ?_) (fun h_t121 => ?_)
  ·
   refine CW.skip (QE.next (CW.seq (CW.block (CW.seq ?_))))
   refine CW.drawS (Γ := [.fr (VP.pt b1 1), .fr (kMC.is (gLs G n)), .fr (kN6.is (c : Int)), .fr (VP.pim kVC ((gLs G n).getD c [])), .fr (kVC.is ((gLs G n).getD c [])), .fr (kN6.is ((p : Int) + 1)), .fr (kN6.is (((p : Int) + 1) - 1)), .fr (VP.pim kC (uE G p c p)), .fr (kC.is (uE G p c p)), .fr (VP.pt b1 1), .fr (kMC.is (gLs G n)), .fr (kN6.is (c : Int)), .fr (VP.pim kVC ((gLs G n).getD c [])), .fr (kVC.is ((gLs G n).getD c [])), .fr (kN6.is ((p : Int) + 1)), .fr (VP.pim kC (uE G (p + 1) c (p + 1))), .fr (kC.is (uE G (p + 1) c (p + 1))), .al (fun b => OB.box b 29 kC 0) (fun b => OB.box b 29 kC (uE G p c p)) 19, .al (fun b => OB.box b 29 kC 0) (fun b => OB.box b 29 kC (uE G (p + 1) c (p + 1))) 20, .st 17, .st 18]) (by kernel_rfl) (ChkS.of (sh := [(0, 0), (0, 0), (0, 0), (0, 0), (0, 0), (0, 0), (0, 0), (0, 0), (0, 0), (0, 0), (0, 0), (0, 0), (0, 0), (0, 0), (0, 0), (0, 0), (0, 0), (1, 19), (1, 20), (2, 17), (2, 18)]) rfl (by kernel_rfl) rfl) (fun q_ x_ h_ => ?_) (fun σ4 => ?_)
   ·
    match q_, h_ with
    | 0, h_ => cases h_; exact ObS.f rfl (fun σ4 => .n) (fun σ4 N => (O.fa rfl fld25_1 rfl))
    | 1, h_ => cases h_; exact ObS.f rfl (fun σ4 => .n) (fun σ4 N => (O.ld (p := kMC.is (gLs G n)) rfl (mem_app N (mem_at 8 rfl)) (Lens.snd Li) ty22 rfl))
    | 2, h_ => cases h_; exact ObS.f rfl (fun σ4 => .n) (fun σ4 N => (O.mv rfl))
    | 3, h_ => cases h_; exact ObS.f rfl (fun σ4 => .n) (fun σ4 N => (O.ix c rfl rfl U22 ty23 rfl (v := ((gLs G n).getD c [])) (gd [] (by omega))))
    | 4, h_ => cases h_; exact ObS.f rfl (fun σ4 => .n) (fun σ4 N => (O.ldP rfl ty23))
    | 5, h_ => cases h_; exact ObS.f rfl (fun σ4 => .n) (fun σ4 N => (O.mv rfl))
    | 6, h_ => cases h_; exact ObS.f rfl (fun σ4 => .n) (fun σ4 N => (O.sub rfl rfl (c := (((p : Int) + 1) - 1)) (w64 (by omega))))
    | 7, h_ => cases h_; exact ObS.f rfl (fun σ4 => .n) (fun σ4 N => (O.ix p rfl rfl U23 ty29 (by omega) (v := (uE G p c p)) (gLs_at (by omega) (by omega))))
    | 8, h_ => cases h_; exact ObS.f rfl (fun σ4 => .n) (fun σ4 N => (O.ldP rfl ty29))
    | 9, h_ => cases h_; exact ObS.f rfl (fun σ4 => .n) (fun σ4 N => (O.fa rfl fld25_1 rfl))
    | 10, h_ => cases h_; exact ObS.f rfl (fun σ4 => .n) (fun σ4 N => (O.ld (p := kMC.is (gLs G n)) rfl (mem_app N (mem_at 8 rfl)) (Lens.snd Li) ty22 rfl))
    | 11, h_ => cases h_; exact ObS.f rfl (fun σ4 => .n) (fun σ4 N => (O.mv rfl))
    | 12, h_ => cases h_; exact ObS.f rfl (fun σ4 => .n) (fun σ4 N => (O.ix c rfl rfl U22 ty23 rfl (v := ((gLs G n).getD c [])) (gd [] (by omega))))
    | 13, h_ => cases h_; exact ObS.f rfl (fun σ4 => .n) (fun σ4 N => (O.ldP rfl ty23))
    | 14, h_ => cases h_; exact ObS.f rfl (fun σ4 => .n) (fun σ4 N => (O.mv rfl))
    | 15, h_ => cases h_; exact ObS.f rfl (fun σ4 => .n) (fun σ4 N => (O.ix (p + 1) rfl rfl U23 ty29 (by omega) (v := (uE G (p + 1) c (p + 1))) (gLs_at (by omega) (by omega))))
    | 16, h_ => cases h_; exact ObS.f rfl (fun σ4 => .n) (fun σ4 N => (O.ldP rfl ty29))
    | 17, h_ => cases h_; exact ObS.a rfl z29_C
    | 18, h_ => cases h_; exact ObS.a rfl z29_C
    | 19, h_ => cases h_; exact ObS.s rfl rfl (fun σ4 => .n) (fun σ4 N => (O.stW (l := kC) (u := (uE G p c p)) 0 rfl rfl rfl ty29 rfl Lr))
    | 20, h_ => cases h_; exact ObS.s rfl rfl (fun σ4 => .n) (fun σ4 N => (O.stW (l := kC) (u := (uE G (p + 1) c (p + 1))) 0 rfl rfl rfl ty29 rfl Lr))
    | n_ + 21, h_ => simp at h_
   refine QE.next (CW.seq ?_)
   refine CW.drawM (Γ := [.fr (VP.pt b3 1), .fr (VP.ex vL), .fr (kN6.is (c : Int)), .fr (VP.pel vL (c * 1)), .fr (VP.ex (us.getD c nilV)), .fr (kN6.is ((p : Int) + 1)), .fr (kN6.is (((p : Int) + 1) - 1)), .fr (VP.clo 222 [VP.pim kC (uD G (p + 1))]), .fr (kC.is (uD G p)), .fr (kC.is (uE G (p + 1) c (p + 1))), .fr (kC.is (uE G p (p + 1) p)), .fr (kC.is (uE G p c p)), .fr (kC.is (((uD G p) * (uE G (p + 1) c (p + 1)) + (uE G p (p + 1) p) * (uE G p c p)).fdiv (uD G (p + 1)))), .fr (VP.pel (us.getD c nilV) (p * 2))]) (of_ rfl (fun N => O.fa rfl fld25_1 rfl) (of_ rfl (fun N => OpOk.le (O.ld (p := kVal.is vL) rfl (mem_app N (mem_at 5 rfl)) (Lens.snd Li) ty22 rfl) (val_ex _)) (om rfl rfl (of_ rfl (fun N => O.ixR (k := kVal) (xs := us) (n := (c : Int)) c rfl rfl (mem_app N (mem_at 7 rfl)) U22 ty23 rfl (by omega)) (of_ rfl (fun N => OpOk.le (O.ldR c rfl (mem_app N (mem_at 7 rfl)) Li rfl (y := (us.getD c nilV)) (gd nilV (by omega)) ty23 rfl) (val_ex _)) (om rfl rfl (of_ rfl (fun N => O.sub rfl rfl (c := (((p : Int) + 1) - 1)) (w64 (by omega))) (om rfl rfl (of_ rfl (fun N => O.ld rfl (mem_app N (mem_at 2 rfl)) Li ty29 rfl) (of_ rfl (fun N => O.ld rfl (mem_app N (mem_at 1 rfl)) Li ty29 rfl) (of_ rfl (fun N => O.ld rfl (mem_app N (mem_at 4 rfl)) Li ty29 rfl) (of_ rfl (fun N => O.ld rfl (mem_app N (mem_at 0 rfl)) Li ty29 rfl) (of_ rfl (fun N => O.clo rfl fn222 (evs.l rfl (kC_Z ((hD p (by omega)).sm (by omega))) (evs.l rfl (kC_Z ((hL c (p + 1) (by omega) (by omega)).sm (by omega))) (evs.l rfl (kC_Z (hl0.sm (by omega))) (evs.l rfl (kC_Z ((hL c p (by omega) (by omega)).sm (by omega))) evs.nil)))) (c_gso_Swap1 B (uD G p) (uE G (p + 1) c (p + 1)) (uE G p (p + 1) p) (uE G p c p) (uD G (p + 1)) (hD _ (by omega)) (hL c (p + 1) (by omega) (by omega)) hl0 (hL c p (by omega) (by omega)) (hD _ (by omega)) he0 (by assumption))) (of_ rfl (fun N => O.ixF (e := 29) (k := kC) (xss := (tri n (swF2 G p c))) (n := (((p : Int) + 1) - 1)) c p rfl rfl (mem_app N (mem_at 8 rfl)) rfl (by omega) U23 ty29 (by omega) (by rw [tri_rlen (by omega)]; omega)) oz)))))))))))))) (fun σ5 => ?_)
   refine WP.t .n (O.stF 8 c p rfl rfl rfl (by omega) Li rfl (y0 := (((tri n (swF2 G p c)).getD c []).getD p 0)) (gd 0 (by rw [tri_rlen (by omega)]; omega)) ty29 rfl Lr) (Wn ?_)
   refine CW.drawM (Γ := [.fr (VP.pt b3 1), .fr (VP.ex vL), .fr (kN6.is (c : Int)), .fr (VP.pel vL (c * 1)), .fr (VP.ex (us.getD c nilV)), .fr (kN6.is ((p : Int) + 1)), .fr (VP.clo 222 [VP.pim kC (uD G (p + 1))]), .fr (kC.is (uD G (p + 2))), .fr (kC.is (uE G p c p)), .fr (kC.is (uE G p (p + 1) p)), .fr (kC.is (-(uE G p (p + 1) p))), .fr (kC.is (uE G (p + 1) c (p + 1))), .fr (kC.is (((uD G (p + 2)) * (uE G p c p) + (-(uE G p (p + 1) p)) * (uE G (p + 1) c (p + 1))).fdiv (uD G (p + 1)))), .fr (VP.pel (us.getD c nilV) ((p + 1) * 2))]) (of_ rfl (fun N => O.fa rfl fld25_1 rfl) (of_ rfl (fun N => OpOk.le (O.ld (p := kVal.is vL) rfl (mem_app N (mem_at 5 rfl)) (Lens.snd Li) ty22 rfl) (val_ex _)) (om rfl rfl (of_ rfl (fun N => O.ixR (k := kVal) (xs := us) (n := (c : Int)) c rfl rfl (mem_app N (mem_at 7 rfl)) U22 ty23 rfl (by omega)) (of_ rfl (fun N => OpOk.le (O.ldR c rfl (mem_app N (mem_at 7 rfl)) Li rfl (y := (us.getD c nilV)) (gd nilV (by omega)) ty23 rfl) (val_ex _)) (om rfl rfl (om rfl rfl (of_ rfl (fun N => O.ld rfl (mem_app N (mem_at 3 rfl)) Li ty29 rfl) (of_ rfl (fun N => O.ld rfl (mem_app N (mem_at 0 rfl)) Li ty29 rfl) (of_ rfl (fun N => O.ld rfl (mem_app N (mem_at 4 rfl)) Li ty29 rfl) (of_ rfl (fun N => O.fn fn145 (evs.l rfl (kC_Z (hl0.sm (by omega))) evs.nil) (c_zint_Neg (uE G p (p + 1) p))) (of_ rfl (fun N => O.ld rfl (mem_app N (mem_at 1 rfl)) Li ty29 rfl) (of_ rfl (fun N => O.clo rfl fn222 (evs.l rfl (kC_Z ((hD (p + 2) (by omega)).sm (by omega))) (evs.l rfl (kC_Z ((hL c p (by omega) (by omega)).sm (by omega))) (evs.l rfl (kC_Z (hl0.neg.sm (by omega))) (evs.l rfl (kC_Z ((hL c (p + 1) (by omega) (by omega)).sm (by omega))) evs.nil)))) (c_gso_Swap1 B (uD G (p + 2)) (uE G p c p) (-(uE G p (p + 1) p)) (uE G (p + 1) c (p + 1)) (uD G (p + 1)) (hD _ (by omega)) (hL c p (by omega) (by omega)) hl0.neg (hL c (p + 1) (by omega) (by omega)) (hD _ (by omega)) he0 (by assumption))) (of_ rfl (fun N => O.ixF (e := 29) (k := kC) (xss := ((tri n (swF2 G p c)).set c (((tri n (swF2 G p c)).getD c []).set p (((uD G p) * (uE G (p + 1) c (p + 1)) + (uE G p (p + 1) p) * (uE G p c p)).fdiv (uD G (p + 1)))))) (n := ((p : Int) + 1)) c (p + 1) rfl rfl (mem_app N (mem_at 8 rfl)) rfl (by omega) U23 ty29 (by omega) (by rw [tri_set _ (by omega), tri_rlen (by omega)]; omega)) oz)))))))))))))) (fun σ6 => ?_)
   refine WP.t .n (O.stF 8 c (p + 1) rfl rfl rfl (by omega) Li rfl (y0 := ((((tri n (swF2 G p c)).set c (((tri n (swF2 G p c)).getD c []).set p (((uD G p) * (uE G (p + 1) c (p + 1)) + (uE G p (p + 1) p) * (uE G p c p)).fdiv (uD G (p + 1))))).getD c []).getD (p + 1) 0)) (gd 0 (by rw [tri_set _ (by omega), tri_rlen (by omega)]; omega)) ty29 rfl Lr) (WP.nil (QE.blkN (QE.next (CW.region (Wm rfl (Ws (O.add rfl rfl (c := ((c : Int) + 1)) (w64 (by omega))) (Wa rfl (WP.nil (ST.obtold 8 rfl (OB.fam_eq rfl (yss := (tri n (swF2 G p (c + 1)))) (by rw [tri_set _ (by omega), tri_set _ (by omega)]; exact congrArg (tri n) (swF2_s (by omega)))) ?_)))))))))
   exact QE.round (c + 1) (by omega) ⟨by omega, by omega⟩ (Imp.c4 rfl rfl rfl rfl (Imp.c4 rfl rfl rfl rfl (Imp.consLe rfl (is_eq (y := (((c + 1) : Nat) : Int)) (by rfl)) Imp.nil))) (OImp.os (OS.skip (OS.skip (OS.keep (OS.keep (OS.keep (OS.keep (OS.keep (OS.keep (OS.keep (OS.keep (OS.keep OS.nil))))))))))))
  ·
   refine CW.exit (QE.thenE (QE.thenE (QE.blkH (QE.next (CW.seq (ST.obtold 6 rfl (OB.fam_eq rfl (yss := (gLs (swpI G p) n)) (by rw [show c = n by omega]; exact swF2_end hs hP hp1)) (ST.freezeIn (k2 := (kPair kVC kVal)) ((gDs (swpI G p) n), vL) 4 3 rfl rfl (fun m_ cs_ h_ c_ => fz_fst m_ cs_ h_ c_) (kp 1 rfl (kp 2 rfl (kp 4 rfl (kp 6 rfl (kp 7 rfl (kp 9 rfl (kp 10 rfl (kp 11 rfl (kp 13 rfl (kp 117 rfl (kp 118 rfl (kp 119 rfl (kp 120 rfl (kp 121 rfl .nil)))))))))))))) (ST.freezeMIn (k2 := kGso) ((gDs (swpI G p) n), (gLs (swpI G p) n)) 5 4 3 rfl rfl rfl (fun m_ cs_ h_ c_ => fz_snd m_ cs_ h_ c_) (kp 1 rfl (kp 2 rfl (kp 4 rfl (kp 6 rfl (kp 7 rfl (kp 9 rfl (kp 10 rfl (kp 11 rfl (kp 13 rfl (kp 117 rfl (kp 118 rfl (kp 119 rfl (kp 120 rfl (kp 121 rfl .nil)))))))))))))) (CW.region (Ws (O.ld (p := kGso.is ((gDs (swpI G p) n), (gLs (swpI G p) n))) rfl (mem_at 3 rfl) Li ty25 rfl) (WP.t .n (O.stW (l := kGso) (u := ((gDs (swpI G p) n), (gLs (swpI G p) n))) 4 rfl rfl rfl ty25 rfl Lr) (Wa rfl (Wn (CW.ret ?_))))))))))))))
   exact QE.done (.inl rfl) rfl (ResOk.cl rfl (mem_at 4 rfl) ty25 (is_eq (y := (gDs (swpI G p) n, gLs (swpI G p) n)) (by rfl)) (ResOk.t rfl ResOk.nil)) (OImp.sub (List.nil_sublist _)) ⟨rfl, rfl⟩
end Fw
/- Plain facts: a form as a sum of squares; how long coefficients can be. -/
set_option linter.unusedVariables false
set_option linter.unusedSimpArgs false
set_option exponentiation.threshold 400
namespace Fw
open Go
def sumQ (f : Nat → Rat) : Nat → Rat
  | 0 => 0
  | n + 1 => sumQ f n + f n
theorem sumQ_congr {f g : Nat → Rat} : ∀ {n}, (∀ i, i < n → f i = g i) → sumQ f n = sumQ g n
  | 0, _ => rfl
  | n + 1, h => by rw [sumQ, sumQ, sumQ_congr (fun i hi => h i (by omega)), h n (by omega)]
theorem sumQ_add (f g : Nat → Rat) : ∀ n, sumQ (fun i => f i + g i) n = sumQ f n + sumQ g n
  | 0 => by simp only [sumQ]; grind
  | n + 1 => by simp only [sumQ]; rw [sumQ_add f g n]; grind
theorem sumQ_sub (f g : Nat → Rat) : ∀ n, sumQ (fun i => f i - g i) n = sumQ f n - sumQ g n
  | 0 => by simp [sumQ]; grind
  | n + 1 => by simp only [sumQ]; rw [sumQ_sub f g n]; grind
theorem sumQ_mul (f : Nat → Rat) (c : Rat) : ∀ n, sumQ f n * c = sumQ (fun i => f i * c) n
  | 0 => by simp [sumQ]
  | n + 1 => by simp only [sumQ]; rw [← sumQ_mul f c n]; grind
theorem mul_sumQ (f : Nat → Rat) (c : Rat) : ∀ n, c * sumQ f n = sumQ (fun i => c * f i) n
  | 0 => by simp [sumQ]
  | n + 1 => by simp only [sumQ]; rw [← mul_sumQ f c n]; grind
theorem sumQ_zero : ∀ n, sumQ (fun _ => 0) n = 0
  | 0 => rfl
  | n + 1 => by rw [sumQ, sumQ_zero n]; grind
theorem sumQ_comm (f : Nat → Nat → Rat) (m : Nat) : ∀ n, sumQ (fun i => sumQ (fun k => f i k) m) n = sumQ (fun k => sumQ (fun i => f i k) n) m
  | 0 => (sumQ_zero m).symm
  | n + 1 => by rw [sumQ, sumQ_comm f m n, ← sumQ_add]; rfl
theorem sumQ_nonneg {f : Nat → Rat} : ∀ {n}, (∀ i, i < n → 0 ≤ f i) → 0 ≤ sumQ f n
  | 0, _ => Rat.le_refl
  | n + 1, h => by
    have h1 := sumQ_nonneg (f := f) (n := n) (fun i hi => h i (by omega))
    have h2 := h n (by omega)
    rw [sumQ]; grind
theorem sumQ_le_of {f : Nat → Rat} : ∀ {n}, (∀ i, i < n → 0 ≤ f i) → ∀ {k}, k < n → f k ≤ sumQ f n
  | 0, _, k, hk => absurd hk (by omega)
  | n + 1, h, k, hk => by
    have h1 := sumQ_nonneg (f := f) (n := n) (fun i hi => h i (by omega))
    have h2 := h n (by omega)
    rw [sumQ]
    by_cases e : k = n
    · subst e; grind
    · have := sumQ_le_of (f := f) (n := n) (fun i hi => h i (by omega)) (k := k) (by omega)
      grind
theorem sumQ_le {f g : Nat → Rat} : ∀ {n}, (∀ i, i < n → f i ≤ g i) → sumQ f n ≤ sumQ g n
  | 0, _ => Rat.le_refl
  | n + 1, h => by
    have h1 := sumQ_le (f := f) (g := g) (n := n) (fun i hi => h i (by omega))
    have h2 := h n (by omega)
    rw [sumQ, sumQ]; grind
theorem sumQ_const (c : Rat) : ∀ n : Nat, sumQ (fun _ => c) n = (n : Rat) * c
  | 0 => by simp [sumQ]
  | n + 1 => by rw [sumQ, sumQ_const c n]; push_cast; grind
theorem sumQ_one {f : Nat → Rat} {k : Nat} : ∀ {n}, k < n → (∀ i, i < n → i ≠ k → f i = 0) → sumQ f n = f k
  | 0, hk, _ => absurd hk (by omega)
  | n + 1, hk, h => by
    rw [sumQ]
    by_cases e : k = n
    · subst e
      rw [sumQ_congr (g := fun _ => 0) (fun i hi => h i (by omega) (by omega)), sumQ_zero]; grind
    · rw [sumQ_one (by omega) (fun i hi hne => h i (by omega) hne), h n (by omega) (fun x => e x.symm)]; grind
theorem sq_nonneg (q : Rat) : 0 ≤ q * q := by
  rcases Rat.le_total (a := 0) (b := q) with h | h
  · exact Rat.mul_nonneg h h
  · have := Rat.mul_nonneg (a := -q) (b := -q) (by grind) (by grind)
    grind
def extG (G : Nat → Nat → Rat) (n : Nat) (c : Nat → Rat) : Nat → Nat → Rat := fun x y =>
  if x = n then (if y = n then sumQ (fun i => sumQ (fun j => c i * c j * G i j) n) n else sumQ (fun i => c i * G i y) n)
  else if y = n then sumQ (fun j => c j * G x j) n else G x y
section
variable {G : Nat → Nat → Rat} {n : Nat} {c : Nat → Rat}
theorem ext_lo : ∀ l, l ≤ n → ∀ x y, x ≠ n → y ≠ n → gsE (extG G n c) l x y = gsE G l x y
  | 0, _, x, y, hx, hy => by show extG G n c x y = G x y; unfold extG; rw [if_neg hx, if_neg hy]
  | l + 1, hl, x, y, hx, hy => by
    have ih := ext_lo l (by omega)
    rw [gsE_succ, ih x y hx hy, ih x l hx (by omega), ih l y (by omega) hy, ih l l (by omega) (by omega), gsE_succ]
theorem ext_row : ∀ l, l ≤ n → ∀ y, y ≠ n → gsE (extG G n c) l n y = sumQ (fun i => c i * gsE G l i y) n
  | 0, _, y, hy => by show extG G n c n y = _; unfold extG; rw [if_pos rfl, if_neg hy]; rfl
  | l + 1, hl, y, hy => by
    have ih := ext_row l (by omega)
    rw [gsE_succ, ih y hy, ih l (by omega), ext_lo l (by omega) l y (by omega) hy, ext_lo l (by omega) l l (by omega) (by omega)]
    rw [Rat.div_def, Rat.mul_assoc, sumQ_mul, ← sumQ_sub]
    apply sumQ_congr
    intro i hi
    rw [gsE_succ]; grind
theorem ext_col : ∀ l, l ≤ n → ∀ x, x ≠ n → gsE (extG G n c) l x n = sumQ (fun j => c j * gsE G l x j) n
  | 0, _, x, hx => by show extG G n c x n = _; unfold extG; rw [if_neg hx, if_pos rfl]; rfl
  | l + 1, hl, x, hx => by
    have ih := ext_col l (by omega)
    rw [gsE_succ, ih x hx, ih l (by omega), ext_lo l (by omega) x l hx (by omega), ext_lo l (by omega) l l (by omega) (by omega)]
    rw [Rat.div_def, mul_sumQ, sumQ_mul, ← sumQ_sub]
    apply sumQ_congr
    intro j hj
    rw [gsE_succ]; grind
theorem ext_dia : ∀ l, l ≤ n → gsE (extG G n c) l n n = sumQ (fun i => sumQ (fun j => c i * c j * gsE G l i j) n) n
  | 0, _ => by show extG G n c n n = _; unfold extG; rw [if_pos rfl, if_pos rfl]; rfl
  | l + 1, hl => by
    have ih := ext_dia l (by omega)
    rw [gsE_succ, ih, ext_row l (by omega) l (by omega), ext_col l (by omega) l (by omega), ext_lo l (by omega) l l (by omega) (by omega)]
    rw [sumQ_mul, Rat.div_def, sumQ_mul, ← sumQ_sub]
    apply sumQ_congr
    intro i hi
    rw [mul_sumQ, sumQ_mul, ← sumQ_sub]
    apply sumQ_congr
    intro j hj
    rw [gsE_succ]; grind
theorem gsE_gone (hs : ∀ i j, G i j = G j i) (hn : ∀ l, l < n → gsE G l l l ≠ 0) : ∀ l, l ≤ n → ∀ i j, (i < l ∨ j < l) → gsE G l i j = 0
  | 0, _, i, j, h => absurd h (by omega)
  | l + 1, hl, i, j, h => by
    have ih := gsE_gone hs hn l (by omega)
    have h0 := hn l (by omega)
    rw [gsE_succ]
    by_cases hi : i < l
    · rw [ih i j (.inl hi), ih i l (.inl hi)]; grind
    · by_cases hj : j < l
      · rw [ih i j (.inr hj), ih l j (.inr hj)]; grind
      · by_cases e : i = l
        · subst e; grind
        · have e2 : j = l := by omega
          subst e2; grind
theorem pyth (hs : ∀ i j, G i j = G j i) (x : Nat) : ∀ l, gsE G 0 x x = gsE G l x x + sumQ (fun k => gsE G k x k * gsE G k x k / gsE G k k k) l
  | 0 => by rw [sumQ]; grind
  | l + 1 => by
    rw [pyth hs x l, gsE_succ G l, sumQ, gsE_sym hs l l x]; grind
theorem ext_sym (hs : ∀ i j, G i j = G j i) : ∀ i j, extG G n c i j = extG G n c j i := by
  intro i j
  unfold extG
  by_cases hi : i = n <;> by_cases hj : j = n <;> simp only [hi, hj, if_true, if_false]
  · apply sumQ_congr; intro k _; rw [hs]
  · apply sumQ_congr; intro k _; rw [hs]
  · exact hs i j
def qf (G : Nat → Nat → Rat) (n : Nat) (c : Nat → Rat) : Rat := sumQ (fun i => sumQ (fun j => c i * c j * G i j) n) n
def qy (G : Nat → Nat → Rat) (n : Nat) (c : Nat → Rat) (l : Nat) : Rat := sumQ (fun i => c i * gsE G l i l) n
theorem qf_sum (hs : ∀ i j, G i j = G j i) (hn : ∀ l, l < n → gsE G l l l ≠ 0) : qf G n c = sumQ (fun l => qy G n c l * qy G n c l / gsE G l l l) n := by
  have h1 := pyth (ext_sym (n := n) (c := c) hs) n n
  have h2 : gsE (extG G n c) 0 n n = qf G n c := ext_dia 0 (Nat.zero_le _)
  have h3 : gsE (extG G n c) n n n = 0 := by
    rw [ext_dia n (Nat.le_refl _), sumQ_congr (g := fun _ => 0), sumQ_zero]
    intro i hi
    rw [sumQ_congr (g := fun _ => 0), sumQ_zero]
    intro j hj
    rw [gsE_gone hs hn n (Nat.le_refl _) i j (.inl hi)]; grind
  rw [h2, h3] at h1
  rw [h1, sumQ_congr (g := fun l => qy G n c l * qy G n c l / gsE G l l l)]
  · grind
  · intro l hl
    rw [ext_row l (by omega) l (by omega), ext_lo l (by omega) l l (by omega) (by omega)]; rfl
theorem qf_term (hs : ∀ i j, G i j = G j i) (hn : ∀ l, l < n → 0 < gsE G l l l) : (∀ l, l < n → 0 ≤ qy G n c l * qy G n c l / gsE G l l l) := fun l hl => by
  rw [Rat.div_def]
  exact Rat.mul_nonneg (sq_nonneg _) (Rat.le_of_lt (Rat.inv_pos.2 (hn l hl)))
theorem pos_ne {q : Rat} (h : 0 < q) : q ≠ 0 := fun e => by rw [e] at h; exact absurd h (by decide)
theorem qy_le (hs : ∀ i j, G i j = G j i) (hn : ∀ l, l < n → 0 < gsE G l l l) {l : Nat} (hl : l < n) : qy G n c l * qy G n c l ≤ qf G n c * gsE G l l l := by
  have h1 := sumQ_le_of (qf_term (c := c) hs hn) hl
  rw [← qf_sum hs (fun l hl => pos_ne (hn l hl))] at h1
  have h2 := Rat.mul_le_mul_of_nonneg_right h1 (Rat.le_of_lt (hn l hl))
  have h3 : qy G n c l * qy G n c l / gsE G l l l * gsE G l l l = qy G n c l * qy G n c l := by
    have := pos_ne (hn l hl); grind
  rwa [h3] at h2
end
end Fw
/- Plain facts: what stays and what falls when a form is reduced; how great its numbers can be. -/
set_option linter.unusedVariables false
set_option linter.unusedSimpArgs false
set_option exponentiation.threshold 400
namespace Fw
open Go
theorem qG_sy {G : Fi} (hs : SymG G) : ∀ i j, qG G i j = qG G j i := fun i j => by unfold qG; rw [hs i j]
section
variable {G : Fi} {n : Nat}
theorem frS_p (hs : SymG G) (hp : PosU G n) {l} (hl : l < n) : 0 < frS G l := piv_pos hs hp hl
theorem frM_mul (hs : SymG G) (hp : PosU G n) {x l} (hl : l < n) : frM G x l * frS G l = gsE (qG G) l x l := by
  have := piv_ne hs hp hl
  unfold frM frS; grind
theorem norm_sum (hs : SymG G) (hp : PosU G n) (x : Nat) : ∀ l, l ≤ n → (G x x : Rat) = gsE (qG G) l x x + sumQ (fun k => frM G x k * frM G x k * frS G k) l := fun l hl => by
  have h := pyth (qG_sy hs) x l
  have e : gsE (qG G) 0 x x = (G x x : Rat) := rfl
  rw [e] at h
  rw [h]
  congr 1
  apply sumQ_congr
  intro k hk
  have h0 := piv_ne hs hp (show k < n by omega)
  unfold frM frS; grind
theorem term_nonneg (hs : SymG G) (hp : PosU G n) (x : Nat) {k} (hk : k < n) : 0 ≤ frM G x k * frM G x k * frS G k := Rat.mul_nonneg (sq_nonneg _) (Rat.le_of_lt (frS_p hs hp hk))
theorem frS_le (hs : SymG G) (hp : PosU G n) {x} (hx : x < n) : frS G x ≤ (G x x : Rat) := by
  have h1 := norm_sum hs hp x x (by omega)
  have h2 := sumQ_nonneg (f := fun k => frM G x k * frM G x k * frS G k) (n := x) (fun k hk => term_nonneg hs hp x (by omega))
  unfold frS; grind
theorem dia_pos (hs : SymG G) (hp : PosU G n) {x} (hx : x < n) : 0 < G x x := by
  have h1 := frS_le hs hp hx
  have h2 := frS_p hs hp hx
  have h3 : (0 : Rat) < (G x x : Rat) := by grind
  exact_mod_cast h3
theorem term_le (hs : SymG G) (hp : PosU G n) {x l} (hl : l < x) (hx : x < n) : frM G x l * frM G x l * frS G l ≤ (G x x : Rat) := by
  have h1 := norm_sum hs hp x x (by omega)
  have h2 := sumQ_le_of (f := fun k => frM G x k * frM G x k * frS G k) (n := x) (fun k hk => term_nonneg hs hp x (by omega)) hl
  have h3 := frS_p hs hp hx
  unfold frS at h3
  grind
theorem uD_succ (hs : SymG G) (hp : PosU G n) {l} (hl : l < n) : (uD G (l + 1) : Rat) = (uD G l : Rat) * frS G l := by
  rw [uD_q hs (hp.le (show l + 1 ≤ n by omega)), uD_q hs (hp.le (show l ≤ n by omega))]; rfl
theorem uE_fr (hs : SymG G) (hp : PosU G n) {x l} (hl : l < x) (hx : x < n) : (uE G l x l : Rat) = (uD G (l + 1) : Rat) * frM G x l := by
  rw [uE_q hs (hp.le (show l ≤ n by omega)) (show l ≤ x by omega) (Nat.le_refl l), uD_succ hs hp (show l < n by omega), uD_q hs (hp.le (show l ≤ n by omega)), Rat.mul_assoc, Rat.mul_comm (frS G l), frM_mul hs hp (show l < n by omega)]
theorem uE_sq (hs : SymG G) (hp : PosU G n) {x l} (hl : l < x) (hx : x < n) : uE G l x l * uE G l x l ≤ uD G l * uD G (l + 1) * G x x := by
  have h1 := term_le hs hp hl hx
  have d0 : (0 : Rat) ≤ (uD G l : Rat) := by have := hp.uD (show l ≤ n by omega); exact_mod_cast Int.le_of_lt this
  have d1 : (0 : Rat) ≤ (uD G (l + 1) : Rat) := by have := hp.uD (show l + 1 ≤ n by omega); exact_mod_cast Int.le_of_lt this
  have h2 := Rat.mul_le_mul_of_nonneg_left h1 (Rat.mul_nonneg d0 d1)
  have e1 := uE_fr hs hp hl hx
  have e2 := uD_succ hs hp (show l < n by omega)
  have h3 : ((uE G l x l * uE G l x l : Int) : Rat) ≤ ((uD G l * uD G (l + 1) * G x x : Int) : Rat) := by
    rw [Rat.intCast_mul, Rat.intCast_mul, Rat.intCast_mul, e1]
    have : (uD G (l + 1) : Rat) * frM G x l * ((uD G (l + 1) : Rat) * frM G x l) = (uD G l : Rat) * (uD G (l + 1) : Rat) * (frM G x l * frM G x l * frS G l) := by
      rw [e2]; grind
    rw [this]; exact h2
  exact_mod_cast h3
theorem row_dia (hs : SymG G) (hp : PosU G n) {k j} (hj : j < k) (hk : k < n) (t : Int) : 0 < G k k + t * G k j + t * G k j + t * t * G j j := by
  have h := dia_pos (rowI_sym (i := k) (j := j) (q := t) hs) (rowI_pos hs hp hj) hk
  unfold rowI at h
  simp only [if_true] at h
  rw [hs j k] at h
  omega
end
theorem rowI_dia (G : Fi) (hs : SymG G) (k j : Nat) (q : Int) : rowI G k j q k k = G k k + q * G k j + q * G k j + q * q * G j j := by
  unfold rowI; simp only [if_true]; rw [hs j k]
theorem rowI_dia_ne (G : Fi) (k j : Nat) (q : Int) {x} (hx : x ≠ k) : rowI G k j q x x = G x x := by
  unfold rowI; simp [hx]
theorem Sz.sq {n : Nat} {z w : Int} (h : Sz n w) (hz : z * z ≤ w) : Sz n z := by
  refine h.le ?_
  have h1 : z.natAbs ≤ (z * z).natAbs := by
    rw [Int.natAbs_mul]
    by_cases e : z.natAbs = 0
    · omega
    · exact Nat.le_mul_of_pos_left _ (by omega)
  have h2 : (z * z).natAbs ≤ w.natAbs := by
    have h0 : 0 ≤ z * z := by
      rcases Int.le_total 0 z with h | h
      · exact Int.mul_nonneg h h
      · exact Int.mul_nonneg_of_nonpos_of_nonpos h h
    omega
  omega
theorem near_spec (q : Rat) : (nearQ q : Rat) ≤ q + 1 / 2 ∧ q + 1 / 2 < (nearQ q : Rat) + 1 := by
  have hd := rq_den_pos q
  have hdq : (0 : Rat) < ((rq q).2 : Rat) := by exact_mod_cast hd
  have hne : ((rq q).2 : Rat) ≠ 0 := pos_ne hdq
  have e := rq_val q
  have ea : ((rq q).1 : Rat) = q * ((rq q).2 : Rat) := by rw [← e]; grind
  have hdef := Int.fmod_def ((rq q).1 + (rq q).1 + (rq q).2) ((rq q).2 + (rq q).2)
  have f1 := Int.fmod_nonneg_of_pos ((rq q).1 + (rq q).1 + (rq q).2) (show 0 < (rq q).2 + (rq q).2 by omega)
  have f2 := Int.fmod_lt_of_pos ((rq q).1 + (rq q).1 + (rq q).2) (show 0 < (rq q).2 + (rq q).2 by omega)
  have hz : ((rq q).1 + (rq q).1 + (rq q).2).fdiv ((rq q).2 + (rq q).2) = nearQ q := rfl
  rw [hz] at hdef
  generalize nearQ q = z at *
  generalize (rq q).1 = a at *
  generalize (rq q).2 = d at *
  have g1 : (d + d) * z ≤ a + a + d := by omega
  have g2 : a + a + d < (d + d) * z + (d + d) := by omega
  have q1 : (((d + d) * z : Int) : Rat) ≤ ((a + a + d : Int) : Rat) := by exact_mod_cast g1
  have q2 : ((a + a + d : Int) : Rat) < (((d + d) * z + (d + d) : Int) : Rat) := by exact_mod_cast g2
  rw [Rat.intCast_mul, Rat.intCast_add, Rat.intCast_add, Rat.intCast_add, ea] at q1
  rw [Rat.intCast_add, Rat.intCast_add, Rat.intCast_add, Rat.intCast_mul, Rat.intCast_add, ea] at q2
  have hh : (0 : Rat) < (d : Rat) + (d : Rat) := by grind
  constructor
  · rcases Rat.le_total (a := (z : Rat)) (b := q + 1 / 2) with h | h
    · exact h
    · by_cases e2 : (z : Rat) = q + 1 / 2
      · rw [e2]; exact Rat.le_refl
      · have h3 : 0 < (z : Rat) - (q + 1 / 2) := by grind
        have := Rat.mul_pos hh h3
        grind
  · by_cases h : q + 1 / 2 < (z : Rat) + 1
    · exact h
    · replace h := Rat.not_lt.mp h
      have h3 : 0 ≤ q + 1 / 2 - ((z : Rat) + 1) := by grind
      have := Rat.mul_nonneg (Rat.le_of_lt hh) h3
      grind
def half (q : Rat) : Prop := -1 ≤ q + q ∧ q + q ≤ 1
theorem near_half (q : Rat) : half (q - (nearQ q : Rat)) := by
  obtain ⟨h1, h2⟩ := near_spec q
  constructor <;> grind
theorem near_zero {q : Rat} (h : nearQ q = 0) : half q := by
  have := near_half q
  rw [h] at this
  have e : q - ((0 : Int) : Rat) = q := by simp; grind
  rwa [e] at this
theorem half_sq {q : Rat} (h : half q) : q * q ≤ 1 / 4 := by
  obtain ⟨h1, h2⟩ := h
  have := Rat.mul_nonneg (a := 1 - (q + q)) (b := 1 + (q + q)) (by grind) (by grind)
  grind
theorem near_sq (q : Rat) : (nearQ q : Rat) * (nearQ q : Rat) ≤ 4 * (q * q) := by
  by_cases h0 : nearQ q = 0
  · rw [h0]
    have := sq_nonneg q
    simp; grind
  · obtain ⟨h1, h2⟩ := near_spec q
    rcases Int.lt_or_gt_of_ne h0 with h | h
    · have h3 : (nearQ q : Rat) ≤ -1 := by
        have h3 : (nearQ q : Rat) ≤ ((-1 : Int) : Rat) := Rat.intCast_le_intCast.mpr (by omega)
        exact h3
      have := Rat.mul_nonneg (a := (nearQ q : Rat) - 2 * q) (b := -(nearQ q : Rat) - 2 * q) (by grind) (by grind)
      grind
    · have h3 : (1 : Rat) ≤ (nearQ q : Rat) := by
        have : 1 ≤ nearQ q := by omega
        exact_mod_cast this
      have := Rat.mul_nonneg (a := 2 * q - (nearQ q : Rat)) (b := 2 * q + (nearQ q : Rat)) (by grind) (by grind)
      grind
section
variable {G : Fi} {n : Nat}
theorem near_uE (hs : SymG G) (hp : PosU G n) {k j} (hj : j < k) (hk : k < n) : nearQ (frM G k j) * nearQ (frM G k j) ≤ 4 * (uD G j * G k k) := by
  have h1 := near_sq (frM G k j)
  have h2 := term_le hs hp hj hk
  have d0 : (0 : Rat) < (uD G j : Rat) := by have := hp.uD (show j ≤ n by omega); exact_mod_cast this
  have e2 := uD_succ hs hp (show j < n by omega)
  have d1 : (1 : Rat) ≤ (uD G (j + 1) : Rat) := by have := hp.uD (show j + 1 ≤ n by omega); exact_mod_cast (show (1 : Int) ≤ uD G (j + 1) by omega)
  have h3 := Rat.mul_le_mul_of_nonneg_left h2 (Rat.le_of_lt d0)
  have h4 : frM G k j * frM G k j ≤ (uD G j : Rat) * (frM G k j * frM G k j * frS G j) := by
    have e : (uD G j : Rat) * (frM G k j * frM G k j * frS G j) = frM G k j * frM G k j * (uD G (j + 1) : Rat) := by rw [e2]; grind
    rw [e]
    have := Rat.mul_le_mul_of_nonneg_left d1 (sq_nonneg (frM G k j))
    grind
  have h5 : ((nearQ (frM G k j) * nearQ (frM G k j) : Int) : Rat) ≤ ((4 * (uD G j * G k k) : Int) : Rat) := by
    rw [Rat.intCast_mul, Rat.intCast_mul, Rat.intCast_mul]
    have : (4 : Rat) * (frM G k j * frM G k j) ≤ 4 * ((uD G j : Rat) * (G k k : Rat)) := by grind
    have e4 : ((4 : Int) : Rat) = 4 := rfl
    rw [e4]
    exact Rat.le_trans h1 this
  exact_mod_cast h5
theorem grow_dia (hs : SymG G) (hp : PosU G n) {k j} (hj : j < k) (hk : k < n) (q : Int) : rowI G k j q k k ≤ 2 * G k k + 2 * (q * q * G j j) := by
  have h := row_dia hs hp hj hk (-q)
  rw [rowI_dia G hs]
  have e1 : -q * G k j = -(q * G k j) := Int.neg_mul _ _
  have e2 : -q * -q * G j j = q * q * G j j := by rw [Int.neg_mul_neg]
  rw [e1, e2] at h
  omega
theorem short_row (hs : SymG G) (hp : PosU G n) {M : Rat} (hM : ∀ l, l < n → frS G l ≤ M) {x} (hx : x < n) (hn : n ≤ 12) (hh : ∀ l, l < x → half (frM G x l)) : (G x x : Rat) ≤ 4 * M := by
  have h1 := norm_sum hs hp x x (by omega)
  have hM0 : 0 ≤ M := Rat.le_trans (Rat.le_of_lt (frS_p hs hp hx)) (hM x hx)
  have h2 : sumQ (fun k => frM G x k * frM G x k * frS G k) x ≤ sumQ (fun _ => 1 / 4 * M) x := sumQ_le fun k hk => by
    have a1 := half_sq (hh k hk)
    have a2 := Rat.mul_le_mul_of_nonneg_right a1 (Rat.le_of_lt (frS_p hs hp (show k < n by omega)))
    have a3 := Rat.mul_le_mul_of_nonneg_left (hM k (by omega)) (show (0 : Rat) ≤ 1 / 4 by grind)
    exact Rat.le_trans a2 a3
  rw [sumQ_const] at h2
  have h3 : ((x : Nat) : Rat) ≤ 12 := by exact_mod_cast (show x ≤ 12 by omega)
  have h4 := Rat.mul_le_mul_of_nonneg_right h3 (show 0 ≤ 1 / 4 * M by have := Rat.mul_nonneg (show (0 : Rat) ≤ 1 / 4 by grind) hM0; exact this)
  have h5 : gsE (qG G) x x x ≤ M := hM x hx
  grind
end
end Fw
/- Plain facts: the reduction of a form, step by step: what holds in front of each. -/
set_option linter.unusedVariables false
set_option linter.unusedSimpArgs false
set_option exponentiation.threshold 400
namespace Fw
open Go
def lov (G : Fi) (x : Nat) : Prop := (3 / 4 : Rat) * frS G (x - 1) ≤ frS G x + frM G x (x - 1) * frM G x (x - 1) * frS G (x - 1)
section
variable {G : Fi} {n : Nat}
theorem frS_row (hs : SymG G) (hp : PosU G n) {k j : Nat} (hj : j < k) (t : Int) {l : Nat} (hl : l < n) : frS (rowI G k j t) l = frS G l := by
  unfold frS; rw [qG_row]; exact gsE_row_piv hj l fun i hi => piv_ne hs hp (by omega)
theorem frM_row_hi (hs : SymG G) (hp : PosU G n) {k j : Nat} (hj : j < k) (t : Int) {x l : Nat} (hjl : j < l) (hl : l < n) : frM (rowI G k j t) x l = frM G x l := by
  unfold frM; rw [qG_row, gsE_row_hi hj l hjl (fun i hi => piv_ne hs hp (by omega)), gsE_row_hi hj l hjl (fun i hi => piv_ne hs hp (by omega))]
theorem frM_row_ne (hs : SymG G) (hp : PosU G n) {k j : Nat} (hj : j < k) (t : Int) {x l : Nat} (hx : x ≠ k) (hl : l < n) : frM (rowI G k j t) x l = frM G x l := by
  by_cases h : j < l
  · exact frM_row_hi hs hp hj t h hl
  · unfold frM
    rw [qG_row, gsE_row_piv hj l fun i hi => piv_ne hs hp (by omega), gsE_row hj l (by omega) (fun i hi => piv_ne hs hp (by omega)), cI_ne hx, cI_ne (show l ≠ k by omega)]
    congr 1; grind
theorem frM_row_at (hs : SymG G) (hp : PosU G n) {k j : Nat} (hj : j < k) (t : Int) (hn : j < n) : frM (rowI G k j t) k j = frM G k j + (t : Rat) := by
  have h0 := piv_ne hs hp hn
  unfold frM
  rw [qG_row, gsE_row_piv hj j fun i hi => piv_ne hs hp (by omega), gsE_row hj j (by omega) (fun i hi => piv_ne hs hp (by omega)), cI_eq, cI_ne (show j ≠ k by omega)]
  grind
end
structure LC (G0 : Fi) (n : Nat) (M Dm : Int) (G : Fi) : Prop where
  s : SymG G
  p : PosU G n
  d : ∀ l, l ≤ n → uD G l ≤ Dm
  t : uD G n = uD G0 n
  m : ∀ l, l < n → frS G l ≤ (M : Rat)
structure LL (G0 : Fi) (n : Nat) (M Dm : Int) (G : Fi) (a b : Nat) : Prop where
  c : LC G0 n M Dm G
  z : ∀ x, x < n → G x x ≤ 4 * M
  h : ∀ x, x < a → ∀ l, l < x → half (frM G x l)
  v : ∀ x, 0 < x → x < b → lov G x
structure LR (G0 : Fi) (n : Nat) (M Dm : Int) (G : Fi) (k j : Nat) : Prop where
  c : LC G0 n M Dm G
  z : ∀ x, x < n → x ≠ k → G x x ≤ 4 * M
  zk : G k k ≤ 4 * M * (2 + 32 * Dm * M) ^ (k - j)
  h : ∀ x, x < k → ∀ l, l < x → half (frM G x l)
  v : ∀ x, 0 < x → x < k → lov G x
  hk : ∀ l, j ≤ l → l < k → half (frM G k l)
section
variable {G0 G : Fi} {n : Nat} {M Dm : Int}
theorem LC.d1 (h : LC G0 n M Dm G) : 1 ≤ Dm := h.d 0 (Nat.zero_le _)
theorem LC.m1 (h : LC G0 n M Dm G) (h0 : 0 < n) : 0 < M := by
  have h1 := frS_p h.s h.p h0
  have h2 := h.m 0 h0
  have h3 : ((0 : Int) : Rat) < (M : Rat) := by have e : ((0 : Int) : Rat) = 0 := rfl; rw [e]; grind
  exact Rat.intCast_lt_intCast.mp h3
theorem LC.k1 (h : LC G0 n M Dm G) (h0 : 0 < n) : 1 ≤ 2 + 32 * Dm * M := by
  have := Int.mul_pos (show 0 < Dm by have := h.d1; omega) (h.m1 h0)
  rw [Int.mul_assoc]; omega
theorem LL.start {k : Nat} (h : LL G0 n M Dm G k k) (hk : k < n) : LR G0 n M Dm G k k :=
  ⟨h.c, fun x hx _ => h.z x hx, by rw [Nat.sub_self, Int.pow_zero, Int.mul_one]; exact h.z k hk, h.h, h.v, fun l h1 h2 => absurd h1 (by omega)⟩
theorem LR.grow {k j : Nat} (h : LR G0 n M Dm G k (j + 1)) (hj : j < k) (hk : k < n) : 0 < G k k ∧ G k k * (2 + 32 * Dm * M) ≤ 4 * M * (2 + 32 * Dm * M) ^ (k - j) := by
  refine ⟨dia_pos h.c.s h.c.p hk, ?_⟩
  have h1 := h.c.k1 (by omega)
  have h2 := Int.mul_le_mul_of_nonneg_right h.zk (show 0 ≤ 2 + 32 * Dm * M by omega)
  rw [show k - j = (k - (j + 1)) + 1 by omega, Int.pow_succ, ← Int.mul_assoc]
  exact h2
theorem LR.zero {k j : Nat} (h : LR G0 n M Dm G k (j + 1)) (hj : j < k) (hk : k < n) (hz : nearQ (frM G k j) = 0) : LR G0 n M Dm G k j := by
  obtain ⟨g0, g1⟩ := h.grow hj hk
  refine ⟨h.c, h.z, ?_, h.h, h.v, fun l h1 h2 => ?_⟩
  · have h1 := h.c.k1 (by omega)
    have h2 := Int.mul_le_mul_of_nonneg_left h1 (Int.le_of_lt g0)
    omega
  · by_cases e : l = j
    · subst e; exact near_zero hz
    · exact h.hk l (by omega) h2
theorem LR.step {k j : Nat} (h : LR G0 n M Dm G k (j + 1)) (hj : j < k) (hk : k < n) : LR G0 n M Dm (rowI G k j (-(nearQ (frM G k j)))) k j := by
  obtain ⟨g0, g1⟩ := h.grow hj hk
  have hs := h.c.s
  have hp := h.c.p
  have hq := near_uE hs hp hj hk
  refine ⟨⟨rowI_sym hs, rowI_pos hs hp hj, fun l hl => by rw [rowI_uD hs hp hj hl]; exact h.c.d l hl, by rw [rowI_uD hs hp hj (Nat.le_refl n)]; exact h.c.t, fun l hl => by rw [frS_row hs hp hj _ hl]; exact h.c.m l hl⟩, fun x hx hxk => by rw [rowI_dia_ne _ _ _ _ hxk]; exact h.z x hx hxk, ?_, fun x hx l hl => by rw [frM_row_ne hs hp hj _ (by omega) (by omega)]; exact h.h x hx l hl, fun x h1 h2 => by unfold lov; rw [frM_row_ne hs hp hj _ (by omega) (by omega), frS_row hs hp hj _ (by omega), frS_row hs hp hj _ (by omega)]; exact h.v x h1 h2, fun l h1 h2 => ?_⟩
  · have e := grow_dia hs hp hj hk (-(nearQ (frM G k j)))
    rw [Int.neg_mul_neg] at e
    have d1 := h.c.d j (by omega)
    have d0 := h.c.p.uD (show j ≤ n by omega)
    have j1 := h.z j (by omega) (by omega)
    have j0 := dia_pos hs hp (show j < n by omega)
    have m0 := h.c.m1 (by omega)
    generalize nearQ (frM G k j) = q at *
    have a1 : uD G j * G k k ≤ Dm * G k k := Int.mul_le_mul_of_nonneg_right d1 (Int.le_of_lt g0)
    have a2 : q * q ≤ 4 * (Dm * G k k) := by omega
    have a3 : q * q * G j j ≤ 4 * (Dm * G k k) * (4 * M) := Int.mul_le_mul a2 j1 (Int.le_of_lt j0) (by have := Int.mul_pos (show 0 < Dm by omega) g0; omega)
    have a4 : G k k * (2 + 32 * Dm * M) = 2 * G k k + 2 * (4 * (Dm * G k k) * (4 * M)) := by grind
    omega
  · by_cases e : l = j
    · subst e
      rw [frM_row_at hs hp hj _ (by omega), Rat.intCast_neg]
      have := near_half (frM G k l)
      rwa [Rat.sub_eq_add_neg] at this
    · rw [frM_row_hi hs hp hj _ (by omega) (by omega)]; exact h.hk l (by omega) h2
theorem LR.fin {k : Nat} (h : LR G0 n M Dm G k 0) (hk : k < n) (h12 : n ≤ 12) : LL G0 n M Dm G (k + 1) k := by
  have hh : ∀ x, x < k + 1 → ∀ l, l < x → half (frM G x l) := fun x hx l hl => by
    by_cases e : x = k
    · subst e; exact h.hk l (Nat.zero_le _) hl
    · exact h.h x (by omega) l hl
  refine ⟨h.c, fun x hx => ?_, hh, h.v⟩
  by_cases e : x = k
  · subst e
    have h1 := short_row h.c.s h.c.p h.c.m hx h12 (hh x (by omega))
    have h2 : ((G x x : Int) : Rat) ≤ ((4 * M : Int) : Rat) := by rw [Rat.intCast_mul]; exact h1
    exact Rat.intCast_le_intCast.mp h2
  · exact h.z x hx e
theorem LL.yes {k : Nat} (h : LL G0 n M Dm G (k + 1) k) (hl : lov G k) : LL G0 n M Dm G (k + 1) (k + 1) :=
  ⟨h.c, h.z, h.h, fun x h1 h2 => by
    by_cases e : x = k
    · subst e; exact hl
    · exact h.v x h1 (by omega)⟩
theorem LL.one (h : LL G0 n M Dm G 0 0) : LL G0 n M Dm G 1 1 := ⟨h.c, h.z, fun x hx l hl => absurd hl (by omega), fun x h1 h2 => absurd h1 (by omega)⟩
theorem swp_frS (hs : SymG G) (hp : PosU G n) {p : Nat} (h : p + 1 < n) : frS (swpI G p) p = frS G (p + 1) + frM G (p + 1) p * frM G (p + 1) p * frS G p ∧ frS (swpI G p) (p + 1) * frS (swpI G p) p = frS G p * frS G (p + 1) := by
  have h0 := piv_ne hs hp (show p < n by omega)
  have e1 : frS (swpI G p) p = gsE (qG G) p (p + 1) (p + 1) := by
    unfold frS; rw [qG_swp, gsE_swp_lo p (Nat.le_refl p), sg_p]
  have e2 : gsE (qG G) (p + 1) (p + 1) (p + 1) = gsE (qG G) p (p + 1) (p + 1) - gsE (qG G) p (p + 1) p * gsE (qG G) p p (p + 1) / gsE (qG G) p p p := gsE_succ _ _ _ _
  have e3 : gsE (qG G) p p (p + 1) = gsE (qG G) p (p + 1) p := gsE_sym (qG_sy hs) p _ _
  have c0 := (swp_c hs hp h).1
  have e4 : frS (swpI G p) (p + 1) = gsE (qG G) p p p - gsE (qG G) p p (p + 1) * gsE (qG G) p (p + 1) p / gsE (qG G) p (p + 1) (p + 1) := by
    unfold frS; rw [qG_swp, gsE_swp_1, sg_q]
  have c1 : gsE (qG G) p (p + 1) (p + 1) ≠ 0 := pos_ne c0
  rw [e3] at e2 e4
  constructor
  · rw [e1]; unfold frM frS; rw [e2]; grind
  · rw [e1, e4]; unfold frS; rw [e2]; grind
theorem uD_swp_lt (hs : SymG G) (hp : PosU G n) {p : Nat} (h : p + 1 < n) (hl : ¬ lov G (p + 1)) : frS (swpI G p) p < frS G p ∧ uD (swpI G p) (p + 1) < uD G (p + 1) := by
  have e := (swp_frS hs hp h).1
  have s0 := frS_p hs hp (show p < n by omega)
  have hn : frS (swpI G p) p < frS G p := by
    have hl2 := hl
    unfold lov at hl2
    rw [show p + 1 - 1 = p by omega] at hl2
    have := Rat.not_le.mp hl2
    grind
  refine ⟨hn, ?_⟩
  have h2 := swpI_pos hs hp h
  have u1 := uD_succ (swpI_sym (p := p) hs) h2 (show p < n by omega)
  have u2 := uD_succ hs hp (show p < n by omega)
  rw [swpI_uD hs hp h (show p ≤ n by omega) (by omega)] at u1
  have d0 : (0 : Rat) < (uD G p : Rat) := by have := hp.uD (show p ≤ n by omega); exact_mod_cast this
  have h3 : ((uD (swpI G p) (p + 1) : Int) : Rat) < ((uD G (p + 1) : Int) : Rat) := by
    rw [u1, u2]
    exact Rat.mul_lt_mul_of_pos_left hn d0
  exact Rat.intCast_lt_intCast.mp h3
theorem frS_swp_ne (hs : SymG G) (hp : PosU G n) {p : Nat} (h : p + 1 < n) {l : Nat} (hl : l < n) (h1 : l ≠ p) (h2 : l ≠ p + 1) : frS (swpI G p) l = frS G l := by
  unfold frS
  rw [qG_swp]
  by_cases e : l ≤ p
  · rw [gsE_swp_lo l e, sg_ne h1 h2]
  · exact gsE_swp_hi (qG_sy hs) (piv_ne hs hp (show p < n by omega)) (pos_ne (swp_c hs hp h).1) (piv_ne hs hp h) l (by omega) l l (Nat.le_refl l) (Nat.le_refl l)
theorem frM_swp_lo (hs : SymG G) (hp : PosU G n) {p : Nat} (h : p + 1 < n) {x l : Nat} (hx : x < p) (hl : l < x) : frM (swpI G p) x l = frM G x l := by
  unfold frM
  rw [qG_swp, gsE_swp_lo l (by omega), gsE_swp_lo l (by omega), sg_ne (show x ≠ p by omega) (by omega), sg_ne (show l ≠ p by omega) (by omega)]
theorem LL.no {p : Nat} (h : LL G0 n M Dm G (p + 2) (p + 1)) (hp1 : p + 1 < n) (hl : ¬ lov G (p + 1)) : LL G0 n M Dm (swpI G p) p p := by
  have hs := h.c.s
  have hp := h.c.p
  obtain ⟨s1, s2⟩ := uD_swp_lt hs hp hp1 hl
  obtain ⟨e1, e2⟩ := swp_frS hs hp hp1
  have hp2 := swpI_pos hs hp hp1
  have f0 := frS_p hs hp (show p < n by omega)
  have f1 := frS_p hs hp hp1
  have g0 := frS_p (swpI_sym (p := p) hs) hp2 (show p < n by omega)
  refine ⟨⟨swpI_sym hs, hp2, fun l hl2 => ?_, ?_, fun l hl2 => ?_⟩, fun x hx => ?_, fun x hx l hl2 => ?_, fun x h1 h2 => ?_⟩
  · by_cases e : l = p + 1
    · subst e; have := h.c.d (p + 1) hl2; omega
    · rw [swpI_uD hs hp hp1 hl2 e]; exact h.c.d l hl2
  · by_cases e : n = p + 1
    · omega
    · rw [swpI_uD hs hp hp1 (Nat.le_refl n) (by omega)]; exact h.c.t
  · by_cases e : l = p
    · subst e; have := h.c.m l hl2; grind
    · by_cases e3 : l = p + 1
      · subst e3
        have a1 := h.c.m p (by omega)
        have a2 : frS G (p + 1) ≤ frS (swpI G p) p := by
          have := Rat.mul_nonneg (sq_nonneg (frM G (p + 1) p)) (Rat.le_of_lt f0)
          grind
        have a3 := Rat.mul_le_mul_of_nonneg_left a2 (Rat.le_of_lt f0)
        have a4 : frS (swpI G p) (p + 1) ≤ frS G p := by
          by_cases c : frS (swpI G p) (p + 1) ≤ frS G p
          · exact c
          · have c2 := Rat.mul_lt_mul_of_pos_right (Rat.not_le.mp c) g0
            grind
        exact Rat.le_trans a4 a1
      · rw [frS_swp_ne hs hp hp1 hl2 e e3]; exact h.c.m l hl2
  · show G (sg p x) (sg p x) ≤ 4 * M
    refine h.z _ ?_
    unfold sg; split
    · omega
    · split <;> omega
  · rw [frM_swp_lo hs hp hp1 hx hl2]; exact h.h x (by omega) l hl2
  · have := h.v x h1 (by omega)
    unfold lov at this ⊢
    rw [frM_swp_lo hs hp hp1 h2 (by omega), frS_swp_ne hs hp hp1 (show x < n by omega) (by omega) (by omega), frS_swp_ne hs hp hp1 (show x - 1 < n by omega) (by omega) (by omega)]
    exact this
def sumD (G : Fi) (n : Nat) : Nat := (sumN (fun l => uD G l) n).toNat
theorem sumN_le {f g : Nat → Int} : ∀ {n}, (∀ i, i < n → f i ≤ g i) → sumN f n ≤ sumN g n
  | 0, _ => Int.le_refl _
  | n + 1, h => by
    have h1 := sumN_le (n := n) (fun i hi => h i (by omega))
    have h2 := h n (by omega)
    show sumN f n + f n ≤ sumN g n + g n
    omega
theorem sumN_lt {f g : Nat → Int} {k : Nat} : ∀ {n}, (∀ i, i < n → f i ≤ g i) → k < n → f k < g k → sumN f n < sumN g n
  | 0, _, hk, _ => absurd hk (by omega)
  | n + 1, h, hk, hl => by
    show sumN f n + f n < sumN g n + g n
    by_cases e : k = n
    · subst e
      have h1 := sumN_le (n := k) (fun i hi => h i (by omega))
      omega
    · have h1 := sumN_lt (n := n) (fun i hi => h i (by omega)) (by omega) hl
      have h2 := h n (by omega)
      omega
theorem sumN_nonneg {f : Nat → Int} : ∀ {n}, (∀ i, i < n → 0 ≤ f i) → 0 ≤ sumN f n
  | 0, _ => Int.le_refl _
  | n + 1, h => by
    have h1 := sumN_nonneg (n := n) (fun i hi => h i (by omega))
    have h2 := h n (by omega)
    show 0 ≤ sumN f n + f n
    omega
theorem sumD_row (hs : SymG G) (hp : PosU G n) {k j : Nat} (hj : j < k) (t : Int) : sumD (rowI G k j t) n = sumD G n := by
  unfold sumD; rw [sumN_congr fun l hl => rowI_uD hs hp hj (Nat.le_of_lt hl)]
theorem sumD_swp (hs : SymG G) (hp : PosU G n) {p : Nat} (h : p + 1 < n) (hl : ¬ lov G (p + 1)) : sumD (swpI G p) n < sumD G n := by
  have h2 := (uD_swp_lt hs hp h hl).2
  have hp2 := swpI_pos hs hp h
  have a := sumN_lt (f := fun l => uD (swpI G p) l) (g := fun l => uD G l) (n := n) (k := p + 1) (fun l hl2 => by
    by_cases e : l = p + 1
    · subst e; omega
    · rw [swpI_uD hs hp h (Nat.le_of_lt hl2) e]; exact Int.le_refl _) h h2
  have b := sumN_nonneg (f := fun l => uD (swpI G p) l) (n := n) (fun l hl2 => by have := hp2.uD (show l ≤ n by omega); omega)
  unfold sumD
  omega
end
end Fw
/- Plain facts: how great coefficients of short rows can be; Hermite's bound; the form of a change. -/
set_option linter.unusedVariables false
set_option linter.unusedSimpArgs false
set_option exponentiation.threshold 400
namespace Fw
open Go
structure wi (q b : Rat) : Prop where
  lo : -b ≤ q
  hi : q ≤ b
theorem wi_add {q b r c : Rat} (h : wi q b) (h2 : wi r c) : wi (q + r) (b + c) := by
  have h1 := h.lo; have h3 := h.hi; have h4 := h2.lo; have h5 := h2.hi; constructor <;> grind
theorem wi_sub {q b r c : Rat} (h : wi q b) (h2 : wi r c) : wi (q - r) (b + c) := by
  have h1 := h.lo; have h3 := h.hi; have h4 := h2.lo; have h5 := h2.hi; constructor <;> grind
theorem wi_le {q b c : Rat} (h : wi q b) (h2 : b ≤ c) : wi q c := by
  have h1 := h.lo; have h3 := h.hi; constructor <;> grind
theorem wi_mul {q b r c : Rat} (h : wi q b) (h2 : wi r c) : wi (q * r) (b * c) := by
  have h1 := h.lo; have h3 := h.hi; have h4 := h2.lo; have h5 := h2.hi
  have a1 := Rat.mul_nonneg (a := b - q) (b := c + r) (by grind) (by grind)
  have a2 := Rat.mul_nonneg (a := b + q) (b := c - r) (by grind) (by grind)
  have a3 := Rat.mul_nonneg (a := b - q) (b := c - r) (by grind) (by grind)
  have a4 := Rat.mul_nonneg (a := b + q) (b := c + r) (by grind) (by grind)
  constructor <;> grind
theorem wi_sq {q b : Rat} (h : q * q ≤ b) (h1 : 1 ≤ b) : wi q b := by
  constructor
  · by_cases c : -b ≤ q
    · exact c
    · have a := Rat.not_le.mp c
      have := Rat.mul_nonneg (a := -q - 1) (b := -q) (by grind) (by grind)
      grind
  · by_cases c : q ≤ b
    · exact c
    · have a := Rat.not_le.mp c
      have := Rat.mul_nonneg (a := q - 1) (b := q) (by grind) (by grind)
      grind
theorem wi_sum {f : Nat → Rat} {b : Rat} : ∀ {n}, (∀ i, i < n → wi (f i) b) → wi (sumQ f n) ((n : Rat) * b)
  | 0, _ => by
    have e : ((0 : Nat) : Rat) * b = 0 := by simp
    rw [e]
    constructor
    · show (-0 : Rat) ≤ 0; grind
    · show (0 : Rat) ≤ 0; grind
  | n + 1, h => by
    have h1 := wi_sum (n := n) fun i hi => h i (by omega)
    have h2 := wi_add h1 (h n (by omega))
    have e : ((n + 1 : Nat) : Rat) * b = (n : Rat) * b + b := by push_cast; grind
    rw [e]; exact h2
def bdC (T K : Int) : Nat → Int
  | 0 => T
  | m + 1 => bdC T K m * K
theorem bdC_pos {T K : Int} (hT : 0 < T) (hK : 0 < K) : ∀ m, 0 < bdC T K m
  | 0 => hT
  | m + 1 => Int.mul_pos (bdC_pos hT hK m) hK
theorem bdC_mono {T K : Int} (hT : 0 < T) (hK : 0 < K) : ∀ m, bdC T K m ≤ bdC T K (m + 1) := fun m => by
  show bdC T K m ≤ bdC T K m * K
  have := Int.mul_le_mul_of_nonneg_left (show 1 ≤ K by omega) (Int.le_of_lt (bdC_pos hT hK m))
  omega
theorem bdC_ge {T K : Int} (hT : 0 < T) (hK : 0 < K) : ∀ m, T ≤ bdC T K m
  | 0 => Int.le_refl _
  | m + 1 => Int.le_trans (bdC_ge hT hK m) (bdC_mono hT hK m)
theorem bdC_pow {t k : Nat} {T K : Int} (hT : 0 < T) (hK : 0 < K) (h1 : T ≤ ((2 ^ t : Nat) : Int)) (h2 : K ≤ ((2 ^ k : Nat) : Int)) : ∀ m, bdC T K m ≤ ((2 ^ (t + k * m) : Nat) : Int)
  | 0 => h1
  | m + 1 => by
    show bdC T K m * K ≤ _
    have h3 := Int.mul_le_mul (bdC_pow hT hK h1 h2 m) h2 (Int.le_of_lt hK) (Int.natCast_nonneg _)
    rw [show t + k * (m + 1) = t + k * m + k by rw [Nat.mul_add]; omega, Nat.pow_add]
    push_cast at h3 ⊢
    exact h3
theorem wi_int {z b : Int} (h : wi (z : Rat) (b : Rat)) : -b ≤ z ∧ z ≤ b := by
  have h1 := h.lo
  rw [← Rat.intCast_neg] at h1
  exact ⟨Rat.intCast_le_intCast.mp h1, Rat.intCast_le_intCast.mp h.hi⟩
section
variable {G : Fi} {n : Nat}
theorem qy_split (hs : SymG G) (hp : PosU G n) (c : Nat → Rat) {l : Nat} (hl : l < n) : qy (qG G) n c l = (c l + sumQ (fun i => if l < i then c i * frM G i l else 0) n) * frS G l := by
  unfold qy
  have e : ∀ i, i < n → c i * gsE (qG G) l i l = (if i = l then c l * frS G l else 0) + (if l < i then c i * frM G i l else 0) * frS G l := fun i hi => by
    by_cases h1 : i = l
    · subst h1; rw [if_pos rfl, if_neg (by omega)]; unfold frS; grind
    · rw [if_neg h1]
      by_cases h2 : l < i
      · rw [if_pos h2, ← frM_mul hs hp (show l < n by omega)]; grind
      · rw [if_neg h2, gsE_gone (qG_sy hs) (fun k hk => piv_ne hs hp hk) l (by omega) i l (Or.inl (by omega))]; grind
  rw [sumQ_congr e, sumQ_add, ← sumQ_mul, sumQ_one hl (fun i hi h => if_neg h), if_pos rfl]
  grind
theorem coef_le (hs : SymG G) (hp : PosU G n) (h12 : n ≤ 12) {M Dm Q : Int} (hM : ∀ x, x < n → G x x ≤ M) (hD : ∀ l, l ≤ n → uD G l ≤ Dm) (c : Nat → Rat) (hQ : qf (qG G) n c ≤ (Q : Rat)) (hQ1 : 1 ≤ Q) (hM1 : 1 ≤ M) : ∀ m, ∀ l, l < n → n ≤ l + m → wi (c l) ((bdC (Q * Dm) (1 + 12 * (M * Dm)) m : Int) : Rat)
  | 0, l, hl, hm => absurd hl (by omega)
  | m + 1, l, hl, hm => by
    have ih := coef_le hs hp h12 hM hD c hQ hQ1 hM1 m
    have hD1 : 1 ≤ Dm := hD 0 (Nat.zero_le _)
    have hT : 0 < Q * Dm := Int.mul_pos (by omega) (by omega)
    have hR : 0 < M * Dm := Int.mul_pos (by omega) (by omega)
    have hK : 0 < 1 + 12 * (M * Dm) := by omega
    have hb := bdC_pos hT hK m
    have f0 := frS_p hs hp hl
    have u1 := uD_succ hs hp hl
    have d0 : (0 : Rat) < (uD G l : Rat) := by have := hp.uD (show l ≤ n by omega); exact_mod_cast this
    have d1 : ((1 : Int) : Rat) ≤ (uD G (l + 1) : Rat) := Rat.intCast_le_intCast.mpr (by have := hp.uD (show l + 1 ≤ n by omega); omega)
    have d2 : (uD G l : Rat) ≤ (Dm : Rat) := Rat.intCast_le_intCast.mpr (hD l (by omega))
    have o1 : ((1 : Int) : Rat) = 1 := rfl
    rw [o1] at d1
    -- 1 ≤ Dm * frS
    have g0 : (1 : Rat) ≤ (Dm : Rat) * frS G l := by
      have := Rat.mul_le_mul_of_nonneg_right d2 (Rat.le_of_lt f0)
      grind
    -- from z z frS ≤ B follows z z ≤ B Dm
    have key : ∀ (z B : Rat), z * z * frS G l ≤ B → z * z ≤ B * (Dm : Rat) := fun z B h => by
      have a1 := Rat.mul_le_mul_of_nonneg_left g0 (sq_nonneg z)
      have a2 : (0 : Rat) ≤ (Dm : Rat) := by grind
      have a3 := Rat.mul_le_mul_of_nonneg_right h a2
      grind
    have hy := qy_le (c := c) (qG_sy hs) (fun k hk => piv_pos hs hp hk) hl
    rw [qy_split hs hp c hl] at hy
    generalize hsm : sumQ (fun i => if l < i then c i * frM G i l else 0) n = S at hy
    have hy2 : (c l + S) * (c l + S) * frS G l ≤ (Q : Rat) := by
      have a1 : (c l + S) * frS G l * ((c l + S) * frS G l) = (c l + S) * (c l + S) * frS G l * frS G l := by grind
      rw [a1] at hy
      have a2 : qf (qG G) n c * gsE (qG G) l l l ≤ (Q : Rat) * frS G l := Rat.mul_le_mul_of_nonneg_right hQ (Rat.le_of_lt f0)
      by_cases h : (c l + S) * (c l + S) * frS G l ≤ (Q : Rat)
      · exact h
      · have a3 := Rat.mul_lt_mul_of_pos_right (Rat.not_le.mp h) f0
        grind
    have w1 := wi_sq (q := c l + S) (b := ((Q * Dm : Int) : Rat)) (by rw [Rat.intCast_mul]; exact key _ _ hy2) (by rw [← o1]; exact Rat.intCast_le_intCast.mpr (by omega))
    have w2 : wi S ((n : Rat) * ((bdC (Q * Dm) (1 + 12 * (M * Dm)) m * (M * Dm) : Int) : Rat)) := by
      rw [← hsm]
      refine wi_sum fun i hi => ?_
      by_cases h : l < i
      · rw [if_pos h, Rat.intCast_mul]
        refine wi_mul (ih i hi (by omega)) ?_
        have t := term_le hs hp h hi
        have t2 : (G i i : Rat) ≤ (M : Rat) := Rat.intCast_le_intCast.mpr (hM i hi)
        exact wi_sq (by rw [Rat.intCast_mul]; exact key _ _ (Rat.le_trans t t2)) (by rw [← o1]; exact Rat.intCast_le_intCast.mpr (by omega))
      · rw [if_neg h]
        have : (0 : Rat) ≤ ((bdC (Q * Dm) (1 + 12 * (M * Dm)) m * (M * Dm) : Int) : Rat) := by
          have o0 : ((0 : Int) : Rat) = 0 := rfl
          rw [← o0]; exact Rat.intCast_le_intCast.mpr (Int.le_of_lt (Int.mul_pos hb hR))
        constructor <;> grind
    have w3 := wi_sub w1 w2
    have e3 : c l + S - S = c l := by grind
    rw [e3] at w3
    refine wi_le w3 ?_
    have hTm : Q * Dm ≤ bdC (Q * Dm) (1 + 12 * (M * Dm)) m := bdC_ge hT hK m
    have en : (n : Rat) * ((bdC (Q * Dm) (1 + 12 * (M * Dm)) m * (M * Dm) : Int) : Rat) = (((n : Int) * (bdC (Q * Dm) (1 + 12 * (M * Dm)) m * (M * Dm)) : Int) : Rat) := by
      rw [Rat.intCast_mul (n : Int), Rat.intCast_natCast]
    rw [en, ← Rat.intCast_add]
    refine Rat.intCast_le_intCast.mpr ?_
    show _ ≤ bdC (Q * Dm) (1 + 12 * (M * Dm)) m * (1 + 12 * (M * Dm))
    generalize bdC (Q * Dm) (1 + 12 * (M * Dm)) m = b at *
    have a1 := Int.mul_pos hb hR
    have a2 := Int.mul_le_mul_of_nonneg_right (show (n : Int) ≤ 12 by omega) (Int.le_of_lt a1)
    have a3 : b * (1 + 12 * (M * Dm)) = b + 12 * (b * (M * Dm)) := by grind
    omega
end
def fU (A : Fi) (n : Nat) (u : Fi) : Fi := fun x y => sumN (fun j => sumN (fun i => u x i * A i j) n * u y j) n
theorem fU_add (A : Fi) (n : Nat) (a b c : Nat → Int) (s : Int) : sumN (fun j => sumN (fun i => (a i + s * b i) * A i j) n * c j) n = sumN (fun j => sumN (fun i => a i * A i j) n * c j) n + s * sumN (fun j => sumN (fun i => b i * A i j) n * c j) n := by
  rw [mul_sumN, ← sumN_add]
  refine sumN_congr fun j _ => ?_
  have e : sumN (fun i => (a i + s * b i) * A i j) n = sumN (fun i => a i * A i j) n + s * sumN (fun i => b i * A i j) n := by
    rw [mul_sumN, ← sumN_add]
    refine sumN_congr fun i _ => ?_
    show (a i + s * b i) * A i j = a i * A i j + s * (b i * A i j)
    grind
  rw [e]; show _ = _ + s * (_ * c j); grind
theorem fU_add2 (A : Fi) (n : Nat) (c a b : Nat → Int) (s : Int) : sumN (fun j => sumN (fun i => c i * A i j) n * (a j + s * b j)) n = sumN (fun j => sumN (fun i => c i * A i j) n * a j) n + s * sumN (fun j => sumN (fun i => c i * A i j) n * b j) n := by
  rw [mul_sumN, ← sumN_add]
  refine sumN_congr fun j _ => ?_
  show _ * (a j + s * b j) = _ * a j + s * (_ * b j)
  grind
def rU (u : Fi) (k j : Nat) (q : Int) : Fi := fun x i => u x i + (if x = k then q else 0) * u j i
theorem fU_row (A : Fi) (n : Nat) (u : Fi) {k j : Nat} (q : Int) : fU A n (rU u k j q) = rowI (fU A n u) k j q := by
  funext x y
  show sumN (fun j => sumN (fun i => (u x i + (if x = k then q else 0) * u _ i) * A i j) n * (u y j + (if y = k then q else 0) * u _ j)) n = _
  rw [fU_add, fU_add2, fU_add2]
  unfold rowI fU
  grind
theorem fU_swp (A : Fi) (n : Nat) (u : Fi) (p : Nat) : fU A n (fun x => u (sg p x)) = swpI (fU A n u) p := rfl
theorem fU_congr {A : Fi} {n : Nat} {u w : Fi} (h : ∀ x i, i < n → u x i = w x i) : fU A n u = fU A n w := by
  funext x y
  unfold fU
  refine sumN_congr fun j hj => ?_
  rw [h y j hj, sumN_congr fun i hi => by rw [h x i hi]]
theorem sumN_one {f : Nat → Int} {k : Nat} : ∀ {n}, k < n → (∀ i, i < n → i ≠ k → f i = 0) → sumN f n = f k
  | 0, hk, _ => absurd hk (by omega)
  | n + 1, hk, h => by
    show sumN f n + f n = f k
    by_cases e : k = n
    · subst e
      rw [sumN_congr (g := fun _ => 0) fun i hi => h i (by omega) (by omega), sumN_zero]; omega
    · rw [sumN_one (n := n) (by omega) fun i hi => h i (by omega), h n (by omega) (by omega)]; omega
theorem fU_unit {A : Fi} {n : Nat} {u : Fi} (h : ∀ x i, i < n → u x i = if x = i then 1 else 0) (h0 : ∀ x y, ¬ (x < n ∧ y < n) → A x y = 0) : fU A n u = A := by
  funext x y
  unfold fU
  have e1 : ∀ j, j < n → sumN (fun i => u x i * A i j) n = A x j := fun j hj => by
    by_cases hx : x < n
    · rw [sumN_one hx fun i hi hne => by show u x i * A i j = 0; rw [h x i hi, if_neg (by omega)]; omega, h x x hx, if_pos rfl]; omega
    · rw [sumN_congr (g := fun _ => 0) fun i hi => by show u x i * A i j = 0; rw [h x i hi, if_neg (by omega)]; omega, sumN_zero, h0 x j (by omega)]
  rw [sumN_congr fun j hj => by rw [e1 j hj]]
  by_cases hy : y < n
  · rw [sumN_one hy fun i hi hne => by show A x i * u y i = 0; rw [h y i hi, if_neg (by omega)]; omega, h y y hy, if_pos rfl]; omega
  · rw [sumN_congr (g := fun _ => 0) fun i hi => by show A x i * u y i = 0; rw [h y i hi, if_neg (by omega)]; omega, sumN_zero, h0 x y (by omega)]
theorem sumN_q (f : Nat → Int) : ∀ n, ((sumN f n : Int) : Rat) = sumQ (fun i => (f i : Rat)) n
  | 0 => rfl
  | n + 1 => by
    show ((sumN f n + f n : Int) : Rat) = sumQ _ n + _
    rw [Rat.intCast_add, sumN_q f n]
theorem fU_qf (A : Fi) (n : Nat) (u : Fi) (x : Nat) : ((fU A n u x x : Int) : Rat) = qf (qG A) n (fun i => (u x i : Rat)) := by
  unfold fU qf
  rw [sumN_q, sumQ_comm]
  refine sumQ_congr fun j _ => ?_
  rw [Rat.intCast_mul, sumN_q, sumQ_mul]
  refine sumQ_congr fun i _ => ?_
  rw [Rat.intCast_mul]; unfold qG; grind
section
variable {G : Fi} {n : Nat}
def p2 : Nat → Rat
  | 0 => 1
  | m + 1 => 2 * p2 m
def h2 : Nat → Rat
  | 0 => 1
  | m + 1 => p2 m * h2 m
end
end Fw
/- Plain facts: turned matrices, minors. -/
set_option linter.unusedVariables false
set_option linter.unusedSimpArgs false
set_option exponentiation.threshold 400
namespace Fw
open Go
theorem take_app2 {α : Type} {l : List α} {k : Nat} {x : α} (h : l[k]? = some x) : l.take k ++ [x] = l.take (k + 1) := by
  obtain ⟨h1, rfl⟩ := List.getElem?_eq_some_iff.1 h
  rw [List.take_succ_eq_append_getElem h1]
theorem range_app {α : Type} (F : Nat → α) (i : Nat) : (List.range i).map F ++ [F i] = (List.range (i + 1)).map F := by simp [List.range_succ]
end Fw
/- Plain facts: rows of a change as lists; sizes while a form is reduced. -/
set_option linter.unusedVariables false
set_option linter.unusedSimpArgs false
set_option exponentiation.threshold 400
namespace Fw
open Go
instance (G : Fi) (x : Nat) : Decidable (lov G x) := inferInstanceAs (Decidable ((3 / 4 : Rat) * frS G (x - 1) ≤ frS G x + frM G x (x - 1) * frM G x (x - 1) * frS G (x - 1)))
def pairV (F : Int → Int → Int) (u v : List Int) : List Int := (List.range u.length).map (fun l => F (u.getD l 0) (v.getD l 0))
theorem pairV_len (F u v) : (pairV F u v).length = u.length := by simp [pairV]
theorem pairV_get {F u v i} (h : i < u.length) : (pairV F u v).getD i 0 = F (u.getD i 0) (v.getD i 0) := by
  rw [List.getD_eq_getElem?_getD]; simp [pairV, h]
theorem getD_timesV (q : Int) (v : List Int) (i : Nat) : (v.map (fun x => q * x)).getD i 0 = q * v.getD i 0 := by
  rw [List.getD_eq_getElem?_getD, List.getD_eq_getElem?_getD, List.getElem?_map]
  cases v[i]? <;> simp
def unitV (n : Nat) : List (List Int) := (List.range n).map (fun x => (List.replicate n 0).set x 1)
theorem unitV_len (n) : (unitV n).length = n := by simp [unitV]
theorem unitV_row {n x} (h : x < n) : (unitV n).getD x [] = (List.replicate n 0).set x 1 := by
  rw [List.getD_eq_getElem?_getD]; simp [unitV, h]
theorem unitV_at (n : Nat) (x i : Nat) (hi : i < n) : matF (unitV n) x i = if x = i then 1 else 0 := by
  unfold matF
  by_cases h : x < n
  · rw [unitV_row h, List.getD_eq_getElem?_getD, List.getElem?_set]
    by_cases e : x = i
    · subst e; simp [h]
    · simp [e, hi]
  · rw [if_neg (by omega), List.getD_eq_getElem?_getD (l := unitV n), List.getElem?_eq_none (by rw [unitV_len]; omega)]; rfl
structure CU (n : Nat) (U : List (List Int)) : Prop where
  len : U.length = n
  row : ∀ x, x < n → (U.getD x []).length = n
theorem CU_unit (n) : CU n (unitV n) := ⟨unitV_len n, fun x hx => by rw [unitV_row hx]; simp⟩
def rowU (U : List (List Int)) (k j : Nat) (q : Int) : List (List Int) := U.set k (pairV (fun x y => x + y) (U.getD k []) ((U.getD j []).map (fun x => q * x)))
theorem getD_setL {α : Type} (l : List α) (i k : Nat) (x d : α) (h : i < l.length) : (l.set i x).getD k d = if k = i then x else l.getD k d := by
  rw [List.getD_eq_getElem?_getD, List.getElem?_set]
  by_cases e : i = k
  · subst e; simp [h]
  · rw [if_neg e, if_neg (fun h => e h.symm), List.getD_eq_getElem?_getD]
section
variable {n : Nat} {U : List (List Int)}
theorem CU_row (h : CU n U) {k j : Nat} (q : Int) (hk : k < n) : CU n (rowU U k j q) := ⟨by simp [rowU, h.len], fun x hx => by
  unfold rowU
  rw [getD_setL _ _ _ _ _ (by rw [h.len]; exact hk)]
  split
  · rw [pairV_len]; exact h.row k hk
  · exact h.row x hx⟩
theorem matF_rowU (h : CU n U) {k j : Nat} (q : Int) (hk : k < n) (x i : Nat) (hi : i < n) : matF (rowU U k j q) x i = rU (matF U) k j q x i := by
  unfold rowU rU
  show ((U.set k _).getD x []).getD i 0 = _
  rw [getD_setL _ _ _ _ _ (by rw [h.len]; exact hk)]
  by_cases e : x = k
  · subst e
    rw [if_pos rfl, if_pos rfl, pairV_get (by rw [h.row x hk]; exact hi), getD_timesV]; rfl
  · rw [if_neg e, if_neg e]; show matF U x i = _; omega
def swpU (U : List (List Int)) (p : Nat) : List (List Int) := (U.set (p + 1) (U.getD p [])).set p (U.getD (p + 1) [])
theorem swpU_get (h : CU n U) {p : Nat} (hp : p + 1 < n) (x : Nat) : (swpU U p).getD x [] = U.getD (sg p x) [] := by
  unfold swpU
  rw [getD_setL _ _ _ _ _ (by rw [List.length_set, h.len]; omega), getD_setL _ _ _ _ _ (by rw [h.len]; omega)]
  by_cases e : x = p
  · subst e; rw [if_pos rfl, sg_p]
  · rw [if_neg e]
    by_cases e2 : x = p + 1
    · subst e2; rw [if_pos rfl, sg_q]
    · rw [if_neg e2, sg_ne e e2]
theorem CU_swp (h : CU n U) {p : Nat} (hp : p + 1 < n) : CU n (swpU U p) := ⟨by simp [swpU, h.len], fun x hx => by
  rw [swpU_get h hp]; refine h.row _ ?_
  unfold sg; split
  · omega
  · split <;> omega⟩
end
def gB (M Dm : Int) : Int := 4 * M * (2 + 32 * Dm * M) ^ 12
structure LB (M Dm : Int) (N : Nat) : Prop where
  m1 : 1 ≤ M
  d1 : 1 ≤ Dm
  d : Dm ≤ ((2 ^ N : Nat) : Int)
  g : gB M Dm ≤ ((2 ^ N : Nat) : Int)
  c : bdC (gB M Dm * Dm) (1 + 12 * (gB M Dm * Dm)) 12 ≤ ((2 ^ N : Nat) : Int)
  n : N ≤ 536870912
theorem Sz_pw {N : Nat} {z : Int} (h1 : -((2 ^ N : Nat) : Int) ≤ z) (h2 : z ≤ ((2 ^ N : Nat) : Int)) : Sz (N + 1) z := by
  show z.natAbs < 2 ^ (N + 1)
  have := Nat.two_pow_pos N
  rw [Nat.pow_succ]; omega
section
variable {G0 G A : Fi} {n N : Nat} {M Dm : Int}
theorem LB.k1 (h : LB M Dm N) : 1 ≤ 2 + 32 * Dm * M := by
  have := Int.mul_pos (show 0 < Dm by have := h.d1; omega) (show 0 < M by have := h.m1; omega)
  rw [Int.mul_assoc]; omega
theorem pow_mono {K : Int} (h : 1 ≤ K) {m k : Nat} (hm : m ≤ k) : K ^ m ≤ K ^ k := by
  obtain ⟨c, rfl⟩ := Nat.exists_eq_add_of_le hm
  clear hm
  induction c with
  | zero => exact Int.le_refl _
  | succ c ih =>
    have h0 : 0 < K ^ (m + c) := Int.pow_pos (by omega)
    have := Int.mul_le_mul_of_nonneg_left h (Int.le_of_lt h0)
    rw [show m + (c + 1) = (m + c) + 1 by omega, Int.pow_succ]
    omega
theorem LB.g4 (h : LB M Dm N) {m : Nat} (hm : m ≤ 12) : 4 * M * (2 + 32 * Dm * M) ^ m ≤ gB M Dm := by
  have h1 := h.k1
  have h2 := h.m1
  unfold gB
  refine Int.mul_le_mul_of_nonneg_left ?_ (by omega)
  exact pow_mono h1 hm
theorem LB.g0 (h : LB M Dm N) : 4 * M ≤ gB M Dm := by
  have := h.g4 (m := 0) (by omega)
  rwa [Int.pow_zero, Int.mul_one] at this
theorem LL.dia {a b : Nat} (h : LL G0 n M Dm G a b) (hB : LB M Dm N) : ∀ x, x < n → G x x ≤ gB M Dm := fun x hx => Int.le_trans (h.z x hx) hB.g0
theorem LR.dia {k j : Nat} (h : LR G0 n M Dm G k j) (hB : LB M Dm N) (hk : k < n) (h12 : n ≤ 12) : ∀ x, x < n → G x x ≤ gB M Dm := fun x hx => by
  by_cases e : x = k
  · subst e; exact Int.le_trans h.zk (hB.g4 (by omega))
  · exact Int.le_trans (h.z x hx e) hB.g0
theorem sz_D (h : LC G0 n M Dm G) (hB : LB M Dm N) : ∀ k, k ≤ n → Sz (4 * N + 8) (uD G k) := fun k hk => by
  have h1 := h.d k hk
  have h2 := h.p.uD hk
  have h3 := hB.d
  exact (Sz_pw (N := N) (by omega) (by omega)).up (by omega)
theorem mul_pw {x y : Int} {a b : Nat} (hx : x ≤ ((2 ^ a : Nat) : Int)) (hy : y ≤ ((2 ^ b : Nat) : Int)) (h0 : 0 ≤ x) (h1 : 0 ≤ y) : x * y ≤ ((2 ^ (a + b) : Nat) : Int) := by
  have := Int.mul_le_mul hx hy h1 (Int.natCast_nonneg _)
  rw [Nat.pow_add]; push_cast at this ⊢; exact this
theorem sz_L (h : LC G0 n M Dm G) (hB : LB M Dm N) (hd : ∀ x, x < n → G x x ≤ gB M Dm) : ∀ x k, x < n → k < x → Sz (4 * N + 8) (uE G k x k) := fun x k hx hk => by
  have h1 := uE_sq h.s h.p hk hx
  have a1 := h.d k (by omega)
  have a2 := h.d (k + 1) (by omega)
  have b1 := h.p.uD (show k ≤ n by omega)
  have b2 := h.p.uD (show k + 1 ≤ n by omega)
  have c1 := hd x hx
  have c2 := dia_pos h.s h.p hx
  have e1 := mul_pw (Int.le_trans a1 hB.d) (Int.le_trans a2 hB.d) (Int.le_of_lt b1) (Int.le_of_lt b2)
  have e2 := mul_pw e1 (Int.le_trans c1 hB.g) (Int.le_of_lt (Int.mul_pos b1 b2)) (Int.le_of_lt c2)
  have e3 := Int.mul_pos (Int.mul_pos b1 b2) c2
  exact (Sz.sq (Sz_pw (N := N + N + N) (by omega) e2) h1).up (by omega)
theorem sz_q (h : LC G0 n M Dm G) (hB : LB M Dm N) (hd : ∀ x, x < n → G x x ≤ gB M Dm) {k j : Nat} (hj : j < k) (hk : k < n) : Sz (4 * N + 8) (nearQ (frM G k j)) := by
  have h1 := near_uE h.s h.p hj hk
  have a1 := h.d j (by omega)
  have b1 := h.p.uD (show j ≤ n by omega)
  have c1 := hd k hk
  have c2 := dia_pos h.s h.p hk
  have e1 := mul_pw (Int.le_trans a1 hB.d) (Int.le_trans c1 hB.g) (Int.le_of_lt b1) (Int.le_of_lt c2)
  have e2 := mul_pw (a := 2) (x := 4) (by decide) e1 (by omega) (Int.le_of_lt (Int.mul_pos b1 c2))
  have e3 := Int.mul_pos b1 c2
  exact (Sz.sq (Sz_pw (N := 2 + (N + N)) (by omega) e2) h1).up (by omega)
theorem sz_U (hs : SymG A) (hp : PosU A n) (h12 : n ≤ 12) (hB : LB M Dm N) (hM : ∀ x, x < n → A x x ≤ M) (hD : ∀ l, l ≤ n → uD A l ≤ Dm) {u : Fi} (hd : ∀ x, x < n → fU A n u x x ≤ gB M Dm) : ∀ x l, x < n → l < n → Sz (4 * N + 8) (u x l) := fun x l hx hl => by
  have g0 := hB.g0
  have m1 := hB.m1
  have hQ : qf (qG A) n (fun i => (u x i : Rat)) ≤ ((gB M Dm : Int) : Rat) := by
    rw [← fU_qf]; exact Rat.intCast_le_intCast.mpr (hd x hx)
  have w := coef_le hs hp h12 (M := gB M Dm) (fun x hx => Int.le_trans (hM x hx) (by omega)) hD (fun i => (u x i : Rat)) hQ (by omega) (by omega) 12 l hl (by omega)
  obtain ⟨w1, w2⟩ := wi_int w
  have c := hB.c
  exact (Sz_pw (N := N) (by omega) (by omega)).up (by omega)
theorem sz_Ul {U : List (List Int)} (hU : CU n U) (h : ∀ x l, x < n → l < n → Sz (4 * N + 8) (matF U x l)) (x : Nat) : SzL (4 * N + 8) (U.getD x []) := fun i => by
  by_cases hx : x < n
  · by_cases hi : i < n
    · exact h x i hx hi
    · rw [List.getD_eq_getElem?_getD, List.getElem?_eq_none (by rw [hU.row x hx]; omega)]; exact Sz.zero _
  · rw [List.getD_eq_getElem?_getD (l := U), List.getElem?_eq_none (by rw [hU.len]; omega)]; exact Sz.zero _
end
theorem LB_pow (e d : Nat) (he : e ≤ 1024) (hd : d ≤ 2200000) : ∃ N, LB ((2 ^ e : Nat) : Int) ((2 ^ d : Nat) : Int) N := by
  have e1 : (1 : Int) ≤ ((2 ^ e : Nat) : Int) := by have := Nat.two_pow_pos e; omega
  have d1 : (1 : Int) ≤ ((2 ^ d : Nat) : Int) := by have := Nat.two_pow_pos d; omega
  generalize hM : ((2 ^ e : Nat) : Int) = M at *
  generalize hDm : ((2 ^ d : Nat) : Int) = Dm at *
  have hm := mul_pw (Int.le_of_eq hDm.symm) (Int.le_of_eq hM.symm) (by omega) (by omega)
  have hm0 := Int.mul_pos (show 0 < Dm by omega) (show 0 < M by omega)
  have pm : ∀ {a b : Nat}, a ≤ b → ((2 ^ a : Nat) : Int) ≤ ((2 ^ b : Nat) : Int) := fun h => by have := Nat.pow_le_pow_right (show 0 < 2 by omega) h; omega
  have hK : 2 + 32 * Dm * M ≤ ((2 ^ (d + e + 6) : Nat) : Int) := by
    rw [Int.mul_assoc, show d + e + 6 = (d + e) + 6 by omega, Nat.pow_add]; push_cast at hm ⊢; omega
  have hK0 : 0 ≤ 2 + 32 * Dm * M := by rw [Int.mul_assoc]; omega
  have hKp : ∀ m, 0 ≤ (2 + 32 * Dm * M) ^ m ∧ (2 + 32 * Dm * M) ^ m ≤ ((2 ^ ((d + e + 6) * m) : Nat) : Int) := fun m => by
    induction m with
    | zero => exact ⟨by rw [Int.pow_zero]; omega, by rw [Int.pow_zero, Nat.mul_zero]; decide⟩
    | succ m ih =>
      rw [Int.pow_succ, Nat.mul_succ]
      exact ⟨Int.mul_nonneg ih.1 hK0, mul_pw ih.2 hK ih.1 hK0⟩
  have h4 := mul_pw (a := 2) (x := 4) (by decide) (Int.le_of_eq hM.symm) (by omega) (by omega)
  have hg := mul_pw h4 (hKp 12).2 (by omega) (hKp 12).1
  have hg0 : 0 < gB M Dm := by
    unfold gB
    exact Int.mul_pos (by omega) (Int.pow_pos (by rw [Int.mul_assoc]; omega))
  have hg2 : gB M Dm ≤ ((2 ^ (2 + e + (d + e + 6) * 12) : Nat) : Int) := hg
  have ht := mul_pw hg2 (Int.le_of_eq hDm.symm) (Int.le_of_lt hg0) (by omega)
  have ht0 := Int.mul_pos hg0 (show 0 < Dm by omega)
  have hk : 1 + 12 * (gB M Dm * Dm) ≤ ((2 ^ (2 + e + (d + e + 6) * 12 + d + 4) : Nat) : Int) := by
    rw [Nat.pow_add _ _ 4]; push_cast at ht ⊢; omega
  have hb := bdC_pow ht0 (show 0 < 1 + 12 * (gB M Dm * Dm) by omega) ht hk 12
  refine ⟨2 + e + (d + e + 6) * 12 + d + (2 + e + (d + e + 6) * 12 + d + 4) * 12, e1, d1, ?_, ?_, ?_, by omega⟩
  · rw [← hDm]; exact pm (by omega)
  · exact Int.le_trans hg2 (pm (by omega))
  · exact hb
section
variable {G0 G A : Fi} {n N : Nat} {M Dm : Int}
theorem LL.init (hs : SymG A) (hp : PosU A n) (hM : ∀ x, x < n → A x x ≤ M) (hD : ∀ l, l ≤ n → uD A l ≤ Dm) (hB : LB M Dm N) : LL A n M Dm A 1 1 :=
  ⟨⟨hs, hp, hD, rfl, fun l hl => Rat.le_trans (frS_le hs hp hl) (Rat.intCast_le_intCast.mpr (hM l hl))⟩, fun x hx => by have := hM x hx; have := hB.m1; omega, fun x hx l hl => absurd hl (by omega), fun x h1 h2 => absurd h1 (by omega)⟩
theorem LR.zero' {k c : Nat} (h : LR G0 n M Dm G k c) (h0 : 0 < c) (hc : c ≤ k) (hk : k < n) (hz : nearQ (frM G k (c - 1)) = 0) : LR G0 n M Dm G k (c - 1) := by
  obtain ⟨j, rfl⟩ : ∃ j, c = j + 1 := ⟨c - 1, by omega⟩
  exact LR.zero h (by omega) hk hz
theorem LR.step' {k c : Nat} (h : LR G0 n M Dm G k c) (h0 : 0 < c) (hc : c ≤ k) (hk : k < n) : LR G0 n M Dm (rowI G k (c - 1) (-(nearQ (frM G k (c - 1))))) k (c - 1) := by
  obtain ⟨j, rfl⟩ : ∃ j, c = j + 1 := ⟨c - 1, by omega⟩
  exact LR.step h (by omega) hk
theorem LL.no' {k : Nat} (h : LL G0 n M Dm G (k + 1) k) (h0 : 0 < k) (hk : k < n) (hl : ¬ lov G (k - 1 + 1)) : LL G0 n M Dm (swpI G (k - 1)) (max (k - 1) 1) (max (k - 1) 1) := by
  obtain ⟨p, rfl⟩ : ∃ p, k = p + 1 := ⟨k - 1, by omega⟩
  have h2 := LL.no h hk hl
  by_cases e : p = 0
  · subst e; exact h2.one
  · rw [show max (p + 1 - 1) 1 = p by omega]; exact h2
def muL (G : Fi) (n k : Nat) : Nat := sumD G n * (n + 2) + (n - k)
theorem muL_yes {G H : Fi} {n k : Nat} (h : sumD H n = sumD G n) (hk : k < n) : muL H n (k + 1) < muL G n k := by
  unfold muL; rw [h]; omega
theorem muL_no {G H : Fi} {n k : Nat} (h : sumD H n < sumD G n) (k2 : Nat) : muL H n k2 < muL G n k := by
  unfold muL
  have := Nat.mul_le_mul_right (n + 2) h
  rw [Nat.succ_mul] at this
  omega
theorem timesV_Sz {m n : Nat} {q : Int} {v : List Int} (hv : SzL n v) (hq : Sz m q) : SzL (m + n) (v.map (fun x => q * x)) := fun i => by
  rw [getD_timesV]; exact hq.mul (hv i)
end
end Fw
/- Rows times and plus; whether a step does. -/
set_option linter.unusedVariables false
set_option linter.unusedSimpArgs false
set_option exponentiation.threshold 400
set_option maxRecDepth 20000
set_option maxHeartbeats 1000000
namespace Fw
open Go Go.Proofs
theorem c_mat_Times1 (k x : Int) : Fn Tryz.prog 220 [kZ.is x, VP.pim kZ k] (kC.is (k * x)) := by
 refine Con.enter Tryz.func220 rfl rfl fun m w => Cr (WP.bx .n rfl fun b1 => WP.al .n z29_C fun b2 => Wr (Ws (O.ldP rfl ty29) (Ws (O.ld rfl (mem_at 1 rfl) Li ty29 rfl) (Ws (O.fn fn122 (evs.c rfl (evs.c rfl evs.nil)) (c_zint_Mul k x)) (WP.t .n (O.stW (l := kC) (u := k * x) 0 rfl rfl rfl ty29 rfl Lr) (Wn (CW.ret ?_)))))))
 exact QE.done (.inl rfl) rfl (ResOk.c rfl (mem_at 0 rfl) ty29 ResOk.nil) (OImp.sub (List.nil_sublist _)) ⟨rfl, rfl⟩
theorem c_mat_Times (k : Int) (v : List Int) : Fn Tryz.prog 148 [kZ.is k, kVZ.is v] (kVC.is (v.map (fun x => k * x))) := by
 refine Con.enter Tryz.func148 rfl rfl fun m w => Cr (WP.bx .n rfl fun b1 => Wa rfl (Wr (Wm rfl (ST.freezeb 0 rfl (kp 0 rfl (kp 1 rfl (.hit (i := 2) rfl (kp 4 rfl (kp 5 rfl .nil))))) (Ws (O.mkf (evs.c rfl evs.nil)) (Ws (O.fn fn219 (evs.c rfl (evs.c rfl evs.nil)) (c_mat_eachII 220 [VP.pim kZ k] (fun x => k * x) v fn220 (fun x _ => c_mat_Times1 k x))) (Wa rfl (Wn (CW.ret ?_)))))))))
 exact QE.done (.inl rfl) rfl (ResOk.t rfl ResOk.nil) (OImp.sub (List.nil_sublist _)) ⟨rfl, rfl⟩
theorem c_mat_pairs (fid : FuncId) (caps : List VP) (F : Int → Int → Int) (u v : List Int) (huv : u.length = v.length) (hok : FnOk Tryz.prog fid) (hF : ∀ x y, x ∈ u → y ∈ v → Fn Tryz.prog fid (kZ.is x :: kZ.is y :: caps) (kC.is (F x y))) : Fn Tryz.prog 218 [kVZ.is u, kVZ.is v, VP.clo fid caps] (VP.tup [kVC.is (pairV F u v), kN6.is 0]) := by
 refine Con.enter Tryz.func218 rfl rfl fun m w => ST.fact (i := 0) rfl sl_len fun hB => Cr (Wa rfl (Wa rfl (Wn (CW.seq (Cr (Wm rfl (Ws (O.lenS rfl U23) (Wm rfl (Ws (O.lenS rfl U23) (Ws (O.ne rfl rfl) (Wn ?_)))))))))))
 refine CW.condD rfl (fun h => absurd h (by omega)) (fun h_t14 => ?_)
 refine CW.skip (QE.next (Cr (Wa rfl (Wn (CW.seq (Cr (Wm rfl (Ws (O.lenS rfl U23) (Wm rfl (Wn (CW.block (ST.nilrow 29 kC (CW.loop2 (fun (i : Nat) (w : Value) => i ≤ u.length) (fun (i : Nat) (w : Value) => [(0, kVZ.is u), (1, kVZ.is v), (2, VP.clo fid caps), (8, VP.ex w), (16, kN6.is (u.length : Int)), (17, kN6.is (i : Int))]) (fun (i : Nat) (w : Value) => [OB.row w 29 kC ((List.range i).map (fun l => F (u.getD l 0) (v.getD l 0)))]) (fun (i : Nat) (w : Value) => u.length - i) 0 (.slice none 0 0) (by omega) (Imp.c4 rfl rfl rfl rfl (Imp.cons rfl (Imp.consLe rfl (is_eq (y := (0 : Int)) (by rfl)) Imp.nil))) (OImp.os (OS.keepLe (OB.row_eq (by rfl)) OS.nil)) ?_)))))))))))))
 intro i w hi
 refine Cr (Ws (O.lt rfl rfl) (Wn (CW.seq ?_)))
 refine CW.condD rfl (fun h_t18 => ?_) (fun h_t18 => ?_)
 ·
  refine CW.skip (QE.next (CW.seq (CW.block (Cr (Wm rfl (Wa rfl (Wn ?_)))))))
  refine CW.drawM (Γ := [.fr (VP.ex w), .fr (VP.clo fid caps), .fr (kVZ.is u), .fr (kN6.is (i : Int)), .fr (VP.pim kZ (u.getD i 0)), .fr (kZ.is (u.getD i 0)), .fr (kVZ.is v), .fr (kN6.is (i : Int)), .fr (VP.pim kZ (v.getD i 0)), .fr (kZ.is (v.getD i 0)), .fr (kC.is (F (u.getD i 0) (v.getD i 0))), .fr (kVC.is [F (u.getD i 0) (v.getD i 0)])]) (om rfl rfl (om rfl rfl (om rfl rfl (om rfl rfl (of_ rfl (fun N => O.ix i rfl rfl U23 ty29 rfl (v := (u.getD i 0)) (gd 0 (by omega))) (of_ rfl (fun N => O.ldP rfl ty29) (om rfl rfl (om rfl rfl (of_ rfl (fun N => O.ix i rfl rfl U23 ty29 rfl (v := (v.getD i 0)) (gd 0 (by omega))) (of_ rfl (fun N => O.ldP rfl ty29) (of_ rfl (fun N => O.clo rfl hok (evs.c rfl (evs.c rfl evs.nil)) (hF _ _ (getD_mem 0 (by omega)) (getD_mem 0 (by omega)))) (of_ rfl (fun N => O.bs U23 el29_C (evl.c rfl evl.n) rfl (by decide)) oz)))))))))))) (fun σ1 => ?_)
  refine WP.ap 0 .n rfl rfl rfl Lr U23 el29_C (by simp; omega) fun v1 => Wa rfl (WP.nil (QE.blkN (QE.next (CW.region (Ws (O.add rfl rfl (c := ((i : Int) + 1)) (w64 (by omega))) (Wm rfl (WP.nil (ST.obtold 0 rfl (OB.row_eq (ys := ((List.range (i + 1)).map (fun l => F (u.getD l 0) (v.getD l 0)))) (range_app (fun l => F (u.getD l 0) (v.getD l 0)) i)) ?_))))))))
  exact QE.round2 (i + 1) v1 (by omega) (by omega) (Imp.c4 rfl rfl rfl rfl (Imp.cons rfl (Imp.consLe rfl (is_eq (y := (((i + 1) : Nat) : Int)) (by rfl)) Imp.nil))) (OImp.refl _)
 ·
  refine CW.exit (QE.thenE (QE.thenE (QE.blkH (QE.next (Cr (Wm rfl (Wa rfl (Wa rfl (Wn (CW.ret (ST.freeze 0 rfl (kp 0 rfl (kp 1 rfl (kp 2 rfl (.hit (i := 6) rfl (kp 7 rfl (.hit (i := 8) rfl (kp 16 rfl (kp 17 rfl (kp 18 rfl (.hit (i := 34) rfl .nil)))))))))) (ST.told 6 rfl (is_eq (y := (pairV F u v)) (by rw [show i = u.length by omega]; rfl)) ?_))))))))))))
  exact QE.done (.inl rfl) rfl (ResOk.t rfl (ResOk.t rfl ResOk.nil)) (OImp.sub (List.nil_sublist _)) ⟨rfl, rfl⟩
end Fw
/- The change that reduces a form. -/
set_option linter.unusedVariables false
set_option linter.unusedSimpArgs false
set_option exponentiation.threshold 400
set_option maxRecDepth 20000
set_option maxHeartbeats 1000000
namespace Fw
open Go Go.Proofs
theorem c_mat_Unit (n : Nat) (hn : n ≤ 12) : Con Tryz.prog 142 [kN6.is (n : Int)] [] (fun p Lo => ∃ (v : Value), p = VP.tup [VP.ex v, kN6.is 0] ∧ Lo = [OB.row v 23 kVC (unitV n)] ∧ True) := by
 refine Con.enter Tryz.func142 rfl rfl fun m w => Cr (Wa rfl (Wa rfl (Wn (CW.seq (CW.block (Cr (Wm rfl (Ws (O.lt rfl rfl) (Wa rfl (Wn ?_))))))))))
 refine CW.condD rfl (fun h => absurd h (by omega)) (fun h_t7 => ?_)
 refine Cr (Wm rfl (Ws (O.gt rfl rfl) (Wa rfl (Wn ?_))))
 refine CW.condD rfl (fun h => absurd h (by omega)) (fun h_t10 => ?_)
 refine CW.skip (QE.blkN (QE.next (Cr (Wa rfl (Wn (CW.seq (Cr (Wm rfl (Wm rfl (Wn (CW.block (ST.nilrow 23 kVC (CW.loop2 (fun (i : Nat) (v : Value) => i ≤ n) (fun (i : Nat) (v : Value) => [(0, kN6.is (n : Int)), (4, VP.ex v), (13, kN6.is (n : Int)), (14, kN6.is (i : Int))]) (fun (i : Nat) (v : Value) => [OB.row v 23 kVC ((List.range i).map (fun x => (List.replicate n 0).set x 1))]) (fun (i : Nat) (v : Value) => n - i) 0 (.slice none 0 0) (by omega) (Imp.cons rfl (Imp.cons rfl (Imp.cons rfl (Imp.consLe rfl (is_eq (y := (0 : Int)) (by rfl)) Imp.nil)))) (OImp.os (OS.keepLe (OB.row_eq (by rfl)) OS.nil)) ?_)))))))))))))
 intro i v hi
 refine Cr (Ws (O.lt rfl rfl) (Wn (CW.seq ?_)))
 refine CW.condD rfl (fun h_t15 => ?_) (fun h_t15 => ?_)
 ·
  refine CW.skip (QE.next (CW.seq (CW.block (Cr (Wm rfl (Wa rfl (Wr (Wm rfl (WP.mk n .n rfl rfl rfl (by omega) U23 el29_C z29_C fun v1 => Wa rfl (Wr (Wm rfl (Wm rfl (Ws (O.fn fn71 (evs.l rfl (i64_int (by omega)) evs.nil) (c_zint_Of 1)) (Ws (O.ixR (k := kC) (xs := (List.replicate n 0)) (n := (i : Int)) i rfl rfl (mem_at 0 rfl) U23 ty29 rfl (by simp; omega)) (WP.t .n (O.stR 0 i rfl rfl Li rfl (y0 := ((List.replicate n 0).getD i 0)) (gd 0 (by simp; omega)) ty29 rfl Lr) ?_)))))))))))))))
  refine Wn (ST.freeze 0 rfl (kp 0 rfl (kp 4 rfl (kp 5 rfl (.hit (i := 6) rfl (kp 13 rfl (kp 14 rfl (kp 15 rfl (kp 16 rfl (kp 17 rfl (.hit (i := 18) rfl (.hit (i := 19) rfl (kp 20 rfl (kp 21 rfl (kp 22 rfl .nil)))))))))))))) (CW.region (Wm rfl (Wm rfl (Ws (O.bs U22 el23_sl_C (evl.c rfl evl.n) rfl (by decide)) (WP.ap 0 .n rfl rfl rfl Lr U22 el23_sl_C (by simp; omega) fun v2 => Wa rfl (WP.nil (QE.blkN (QE.next (CW.region (Ws (O.add rfl rfl (c := ((i : Int) + 1)) (w64 (by omega))) (Wm rfl (WP.nil (ST.obtold 0 rfl (OB.row_eq (ys := ((List.range (i + 1)).map (fun x => (List.replicate n 0).set x 1))) (range_app (fun x => (List.replicate n (0 : Int)).set x 1) i)) ?_))))))))))))))
  exact QE.round2 (i + 1) v2 (by omega) (by omega) (Imp.cons rfl (Imp.cons rfl (Imp.cons rfl (Imp.consLe rfl (is_eq (y := (((i + 1) : Nat) : Int)) (by rfl)) Imp.nil)))) (OImp.refl _)
 ·
  refine CW.exit (QE.thenE (QE.thenE (QE.blkH (QE.next (Cr (Wm rfl (Wa rfl (Wa rfl (Wn (CW.ret (ST.obtold 0 rfl (OB.row_eq (ys := (unitV n)) (by rw [show i = n by omega]; rfl)) ?_)))))))))))
  exact QE.done (.inl rfl) rfl (ResOk.t rfl (ResOk.t rfl ResOk.nil)) (OImp.refl _) ⟨v, rfl, rfl, trivial⟩
end Fw
/- Plain facts: turned matrices by one row; products of matrices. -/
set_option linter.unusedVariables false
set_option linter.unusedSimpArgs false
set_option exponentiation.threshold 400
namespace Fw
open Go
end Fw
/- Plain facts: rows on their way to a reduced basis, what they are of the first ones, and back. -/
set_option linter.unusedVariables false
set_option linter.unusedSimpArgs false
namespace Fw
open Go
structure CR (n m : Nat) (B : List (List Int)) : Prop where
  len : B.length = n
  row : ∀ x, x < n → (B.getD x []).length = m
theorem CU.cr {n : Nat} {U : List (List Int)} (h : CU n U) : CR n n U := ⟨h.len, h.row⟩
theorem CR.cu {n : Nat} {U : List (List Int)} (h : CR n n U) : CU n U := ⟨h.len, h.row⟩
theorem CR.rl {n m : Nat} {B : List (List Int)} (h : CR n m B) : RectL B := fun i hi => by
  have h1 := h.len
  rw [h.row i (by omega), h.row 0 (by omega)]
theorem getD_nil_of {α : Type} (l : List α) (d : α) {i : Nat} (h : l.length ≤ i) : l.getD i d = d := by
  rw [List.getD_eq_getElem?_getD, List.getElem?_eq_none h]; rfl
theorem CR_row {n m : Nat} {B : List (List Int)} (h : CR n m B) {k j : Nat} (q : Int) (hk : k < n) : CR n m (rowU B k j q) := ⟨by simp [rowU, h.len], fun x hx => by
  unfold rowU
  rw [getD_setL _ _ _ _ _ (by rw [h.len]; exact hk)]
  by_cases e : x = k
  · rw [if_pos e, pairV_len, h.row k hk]
  · rw [if_neg e, h.row x hx]⟩
theorem matF_rowR {n m : Nat} {B : List (List Int)} (h : CR n m B) {k j : Nat} (q : Int) (hk : k < n) (x i : Nat) (hi : i < m) : matF (rowU B k j q) x i = rU (matF B) k j q x i := by
  unfold matF rU rowU
  rw [getD_setL _ _ _ _ _ (by rw [h.len]; exact hk)]
  by_cases e : x = k
  · rw [if_pos e, if_pos e, e, pairV_get (by rw [h.row k hk]; exact hi), getD_timesV]
  · rw [if_neg e, if_neg e]; simp [matF]
theorem swpR_get {n m : Nat} {B : List (List Int)} (h : CR n m B) {p : Nat} (hp : p + 1 < n) (x : Nat) : (swpU B p).getD x [] = B.getD (sg p x) [] := by
  unfold swpU
  rw [getD_setL _ _ _ _ _ (by rw [List.length_set, h.len]; omega), getD_setL _ _ _ _ _ (by rw [h.len]; omega)]
  by_cases e1 : x = p
  · rw [if_pos e1, e1, sg_p]
  · rw [if_neg e1]
    by_cases e2 : x = p + 1
    · rw [if_pos e2, e2, sg_q]
    · rw [if_neg e2, sg_ne e1 e2]
theorem sg_lt {n p x : Nat} (hp : p + 1 < n) (hx : x < n) : sg p x < n := by
  unfold sg; split
  · omega
  · split <;> omega
theorem CR_swp {n m : Nat} {B : List (List Int)} (h : CR n m B) {p : Nat} (hp : p + 1 < n) : CR n m (swpU B p) := ⟨by simp [swpU, h.len], fun x hx => by
  rw [swpR_get h hp, h.row _ (sg_lt hp hx)]⟩
theorem gram_sum {n m : Nat} {B : List (List Int)} (h : CR n m B) (x y : Nat) : gram B x y = sumN (fun c => matF B x c * matF B y c) m := by
  unfold gram dotV
  rw [dotN_sum]
  by_cases e : x < n
  · rw [h.row x e]; rfl
  · rw [getD_nil_of B [] (show B.length ≤ x by rw [h.len]; omega)]
    have : (fun c => matF B x c * matF B y c) = fun _ => 0 := by
      funext c; unfold matF; rw [getD_nil_of B [] (show B.length ≤ x by rw [h.len]; omega)]; simp
    rw [this, sumN_zero]; rfl
theorem gram_row {n m : Nat} {B : List (List Int)} (h : CR n m B) {k j : Nat} (q : Int) (hk : k < n) : gram (rowU B k j q) = rowI (gram B) k j q := by
  funext x y
  rw [gram_sum (CR_row h q hk)]
  unfold rowI
  rw [gram_sum h, gram_sum h, gram_sum h, gram_sum h, mul_sumN, mul_sumN, mul_sumN, ← sumN_add, ← sumN_add, ← sumN_add]
  apply sumN_congr
  intro i hi
  rw [matF_rowR h q hk x i hi, matF_rowR h q hk y i hi]
  unfold rU
  grind
theorem gram_swp {n m : Nat} {B : List (List Int)} (h : CR n m B) {p : Nat} (hp : p + 1 < n) : gram (swpU B p) = swpI (gram B) p := by
  funext x y
  unfold gram swpI
  rw [swpR_get h hp, swpR_get h hp]
theorem gram_out {n m : Nat} {B : List (List Int)} (h : CR n m B) {x y : Nat} (hxy : ¬ (x < n ∧ y < n)) : gram B x y = 0 := by
  rw [gram_sum h]
  have : (fun c => matF B x c * matF B y c) = fun _ => 0 := by
    funext c; unfold matF
    by_cases e : x < n
    · rw [getD_nil_of B [] (show B.length ≤ y by rw [h.len]; omega)]; simp
    · rw [getD_nil_of B [] (show B.length ≤ x by rw [h.len]; omega)]; simp
  rw [this, sumN_zero]
theorem entry_sq {n m : Nat} {B : List (List Int)} (h : CR n m B) {x c : Nat} (hc : c < m) : matF B x c * matF B x c ≤ gram B x x := by
  rw [gram_sum h]
  have h1 : ∀ i, 0 ≤ matF B x i * matF B x i := fun i => by
    rcases Int.le_total 0 (matF B x i) with e | e
    · exact Int.mul_nonneg e e
    · exact Int.mul_nonneg_of_nonpos_of_nonpos e e
  have h2 : ∀ k, (0 : Int) ≤ sumN (fun i => matF B x i * matF B x i) k := fun k => sumN_nonneg fun i _ => h1 i
  have key : ∀ k, c < k → matF B x c * matF B x c ≤ sumN (fun i => matF B x i * matF B x i) k := by
    intro k
    induction k with
    | zero => intro e; omega
    | succ k ih =>
      intro e
      show _ ≤ sumN _ k + matF B x k * matF B x k
      by_cases e2 : c = k
      · subst e2; have := h2 c; omega
      · have := ih (by omega); have := h1 k; omega
  exact key m hc
def colV (V : List (List Int)) (k j : Nat) (q : Int) : List (List Int) := V.map (fun r => r.set j (r.getD j 0 + q * r.getD k 0))
def colS (V : List (List Int)) (k : Nat) : List (List Int) := V.map (fun r => (r.set k (r.getD (k - 1) 0)).set (k - 1) (r.getD k 0))
theorem getD_setI (l : List Int) (i k : Nat) (x : Int) (h : i < l.length) : (l.set i x).getD k 0 = if k = i then x else l.getD k 0 := getD_setL l i k x 0 h
theorem CR_map {n m : Nat} {V : List (List Int)} (h : CR n m V) {F : List Int → List Int} (hF : ∀ r, (F r).length = r.length) : CR n m (V.map F) := ⟨by simp [h.len], fun x hx => by
  rw [getD_map F V [] [] (by rw [h.len]; exact hx), hF, h.row x hx]⟩
theorem CR_colV {n m : Nat} {V : List (List Int)} (h : CR n m V) (k j : Nat) (q : Int) : CR n m (colV V k j q) := CR_map h fun r => by simp
theorem CR_colS {n m : Nat} {V : List (List Int)} (h : CR n m V) (k : Nat) : CR n m (colS V k) := CR_map h fun r => by simp
theorem matF_colV {n : Nat} {V : List (List Int)} (h : CR n n V) {k j : Nat} (q : Int) (hj : j < n) (x i : Nat) (hx : x < n) : matF (colV V k j q) x i = matF V x i + (if i = j then q * matF V x k else 0) := by
  unfold matF colV
  rw [getD_map (fun r : List Int => r.set j (r.getD j 0 + q * r.getD k 0)) V [] [] (by rw [h.len]; exact hx), getD_setI _ _ _ _ (by rw [h.row x hx]; exact hj)]
  by_cases e : i = j
  · rw [if_pos e, if_pos e, e]
  · rw [if_neg e, if_neg e]; omega
theorem matF_colS {n : Nat} {V : List (List Int)} (h : CR n n V) {p : Nat} (hp : p + 1 < n) (x i : Nat) (hx : x < n) : matF (colS V (p + 1)) x i = matF V x (sg p i) := by
  unfold matF colS
  rw [getD_map (fun r : List Int => (r.set (p + 1) (r.getD (p + 1 - 1) 0)).set (p + 1 - 1) (r.getD (p + 1) 0)) V [] [] (by rw [h.len]; exact hx), getD_setI _ _ _ _ (by rw [List.length_set, h.row x hx]; omega), getD_setI _ _ _ _ (by rw [h.row x hx]; omega)]
  rw [show p + 1 - 1 = p by omega]
  by_cases e1 : i = p
  · rw [if_pos e1, e1, sg_p]
  · rw [if_neg e1]
    by_cases e2 : i = p + 1
    · rw [if_pos e2, e2, sg_q]
    · rw [if_neg e2, sg_ne e1 e2]
theorem sumN_dl (f : Nat → Int) {k n : Nat} (hk : k < n) (t : Int) : sumN (fun i => (if i = k then t else 0) * f i) n = t * f k := by
  rw [sumN_one hk (fun i _ h => by rw [if_neg h]; omega), if_pos rfl]
theorem fU_col {G : Fi} {n : Nat} {u : Fi} {k j : Nat} {t : Int} (hk : k < n) (hj : j < n) : fU (rowI G k j t) n u = fU G n (fun x i => u x i + (if i = j then t * u x k else 0)) := by
  funext x y
  unfold fU
  -- the inner sum
  have c1 : ∀ b, sumN (fun i => u x i * rowI G k j t i b) n = (sumN (fun i => u x i * G i b) n + t * u x k * G j b) + (if b = k then t else 0) * (sumN (fun i => u x i * G i j) n + t * u x k * G j j) := fun b => by
    have e : (fun i => u x i * rowI G k j t i b) = fun i => (u x i * G i b + (if i = k then t else 0) * (u x i * G j b)) + ((if b = k then t else 0) * (u x i * G i j) + (if i = k then t else 0) * ((if b = k then t else 0) * (u x i * G j j))) := by
      funext i; unfold rowI; grind
    rw [e, sumN_add (fun i => u x i * G i b + (if i = k then t else 0) * (u x i * G j b)) _, sumN_add, sumN_add, ← mul_sumN, sumN_dl _ hk, sumN_dl _ hk]
    grind
  have c2 : ∀ b, sumN (fun i => (u x i + (if i = j then t * u x k else 0)) * G i b) n = sumN (fun i => u x i * G i b) n + t * u x k * G j b := fun b => by
    have e : (fun i => (u x i + (if i = j then t * u x k else 0)) * G i b) = fun i => u x i * G i b + (if i = j then t * u x k else 0) * G i b := by funext i; grind
    rw [e, sumN_add, sumN_dl _ hj]
  have d1 : (fun b => sumN (fun i => u x i * rowI G k j t i b) n * u y b) = fun b => sumN (fun i => (u x i + (if i = j then t * u x k else 0)) * G i b) n * u y b + (if b = k then t else 0) * (sumN (fun i => (u x i + (if i = j then t * u x k else 0)) * G i j) n * u y b) := by
    funext b; rw [c1, c2, c2]; grind
  have d2 : (fun b => sumN (fun i => (u x i + (if i = j then t * u x k else 0)) * G i b) n * (u y b + (if b = j then t * u y k else 0))) = fun b => sumN (fun i => (u x i + (if i = j then t * u x k else 0)) * G i b) n * u y b + (if b = j then t * u y k else 0) * sumN (fun i => (u x i + (if i = j then t * u x k else 0)) * G i b) n := by
    funext b; grind
  rw [d1, d2, sumN_add, sumN_add, sumN_dl _ hk, sumN_dl _ hj]
  grind
theorem fU_col_back {G : Fi} {n : Nat} {V : List (List Int)} (h : CR n n V) {k j : Nat} {q : Int} (hk : k < n) (hj : j < n) (hkj : k ≠ j) {x y : Nat} (hx : x < n) (hy : y < n) : fU (rowI G k j (-q)) n (matF (colV V k j q)) x y = fU G n (matF V) x y := by
  rw [fU_col hk hj]
  have key : ∀ z, z < n → ∀ i, matF (colV V k j q) z i + (if i = j then -q * matF (colV V k j q) z k else 0) = matF V z i := fun z hz i => by
    rw [matF_colV h q hj z i hz, matF_colV h q hj z k hz, if_neg hkj]
    by_cases e : i = j
    · rw [if_pos e, if_pos e, Int.add_zero]; grind
    · rw [if_neg e, if_neg e]; omega
  unfold fU
  apply sumN_congr
  intro b hb
  dsimp only
  rw [key y hy b]
  congr 1
  apply sumN_congr
  intro i hi
  rw [key x hx i]
theorem sumN_sg (f : Nat → Int) {p : Nat} : ∀ {n}, p + 1 < n → sumN (fun i => f (sg p i)) n = sumN f n
  | 0, h => by omega
  | n + 1, h => by
    by_cases e : n = p + 1
    · subst e
      show sumN (fun i => f (sg p i)) p + f (sg p p) + f (sg p (p + 1)) = sumN f p + f p + f (p + 1)
      rw [sg_p, sg_q, sumN_congr (f := fun i => f (sg p i)) (g := f) (fun i hi => by rw [sg_ne (by omega) (by omega)])]
      omega
    · show sumN (fun i => f (sg p i)) n + f (sg p n) = sumN f n + f n
      rw [sumN_sg f (by omega), sg_ne (by omega) (by omega)]
theorem fU_swp_back {G : Fi} {n : Nat} {V : List (List Int)} (h : CR n n V) {p : Nat} (hp : p + 1 < n) {x y : Nat} (hx : x < n) (hy : y < n) : fU (swpI G p) n (matF (colS V (p + 1))) x y = fU G n (matF V) x y := by
  unfold fU swpI
  have e : ∀ b, sumN (fun i => matF (colS V (p + 1)) x i * G (sg p i) (sg p b)) n = sumN (fun i => matF V x i * G i (sg p b)) n := fun b => by
    rw [← sumN_sg (fun i => matF V x i * G i (sg p b)) hp]
    exact sumN_congr fun i _ => by rw [matF_colS h hp x i hx]
  rw [← sumN_sg (fun b => sumN (fun i => matF V x i * G i b) n * matF V y b) hp]
  apply sumN_congr
  intro b _
  rw [e, matF_colS h hp y b hy]
def pD (G : Fi) : Nat → Int
  | 0 => 1
  | k + 1 => pD G k * uD G (k + 1)
theorem pD_pos {G : Fi} {n : Nat} (hp : PosU G n) : ∀ k, k ≤ n → 0 < pD G k
  | 0, _ => Int.zero_lt_one
  | k + 1, h => Int.mul_pos (pD_pos hp k (by omega)) (hp.uD h)
theorem pD_congr {G H : Fi} : ∀ k, (∀ l, l ≤ k → uD G l = uD H l) → pD G k = pD H k
  | 0, _ => rfl
  | k + 1, h => by
    show pD G k * uD G (k + 1) = pD H k * uD H (k + 1)
    rw [pD_congr k (fun l hl => h l (by omega)), h (k + 1) (Nat.le_refl _)]
theorem pD_row {G : Fi} {n : Nat} (hs : SymG G) (hp : PosU G n) {k j : Nat} (hj : j < k) (t : Int) : pD (rowI G k j t) n = pD G n := pD_congr n fun l hl => rowI_uD hs hp hj hl
theorem uD_swp_34 {G : Fi} {n : Nat} (hs : SymG G) (hp : PosU G n) {p : Nat} (h : p + 1 < n) (hl : ¬ lov G (p + 1)) : 4 * uD (swpI G p) (p + 1) ≤ 3 * uD G (p + 1) := by
  have h1 := (swp_frS hs hp h).1
  have hl' : frS (swpI G p) p < (3 / 4 : Rat) * frS G p := by
    rw [h1]
    unfold lov at hl
    rw [show p + 1 - 1 = p by omega] at hl
    exact Rat.not_le.1 hl
  have a1 := uD_succ hs hp (show p < n by omega)
  have a2 := uD_succ (swpI_sym hs) (swpI_pos hs hp h) (show p < n by omega)
  rw [swpI_uD hs hp h (show p ≤ n by omega) (by omega)] at a2
  have d0 : (0 : Rat) < (uD G p : Rat) := by
    have := hp.uD (show p ≤ n by omega)
    exact Rat.intCast_lt_intCast.mpr this
  have m := Rat.mul_lt_mul_of_pos_left hl' d0
  have e : (4 : Rat) * (uD (swpI G p) (p + 1) : Rat) ≤ 3 * (uD G (p + 1) : Rat) := by
    rw [a1, a2]; grind
  have e2 : ((4 * uD (swpI G p) (p + 1) : Int) : Rat) ≤ ((3 * uD G (p + 1) : Int) : Rat) := by
    rw [Rat.intCast_mul, Rat.intCast_mul]; exact e
  exact Rat.intCast_le_intCast.mp e2
theorem pD_swp {G : Fi} {n : Nat} (hs : SymG G) (hp : PosU G n) {p : Nat} (h : p + 1 < n) (hl : ¬ lov G (p + 1)) : ∀ k, p + 1 ≤ k → k ≤ n → 4 * pD (swpI G p) k ≤ 3 * pD G k
  | 0, h1, _ => by omega
  | k + 1, h1, h2 => by
    show 4 * (pD (swpI G p) k * uD (swpI G p) (k + 1)) ≤ 3 * (pD G k * uD G (k + 1))
    by_cases e : k = p
    · subst e
      have a := pD_congr (G := swpI G k) (H := G) k (fun l hl => swpI_uD hs hp h (by omega) (by omega))
      have b := uD_swp_34 hs hp h hl
      have c := pD_pos hp k (by omega)
      rw [a]
      have := Int.mul_le_mul_of_nonneg_left b (Int.le_of_lt c)
      grind
    · have ih := pD_swp hs hp h hl k (by omega) (by omega)
      rw [swpI_uD hs hp h (k := k + 1) h2 (by omega)]
      have d := hp.uD (show k + 1 ≤ n by omega)
      have := Int.mul_le_mul_of_nonneg_right ih (Int.le_of_lt d)
      grind
theorem pow_3k {K t : Nat} (h : (4 : Int) ^ (3 * t) ≤ 3 ^ (3 * t) * ((2 ^ K : Nat) : Int)) : t ≤ K := by
  have e4 : (4 : Int) ^ (3 * t) = ((64 ^ t : Nat) : Int) := by rw [Int.pow_mul]; push_cast; rfl
  have e3 : (3 : Int) ^ (3 * t) = ((27 ^ t : Nat) : Int) := by rw [Int.pow_mul]; push_cast; rfl
  rw [e4, e3] at h
  have h' : 64 ^ t ≤ 27 ^ t * 2 ^ K := by exact_mod_cast h
  have h2 : 27 ^ t * 2 ^ t ≤ 27 ^ t * 2 ^ K := by
    rw [← Nat.mul_pow]; exact Nat.le_trans (Nat.pow_le_pow_left (by decide) t) h'
  have h3 := Nat.le_of_mul_le_mul_left h2 (Nat.pow_pos (by decide))
  exact (Nat.pow_le_pow_iff_right (by decide)).1 h3
theorem swaps_le {K s : Nat} {P : Int} (hP : P ≤ ((2 ^ K : Nat) : Int)) {p : Int} (hp : 0 < p) (h : (4 : Int) ^ s * p ≤ 3 ^ s * P) : s ≤ 3 * K + 2 := by
  have h4 : (0 : Int) < 4 ^ s := Int.pow_pos (by decide)
  have h3 : (0 : Int) < 3 ^ s := Int.pow_pos (by decide)
  have h1 : (4 : Int) ^ s ≤ 3 ^ s * ((2 ^ K : Nat) : Int) := by
    have a := Int.mul_le_mul_of_nonneg_left (show 1 ≤ p by omega) (Int.le_of_lt h4)
    have b := Int.mul_le_mul_of_nonneg_left hP (Int.le_of_lt h3)
    omega
  obtain ⟨t, r, hr, hs⟩ : ∃ t r, r < 3 ∧ s = 3 * t + r := ⟨s / 3, s % 3, by omega, by omega⟩
  have h5 : (4 : Int) ^ (3 * t) ≤ 3 ^ (3 * t) * ((2 ^ K : Nat) : Int) := by
    rw [hs, Int.pow_add, Int.pow_add] at h1
    have hr2 : (3 : Int) ^ r ≤ 4 ^ r := by
      have : r = 0 ∨ r = 1 ∨ r = 2 := by omega
      rcases this with rfl | rfl | rfl <;> decide
    have hr0 : (0 : Int) < 4 ^ r := Int.pow_pos (by decide)
    have hb : (0 : Int) ≤ 3 ^ (3 * t) * ((2 ^ K : Nat) : Int) := Int.mul_nonneg (Int.le_of_lt (Int.pow_pos (by decide))) (Int.natCast_nonneg _)
    have c := Int.mul_le_mul_of_nonneg_left hr2 hb
    have d : (4 : Int) ^ (3 * t) * 4 ^ r ≤ 3 ^ (3 * t) * ((2 ^ K : Nat) : Int) * 4 ^ r := by grind
    exact Int.le_of_mul_le_mul_right d hr0
  have := pow_3k h5
  omega
end Fw
