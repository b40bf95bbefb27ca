/- Proved: QuadMinors, for every input of bulk at most 1048576; no other condition. -/
import Derived.Test.YtgbafijcklgajaaCQuadMinorsE
/- Plain facts: turned matrices, minors. -/
set_option linter.unusedVariables false
set_option linter.unusedSimpArgs false
set_option exponentiation.threshold 400
namespace Fw
open Go

def turnR (a : List (List Int)) (k : Nat) : List Int := (List.range a.length).map (fun i => matF a i k)
def turnV (a : List (List Int)) : List (List Int) := (List.range (a.getD 0 []).length).map (turnR a)
theorem turnR_len (a k) : (turnR a k).length = a.length := by simp [turnR]
theorem turnV_len (a) : (turnV a).length = (a.getD 0 []).length := by simp [turnV]
theorem range_app {α : Type} (F : Nat → α) (i : Nat) : (List.range i).map F ++ [F i] = (List.range (i + 1)).map F := by simp [List.range_succ]
theorem turnV_Sz {n a} (h : SzM n a) : SzM n (turnV a) := by
  intro i k
  by_cases hi : i < (a.getD 0 []).length
  · have e : (turnV a).getD i [] = turnR a i := by rw [gde _ [] (by rw [turnV_len]; exact hi)]; simp [turnV]
    rw [e]
    by_cases hk : k < a.length
    · have e2 : (turnR a i).getD k 0 = matF a k i := by rw [gde _ 0 (by rw [turnR_len]; exact hk)]; simp [turnR]
      rw [e2]; exact h k i
    · rw [List.getD_eq_getElem?_getD, List.getElem?_eq_none (by rw [turnR_len]; omega)]; exact Sz.zero _
  · have e : (turnV a).getD i [] = [] := by rw [List.getD_eq_getElem?_getD, List.getElem?_eq_none (by rw [turnV_len]; omega)]; rfl
    rw [e]; exact Sz.zero _
end Fw


/- Plain facts: rows of a change as lists; sizes while a form is reduced. -/
set_option linter.unusedVariables false
set_option linter.unusedSimpArgs false
set_option exponentiation.threshold 400
namespace Fw
open Go

instance (G : Fi) (x : Nat) : Decidable (lov G x) := inferInstanceAs (Decidable ((3 / 4 : Rat) * frS G (x - 1) ≤ frS G x + frM G x (x - 1) * frM G x (x - 1) * frS G (x - 1)))
/-- entry by entry -/
def pairV (F : Int → Int → Int) (u v : List Int) : List Int := (List.range u.length).map (fun l => F (u.getD l 0) (v.getD l 0))
theorem pairV_len (F u v) : (pairV F u v).length = u.length := by simp [pairV]
theorem pairV_get {F u v i} (h : i < u.length) : (pairV F u v).getD i 0 = F (u.getD i 0) (v.getD i 0) := by
  rw [List.getD_eq_getElem?_getD]; simp [pairV, h]
theorem getD_timesV (q : Int) (v : List Int) (i : Nat) : (v.map (fun x => q * x)).getD i 0 = q * v.getD i 0 := by
  rw [List.getD_eq_getElem?_getD, List.getD_eq_getElem?_getD, List.getElem?_map]
  cases v[i]? <;> simp
/-- 1 on the diagonal -/
def unitV (n : Nat) : List (List Int) := (List.range n).map (fun x => (List.replicate n 0).set x 1)
theorem unitV_len (n) : (unitV n).length = n := by simp [unitV]
theorem unitV_row {n x} (h : x < n) : (unitV n).getD x [] = (List.replicate n 0).set x 1 := by
  rw [List.getD_eq_getElem?_getD]; simp [unitV, h]
theorem unitV_at (n : Nat) (x i : Nat) (hi : i < n) : matF (unitV n) x i = if x = i then 1 else 0 := by
  unfold matF
  by_cases h : x < n
  · rw [unitV_row h, List.getD_eq_getElem?_getD, List.getElem?_set]
    by_cases e : x = i
    · subst e; simp [h]
    · simp [e, hi]
  · rw [if_neg (by omega), List.getD_eq_getElem?_getD (l := unitV n), List.getElem?_eq_none (by rw [unitV_len]; omega)]; rfl
/-- a square of rows -/
structure CU (n : Nat) (U : List (List Int)) : Prop where
  len : U.length = n
  row : ∀ x, x < n → (U.getD x []).length = n
theorem CU_unit (n) : CU n (unitV n) := ⟨unitV_len n, fun x hx => by rw [unitV_row hx]; simp⟩
def rowU (U : List (List Int)) (k j : Nat) (q : Int) : List (List Int) := U.set k (pairV (fun x y => x + y) (U.getD k []) ((U.getD j []).map (fun x => q * x)))
theorem getD_setL {α : Type} (l : List α) (i k : Nat) (x d : α) (h : i < l.length) : (l.set i x).getD k d = if k = i then x else l.getD k d := by
  rw [List.getD_eq_getElem?_getD, List.getElem?_set]
  by_cases e : i = k
  · subst e; simp [h]
  · rw [if_neg e, if_neg (fun h => e h.symm), List.getD_eq_getElem?_getD]
section
variable {n : Nat} {U : List (List Int)}
theorem CU_row (h : CU n U) {k j : Nat} (q : Int) (hk : k < n) : CU n (rowU U k j q) := ⟨by simp [rowU, h.len], fun x hx => by
  unfold rowU
  rw [getD_setL _ _ _ _ _ (by rw [h.len]; exact hk)]
  split
  · rw [pairV_len]; exact h.row k hk
  · exact h.row x hx⟩
theorem matF_rowU (h : CU n U) {k j : Nat} (q : Int) (hk : k < n) (x i : Nat) (hi : i < n) : matF (rowU U k j q) x i = rU (matF U) k j q x i := by
  unfold rowU rU
  show ((U.set k _).getD x []).getD i 0 = _
  rw [getD_setL _ _ _ _ _ (by rw [h.len]; exact hk)]
  by_cases e : x = k
  · subst e
    rw [if_pos rfl, if_pos rfl, pairV_get (by rw [h.row x hk]; exact hi), getD_timesV]; rfl
  · rw [if_neg e, if_neg e]; show matF U x i = _; omega
def swpU (U : List (List Int)) (p : Nat) : List (List Int) := (U.set (p + 1) (U.getD p [])).set p (U.getD (p + 1) [])
theorem swpU_get (h : CU n U) {p : Nat} (hp : p + 1 < n) (x : Nat) : (swpU U p).getD x [] = U.getD (sg p x) [] := by
  unfold swpU
  rw [getD_setL _ _ _ _ _ (by rw [List.length_set, h.len]; omega), getD_setL _ _ _ _ _ (by rw [h.len]; omega)]
  by_cases e : x = p
  · subst e; rw [if_pos rfl, sg_p]
  · rw [if_neg e]
    by_cases e2 : x = p + 1
    · subst e2; rw [if_pos rfl, sg_q]
    · rw [if_neg e2, sg_ne e e2]
theorem CU_swp (h : CU n U) {p : Nat} (hp : p + 1 < n) : CU n (swpU U p) := ⟨by simp [swpU, h.len], fun x hx => by
  rw [swpU_get h hp]; refine h.row _ ?_
  unfold sg; split
  · omega
  · split <;> omega⟩
/-- the form of the rows -/
def fL (a U : List (List Int)) : Fi := fU (matF a) a.length (matF U)
theorem fL_row {a : List (List Int)} (h : CU a.length U) {k j : Nat} (q : Int) (hk : k < a.length) : fL a (rowU U k j q) = rowI (fL a U) k j q := by
  unfold fL
  rw [fU_congr (matF_rowU h q hk), fU_row]
theorem fL_swp {a : List (List Int)} (h : CU a.length U) {p : Nat} (hp : p + 1 < a.length) : fL a (swpU U p) = swpI (fL a U) p := by
  unfold fL
  rw [← fU_swp]
  exact fU_congr fun x i _ => by unfold matF; rw [swpU_get h hp]
end
theorem fL_unit {a : List (List Int)} (hq : ∀ i, i < a.length → (a.getD i []).length = a.length) : fL a (unitV a.length) = matF a := fU_unit (unitV_at a.length) fun x y h => matF_out hq h
/-! ### Sizes -/
def gB (M Dm : Int) : Int := 4 * M * (2 + 32 * Dm * M) ^ 12
structure LB (M Dm : Int) (N : Nat) : Prop where
  m1 : 1 ≤ M
  d1 : 1 ≤ Dm
  d : Dm ≤ ((2 ^ N : Nat) : Int)
  g : gB M Dm ≤ ((2 ^ N : Nat) : Int)
  c : bdC (gB M Dm * Dm) (1 + 12 * (gB M Dm * Dm)) 12 ≤ ((2 ^ N : Nat) : Int)
  n : N ≤ 536870912
theorem Sz_pw {N : Nat} {z : Int} (h1 : -((2 ^ N : Nat) : Int) ≤ z) (h2 : z ≤ ((2 ^ N : Nat) : Int)) : Sz (N + 1) z := by
  show z.natAbs < 2 ^ (N + 1)
  have := Nat.two_pow_pos N
  rw [Nat.pow_succ]; omega
section
variable {G0 G A : Fi} {n N : Nat} {M Dm : Int}
theorem LB.k1 (h : LB M Dm N) : 1 ≤ 2 + 32 * Dm * M := by
  have := Int.mul_pos (show 0 < Dm by have := h.d1; omega) (show 0 < M by have := h.m1; omega)
  rw [Int.mul_assoc]; omega
theorem pow_mono {K : Int} (h : 1 ≤ K) {m k : Nat} (hm : m ≤ k) : K ^ m ≤ K ^ k := by
  obtain ⟨c, rfl⟩ := Nat.exists_eq_add_of_le hm
  clear hm
  induction c with
  | zero => exact Int.le_refl _
  | succ c ih =>
    have h0 : 0 < K ^ (m + c) := Int.pow_pos (by omega)
    have := Int.mul_le_mul_of_nonneg_left h (Int.le_of_lt h0)
    rw [show m + (c + 1) = (m + c) + 1 by omega, Int.pow_succ]
    omega
theorem LB.g4 (h : LB M Dm N) {m : Nat} (hm : m ≤ 12) : 4 * M * (2 + 32 * Dm * M) ^ m ≤ gB M Dm := by
  have h1 := h.k1
  have h2 := h.m1
  unfold gB
  refine Int.mul_le_mul_of_nonneg_left ?_ (by omega)
  exact pow_mono h1 hm
theorem LB.g0 (h : LB M Dm N) : 4 * M ≤ gB M Dm := by
  have := h.g4 (m := 0) (by omega)
  rwa [Int.pow_zero, Int.mul_one] at this
theorem LL.dia {a b : Nat} (h : LL G0 n M Dm G a b) (hB : LB M Dm N) : ∀ x, x < n → G x x ≤ gB M Dm := fun x hx => Int.le_trans (h.z x hx) hB.g0
theorem LR.dia {k j : Nat} (h : LR G0 n M Dm G k j) (hB : LB M Dm N) (hk : k < n) (h12 : n ≤ 12) : ∀ x, x < n → G x x ≤ gB M Dm := fun x hx => by
  by_cases e : x = k
  · subst e; exact Int.le_trans h.zk (hB.g4 (by omega))
  · exact Int.le_trans (h.z x hx e) hB.g0
theorem sz_D (h : LC G0 n M Dm G) (hB : LB M Dm N) : ∀ k, k ≤ n → Sz (4 * N + 8) (uD G k) := fun k hk => by
  have h1 := h.d k hk
  have h2 := h.p.uD hk
  have h3 := hB.d
  exact (Sz_pw (N := N) (by omega) (by omega)).up (by omega)
theorem mul_pw {x y : Int} {a b : Nat} (hx : x ≤ ((2 ^ a : Nat) : Int)) (hy : y ≤ ((2 ^ b : Nat) : Int)) (h0 : 0 ≤ x) (h1 : 0 ≤ y) : x * y ≤ ((2 ^ (a + b) : Nat) : Int) := by
  have := Int.mul_le_mul hx hy h1 (Int.natCast_nonneg _)
  rw [Nat.pow_add]; push_cast at this ⊢; exact this
theorem sz_L (h : LC G0 n M Dm G) (hB : LB M Dm N) (hd : ∀ x, x < n → G x x ≤ gB M Dm) : ∀ x k, x < n → k < x → Sz (4 * N + 8) (uE G k x k) := fun x k hx hk => by
  have h1 := uE_sq h.s h.p hk hx
  have a1 := h.d k (by omega)
  have a2 := h.d (k + 1) (by omega)
  have b1 := h.p.uD (show k ≤ n by omega)
  have b2 := h.p.uD (show k + 1 ≤ n by omega)
  have c1 := hd x hx
  have c2 := dia_pos h.s h.p hx
  have e1 := mul_pw (Int.le_trans a1 hB.d) (Int.le_trans a2 hB.d) (Int.le_of_lt b1) (Int.le_of_lt b2)
  have e2 := mul_pw e1 (Int.le_trans c1 hB.g) (Int.le_of_lt (Int.mul_pos b1 b2)) (Int.le_of_lt c2)
  have e3 := Int.mul_pos (Int.mul_pos b1 b2) c2
  exact (Sz.sq (Sz_pw (N := N + N + N) (by omega) e2) h1).up (by omega)
theorem sz_q (h : LC G0 n M Dm G) (hB : LB M Dm N) (hd : ∀ x, x < n → G x x ≤ gB M Dm) {k j : Nat} (hj : j < k) (hk : k < n) : Sz (4 * N + 8) (nearQ (frM G k j)) := by
  have h1 := near_uE h.s h.p hj hk
  have a1 := h.d j (by omega)
  have b1 := h.p.uD (show j ≤ n by omega)
  have c1 := hd k hk
  have c2 := dia_pos h.s h.p hk
  have e1 := mul_pw (Int.le_trans a1 hB.d) (Int.le_trans c1 hB.g) (Int.le_of_lt b1) (Int.le_of_lt c2)
  have e2 := mul_pw (a := 2) (x := 4) (by decide) e1 (by omega) (Int.le_of_lt (Int.mul_pos b1 c2))
  have e3 := Int.mul_pos b1 c2
  exact (Sz.sq (Sz_pw (N := 2 + (N + N)) (by omega) e2) h1).up (by omega)
theorem sz_U (hs : SymG A) (hp : PosU A n) (h12 : n ≤ 12) (hB : LB M Dm N) (hM : ∀ x, x < n → A x x ≤ M) (hD : ∀ l, l ≤ n → uD A l ≤ Dm) {u : Fi} (hd : ∀ x, x < n → fU A n u x x ≤ gB M Dm) : ∀ x l, x < n → l < n → Sz (4 * N + 8) (u x l) := fun x l hx hl => by
  have g0 := hB.g0
  have m1 := hB.m1
  have hQ : qf (qG A) n (fun i => (u x i : Rat)) ≤ ((gB M Dm : Int) : Rat) := by
    rw [← fU_qf]; exact Rat.intCast_le_intCast.mpr (hd x hx)
  have w := coef_le hs hp h12 (M := gB M Dm) (fun x hx => Int.le_trans (hM x hx) (by omega)) hD (fun i => (u x i : Rat)) hQ (by omega) (by omega) 12 l hl (by omega)
  obtain ⟨w1, w2⟩ := wi_int w
  have c := hB.c
  exact (Sz_pw (N := N) (by omega) (by omega)).up (by omega)
theorem sz_Ul {U : List (List Int)} (hU : CU n U) (h : ∀ x l, x < n → l < n → Sz (4 * N + 8) (matF U x l)) (x : Nat) : SzL (4 * N + 8) (U.getD x []) := fun i => by
  by_cases hx : x < n
  · by_cases hi : i < n
    · exact h x i hx hi
    · rw [List.getD_eq_getElem?_getD, List.getElem?_eq_none (by rw [hU.row x hx]; omega)]; exact Sz.zero _
  · rw [List.getD_eq_getElem?_getD (l := U), List.getElem?_eq_none (by rw [hU.len]; omega)]; exact Sz.zero _
end
theorem LB_pow (e d : Nat) (he : e ≤ 1024) (hd : d ≤ 2200000) : ∃ N, LB ((2 ^ e : Nat) : Int) ((2 ^ d : Nat) : Int) N := by
  have e1 : (1 : Int) ≤ ((2 ^ e : Nat) : Int) := by have := Nat.two_pow_pos e; omega
  have d1 : (1 : Int) ≤ ((2 ^ d : Nat) : Int) := by have := Nat.two_pow_pos d; omega
  generalize hM : ((2 ^ e : Nat) : Int) = M at *
  generalize hDm : ((2 ^ d : Nat) : Int) = Dm at *
  have hm := mul_pw (Int.le_of_eq hDm.symm) (Int.le_of_eq hM.symm) (by omega) (by omega)
  have hm0 := Int.mul_pos (show 0 < Dm by omega) (show 0 < M by omega)
  have pm : ∀ {a b : Nat}, a ≤ b → ((2 ^ a : Nat) : Int) ≤ ((2 ^ b : Nat) : Int) := fun h => by have := Nat.pow_le_pow_right (show 0 < 2 by omega) h; omega
  have hK : 2 + 32 * Dm * M ≤ ((2 ^ (d + e + 6) : Nat) : Int) := by
    rw [Int.mul_assoc, show d + e + 6 = (d + e) + 6 by omega, Nat.pow_add]; push_cast at hm ⊢; omega
  have hK0 : 0 ≤ 2 + 32 * Dm * M := by rw [Int.mul_assoc]; omega
  have hKp : ∀ m, 0 ≤ (2 + 32 * Dm * M) ^ m ∧ (2 + 32 * Dm * M) ^ m ≤ ((2 ^ ((d + e + 6) * m) : Nat) : Int) := fun m => by
    induction m with
    | zero => exact ⟨by rw [Int.pow_zero]; omega, by rw [Int.pow_zero, Nat.mul_zero]; decide⟩
    | succ m ih =>
      rw [Int.pow_succ, Nat.mul_succ]
      exact ⟨Int.mul_nonneg ih.1 hK0, mul_pw ih.2 hK ih.1 hK0⟩
  have h4 := mul_pw (a := 2) (x := 4) (by decide) (Int.le_of_eq hM.symm) (by omega) (by omega)
  have hg := mul_pw h4 (hKp 12).2 (by omega) (hKp 12).1
  have hg0 : 0 < gB M Dm := by
    unfold gB
    exact Int.mul_pos (by omega) (Int.pow_pos (by rw [Int.mul_assoc]; omega))
  have hg2 : gB M Dm ≤ ((2 ^ (2 + e + (d + e + 6) * 12) : Nat) : Int) := hg
  have ht := mul_pw hg2 (Int.le_of_eq hDm.symm) (Int.le_of_lt hg0) (by omega)
  have ht0 := Int.mul_pos hg0 (show 0 < Dm by omega)
  have hk : 1 + 12 * (gB M Dm * Dm) ≤ ((2 ^ (2 + e + (d + e + 6) * 12 + d + 4) : Nat) : Int) := by
    rw [Nat.pow_add _ _ 4]; push_cast at ht ⊢; omega
  have hb := bdC_pow ht0 (show 0 < 1 + 12 * (gB M Dm * Dm) by omega) ht hk 12
  refine ⟨2 + e + (d + e + 6) * 12 + d + (2 + e + (d + e + 6) * 12 + d + 4) * 12, e1, d1, ?_, ?_, ?_, by omega⟩
  · rw [← hDm]; exact pm (by omega)
  · exact Int.le_trans hg2 (pm (by omega))
  · exact hb
section
variable {G0 G A : Fi} {n N : Nat} {M Dm : Int}
theorem LL.init (hs : SymG A) (hp : PosU A n) (hM : ∀ x, x < n → A x x ≤ M) (hD : ∀ l, l ≤ n → uD A l ≤ Dm) (hB : LB M Dm N) : LL A n M Dm A 1 1 :=
  ⟨⟨hs, hp, hD, rfl, fun l hl => Rat.le_trans (frS_le hs hp hl) (Rat.intCast_le_intCast.mpr (hM l hl))⟩, fun x hx => by have := hM x hx; have := hB.m1; omega, fun x hx l hl => absurd hl (by omega), fun x h1 h2 => absurd h1 (by omega)⟩
theorem LR.zero' {k c : Nat} (h : LR G0 n M Dm G k c) (h0 : 0 < c) (hc : c ≤ k) (hk : k < n) (hz : nearQ (frM G k (c - 1)) = 0) : LR G0 n M Dm G k (c - 1) := by
  obtain ⟨j, rfl⟩ : ∃ j, c = j + 1 := ⟨c - 1, by omega⟩
  exact LR.zero h (by omega) hk hz
theorem LR.step' {k c : Nat} (h : LR G0 n M Dm G k c) (h0 : 0 < c) (hc : c ≤ k) (hk : k < n) : LR G0 n M Dm (rowI G k (c - 1) (-(nearQ (frM G k (c - 1))))) k (c - 1) := by
  obtain ⟨j, rfl⟩ : ∃ j, c = j + 1 := ⟨c - 1, by omega⟩
  exact LR.step h (by omega) hk
theorem LL.no' {k : Nat} (h : LL G0 n M Dm G (k + 1) k) (h0 : 0 < k) (hk : k < n) (hl : ¬ lov G (k - 1 + 1)) : LL G0 n M Dm (swpI G (k - 1)) (max (k - 1) 1) (max (k - 1) 1) := by
  obtain ⟨p, rfl⟩ : ∃ p, k = p + 1 := ⟨k - 1, by omega⟩
  have h2 := LL.no h hk hl
  by_cases e : p = 0
  · subst e; exact h2.one
  · rw [show max (p + 1 - 1) 1 = p by omega]; exact h2
/-- what falls from round to round -/
def muL (G : Fi) (n k : Nat) : Nat := sumD G n * (n + 2) + (n - k)
theorem muL_yes {G H : Fi} {n k : Nat} (h : sumD H n = sumD G n) (hk : k < n) : muL H n (k + 1) < muL G n k := by
  unfold muL; rw [h]; omega
theorem muL_no {G H : Fi} {n k : Nat} (h : sumD H n < sumD G n) (k2 : Nat) : muL H n k2 < muL G n k := by
  unfold muL
  have := Nat.mul_le_mul_right (n + 2) h
  rw [Nat.succ_mul] at this
  omega
theorem fL_sum_no {a U V : List (List Int)} {k : Nat} (hV : CU a.length V) (h : LL G0 a.length M Dm (fL a V) (k + 1) k) (h0 : 0 < k) (hk : k < a.length) (hl : ¬ lov (fL a V) (k - 1 + 1)) (hS : sumD (fL a V) a.length = sumD (fL a U) a.length) : sumD (fL a (swpU V (k - 1))) a.length < sumD (fL a U) a.length := by
  rw [fL_swp hV (by omega), ← hS]
  exact sumD_swp h.c.s h.c.p (by omega) hl
theorem timesV_Sz {m n : Nat} {q : Int} {v : List Int} (hv : SzL n v) (hq : Sz m q) : SzL (m + n) (v.map (fun x => q * x)) := fun i => by
  rw [getD_timesV]; exact hq.mul (hv i)
end
end Fw


/- Rows times and plus; whether a step does. -/
set_option linter.unusedVariables false
set_option linter.unusedSimpArgs false
set_option exponentiation.threshold 400
namespace Fw
open Go Go.Proofs

set_option maxRecDepth 20000 in
set_option maxHeartbeats 1000000 in
theorem c_mat_Times1 (k x : Int) : Fn Try.prog 237 [kZ.is x, VP.pim kZ k] (kC.is (k * x)) := by
  refine Con.enter Try.func237 rfl rfl fun m w => ?_
  refine CW.seq ?_
  refine CW.region ?_
  refine WP.bx .n rfl fun b1 => ?_
  refine WP.al .n z31_C fun b2 => ?_
  refine WP.nil ?_
  refine QE.next ?_
  refine CW.seq ?_
  refine CW.region ?_
  refine WP.s .n (O.ldP rfl ty31) ?_
  refine WP.s .n (O.ld rfl (mem_at 1 rfl) (Lens.id _) ty31 rfl) ?_
  refine WP.s .n (O.fn fn76 (evs.c rfl (evs.c rfl evs.nil)) (c_zint_Mul k x)) ?_
  refine WP.t .n (O.stW (l := kC) (u := k * x) 0 rfl rfl rfl ty31 rfl (VP.le_refl _)) ?_
  refine WP.nil ?_
  refine QE.next ?_
  refine CW.ret ?_
  exact QE.done (.inl rfl) rfl (ResOk.c rfl (mem_at 0 rfl) ty31 ResOk.nil) (OImp.sub (List.nil_sublist _)) ⟨rfl, rfl⟩

set_option maxRecDepth 20000 in
set_option maxHeartbeats 1000000 in
theorem c_mat_Times (k : Int) (v : List Int) : Fn Try.prog 190 [kZ.is k, (kSl kZ).is v] ((kSl kC).is (v.map (fun x => k * x))) := by
  refine Con.enter Try.func190 rfl rfl fun m w => ?_
  refine CW.seq ?_
  refine CW.region ?_
  refine WP.bx .n rfl fun b1 => ?_
  refine WP.s .n (O.asg rfl) ?_
  refine WP.nil ?_
  refine QE.next ?_
  refine CW.seq ?_
  refine CW.region ?_
  refine WP.s .n (O.mv rfl) ?_
  refine ST.freezeb 0 rfl (.keep (i := 0) rfl (.keep (i := 1) rfl (.hit (i := 2) rfl (.keep (i := 4) rfl (.keep (i := 5) rfl .nil))))) ?_
  refine WP.s .n (O.mkf (evs.c rfl evs.nil)) ?_
  refine WP.s .n (O.fn fn236 (evs.c rfl (evs.c rfl evs.nil)) (c_mat_eachII 237 [VP.pim kZ k] (fun x => k * x) v fn237 (fun x _ => c_mat_Times1 k x))) ?_
  refine WP.s .n (O.asg rfl) ?_
  refine WP.nil ?_
  refine QE.next ?_
  refine CW.ret ?_
  exact QE.done (.inl rfl) rfl (ResOk.t rfl ResOk.nil) (OImp.sub (List.nil_sublist _)) ⟨rfl, rfl⟩

set_option maxRecDepth 20000 in
set_option maxHeartbeats 1000000 in
theorem c_mat_pairs (fid : FuncId) (caps : List VP) (F : Int → Int → Int) (u v : List Int) (huv : u.length = v.length) (hok : FnOk Try.prog fid) (hF : ∀ x y, x ∈ u → y ∈ v → Fn Try.prog fid (kZ.is x :: kZ.is y :: caps) (kC.is (F x y))) : Fn Try.prog 235 [(kSl kZ).is u, (kSl kZ).is v, VP.clo fid caps] (VP.tup [(kSl kC).is (pairV F u v), (kInt .i64).is 0]) := by
  refine Con.enter Try.func235 rfl rfl fun m w => ?_
  refine ST.fact (i := 0) rfl sl_len fun hB => ?_
  refine CW.seq ?_
  refine CW.region ?_
  refine WP.s .n (O.asg rfl) ?_
  refine WP.s .n (O.asg rfl) ?_
  refine WP.nil ?_
  refine QE.next ?_
  refine CW.seq ?_
  refine CW.seq ?_
  refine CW.region ?_
  refine WP.s .n (O.mv rfl) ?_
  refine WP.s .n (O.lenS rfl Try.underlying27) ?_
  refine WP.s .n (O.mv rfl) ?_
  refine WP.s .n (O.lenS rfl Try.underlying27) ?_
  refine WP.s .n (O.ne rfl rfl) ?_
  refine WP.nil ?_
  refine QE.next ?_
  refine CW.condD rfl (fun h => absurd h (by omega)) (fun h_t14 => ?_)
  refine CW.skip ?_
  refine QE.next ?_
  refine CW.seq ?_
  refine CW.region ?_
  refine WP.s .n (O.asg rfl) ?_
  refine WP.nil ?_
  refine QE.next ?_
  refine CW.seq ?_
  refine CW.seq ?_
  refine CW.region ?_
  refine WP.s .n (O.mv rfl) ?_
  refine WP.s .n (O.lenS rfl Try.underlying27) ?_
  refine WP.s .n (O.mv rfl) ?_
  refine WP.nil ?_
  refine QE.next ?_
  refine CW.block ?_
  refine ST.nilrow 31 kC ?_
  refine CW.loop2 (fun (i : Nat) (w : Value) => i ≤ u.length) (fun (i : Nat) (w : Value) => [(0, (kSl kZ).is u), (1, (kSl kZ).is v), (2, VP.clo fid caps), (8, VP.ex w), (16, (kInt .i64).is (u.length : Int)), (17, (kInt .i64).is (i : Int))]) (fun (i : Nat) (w : Value) => [OB.row w 31 kC ((List.range i).map (fun l => F (u.getD l 0) (v.getD l 0)))]) (fun (i : Nat) (w : Value) => u.length - i) 0 (.slice none 0 0) (by omega) (Imp.cons rfl (Imp.cons rfl (Imp.cons rfl (Imp.cons rfl (Imp.cons rfl (Imp.consLe rfl (is_eq (y := (0 : Int)) (by first | rfl | omega | assumption)) Imp.nil)))))) (OImp.os (OS.keepLe (OB.row_eq (by first | rfl | omega | assumption)) OS.nil)) ?_
  intro i w hi
  refine CW.seq ?_
  refine CW.region ?_
  refine WP.s .n (O.lt rfl rfl) ?_
  refine WP.nil ?_
  refine QE.next ?_
  refine CW.seq ?_
  refine CW.condD rfl (fun h_t18 => ?_) (fun h_t18 => ?_)
  · refine CW.skip ?_
    refine QE.next ?_
    refine CW.seq ?_
    refine CW.block ?_
    refine CW.seq ?_
    refine CW.region ?_
    refine WP.s .n (O.mv rfl) ?_
    refine WP.s .n (O.asg rfl) ?_
    refine WP.nil ?_
    refine QE.next ?_
    refine CW.draw (Γ := [.fr (VP.ex w), .fr (VP.clo fid caps), .fr ((kSl kZ).is u), .fr ((kInt .i64).is (i : Int)), .fr (VP.pim kZ (u.getD i 0)), .fr (kZ.is (u.getD i 0)), .fr ((kSl kZ).is v), .fr ((kInt .i64).is (i : Int)), .fr (VP.pim kZ (v.getD i 0)), .fr (kZ.is (v.getD i 0)), .fr (kC.is (F (u.getD i 0) (v.getD i 0))), .fr ((kSl kC).is [F (u.getD i 0) (v.getD i 0)])]) (lates := [false, false, false, false, false, false, false, false, false, false, false, false]) (by kernel_rfl) (Chk.of rfl (by kernel_rfl) rfl) (fun _ _ _ _ _ h => h) (fun q_ x_ h_ => ?_) (fun σ1 => ?_)
    · match q_, h_ with
      | 0, h_ => cases h_; exact Ob.f rfl .n fun N => (O.mv rfl)
      | 1, h_ => cases h_; exact Ob.f rfl .n fun N => (O.mv rfl)
      | 2, h_ => cases h_; exact Ob.f rfl .n fun N => (O.mv rfl)
      | 3, h_ => cases h_; exact Ob.f rfl .n fun N => (O.mv rfl)
      | 4, h_ => cases h_; exact Ob.f rfl .n fun N => (O.ix i rfl rfl Try.underlying27 ty31 rfl (v := (u.getD i 0)) (gd 0 (by omega)))
      | 5, h_ => cases h_; exact Ob.f rfl .n fun N => (O.ldP rfl ty31)
      | 6, h_ => cases h_; exact Ob.f rfl .n fun N => (O.mv rfl)
      | 7, h_ => cases h_; exact Ob.f rfl .n fun N => (O.mv rfl)
      | 8, h_ => cases h_; exact Ob.f rfl .n fun N => (O.ix i rfl rfl Try.underlying27 ty31 rfl (v := (v.getD i 0)) (gd 0 (by omega)))
      | 9, h_ => cases h_; exact Ob.f rfl .n fun N => (O.ldP rfl ty31)
      | 10, h_ => cases h_; exact Ob.f rfl .n fun N => (O.clo rfl hok (evs.c rfl (evs.c rfl evs.nil)) (hF _ _ (getD_mem 0 (by omega)) (getD_mem 0 (by omega))))
      | 11, h_ => cases h_; exact Ob.f rfl .n fun N => (O.bs Try.underlying27 el31_C (evl.c rfl evl.n) rfl (by decide))
      | n_ + 12, h_ => simp at h_
    refine WP.ap 0 .n rfl rfl rfl (VP.le_refl _) Try.underlying27 el31_C (by simp; omega) fun v1 => ?_
    refine WP.s .n (O.asg rfl) ?_
    refine WP.nil ?_
    refine QE.blkN ?_
    refine QE.next ?_
    refine CW.region ?_
    refine WP.s .n (O.add rfl rfl (c := ((i : Int) + 1)) (w64 (by omega))) ?_
    refine WP.s .n (O.mv rfl) ?_
    refine WP.nil ?_
    refine ST.obtold 0 rfl (OB.row_eq (ys := ((List.range (i + 1)).map (fun l => F (u.getD l 0) (v.getD l 0)))) (range_app (fun l => F (u.getD l 0) (v.getD l 0)) i)) ?_
    exact QE.round2 (i + 1) v1 (by omega) (by omega) (Imp.cons rfl (Imp.cons rfl (Imp.cons rfl (Imp.cons rfl (Imp.cons rfl (Imp.consLe rfl (is_eq (y := (((i + 1) : Nat) : Int)) (by first | rfl | omega | assumption)) Imp.nil)))))) (OImp.refl _)
  · refine CW.exit ?_
    refine QE.thenE ?_
    refine QE.thenE ?_
    refine QE.blkH ?_
    refine QE.next ?_
    refine CW.seq ?_
    refine CW.region ?_
    refine WP.s .n (O.mv rfl) ?_
    refine WP.s .n (O.asg rfl) ?_
    refine WP.s .n (O.asg rfl) ?_
    refine WP.nil ?_
    refine QE.next ?_
    refine CW.ret ?_
    refine ST.freeze 0 rfl (.keep (i := 0) rfl (.keep (i := 1) rfl (.keep (i := 2) rfl (.hit (i := 6) rfl (.keep (i := 7) rfl (.hit (i := 8) rfl (.keep (i := 16) rfl (.keep (i := 17) rfl (.keep (i := 18) rfl (.hit (i := 34) rfl .nil)))))))))) ?_
    refine ST.told 6 rfl (is_eq (y := (pairV F u v)) (by rw [show i = u.length by omega]; rfl)) ?_
    exact QE.done (.inl rfl) rfl (ResOk.t rfl (ResOk.t rfl ResOk.nil)) (OImp.sub (List.nil_sublist _)) ⟨rfl, rfl⟩

set_option maxRecDepth 20000 in
set_option maxHeartbeats 1000000 in
theorem c_mat_Plus (u v : List Int) (huv : u.length = v.length) : Fn Try.prog 189 [(kSl kZ).is u, (kSl kZ).is v] (VP.tup [(kSl kC).is (pairV (fun x y => x + y) u v), (kInt .i64).is 0]) := by
  refine Con.enter Try.func189 rfl rfl fun m w => ?_
  refine CW.seq ?_
  refine CW.region ?_
  refine WP.s .n (O.asg rfl) ?_
  refine WP.s .n (O.asg rfl) ?_
  refine WP.nil ?_
  refine QE.next ?_
  refine CW.seq ?_
  refine CW.region ?_
  refine WP.s .n (O.mv rfl) ?_
  refine WP.s .n (O.mv rfl) ?_
  refine WP.s .n (O.fn fn235 (evs.c rfl (evs.c rfl (evs.l rfl clo_fv evs.nil))) (c_mat_pairs 77 [] (fun x y => x + y) u v huv fn77 (fun x y _ _ => c_zint_Add x y))) ?_
  refine WP.s .n (O.ext rfl rfl) ?_
  refine WP.s .n (O.ext rfl rfl) ?_
  refine WP.s .n (O.asg rfl) ?_
  refine WP.s .n (O.asg rfl) ?_
  refine WP.nil ?_
  refine QE.next ?_
  refine CW.ret ?_
  exact QE.done (.inl rfl) rfl (ResOk.t rfl (ResOk.t rfl ResOk.nil)) (OImp.sub (List.nil_sublist _)) ⟨rfl, rfl⟩

set_option maxRecDepth 20000 in
set_option maxHeartbeats 1000000 in
theorem c_quad_holds (G : Nat → Nat → Int) (n B : Nat) (h0 : 0 < n) (h12 : n ≤ 12) (hP : PosU G n) (hD : ∀ k, k ≤ n → Sz B (uD G k)) (hB : B ≤ 68719476736) (p : Nat) (hp1 : p + 1 < n) (hs : SymG G) (hL : ∀ x k, x < n → k < x → Sz B (uE G k x k)) (hB8 : B ≤ 4294967296) : Fn Try.prog 191 [(kPair (kSl kC) (kSl (kSl kC))).is (gDs G n, gLs G n), (kInt .i64).is ((p : Int) + 1)] (kBool.is (decide (lov G (p + 1)))) := by
  refine Con.enter Try.func191 rfl rfl fun m w => ?_
  have rM : RZ B (frM G (p + 1) p) := RZ.of (uD_ne hP (by omega)) (frM_rmk hs hP (by omega) hp1) (hL _ _ hp1 (by omega)) (hD _ (by omega))
  have rS : ∀ l, l < n → RZ B (frS G l) := fun l hl => RZ.of (uD_ne hP (by omega)) (frS_rmk hs hP hl) (hD _ (by omega)) (hD _ (by omega))
  have rQ : RZ 3 (3 / 4 : Rat) := RZ.of (n := 3) (d := 4) (by decide) (by decide +kernel) (show (3 : Int).natAbs < 2 ^ 3 by decide) (show (4 : Int).natAbs < 2 ^ 3 by decide)
  have r1 := rS p (by omega)
  have r2 := rS (p + 1) hp1
  have r3 := (rM.mul rM)
  have r4 := (r3.mul r1)
  have r5 := (r2.up (show B ≤ B + B + B by omega)).add r4
  have r6 := rQ.mul r1
  refine CW.seq ?_
  refine CW.region ?_
  refine WP.bx .n rfl fun b1 => ?_
  refine WP.s .n (O.asg rfl) ?_
  refine WP.nil ?_
  refine QE.next ?_
  refine CW.seq ?_
  refine CW.region ?_
  refine WP.s .n (O.ld (p := (kPair (kSl kC) (kSl (kSl kC))).is (gDs G n, gLs G n)) rfl (mem_at 0 rfl) (Lens.id _) ty93 rfl) ?_
  refine WP.s .n (O.mv rfl) ?_
  refine WP.s .n (O.mv rfl) ?_
  refine WP.s .n (O.sub rfl rfl (c := (p : Int)) (w64 (by omega))) ?_
  refine WP.s .n (O.fn fn186 (evs.c rfl (evs.l rfl (is_eq (y := (((p + 1) : Nat) : Int)) (by first | rfl | omega | assumption)) (evs.c rfl evs.nil))) (c_gso_Mu G n B (by first | assumption | omega) (by first | assumption | omega) (by first | assumption | omega) (by first | assumption | omega) (by first | assumption | omega) (p + 1) p (by first | assumption | omega) (by first | assumption | omega) (by first | assumption | omega) (by first | assumption | omega))) ?_
  refine WP.s .n (O.mv rfl) ?_
  refine WP.s .n (O.ext rfl rfl) ?_
  refine WP.s .n (O.ext rfl rfl) ?_
  refine WP.al .n z60_pr_C_C_ fun b2 => ?_
  refine WP.t .n (O.stW (l := (kPair kC kC)) (u := rq (frM G (p + 1) p)) 0 rfl rfl rfl ty60 rfl (VP.le_refl _)) ?_
  refine WP.s .n (O.asg rfl) ?_
  refine WP.nil ?_
  refine QE.next ?_
  refine CW.seq ?_
  refine CW.region ?_
  refine WP.s .n (O.ld (p := (kPair (kSl kC) (kSl (kSl kC))).is (gDs G n, gLs G n)) rfl (mem_at 1 rfl) (Lens.id _) ty93 rfl) ?_
  refine WP.s .n (O.mv rfl) ?_
  refine WP.s .n (O.sub rfl rfl (c := (p : Int)) (w64 (by omega))) ?_
  refine WP.s .n (O.fn fn238 (evs.c rfl (evs.c rfl evs.nil)) (c_gso_Star G n B (by first | assumption | omega) (by first | assumption | omega) (by first | assumption | omega) (by first | assumption | omega) (by first | assumption | omega) p (by first | assumption | omega) (by first | assumption | omega))) ?_
  refine WP.s .n (O.mv rfl) ?_
  refine WP.s .n (O.ext rfl rfl) ?_
  refine WP.s .n (O.ext rfl rfl) ?_
  refine WP.al .n z60_pr_C_C_ fun b3 => ?_
  refine WP.t .n (O.stW (l := (kPair kC kC)) (u := rq (frS G p)) 0 rfl rfl rfl ty60 rfl (VP.le_refl _)) ?_
  refine WP.s .n (O.asg rfl) ?_
  refine WP.nil ?_
  refine QE.next ?_
  refine CW.seq ?_
  refine CW.region ?_
  refine WP.s .n (O.ld (p := (kPair (kSl kC) (kSl (kSl kC))).is (gDs G n, gLs G n)) rfl (mem_at 2 rfl) (Lens.id _) ty93 rfl) ?_
  refine WP.s .n (O.mv rfl) ?_
  refine WP.s .n (O.fn fn238 (evs.c rfl (evs.l rfl (is_eq (y := (((p + 1) : Nat) : Int)) (by first | rfl | omega | assumption)) evs.nil)) (c_gso_Star G n B (by first | assumption | omega) (by first | assumption | omega) (by first | assumption | omega) (by first | assumption | omega) (by first | assumption | omega) (p + 1) (by first | assumption | omega) (by first | assumption | omega))) ?_
  refine WP.s .n (O.mv rfl) ?_
  refine WP.s .n (O.ext rfl rfl) ?_
  refine WP.s .n (O.ext rfl rfl) ?_
  refine WP.al .n z60_pr_C_C_ fun b4 => ?_
  refine WP.t .n (O.stW (l := (kPair kC kC)) (u := rq (frS G (p + 1))) 0 rfl rfl rfl ty60 rfl (VP.le_refl _)) ?_
  refine WP.s .n (O.asg rfl) ?_
  refine WP.nil ?_
  refine QE.next ?_
  refine CW.seq ?_
  refine CW.region ?_
  refine WP.s .n (O.ld rfl (mem_at 2 rfl) (Lens.id _) ty60 rfl) ?_
  refine WP.s .n (O.ld rfl (mem_at 2 rfl) (Lens.id _) ty60 rfl) ?_
  refine WP.s .n (O.fn fn239 (evs.c rfl (evs.c rfl evs.nil)) (c_rat_Mul B (frM G (p + 1) p) (frM G (p + 1) p) rM rM (by first | assumption | omega))) ?_
  refine WP.s .n (O.mv rfl) ?_
  refine WP.s .n (O.ext rfl rfl) ?_
  refine WP.s .n (O.ext rfl rfl) ?_
  refine WP.al .n z60_pr_C_C_ fun b5 => ?_
  refine WP.t .n (O.stW (l := (kPair kC kC)) (u := rq ((frM G (p + 1) p) * (frM G (p + 1) p))) 0 rfl rfl rfl ty60 rfl (VP.le_refl _)) ?_
  refine WP.s .n (O.asg rfl) ?_
  refine WP.nil ?_
  refine QE.next ?_
  refine CW.seq ?_
  refine CW.region ?_
  refine WP.s .n (O.ld rfl (mem_at 0 rfl) (Lens.id _) ty60 rfl) ?_
  refine WP.s .n (O.ld rfl (mem_at 2 rfl) (Lens.id _) ty60 rfl) ?_
  refine WP.s .n (O.fn fn239 (evs.c rfl (evs.c rfl evs.nil)) (c_rat_Mul (B + B) ((frM G (p + 1) p) * (frM G (p + 1) p)) (frS G p) r3 (r1.up (by omega)) (by first | assumption | omega))) ?_
  refine WP.s .n (O.mv rfl) ?_
  refine WP.s .n (O.ext rfl rfl) ?_
  refine WP.s .n (O.ext rfl rfl) ?_
  refine WP.t .n (O.stW (l := (kPair kC kC)) (u := rq (((frM G (p + 1) p) * (frM G (p + 1) p)) * (frS G p))) 0 rfl rfl rfl ty60 rfl (VP.le_refl _)) ?_
  refine WP.nil ?_
  refine QE.next ?_
  refine CW.seq ?_
  refine CW.region ?_
  refine WP.s .n (O.ld rfl (mem_at 1 rfl) (Lens.id _) ty60 rfl) ?_
  refine WP.s .n (O.ld rfl (mem_at 0 rfl) (Lens.id _) ty60 rfl) ?_
  refine WP.s .n (O.fn fn240 (evs.c rfl (evs.l rfl (is_eq (y := rq ((frM G (p + 1) p) * (frM G (p + 1) p) * frS G p)) (by first | rfl | omega | assumption)) evs.nil)) (c_rat_Add (B + B + B) (frS G (p + 1)) ((frM G (p + 1) p) * (frM G (p + 1) p) * frS G p) (r2.up (by omega)) r4 (by first | assumption | omega))) ?_
  refine WP.s .n (O.mv rfl) ?_
  refine WP.s .n (O.ext rfl rfl) ?_
  refine WP.s .n (O.ext rfl rfl) ?_
  refine WP.al .n z60_pr_C_C_ fun b6 => ?_
  refine WP.t .n (O.stW (l := (kPair kC kC)) (u := rq ((frS G (p + 1)) + ((frM G (p + 1) p) * (frM G (p + 1) p) * frS G p))) 0 rfl rfl rfl ty60 rfl (VP.le_refl _)) ?_
  refine WP.s .n (O.asg rfl) ?_
  refine WP.nil ?_
  refine QE.next ?_
  refine CW.seq ?_
  refine CW.region ?_
  refine WP.s .n (O.fn fn74 (evs.l rfl (i64_int (by omega)) evs.nil) (c_zint_Of 3)) ?_
  refine WP.s .n (O.fn fn74 (evs.l rfl (i64_int (by omega)) evs.nil) (c_zint_Of 4)) ?_
  refine WP.s .n (O.fn fn97 (evs.l rfl (kC_Z (by exact Sm_lit (by decide))) (evs.l rfl (kC_Z (by exact Sm_lit (by decide))) evs.nil)) (c_rat_Make 3 4)) ?_
  refine WP.s .n (O.mv rfl) ?_
  refine WP.s .n (O.ext rfl rfl) ?_
  refine WP.s .n (O.ext rfl rfl) ?_
  refine WP.al .n z60_pr_C_C_ fun b7 => ?_
  refine WP.t .n (O.stW (l := (kPair kC kC)) (u := if 4 = 0 then (0, 0) else rmk 3 4) 0 rfl rfl rfl ty60 rfl (VP.le_refl _)) ?_
  refine WP.s .n (O.asg rfl) ?_
  refine WP.nil ?_
  refine QE.next ?_
  refine CW.seq ?_
  refine ST.obtold 0 rfl (OB.box_eq (y := (rq (3 / 4 : Rat))) (by decide +kernel)) ?_
  refine CW.region ?_
  refine WP.s .n (O.ld rfl (mem_at 0 rfl) (Lens.id _) ty60 rfl) ?_
  refine WP.s .n (O.ld rfl (mem_at 4 rfl) (Lens.id _) ty60 rfl) ?_
  refine WP.s .n (O.fn fn239 (evs.c rfl (evs.c rfl evs.nil)) (c_rat_Mul (B + 3) (3 / 4 : Rat) (frS G p) (rQ.up (by omega)) (r1.up (by omega)) (by first | assumption | omega))) ?_
  refine WP.s .n (O.mv rfl) ?_
  refine WP.s .n (O.ext rfl rfl) ?_
  refine WP.s .n (O.ext rfl rfl) ?_
  refine WP.al .n z60_pr_C_C_ fun b8 => ?_
  refine WP.t .n (O.stW (l := (kPair kC kC)) (u := rq ((3 / 4 : Rat) * (frS G p))) 0 rfl rfl rfl ty60 rfl (VP.le_refl _)) ?_
  refine WP.s .n (O.asg rfl) ?_
  refine WP.nil ?_
  refine QE.next ?_
  refine CW.seq ?_
  refine CW.region ?_
  refine WP.s .n (O.ld rfl (mem_at 0 rfl) (Lens.id _) ty60 rfl) ?_
  refine WP.s .n (O.ld rfl (mem_at 2 rfl) (Lens.id _) ty60 rfl) ?_
  refine WP.s .n (O.fn fn241 (evs.l rfl (is_eq (y := rq (3 / 4 * frS G p)) (by first | rfl | omega | assumption)) (evs.l rfl (is_eq (y := rq (frS G (p + 1) + (frM G (p + 1) p) * (frM G (p + 1) p) * frS G p)) (by first | rfl | omega | assumption)) evs.nil)) (c_rat_Cmp (B + B + B + (B + B + B) + 1 + 3) (3 / 4 * frS G p) (frS G (p + 1) + (frM G (p + 1) p) * (frM G (p + 1) p) * frS G p) (r6.up (by omega)) (r5.up (by omega)) (by first | assumption | omega))) ?_
  refine WP.s .n (O.mv rfl) ?_
  refine WP.s .n (O.ext rfl rfl) ?_
  refine WP.s .n (O.ext rfl rfl) ?_
  refine WP.s .n (O.asg rfl) ?_
  refine WP.s .n (O.asg rfl) ?_
  refine WP.nil ?_
  refine QE.next ?_
  refine CW.seq ?_
  refine CW.region ?_
  refine WP.s .n (O.mv rfl) ?_
  refine WP.s .n (O.le rfl rfl) ?_
  refine WP.s .n (O.asg rfl) ?_
  refine WP.nil ?_
  refine QE.next ?_
  refine CW.ret ?_
  refine ST.told 4 rfl (is_eq (y := (decide (lov G (p + 1)))) (decide_eq_decide.2 (rq_cmp _ _))) ?_
  exact QE.done (.inl rfl) rfl (ResOk.t rfl ResOk.nil) (OImp.sub (List.nil_sublist _)) ⟨rfl, rfl⟩

end Fw


/- The change that reduces a form. -/
set_option linter.unusedVariables false
set_option linter.unusedSimpArgs false
set_option exponentiation.threshold 400
namespace Fw
open Go Go.Proofs

set_option maxRecDepth 20000 in
set_option maxHeartbeats 1000000 in
theorem c_mat_Unit (n : Nat) (hn : n ≤ 12) : Con Try.prog 185 [(kInt .i64).is (n : Int)] [] (fun p Lo => ∃ (v : Value), p = VP.tup [VP.ex v, (kInt .i64).is 0] ∧ Lo = [OB.row v 27 (kSl kC) (unitV n)] ∧ True) := by
  refine Con.enter Try.func185 rfl rfl fun m w => ?_
  refine CW.seq ?_
  refine CW.region ?_
  refine WP.s .n (O.asg rfl) ?_
  refine WP.s .n (O.asg rfl) ?_
  refine WP.nil ?_
  refine QE.next ?_
  refine CW.seq ?_
  refine CW.block ?_
  refine CW.seq ?_
  refine CW.region ?_
  refine WP.s .n (O.mv rfl) ?_
  refine WP.s .n (O.lt rfl rfl) ?_
  refine WP.s .n (O.asg rfl) ?_
  refine WP.nil ?_
  refine QE.next ?_
  refine CW.condD rfl (fun h => absurd h (by omega)) (fun h_t7 => ?_)
  refine CW.seq ?_
  refine CW.region ?_
  refine WP.s .n (O.mv rfl) ?_
  refine WP.s .n (O.gt rfl rfl) ?_
  refine WP.s .n (O.asg rfl) ?_
  refine WP.nil ?_
  refine QE.next ?_
  refine CW.condD rfl (fun h => absurd h (by omega)) (fun h_t10 => ?_)
  refine CW.skip ?_
  refine QE.blkN ?_
  refine QE.next ?_
  refine CW.seq ?_
  refine CW.region ?_
  refine WP.s .n (O.asg rfl) ?_
  refine WP.nil ?_
  refine QE.next ?_
  refine CW.seq ?_
  refine CW.seq ?_
  refine CW.region ?_
  refine WP.s .n (O.mv rfl) ?_
  refine WP.s .n (O.mv rfl) ?_
  refine WP.nil ?_
  refine QE.next ?_
  refine CW.block ?_
  refine ST.nilrow 27 (kSl kC) ?_
  refine CW.loop2 (fun (i : Nat) (v : Value) => i ≤ n) (fun (i : Nat) (v : Value) => [(0, (kInt .i64).is (n : Int)), (4, VP.ex v), (13, (kInt .i64).is (n : Int)), (14, (kInt .i64).is (i : Int))]) (fun (i : Nat) (v : Value) => [OB.row v 27 (kSl kC) ((List.range i).map (fun x => (List.replicate n 0).set x 1))]) (fun (i : Nat) (v : Value) => n - i) 0 (.slice none 0 0) (by omega) (Imp.cons rfl (Imp.cons rfl (Imp.cons rfl (Imp.consLe rfl (is_eq (y := (0 : Int)) (by first | rfl | omega | assumption)) Imp.nil)))) (OImp.os (OS.keepLe (OB.row_eq (by first | rfl | omega | assumption)) OS.nil)) ?_
  intro i v hi
  refine CW.seq ?_
  refine CW.region ?_
  refine WP.s .n (O.lt rfl rfl) ?_
  refine WP.nil ?_
  refine QE.next ?_
  refine CW.seq ?_
  refine CW.condD rfl (fun h_t15 => ?_) (fun h_t15 => ?_)
  · refine CW.skip ?_
    refine QE.next ?_
    refine CW.seq ?_
    refine CW.block ?_
    refine CW.seq ?_
    refine CW.region ?_
    refine WP.s .n (O.mv rfl) ?_
    refine WP.s .n (O.asg rfl) ?_
    refine WP.nil ?_
    refine QE.next ?_
    refine CW.seq ?_
    refine CW.region ?_
    refine WP.s .n (O.mv rfl) ?_
    refine WP.mk n .n rfl rfl rfl (by first | omega | (simp; omega)) Try.underlying27 el31_C z31_C fun v1 => ?_
    refine WP.s .n (O.asg rfl) ?_
    refine WP.nil ?_
    refine QE.next ?_
    refine CW.seq ?_
    refine CW.region ?_
    refine WP.s .n (O.mv rfl) ?_
    refine WP.s .n (O.mv rfl) ?_
    refine WP.s .n (O.fn fn74 (evs.l rfl (i64_int (by omega)) evs.nil) (c_zint_Of 1)) ?_
    refine WP.s .n (O.ixR (k := kC) (xs := (List.replicate n 0)) (n := (i : Int)) i rfl rfl (mem_at 0 rfl) Try.underlying27 ty31 rfl (by first | omega | (simp; omega))) ?_
    refine WP.t .n (O.stR 0 i rfl rfl (Lens.id _) rfl (y0 := ((List.replicate n 0).getD i 0)) (gd 0 (by first | omega | (simp; omega))) ty31 rfl (VP.le_refl _)) ?_
    refine WP.nil ?_
    refine QE.next ?_
    refine ST.freeze 0 rfl (.keep (i := 0) rfl (.keep (i := 4) rfl (.keep (i := 5) rfl (.hit (i := 6) rfl (.keep (i := 13) rfl (.keep (i := 14) rfl (.keep (i := 15) rfl (.keep (i := 16) rfl (.keep (i := 17) rfl (.hit (i := 18) rfl (.hit (i := 19) rfl (.keep (i := 20) rfl (.keep (i := 21) rfl (.keep (i := 22) rfl .nil)))))))))))))) ?_
    refine CW.region ?_
    refine WP.s .n (O.mv rfl) ?_
    refine WP.s .n (O.mv rfl) ?_
    refine WP.s .n (O.bs Try.underlying67 el27_sl_C (evl.c rfl evl.n) rfl (by decide)) ?_
    refine WP.ap 0 .n rfl rfl rfl (VP.le_refl _) Try.underlying67 el27_sl_C (by simp; omega) fun v2 => ?_
    refine WP.s .n (O.asg rfl) ?_
    refine WP.nil ?_
    refine QE.blkN ?_
    refine QE.next ?_
    refine CW.region ?_
    refine WP.s .n (O.add rfl rfl (c := ((i : Int) + 1)) (w64 (by omega))) ?_
    refine WP.s .n (O.mv rfl) ?_
    refine WP.nil ?_
    refine ST.obtold 0 rfl (OB.row_eq (ys := ((List.range (i + 1)).map (fun x => (List.replicate n 0).set x 1))) (range_app (fun x => (List.replicate n (0 : Int)).set x 1) i)) ?_
    exact QE.round2 (i + 1) v2 (by omega) (by omega) (Imp.cons rfl (Imp.cons rfl (Imp.cons rfl (Imp.consLe rfl (is_eq (y := (((i + 1) : Nat) : Int)) (by first | rfl | omega | assumption)) Imp.nil)))) (OImp.refl _)
  · refine CW.exit ?_
    refine QE.thenE ?_
    refine QE.thenE ?_
    refine QE.blkH ?_
    refine QE.next ?_
    refine CW.seq ?_
    refine CW.region ?_
    refine WP.s .n (O.mv rfl) ?_
    refine WP.s .n (O.asg rfl) ?_
    refine WP.s .n (O.asg rfl) ?_
    refine WP.nil ?_
    refine QE.next ?_
    refine CW.ret ?_
    refine ST.obtold 0 rfl (OB.row_eq (ys := (unitV n)) (by rw [show i = n by omega]; rfl)) ?_
    exact QE.done (.inl rfl) rfl (ResOk.t rfl (ResOk.t rfl ResOk.nil)) (OImp.refl _) ⟨v, rfl, rfl, trivial⟩

set_option maxRecDepth 20000 in
set_option maxHeartbeats 1000000 in
theorem c_quad_change (a : List (List Int)) (M Dm : Int) (N : Nat) (hq0 : 0 < a.length) (ha : SzM 256 a) (hq : ∀ i, i < a.length → (a.getD i []).length = a.length) (hs : SymG (matF a)) (hl : a.length ≤ 12) (hP : PosU (matF a) a.length) (hB : LB M Dm N) (hM : ∀ x, x < a.length → matF a x x ≤ M) (hD : ∀ l, l ≤ a.length → uD (matF a) l ≤ Dm) : Con Try.prog 142 [(kSl (kSl kZ)).is a] [] (fun p Lo => ∃ (U : List (List Int)), p = (kSl (kSl kC)).is U ∧ Lo = [] ∧ CU a.length U ∧ LL (matF a) a.length M Dm (fL a U) a.length a.length) := by
  refine Con.enter Try.func142 rfl rfl fun m w => ?_
  refine ST.fact (i := 0) rfl sl_len fun hB0 => ?_
  refine ST.fact (i := 0) rfl slsl_len fun hlc => ?_
  have hNn := hB.n
  refine CW.seq ?_
  refine CW.region ?_
  refine WP.s .n (O.asg rfl) ?_
  refine WP.nil ?_
  refine QE.next ?_
  refine CW.seq ?_
  refine CW.region ?_
  refine WP.s .n (O.mv rfl) ?_
  refine WP.s .n (O.lenS rfl Try.underlying67) ?_
  refine WP.call (Li := []) (L := []) .n fn185 (evs.l rfl (is_eq (y := ((a.length : Nat) : Int)) (by first | rfl | omega | assumption)) evs.nil) (c_mat_Unit a.length (by first | assumption | omega | decide)) fun p_ Lo_ hp_ => ?_
  obtain ⟨vU, rfl, rfl, hxU⟩ := hp_
  refine WP.s .n (O.mv rfl) ?_
  refine WP.s .n (O.ext rfl rfl) ?_
  refine WP.s .n (O.ext rfl rfl) ?_
  refine WP.s .n (O.asg rfl) ?_
  refine WP.s .n (O.asg rfl) ?_
  refine WP.nil ?_
  refine QE.next ?_
  refine CW.seq ?_
  refine CW.region ?_
  refine WP.s .n (O.mv rfl) ?_
  refine WP.s .n (O.fn fn113 (evs.c rfl evs.nil) (c_quad_data 256 a (by first | assumption | omega | decide) (by first | assumption | omega | decide) (by first | assumption | omega | decide) (by first | assumption | omega | decide) (by first | assumption | omega | decide))) ?_
  refine WP.s .n (O.mv rfl) ?_
  refine WP.s .n (O.ext rfl rfl) ?_
  refine WP.s .n (O.ext rfl rfl) ?_
  refine WP.al .n z93_pr_sl_C_sl_sl_C_ fun b1 => ?_
  refine WP.t .n (O.stW (l := (kPair (kSl kC) (kSl (kSl kC)))) (u := gsoV (matF a) a.length) 0 rfl rfl rfl ty93 rfl (VP.le_refl _)) ?_
  refine WP.s .n (O.asg rfl) ?_
  refine WP.nil ?_
  refine QE.next ?_
  refine CW.seq ?_
  refine CW.seq ?_
  refine ST.obtold 0 rfl (OB.box_eq (y := (gDs (fL a (unitV a.length)) a.length, gLs (fL a (unitV a.length)) a.length)) (by rw [fL_unit hq]; exact (gso_yes hP).2)) ?_
  refine CW.region ?_
  refine WP.s .n (O.asg rfl) ?_
  refine WP.nil ?_
  refine QE.next ?_
  refine CW.block ?_
  refine CW.loop2 (fun (k : Nat) (U : List (List Int)) => 0 < k ∧ k ≤ a.length ∧ CU a.length U ∧ LL (matF a) a.length M Dm (fL a U) k k) (fun (k : Nat) (U : List (List Int)) => [(0, (kSl (kSl kZ)).is a), (3, VP.ex vU), (5, VP.ex (.pointer (some ⟨b1, 0, none⟩))), (7, (kInt .i64).is (k : Int))]) (fun (k : Nat) (U : List (List Int)) => [OB.box b1 93 (kPair (kSl kC) (kSl (kSl kC))) (gDs (fL a U) a.length, gLs (fL a U) a.length), OB.row vU 27 (kSl kC) U]) (fun (k : Nat) (U : List (List Int)) => muL (fL a U) a.length k) 1 (unitV a.length) ⟨by omega, by omega, CU_unit _, by rw [fL_unit hq]; exact LL.init hs hP hM hD hB⟩ (Imp.cons rfl (Imp.cons rfl (Imp.cons rfl (Imp.consLe rfl (is_eq (y := (1 : Int)) (by first | rfl | omega | assumption)) Imp.nil)))) (OImp.refl _) ?_
  intro k U ⟨hk0, hk, hU, hK⟩
  refine CW.seq ?_
  refine CW.seq ?_
  refine CW.region ?_
  refine WP.s .n (O.mv rfl) ?_
  refine WP.s .n (O.mv rfl) ?_
  refine WP.s .n (O.lenS rfl Try.underlying67) ?_
  refine WP.s .n (O.lt rfl rfl) ?_
  refine WP.nil ?_
  refine QE.next ?_
  refine CW.condD rfl (fun h_t27 => ?_) (fun h_t27 => ?_)
  · refine CW.skip ?_
    refine QE.next ?_
    refine CW.block ?_
    refine CW.seq ?_
    refine CW.seq ?_
    refine CW.region ?_
    refine WP.s .n (O.mv rfl) ?_
    refine WP.s .n (O.sub rfl rfl (c := ((k : Int) - 1)) (w64 (by omega))) ?_
    refine WP.s .n (O.asg rfl) ?_
    refine WP.nil ?_
    refine QE.next ?_
    refine CW.block ?_
    refine CW.loop2 (fun (c : Nat) (V : List (List Int)) => c ≤ k ∧ CU a.length V ∧ LR (matF a) a.length M Dm (fL a V) k c ∧ sumD (fL a V) a.length = sumD (fL a U) a.length) (fun (c : Nat) (V : List (List Int)) => [(0, (kSl (kSl kZ)).is a), (3, VP.ex vU), (5, VP.ex (.pointer (some ⟨b1, 0, none⟩))), (7, (kInt .i64).is (k : Int)), (8, (kInt .i64).is ((c : Int) - 1))]) (fun (c : Nat) (V : List (List Int)) => [OB.box b1 93 (kPair (kSl kC) (kSl (kSl kC))) (gDs (fL a V) a.length, gLs (fL a V) a.length), OB.row vU 27 (kSl kC) V]) (fun (c : Nat) (V : List (List Int)) => c) k U ⟨Nat.le_refl _, hU, LL.start hK (by omega), rfl⟩ (Imp.cons rfl (Imp.cons rfl (Imp.cons rfl (Imp.cons rfl (Imp.cons rfl Imp.nil))))) (OImp.refl _) ?_
    intro c V ⟨hc, hV, hR, hS⟩
    refine CW.seq ?_
    refine CW.seq ?_
    refine CW.region ?_
    refine WP.s .n (O.mv rfl) ?_
    refine WP.s .n (O.ge rfl rfl) ?_
    refine WP.nil ?_
    refine QE.next ?_
    refine CW.condD rfl (fun h_t31 => ?_) (fun h_t31 => ?_)
    · refine CW.skip ?_
      refine QE.next ?_
      refine CW.seq ?_
      refine CW.block ?_
      refine CW.seq ?_
      have hC := hR.c
      have hdi := hR.dia hB (show k < a.length by omega) hl
      have hDz := sz_D hC hB
      have hLz := sz_L hC hB hdi
      have hqz := sz_q hC hB hdi (show c - 1 < k by omega) (by omega)
      have hUl := sz_Ul hV (sz_U hs hP hl hB hM hD hdi)
      refine CW.region ?_
      refine WP.s .n (O.ld (p := (kPair (kSl kC) (kSl (kSl kC))).is (gDs (fL a V) a.length, gLs (fL a V) a.length)) rfl (mem_at 0 rfl) (Lens.id _) ty93 rfl) ?_
      refine WP.s .n (O.mv rfl) ?_
      refine WP.s .n (O.mv rfl) ?_
      refine WP.s .n (O.fn fn186 (evs.c rfl (evs.c rfl (evs.l rfl (is_eq (y := (((c - 1) : Nat) : Int)) (by first | rfl | omega | assumption)) evs.nil))) (c_gso_Mu (fL a V) a.length (4 * N + 8) hq0 hl hC.p hDz (by omega) k (c - 1) (by first | assumption | omega | decide) (by first | assumption | omega | decide) hC.s hLz)) ?_
      refine WP.s .n (O.mv rfl) ?_
      refine WP.s .n (O.ext rfl rfl) ?_
      refine WP.s .n (O.ext rfl rfl) ?_
      refine WP.al .n z60_pr_C_C_ fun b2 => ?_
      refine WP.t .n (O.stW (l := (kPair kC kC)) (u := rq (frM (fL a V) k (c - 1))) 0 rfl rfl rfl ty60 rfl (VP.le_refl _)) ?_
      refine WP.s .n (O.asg rfl) ?_
      refine WP.nil ?_
      refine QE.next ?_
      refine CW.seq ?_
      refine CW.region ?_
      refine WP.s .n (O.ld rfl (mem_at 0 rfl) (Lens.id _) ty60 rfl) ?_
      refine WP.s .n (O.fn fn187 (evs.c rfl evs.nil) (c_rat_Near (4 * N + 8) (frM (fL a V) k (c - 1)) (RZ.of (uD_ne hC.p (by omega)) (frM_rmk hC.s hC.p (by omega) (by omega)) (hLz _ _ (by omega) (by omega)) (hDz _ (by omega))) (by first | assumption | omega | decide))) ?_
      refine WP.s .n (O.mv rfl) ?_
      refine WP.s .n (O.ext rfl rfl) ?_
      refine WP.s .n (O.ext rfl rfl) ?_
      refine WP.al .n z31_C fun b3 => ?_
      refine WP.t .n (O.stW (l := kC) (u := nearQ (frM (fL a V) k (c - 1))) 0 rfl rfl rfl ty31 rfl (VP.le_refl _)) ?_
      refine WP.s .n (O.asg rfl) ?_
      refine WP.nil ?_
      refine QE.next ?_
      refine CW.seq ?_
      refine CW.seq ?_
      refine CW.region ?_
      refine WP.s .n (O.ld rfl (mem_at 0 rfl) (Lens.id _) ty31 rfl) ?_
      refine WP.s .n (O.fn fn80 (evs.l rfl (kC_Z (by first | exact hqz.sm (by omega) | exact hqz.neg.sm (by omega) | exact (hUl _).sm (by omega) | exact (timesV_Sz (hUl _) hqz.neg).sm (by omega))) evs.nil) (c_zint_Sign (nearQ (frM (fL a V) k (c - 1))))) ?_
      refine WP.s .n (O.eq rfl rfl) ?_
      refine WP.nil ?_
      refine QE.next ?_
      refine CW.condD rfl (fun h_t48 => ?_) (fun h_t48 => ?_)
      · refine CW.exit ?_
        refine QE.thenE ?_
        refine QE.blkH ?_
        refine QE.next ?_
        refine CW.region ?_
        refine WP.s .n (O.mv rfl) ?_
        refine WP.s .n (O.sub rfl rfl (c := (((c : Int) - 1) - 1)) (w64 (by omega))) ?_
        refine WP.s .n (O.asg rfl) ?_
        refine WP.nil ?_
        exact QE.round2 (c - 1) V (by omega) ⟨by omega, hV, hR.zero' (by omega) hc (by omega) (Int.sign_eq_zero_iff_zero.1 h_t48), hS⟩ (Imp.cons rfl (Imp.cons rfl (Imp.cons rfl (Imp.cons rfl (Imp.consLe rfl (is_eq (y := ((((c - 1) : Nat) : Int) - 1)) (by first | rfl | omega | assumption)) Imp.nil))))) (OImp.os (OS.skip (OS.skip (OS.keep (OS.keep OS.nil)))))
      · refine CW.skip ?_
        refine QE.next ?_
        refine CW.seq ?_
        refine CW.region ?_
        refine WP.s .n (O.ld rfl (mem_at 0 rfl) (Lens.id _) ty31 rfl) ?_
        refine WP.s .n (O.fn fn161 (evs.l rfl (kC_Z (by first | exact hqz.sm (by omega) | exact hqz.neg.sm (by omega) | exact (hUl _).sm (by omega) | exact (timesV_Sz (hUl _) hqz.neg).sm (by omega))) evs.nil) (c_zint_Neg (nearQ (frM (fL a V) k (c - 1))))) ?_
        refine WP.t .n (O.stW (l := kC) (u := -(nearQ (frM (fL a V) k (c - 1)))) 0 rfl rfl rfl ty31 rfl (VP.le_refl _)) ?_
        refine WP.nil ?_
        refine QE.next ?_
        refine CW.seq ?_
        refine CW.region ?_
        refine WP.s .n (O.ld (p := (kPair (kSl kC) (kSl (kSl kC))).is (gDs (fL a V) a.length, gLs (fL a V) a.length)) rfl (mem_at 2 rfl) (Lens.id _) ty93 rfl) ?_
        refine WP.s .n (O.mv rfl) ?_
        refine WP.s .n (O.mv rfl) ?_
        refine WP.s .n (O.ld rfl (mem_at 0 rfl) (Lens.id _) ty31 rfl) ?_
        refine WP.s .n (O.fn fn188 (evs.c rfl (evs.c rfl (evs.l rfl (is_eq (y := (((c - 1) : Nat) : Int)) (by first | rfl | omega | assumption)) (evs.l rfl (kC_Z (by first | exact hqz.sm (by omega) | exact hqz.neg.sm (by omega) | exact (hUl _).sm (by omega) | exact (timesV_Sz (hUl _) hqz.neg).sm (by omega))) evs.nil)))) (c_gso_AddRow (fL a V) a.length (4 * N + 8) hq0 hl hC.p hDz (by omega) k (c - 1) (-(nearQ (frM (fL a V) k (c - 1)))) (by first | assumption | omega | decide) (by first | assumption | omega | decide) hC.s hLz hqz.neg)) ?_
        refine WP.s .n (O.mv rfl) ?_
        refine WP.s .n (O.ext rfl rfl) ?_
        refine WP.s .n (O.ext rfl rfl) ?_
        refine WP.t .n (O.stW (l := (kPair (kSl kC) (kSl (kSl kC)))) (u := (gDs (rowI (fL a V) k (c - 1) (-(nearQ (frM (fL a V) k (c - 1))))) a.length, gLs (rowI (fL a V) k (c - 1) (-(nearQ (frM (fL a V) k (c - 1))))) a.length)) 2 rfl rfl rfl ty93 rfl (VP.le_refl _)) ?_
        refine WP.nil ?_
        refine QE.next ?_
        refine CW.draw (Γ := [.fr (VP.ex vU), .fr ((kInt .i64).is (k : Int)), .fr (VP.ex vU), .fr ((kInt .i64).is (k : Int)), .fr (VP.pel vU (k * 1)), .fr ((kSl kC).is (V.getD k [])), .fr (kC.is (-(nearQ (frM (fL a V) k (c - 1))))), .fr (VP.ex vU), .fr ((kInt .i64).is ((c : Int) - 1)), .fr (VP.pel vU ((c - 1) * 1)), .fr ((kSl kC).is (V.getD (c - 1) [])), .fr ((kSl kC).is ((V.getD (c - 1) []).map (fun x => (-(nearQ (frM (fL a V) k (c - 1)))) * x))), .fr (VP.tup [(kSl kC).is (pairV (fun x y => x + y) (V.getD k []) ((V.getD (c - 1) []).map (fun x => (-(nearQ (frM (fL a V) k (c - 1)))) * x))), (kInt .i64).is 0]), .fr (VP.tup [(kSl kC).is (pairV (fun x y => x + y) (V.getD k []) ((V.getD (c - 1) []).map (fun x => (-(nearQ (frM (fL a V) k (c - 1)))) * x))), (kInt .i64).is 0]), .fr ((kSl kC).is (pairV (fun x y => x + y) (V.getD k []) ((V.getD (c - 1) []).map (fun x => (-(nearQ (frM (fL a V) k (c - 1)))) * x)))), .lt ((kInt .i64).is 0), .fr (VP.pel vU (k * 1))]) (lates := [false, false, false, false, false, false, false, false, false, false, false, false, false, false, false, true, false]) (by kernel_rfl) (Chk.of rfl (by kernel_rfl) rfl) (fun _ _ _ _ _ h => h) (fun q_ x_ h_ => ?_) (fun σ1 => ?_)
        · match q_, h_ with
          | 0, h_ => cases h_; exact Ob.f rfl .n fun N => (O.mv rfl)
          | 1, h_ => cases h_; exact Ob.f rfl .n fun N => (O.mv rfl)
          | 2, h_ => cases h_; exact Ob.f rfl .n fun N => (O.mv rfl)
          | 3, h_ => cases h_; exact Ob.f rfl .n fun N => (O.mv rfl)
          | 4, h_ => cases h_; exact Ob.f rfl .n fun N => (O.ixR (k := (kSl kC)) (xs := V) (n := (k : Int)) k rfl rfl (mem_app N (mem_at 3 rfl)) Try.underlying67 ty27 rfl (by first | omega | (rw [hV.len]; omega) | (rw [List.length_set, hV.len]; omega)))
          | 5, h_ => cases h_; exact Ob.f rfl .n fun N => (O.ldR k rfl (mem_app N (mem_at 3 rfl)) (Lens.id _) rfl (y := (V.getD k [])) (gd [] (by first | omega | (rw [hV.len]; omega) | (rw [List.length_set, hV.len]; omega))) ty27 rfl)
          | 6, h_ => cases h_; exact Ob.f rfl .n fun N => (O.ld rfl (mem_app N (mem_at 0 rfl)) (Lens.id _) ty31 rfl)
          | 7, h_ => cases h_; exact Ob.f rfl .n fun N => (O.mv rfl)
          | 8, h_ => cases h_; exact Ob.f rfl .n fun N => (O.mv rfl)
          | 9, h_ => cases h_; exact Ob.f rfl .n fun N => (O.ixR (k := (kSl kC)) (xs := V) (n := ((c : Int) - 1)) (c - 1) rfl rfl (mem_app N (mem_at 3 rfl)) Try.underlying67 ty27 (by omega) (by first | omega | (rw [hV.len]; omega) | (rw [List.length_set, hV.len]; omega)))
          | 10, h_ => cases h_; exact Ob.f rfl .n fun N => (O.ldR (c - 1) rfl (mem_app N (mem_at 3 rfl)) (Lens.id _) rfl (y := (V.getD (c - 1) [])) (gd [] (by first | omega | (rw [hV.len]; omega) | (rw [List.length_set, hV.len]; omega))) ty27 rfl)
          | 11, h_ => cases h_; exact Ob.f rfl .n fun N => (O.fn fn190 (evs.l rfl (kC_Z (by first | exact hqz.sm (by omega) | exact hqz.neg.sm (by omega) | exact (hUl _).sm (by omega) | exact (timesV_Sz (hUl _) hqz.neg).sm (by omega))) (evs.l rfl (slC_Z (by first | exact hqz.sm (by omega) | exact hqz.neg.sm (by omega) | exact (hUl _).sm (by omega) | exact (timesV_Sz (hUl _) hqz.neg).sm (by omega))) evs.nil)) (c_mat_Times (-(nearQ (frM (fL a V) k (c - 1)))) (V.getD (c - 1) [])))
          | 12, h_ => cases h_; exact Ob.f rfl .n fun N => (O.fn fn189 (evs.l rfl (slC_Z (by first | exact hqz.sm (by omega) | exact hqz.neg.sm (by omega) | exact (hUl _).sm (by omega) | exact (timesV_Sz (hUl _) hqz.neg).sm (by omega))) (evs.l rfl (slC_Z (by first | exact hqz.sm (by omega) | exact hqz.neg.sm (by omega) | exact (hUl _).sm (by omega) | exact (timesV_Sz (hUl _) hqz.neg).sm (by omega))) evs.nil)) (c_mat_Plus (V.getD k []) ((V.getD (c - 1) []).map (fun x => (-(nearQ (frM (fL a V) k (c - 1)))) * x)) (by rw [hV.row k (by omega), List.length_map, hV.row _ (by omega)])))
          | 13, h_ => cases h_; exact Ob.f rfl .n fun N => (O.mv rfl)
          | 14, h_ => cases h_; exact Ob.f rfl .n fun N => (O.ext rfl rfl)
          | 15, h_ => cases h_; exact Ob.l rfl .n (OV.ext rfl rfl)
          | 16, h_ => cases h_; exact Ob.f rfl .n fun N => (O.ixR (k := (kSl kC)) (xs := V) (n := (k : Int)) k rfl rfl (mem_app N (mem_at 3 rfl)) Try.underlying67 ty27 rfl (by first | omega | (rw [hV.len]; omega) | (rw [List.length_set, hV.len]; omega)))
          | n_ + 17, h_ => simp at h_
        refine WP.t .n (O.stR 3 k rfl rfl (Lens.id _) rfl (y0 := (V.getD k [])) (gd [] (by first | omega | (rw [hV.len]; omega) | (rw [List.length_set, hV.len]; omega))) ty27 rfl (VP.le_refl _)) ?_
        refine WP.nil ?_
        refine QE.blkN ?_
        refine QE.next ?_
        refine CW.region ?_
        refine WP.s .n (O.mv rfl) ?_
        refine WP.s .n (O.sub rfl rfl (c := (((c : Int) - 1) - 1)) (w64 (by omega))) ?_
        refine WP.s .n (O.asg rfl) ?_
        refine WP.nil ?_
        refine ST.obtold 2 rfl (OB.box_eq (y := (gDs (fL a (rowU V k (c - 1) (-(nearQ (frM (fL a V) k (c - 1)))))) a.length, gLs (fL a (rowU V k (c - 1) (-(nearQ (frM (fL a V) k (c - 1)))))) a.length)) (by rw [fL_row hV _ (by omega)])) ?_
        exact QE.round2 (c - 1) (rowU V k (c - 1) (-(nearQ (frM (fL a V) k (c - 1))))) (by omega) ⟨by omega, CU_row hV _ (by omega), (by rw [fL_row hV _ (by omega)]; exact hR.step' (by omega) hc (by omega)), (by rw [fL_row hV _ (by omega), sumD_row hC.s hC.p (by omega)]; exact hS)⟩ (Imp.cons rfl (Imp.cons rfl (Imp.cons rfl (Imp.cons rfl (Imp.consLe rfl (is_eq (y := ((((c - 1) : Nat) : Int) - 1)) (by first | rfl | omega | assumption)) Imp.nil))))) (OImp.os (OS.skip (OS.skip (OS.keep (OS.keepLe (OB.row_eq (by first | rfl | omega | assumption)) OS.nil)))))
    · refine CW.exit ?_
      refine QE.thenE ?_
      refine QE.thenE ?_
      refine QE.blkH ?_
      refine QE.next ?_
      refine CW.seq ?_
      refine CW.seq ?_
      have hK2 := (show LR (matF a) a.length M Dm (fL a V) k 0 by rw [show c = 0 by omega] at hR; exact hR).fin (by omega) hl
      have hC := hK2.c
      have hdi := hK2.dia hB
      have hDz := sz_D hC hB
      have hLz := sz_L hC hB hdi
      refine CW.region ?_
      refine WP.s .n (O.ld (p := (kPair (kSl kC) (kSl (kSl kC))).is (gDs (fL a V) a.length, gLs (fL a V) a.length)) rfl (mem_at 0 rfl) (Lens.id _) ty93 rfl) ?_
      refine WP.s .n (O.mv rfl) ?_
      refine WP.s .n (O.fn fn191 (evs.c rfl (evs.l rfl (is_eq (y := ((((k - 1) : Nat) : Int) + 1)) (by first | rfl | omega | assumption)) evs.nil)) (c_quad_holds (fL a V) a.length (4 * N + 8) hq0 hl hC.p hDz (by omega) (k - 1) (by first | assumption | omega | decide) hC.s hLz (by omega))) ?_
      refine WP.nil ?_
      refine QE.next ?_
      refine CW.condD rfl (fun h_t78 => ?_) (fun h_t78 => ?_)
      · refine CW.seq ?_
        refine CW.region ?_
        refine WP.s .n (O.mv rfl) ?_
        refine WP.s .n (O.add rfl rfl (c := ((k : Int) + 1)) (w64 (by omega))) ?_
        refine WP.s .n (O.asg rfl) ?_
        refine WP.nil ?_
        refine QE.next ?_
        refine CW.exit ?_
        refine QE.thenE ?_
        refine QE.blkH ?_
        exact QE.round2 (k + 1) V (by first | exact muL_yes hS (by omega) | exact muL_no (fL_sum_no hV hK2 hk0 (by omega) h_t78 hS) _) ⟨by omega, by omega, hV, hK2.yes (by rw [show k = k - 1 + 1 by omega]; exact h_t78)⟩ (Imp.cons rfl (Imp.cons rfl (Imp.cons rfl (Imp.consLe rfl (is_eq (y := (((k + 1) : Nat) : Int)) (by first | rfl | omega | assumption)) Imp.nil)))) (OImp.refl _)
      · refine CW.skip ?_
        refine QE.next ?_
        refine CW.seq ?_
        refine CW.region ?_
        refine WP.s .n (O.ld (p := (kPair (kSl kC) (kSl (kSl kC))).is (gDs (fL a V) a.length, gLs (fL a V) a.length)) rfl (mem_at 0 rfl) (Lens.id _) ty93 rfl) ?_
        refine WP.s .n (O.mv rfl) ?_
        refine WP.s .n (O.fn fn192 (evs.c rfl (evs.l rfl (is_eq (y := ((((k - 1) : Nat) : Int) + 1)) (by first | rfl | omega | assumption)) evs.nil)) (c_gso_Swap (fL a V) a.length (4 * N + 8) hq0 hl hC.p hDz (by omega) (k - 1) (by first | assumption | omega | decide) hC.s hLz)) ?_
        refine WP.s .n (O.mv rfl) ?_
        refine WP.s .n (O.ext rfl rfl) ?_
        refine WP.s .n (O.ext rfl rfl) ?_
        refine WP.t .n (O.stW (l := (kPair (kSl kC) (kSl (kSl kC)))) (u := (gDs (swpI (fL a V) (k - 1)) a.length, gLs (swpI (fL a V) (k - 1)) a.length)) 0 rfl rfl rfl ty93 rfl (VP.le_refl _)) ?_
        refine WP.nil ?_
        refine QE.next ?_
        refine CW.seq ?_
        refine CW.draw (Γ := [.fr (VP.ex vU), .fr ((kInt .i64).is (k : Int)), .lt (VP.ex vU), .lt ((kInt .i64).is (k : Int)), .lt ((kInt .i64).is ((k - 1 : Nat) : Int)), .fr (VP.ex vU), .fr ((kInt .i64).is (k : Int)), .fr ((kInt .i64).is ((k - 1 : Nat) : Int)), .fr (VP.pel vU ((k - 1) * 1)), .fr ((kSl kC).is (V.getD (k - 1) [])), .fr (VP.ex vU), .fr ((kInt .i64).is (k : Int)), .fr (VP.pel vU (k * 1)), .fr ((kSl kC).is (V.getD k [])), .fr (VP.pel vU (k * 1))]) (lates := [false, false, true, true, true, false, false, false, false, false, false, false, false, false, false]) (by kernel_rfl) (Chk.of rfl (by kernel_rfl) rfl) (fun _ _ _ _ _ h => h) (fun q_ x_ h_ => ?_) (fun σ2 => ?_)
        · match q_, h_ with
          | 0, h_ => cases h_; exact Ob.f rfl .n fun N => (O.mv rfl)
          | 1, h_ => cases h_; exact Ob.f rfl .n fun N => (O.mv rfl)
          | 2, h_ => cases h_; exact Ob.l rfl .n (OV.mv rfl)
          | 3, h_ => cases h_; exact Ob.l rfl .n (OV.mv rfl)
          | 4, h_ => cases h_; exact Ob.l rfl .n (OV.sub rfl rfl (c := ((k - 1 : Nat) : Int)) (w64 (by omega)))
          | 5, h_ => cases h_; exact Ob.f rfl .n fun N => (O.mv rfl)
          | 6, h_ => cases h_; exact Ob.f rfl .n fun N => (O.mv rfl)
          | 7, h_ => cases h_; exact Ob.f rfl .n fun N => (O.sub rfl rfl (c := ((k - 1 : Nat) : Int)) (w64 (by omega)))
          | 8, h_ => cases h_; exact Ob.f rfl .n fun N => (O.ixR (k := (kSl kC)) (xs := V) (n := ((k - 1 : Nat) : Int)) (k - 1) rfl rfl (mem_app N (mem_at 1 rfl)) Try.underlying67 ty27 (by omega) (by first | omega | (rw [hV.len]; omega) | (rw [List.length_set, hV.len]; omega)))
          | 9, h_ => cases h_; exact Ob.f rfl .n fun N => (O.ldR (k - 1) rfl (mem_app N (mem_at 1 rfl)) (Lens.id _) rfl (y := (V.getD (k - 1) [])) (gd [] (by first | omega | (rw [hV.len]; omega) | (rw [List.length_set, hV.len]; omega))) ty27 rfl)
          | 10, h_ => cases h_; exact Ob.f rfl .n fun N => (O.mv rfl)
          | 11, h_ => cases h_; exact Ob.f rfl .n fun N => (O.mv rfl)
          | 12, h_ => cases h_; exact Ob.f rfl .n fun N => (O.ixR (k := (kSl kC)) (xs := V) (n := (k : Int)) k rfl rfl (mem_app N (mem_at 1 rfl)) Try.underlying67 ty27 rfl (by first | omega | (rw [hV.len]; omega) | (rw [List.length_set, hV.len]; omega)))
          | 13, h_ => cases h_; exact Ob.f rfl .n fun N => (O.ldR k rfl (mem_app N (mem_at 1 rfl)) (Lens.id _) rfl (y := (V.getD k [])) (gd [] (by first | omega | (rw [hV.len]; omega) | (rw [List.length_set, hV.len]; omega))) ty27 rfl)
          | 14, h_ => cases h_; exact Ob.f rfl .n fun N => (O.ixR (k := (kSl kC)) (xs := V) (n := (k : Int)) k rfl rfl (mem_app N (mem_at 1 rfl)) Try.underlying67 ty27 rfl (by first | omega | (rw [hV.len]; omega) | (rw [List.length_set, hV.len]; omega)))
          | n_ + 15, h_ => simp at h_
        refine WP.t .n (O.stR 1 k rfl rfl (Lens.id _) rfl (y0 := (V.getD k [])) (gd [] (by first | omega | (rw [hV.len]; omega) | (rw [List.length_set, hV.len]; omega))) ty27 rfl (VP.le_refl _)) ?_
        refine WP.s .n (O.ixR (k := (kSl kC)) (xs := (V.set k (V.getD (k - 1) []))) (n := ((k - 1 : Nat) : Int)) (k - 1) rfl rfl (mem_at 1 rfl) Try.underlying67 ty27 (by omega) (by first | omega | (rw [hV.len]; omega) | (rw [List.length_set, hV.len]; omega))) ?_
        refine WP.t .n (O.stR 1 (k - 1) rfl rfl (Lens.id _) rfl (y0 := ((V.set k (V.getD (k - 1) [])).getD (k - 1) [])) (gd [] (by first | omega | (rw [hV.len]; omega) | (rw [List.length_set, hV.len]; omega))) ty27 rfl (VP.le_refl _)) ?_
        refine WP.nil ?_
        refine QE.next ?_
        refine CW.region ?_
        refine WP.s .n (O.mv rfl) ?_
        refine WP.s .n (O.sub rfl rfl (c := ((k : Int) - 1)) (w64 (by omega))) ?_
        refine WP.s .n (O.mx rfl rfl) ?_
        refine WP.s .n (O.asg rfl) ?_
        refine WP.nil ?_
        refine QE.blkN ?_
        refine ST.obtold 1 rfl (OB.row_eq (ys := (swpU V (k - 1))) (by unfold swpU; rw [show k - 1 + 1 = k by omega])) ?_
        refine ST.obtold 0 rfl (OB.box_eq (y := (gDs (fL a (swpU V (k - 1))) a.length, gLs (fL a (swpU V (k - 1))) a.length)) (by rw [fL_swp hV (by omega)])) ?_
        exact QE.round2 (max (k - 1) 1) (swpU V (k - 1)) (by first | exact muL_yes hS (by omega) | exact muL_no (fL_sum_no hV hK2 hk0 (by omega) h_t78 hS) _) ⟨by omega, by omega, CU_swp hV (by omega), (by rw [fL_swp hV (by omega)]; exact hK2.no' hk0 (by omega) h_t78)⟩ (Imp.cons rfl (Imp.cons rfl (Imp.cons rfl (Imp.consLe rfl (is_eq (y := (((max (k - 1) 1) : Nat) : Int)) (by first | rfl | omega | assumption)) Imp.nil)))) (OImp.refl _)
  · refine CW.exit ?_
    refine QE.thenE ?_
    refine QE.thenE ?_
    refine QE.blkH ?_
    refine QE.next ?_
    refine CW.seq ?_
    refine CW.region ?_
    refine WP.s .n (O.mv rfl) ?_
    refine WP.s .n (O.asg rfl) ?_
    refine WP.nil ?_
    refine QE.next ?_
    refine CW.ret ?_
    refine ST.freeze 1 rfl (.keep (i := 0) rfl (.hit (i := 2) rfl (.hit (i := 3) rfl (.keep (i := 5) rfl (.keep (i := 7) rfl (.keep (i := 24) rfl (.keep (i := 25) rfl (.keep (i := 26) rfl (.keep (i := 27) rfl (.hit (i := 106) rfl .nil)))))))))) ?_
    exact QE.done (.inl rfl) rfl (ResOk.t rfl ResOk.nil) (OImp.sub (List.nil_sublist _)) ⟨U, rfl, rfl, ⟨hU, by rw [show k = a.length by omega] at hK; exact hK⟩⟩

end Fw


/- Plain facts: turned matrices by one row; products of matrices. -/
set_option linter.unusedVariables false
set_option linter.unusedSimpArgs false
set_option exponentiation.threshold 400
namespace Fw
open Go

/-- columns behind one another -/
def turnF (a : List (List Int)) (q : Nat) : List Int := (List.range q).map (fun x => matF a (x % a.length) (x / a.length))
theorem turnF_len (a q) : (turnF a q).length = q := by simp [turnF]
theorem turnF_app {a : List (List Int)} {k i : Nat} (hi : i < a.length) : turnF a (k * a.length + i) ++ [matF a i k] = turnF a (k * a.length + (i + 1)) := by
  unfold turnF
  rw [← Nat.add_assoc, List.range_succ, List.map_append]
  congr 1
  simp only [List.map_cons, List.map_nil]
  rw [Nat.add_comm (k * a.length) i, Nat.add_mul_mod_self_right, Nat.mod_eq_of_lt hi, Nat.add_mul_div_right _ _ (by omega), Nat.div_eq_of_lt hi, Nat.zero_add]
def winL (a : List (List Int)) (b k : Nat) : List Value := (List.range k).map (fun x => wv b (x * a.length * kC.sz) a.length)
theorem winL_len (a b k) : (winL a b k).length = k := by simp [winL]
theorem winL_app (a : List (List Int)) (b k : Nat) : winL a b k ++ [wv b (k * a.length * 2) ((k + 1) * a.length - k * a.length)] = winL a b (k + 1) := by
  have e : (k + 1) * a.length - k * a.length = a.length := by rw [Nat.succ_mul]; omega
  have e2 : kC.sz = 2 := rfl
  unfold winL
  rw [e, List.range_succ, List.map_append, e2]; rfl
theorem winL_at {a : List (List Int)} {b W : Nat} (h0 : 0 < a.length) : ∀ i, i < (winL a b W).length → ∃ l h, (winL a b W).getD i nilV = wv b (l * kC.sz) (h - l) ∧ l < h ∧ h ≤ (turnF a (W * a.length)).length ∧ ((List.range W).map (turnR a)).getD i [] = ((turnF a (W * a.length)).take h).drop l := fun i hi => by
  rw [winL_len] at hi
  refine ⟨i * a.length, (i + 1) * a.length, ?_, by rw [Nat.succ_mul]; omega, by rw [turnF_len]; exact Nat.mul_le_mul_right _ hi, ?_⟩
  · rw [List.getD_eq_getElem?_getD]
    have e : (i + 1) * a.length - i * a.length = a.length := by rw [Nat.succ_mul]; omega
    rw [e]
    simp [winL, hi]
  · rw [List.getD_eq_getElem?_getD]
    simp only [List.getElem?_map, List.getElem?_range hi, Option.map_some, Option.getD_some]
    refine List.ext_getElem? fun x => ?_
    have hle : (i + 1) * a.length ≤ W * a.length := Nat.mul_le_mul_right _ hi
    by_cases hx : x < a.length
    · rw [List.getElem?_drop, List.getElem?_take_of_lt (by rw [Nat.succ_mul]; omega)]
      have h2 : i * a.length + x < W * a.length := by rw [Nat.succ_mul] at hle; omega
      simp only [turnR, turnF, List.getElem?_map, List.getElem?_range hx, List.getElem?_range h2, Option.map_some]
      rw [Nat.add_comm (i * a.length) x, Nat.add_mul_mod_self_right, Nat.mod_eq_of_lt hx, Nat.add_mul_div_right _ _ h0, Nat.div_eq_of_lt hx, Nat.zero_add]
    · rw [List.getElem?_eq_none (by rw [turnR_len]; omega), List.getElem?_eq_none (by rw [List.length_drop, List.length_take, turnF_len]; rw [Nat.succ_mul] at *; omega)]
/-! ### Products -/
def prodV (x b : List (List Int)) : List (List Int) := x.map (fun r => combV r b)
theorem CU.rr {n : Nat} {U : List (List Int)} (h : CU n U) : RectL U ∧ rect U = true := by
  have hr : RectL U := fun i hi => by
    have h1 := h.len
    rw [h.row i (by omega), h.row 0 (by omega)]
  exact ⟨hr, rect_iff.2 hr⟩
theorem CU.sh {n : Nat} {U : List (List Int)} (h : CU n U) (h0 : 0 < n) : shN U = (n : Int) ∧ shM U = (n : Int) ∧ shE U = 0 := by
  unfold shN shM shE
  rw [if_pos h.rr.2, if_pos h.rr.2, if_pos h.rr.2, h.len, h.row 0 h0]
  exact ⟨rfl, rfl, rfl⟩
theorem prodV_row {x b : List (List Int)} {i : Nat} (h : i < x.length) : (prodV x b).getD i [] = combV (x.getD i []) b := getD_map (fun r => combV r b) x [] [] h
theorem CU_prod {n : Nat} {x b : List (List Int)} (hx : CU n x) (hb : CU n b) : CU n (prodV x b) := ⟨by simp [prodV, hx.len], fun i hi => by
  rw [prodV_row (by rw [hx.len]; exact hi), combV_len, hb.row 0 (by omega)]⟩
theorem matF_prod {n : Nat} {x b : List (List Int)} (hx : CU n x) (hb : CU n b) {i j : Nat} (hi : i < n) (hj : j < n) : matF (prodV x b) i j = sumN (fun l => matF x i l * matF b l j) n := by
  show ((prodV x b).getD i []).getD j 0 = _
  rw [prodV_row (by rw [hx.len]; exact hi), combV_get (by rw [hb.row 0 (by omega)]; exact hj), combN_sum, hb.len]; rfl
theorem turnV_row {u : List (List Int)} {i : Nat} (h : i < (u.getD 0 []).length) : (turnV u).getD i [] = turnR u i := by
  rw [List.getD_eq_getElem?_getD]; unfold turnV; rw [List.getElem?_map, List.getElem?_range h]; rfl
theorem CU_turn {n : Nat} {u : List (List Int)} (h : CU n u) : CU n (turnV u) := by
  by_cases h0 : 0 < n
  · exact ⟨by rw [turnV_len, h.row 0 h0], fun x hx => by rw [turnV_row (by rw [h.row 0 h0]; exact hx), turnR_len, h.len]⟩
  · have hn : n = 0 := by omega
    have hu := List.eq_nil_of_length_eq_zero (h.len.trans hn)
    subst hu
    exact ⟨by rw [turnV_len]; exact hn.symm, fun x hx => absurd hx (by omega)⟩
theorem matF_turn {n : Nat} {u : List (List Int)} (h : CU n u) {i j : Nat} (hi : i < n) (hj : j < n) : matF (turnV u) i j = matF u j i := by
  show ((turnV u).getD i []).getD j 0 = _
  rw [turnV_row (by rw [h.row 0 (by omega)]; exact hi), List.getD_eq_getElem?_getD]
  simp [turnR, h.len, hj]
def chgV (a u : List (List Int)) : List (List Int) := prodV (prodV u a) (turnV u)
theorem CU_chg {n : Nat} {a u : List (List Int)} (ha : CU n a) (hu : CU n u) : CU n (chgV a u) := CU_prod (CU_prod hu ha) (CU_turn hu)
theorem matF_chg {n : Nat} {a u : List (List Int)} (ha : CU n a) (hu : CU n u) {i j : Nat} (hi : i < n) (hj : j < n) : matF (chgV a u) i j = fL a u i j := by
  unfold chgV fL fU
  rw [matF_prod (CU_prod hu ha) (CU_turn hu) hi hj, ha.len]
  exact sumN_congr fun l hl => by rw [matF_prod hu ha hi hl, matF_turn hu hl hj]
theorem prodV_Sz {n m : Nat} {x b : List (List Int)} (hx : SzM n x) (hb : SzM m b) : SzM (n + m + b.length) (prodV x b) := fun i => by
  by_cases h : i < x.length
  · rw [prodV_row h]; exact combV_Sz (hx i) hb
  · rw [List.getD_eq_getElem?_getD, List.getElem?_eq_none (by simp [prodV]; omega)]; exact SzL.nil _
/-! ### The reduced form -/
theorem sqm_CU {a : List (List Int)} (h : Sqm a) : CU a.length a := ⟨rfl, h.q⟩
theorem red_LB {a : List (List Int)} (h : Sqm a) (hP : PosU (matF a) a.length) : ∃ (M : Int), M = ((2 ^ 256 : Nat) : Int) ∧ ∃ (Dm : Int) (N : Nat), LB M Dm N ∧ (∀ x, x < a.length → matF a x x ≤ M) ∧ (∀ l, l ≤ a.length → uD (matF a) l ≤ Dm) := by
  obtain ⟨N, hN⟩ := LB_pow 256 1052673 (by decide) (by decide)
  refine ⟨_, rfl, _, N, hN, fun x hx => ?_, fun l hl => ?_⟩
  · have := matF_Sz h.z x x
    unfold Sz at this
    omega
  · have h1 := uD_Sz h.s (fun i j => matF_Sz h.z i j) hP l hl
    have h2 := szU_le 256 (show l ≤ 12 by have := h.n; omega)
    have h3 := h1.up (show szU 256 l + 1 ≤ 1052673 by omega)
    unfold Sz at h3
    omega
/-- what is known of a change that reduces -/
structure RedU (a U : List (List Int)) : Prop where
  u : CU a.length U
  z : ∃ N, N ≤ 536870912 ∧ SzM (4 * N + 8) U
  l : ∃ (M Dm : Int), M = ((2 ^ 256 : Nat) : Int) ∧ LL (matF a) a.length M Dm (fL a U) a.length a.length
theorem redU_of {a U : List (List Int)} {M Dm : Int} {N : Nat} (h : Sqm a) (hP : PosU (matF a) a.length) (hMe : M = ((2 ^ 256 : Nat) : Int)) (hB : LB M Dm N) (hM : ∀ x, x < a.length → matF a x x ≤ M) (hD : ∀ l, l ≤ a.length → uD (matF a) l ≤ Dm) (hx : CU a.length U ∧ LL (matF a) a.length M Dm (fL a U) a.length a.length) : RedU a U ∧ SzM (4 * N + 8) U := by
  have hz : SzM (4 * N + 8) U := sz_Ul hx.1 (sz_U h.s hP h.n hB hM hD (hx.2.dia hB))
  exact ⟨⟨hx.1, ⟨N, hB.n, hz⟩, ⟨M, Dm, hMe, hx.2⟩⟩, hz⟩
/-- what quad.Reduce answers -/
def redP (a R U : List (List Int)) : Prop := (quadE a ≠ 0 → R = [] ∧ U = []) ∧ (quadE a = 0 → RedU a U ∧ R = chgV a U)
end Fw


/- Turned matrices, products; the changed form. -/
set_option linter.unusedVariables false
set_option linter.unusedSimpArgs false
set_option exponentiation.threshold 400
namespace Fw
open Go Go.Proofs

set_option maxRecDepth 20000 in
set_option maxHeartbeats 1000000 in
theorem c_mat_Turn (a : List (List Int)) (hr : RectL a) (hrb : rect a = true) (h0 : 0 < a.length) (h12 : a.length ≤ 12) (hW : (a.getD 0 []).length ≤ 12) : Fn Try.prog 193 [(kSl (kSl kZ)).is a] (VP.tup [(kSl (kSl kC)).is (turnV a), (kInt .i64).is 0]) := by
  refine Con.enter Try.func193 rfl rfl fun m w => ?_
  refine ST.fact (i := 0) rfl sl_len fun hB => ?_
  refine ST.fact (i := 0) rfl slsl_len fun hlc => ?_
  have hNW : a.length * (a.getD 0 []).length ≤ 12 * 12 := Nat.mul_le_mul h12 hW
  refine CW.seq ?_
  refine CW.region ?_
  refine WP.s .n (O.asg rfl) ?_
  refine WP.s .n (O.asg rfl) ?_
  refine WP.nil ?_
  refine QE.next ?_
  refine CW.seq ?_
  refine CW.region ?_
  refine WP.s .n (O.mv rfl) ?_
  refine WP.s .n (O.fn fn135 (evs.c rfl evs.nil) (c_mat_Shape a)) ?_
  refine WP.s .n (O.mv rfl) ?_
  refine WP.s .n (O.ext rfl rfl) ?_
  refine WP.s .n (O.ext rfl rfl) ?_
  refine WP.s .n (O.ext rfl rfl) ?_
  refine WP.s .n (O.asg rfl) ?_
  refine WP.s .n (O.asg rfl) ?_
  refine WP.s .n (O.asg rfl) ?_
  refine WP.nil ?_
  refine QE.next ?_
  refine CW.seq ?_
  refine CW.seq ?_
  refine CW.region ?_
  refine WP.s .n (O.mv rfl) ?_
  refine WP.s .n (O.ne rfl rfl) ?_
  refine WP.nil ?_
  refine QE.next ?_
  refine CW.condD rfl (fun h => absurd h (by unfold shE; rw [if_pos hrb]; decide)) (fun h_t18 => ?_)
  refine CW.skip ?_
  refine QE.next ?_
  refine CW.seq ?_
  have hlc0 := hlc 0
  refine ST.told 4 rfl (is_eq (y := (a.length : Int)) (by unfold shN; rw [if_pos hrb])) ?_
  refine ST.told 5 rfl (is_eq (y := ((a.getD 0 []).length : Int)) (by unfold shM; rw [if_pos hrb])) ?_
  refine CW.region ?_
  refine WP.s .n (O.mv rfl) ?_
  refine WP.s .n (O.mv rfl) ?_
  refine WP.s .n (O.mul rfl rfl (c := ((a.length : Int) * ((a.getD 0 []).length : Int))) (w64 (by first | omega | (push_cast; rfl)))) ?_
  refine WP.mkE (a.length * (a.getD 0 []).length) .n rfl rfl (by first | omega | (push_cast; rfl)) (by first | omega | (have := hr i (by omega); omega)) Try.underlying27 el31_C z31_C fun b2 => ?_
  refine WP.s .n (O.asg rfl) ?_
  refine WP.nil ?_
  refine QE.next ?_
  refine CW.seq ?_
  refine CW.region ?_
  refine WP.s .n (O.asg rfl) ?_
  refine WP.nil ?_
  refine QE.next ?_
  refine CW.seq ?_
  refine CW.seq ?_
  refine CW.region ?_
  refine WP.s .n (O.mv rfl) ?_
  refine WP.s .n (O.mv rfl) ?_
  refine WP.nil ?_
  refine QE.next ?_
  refine CW.block ?_
  refine ST.nilrow 27 kVal ?_
  rw [show (sv b2 0 (a.length * (a.getD 0 []).length)) = (sv b2 (0 * a.length) (a.length * (a.getD 0 []).length)) from (by rw [Nat.zero_mul])]
  refine ST.obtold 1 rfl (OB.row_eq (ys := (turnF a (0 * a.length))) (by rw [Nat.zero_mul]; rfl)) ?_
  refine ST.oimp (OImp.ix [1, 0] (by decide) rfl) ?_
  refine CW.loop2 (fun (k : Nat) (v : Value) => k ≤ (a.getD 0 []).length) (fun (k : Nat) (v : Value) => [(0, (kSl (kSl kZ)).is a), (4, (kInt .i64).is (a.length : Int)), (5, (kInt .i64).is ((a.getD 0 []).length : Int)), (7, VP.ex (sv b2 (k * a.length) (a.length * (a.getD 0 []).length))), (8, VP.ex v), (24, (kInt .i64).is ((a.getD 0 []).length : Int)), (25, (kInt .i64).is (k : Int))]) (fun (k : Nat) (v : Value) => [OB.row (sv b2 (k * a.length) (a.length * (a.getD 0 []).length)) 31 kC (turnF a (k * a.length)), OB.row v 27 kVal (winL a b2 k)]) (fun (k : Nat) (v : Value) => (a.getD 0 []).length - k) 0 (.slice none 0 0) (by first | omega | (push_cast; rfl)) (Imp.cons rfl (Imp.cons rfl (Imp.cons rfl (Imp.cons rfl (Imp.cons rfl (Imp.cons rfl (Imp.consLe rfl (is_eq (y := (0 : Int)) (by first | rfl | omega | assumption)) Imp.nil))))))) (OImp.os (OS.keep (OS.keepLe (OB.row_eq (by first | rfl | omega | assumption)) OS.nil))) ?_
  intro k v hk
  refine CW.seq ?_
  refine CW.region ?_
  refine WP.s .n (O.lt rfl rfl) ?_
  refine WP.nil ?_
  refine QE.next ?_
  refine CW.seq ?_
  refine CW.condD rfl (fun h_t26 => ?_) (fun h_t26 => ?_)
  · refine CW.skip ?_
    refine QE.next ?_
    refine CW.seq ?_
    refine CW.block ?_
    refine CW.seq ?_
    refine CW.region ?_
    refine WP.s .n (O.mv rfl) ?_
    refine WP.s .n (O.asg rfl) ?_
    refine WP.nil ?_
    refine QE.next ?_
    refine CW.seq ?_
    refine CW.seq ?_
    refine CW.region ?_
    refine WP.s .n (O.mv rfl) ?_
    refine WP.s .n (O.mv rfl) ?_
    refine WP.nil ?_
    refine QE.next ?_
    refine CW.block ?_
    rw [show (k * a.length) = (k * a.length + 0) from rfl]
    refine CW.loop (fun (i : Nat) => i ≤ a.length) (fun (i : Nat) => [(0, (kSl (kSl kZ)).is a), (4, (kInt .i64).is (a.length : Int)), (5, (kInt .i64).is ((a.getD 0 []).length : Int)), (7, VP.ex (sv b2 (k * a.length + i) (a.length * (a.getD 0 []).length))), (8, VP.ex v), (9, (kInt .i64).is (k : Int)), (24, (kInt .i64).is ((a.getD 0 []).length : Int)), (25, (kInt .i64).is (k : Int)), (28, (kInt .i64).is (a.length : Int)), (29, (kInt .i64).is (i : Int))]) (fun (i : Nat) => [OB.row (sv b2 (k * a.length + i) (a.length * (a.getD 0 []).length)) 31 kC (turnF a (k * a.length + i)), OB.row v 27 kVal (winL a b2 k)]) (fun (i : Nat) => a.length - i) 0 (by first | omega | (push_cast; rfl)) (Imp.cons rfl (Imp.cons rfl (Imp.cons rfl (Imp.cons rfl (Imp.cons rfl (Imp.cons rfl (Imp.cons rfl (Imp.cons rfl (Imp.cons rfl (Imp.consLe rfl (is_eq (y := (0 : Int)) (by first | rfl | omega | assumption)) Imp.nil)))))))))) (OImp.refl _) ?_
    intro i hi
    refine CW.seq ?_
    refine CW.region ?_
    refine WP.s .n (O.lt rfl rfl) ?_
    refine WP.nil ?_
    refine QE.next ?_
    refine CW.seq ?_
    refine CW.condD rfl (fun h_t30 => ?_) (fun h_t30 => ?_)
    · refine CW.skip ?_
      refine QE.next ?_
      refine CW.seq ?_
      refine CW.block ?_
      refine CW.seq ?_
      refine CW.region ?_
      refine WP.s .n (O.mv rfl) ?_
      refine WP.s .n (O.asg rfl) ?_
      refine WP.nil ?_
      refine QE.next ?_
      have hroom : (k + 1) * a.length ≤ a.length * (a.getD 0 []).length := by rw [Nat.mul_comm a.length]; exact Nat.mul_le_mul_right _ (by omega)
      have hsm_ : (k + 1) * a.length = k * a.length + a.length := Nat.succ_mul k a.length
      have hsz_ : ((k : Int) + 1) * (a.length : Int) = (k : Int) * (a.length : Int) + (a.length : Int) := by rw [Int.add_mul, Int.one_mul]
      refine CW.region ?_
      refine WP.s .n (O.mv rfl) ?_
      refine WP.s .n (O.mv rfl) ?_
      refine WP.s .n (O.mv rfl) ?_
      refine WP.s .n (O.ix i rfl rfl Try.underlying67 ty27 rfl (v := (a.getD i [])) (gd [] (by first | omega | (have := hr i (by omega); omega)))) ?_
      refine WP.s .n (O.ldP rfl ty27) ?_
      refine WP.s .n (O.mv rfl) ?_
      refine WP.s .n (O.ix k rfl rfl Try.underlying27 ty31 rfl (v := ((a.getD i []).getD k 0)) (gd 0 (by first | omega | (have := hr i (by omega); omega)))) ?_
      refine WP.s .n (O.ldP rfl ty31) ?_
      refine WP.s .n (O.fn fn146 (evs.c rfl evs.nil) (c_zint_Form ((a.getD i []).getD k 0))) ?_
      refine WP.s .n (O.bs Try.underlying27 el31_C (evl.c rfl evl.n) rfl (by decide)) ?_
      refine WP.apE 0 (k * a.length + (i + 1)) .n rfl rfl rfl (VP.le_refl _) Try.underlying27 el31_C (by (first | omega | (simp only [List.length_cons, List.length_nil, turnF_len, winL_len]; omega))) (by simp) (by (first | omega | (simp only [List.length_cons, List.length_nil, turnF_len, winL_len]; omega))) (by (first | omega | (simp only [List.length_cons, List.length_nil, turnF_len, winL_len]; omega))) ?_
      refine WP.s .n (O.asg rfl) ?_
      refine WP.nil ?_
      refine QE.blkN ?_
      refine QE.next ?_
      refine CW.region ?_
      refine WP.s .n (O.add rfl rfl (c := ((i : Int) + 1)) (w64 (by first | omega | (push_cast; rfl)))) ?_
      refine WP.s .n (O.mv rfl) ?_
      refine WP.nil ?_
      refine ST.obtold 0 rfl (OB.row_eq (ys := (turnF a (k * a.length + (i + 1)))) (turnF_app (by omega))) ?_
      exact QE.round (i + 1) (by first | omega | (push_cast; rfl)) (by first | omega | (push_cast; rfl)) (Imp.cons rfl (Imp.cons rfl (Imp.cons rfl (Imp.cons rfl (Imp.cons rfl (Imp.cons rfl (Imp.cons rfl (Imp.cons rfl (Imp.cons rfl (Imp.consLe rfl (is_eq (y := (((i + 1) : Nat) : Int)) (by first | rfl | omega | assumption)) Imp.nil)))))))))) (OImp.refl _)
    · refine CW.exit ?_
      refine QE.thenE ?_
      refine QE.thenE ?_
      refine QE.blkH ?_
      refine QE.next ?_
      have hroom : (k + 1) * a.length ≤ a.length * (a.getD 0 []).length := by rw [Nat.mul_comm a.length]; exact Nat.mul_le_mul_right _ (by omega)
      rw [show (k * a.length + i) = ((k + 1) * a.length) from (by rw [Nat.succ_mul]; omega)]
      have hsm_ : (k + 1) * a.length = k * a.length + a.length := Nat.succ_mul k a.length
      have hsz_ : ((k : Int) + 1) * (a.length : Int) = (k : Int) * (a.length : Int) + (a.length : Int) := by rw [Int.add_mul, Int.one_mul]
      refine CW.region ?_
      refine WP.s .n (O.mv rfl) ?_
      refine WP.s .n (O.mv rfl) ?_
      refine WP.s .n (O.mv rfl) ?_
      refine WP.s .n (O.mv rfl) ?_
      refine WP.s .n (O.mul rfl rfl (c := ((k : Int) * (a.length : Int))) (w64 (by first | omega | (push_cast; rfl)))) ?_
      refine WP.s .n (O.mv rfl) ?_
      refine WP.s .n (O.add rfl rfl (c := ((k : Int) + 1)) (w64 (by first | omega | (push_cast; rfl)))) ?_
      refine WP.s .n (O.mv rfl) ?_
      refine WP.s .n (O.mul rfl rfl (c := (((k : Int) + 1) * (a.length : Int))) (w64 (by first | omega | (push_cast; rfl)))) ?_
      refine WP.s .n (O.mv rfl) ?_
      refine WP.s .n (O.add rfl rfl (c := ((k : Int) + 1)) (w64 (by first | omega | (push_cast; rfl)))) ?_
      refine WP.s .n (O.mv rfl) ?_
      refine WP.s .n (O.mul rfl rfl (c := (((k : Int) + 1) * (a.length : Int))) (w64 (by first | omega | (push_cast; rfl)))) ?_
      refine WP.s .n (O.slE (k * a.length) ((k + 1) * a.length) rfl rfl rfl rfl Try.underlying27 ty31 (by first | omega | (push_cast; rfl) | (push_cast; omega)) (by first | omega | (push_cast; rfl) | (push_cast; omega)) (by first | omega | (push_cast; rfl) | (push_cast; omega)) (by first | omega | (have := hr i (by omega); omega)) (by first | omega | (have := hr i (by omega); omega))) ?_
      have hcell_ : ((wv b2 ((k * a.length) * 2) (((k + 1) * a.length) - (k * a.length)))).oneCell' = true := rfl
      refine WP.s .n (O.bs Try.underlying67 el27_val (evl.l rfl (ex_val (by first | rfl | assumption)) evl.n) rfl (by decide)) ?_
      refine WP.ap 1 .n rfl rfl rfl (VP.le_refl _) Try.underlying67 el27_val (by (first | omega | (simp only [List.length_cons, List.length_nil, turnF_len, winL_len]; omega))) fun v3 => ?_
      refine WP.s .n (O.asg rfl) ?_
      refine WP.nil ?_
      refine QE.blkN ?_
      refine QE.next ?_
      refine CW.region ?_
      refine WP.s .n (O.add rfl rfl (c := ((k : Int) + 1)) (w64 (by first | omega | (push_cast; rfl)))) ?_
      refine WP.s .n (O.mv rfl) ?_
      refine WP.nil ?_
      refine ST.obtold 1 rfl (OB.row_eq (ys := (winL a b2 (k + 1))) (winL_app a b2 k)) ?_
      exact QE.round2 (k + 1) v3 (by first | omega | (push_cast; rfl)) (by first | omega | (push_cast; rfl)) (Imp.cons rfl (Imp.cons rfl (Imp.cons rfl (Imp.cons rfl (Imp.cons rfl (Imp.cons rfl (Imp.consLe rfl (is_eq (y := (((k + 1) : Nat) : Int)) (by first | rfl | omega | assumption)) Imp.nil))))))) (OImp.refl _)
  · refine CW.exit ?_
    refine QE.thenE ?_
    refine QE.thenE ?_
    refine QE.blkH ?_
    refine QE.next ?_
    refine CW.seq ?_
    rw [show k * a.length = (a.getD 0 []).length * a.length from (by rw [show k = (a.getD 0 []).length by omega])]
    refine ST.obtold 1 rfl (OB.row_eq (ys := (winL a b2 (a.getD 0 []).length)) (by rw [show k = (a.getD 0 []).length by omega])) ?_
    refine ST.freezeW (xss := (turnV a)) 0 0 rfl rfl (by rw [winL_len, turnV_len]) (winL_at h0) (.keep (i := 0) rfl (.keep (i := 4) rfl (.keep (i := 5) rfl (.hit (i := 8) rfl (.keep (i := 24) rfl (.keep (i := 25) rfl (.keep (i := 26) rfl .nil))))))) ?_
    refine CW.region ?_
    refine WP.s .n (O.mv rfl) ?_
    refine WP.s .n (O.asg rfl) ?_
    refine WP.s .n (O.asg rfl) ?_
    refine WP.nil ?_
    refine QE.next ?_
    refine CW.ret ?_
    exact QE.done (.inl rfl) rfl (ResOk.t rfl (ResOk.t rfl ResOk.nil)) (OImp.sub (List.nil_sublist _)) ⟨rfl, rfl⟩

set_option maxRecDepth 20000 in
set_option maxHeartbeats 1000000 in
theorem c_mat_Product1 (n : Nat) (r : List Int) (b : List (List Int)) (hx : SzL n r) (hb : SzM n b) (hr : RectL b) (hl : b.length ≤ r.length) (hn : n + n + b.length ≤ 549755813000) : Fn Try.prog 243 [(kSl kZ).is r, VP.pim (kSl (kSl kZ)) b] ((kSl kC).is (combV r b)) := by
  refine Con.enter Try.func243 rfl rfl fun m w => ?_
  refine CW.seq ?_
  refine CW.region ?_
  refine WP.s .n (O.asg rfl) ?_
  refine WP.nil ?_
  refine QE.next ?_
  refine CW.seq ?_
  refine CW.region ?_
  refine WP.s .n (O.mv rfl) ?_
  refine WP.s .n (O.ldP rfl ty67) ?_
  refine WP.s .n (O.fn fn141 (evs.c rfl (evs.c rfl evs.nil)) (c_mat_combine n r b (by assumption) (by assumption) (by assumption) (by assumption) (by assumption))) ?_
  refine WP.s .n (O.asg rfl) ?_
  refine WP.nil ?_
  refine QE.next ?_
  refine CW.ret ?_
  exact QE.done (.inl rfl) rfl (ResOk.t rfl ResOk.nil) (OImp.sub (List.nil_sublist _)) ⟨rfl, rfl⟩

set_option maxRecDepth 20000 in
set_option maxHeartbeats 1000000 in
theorem c_mat_Product (n q : Nat) (x b : List (List Int)) (hx : SzM n x) (hb : SzM n b) (ux : CU q x) (ub : CU q b) (h0 : 0 < q) (h12 : q ≤ 12) (hn : n ≤ 274877906000) : Fn Try.prog 194 [(kSl (kSl kZ)).is x, (kSl (kSl kZ)).is b] (VP.tup [(kSl (kSl kC)).is (prodV x b), (kInt .i64).is 0]) := by
  refine Con.enter Try.func194 rfl rfl fun m w => ?_
  have hqx := ux.sh h0
  have hqb := ub.sh h0
  have hlx := ux.len
  have hlb := ub.len
  refine CW.seq ?_
  refine CW.region ?_
  refine WP.bx .n rfl fun b1 => ?_
  refine WP.s .n (O.asg rfl) ?_
  refine WP.s .n (O.asg rfl) ?_
  refine WP.nil ?_
  refine QE.next ?_
  refine CW.seq ?_
  refine CW.region ?_
  refine WP.s .n (O.mv rfl) ?_
  refine WP.s .n (O.fn fn135 (evs.c rfl evs.nil) (c_mat_Shape x)) ?_
  refine WP.s .n (O.mv rfl) ?_
  refine WP.s .n (O.ext rfl rfl) ?_
  refine WP.s .n (O.ext rfl rfl) ?_
  refine WP.s .n (O.ext rfl rfl) ?_
  refine WP.s .n (O.asg rfl) ?_
  refine WP.s .n (O.asg rfl) ?_
  refine WP.s .n (O.asg rfl) ?_
  refine WP.nil ?_
  refine QE.next ?_
  refine CW.seq ?_
  refine CW.region ?_
  refine WP.s .n (O.ld rfl (mem_at 0 rfl) (Lens.id _) ty67 rfl) ?_
  refine WP.s .n (O.fn fn135 (evs.c rfl evs.nil) (c_mat_Shape b)) ?_
  refine WP.s .n (O.mv rfl) ?_
  refine WP.s .n (O.ext rfl rfl) ?_
  refine WP.s .n (O.ext rfl rfl) ?_
  refine WP.s .n (O.ext rfl rfl) ?_
  refine WP.s .n (O.asg rfl) ?_
  refine WP.s .n (O.asg rfl) ?_
  refine WP.s .n (O.asg rfl) ?_
  refine WP.nil ?_
  refine QE.next ?_
  refine CW.seq ?_
  refine CW.seq ?_
  refine CW.region ?_
  refine WP.s .n (O.mv rfl) ?_
  refine WP.s .n (O.ne rfl rfl) ?_
  refine WP.s .n (O.mv rfl) ?_
  refine WP.splitD 26 rfl (fun h => absurd h (fun h => h hqx.2.2)) (fun h_t26 => ?_)
  refine WP.s (.g rfl rfl) (O.mv rfl) ?_
  refine WP.s (.g rfl rfl) (O.ne rfl rfl) ?_
  refine WP.s .n (O.pickF rfl rfl) ?_
  refine WP.s .n (O.mv rfl) ?_
  refine WP.splitD 30 rfl (fun h => absurd h (fun h => h hqb.2.2)) (fun h_t30 => ?_)
  refine WP.s (.g rfl rfl) (O.mv rfl) ?_
  refine WP.s (.g rfl rfl) (O.gt rfl rfl) ?_
  refine WP.s (.g rfl rfl) (O.mv rfl) ?_
  refine WP.splitD 33 rfl (fun h_t33 => ?_) (fun h => absurd (by rw [hqx.1]; omega) h)
  refine WP.s (.g rfl rfl) (O.mv rfl) ?_
  refine WP.s (.g rfl rfl) (O.mv rfl) ?_
  refine WP.s (.g rfl rfl) (O.ne rfl rfl) ?_
  refine WP.s (.g rfl rfl) (O.pickT rfl rfl) ?_
  refine WP.s .n (O.pickF rfl rfl) ?_
  refine WP.nil ?_
  refine QE.next ?_
  refine CW.condD rfl (fun h => absurd h (fun h => h (by rw [hqx.2.1, hqb.1]))) (fun h_t38 => ?_)
  refine CW.skip ?_
  refine QE.next ?_
  refine CW.seq ?_
  refine ST.freezeb 0 rfl (.keep (i := 0) rfl (.keep (i := 1) rfl (.hit (i := 3) rfl (.keep (i := 4) rfl (.keep (i := 5) rfl (.keep (i := 6) rfl (.keep (i := 7) rfl (.keep (i := 8) rfl (.keep (i := 9) rfl (.keep (i := 10) rfl (.keep (i := 11) rfl (.keep (i := 12) rfl (.keep (i := 13) rfl (.keep (i := 14) rfl (.keep (i := 15) rfl (.keep (i := 16) rfl (.keep (i := 17) rfl (.keep (i := 18) rfl (.keep (i := 19) rfl (.keep (i := 20) rfl (.keep (i := 21) rfl (.keep (i := 22) rfl (.keep (i := 23) rfl (.keep (i := 24) rfl (.keep (i := 25) rfl (.keep (i := 26) rfl (.keep (i := 27) rfl (.keep (i := 28) rfl (.keep (i := 29) rfl (.keep (i := 30) rfl (.keep (i := 31) rfl (.keep (i := 32) rfl (.keep (i := 33) rfl (.keep (i := 34) rfl (.keep (i := 35) rfl (.keep (i := 36) rfl (.keep (i := 37) rfl (.keep (i := 38) rfl .nil)))))))))))))))))))))))))))))))))))))) ?_
  refine CW.region ?_
  refine WP.s .n (O.mv rfl) ?_
  refine WP.s .n (O.mkf (evs.c rfl evs.nil)) ?_
  refine WP.s .n (O.fn fn136 (evs.c rfl (evs.c rfl evs.nil)) (c_mat_eachRR 243 [VP.pim (kSl (kSl kZ)) b] (fun r => combV r b) x fn243 (fun r hr => c_mat_Product1 n r b (SzM_mem hx hr) hb ub.rr.1 (by obtain ⟨i, hi, rfl⟩ := List.getElem_of_mem hr; have := ux.row i (by omega); rw [List.getD_eq_getElem?_getD, List.getElem?_eq_getElem hi] at this; simp at this; omega) (by omega)))) ?_
  refine WP.s .n (O.asg rfl) ?_
  refine WP.s .n (O.asg rfl) ?_
  refine WP.nil ?_
  refine QE.next ?_
  refine CW.ret ?_
  exact QE.done (.inl rfl) rfl (ResOk.tl rfl (is_eq (y := prodV x b) (by first | rfl | omega | assumption)) (ResOk.t rfl ResOk.nil)) (OImp.sub (List.nil_sublist _)) ⟨rfl, rfl⟩

set_option maxRecDepth 20000 in
set_option maxHeartbeats 1000000 in
theorem c_quad_changed (B : Nat) (a u : List (List Int)) (ha : CU a.length a) (hu : CU a.length u) (h0 : 0 < a.length) (h12 : a.length ≤ 12) (za : SzM B a) (zu : SzM B u) (hB : B ≤ 34359738368) : Fn Try.prog 143 [(kSl (kSl kZ)).is a, (kSl (kSl kZ)).is u] ((kSl (kSl kC)).is (chgV a u)) := by
  refine Con.enter Try.func143 rfl rfl fun m w => ?_
  have hul := hu.len
  have hu0 := hu.row 0 h0
  have hz1 : SzM (B + B + 12) (prodV u a) := (prodV_Sz zu za).up (by omega)
  have hz2 : SzM (B + B + 12) (turnV u) := (turnV_Sz zu).up (by omega)
  have hp1 := CU_prod hu ha
  have ht1 := CU_turn hu
  have hz3 := prodV_Sz hz1 hz2
  have hut := turnV_len u
  refine CW.seq ?_
  refine CW.region ?_
  refine WP.s .n (O.asg rfl) ?_
  refine WP.nil ?_
  refine QE.next ?_
  refine CW.seq ?_
  refine CW.region ?_
  refine WP.s .n (O.mv rfl) ?_
  refine WP.s .n (O.fn fn193 (evs.c rfl evs.nil) (c_mat_Turn u (by first | assumption | omega | exact hu.rr.1 | exact hu.rr.2) (by first | assumption | omega | exact hu.rr.1 | exact hu.rr.2) (by first | assumption | omega | exact hu.rr.1 | exact hu.rr.2) (by first | assumption | omega | exact hu.rr.1 | exact hu.rr.2) (by first | assumption | omega | exact hu.rr.1 | exact hu.rr.2))) ?_
  refine WP.s .n (O.mv rfl) ?_
  refine WP.s .n (O.ext rfl rfl) ?_
  refine WP.s .n (O.ext rfl rfl) ?_
  refine WP.s .n (O.asg rfl) ?_
  refine WP.s .n (O.asg rfl) ?_
  refine WP.nil ?_
  refine QE.next ?_
  refine CW.seq ?_
  refine CW.region ?_
  refine WP.s .n (O.mv rfl) ?_
  refine WP.s .n (O.mv rfl) ?_
  refine WP.s .n (O.fn fn194 (evs.c rfl (evs.c rfl evs.nil)) (c_mat_Product B a.length u a (by first | assumption | omega | exact hu.rr.1 | exact hu.rr.2) (by first | assumption | omega | exact hu.rr.1 | exact hu.rr.2) (by first | assumption | omega | exact hu.rr.1 | exact hu.rr.2) (by first | assumption | omega | exact hu.rr.1 | exact hu.rr.2) (by first | assumption | omega | exact hu.rr.1 | exact hu.rr.2) (by first | assumption | omega | exact hu.rr.1 | exact hu.rr.2) (by first | assumption | omega | exact hu.rr.1 | exact hu.rr.2))) ?_
  refine WP.s .n (O.mv rfl) ?_
  refine WP.s .n (O.ext rfl rfl) ?_
  refine WP.s .n (O.ext rfl rfl) ?_
  refine WP.s .n (O.asg rfl) ?_
  refine WP.s .n (O.asg rfl) ?_
  refine WP.nil ?_
  refine QE.next ?_
  refine CW.seq ?_
  refine CW.region ?_
  refine WP.s .n (O.mv rfl) ?_
  refine WP.s .n (O.mv rfl) ?_
  refine WP.s .n (O.fn fn194 (evs.l rfl (slslC_Z (by first | exact hz1.sm (by omega) | exact hz2.sm (by omega) | exact hz3.sm (by omega))) (evs.l rfl (slslC_Z (by first | exact hz1.sm (by omega) | exact hz2.sm (by omega) | exact hz3.sm (by omega))) evs.nil)) (c_mat_Product (B + B + 12) a.length (prodV u a) (turnV u) (by first | assumption | omega | exact hu.rr.1 | exact hu.rr.2) (by first | assumption | omega | exact hu.rr.1 | exact hu.rr.2) (by first | assumption | omega | exact hu.rr.1 | exact hu.rr.2) (by first | assumption | omega | exact hu.rr.1 | exact hu.rr.2) (by first | assumption | omega | exact hu.rr.1 | exact hu.rr.2) (by first | assumption | omega | exact hu.rr.1 | exact hu.rr.2) (by first | assumption | omega | exact hu.rr.1 | exact hu.rr.2))) ?_
  refine WP.s .n (O.mv rfl) ?_
  refine WP.s .n (O.ext rfl rfl) ?_
  refine WP.s .n (O.ext rfl rfl) ?_
  refine WP.s .n (O.asg rfl) ?_
  refine WP.nil ?_
  refine QE.next ?_
  refine CW.seq ?_
  refine CW.region ?_
  refine WP.s .n (O.mv rfl) ?_
  refine WP.s .n (O.asg rfl) ?_
  refine WP.nil ?_
  refine QE.next ?_
  refine CW.ret ?_
  exact QE.done (.inl rfl) rfl (ResOk.tl rfl (is_eq (y := chgV a u) (by first | rfl | omega | assumption)) ResOk.nil) (OImp.sub (List.nil_sublist _)) ⟨rfl, rfl⟩

set_option maxRecDepth 20000 in
set_option maxHeartbeats 1000000 in
theorem c_quad_Reduce (a : List (List Int)) : Con Try.prog 71 [(kSl (kSl kZ)).is a] [] (fun p Lo => ∃ (R : List (List Int)) (U : List (List Int)), p = VP.tup [(kSl (kSl kC)).is R, (kSl (kSl kC)).is U, (kInt .i64).is (quadE a)] ∧ Lo = [] ∧ redP a R U) := by
  refine Con.enter Try.func71 rfl rfl fun m w => ?_
  refine CW.seq ?_
  refine CW.region ?_
  refine WP.s .n (O.asg rfl) ?_
  refine WP.s .n (O.asg rfl) ?_
  refine WP.s .n (O.asg rfl) ?_
  refine WP.nil ?_
  refine QE.next ?_
  refine CW.seq ?_
  refine CW.seq ?_
  refine CW.region ?_
  refine WP.s .n (O.mv rfl) ?_
  refine WP.s .n (O.fn fn51 (evs.c rfl evs.nil) (c_quad_Valid a)) ?_
  refine WP.s .n (O.asg rfl) ?_
  refine WP.nil ?_
  refine QE.next ?_
  refine CW.seq ?_
  refine CW.region ?_
  refine WP.s .n (O.mv rfl) ?_
  refine WP.s .n (O.ne rfl rfl) ?_
  refine WP.nil ?_
  refine QE.next ?_
  refine CW.condD rfl (fun h_t10 => ?_) (fun h_t10 => ?_)
  · refine CW.seq ?_
    refine CW.region ?_
    refine WP.s .n (O.mv rfl) ?_
    refine WP.s .n (O.asg rfl) ?_
    refine WP.s .n (O.asg rfl) ?_
    refine WP.s .n (O.asg rfl) ?_
    refine WP.nil ?_
    refine QE.next ?_
    refine CW.ret ?_
    refine QE.thenR ?_
    exact QE.done (.inl rfl) rfl (ResOk.tl rfl (nil_le _) (ResOk.tl rfl (nil_le _) (ResOk.t rfl ResOk.nil))) (OImp.refl _) ⟨[], [], rfl, rfl, ⟨fun _ => ⟨rfl, rfl⟩, fun h => absurd h h_t10⟩⟩
  · refine CW.skip ?_
    refine QE.next ?_
    refine CW.seq ?_
    have hE0 : quadE a = 0 := by omega
    obtain ⟨hM, hP⟩ := quad_ok hE0
    obtain ⟨M, hMe, Dm, N, hB, hM1, hD1⟩ := red_LB hM hP
    have hNn := hB.n
    refine CW.region ?_
    refine WP.s .n (O.mv rfl) ?_
    refine WP.call (Li := []) (L := []) .n fn142 (evs.c rfl evs.nil) (c_quad_change a M Dm N hM.n0 hM.z hM.q hM.s hM.n hP hB hM1 hD1) fun p_ Lo_ hp_ => ?_
    obtain ⟨U, rfl, rfl, hxU⟩ := hp_
    refine WP.s .n (O.asg rfl) ?_
    refine WP.nil ?_
    refine QE.next ?_
    refine CW.seq ?_
    have hRU := redU_of hM hP hMe hB hM1 hD1 hxU
    refine CW.region ?_
    refine WP.s .n (O.mv rfl) ?_
    refine WP.s .n (O.mv rfl) ?_
    refine WP.s .n (O.fn fn143 (evs.c rfl (evs.l rfl (slslC_Z (by exact hRU.2.sm (by omega))) evs.nil)) (c_quad_changed (4 * N + 264) a U (sqm_CU hM) hRU.1.u hM.n0 hM.n (hM.z.up (by omega)) (hRU.2.up (by omega)) (by omega))) ?_
    refine WP.s .n (O.mv rfl) ?_
    refine WP.s .n (O.asg rfl) ?_
    refine WP.s .n (O.asg rfl) ?_
    refine WP.s .n (O.asg rfl) ?_
    refine WP.nil ?_
    refine QE.next ?_
    refine CW.ret ?_
    exact QE.done (.inl rfl) rfl (ResOk.t rfl (ResOk.t rfl (ResOk.tl rfl (is_eq (y := quadE a) (by first | rfl | omega | assumption)) ResOk.nil))) (OImp.refl _) ⟨(chgV a U), U, rfl, rfl, ⟨fun h => absurd hE0 h, fun _ => ⟨hRU.1, rfl⟩⟩⟩

end Fw


/- Plain facts: the elimination of a positive form, without fractions. -/
set_option linter.unusedVariables false
set_option linter.unusedSimpArgs false
set_option exponentiation.threshold 400
namespace Fw
open Go

def tabZ (n : Nat) (f : Fi) : List (List Int) := (List.range n).map (fun i => (List.range n).map (f i))
theorem tabZ_len (n f) : (tabZ n f).length = n := by simp [tabZ]
theorem tabZ_row {n f i} (h : i < n) : (tabZ n f).getD i [] = (List.range n).map (f i) := by
  rw [List.getD_eq_getElem?_getD]; simp [tabZ, h]
theorem tabZ_rlen {n f i} (h : i < n) : ((tabZ n f).getD i []).length = n := by rw [tabZ_row h]; simp
theorem tabZ_at {n : Nat} {f : Fi} {i k : Nat} (q : Int) (h : i < n) (hk : k < n) (e : f i k = q) : ((tabZ n f).getD i [])[k]? = some q := by rw [tabZ_row h, ← e]; simp [hk]
theorem tabZ_congr {n} {f g : Fi} (h : ∀ i k, i < n → k < n → f i k = g i k) : tabZ n f = tabZ n g :=
  List.map_congr_left fun i hi => List.map_congr_left fun k hk => h i k (List.mem_range.1 hi) (List.mem_range.1 hk)
theorem tabZ_set {n f i k} (q : Int) (h : i < n) (hk : k < n) : (tabZ n f).set i (((tabZ n f).getD i []).set k q) = tabZ n (updI f i k q) := by
  refine List.ext_getElem? fun x => ?_
  rw [List.getElem?_set]
  by_cases e : i = x
  · subst e
    rw [if_pos rfl, if_pos (by rw [tabZ_len]; exact h), tabZ_row h]
    simp only [tabZ, List.getElem?_map, List.getElem?_range h, Option.map_some]
    congr 1
    refine List.ext_getElem? fun y => ?_
    rw [List.getElem?_set]
    by_cases e2 : k = y
    · subst e2; simp [hk, updI]
    · rw [if_neg e2]
      simp only [List.getElem?_map]
      by_cases hy : y < n
      · rw [List.getElem?_range hy]; simp [updI, show ¬ y = k from fun h => e2 h.symm]
      · rw [List.getElem?_eq_none (by simp; omega)]; rfl
  · rw [if_neg e]
    simp only [tabZ, List.getElem?_map]
    by_cases hx : x < n
    · rw [List.getElem?_range hx]
      simp only [Option.map_some]
      congr 1
      refine List.map_congr_left fun y _ => ?_
      simp [updI, show ¬ x = i from fun h => e h.symm]
    · rw [List.getElem?_eq_none (by simp; omega)]; rfl
theorem tabZ_mat {a : List (List Int)} (h : CU a.length a) : tabZ a.length (matF a) = a := by
  refine List.ext_getElem? fun x => ?_
  by_cases hx : x < a.length
  · simp only [tabZ, List.getElem?_map, List.getElem?_range hx, Option.map_some]
    rw [List.getElem?_eq_getElem hx]
    congr 1
    have hr := h.row x hx
    rw [List.getD_eq_getElem?_getD, List.getElem?_eq_getElem hx] at hr
    simp only [Option.getD_some] at hr
    refine List.ext_getElem? fun y => ?_
    by_cases hy : y < a.length
    · simp only [List.getElem?_map, List.getElem?_range hy, Option.map_some]
      rw [List.getElem?_eq_getElem (by omega)]
      simp only [matF, List.getD_eq_getElem?_getD, List.getElem?_eq_getElem hx, Option.getD_some]
      rw [List.getElem?_eq_getElem (by omega)]; rfl
    · rw [List.getElem?_eq_none (by simp; omega), List.getElem?_eq_none (by omega)]
  · rw [List.getElem?_eq_none (by rw [tabZ_len]; omega), List.getElem?_eq_none (by omega)]
/-- how far the elimination has come: column c, row i, from q on -/
def bF (G : Fi) (c i q : Nat) : Fi := fun x k => if x ≤ c then uE G x x k else if x < i ∨ (x = i ∧ q ≤ k) then uE G (c + 1) x k else uE G c x k
theorem uE_sy {G : Fi} (hs : SymG G) : ∀ k i j, uE G k i j = uE G k j i
  | 0, i, j => hs i j
  | k + 1, i, j => by
    rw [uE_succ, uE_succ, uE_sy hs k i j, Int.mul_comm (uE G k i k)]
theorem uE_low {G : Fi} (hs : SymG G) : ∀ k i j, j < k → uE G k i j = 0
  | k + 1, i, j, h => by
    rw [uE_succ]
    by_cases e : j = k
    · subst e
      have : uD G (j + 1) = uE G j j j := rfl
      rw [this, Int.mul_comm, Int.sub_self, Int.zero_fdiv]
    · rw [uE_low hs k i j (by omega), uE_low hs k j k |> fun _ => uE_sy hs k j k, uE_low hs k k j (by omega), Int.mul_zero, Int.mul_zero, Int.sub_zero, Int.zero_fdiv]
section
variable {G : Fi} {n : Nat}
theorem bF_0 : tabZ n (bF G 0 1 n) = tabZ n G := tabZ_congr fun x k hx hk => by
  unfold bF
  by_cases e : x ≤ 0
  · rw [if_pos e, show x = 0 by omega]; rfl
  · rw [if_neg e, if_neg (by omega)]; rfl
/-- the next row -/
theorem bF_row {c i : Nat} (hs : SymG G) (hi : c < i) : tabZ n (bF G c i c) = tabZ n (bF G c (i + 1) n) := tabZ_congr fun x k hx hk => by
  unfold bF
  by_cases e : x ≤ c
  · rw [if_pos e, if_pos e]
  · rw [if_neg e, if_neg e]
    by_cases e2 : x < i
    · rw [if_pos (Or.inl e2), if_pos (Or.inl (by omega))]
    · by_cases e3 : x = i
      · subst e3
        by_cases e4 : c ≤ k
        · rw [if_pos (Or.inr ⟨rfl, e4⟩), if_pos (Or.inl (by omega))]
        · rw [if_neg (by omega), if_pos (Or.inl (by omega)), uE_low hs c x k (by omega), uE_low hs (c + 1) x k (by omega)]
      · rw [if_neg (by omega), if_neg (by omega)]
/-- the next column -/
theorem bF_col {c i : Nat} (hi : n ≤ i) : tabZ n (bF G c i n) = tabZ n (bF G (c + 1) (c + 2) n) := tabZ_congr fun x k hx hk => by
  unfold bF
  by_cases e : x ≤ c
  · rw [if_pos e, if_pos (by omega)]
  · rw [if_neg e, if_pos (Or.inl (by omega))]
    by_cases e2 : x ≤ c + 1
    · rw [if_pos e2, show x = c + 1 by omega]
    · rw [if_neg e2, if_neg (by omega)]
theorem bF_set {c i q : Nat} (hi : c < i) (hq : 0 < q) : updI (bF G c i q) i (q - 1) (uE G (c + 1) i (q - 1)) = bF G c i (q - 1) := by
  funext x k
  unfold updI bF
  by_cases e : x = i
  · subst e
    by_cases e2 : k = q - 1
    · subst e2; rw [if_pos ⟨rfl, rfl⟩, if_neg (by omega), if_pos (Or.inr ⟨rfl, Nat.le_refl _⟩)]
    · rw [if_neg (fun h => e2 h.2)]
      simp only [show ¬ x ≤ c from by omega, if_false]
      by_cases e3 : q ≤ k
      · rw [if_pos (Or.inr ⟨trivial, e3⟩), if_pos (Or.inr ⟨trivial, by omega⟩)]
      · rw [if_neg (by omega), if_neg (by omega)]
  · rw [if_neg (fun h => e h.1)]
    by_cases e2 : x ≤ c
    · rw [if_pos e2, if_pos e2]
    · rw [if_neg e2, if_neg e2]
      by_cases e3 : x < i
      · rw [if_pos (Or.inl e3), if_pos (Or.inl e3)]
      · rw [if_neg (by omega), if_neg (by omega)]
theorem bF_top {c i q k : Nat} : bF G c i q c k = uE G c c k := if_pos (Nat.le_refl c)
theorem bF_now {c i q k : Nat} (hi : c < i) (hk : k < q) : bF G c i q i k = uE G c i k := by
  unfold bF; rw [if_neg (by omega), if_neg (by omega)]
theorem bF_new {c i k : Nat} (hs : SymG G) : (uE G c c c * uE G c i k - uE G c i c * uE G c c k).fdiv (uD G c) = uE G (c + 1) i k := by
  rw [uE_succ, uE_sy hs c k c]; rfl
end
/-- a positive form's numbers are not too great -/
structure DetB (b : List (List Int)) (B : Nat) : Prop where
  u : CU b.length b
  n0 : 0 < b.length
  n : b.length ≤ 12
  s : SymG (matF b)
  p : PosU (matF b) b.length
  z : ∀ c i k, c ≤ b.length → c ≤ i → Sz B (uE (matF b) c i k)
  d : ∀ c, c ≤ b.length → Sz B (uD (matF b) c)
  B : B ≤ 4294967296
theorem detB_of {b : List (List Int)} {e : Nat} (u : CU b.length b) (n0 : 0 < b.length) (n : b.length ≤ 12) (s : SymG (matF b)) (p : PosU (matF b) b.length) (hz : ∀ i j, Sz e (matF b i j)) (he : e ≤ 1000) : DetB b 4100097 :=
  ⟨u, n0, n, s, p, fun c i k hc hi => by
    by_cases h : c ≤ k
    · have h2 := szU_le e (show c ≤ 12 by omega)
      exact (uE_Sz s hz p c hc i k hi h).up (by omega)
    · rw [uE_low s c i k (by omega)]; exact Sz.zero _, fun c hc => by
    have h2 := szU_le e (show c ≤ 12 by omega)
    exact (uD_Sz s hz p c hc).up (by omega), by omega⟩
end Fw


/- Determinants of positive forms. -/
set_option linter.unusedVariables false
set_option linter.unusedSimpArgs false
set_option exponentiation.threshold 400
namespace Fw
open Go Go.Proofs

set_option maxRecDepth 20000 in
set_option maxHeartbeats 1000000 in
theorem c_elim_asked (b : List (List Int)) (u : CU b.length b) (h0 : 0 < b.length) (h12 : b.length ≤ 12) : Fn Try.prog 195 [(kSl (kSl kZ)).is b] (VP.tup [(kInt .i64).is (b.length : Int), (kInt .i64).is (b.length : Int), (kInt .i64).is 0]) := by
  refine Con.enter Try.func195 rfl rfl fun m w => ?_
  have hsh := u.sh h0
  refine CW.seq ?_
  refine CW.region ?_
  refine WP.s .n (O.asg rfl) ?_
  refine WP.s .n (O.asg rfl) ?_
  refine WP.s .n (O.asg rfl) ?_
  refine WP.nil ?_
  refine QE.next ?_
  refine CW.seq ?_
  refine CW.region ?_
  refine WP.s .n (O.mv rfl) ?_
  refine WP.s .n (O.fn fn135 (evs.c rfl evs.nil) (c_mat_Shape b)) ?_
  refine WP.s .n (O.mv rfl) ?_
  refine WP.s .n (O.ext rfl rfl) ?_
  refine WP.s .n (O.ext rfl rfl) ?_
  refine WP.s .n (O.ext rfl rfl) ?_
  refine WP.s .n (O.asg rfl) ?_
  refine WP.s .n (O.asg rfl) ?_
  refine WP.s .n (O.asg rfl) ?_
  refine WP.nil ?_
  refine QE.next ?_
  refine CW.seq ?_
  refine CW.seq ?_
  refine CW.region ?_
  refine WP.s .n (O.mv rfl) ?_
  refine WP.s .n (O.ne rfl rfl) ?_
  refine WP.nil ?_
  refine QE.next ?_
  refine CW.condD rfl (fun h => absurd h (fun h => h hsh.2.2)) (fun h_t15 => ?_)
  refine CW.skip ?_
  refine QE.next ?_
  refine CW.seq ?_
  refine CW.seq ?_
  refine CW.region ?_
  refine WP.s .n (O.mv rfl) ?_
  refine WP.s .n (O.gt rfl rfl) ?_
  refine WP.s .n (O.mv rfl) ?_
  refine WP.splitD 19 rfl (fun h => absurd h (by rw [hsh.1]; omega)) (fun h_t19 => ?_)
  refine WP.s (.g rfl rfl) (O.mv rfl) ?_
  refine WP.s (.g rfl rfl) (O.gt rfl rfl) ?_
  refine WP.s .n (O.pickF rfl rfl) ?_
  refine WP.nil ?_
  refine QE.next ?_
  refine CW.condD rfl (fun h => absurd h (by rw [hsh.2.1]; omega)) (fun h_t22 => ?_)
  refine CW.skip ?_
  refine QE.next ?_
  refine CW.seq ?_
  refine CW.region ?_
  refine WP.s .n (O.mv rfl) ?_
  refine WP.s .n (O.mv rfl) ?_
  refine WP.s .n (O.asg rfl) ?_
  refine WP.s .n (O.asg rfl) ?_
  refine WP.s .n (O.asg rfl) ?_
  refine WP.nil ?_
  refine QE.next ?_
  refine CW.ret ?_
  refine ST.told 2 rfl (is_eq (y := (b.length : Int)) hsh.1) ?_
  refine ST.told 3 rfl (is_eq (y := (b.length : Int)) hsh.2.1) ?_
  exact QE.done (.inl rfl) rfl (ResOk.t rfl (ResOk.t rfl (ResOk.t rfl ResOk.nil))) (OImp.sub (List.nil_sublist _)) ⟨rfl, rfl⟩

set_option maxRecDepth 20000 in
set_option maxHeartbeats 1000000 in
theorem c_elim_square (b : List (List Int)) (u : CU b.length b) (h0 : 0 < b.length) (h12 : b.length ≤ 12) : Fn Try.prog 144 [(kSl (kSl kZ)).is b] (VP.tup [(kInt .i64).is (b.length : Int), (kInt .i64).is 0]) := by
  refine Con.enter Try.func144 rfl rfl fun m w => ?_
  refine CW.seq ?_
  refine CW.region ?_
  refine WP.s .n (O.asg rfl) ?_
  refine WP.s .n (O.asg rfl) ?_
  refine WP.nil ?_
  refine QE.next ?_
  refine CW.seq ?_
  refine CW.region ?_
  refine WP.s .n (O.mv rfl) ?_
  refine WP.s .n (O.fn fn195 (evs.c rfl evs.nil) (c_elim_asked b (by assumption) (by assumption) (by assumption))) ?_
  refine WP.s .n (O.mv rfl) ?_
  refine WP.s .n (O.ext rfl rfl) ?_
  refine WP.s .n (O.ext rfl rfl) ?_
  refine WP.s .n (O.ext rfl rfl) ?_
  refine WP.s .n (O.asg rfl) ?_
  refine WP.s .n (O.asg rfl) ?_
  refine WP.s .n (O.asg rfl) ?_
  refine WP.nil ?_
  refine QE.next ?_
  refine CW.seq ?_
  refine CW.seq ?_
  refine CW.region ?_
  refine WP.s .n (O.mv rfl) ?_
  refine WP.s .n (O.eq rfl rfl) ?_
  refine WP.s .n (O.mv rfl) ?_
  refine WP.splitD 15 rfl (fun h_t15 => ?_) (fun h => absurd rfl h)
  refine WP.s (.g rfl rfl) (O.mv rfl) ?_
  refine WP.s (.g rfl rfl) (O.mv rfl) ?_
  refine WP.s (.g rfl rfl) (O.ne rfl rfl) ?_
  refine WP.s .n (O.pickT rfl rfl) ?_
  refine WP.nil ?_
  refine QE.next ?_
  refine CW.condD rfl (fun h => absurd h (fun h => h rfl)) (fun h_t19 => ?_)
  refine CW.skip ?_
  refine QE.next ?_
  refine CW.seq ?_
  refine CW.region ?_
  refine WP.s .n (O.mv rfl) ?_
  refine WP.s .n (O.mv rfl) ?_
  refine WP.s .n (O.asg rfl) ?_
  refine WP.s .n (O.asg rfl) ?_
  refine WP.nil ?_
  refine QE.next ?_
  refine CW.ret ?_
  exact QE.done (.inl rfl) rfl (ResOk.t rfl (ResOk.t rfl ResOk.nil)) (OImp.sub (List.nil_sublist _)) ⟨rfl, rfl⟩

set_option maxRecDepth 20000 in
set_option maxHeartbeats 1000000 in
theorem c_elim_copied (b : List (List Int)) (u : CU b.length b) : Con Try.prog 244 [(kSl (kSl kZ)).is b] [] (fun p Lo => ∃ (v : Value) (vs : List Value), p = VP.ex v ∧ Lo = [OB.row v 27 kVal vs, OB.fam vs 31 kZ b] ∧ vs.length = b.length) := by
  refine Con.enter Try.func244 rfl rfl fun m w => ?_
  refine ST.fact (i := 0) rfl sl_len fun hB => ?_
  refine ST.fact (i := 0) rfl slsl_len fun hlc => ?_
  refine CW.seq ?_
  refine CW.region ?_
  refine WP.s .n (O.asg rfl) ?_
  refine WP.nil ?_
  refine QE.next ?_
  refine CW.seq ?_
  refine CW.region ?_
  refine WP.s .n (O.mv rfl) ?_
  refine WP.s .n (O.lenS rfl Try.underlying67) ?_
  refine WP.mk b.length .n rfl rfl rfl (by first | omega | (have := hlc i; omega) | (simp; omega)) Try.underlying67 el27_val z27_val fun v1 => ?_
  refine WP.s .n (O.asg rfl) ?_
  refine WP.nil ?_
  refine QE.next ?_
  refine CW.seq ?_
  refine CW.seq ?_
  refine CW.region ?_
  refine WP.s .n (O.mv rfl) ?_
  refine WP.s .n (O.lenS rfl Try.underlying67) ?_
  refine WP.s .n (O.mv rfl) ?_
  refine WP.nil ?_
  refine QE.next ?_
  refine CW.block ?_
  refine ST.famnil 31 kZ ?_
  refine ST.obtold 1 rfl (OB.row_eq (ys := ([] ++ List.replicate (b.length - 0) nilV)) (by simp)) ?_
  refine CW.loop2 (fun (i : Nat) (us : List Value) => i ≤ b.length ∧ us.length = i) (fun (i : Nat) (us : List Value) => [(0, (kSl (kSl kZ)).is b), (3, VP.ex v1), (9, (kSl (kSl kZ)).is b), (10, (kInt .i64).is (b.length : Int)), (11, (kInt .i64).is (i : Int))]) (fun (i : Nat) (us : List Value) => [OB.fam us 31 kZ (b.take i), OB.row v1 27 kVal (us ++ List.replicate (b.length - i) nilV)]) (fun (i : Nat) (us : List Value) => b.length - i) 0 [] ⟨Nat.zero_le _, rfl⟩ (Imp.cons rfl (Imp.cons rfl (Imp.cons rfl (Imp.cons rfl (Imp.consLe rfl (is_eq (y := (0 : Int)) (by first | rfl | omega | assumption)) Imp.nil))))) (OImp.os (OS.keepLe (OB.fam_eq (by first | rfl | omega | assumption) (by first | rfl | omega | assumption)) (OS.keep OS.nil))) ?_
  intro i us ⟨hi, hvs⟩
  refine CW.seq ?_
  refine CW.region ?_
  refine WP.s .n (O.lt rfl rfl) ?_
  refine WP.nil ?_
  refine QE.next ?_
  refine CW.seq ?_
  refine CW.condD rfl (fun h_t12 => ?_) (fun h_t12 => ?_)
  · refine CW.skip ?_
    refine QE.next ?_
    refine CW.seq ?_
    refine CW.block ?_
    refine CW.seq ?_
    refine CW.region ?_
    refine WP.s .n (O.mv rfl) ?_
    refine WP.s .n (O.ix i rfl rfl Try.underlying67 ty27 rfl (v := (b.getD i [])) (gd [] (by first | omega | (have := hlc i; omega) | (simp; omega)))) ?_
    refine WP.s .n (O.ldP rfl ty27) ?_
    refine WP.s .n (O.asg rfl) ?_
    refine WP.s .n (O.asg rfl) ?_
    refine WP.nil ?_
    refine QE.next ?_
    refine CW.seq ?_
    refine CW.region ?_
    refine WP.s .n (O.mv rfl) ?_
    refine WP.s .n (O.mv rfl) ?_
    refine WP.s .n (O.mv rfl) ?_
    refine WP.s .n (O.lenS rfl Try.underlying27) ?_
    refine WP.mk ((b.getD i []).length) .n rfl rfl rfl (by first | omega | (have := hlc i; omega) | (simp; omega)) Try.underlying27 el31_Z z31_Z fun v2 => ?_
    refine WP.s .n (O.ixR (k := kVal) (xs := (us ++ List.replicate (b.length - i) nilV)) (n := (i : Int)) i rfl rfl (mem_at 2 rfl) Try.underlying67 ty27 rfl (by first | omega | (have := hlc i; omega) | (simp; omega))) ?_
    refine ST.rowcell 0 rfl fun hcell_ => ?_
    refine WP.t .n (O.stR 2 i rfl rfl (Lens.id _) rfl (y0 := ((us ++ List.replicate (b.length - i) nilV).getD i nilV)) (gd nilV (by first | omega | (have := hlc i; omega) | (simp; omega))) ty27 rfl (ex_val (by first | rfl | assumption))) ?_
    refine WP.nil ?_
    refine QE.next ?_
    refine CW.region ?_
    refine WP.s .n (O.mv rfl) ?_
    refine WP.s .n (O.mv rfl) ?_
    refine WP.s .n (O.ixR (k := kVal) (xs := ((us ++ List.replicate (b.length - i) nilV).set i v2)) (n := (i : Int)) i rfl rfl (mem_at 2 rfl) Try.underlying67 ty27 rfl (by first | omega | (have := hlc i; omega) | (simp; omega))) ?_
    refine WP.s .n (OpOk.le (O.ldR (k := kVal) (xs := ((us ++ List.replicate (b.length - i) nilV).set i v2)) i rfl (mem_at 2 rfl) (Lens.id _) (ho := rfl) (y := v2) (by rw [List.getElem?_set_self (by simp; omega)]) ty27 rfl) (val_ex _)) ?_
    refine WP.s .n (O.mv rfl) ?_
    refine WP.s .n (O.cp 0 rfl rfl rfl (VP.le_refl _) Try.underlying27 el31_Z) ?_
    refine WP.nil ?_
    refine QE.blkN ?_
    refine QE.next ?_
    refine CW.region ?_
    refine WP.s .n (O.add rfl rfl (c := ((i : Int) + 1)) (w64 (by omega))) ?_
    refine WP.s .n (O.mv rfl) ?_
    refine WP.nil ?_
    refine ST.obtold 0 rfl (OB.row_eq (ys := (b.getD i [])) (copy_all (by simp))) ?_
    refine ST.oimp (fam_push 0 rfl) ?_
    refine ST.obtold 0 rfl (OB.fam_eq rfl (yss := (b.take (i + 1))) (take_app (by omega))) ?_
    refine ST.obtold 1 rfl (OB.row_eq (ys := ((us ++ [v2]) ++ List.replicate (b.length - (i + 1)) nilV)) (by rw [show b.length - i = (b.length - (i + 1)) + 1 by omega, List.replicate_succ, List.set_append_right _ _ (by omega), show i - us.length = 0 by omega]; simp)) ?_
    exact QE.round2 (i + 1) (us ++ [v2]) (by omega) ⟨by omega, by simp [hvs]⟩ (Imp.cons rfl (Imp.cons rfl (Imp.cons rfl (Imp.cons rfl (Imp.consLe rfl (is_eq (y := (((i + 1) : Nat) : Int)) (by first | rfl | omega | assumption)) Imp.nil))))) (OImp.refl _)
  · refine CW.exit ?_
    refine QE.thenE ?_
    refine QE.thenE ?_
    refine QE.blkH ?_
    refine QE.next ?_
    refine CW.seq ?_
    refine CW.region ?_
    refine WP.s .n (O.mv rfl) ?_
    refine WP.s .n (O.asg rfl) ?_
    refine WP.nil ?_
    refine QE.next ?_
    refine CW.ret ?_
    have hvl : us.length = b.length := by omega
    refine ST.obtold 0 rfl (OB.fam_eq rfl (yss := b) (List.take_of_length_le (by omega))) ?_
    refine ST.obtold 1 rfl (OB.row_eq (ys := us) (by rw [show b.length - i = 0 by omega]; simp)) ?_
    refine ST.oimp (OImp.ix [1, 0] (by decide) rfl) ?_
    exact QE.done (.inl rfl) rfl (ResOk.t rfl ResOk.nil) (OImp.refl _) ⟨v1, us, rfl, rfl, hvl⟩

set_option maxRecDepth 20000 in
set_option maxHeartbeats 4000000 in
theorem c_elim_bareiss (b : List (List Int)) (B : Nat) (hS : DetB b B) : Con Try.prog 196 [(kSl (kSl kZ)).is b, (kInt .i64).is (b.length : Int)] [] (fun p Lo => ∃ (hs : List Int), p = VP.tup [VP.tt, (kSl kI64).is hs, kZ.is (uD (matF b) b.length), kBool.is false] ∧ Lo = [] ∧ hs.length = b.length) := by
  refine Con.enter Try.func196 rfl rfl fun m w => ?_
  have hn12 := hS.n
  have hn0 := hS.n0
  have hBB := hS.B
  refine CW.seq ?_
  refine CW.region ?_
  refine WP.s .n (O.asg rfl) ?_
  refine WP.s .n (O.asg rfl) ?_
  refine WP.al .n z31_Z fun b1 => ?_
  refine WP.s .n (O.asg rfl) ?_
  refine WP.nil ?_
  refine QE.next ?_
  refine CW.scope ?_
  refine CW.seq ?_
  refine CW.region ?_
  refine WP.s .n (O.mv rfl) ?_
  refine WP.call (Li := []) (L := [OB.box b1 31 kZ 0]) .n fn244 (evs.c rfl evs.nil) (c_elim_copied b (by first | assumption | exact hS.u)) fun p_ Lo_ hp_ => ?_
  obtain ⟨vW, vs, rfl, rfl, hvs0⟩ := hp_
  refine WP.s .n (O.asg rfl) ?_
  refine WP.nil ?_
  refine QE.next ?_
  refine CW.seq ?_
  refine CW.region ?_
  refine WP.s .n (O.asg rfl) ?_
  refine WP.nil ?_
  refine QE.next ?_
  refine CW.seq ?_
  refine CW.region ?_
  refine WP.s .n (O.fn fn74 (evs.l rfl (i64_int (by omega)) evs.nil) (c_zint_Of 1)) ?_
  refine WP.al .n z31_Z fun b2 => ?_
  refine WP.t .n (O.stW (l := kC) (u := 1) 0 rfl rfl rfl ty31 rfl (VP.le_refl _)) ?_
  refine WP.s .n (O.asg rfl) ?_
  refine WP.nil ?_
  refine QE.next ?_
  refine CW.seq ?_
  refine CW.label ?_
  refine QE.next ?_
  refine CW.seq ?_
  refine CW.seq ?_
  refine CW.region ?_
  refine WP.s .n (O.mv rfl) ?_
  refine WP.s .n (O.mv rfl) ?_
  refine WP.nil ?_
  refine QE.next ?_
  refine CW.block ?_
  refine ST.nilrow 3 kI64 ?_
  refine ST.oimp (OImp.ix [1, 0, 2, 3, 4] (by decide) rfl) ?_
  refine ST.obtold 3 rfl (OB.fam_eq rfl (yss := (tabZ b.length (bF (matF b) 0 1 b.length))) (by rw [bF_0, tabZ_mat hS.u])) ?_
  refine CW.loop3 (fun (c : Nat) (vh : Value) (hs : List Int) => c ≤ b.length ∧ hs.length = c) (fun (c : Nat) (vh : Value) (hs : List Int) => [(1, (kInt .i64).is (b.length : Int)), (6, VP.ex (.pointer (some ⟨b1, 0, none⟩))), (8, VP.ex vW), (9, VP.ex vh), (10, VP.ex (.pointer (some ⟨b2, 0, none⟩))), (11, kBool.is false), (21, (kInt .i64).is (b.length : Int)), (22, (kInt .i64).is (c : Int))]) (fun (c : Nat) (vh : Value) (hs : List Int) => [OB.box b2 31 kZ (uD (matF b) c), OB.row vh 3 kI64 hs, OB.row vW 27 kVal vs, OB.fam vs 31 kZ (tabZ b.length (bF (matF b) c (c + 1) b.length)), OB.box b1 31 kZ 0]) (fun (c : Nat) (vh : Value) (hs : List Int) => b.length - c) 0 (.slice none 0 0) [] ⟨Nat.zero_le _, rfl⟩ (Imp.cons rfl (Imp.cons rfl (Imp.cons rfl (Imp.cons rfl (Imp.cons rfl (Imp.cons rfl (Imp.cons rfl (Imp.consLe rfl (is_eq (y := (0 : Int)) (by first | rfl | omega | assumption)) Imp.nil)))))))) (OImp.os (OS.keepLe (OB.C_Zeq (by first | exact Sm_lit (by decide) | exact (hS.z c _ _ (by omega) (by omega)).sm (by omega) | exact (hS.z (c + 1) _ _ (by omega) (by omega)).sm (by omega) | exact (hS.d _ (by omega)).sm (by omega) | exact ((hS.z c _ _ (by omega) (by omega)).mul (hS.z c _ _ (by omega) (by omega))).sm (by omega) | exact (((hS.z c _ _ (by omega) (by omega)).mul (hS.z c _ _ (by omega) (by omega))).sub ((hS.z c _ _ (by omega) (by omega)).mul (hS.z c _ _ (by omega) (by omega)))).sm (by omega)) (by first | rfl | omega | assumption)) (OS.keep (OS.keep (OS.keepLe (OB.fam_eq (by first | rfl | omega | assumption) (by first | rfl | omega | assumption)) (OS.keep OS.nil)))))) ?_
  intro c vh hs ⟨hc, hhs⟩
  refine CW.seq ?_
  refine CW.region ?_
  refine WP.s .n (O.lt rfl rfl) ?_
  refine WP.nil ?_
  refine QE.next ?_
  refine CW.seq ?_
  refine CW.condD rfl (fun h_t23 => ?_) (fun h_t23 => ?_)
  · refine CW.skip ?_
    refine QE.next ?_
    refine CW.seq ?_
    refine CW.block ?_
    refine CW.seq ?_
    refine CW.region ?_
    refine WP.s .n (O.mv rfl) ?_
    refine WP.s .n (O.asg rfl) ?_
    refine WP.nil ?_
    refine QE.next ?_
    refine CW.seq ?_
    refine CW.region ?_
    refine WP.s .n (O.mv rfl) ?_
    refine WP.s .n (O.lenR rfl (mem_at 1 rfl) Try.underlying28) ?_
    refine WP.s .n (O.asg rfl) ?_
    refine WP.nil ?_
    refine QE.next ?_
    refine CW.seq ?_
    refine CW.region ?_
    refine WP.s .n (O.mv rfl) ?_
    refine WP.s .n (O.asg rfl) ?_
    refine WP.nil ?_
    refine QE.next ?_
    refine CW.seq ?_
    refine CW.block ?_
    refine CW.loop (fun (p : Nat) => p = c) (fun (p : Nat) => [(1, (kInt .i64).is (b.length : Int)), (6, VP.ex (.pointer (some ⟨b1, 0, none⟩))), (8, VP.ex vW), (9, VP.ex vh), (10, VP.ex (.pointer (some ⟨b2, 0, none⟩))), (11, kBool.is false), (12, (kInt .i64).is (c : Int)), (13, (kInt .i64).is (c : Int)), (14, (kInt .i64).is (p : Int)), (21, (kInt .i64).is (b.length : Int)), (22, (kInt .i64).is (c : Int))]) (fun (p : Nat) => [OB.box b2 31 kZ (uD (matF b) c), OB.row vh 3 kI64 hs, OB.row vW 27 kVal vs, OB.fam vs 31 kZ (tabZ b.length (bF (matF b) c (c + 1) b.length)), OB.box b1 31 kZ 0]) (fun (p : Nat) => b.length - p) c rfl (Imp.cons rfl (Imp.cons rfl (Imp.cons rfl (Imp.cons rfl (Imp.cons rfl (Imp.cons rfl (Imp.cons rfl (Imp.consLe rfl (is_eq (y := (c : Int)) (by first | rfl | omega | assumption)) (Imp.consLe rfl (is_eq (y := (c : Int)) (by first | rfl | omega | assumption)) (Imp.cons rfl (Imp.cons rfl Imp.nil))))))))))) (OImp.refl _) ?_
    intro p hp
    refine CW.seq ?_
    refine CW.seq ?_
    refine CW.region ?_
    refine WP.s .n (O.mv rfl) ?_
    refine WP.s .n (O.mv rfl) ?_
    refine WP.s .n (O.lenR rfl (mem_at 2 rfl) Try.underlying67) ?_
    refine WP.s .n (O.lt rfl rfl) ?_
    refine WP.s .n (O.mv rfl) ?_
    refine WP.splitD 32 rfl (fun h_t32 => ?_) (fun h => absurd (by omega) h)
    refine WP.s (.g rfl rfl) (O.mv rfl) ?_
    refine WP.s (.g rfl rfl) (O.mv rfl) ?_
    refine WP.s (.g rfl rfl) (O.ixR (k := kVal) (xs := vs) (n := (p : Int)) p rfl rfl (mem_at 2 rfl) Try.underlying67 ty27 rfl (by first | omega | (rw [tabZ_rlen (by omega)]; omega) | (rw [tabZ_len]; omega))) ?_
    refine WP.s (.g rfl rfl) (OpOk.le (O.ldR p rfl (mem_at 2 rfl) (Lens.id _) rfl (y := (vs.getD p nilV)) (gd nilV (by first | omega | (rw [tabZ_rlen (by omega)]; omega) | (rw [tabZ_len]; omega))) ty27 rfl) (val_ex _)) ?_
    refine WP.s (.g rfl rfl) (O.mv rfl) ?_
    refine WP.s (.g rfl rfl) (O.ixF (e := 31) (k := kZ) (xss := (tabZ b.length (bF (matF b) c (c + 1) b.length))) (n := (c : Int)) p c rfl rfl (mem_at 3 rfl) rfl (by first | omega | (rw [tabZ_rlen (by omega)]; omega) | (rw [tabZ_len]; omega)) Try.underlying27 ty31 rfl (by first | omega | (rw [tabZ_rlen (by omega)]; omega) | (rw [tabZ_len]; omega))) ?_
    refine WP.s (.g rfl rfl) (O.ldF (k := kZ) (xss := (tabZ b.length (bF (matF b) c (c + 1) b.length))) p c rfl (mem_at 3 rfl) rfl (by first | omega | (rw [tabZ_rlen (by omega)]; omega) | (rw [tabZ_len]; omega)) (Lens.id _) rfl (y := (uE (matF b) c c c)) (tabZ_at _ (by omega) (by omega) (by rw [hp]; exact bF_top)) ty31 rfl) ?_
    refine WP.s (.g rfl rfl) (O.fn fn80 (evs.c rfl evs.nil) (c_zint_Sign (uE (matF b) c c c))) ?_
    refine WP.s (.g rfl rfl) (O.eq rfl rfl) ?_
    refine WP.s .n (O.pickT rfl rfl) ?_
    refine WP.nil ?_
    refine QE.next ?_
    refine CW.condD rfl (fun h => absurd h (by have h1 := hS.p c (by omega); have h2 := Int.sign_eq_one_of_pos h1; omega)) (fun h_t42 => ?_)
    refine CW.exit ?_
    refine QE.thenE ?_
    refine QE.thenE ?_
    refine QE.blkH ?_
    refine QE.next ?_
    refine CW.seq ?_
    refine CW.seq ?_
    refine CW.region ?_
    refine WP.s .n (O.mv rfl) ?_
    refine WP.s .n (O.mv rfl) ?_
    refine WP.s .n (O.lenR rfl (mem_at 2 rfl) Try.underlying67) ?_
    refine WP.s .n (O.eq rfl rfl) ?_
    refine WP.nil ?_
    refine QE.next ?_
    refine CW.condD rfl (fun h => absurd h (by omega)) (fun h_t48 => ?_)
    refine CW.skip ?_
    refine QE.next ?_
    refine CW.seq ?_
    refine CW.seq ?_
    refine CW.region ?_
    refine WP.s .n (O.mv rfl) ?_
    refine WP.s .n (O.mv rfl) ?_
    refine WP.s .n (O.ne rfl rfl) ?_
    refine WP.nil ?_
    refine QE.next ?_
    refine CW.condD rfl (fun h => absurd h (by omega)) (fun h_t51 => ?_)
    refine CW.skip ?_
    refine QE.next ?_
    refine CW.seq ?_
    refine CW.seq ?_
    refine CW.region ?_
    refine WP.s .n (O.mv rfl) ?_
    refine WP.s .n (O.add rfl rfl (c := ((c : Int) + 1)) (w64 (by omega))) ?_
    refine WP.s .n (O.asg rfl) ?_
    refine WP.nil ?_
    refine QE.next ?_
    refine CW.block ?_
    refine CW.loop (fun (i : Nat) => c < i ∧ i ≤ b.length) (fun (i : Nat) => [(1, (kInt .i64).is (b.length : Int)), (6, VP.ex (.pointer (some ⟨b1, 0, none⟩))), (8, VP.ex vW), (9, VP.ex vh), (10, VP.ex (.pointer (some ⟨b2, 0, none⟩))), (11, kBool.is false), (12, (kInt .i64).is (c : Int)), (13, (kInt .i64).is (c : Int)), (15, (kInt .i64).is (i : Int)), (21, (kInt .i64).is (b.length : Int)), (22, (kInt .i64).is (c : Int))]) (fun (i : Nat) => [OB.box b2 31 kZ (uD (matF b) c), OB.row vh 3 kI64 hs, OB.row vW 27 kVal vs, OB.fam vs 31 kZ (tabZ b.length (bF (matF b) c i b.length)), OB.box b1 31 kZ 0]) (fun (i : Nat) => b.length - i) (c + 1) ⟨by omega, by omega⟩ (Imp.cons rfl (Imp.cons rfl (Imp.cons rfl (Imp.cons rfl (Imp.cons rfl (Imp.cons rfl (Imp.cons rfl (Imp.cons rfl (Imp.consLe rfl (is_eq (y := (((c + 1) : Nat) : Int)) (by first | rfl | omega | assumption)) (Imp.cons rfl (Imp.cons rfl Imp.nil))))))))))) (OImp.refl _) ?_
    intro i ⟨hci, hi⟩
    refine CW.seq ?_
    refine CW.seq ?_
    refine CW.region ?_
    refine WP.s .n (O.mv rfl) ?_
    refine WP.s .n (O.mv rfl) ?_
    refine WP.s .n (O.lenR rfl (mem_at 2 rfl) Try.underlying67) ?_
    refine WP.s .n (O.lt rfl rfl) ?_
    refine WP.nil ?_
    refine QE.next ?_
    refine CW.condD rfl (fun h_t73 => ?_) (fun h_t73 => ?_)
    · refine CW.skip ?_
      refine QE.next ?_
      refine CW.seq ?_
      refine CW.block ?_
      refine CW.seq ?_
      refine CW.region ?_
      refine WP.s .n (O.mv rfl) ?_
      refine WP.s .n (O.mv rfl) ?_
      refine WP.s .n (O.ixR (k := kVal) (xs := vs) (n := (i : Int)) i rfl rfl (mem_at 2 rfl) Try.underlying67 ty27 rfl (by first | omega | (rw [tabZ_rlen (by omega)]; omega) | (rw [tabZ_len]; omega))) ?_
      refine WP.s .n (OpOk.le (O.ldR i rfl (mem_at 2 rfl) (Lens.id _) rfl (y := (vs.getD i nilV)) (gd nilV (by first | omega | (rw [tabZ_rlen (by omega)]; omega) | (rw [tabZ_len]; omega))) ty27 rfl) (val_ex _)) ?_
      refine WP.s .n (O.lenF i rfl (mem_at 3 rfl) rfl (by first | omega | (rw [tabZ_rlen (by omega)]; omega) | (rw [tabZ_len]; omega)) Try.underlying27) ?_
      refine ST.told 80 rfl (is_eq (y := (b.length : Int)) (by rw [tabZ_rlen (by omega)])) ?_
      refine WP.s .n (O.sub rfl rfl (c := ((b.length : Int) - 1)) (w64 (by omega))) ?_
      refine WP.s .n (O.asg rfl) ?_
      refine WP.nil ?_
      refine QE.next ?_
      refine CW.block ?_
      refine CW.loop (fun (q : Nat) => c ≤ q ∧ q ≤ b.length) (fun (q : Nat) => [(1, (kInt .i64).is (b.length : Int)), (6, VP.ex (.pointer (some ⟨b1, 0, none⟩))), (8, VP.ex vW), (9, VP.ex vh), (10, VP.ex (.pointer (some ⟨b2, 0, none⟩))), (11, kBool.is false), (12, (kInt .i64).is (c : Int)), (13, (kInt .i64).is (c : Int)), (15, (kInt .i64).is (i : Int)), (16, (kInt .i64).is ((q : Int) - 1)), (21, (kInt .i64).is (b.length : Int)), (22, (kInt .i64).is (c : Int))]) (fun (q : Nat) => [OB.box b2 31 kZ (uD (matF b) c), OB.row vh 3 kI64 hs, OB.row vW 27 kVal vs, OB.fam vs 31 kZ (tabZ b.length (bF (matF b) c i q)), OB.box b1 31 kZ 0]) (fun (q : Nat) => q) b.length ⟨by omega, Nat.le_refl _⟩ (Imp.cons rfl (Imp.cons rfl (Imp.cons rfl (Imp.cons rfl (Imp.cons rfl (Imp.cons rfl (Imp.cons rfl (Imp.cons rfl (Imp.cons rfl (Imp.consLe rfl (is_eq (y := (((b.length : Nat) : Int) - 1)) (by first | rfl | omega | assumption)) (Imp.cons rfl (Imp.cons rfl Imp.nil)))))))))))) (OImp.refl _) ?_
      intro q ⟨hcq, hqn⟩
      refine CW.seq ?_
      refine CW.seq ?_
      refine CW.region ?_
      refine WP.s .n (O.mv rfl) ?_
      refine WP.s .n (O.mv rfl) ?_
      refine WP.s .n (O.ge rfl rfl) ?_
      refine WP.nil ?_
      refine QE.next ?_
      refine CW.condD rfl (fun h_t84 => ?_) (fun h_t84 => ?_)
      · refine CW.skip ?_
        refine QE.next ?_
        refine CW.seq ?_
        refine CW.block ?_
        refine CW.seq ?_
        refine CW.draw (Γ := [.fr (VP.ex vW), .fr ((kInt .i64).is (c : Int)), .fr (VP.pel vW (c * 1)), .fr (VP.ex (vs.getD c nilV)), .fr ((kInt .i64).is (c : Int)), .fr (VP.pel (vs.getD c nilV) (c * 2)), .fr (kZ.is (uE (matF b) c c c)), .fr (VP.ex vW), .fr ((kInt .i64).is (i : Int)), .fr (VP.pel vW (i * 1)), .fr (VP.ex (vs.getD i nilV)), .fr ((kInt .i64).is ((q : Int) - 1)), .fr (VP.pel (vs.getD i nilV) ((q - 1) * 2)), .fr (kZ.is (uE (matF b) c i (q - 1))), .fr (kC.is ((uE (matF b) c c c) * (uE (matF b) c i (q - 1)))), .fr (VP.ex vW), .fr ((kInt .i64).is (i : Int)), .fr (VP.pel vW (i * 1)), .fr (VP.ex (vs.getD i nilV)), .fr ((kInt .i64).is (c : Int)), .fr (VP.pel (vs.getD i nilV) (c * 2)), .fr (kZ.is (uE (matF b) c i c)), .fr (VP.ex vW), .fr ((kInt .i64).is (c : Int)), .fr (VP.pel vW (c * 1)), .fr (VP.ex (vs.getD c nilV)), .fr ((kInt .i64).is ((q : Int) - 1)), .fr (VP.pel (vs.getD c nilV) ((q - 1) * 2)), .fr (kZ.is (uE (matF b) c c (q - 1))), .fr (kC.is ((uE (matF b) c i c) * (uE (matF b) c c (q - 1)))), .fr (kC.is (((uE (matF b) c c c) * (uE (matF b) c i (q - 1))) - ((uE (matF b) c i c) * (uE (matF b) c c (q - 1))))), .al (fun b => OB.box b 31 kC 0)]) (lates := [false, false, false, false, false, false, false, false, false, false, false, false, false, false, false, false, false, false, false, false, false, false, false, false, false, false, false, false, false, false, false, false]) (by kernel_rfl) (Chk.of rfl (by kernel_rfl) rfl) (fun _ _ _ _ _ h => h) (fun q_ x_ h_ => ?_) (fun σ1 => ?_)
        · match q_, h_ with
          | 0, h_ => cases h_; exact Ob.f rfl .n fun N => (O.mv rfl)
          | 1, h_ => cases h_; exact Ob.f rfl .n fun N => (O.mv rfl)
          | 2, h_ => cases h_; exact Ob.f rfl .n fun N => (O.ixR (k := kVal) (xs := vs) (n := (c : Int)) c rfl rfl (mem_app N (mem_at 2 rfl)) Try.underlying67 ty27 rfl (by first | omega | (rw [tabZ_rlen (by omega)]; omega) | (rw [tabZ_len]; omega)))
          | 3, h_ => cases h_; exact Ob.f rfl .n fun N => (OpOk.le (O.ldR c rfl (mem_app N (mem_at 2 rfl)) (Lens.id _) rfl (y := (vs.getD c nilV)) (gd nilV (by first | omega | (rw [tabZ_rlen (by omega)]; omega) | (rw [tabZ_len]; omega))) ty27 rfl) (val_ex _))
          | 4, h_ => cases h_; exact Ob.f rfl .n fun N => (O.mv rfl)
          | 5, h_ => cases h_; exact Ob.f rfl .n fun N => (O.ixF (e := 31) (k := kZ) (xss := (tabZ b.length (bF (matF b) c i q))) (n := (c : Int)) c c rfl rfl (mem_app N (mem_at 3 rfl)) rfl (by first | omega | (rw [tabZ_rlen (by omega)]; omega) | (rw [tabZ_len]; omega)) Try.underlying27 ty31 rfl (by first | omega | (rw [tabZ_rlen (by omega)]; omega) | (rw [tabZ_len]; omega)))
          | 6, h_ => cases h_; exact Ob.f rfl .n fun N => (O.ldF (k := kZ) (xss := (tabZ b.length (bF (matF b) c i q))) c c rfl (mem_app N (mem_at 3 rfl)) rfl (by first | omega | (rw [tabZ_rlen (by omega)]; omega) | (rw [tabZ_len]; omega)) (Lens.id _) rfl (y := (uE (matF b) c c c)) (tabZ_at _ (by omega) (by omega) bF_top) ty31 rfl)
          | 7, h_ => cases h_; exact Ob.f rfl .n fun N => (O.mv rfl)
          | 8, h_ => cases h_; exact Ob.f rfl .n fun N => (O.mv rfl)
          | 9, h_ => cases h_; exact Ob.f rfl .n fun N => (O.ixR (k := kVal) (xs := vs) (n := (i : Int)) i rfl rfl (mem_app N (mem_at 2 rfl)) Try.underlying67 ty27 rfl (by first | omega | (rw [tabZ_rlen (by omega)]; omega) | (rw [tabZ_len]; omega)))
          | 10, h_ => cases h_; exact Ob.f rfl .n fun N => (OpOk.le (O.ldR i rfl (mem_app N (mem_at 2 rfl)) (Lens.id _) rfl (y := (vs.getD i nilV)) (gd nilV (by first | omega | (rw [tabZ_rlen (by omega)]; omega) | (rw [tabZ_len]; omega))) ty27 rfl) (val_ex _))
          | 11, h_ => cases h_; exact Ob.f rfl .n fun N => (O.mv rfl)
          | 12, h_ => cases h_; exact Ob.f rfl .n fun N => (O.ixF (e := 31) (k := kZ) (xss := (tabZ b.length (bF (matF b) c i q))) (n := ((q : Int) - 1)) i (q - 1) rfl rfl (mem_app N (mem_at 3 rfl)) rfl (by first | omega | (rw [tabZ_rlen (by omega)]; omega) | (rw [tabZ_len]; omega)) Try.underlying27 ty31 (by omega) (by first | omega | (rw [tabZ_rlen (by omega)]; omega) | (rw [tabZ_len]; omega)))
          | 13, h_ => cases h_; exact Ob.f rfl .n fun N => (O.ldF (k := kZ) (xss := (tabZ b.length (bF (matF b) c i q))) i (q - 1) rfl (mem_app N (mem_at 3 rfl)) rfl (by first | omega | (rw [tabZ_rlen (by omega)]; omega) | (rw [tabZ_len]; omega)) (Lens.id _) rfl (y := (uE (matF b) c i (q - 1))) (tabZ_at _ (by omega) (by omega) (bF_now (by omega) (by omega))) ty31 rfl)
          | 14, h_ => cases h_; exact Ob.f rfl .n fun N => (O.fn fn76 (evs.c rfl (evs.c rfl evs.nil)) (c_zint_Mul (uE (matF b) c c c) (uE (matF b) c i (q - 1))))
          | 15, h_ => cases h_; exact Ob.f rfl .n fun N => (O.mv rfl)
          | 16, h_ => cases h_; exact Ob.f rfl .n fun N => (O.mv rfl)
          | 17, h_ => cases h_; exact Ob.f rfl .n fun N => (O.ixR (k := kVal) (xs := vs) (n := (i : Int)) i rfl rfl (mem_app N (mem_at 2 rfl)) Try.underlying67 ty27 rfl (by first | omega | (rw [tabZ_rlen (by omega)]; omega) | (rw [tabZ_len]; omega)))
          | 18, h_ => cases h_; exact Ob.f rfl .n fun N => (OpOk.le (O.ldR i rfl (mem_app N (mem_at 2 rfl)) (Lens.id _) rfl (y := (vs.getD i nilV)) (gd nilV (by first | omega | (rw [tabZ_rlen (by omega)]; omega) | (rw [tabZ_len]; omega))) ty27 rfl) (val_ex _))
          | 19, h_ => cases h_; exact Ob.f rfl .n fun N => (O.mv rfl)
          | 20, h_ => cases h_; exact Ob.f rfl .n fun N => (O.ixF (e := 31) (k := kZ) (xss := (tabZ b.length (bF (matF b) c i q))) (n := (c : Int)) i c rfl rfl (mem_app N (mem_at 3 rfl)) rfl (by first | omega | (rw [tabZ_rlen (by omega)]; omega) | (rw [tabZ_len]; omega)) Try.underlying27 ty31 rfl (by first | omega | (rw [tabZ_rlen (by omega)]; omega) | (rw [tabZ_len]; omega)))
          | 21, h_ => cases h_; exact Ob.f rfl .n fun N => (O.ldF (k := kZ) (xss := (tabZ b.length (bF (matF b) c i q))) i c rfl (mem_app N (mem_at 3 rfl)) rfl (by first | omega | (rw [tabZ_rlen (by omega)]; omega) | (rw [tabZ_len]; omega)) (Lens.id _) rfl (y := (uE (matF b) c i c)) (tabZ_at _ (by omega) (by omega) (bF_now (by omega) (by omega))) ty31 rfl)
          | 22, h_ => cases h_; exact Ob.f rfl .n fun N => (O.mv rfl)
          | 23, h_ => cases h_; exact Ob.f rfl .n fun N => (O.mv rfl)
          | 24, h_ => cases h_; exact Ob.f rfl .n fun N => (O.ixR (k := kVal) (xs := vs) (n := (c : Int)) c rfl rfl (mem_app N (mem_at 2 rfl)) Try.underlying67 ty27 rfl (by first | omega | (rw [tabZ_rlen (by omega)]; omega) | (rw [tabZ_len]; omega)))
          | 25, h_ => cases h_; exact Ob.f rfl .n fun N => (OpOk.le (O.ldR c rfl (mem_app N (mem_at 2 rfl)) (Lens.id _) rfl (y := (vs.getD c nilV)) (gd nilV (by first | omega | (rw [tabZ_rlen (by omega)]; omega) | (rw [tabZ_len]; omega))) ty27 rfl) (val_ex _))
          | 26, h_ => cases h_; exact Ob.f rfl .n fun N => (O.mv rfl)
          | 27, h_ => cases h_; exact Ob.f rfl .n fun N => (O.ixF (e := 31) (k := kZ) (xss := (tabZ b.length (bF (matF b) c i q))) (n := ((q : Int) - 1)) c (q - 1) rfl rfl (mem_app N (mem_at 3 rfl)) rfl (by first | omega | (rw [tabZ_rlen (by omega)]; omega) | (rw [tabZ_len]; omega)) Try.underlying27 ty31 (by omega) (by first | omega | (rw [tabZ_rlen (by omega)]; omega) | (rw [tabZ_len]; omega)))
          | 28, h_ => cases h_; exact Ob.f rfl .n fun N => (O.ldF (k := kZ) (xss := (tabZ b.length (bF (matF b) c i q))) c (q - 1) rfl (mem_app N (mem_at 3 rfl)) rfl (by first | omega | (rw [tabZ_rlen (by omega)]; omega) | (rw [tabZ_len]; omega)) (Lens.id _) rfl (y := (uE (matF b) c c (q - 1))) (tabZ_at _ (by omega) (by omega) bF_top) ty31 rfl)
          | 29, h_ => cases h_; exact Ob.f rfl .n fun N => (O.fn fn76 (evs.c rfl (evs.c rfl evs.nil)) (c_zint_Mul (uE (matF b) c i c) (uE (matF b) c c (q - 1))))
          | 30, h_ => cases h_; exact Ob.f rfl .n fun N => (O.fn fn157 (evs.l rfl (kC_Z (by first | exact Sm_lit (by decide) | exact (hS.z c _ _ (by omega) (by omega)).sm (by omega) | exact (hS.z (c + 1) _ _ (by omega) (by omega)).sm (by omega) | exact (hS.d _ (by omega)).sm (by omega) | exact ((hS.z c _ _ (by omega) (by omega)).mul (hS.z c _ _ (by omega) (by omega))).sm (by omega) | exact (((hS.z c _ _ (by omega) (by omega)).mul (hS.z c _ _ (by omega) (by omega))).sub ((hS.z c _ _ (by omega) (by omega)).mul (hS.z c _ _ (by omega) (by omega)))).sm (by omega))) (evs.l rfl (kC_Z (by first | exact Sm_lit (by decide) | exact (hS.z c _ _ (by omega) (by omega)).sm (by omega) | exact (hS.z (c + 1) _ _ (by omega) (by omega)).sm (by omega) | exact (hS.d _ (by omega)).sm (by omega) | exact ((hS.z c _ _ (by omega) (by omega)).mul (hS.z c _ _ (by omega) (by omega))).sm (by omega) | exact (((hS.z c _ _ (by omega) (by omega)).mul (hS.z c _ _ (by omega) (by omega))).sub ((hS.z c _ _ (by omega) (by omega)).mul (hS.z c _ _ (by omega) (by omega)))).sm (by omega))) evs.nil)) (c_zint_Sub ((uE (matF b) c c c) * (uE (matF b) c i (q - 1))) ((uE (matF b) c i c) * (uE (matF b) c c (q - 1)))))
          | 31, h_ => cases h_; exact Ob.a rfl z31_C
          | n_ + 32, h_ => simp at h_
        refine WP.t .n (O.stW (l := kC) (u := ((uE (matF b) c c c) * (uE (matF b) c i (q - 1))) - ((uE (matF b) c i c) * (uE (matF b) c c (q - 1)))) 0 rfl rfl rfl ty31 rfl (VP.le_refl _)) ?_
        refine WP.nil ?_
        refine QE.next ?_
        refine CW.draw (Γ := [.fr (VP.ex vW), .fr ((kInt .i64).is (i : Int)), .fr (VP.pel vW (i * 1)), .fr (VP.ex (vs.getD i nilV)), .fr ((kInt .i64).is ((q : Int) - 1)), .fr (kC.is (((uE (matF b) c c c) * (uE (matF b) c i (q - 1))) - ((uE (matF b) c i c) * (uE (matF b) c c (q - 1))))), .fr (kZ.is (uD (matF b) c)), .fr (VP.tup [kC.is ((((uE (matF b) c c c) * (uE (matF b) c i (q - 1))) - ((uE (matF b) c i c) * (uE (matF b) c c (q - 1)))).fdiv (uD (matF b) c)), kC.is (if (uD (matF b) c) = 0 then 0 else (((uE (matF b) c c c) * (uE (matF b) c i (q - 1))) - ((uE (matF b) c i c) * (uE (matF b) c c (q - 1)))).fmod (uD (matF b) c)), (kInt .i64).is (if (uD (matF b) c) = 0 then 11 else 0)]), .fr (VP.tup [kC.is ((((uE (matF b) c c c) * (uE (matF b) c i (q - 1))) - ((uE (matF b) c i c) * (uE (matF b) c c (q - 1)))).fdiv (uD (matF b) c)), kC.is (if (uD (matF b) c) = 0 then 0 else (((uE (matF b) c c c) * (uE (matF b) c i (q - 1))) - ((uE (matF b) c i c) * (uE (matF b) c c (q - 1)))).fmod (uD (matF b) c)), (kInt .i64).is (if (uD (matF b) c) = 0 then 11 else 0)]), .fr (kC.is (uE (matF b) (c + 1) i (q - 1))), .lt (kC.is (if (uD (matF b) c) = 0 then 0 else (((uE (matF b) c c c) * (uE (matF b) c i (q - 1))) - ((uE (matF b) c i c) * (uE (matF b) c c (q - 1)))).fmod (uD (matF b) c))), .lt ((kInt .i64).is (if (uD (matF b) c) = 0 then 11 else 0)), .fr (VP.pel (vs.getD i nilV) ((q - 1) * 2))]) (lates := [false, false, false, false, false, false, false, false, false, false, true, true, false]) (by kernel_rfl) (Chk.of rfl (by kernel_rfl) rfl) (fun _ _ _ _ _ h => h) (fun q_ x_ h_ => ?_) (fun σ2 => ?_)
        · match q_, h_ with
          | 0, h_ => cases h_; exact Ob.f rfl .n fun N => (O.mv rfl)
          | 1, h_ => cases h_; exact Ob.f rfl .n fun N => (O.mv rfl)
          | 2, h_ => cases h_; exact Ob.f rfl .n fun N => (O.ixR (k := kVal) (xs := vs) (n := (i : Int)) i rfl rfl (mem_app N (mem_at 3 rfl)) Try.underlying67 ty27 rfl (by first | omega | (rw [tabZ_rlen (by omega)]; omega) | (rw [tabZ_len]; omega)))
          | 3, h_ => cases h_; exact Ob.f rfl .n fun N => (OpOk.le (O.ldR i rfl (mem_app N (mem_at 3 rfl)) (Lens.id _) rfl (y := (vs.getD i nilV)) (gd nilV (by first | omega | (rw [tabZ_rlen (by omega)]; omega) | (rw [tabZ_len]; omega))) ty27 rfl) (val_ex _))
          | 4, h_ => cases h_; exact Ob.f rfl .n fun N => (O.mv rfl)
          | 5, h_ => cases h_; exact Ob.f rfl .n fun N => (O.ld rfl (mem_app N (mem_at 0 rfl)) (Lens.id _) ty31 rfl)
          | 6, h_ => cases h_; exact Ob.f rfl .n fun N => (O.ld rfl (mem_app N (mem_at 1 rfl)) (Lens.id _) ty31 rfl)
          | 7, h_ => cases h_; exact Ob.f rfl .n fun N => (O.fn fn105 (evs.l rfl (kC_Z (by first | exact Sm_lit (by decide) | exact (hS.z c _ _ (by omega) (by omega)).sm (by omega) | exact (hS.z (c + 1) _ _ (by omega) (by omega)).sm (by omega) | exact (hS.d _ (by omega)).sm (by omega) | exact ((hS.z c _ _ (by omega) (by omega)).mul (hS.z c _ _ (by omega) (by omega))).sm (by omega) | exact (((hS.z c _ _ (by omega) (by omega)).mul (hS.z c _ _ (by omega) (by omega))).sub ((hS.z c _ _ (by omega) (by omega)).mul (hS.z c _ _ (by omega) (by omega)))).sm (by omega))) (evs.c rfl evs.nil)) (c_zint_Floor (((uE (matF b) c c c) * (uE (matF b) c i (q - 1))) - ((uE (matF b) c i c) * (uE (matF b) c c (q - 1)))) (uD (matF b) c)))
          | 8, h_ => cases h_; exact Ob.f rfl .n fun N => (O.mv rfl)
          | 9, h_ => cases h_; exact Ob.f rfl .n fun N => (OpOk.le (O.ext rfl rfl) (is_eq (bF_new hS.s)))
          | 10, h_ => cases h_; exact Ob.l rfl .n (OV.ext rfl rfl)
          | 11, h_ => cases h_; exact Ob.l rfl .n (OV.ext rfl rfl)
          | 12, h_ => cases h_; exact Ob.f rfl .n fun N => (O.ixF (e := 31) (k := kZ) (xss := (tabZ b.length (bF (matF b) c i q))) (n := ((q : Int) - 1)) i (q - 1) rfl rfl (mem_app N (mem_at 4 rfl)) rfl (by first | omega | (rw [tabZ_rlen (by omega)]; omega) | (rw [tabZ_len]; omega)) Try.underlying27 ty31 (by omega) (by first | omega | (rw [tabZ_rlen (by omega)]; omega) | (rw [tabZ_len]; omega)))
          | n_ + 13, h_ => simp at h_
        refine WP.t .n (O.stF 4 i (q - 1) rfl rfl rfl (by first | omega | (rw [tabZ_rlen (by omega)]; omega) | (rw [tabZ_len]; omega)) (Lens.id _) rfl (y0 := (((tabZ b.length (bF (matF b) c i q)).getD i []).getD (q - 1) 0)) (gd 0 (by first | omega | (rw [tabZ_rlen (by omega)]; omega) | (rw [tabZ_len]; omega))) ty31 rfl (kC_Z (by first | exact Sm_lit (by decide) | exact (hS.z c _ _ (by omega) (by omega)).sm (by omega) | exact (hS.z (c + 1) _ _ (by omega) (by omega)).sm (by omega) | exact (hS.d _ (by omega)).sm (by omega) | exact ((hS.z c _ _ (by omega) (by omega)).mul (hS.z c _ _ (by omega) (by omega))).sm (by omega) | exact (((hS.z c _ _ (by omega) (by omega)).mul (hS.z c _ _ (by omega) (by omega))).sub ((hS.z c _ _ (by omega) (by omega)).mul (hS.z c _ _ (by omega) (by omega)))).sm (by omega)))) ?_
        refine WP.nil ?_
        refine QE.blkN ?_
        refine QE.next ?_
        refine CW.region ?_
        refine WP.s .n (O.mv rfl) ?_
        refine WP.s .n (O.sub rfl rfl (c := (((q : Int) - 1) - 1)) (w64 (by omega))) ?_
        refine WP.s .n (O.asg rfl) ?_
        refine WP.nil ?_
        refine ST.obtold 4 rfl (OB.fam_eq rfl (yss := (tabZ b.length (bF (matF b) c i (q - 1)))) (by rw [tabZ_set _ (by omega) (by omega), bF_set (by omega) (by omega)])) ?_
        exact QE.round (q - 1) (by omega) ⟨by omega, by omega⟩ (Imp.cons rfl (Imp.cons rfl (Imp.cons rfl (Imp.cons rfl (Imp.cons rfl (Imp.cons rfl (Imp.cons rfl (Imp.cons rfl (Imp.cons rfl (Imp.consLe rfl (is_eq (y := ((((q - 1) : Nat) : Int) - 1)) (by first | rfl | omega | assumption)) (Imp.cons rfl (Imp.cons rfl Imp.nil)))))))))))) (OImp.os (OS.skip (OS.keep (OS.keep (OS.keep (OS.keep (OS.keep OS.nil)))))))
      · refine CW.exit ?_
        refine QE.thenE ?_
        refine QE.thenE ?_
        refine QE.blkH ?_
        refine QE.blkN ?_
        refine QE.next ?_
        refine CW.region ?_
        refine WP.s .n (O.mv rfl) ?_
        refine WP.s .n (O.add rfl rfl (c := ((i : Int) + 1)) (w64 (by omega))) ?_
        refine WP.s .n (O.asg rfl) ?_
        refine WP.nil ?_
        refine ST.obtold 3 rfl (OB.fam_eq rfl (yss := (tabZ b.length (bF (matF b) c (i + 1) b.length))) (by rw [show q = c by omega]; exact bF_row hS.s (by omega))) ?_
        exact QE.round (i + 1) (by omega) ⟨by omega, by omega⟩ (Imp.cons rfl (Imp.cons rfl (Imp.cons rfl (Imp.cons rfl (Imp.cons rfl (Imp.cons rfl (Imp.cons rfl (Imp.cons rfl (Imp.consLe rfl (is_eq (y := (((i + 1) : Nat) : Int)) (by first | rfl | omega | assumption)) (Imp.cons rfl (Imp.cons rfl Imp.nil))))))))))) (OImp.refl _)
    · refine CW.exit ?_
      refine QE.thenE ?_
      refine QE.thenE ?_
      refine QE.blkH ?_
      refine QE.next ?_
      refine CW.seq ?_
      refine CW.region ?_
      refine WP.s .n (O.mv rfl) ?_
      refine WP.s .n (O.mv rfl) ?_
      refine WP.s .n (O.ixR (k := kVal) (xs := vs) (n := (c : Int)) c rfl rfl (mem_at 2 rfl) Try.underlying67 ty27 rfl (by first | omega | (rw [tabZ_rlen (by omega)]; omega) | (rw [tabZ_len]; omega))) ?_
      refine WP.s .n (OpOk.le (O.ldR c rfl (mem_at 2 rfl) (Lens.id _) rfl (y := (vs.getD c nilV)) (gd nilV (by first | omega | (rw [tabZ_rlen (by omega)]; omega) | (rw [tabZ_len]; omega))) ty27 rfl) (val_ex _)) ?_
      refine WP.s .n (O.mv rfl) ?_
      refine WP.s .n (O.ixF (e := 31) (k := kZ) (xss := (tabZ b.length (bF (matF b) c i b.length))) (n := (c : Int)) c c rfl rfl (mem_at 3 rfl) rfl (by first | omega | (rw [tabZ_rlen (by omega)]; omega) | (rw [tabZ_len]; omega)) Try.underlying27 ty31 rfl (by first | omega | (rw [tabZ_rlen (by omega)]; omega) | (rw [tabZ_len]; omega))) ?_
      refine WP.s .n (O.ldF (k := kZ) (xss := (tabZ b.length (bF (matF b) c i b.length))) c c rfl (mem_at 3 rfl) rfl (by first | omega | (rw [tabZ_rlen (by omega)]; omega) | (rw [tabZ_len]; omega)) (Lens.id _) rfl (y := (uD (matF b) (c + 1))) (tabZ_at _ (by omega) (by omega) bF_top) ty31 rfl) ?_
      refine WP.t .n (O.stW (l := kZ) (u := (uD (matF b) (c + 1))) 0 rfl rfl rfl ty31 rfl (VP.le_refl _)) ?_
      refine WP.nil ?_
      refine QE.next ?_
      refine CW.region ?_
      refine WP.s .n (O.mv rfl) ?_
      refine WP.s .n (O.mv rfl) ?_
      refine WP.s .n (O.bs Try.underlying28 el3_int (evl.l rfl (i64_int (by omega)) evl.n) rfl (by decide)) ?_
      refine WP.ap 1 .n rfl rfl rfl (VP.le_refl _) Try.underlying28 el3_int (by first | omega | (simp; omega)) fun v3 => ?_
      refine WP.s .n (O.asg rfl) ?_
      refine WP.nil ?_
      refine QE.blkN ?_
      refine QE.next ?_
      refine CW.region ?_
      refine WP.s .n (O.add rfl rfl (c := ((c : Int) + 1)) (w64 (by omega))) ?_
      refine WP.s .n (O.mv rfl) ?_
      refine WP.nil ?_
      refine ST.obtold 3 rfl (OB.fam_eq rfl (yss := (tabZ b.length (bF (matF b) (c + 1) (c + 1 + 1) b.length))) (bF_col (by omega))) ?_
      exact QE.round3 (c + 1) v3 (hs ++ [(c : Int)]) (by omega) ⟨by omega, by simp [hhs]⟩ (Imp.cons rfl (Imp.cons rfl (Imp.cons rfl (Imp.cons rfl (Imp.cons rfl (Imp.cons rfl (Imp.cons rfl (Imp.consLe rfl (is_eq (y := (((c + 1) : Nat) : Int)) (by first | rfl | omega | assumption)) Imp.nil)))))))) (OImp.os (OS.keep (OS.keep (OS.keep (OS.keepLe (OB.fam_eq (by first | rfl | omega | assumption) (by first | rfl | omega | assumption)) (OS.keep OS.nil))))))
  · refine CW.exit ?_
    refine QE.thenE ?_
    refine QE.thenE ?_
    refine QE.blkH ?_
    refine QE.next ?_
    refine CW.seq ?_
    have hhl : hs.length = b.length := by omega
    refine CW.join [(1, (kInt .i64).is (b.length : Int)), (4, VP.ex vW), (5, VP.ex vh), (6, VP.ex (.pointer (some ⟨b1, 0, none⟩))), (7, kBool.is false), (8, VP.ex vW), (9, VP.ex vh), (10, VP.ex (.pointer (some ⟨b2, 0, none⟩))), (11, kBool.is false), (21, (kInt .i64).is (b.length : Int)), (22, (kInt .i64).is (c : Int)), (23, kBool.is (decide ((c : Int) < (b.length : Int)))), (143, VP.ex vW), (144, VP.ex vh), (145, kZ.is (uD (matF b) c)), (146, kBool.is false)] [OB.box b2 31 kZ (uD (matF b) c), OB.row vh 3 kI64 hs, OB.row vW 27 kVal vs, OB.fam vs 31 kZ (tabZ b.length (bF (matF b) c (c + 1) b.length)), OB.box b1 31 kZ (uD (matF b) c)] ?_ ?_
    · refine CW.any (by kernel_rfl) ?_
      refine DA.first 0 rfl (by kernel_rfl) (by kernel_rfl) (by kernel_rfl) (fun _ _ _ _ _ h => h) .n (OV.mv rfl) ?_
      refine DA.first 1 rfl (by kernel_rfl) (by kernel_rfl) (by kernel_rfl) (fun _ _ _ _ _ h => h) .n (OV.mv rfl) ?_
      refine DA.first 3 rfl (by kernel_rfl) (by kernel_rfl) (by kernel_rfl) (fun _ _ _ _ _ h => h) .n (OV.mv rfl) ?_
      refine DA.go 2 [4] (by kernel_rfl) ⟨?_, ⟨?_, trivial⟩⟩
      · refine DO.w rfl ?_
        refine WP.s .n (O.ld rfl (mem_at 0 rfl) (Lens.id _) ty31 rfl) ?_
        refine WP.nil ?_
        refine DO.nx ?_
        refine DA.go 4 [] (by kernel_rfl) ⟨?_, trivial⟩
        refine DO.w rfl ?_
        refine WP.s .n (O.asg rfl) ?_
        refine WP.nil ?_
        refine DO.nx ?_
        refine DA.go 5 [] (by kernel_rfl) ⟨?_, trivial⟩
        refine DO.w rfl ?_
        refine WP.s .n (O.asg rfl) ?_
        refine WP.nil ?_
        refine DO.nx ?_
        refine DA.go 6 [] (by kernel_rfl) ⟨?_, trivial⟩
        refine DO.w rfl ?_
        refine WP.t .n (O.stW (l := kZ) (u := (uD (matF b) c)) 4 rfl rfl rfl ty31 rfl (VP.le_refl _)) ?_
        refine WP.nil ?_
        refine DO.nx ?_
        refine DA.go 7 [] (by kernel_rfl) ⟨?_, trivial⟩
        refine DO.w rfl ?_
        refine WP.s .n (O.asg rfl) ?_
        refine WP.nil ?_
        refine DO.nx ?_
        refine DA.nil (by kernel_rfl) ?_
        exact QE.join (Imp.cons rfl (Imp.cons rfl (Imp.cons rfl (Imp.cons rfl (Imp.cons rfl (Imp.cons rfl (Imp.cons rfl (Imp.cons rfl (Imp.cons rfl (Imp.cons rfl (Imp.cons rfl (Imp.cons rfl (Imp.cons rfl (Imp.cons rfl (Imp.cons rfl (Imp.cons rfl Imp.nil)))))))))))))))) (OImp.refl _)
      · refine DO.w rfl ?_
        refine WP.s .n (O.asg rfl) ?_
        refine WP.nil ?_
        refine DO.nx ?_
        refine DA.go 2 [5] (by kernel_rfl) ⟨?_, ⟨?_, trivial⟩⟩
        · refine DO.w rfl ?_
          refine WP.s .n (O.ld rfl (mem_at 0 rfl) (Lens.id _) ty31 rfl) ?_
          refine WP.nil ?_
          refine DO.nx ?_
          refine DA.go 5 [] (by kernel_rfl) ⟨?_, trivial⟩
          refine DO.w rfl ?_
          refine WP.s .n (O.asg rfl) ?_
          refine WP.nil ?_
          refine DO.nx ?_
          refine DA.go 6 [] (by kernel_rfl) ⟨?_, trivial⟩
          refine DO.w rfl ?_
          refine WP.t .n (O.stW (l := kZ) (u := (uD (matF b) c)) 4 rfl rfl rfl ty31 rfl (VP.le_refl _)) ?_
          refine WP.nil ?_
          refine DO.nx ?_
          refine DA.go 7 [] (by kernel_rfl) ⟨?_, trivial⟩
          refine DO.w rfl ?_
          refine WP.s .n (O.asg rfl) ?_
          refine WP.nil ?_
          refine DO.nx ?_
          refine DA.nil (by kernel_rfl) ?_
          exact QE.join (Imp.cons rfl (Imp.cons rfl (Imp.cons rfl (Imp.cons rfl (Imp.cons rfl (Imp.cons rfl (Imp.cons rfl (Imp.cons rfl (Imp.cons rfl (Imp.cons rfl (Imp.cons rfl (Imp.cons rfl (Imp.cons rfl (Imp.cons rfl (Imp.cons rfl (Imp.cons rfl Imp.nil)))))))))))))))) (OImp.refl _)
        · refine DO.w rfl ?_
          refine WP.s .n (O.asg rfl) ?_
          refine WP.nil ?_
          refine DO.nx ?_
          refine DA.go 2 [] (by kernel_rfl) ⟨?_, trivial⟩
          refine DO.w rfl ?_
          refine WP.s .n (O.ld rfl (mem_at 0 rfl) (Lens.id _) ty31 rfl) ?_
          refine WP.nil ?_
          refine DO.nx ?_
          refine DA.go 6 [] (by kernel_rfl) ⟨?_, trivial⟩
          refine DO.w rfl ?_
          refine WP.t .n (O.stW (l := kZ) (u := (uD (matF b) c)) 4 rfl rfl rfl ty31 rfl (VP.le_refl _)) ?_
          refine WP.nil ?_
          refine DO.nx ?_
          refine DA.go 7 [] (by kernel_rfl) ⟨?_, trivial⟩
          refine DO.w rfl ?_
          refine WP.s .n (O.asg rfl) ?_
          refine WP.nil ?_
          refine DO.nx ?_
          refine DA.nil (by kernel_rfl) ?_
          exact QE.join (Imp.cons rfl (Imp.cons rfl (Imp.cons rfl (Imp.cons rfl (Imp.cons rfl (Imp.cons rfl (Imp.cons rfl (Imp.cons rfl (Imp.cons rfl (Imp.cons rfl (Imp.cons rfl (Imp.cons rfl (Imp.cons rfl (Imp.cons rfl (Imp.cons rfl (Imp.cons rfl Imp.nil)))))))))))))))) (OImp.refl _)
    refine QE.next ?_
    refine CW.ret ?_
    refine QE.scR ?_
    refine ST.obtold 4 rfl (OB.box_eq (y := (uD (matF b) b.length)) (by rw [show c = b.length by omega])) ?_
    refine ST.freeze 1 rfl (.keep (i := 1) rfl (.keep (i := 4) rfl (.hit (i := 5) rfl (.keep (i := 6) rfl (.keep (i := 7) rfl (.keep (i := 8) rfl (.hit (i := 9) rfl (.keep (i := 10) rfl (.keep (i := 11) rfl (.keep (i := 21) rfl (.keep (i := 22) rfl (.keep (i := 23) rfl (.keep (i := 143) rfl (.hit (i := 144) rfl (.keep (i := 145) rfl (.keep (i := 146) rfl .nil)))))))))))))))) ?_
    exact QE.done (.inl rfl) rfl (ResOk.tl rfl (fun _ _ _ => trivial) (ResOk.t rfl (ResOk.c rfl (mem_at 3 rfl) ty31 (ResOk.t rfl ResOk.nil)))) (OImp.sub (List.nil_sublist _)) ⟨hs, rfl, rfl, hhl⟩

end Fw


/- Plain facts: powers; the end of QuadMinors. -/
set_option linter.unusedVariables false
set_option linter.unusedSimpArgs false
set_option exponentiation.threshold 400
namespace Fw
open Go

theorem bl_pos {n : Nat} (h : 0 < n) : 0 < bitlen n := by
  have h2 := lt_bitlen n
  rcases Nat.eq_zero_or_pos (bitlen n) with e | e
  · rw [e] at h2; omega
  · exact e
theorem quo_w (b : Nat) : IntKind.i64.wrap ((65536 : Int).tdiv (b : Int)) = ((65536 / b : Nat) : Int) := by
  have e : (65536 : Int).tdiv (b : Int) = ((65536 / b : Nat) : Int) := rfl
  rw [e]
  have h := Nat.div_le_self 65536 b
  generalize 65536 / b = q at h ⊢
  exact w64 (by omega)
theorem and_1 (m : Nat) (h : m < 2 ^ 63) : IntKind.i64.wrap ((BitVec.ofInt IntKind.i64.bits (m : Int) &&& BitVec.ofInt IntKind.i64.bits 1).toNat) = ((m % 2 : Nat) : Int) := by
  have e : (BitVec.ofInt IntKind.i64.bits (m : Int) &&& BitVec.ofInt IntKind.i64.bits 1).toNat = m % 2 := by
    show (BitVec.ofInt 64 (m : Int) &&& BitVec.ofInt 64 1).toNat = m % 2
    rw [BitVec.toNat_and, BitVec.toNat_ofInt, BitVec.toNat_ofInt]
    have e1 : ((m : Int) % ((2 ^ 64 : Nat) : Int)).toNat = m := by omega
    have e2 : ((1 : Int) % ((2 ^ 64 : Nat) : Int)).toNat = 1 := by decide
    rw [e1, e2, Nat.and_one_is_mod]
  rw [e]
  have := Nat.mod_lt m (show 0 < 2 by omega)
  exact w64 (by omega)
theorem shr_1 (m : Nat) : (m : Int).fdiv (2 ^ (min (Int.toNat 1) IntKind.i64.bits)) = ((m / 2 : Nat) : Int) := by
  have e : (2 : Int) ^ (min (Int.toNat 1) IntKind.i64.bits) = 2 := by decide
  rw [e, Int.fdiv_eq_ediv_of_nonneg _ (by omega)]; omega
theorem sq_pow (x : Int) : ∀ m : Nat, (x * x) ^ m = x ^ (2 * m)
  | 0 => by rw [Nat.mul_zero, Int.pow_zero, Int.pow_zero]
  | m + 1 => by
    rw [Int.pow_succ, sq_pow x m, show 2 * (m + 1) = 2 * m + 1 + 1 by omega, Int.pow_succ, Int.pow_succ, Int.mul_assoc]
theorem pow_odd {p x A : Int} {m : Nat} (h : p * x ^ m = A) (hm : m % 2 = 1) : p * x * (x * x) ^ (m / 2) = A := by
  rw [sq_pow, ← h]
  conv => rhs; rw [show m = 2 * (m / 2) + 1 by omega, Int.pow_succ]
  rw [Int.mul_assoc, Int.mul_comm x]
theorem pow_even {p x A : Int} {m : Nat} (h : p * x ^ m = A) (hm : m % 2 ≠ 1) : p * (x * x) ^ (m / 2) = A := by
  rw [sq_pow, ← h, show 2 * (m / 2) = m by omega]
theorem pow_ge {x : Int} (hx : 0 < x) : ∀ {m : Nat}, 0 < m → x ≤ x ^ m
  | 1, _ => by rw [Int.pow_succ, Int.pow_zero, Int.one_mul]; exact Int.le_refl _
  | m + 2, _ => by
    have ih := pow_ge hx (m := m + 1) (by omega)
    have h0 : 0 < x ^ (m + 1) := Int.pow_pos hx
    have := Int.mul_le_mul_of_nonneg_left (show 1 ≤ x by omega) (Int.le_of_lt h0)
    rw [Int.pow_succ]; omega
theorem pow_parts {p x A : Int} {m : Nat} (hp : 0 < p) (hx : 0 < x) (hm : 0 < m) (h : p * x ^ m = A) : p ≤ A ∧ x ≤ A := by
  have h0 : 0 < x ^ m := Int.pow_pos hx
  have h1 := pow_ge hx hm
  have h2 := Int.mul_le_mul_of_nonneg_left (show 1 ≤ x ^ m by omega) (Int.le_of_lt hp)
  have h3 := Int.mul_le_mul_of_nonneg_right (show 1 ≤ p by omega) (Int.le_of_lt h0)
  omega
theorem Sz_below {n : Nat} {z w : Int} (h : Sz n w) (h0 : 0 ≤ z) (hz : z ≤ w) : Sz n z := h.le (by omega)
theorem pow_Sz {a : Int} {c : Nat} (h : Sz c a) : ∀ n : Nat, Sz (c * n + 1) (a ^ n)
  | 0 => by rw [Int.pow_zero, Nat.mul_zero]; show ((1 : Int)).natAbs < 2 ^ (0 + 1); decide
  | n + 1 => by
    rw [Int.pow_succ, Nat.mul_succ]
    have := (pow_Sz h n).mul h
    exact this.up (by omega)
/-! ### The reduced form: what QuadMinors asks -/
theorem mul_w (n m : Nat) (h : n ≤ 12) (h2 : m ≤ 12) : IntKind.i64.wrap ((n : Int) * (m : Int)) = ((n * m : Nat) : Int) := by
  have h3 := Nat.mul_le_mul h h2
  rw [← Int.natCast_mul]
  generalize n * m = q at h3 ⊢
  exact w64 (by omega)
theorem quo2_w (m : Nat) (h : m ≤ 1000) : IntKind.i64.wrap ((m : Int).tdiv 2) = ((m / 2 : Nat) : Int) := by
  have e : (m : Int).tdiv 2 = ((m / 2 : Nat) : Int) := rfl
  rw [e]
  exact w64 (by omega)
theorem sign_le0 {x y : Int} (h : x ≤ y) : (x - y).sign ≤ 0 := by
  rcases Int.lt_trichotomy (x - y) 0 with h1 | h1 | h1
  · rw [Int.sign_eq_neg_one_of_neg h1]; decide
  · rw [h1]; decide
  · omega
theorem p2_int : ∀ m : Nat, p2 m = (((2 : Int) ^ m : Int) : Rat)
  | 0 => rfl
  | m + 1 => by
    show 2 * p2 m = _
    rw [p2_int m, Int.pow_succ, Rat.intCast_mul]
    have : ((2 : Int) : Rat) = 2 := rfl
    rw [this]; grind
theorem h2_int : ∀ m : Nat, h2 m = (((2 : Int) ^ (m * (m - 1) / 2) : Int) : Rat)
  | 0 => rfl
  | m + 1 => by
    show p2 m * h2 m = _
    rw [p2_int m, h2_int m, ← Rat.intCast_mul, ← Int.pow_add]
    congr 2
    rw [Nat.add_sub_cancel]
    cases m with
    | zero => rfl
    | succ m =>
      rw [Nat.add_sub_cancel, show (m + 1 + 1) * (m + 1) = (m + 1) * m + (m + 1) * 2 by rw [← Nat.mul_add, Nat.mul_comm]]
      rw [Nat.add_mul_div_right _ _ (by omega)]; omega
theorem pwQ_int (z : Int) : ∀ m : Nat, pwQ (z : Rat) m = ((z ^ m : Int) : Rat)
  | 0 => by rw [Int.pow_zero]; rfl
  | m + 1 => by
    show (z : Rat) * pwQ (z : Rat) m = _
    rw [pwQ_int z m, Int.pow_succ, Rat.intCast_mul, Rat.mul_comm]
structure MinR (a R : List (List Int)) : Prop where
  len : R.length = a.length
  d : DetB R 4100097
  e : uD (matF R) R.length = uD (matF a) a.length
  p : 0 < (R.getD 0 []).getD 0 0
  z : Sz 260 ((R.getD 0 []).getD 0 0)
  zm : SzM 260 R
  h : ((R.getD 0 []).getD 0 0) ^ a.length ≤ 2 ^ (a.length * (a.length - 1) / 2) * uD (matF a) a.length
theorem minR_of {a R U : List (List Int)} (hM : Sqm a) (hRU : RedU a U) (hR : R = chgV a U) : MinR a R := by
  obtain ⟨hu, _, M, Dm, hMe, hl⟩ := hRU
  have hC := CU_chg (sqm_CU hM) hu
  have hlen : R.length = a.length := by rw [hR]; exact hC.len
  have hC2 : CU R.length R := by rw [hlen, hR]; exact hC
  have hm : ∀ i j, i < a.length → j < a.length → matF R i j = fL a U i j := fun i j hi hj => by rw [hR]; exact matF_chg (sqm_CU hM) hu hi hj
  have hGs := hl.c.s
  have hGp := hl.c.p
  have n0 := hM.n0
  have hsR : SymG (matF R) := matF_sym (fun i hi => hC2.row i hi) (fun i hi k hk => by rw [hm i k (by omega) (by omega), hm k i (by omega) (by omega)]; exact hGs i k)
  have hpR : PosU (matF R) a.length := (posU_congr hm).2 hGp
  have hbound : ∀ i j, i < a.length → j < a.length → Sz 260 (fL a U i j) := fun i j hi hj => by
    have key : ∀ i j, j < i → i < a.length → Sz 260 (fL a U i j) := fun i j h1 h2 => by
      have r1 := row_dia hGs hGp h1 h2 1
      have r2 := row_dia hGs hGp h1 h2 (-1)
      have z1 := hl.z i h2
      have z2 := hl.z j (by omega)
      rw [hMe] at z1 z2
      generalize fL a U i i = x at *
      generalize fL a U j j = y at *
      generalize fL a U i j = z at *
      show z.natAbs < 2 ^ 260
      omega
    rcases Nat.lt_trichotomy i j with h | h | h
    · rw [hGs i j]; exact key j i h hj
    · subst h
      have z1 := hl.z i hi
      have z2 := dia_pos hGs hGp hi
      rw [hMe] at z1
      show (fL a U i i).natAbs < 2 ^ 260
      omega
    · exact key i j h hi
  have hzR : ∀ i j, Sz 260 (matF R i j) := fun i j => by
    by_cases h : i < a.length ∧ j < a.length
    · rw [hm i j h.1 h.2]; exact hbound i j h.1 h.2
    · rw [matF_out (fun i hi => hC2.row i hi) (by rw [hlen]; exact h)]; exact Sz.zero _
  have hDt : uD (matF R) R.length = uD (matF a) a.length := by
    rw [hlen, uD_congr hm (Nat.le_refl _)]; exact hl.c.t
  have h00 : (R.getD 0 []).getD 0 0 = fL a U 0 0 := hm 0 0 n0 n0
  refine ⟨hlen, detB_of hC2 (by omega) (by have := hM.n; omega) hsR (by rw [hlen]; exact hpR) hzR (by decide), hDt, by rw [h00]; exact dia_pos hGs hGp n0, hzR 0 0, fun i j => hzR i j, ?_⟩
  have hh := hermite hGs hGp hl.h hl.v a.length (Nat.le_refl _)
  have e0 : frS (fL a U) 0 = ((fL a U 0 0 : Int) : Rat) := rfl
  rw [e0, pwQ_int, h2_int, ← Rat.intCast_mul, hl.c.t] at hh
  rw [h00]
  exact Rat.intCast_le_intCast.mp hh
end Fw


/- Determinants, powers; QuadMinors. -/
set_option linter.unusedVariables false
set_option linter.unusedSimpArgs false
set_option exponentiation.threshold 400
namespace Fw
open Go Go.Proofs

set_option maxRecDepth 20000 in
set_option maxHeartbeats 1000000 in
theorem c_elim_det (b : List (List Int)) (B : Nat) (hS : DetB b B) : Fn Try.prog 145 [(kSl (kSl kZ)).is b] (kC.is (uD (matF b) b.length)) := by
  refine Con.enter Try.func145 rfl rfl fun m w => ?_
  refine CW.seq ?_
  refine CW.region ?_
  refine WP.al .n z31_C fun b1 => ?_
  refine WP.nil ?_
  refine QE.next ?_
  refine CW.seq ?_
  refine CW.region ?_
  refine WP.s .n (O.mv rfl) ?_
  refine WP.s .n (O.lenS rfl Try.underlying67) ?_
  refine WP.s .n (O.asg rfl) ?_
  refine WP.nil ?_
  refine QE.next ?_
  refine CW.seq ?_
  refine CW.region ?_
  refine WP.s .n (O.mv rfl) ?_
  refine WP.s .n (O.mv rfl) ?_
  refine WP.call (Li := []) (L := [OB.box b1 31 kC 0]) .n fn196 (evs.c rfl (evs.c rfl evs.nil)) (c_elim_bareiss b B (by assumption)) fun p_ Lo_ hp_ => ?_
  obtain ⟨hs, rfl, rfl, hhs⟩ := hp_
  refine WP.s .n (O.mv rfl) ?_
  refine WP.s .n (O.ext rfl rfl) ?_
  refine WP.s .n (O.ext rfl rfl) ?_
  refine WP.s .n (O.ext rfl rfl) ?_
  refine WP.s .n (O.ext rfl rfl) ?_
  refine WP.al .n z31_Z fun b2 => ?_
  refine WP.s .n (O.asg rfl) ?_
  refine WP.s .n (O.asg rfl) ?_
  refine WP.t .n (O.stW (l := kZ) (u := uD (matF b) b.length) 0 rfl rfl rfl ty31 rfl (VP.le_refl _)) ?_
  refine WP.s .n (O.asg rfl) ?_
  refine WP.nil ?_
  refine QE.next ?_
  refine CW.seq ?_
  refine CW.block ?_
  refine CW.seq ?_
  refine CW.region ?_
  refine WP.s .n (O.mv rfl) ?_
  refine WP.s .n (O.lenS rfl Try.underlying28) ?_
  refine WP.s .n (O.mv rfl) ?_
  refine WP.s .n (O.lt rfl rfl) ?_
  refine WP.s .n (O.asg rfl) ?_
  refine WP.nil ?_
  refine QE.next ?_
  refine CW.condD rfl (fun h => absurd h (by omega)) (fun h_t18 => ?_)
  refine CW.seq ?_
  refine CW.region ?_
  refine WP.s .n (O.mv rfl) ?_
  refine WP.s .n (O.asg rfl) ?_
  refine WP.nil ?_
  refine QE.next ?_
  refine CW.condF rfl ?_
  refine CW.skip ?_
  refine QE.blkN ?_
  refine QE.next ?_
  refine CW.seq ?_
  refine CW.region ?_
  refine WP.s .n (O.ld rfl (mem_at 0 rfl) (Lens.id _) ty31 rfl) ?_
  refine WP.s .n (O.fn fn146 (evs.c rfl evs.nil) (c_zint_Form (uD (matF b) b.length))) ?_
  refine WP.t .n (O.stW (l := kC) (u := uD (matF b) b.length) 1 rfl rfl rfl ty31 rfl (VP.le_refl _)) ?_
  refine WP.nil ?_
  refine QE.next ?_
  refine CW.ret ?_
  exact QE.done (.inl rfl) rfl (ResOk.c rfl (mem_at 1 rfl) ty31 ResOk.nil) (OImp.sub (List.nil_sublist _)) ⟨rfl, rfl⟩

set_option maxRecDepth 20000 in
set_option maxHeartbeats 1000000 in
theorem c_elim_Det (b : List (List Int)) (B : Nat) (hS : DetB b B) : Fn Try.prog 72 [(kSl (kSl kZ)).is b] (VP.tup [kC.is (uD (matF b) b.length), (kInt .i64).is 0]) := by
  refine Con.enter Try.func72 rfl rfl fun m w => ?_
  refine CW.seq ?_
  refine CW.region ?_
  refine WP.al .n z31_C fun b1 => ?_
  refine WP.s .n (O.asg rfl) ?_
  refine WP.nil ?_
  refine QE.next ?_
  refine CW.seq ?_
  refine CW.seq ?_
  refine CW.region ?_
  refine WP.s .n (O.mv rfl) ?_
  refine WP.s .n (O.fn fn144 (evs.c rfl evs.nil) (c_elim_square b (by first | assumption | exact hS.u | exact hS.n0 | exact hS.n) (by first | assumption | exact hS.u | exact hS.n0 | exact hS.n) (by first | assumption | exact hS.u | exact hS.n0 | exact hS.n))) ?_
  refine WP.s .n (O.mv rfl) ?_
  refine WP.s .n (O.ext rfl rfl) ?_
  refine WP.s .n (O.ext rfl rfl) ?_
  refine WP.s .n (O.asg rfl) ?_
  refine WP.s .n (O.asg rfl) ?_
  refine WP.nil ?_
  refine QE.next ?_
  refine CW.seq ?_
  refine CW.region ?_
  refine WP.s .n (O.mv rfl) ?_
  refine WP.s .n (O.ne rfl rfl) ?_
  refine WP.nil ?_
  refine QE.next ?_
  refine CW.condD rfl (fun h => absurd h (fun h => h rfl)) (fun h_t12 => ?_)
  refine CW.skip ?_
  refine QE.next ?_
  refine CW.seq ?_
  refine CW.region ?_
  refine WP.s .n (O.mv rfl) ?_
  refine WP.s .n (O.fn fn145 (evs.c rfl evs.nil) (c_elim_det b B (by first | assumption | exact hS.u | exact hS.n0 | exact hS.n))) ?_
  refine WP.t .n (O.stW (l := kC) (u := uD (matF b) b.length) 0 rfl rfl rfl ty31 rfl (VP.le_refl _)) ?_
  refine WP.s .n (O.asg rfl) ?_
  refine WP.nil ?_
  refine QE.next ?_
  refine CW.ret ?_
  exact QE.done (.inl rfl) rfl (ResOk.c rfl (mem_at 0 rfl) ty31 (ResOk.t rfl ResOk.nil)) (OImp.sub (List.nil_sublist _)) ⟨rfl, rfl⟩

set_option maxRecDepth 20000 in
set_option maxHeartbeats 1000000 in
theorem c_zint_Power (a : Int) (n c : Nat) (ha : 0 < a) (hc : Sz c a) (hb : bitlen a.natAbs * n ≤ 65536) (hc2 : c ≤ 1000) (hn : n ≤ 100) : Fn Try.prog 73 [kZ.is a, (kInt .i64).is (n : Int)] (VP.tup [kC.is (a ^ n), (kInt .i64).is 0]) := by
  refine Con.enter Try.func73 rfl rfl fun m w => ?_
  have hbl : 0 < bitlen a.natAbs := bl_pos (by omega)
  have hA := pow_Sz hc n
  have hcn : c * n ≤ 1000 * 100 := Nat.mul_le_mul hc2 hn
  have hquo : n ≤ 65536 / bitlen a.natAbs := (Nat.le_div_iff_mul_le hbl).2 (by rw [Nat.mul_comm]; exact hb)
  refine CW.seq ?_
  refine CW.region ?_
  refine WP.bx .n rfl fun b1 => ?_
  refine WP.al .n z31_C fun b2 => ?_
  refine WP.s .n (O.asg rfl) ?_
  refine WP.nil ?_
  refine QE.next ?_
  refine CW.seq ?_
  refine CW.seq ?_
  refine CW.region ?_
  refine WP.s .n (O.ld rfl (mem_at 1 rfl) (Lens.id _) ty31 rfl) ?_
  refine WP.s .n (O.fn fn96 (evs.c rfl evs.nil) (c_zint_Bits a)) ?_
  refine WP.s .n (O.asg rfl) ?_
  refine WP.nil ?_
  refine QE.next ?_
  refine CW.block ?_
  refine CW.seq ?_
  refine CW.region ?_
  refine WP.s .n (O.mv rfl) ?_
  refine WP.s .n (O.lt rfl rfl) ?_
  refine WP.s .n (O.asg rfl) ?_
  refine WP.nil ?_
  refine QE.next ?_
  refine CW.condD rfl (fun h => absurd h (by omega)) (fun h_t11 => ?_)
  refine CW.seq ?_
  refine CW.region ?_
  refine WP.s .n (O.mv rfl) ?_
  refine WP.s .n (O.gt rfl rfl) ?_
  refine WP.s .n (O.mv rfl) ?_
  refine WP.splitD 18 rfl (fun h_t18 => ?_) (fun h => absurd (by omega) h)
  refine WP.s (.g rfl rfl) (O.mv rfl) ?_
  refine WP.s (.g rfl rfl) (O.mv rfl) ?_
  refine WP.s (.g rfl rfl) (O.quo rfl rfl (by omega) (c := ((65536 / bitlen a.natAbs : Nat) : Int)) (quo_w _)) ?_
  refine WP.s (.g rfl rfl) (O.gt rfl rfl) ?_
  refine WP.s .n (O.pickT rfl rfl) ?_
  refine WP.s .n (O.asg rfl) ?_
  refine WP.nil ?_
  refine QE.next ?_
  refine CW.condD rfl (fun h => absurd h (by omega)) (fun h_t15 => ?_)
  refine CW.seq ?_
  refine CW.region ?_
  refine WP.s .n (O.mv rfl) ?_
  refine WP.s .n (O.eq rfl rfl) ?_
  refine WP.s .n (O.asg rfl) ?_
  refine WP.nil ?_
  refine QE.next ?_
  refine CW.condD rfl (fun h_t25 => ?_) (fun h_t25 => ?_)
  · refine CW.seq ?_
    refine CW.region ?_
    refine WP.s .n (O.fn fn74 (evs.l rfl (i64_int (by omega)) evs.nil) (c_zint_Of 1)) ?_
    refine WP.t .n (O.stW (l := kC) (u := 1) 0 rfl rfl rfl ty31 rfl (VP.le_refl _)) ?_
    refine WP.s .n (O.asg rfl) ?_
    refine WP.nil ?_
    refine QE.next ?_
    refine CW.ret ?_
    refine QE.blkR ?_
    refine QE.thenR ?_
    refine ST.obtold 0 rfl (OB.box_eq (y := (a ^ n)) (by rw [show n = 0 by omega, Int.pow_zero])) ?_
    exact QE.done (.inl rfl) rfl (ResOk.c rfl (mem_at 0 rfl) ty31 (ResOk.t rfl ResOk.nil)) (OImp.sub (List.nil_sublist _)) ⟨rfl, rfl⟩
  · refine CW.seq ?_
    refine CW.region ?_
    refine WP.s .n (O.mv rfl) ?_
    refine WP.s .n (O.eq rfl rfl) ?_
    refine WP.s .n (O.asg rfl) ?_
    refine WP.nil ?_
    refine QE.next ?_
    refine CW.condD rfl (fun h => absurd h (by omega)) (fun h_t29 => ?_)
    refine CW.skip ?_
    refine QE.blkN ?_
    refine QE.next ?_
    refine CW.seq ?_
    refine CW.region ?_
    refine WP.s .n (O.fn fn74 (evs.l rfl (i64_int (by omega)) evs.nil) (c_zint_Of 1)) ?_
    refine WP.al .n z31_C fun b3 => ?_
    refine WP.t .n (O.stW (l := kC) (u := 1) 0 rfl rfl rfl ty31 rfl (VP.le_refl _)) ?_
    refine WP.nil ?_
    refine QE.next ?_
    refine CW.seq ?_
    refine CW.region ?_
    refine WP.s .n (O.ld rfl (mem_at 2 rfl) (Lens.id _) ty31 rfl) ?_
    refine WP.s .n (O.fn fn146 (evs.c rfl evs.nil) (c_zint_Form a)) ?_
    refine WP.al .n z31_C fun b4 => ?_
    refine WP.t .n (O.stW (l := kC) (u := a) 0 rfl rfl rfl ty31 rfl (VP.le_refl _)) ?_
    refine WP.nil ?_
    refine QE.next ?_
    refine CW.block ?_
    refine CW.loop4 (fun (m : Nat) (p : Int) (x : Int) (q : Nat) => 0 < m ∧ m ≤ 100 ∧ 0 < p ∧ 0 < x ∧ p * x ^ m = a ^ n) (fun (m : Nat) (p : Int) (x : Int) (q : Nat) => [(1, (kInt .i64).is (m : Int)), (4, VP.ex (.pointer (some ⟨b2, 0, none⟩))), (5, (kInt .i64).is 0), (7, VP.ex (.pointer (some ⟨b3, 0, none⟩))), (8, VP.ex (.pointer (some ⟨q, 0, none⟩)))]) (fun (m : Nat) (p : Int) (x : Int) (q : Nat) => [OB.box q 31 kC x, OB.box b3 31 kC p, OB.box b2 31 kC 0]) (fun (m : Nat) (p : Int) (x : Int) (q : Nat) => m) n 1 a b4 ⟨by omega, hn, by omega, ha, Int.one_mul _⟩ (Imp.cons rfl (Imp.cons rfl (Imp.cons rfl (Imp.cons rfl (Imp.cons rfl Imp.nil))))) (OImp.os (OS.keep (OS.keep (OS.keep (OS.skip OS.nil))))) ?_
    intro m p x q ⟨hm, hm2, hp, hx, hpx⟩
    have hpp := pow_parts hp hx hm hpx
    have hps := Sz_below hA (Int.le_of_lt hp) hpp.1
    have hxs := Sz_below hA (Int.le_of_lt hx) hpp.2
    refine CW.seq ?_
    refine CW.block ?_
    refine CW.seq ?_
    refine CW.seq ?_
    refine CW.region ?_
    refine WP.s .n (O.mv rfl) ?_
    refine WP.s .n (O.and rfl rfl (c := ((m % 2 : Nat) : Int)) (and_1 m (by omega))) ?_
    refine WP.s .n (O.eq rfl rfl) ?_
    refine WP.nil ?_
    refine QE.next ?_
    refine CW.condD rfl (fun h_t41 => ?_) (fun h_t41 => ?_)
    · refine CW.region ?_
      refine WP.s .n (O.ld rfl (mem_at 1 rfl) (Lens.id _) ty31 rfl) ?_
      refine WP.s .n (O.ld rfl (mem_at 0 rfl) (Lens.id _) ty31 rfl) ?_
      refine WP.s .n (O.fn fn76 (evs.l rfl (kC_Z (by first | exact hps.sm (by omega) | exact hxs.sm (by omega))) (evs.l rfl (kC_Z (by first | exact hps.sm (by omega) | exact hxs.sm (by omega))) evs.nil)) (c_zint_Mul p x)) ?_
      refine WP.t .n (O.stW (l := kC) (u := p * x) 1 rfl rfl rfl ty31 rfl (VP.le_refl _)) ?_
      refine WP.nil ?_
      refine QE.next ?_
      refine CW.seq ?_
      refine CW.region ?_
      refine WP.s .n (O.mv rfl) ?_
      refine WP.s .n (O.shr rfl rfl (by omega) (c := ((m / 2 : Nat) : Int)) (shr_1 m)) ?_
      refine WP.s .n (O.asg rfl) ?_
      refine WP.nil ?_
      refine QE.next ?_
      refine CW.seq ?_
      refine CW.region ?_
      refine WP.s .n (O.mv rfl) ?_
      refine WP.s .n (O.eq rfl rfl) ?_
      refine WP.nil ?_
      refine QE.next ?_
      refine CW.condD rfl (fun h_t48 => ?_) (fun h_t48 => ?_)
      · refine CW.seq ?_
        refine CW.region ?_
        refine WP.s .n (O.ld rfl (mem_at 1 rfl) (Lens.id _) ty31 rfl) ?_
        refine WP.t .n (O.stW (l := kC) (u := p * x) 2 rfl rfl rfl ty31 rfl (VP.le_refl _)) ?_
        refine WP.s .n (O.asg rfl) ?_
        refine WP.nil ?_
        refine QE.next ?_
        refine CW.ret ?_
        refine QE.blkR ?_
        refine QE.thenR ?_
        refine QE.thenR ?_
        refine QE.blkR ?_
        refine ST.obtold 2 rfl (OB.box_eq (y := (a ^ n)) (by rw [show m = 1 by omega, Int.pow_succ, Int.pow_zero, Int.one_mul] at hpx; exact hpx)) ?_
        exact QE.done (.inl rfl) rfl (ResOk.c rfl (mem_at 2 rfl) ty31 (ResOk.t rfl ResOk.nil)) (OImp.sub (List.nil_sublist _)) ⟨rfl, rfl⟩
      · refine CW.skip ?_
        refine QE.blkN ?_
        refine QE.next ?_
        refine CW.seq ?_
        refine CW.seq ?_
        refine CW.region ?_
        refine WP.s .n (O.ld rfl (mem_at 0 rfl) (Lens.id _) ty31 rfl) ?_
        refine WP.nil ?_
        refine QE.next ?_
        refine CW.region ?_
        refine WP.al .n z31_C fun b5 => ?_
        refine WP.t .n (O.stW (l := kC) (u := x) 0 rfl rfl rfl ty31 rfl (VP.le_refl _)) ?_
        refine WP.nil ?_
        refine QE.next ?_
        refine CW.region ?_
        refine WP.s .n (O.ld rfl (mem_at 0 rfl) (Lens.id _) ty31 rfl) ?_
        refine WP.s .n (O.ld rfl (mem_at 0 rfl) (Lens.id _) ty31 rfl) ?_
        refine WP.s .n (O.fn fn76 (evs.l rfl (kC_Z (by first | exact hps.sm (by omega) | exact hxs.sm (by omega))) (evs.l rfl (kC_Z (by first | exact hps.sm (by omega) | exact hxs.sm (by omega))) evs.nil)) (c_zint_Mul x x)) ?_
        refine WP.t .n (O.stW (l := kC) (u := x * x) 0 rfl rfl rfl ty31 rfl (VP.le_refl _)) ?_
        refine WP.nil ?_
        exact QE.round4 (m / 2) (p * x) (x * x) b5 (by omega) ⟨by omega, by omega, Int.mul_pos hp hx, Int.mul_pos hx hx, pow_odd hpx (by omega)⟩ (Imp.consLe rfl (is_eq (y := (((m / 2) : Nat) : Int)) (by first | rfl | omega | assumption)) (Imp.cons rfl (Imp.cons rfl (Imp.cons rfl (Imp.cons rfl Imp.nil))))) (OImp.os (OS.keep (OS.skip (OS.keep (OS.keep OS.nil)))))
    · refine CW.skip ?_
      refine QE.next ?_
      refine CW.seq ?_
      refine CW.region ?_
      refine WP.s .n (O.mv rfl) ?_
      refine WP.s .n (O.shr rfl rfl (by omega) (c := ((m / 2 : Nat) : Int)) (shr_1 m)) ?_
      refine WP.s .n (O.asg rfl) ?_
      refine WP.nil ?_
      refine QE.next ?_
      refine CW.seq ?_
      refine CW.region ?_
      refine WP.s .n (O.mv rfl) ?_
      refine WP.s .n (O.eq rfl rfl) ?_
      refine WP.nil ?_
      refine QE.next ?_
      refine CW.condD rfl (fun h_t48 => ?_) (fun h_t48 => ?_)
      · refine CW.seq ?_
        refine CW.region ?_
        refine WP.s .n (O.ld rfl (mem_at 1 rfl) (Lens.id _) ty31 rfl) ?_
        refine WP.t .n (O.stW (l := kC) (u := p) 2 rfl rfl rfl ty31 rfl (VP.le_refl _)) ?_
        refine WP.s .n (O.asg rfl) ?_
        refine WP.nil ?_
        refine QE.next ?_
        refine CW.ret ?_
        refine QE.blkR ?_
        refine QE.thenR ?_
        refine QE.thenR ?_
        refine QE.blkR ?_
        refine ST.obtold 2 rfl (OB.box_eq (y := (a ^ n)) (by omega)) ?_
        exact QE.done (.inl rfl) rfl (ResOk.c rfl (mem_at 2 rfl) ty31 (ResOk.t rfl ResOk.nil)) (OImp.sub (List.nil_sublist _)) ⟨rfl, rfl⟩
      · refine CW.skip ?_
        refine QE.blkN ?_
        refine QE.next ?_
        refine CW.seq ?_
        refine CW.seq ?_
        refine CW.region ?_
        refine WP.s .n (O.ld rfl (mem_at 0 rfl) (Lens.id _) ty31 rfl) ?_
        refine WP.nil ?_
        refine QE.next ?_
        refine CW.region ?_
        refine WP.al .n z31_C fun b6 => ?_
        refine WP.t .n (O.stW (l := kC) (u := x) 0 rfl rfl rfl ty31 rfl (VP.le_refl _)) ?_
        refine WP.nil ?_
        refine QE.next ?_
        refine CW.region ?_
        refine WP.s .n (O.ld rfl (mem_at 0 rfl) (Lens.id _) ty31 rfl) ?_
        refine WP.s .n (O.ld rfl (mem_at 0 rfl) (Lens.id _) ty31 rfl) ?_
        refine WP.s .n (O.fn fn76 (evs.l rfl (kC_Z (by first | exact hps.sm (by omega) | exact hxs.sm (by omega))) (evs.l rfl (kC_Z (by first | exact hps.sm (by omega) | exact hxs.sm (by omega))) evs.nil)) (c_zint_Mul x x)) ?_
        refine WP.t .n (O.stW (l := kC) (u := x * x) 0 rfl rfl rfl ty31 rfl (VP.le_refl _)) ?_
        refine WP.nil ?_
        exact QE.round4 (m / 2) p (x * x) b6 (by omega) ⟨by omega, by omega, hp, Int.mul_pos hx hx, pow_even hpx (by omega)⟩ (Imp.consLe rfl (is_eq (y := (((m / 2) : Nat) : Int)) (by first | rfl | omega | assumption)) (Imp.cons rfl (Imp.cons rfl (Imp.cons rfl (Imp.cons rfl Imp.nil))))) (OImp.os (OS.keep (OS.skip (OS.keep (OS.keep OS.nil)))))

set_option maxRecDepth 20000 in
set_option maxHeartbeats 1000000 in
theorem c_law22_QuadMinors (a : List (List Int)) : Fn Try.prog 13 [(kSl (kSl kZ)).is a] (kBool.is true) := by
  refine Con.enter Try.func13 rfl rfl fun m w => ?_
  refine CW.seq ?_
  refine CW.region ?_
  refine WP.s .n (O.asg rfl) ?_
  refine WP.nil ?_
  refine QE.next ?_
  refine CW.seq ?_
  refine CW.seq ?_
  refine CW.region ?_
  refine WP.s .n (O.fn fn66 evs.nil (c_law22_alive)) ?_
  refine WP.s .n (O.not (a := true) rfl) ?_
  refine WP.nil ?_
  refine QE.next ?_
  refine CW.condF rfl ?_
  refine CW.skip ?_
  refine QE.next ?_
  refine CW.seq ?_
  refine CW.region ?_
  refine WP.s .n (O.mv rfl) ?_
  refine WP.call (Li := []) (L := []) .n fn71 (evs.c rfl evs.nil) (c_quad_Reduce a) fun p_ Lo_ hp_ => ?_
  obtain ⟨R, U, rfl, rfl, hx⟩ := hp_
  refine WP.s .n (O.mv rfl) ?_
  refine WP.s .n (O.ext rfl rfl) ?_
  refine WP.s .n (O.ext rfl rfl) ?_
  refine WP.s .n (O.ext rfl rfl) ?_
  refine WP.s .n (O.asg rfl) ?_
  refine WP.s .n (O.asg rfl) ?_
  refine WP.s .n (O.asg rfl) ?_
  refine WP.nil ?_
  refine QE.next ?_
  refine CW.seq ?_
  refine CW.seq ?_
  refine CW.region ?_
  refine WP.s .n (O.mv rfl) ?_
  refine WP.s .n (O.ne rfl rfl) ?_
  refine WP.nil ?_
  refine QE.next ?_
  refine CW.condD rfl (fun h_t21 => ?_) (fun h_t21 => ?_)
  · refine CW.seq ?_
    refine CW.region ?_
    refine WP.s .n (O.mv rfl) ?_
    refine WP.s .n (O.lenS rfl Try.underlying67) ?_
    refine WP.s .n (O.eq rfl rfl) ?_
    refine WP.s .n (O.asg rfl) ?_
    refine WP.nil ?_
    refine QE.next ?_
    refine CW.ret ?_
    refine QE.thenR ?_
    refine ST.told 2 rfl (is_eq (y := true) (by have h1 := (hx.1 h_t21).1; rw [h1]; rfl)) ?_
    exact QE.done (.inl rfl) rfl (ResOk.t rfl ResOk.nil) (OImp.sub (List.nil_sublist _)) ⟨rfl, rfl⟩
  · refine CW.skip ?_
    refine QE.next ?_
    refine CW.seq ?_
    have hE0 : quadE a = 0 := by omega
    have hRU := hx.2 hE0
    obtain ⟨hM, hP⟩ := quad_ok hE0
    have hR := minR_of hM hRU.1 hRU.2
    have hDa : DetB a 4100097 := detB_of (sqm_CU hM) hM.n0 hM.n hM.s hP (fun i j => matF_Sz hM.z i j) (by decide)
    have hn12 := hM.n
    have hn0 := hM.n0
    have hnn : a.length * (a.length - 1) / 2 ≤ 66 := by have := Nat.mul_le_mul hn12 (show a.length - 1 ≤ 11 by omega); omega
    have hmm : a.length * (a.length - 1) ≤ 132 := Nat.mul_le_mul hn12 (show a.length - 1 ≤ 11 by omega)
    have hS1 := pow_Sz hR.z a.length
    have hS2 := pow_Sz (show Sz 2 2 from (show (2 : Int).natAbs < 2 ^ 2 by decide)) (a.length * (a.length - 1) / 2)
    have hS3 := hDa.d a.length (Nat.le_refl _)
    have hS4 := hS2.mul hS3
    have hS5 := hR.d.d R.length (Nat.le_refl _)
    have hrl := hR.len
    refine CW.region ?_
    refine WP.s .n (O.mv rfl) ?_
    refine WP.s .n (O.fn fn72 (evs.c rfl evs.nil) (c_elim_Det a 4100097 hDa)) ?_
    refine WP.s .n (O.mv rfl) ?_
    refine WP.s .n (O.ext rfl rfl) ?_
    refine WP.s .n (O.ext rfl rfl) ?_
    refine WP.al .n z31_C fun b1 => ?_
    refine WP.t .n (O.stW (l := kC) (u := uD (matF a) a.length) 0 rfl rfl rfl ty31 rfl (VP.le_refl _)) ?_
    refine WP.s .n (O.asg rfl) ?_
    refine WP.nil ?_
    refine QE.next ?_
    refine CW.seq ?_
    refine CW.region ?_
    refine WP.s .n (O.mv rfl) ?_
    refine WP.s .n (O.fn fn72 (evs.l rfl (slslC_Z (by first | exact Sm_lit (by decide) | exact hS1.sm (by omega) | exact hS2.sm (by omega) | exact hS3.sm (by omega) | exact hR.z.sm (by omega) | exact hS4.sm (by omega) | exact hS5.sm (by omega) | exact hR.zm.sm (by omega))) evs.nil) (c_elim_Det R 4100097 hR.d)) ?_
    refine WP.s .n (O.mv rfl) ?_
    refine WP.s .n (O.ext rfl rfl) ?_
    refine WP.s .n (O.ext rfl rfl) ?_
    refine WP.al .n z31_C fun b2 => ?_
    refine WP.t .n (O.stW (l := kC) (u := uD (matF R) R.length) 0 rfl rfl rfl ty31 rfl (VP.le_refl _)) ?_
    refine WP.s .n (O.asg rfl) ?_
    refine WP.nil ?_
    refine QE.next ?_
    refine CW.seq ?_
    refine CW.seq ?_
    refine CW.region ?_
    refine WP.s .n (O.mv rfl) ?_
    refine WP.s .n (O.ne rfl rfl) ?_
    refine WP.s .n (O.mv rfl) ?_
    refine WP.splitD 37 rfl (fun h => absurd h (fun h => h rfl)) (fun h_t37 => ?_)
    refine WP.s (.g rfl rfl) (O.mv rfl) ?_
    refine WP.s (.g rfl rfl) (O.ne rfl rfl) ?_
    refine WP.s .n (O.pickF rfl rfl) ?_
    refine WP.s .n (O.mv rfl) ?_
    refine WP.splitD 41 rfl (fun h => absurd h (fun h => h rfl)) (fun h_t41 => ?_)
    refine WP.s (.g rfl rfl) (O.ld rfl (mem_at 1 rfl) (Lens.id _) ty31 rfl) ?_
    refine WP.s (.g rfl rfl) (O.ld rfl (mem_at 0 rfl) (Lens.id _) ty31 rfl) ?_
    refine WP.s (.g rfl rfl) (O.fn fn29 (evs.l rfl (kC_I _) (evs.l rfl (kC_I _) evs.nil)) (c_law22_eq (canon (uD (matF a) a.length)) (canon (uD (matF R) R.length)))) ?_
    refine WP.s (.g rfl rfl) (O.not rfl) ?_
    refine WP.s .n (O.pickF rfl rfl) ?_
    refine WP.s .n (O.mv rfl) ?_
    refine WP.split 47 rfl (fun h => Bool.noConfusion ((h.symm.trans (show (!(decide ((canon (uD (matF a) a.length)) = (canon (uD (matF R) R.length))))) = false from (by simp [hR.e]))) : true = false)) (fun h_t47 => ?_)
    refine WP.s (.g rfl rfl) (O.mv rfl) ?_
    refine WP.s (.g rfl rfl) (O.lenS rfl Try.underlying67) ?_
    refine WP.s (.g rfl rfl) (O.mv rfl) ?_
    refine WP.s (.g rfl rfl) (O.lenS rfl Try.underlying67) ?_
    refine WP.s (.g rfl rfl) (O.ne rfl rfl) ?_
    refine WP.s .n (O.pickF rfl rfl) ?_
    refine WP.nil ?_
    refine QE.next ?_
    refine CW.condD rfl (fun h => absurd h (by have := hR.len; omega)) (fun h_t53 => ?_)
    refine CW.skip ?_
    refine QE.next ?_
    refine CW.seq ?_
    refine CW.region ?_
    refine WP.s .n (O.mv rfl) ?_
    refine WP.s .n (O.ix 0 rfl rfl Try.underlying67 ty27 rfl (v := (R.getD 0 [])) (gd [] (by first | omega | (have := hR.len; have := hR.d.u.row 0 (by omega); omega)))) ?_
    refine WP.s .n (O.ldP rfl ty27) ?_
    refine WP.s .n (O.ix 0 rfl rfl Try.underlying27 ty31 rfl (v := ((R.getD 0 []).getD 0 0)) (gd 0 (by first | omega | (have := hR.len; have := hR.d.u.row 0 (by omega); omega)))) ?_
    refine WP.s .n (O.ldP rfl ty31) ?_
    refine WP.s .n (O.mv rfl) ?_
    refine WP.s .n (O.lenS rfl Try.underlying67) ?_
    refine WP.s .n (O.fn fn73 (evs.l rfl (kC_Z (by first | exact Sm_lit (by decide) | exact hS1.sm (by omega) | exact hS2.sm (by omega) | exact hS3.sm (by omega) | exact hR.z.sm (by omega) | exact hS4.sm (by omega) | exact hS5.sm (by omega) | exact hR.zm.sm (by omega))) (evs.l rfl (is_eq (y := ((a.length : Nat) : Int)) (by first | rfl | omega | assumption)) evs.nil)) (c_zint_Power ((R.getD 0 []).getD 0 0) a.length 260 hR.p hR.z (by have h1 := bitlen_le hR.z; have h2 := Nat.mul_le_mul h1 hn12; omega) (by decide) (by omega))) ?_
    refine WP.s .n (O.mv rfl) ?_
    refine WP.s .n (O.ext rfl rfl) ?_
    refine WP.s .n (O.ext rfl rfl) ?_
    refine WP.al .n z31_C fun b3 => ?_
    refine WP.t .n (O.stW (l := kC) (u := ((R.getD 0 []).getD 0 0) ^ a.length) 0 rfl rfl rfl ty31 rfl (VP.le_refl _)) ?_
    refine WP.s .n (O.asg rfl) ?_
    refine WP.nil ?_
    refine QE.next ?_
    refine CW.seq ?_
    refine CW.region ?_
    refine WP.s .n (O.fn fn74 (evs.l rfl (i64_int (by omega)) evs.nil) (c_zint_Of 2)) ?_
    refine WP.s .n (O.mv rfl) ?_
    refine WP.s .n (O.lenS rfl Try.underlying67) ?_
    refine WP.s .n (O.mv rfl) ?_
    refine WP.s .n (O.lenS rfl Try.underlying67) ?_
    refine WP.s .n (O.sub rfl rfl (c := ((a.length - 1 : Nat) : Int)) (w64 (by omega))) ?_
    refine WP.s .n (O.mul rfl rfl (c := ((a.length * (a.length - 1) : Nat) : Int)) (mul_w _ _ (by omega) (by omega))) ?_
    refine WP.s .n (O.quo rfl rfl (by omega) (c := ((a.length * (a.length - 1) / 2 : Nat) : Int)) (quo2_w _ (by omega))) ?_
    refine WP.s .n (O.fn fn73 (evs.l rfl (kC_Z (by first | exact Sm_lit (by decide) | exact hS1.sm (by omega) | exact hS2.sm (by omega) | exact hS3.sm (by omega) | exact hR.z.sm (by omega) | exact hS4.sm (by omega) | exact hS5.sm (by omega) | exact hR.zm.sm (by omega))) (evs.l rfl (is_eq (y := (((a.length * (a.length - 1) / 2) : Nat) : Int)) (by first | rfl | omega | assumption)) evs.nil)) (c_zint_Power 2 (a.length * (a.length - 1) / 2) 2 (by decide) (show (2 : Int).natAbs < 2 ^ 2 by decide) (by have h1 : bitlen (2 : Int).natAbs ≤ 2 := bitlen_le (by decide); have h2 := Nat.mul_le_mul h1 hnn; omega) (by decide) (by omega))) ?_
    refine WP.s .n (O.mv rfl) ?_
    refine WP.s .n (O.ext rfl rfl) ?_
    refine WP.s .n (O.ext rfl rfl) ?_
    refine WP.al .n z31_C fun b4 => ?_
    refine WP.t .n (O.stW (l := kC) (u := 2 ^ (a.length * (a.length - 1) / 2)) 0 rfl rfl rfl ty31 rfl (VP.le_refl _)) ?_
    refine WP.s .n (O.asg rfl) ?_
    refine WP.nil ?_
    refine QE.next ?_
    refine CW.seq ?_
    refine CW.draw (Γ := [.fr ((kInt .i64).is 0), .fr (kBool.is true), .fr (kBool.is true), .fr ((kInt .i64).is 0), .fr (kBool.is true), .fr (kBool.is true), .fr (kBool.is true), .fr (kC.is (((R.getD 0 []).getD 0 0) ^ a.length)), .fr (kC.is (2 ^ (a.length * (a.length - 1) / 2))), .fr (kC.is (uD (matF a) a.length)), .fr (kC.is ((2 ^ (a.length * (a.length - 1) / 2)) * (uD (matF a) a.length))), .fr ((kInt .i64).is (((((R.getD 0 []).getD 0 0) ^ a.length) - ((2 ^ (a.length * (a.length - 1) / 2)) * (uD (matF a) a.length))).sign)), .fr (kBool.is (decide ((((((R.getD 0 []).getD 0 0) ^ a.length) - ((2 ^ (a.length * (a.length - 1) / 2)) * (uD (matF a) a.length))).sign) ≤ 0))), .fr (kBool.is (decide ((((((R.getD 0 []).getD 0 0) ^ a.length) - ((2 ^ (a.length * (a.length - 1) / 2)) * (uD (matF a) a.length))).sign) ≤ 0)))]) (lates := [false, false, false, false, false, false, false, false, false, false, false, false, false, false]) (by kernel_rfl) (Chk.of rfl (by kernel_rfl) rfl) (fun _ _ _ _ _ h => h) (fun q_ x_ h_ => ?_) (fun σ1 => ?_)
    · match q_, h_ with
      | 0, h_ => cases h_; exact Ob.f rfl .n fun N => (O.mv rfl)
      | 1, h_ => cases h_; exact Ob.f rfl .n fun N => (OpOk.le (O.eq rfl rfl) (is_eq (decide_eq_true rfl)))
      | 2, h_ => cases h_; exact Ob.f rfl .n fun N => (O.mv rfl)
      | 3, h_ => cases h_; exact Ob.f rfl (.g rfl rfl) fun N => (O.mv rfl)
      | 4, h_ => cases h_; exact Ob.f rfl (.g rfl rfl) fun N => (OpOk.le (O.eq rfl rfl) (is_eq (decide_eq_true rfl)))
      | 5, h_ => cases h_; exact Ob.f rfl .n fun N => (O.pickT rfl rfl)
      | 6, h_ => cases h_; exact Ob.f rfl .n fun N => (O.mv rfl)
      | 7, h_ => cases h_; exact Ob.f rfl (.g rfl rfl) fun N => (O.ld rfl (mem_app N (mem_at 1 rfl)) (Lens.id _) ty31 rfl)
      | 8, h_ => cases h_; exact Ob.f rfl (.g rfl rfl) fun N => (O.ld rfl (mem_app N (mem_at 0 rfl)) (Lens.id _) ty31 rfl)
      | 9, h_ => cases h_; exact Ob.f rfl (.g rfl rfl) fun N => (O.ld rfl (mem_app N (mem_at 3 rfl)) (Lens.id _) ty31 rfl)
      | 10, h_ => cases h_; exact Ob.f rfl (.g rfl rfl) fun N => (O.fn fn76 (evs.l rfl (kC_Z (by first | exact Sm_lit (by decide) | exact hS1.sm (by omega) | exact hS2.sm (by omega) | exact hS3.sm (by omega) | exact hR.z.sm (by omega) | exact hS4.sm (by omega) | exact hS5.sm (by omega) | exact hR.zm.sm (by omega))) (evs.l rfl (kC_Z (by first | exact Sm_lit (by decide) | exact hS1.sm (by omega) | exact hS2.sm (by omega) | exact hS3.sm (by omega) | exact hR.z.sm (by omega) | exact hS4.sm (by omega) | exact hS5.sm (by omega) | exact hR.zm.sm (by omega))) evs.nil)) (c_zint_Mul (2 ^ (a.length * (a.length - 1) / 2)) (uD (matF a) a.length)))
      | 11, h_ => cases h_; exact Ob.f rfl (.g rfl rfl) fun N => (O.fn fn75 (evs.l rfl (kC_Z (by first | exact Sm_lit (by decide) | exact hS1.sm (by omega) | exact hS2.sm (by omega) | exact hS3.sm (by omega) | exact hR.z.sm (by omega) | exact hS4.sm (by omega) | exact hS5.sm (by omega) | exact hR.zm.sm (by omega))) (evs.l rfl (kC_Z (by first | exact Sm_lit (by decide) | exact hS1.sm (by omega) | exact hS2.sm (by omega) | exact hS3.sm (by omega) | exact hR.z.sm (by omega) | exact hS4.sm (by omega) | exact hS5.sm (by omega) | exact hR.zm.sm (by omega))) evs.nil)) (c_zint_Compare (((R.getD 0 []).getD 0 0) ^ a.length) ((2 ^ (a.length * (a.length - 1) / 2)) * (uD (matF a) a.length))))
      | 12, h_ => cases h_; exact Ob.f rfl (.g rfl rfl) fun N => (O.le rfl rfl)
      | 13, h_ => cases h_; exact Ob.f rfl .n fun N => (O.pickT rfl rfl)
      | n_ + 14, h_ => simp at h_
    refine WP.s .n (O.asg rfl) ?_
    refine WP.nil ?_
    refine QE.next ?_
    refine CW.ret ?_
    refine ST.told 2 rfl (is_eq (y := true) (decide_eq_true (sign_le0 hR.h))) ?_
    exact QE.done (.inl rfl) rfl (ResOk.t rfl ResOk.nil) (OImp.sub (List.nil_sublist _)) ⟨rfl, rfl⟩

end Fw


/- Proved: QuadMinors, for every input of bulk at most 1048576; no other condition. -/
set_option linter.unusedVariables false
namespace Go.Proofs.Ytgbafijcklgajaa.quadMinors
open Go.ChangeShapes Go.WideShapes Go.ChangeAt Go.RowKit Fw
theorem rd31 : Rd Try.prog 31 kZ ZB := rd_Z (rd_struct (fs := [_, _]) Try.underlying31 (by kernel_rfl) (rdf_cons rfl (by kernel_rfl) (rd_bool Try.underlying4) rfl (rdf_last rfl (by kernel_rfl) (rd_sl Try.underlying29 (by kernel_rfl) (by decide) (rd_limb Try.underlying121)))))
theorem rd27 : Rd Try.prog 27 (kSl kZ) (fun xs => xs.length ≤ uptoN ∧ ∀ x ∈ xs, ZB x) := rd_sl Try.underlying27 (by kernel_rfl) (by decide) rd31
theorem rd67 : Rd Try.prog 67 (kSl (kSl kZ)) (fun xs => xs.length ≤ uptoN ∧ ∀ x ∈ xs, (fun xs => xs.length ≤ uptoN ∧ ∀ x ∈ xs, ZB x) x) := rd_sl Try.underlying67 (by kernel_rfl) (by decide) rd27
theorem own : ownKnob Try.prog.godebug = none := by kernel_rfl
theorem laidOut : laidOutB Try.prog = true := by kernel_rfl
set_option maxRecDepth 100000 in
theorem contract (H : Type) (enc : TypeId × Value → H) (W : World) (base : Nat) (args : Array Value) (ds gs : List (DataW H)) (before : List MemPlace)
    (hval : ∀ (j : Nat) t v, Try.f13.params[j]? = some t → args[j]? = some v → Value.okWide Try.prog W .any base t v)
    (hW : DataW.Whole enc Try.prog Try.f13.params.toList Rows.quadMinorsSpec.vars false W args.toList ds gs before) (hk : Rows.uptoSmall H (ds ++ gs) = true) :
    Calls Try.prog 13 args W fun e W' => ∃ v, e = .returned v ∧ Rows.quadMinorsSpec.post enc Try.prog Try.f13 false true false false W args v W' := by
  have hW' := hW
  obtain ⟨p, q, hA0, hV, rfl, hfz, hnd⟩ := hW
  have hA : DataW.TrodAll enc Try.prog W 0 (fun _ => true) true Try.f13.params.toList args.toList ds p := hA0
  rw [Try.params13] at hA hval
  obtain ⟨rfl, rfl⟩ := trodVars_none hV
  unfold Rows.uptoSmall at hk
  have hbulk := of_decide_eq_true hk
  rw [List.append_nil] at hbulk
  obtain ⟨v0, vs0, d0, ds0, p0, q0, hargs, rfl, rfl, h0, r0⟩ := trodAll_cons hA
  obtain ⟨rfl, rfl, rfl⟩ := trodAll_nil r0
  obtain rfl : args = [v0].toArray := by cases args; simp_all
  simp only [Rows.uptoBulkAll] at hbulk
  obtain ⟨x0, a0, b0⟩ := arg_sl Try.underlying67 rd67 (hval 0 67 v0 rfl rfl) h0 (by unfold uptoN; omega)
  refine ((c_law22_QuadMinors x0).calls (vs := [v0]) ⟨a0, trivial⟩).mono fun e W' ⟨he, bel⟩ => ?_
  subst he
  exact ⟨_, rfl, _, _, _, [], _, [], hW', trodAll_mk1 (shut_bool Try.underlying4 _), below_all laidOut bel (by kernel_rfl) hA0 (fun x hx => by simpa using hW'.lt x (by simpa using hx)), rfl, bel.frame _, fun h => by cases h⟩
set_option maxRecDepth 100000 in
theorem lifted (os : Os) (started : os.Started) (H : Type) (enc : TypeId × Value → H) (F : Stop.Interp) :
    ReturnsInHanded {} Try.checked os 13 .any ((Rows.OpenSpec.upto Rows.quadMinorsSpec).pre6 enc Try.prog Try.f13 Rows.quadMinorsUptoRow.domain false) (((Rows.OpenSpec.upto Rows.quadMinorsSpec).at F).post enc Try.prog Try.f13 false true false false) := by
  refine returnsInHanded_of_cond (C := Try.checked) (s := Rows.OpenSpec.upto Rows.quadMinorsSpec) (k := Rows.uptoSmall) rfl own started (by kernel_rfl) Try.func13
    (OpenSpec.witness (enc := enc) (C := Try.checked) (s := Rows.OpenSpec.upto Rows.quadMinorsSpec) (k := Rows.uptoSmall) rfl false ⟨#[], #[.slice none 0 0], []⟩ 8 (by kernel_rfl) (by kernel_rfl) (by kernel_rfl)
      (x := ([.nil], [], [])) (by kernel_rfl) rfl (by kernel_rfl)) ?_
  intro W base args ds gs before hval hW _ hk _
  exact contract H enc W base args ds gs before hval hW hk
theorem over : Rows.quadMinorsUptoRow.holds Try.pinned (Rows.OpenSpec.upto Rows.quadMinorsSpec) :=
  OpenClaim.holds_of_cond 13 Try.f13 rfl rfl rfl rfl rfl rfl rfl ⟨rfl, rfl, rfl, rfl, rfl⟩ rfl rfl rfl rfl rfl (by kernel_rfl) Try.func13 (by kernel_rfl)
    (of_decide_eq_true (by kernel_rfl)) (by unfold Func.isWrapper; first | (rw [if_pos (by decide +kernel)]; kernel_rfl) | (rw [if_neg (by decide +kernel)]; exact ⟨rfl, rfl⟩))
    (fun os started H enc _ F => lifted os started H enc F)
theorem proved : Rows.QuadMinorsUptoSaid := over
end Go.Proofs.Ytgbafijcklgajaa.quadMinors
