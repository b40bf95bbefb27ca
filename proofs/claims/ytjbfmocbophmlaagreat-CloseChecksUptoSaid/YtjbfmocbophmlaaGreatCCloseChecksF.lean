/- Frame, facts and contracts for CloseChecks. -/
import Derived.Test.YtjbfmocbophmlaaGreatCCloseChecksE
/- Plain facts: the steps of the reduction of rows; what holds all along; the end is one. -/
set_option linter.unusedVariables false
set_option linter.unusedSimpArgs false
namespace Fw
open Go
instance (G : Fi) (x : Nat) : Decidable (lov G x) := by unfold lov; infer_instance
structure WL where
  b : List (List Int)
  u : List (List Int)
  v : List (List Int)
def qN (w : WL) (k j : Nat) : Int := nearQ (frM (gram w.b) k j)
def wlose (w : WL) (k j : Nat) (q : Int) : WL := ⟨rowU w.b k j (-q), rowU w.u k j (-q), colV w.v k j q⟩
def wswp (w : WL) (k : Nat) : WL := ⟨swpU w.b (k - 1), swpU w.u (k - 1), colS w.v k⟩
def wsz1 (w : WL) (k j : Nat) : WL := if qN w k j = 0 then w else wlose w k j (qN w k j)
def wszs (k : Nat) : Nat → WL → WL
  | 0, w => w
  | c + 1, w => wszs k c (wsz1 w k c)
def wstep (n : Nat) (s : WL × List Int × Nat) : WL × List Int × Nat :=
  if s.2.2 < n then
    (if lov (gram (wszs s.2.2 s.2.2 s.1).b) s.2.2 then (wszs s.2.2 s.2.2 s.1, s.2.1, s.2.2 + 1)
     else (wswp (wszs s.2.2 s.2.2 s.1) s.2.2, s.2.1 ++ [(s.2.2 : Int)], max (s.2.2 - 1) 1))
  else s
def wit (n : Nat) (s : WL × List Int × Nat) : Nat → WL × List Int × Nat
  | 0 => s
  | t + 1 => wstep n (wit n s t)
def wR (n : Nat) (s y : WL × List Int × Nat) : Prop := ∃ t, wit n s t = y
theorem wR.refl {n s} : wR n s s := ⟨0, rfl⟩
theorem wR.step {n s y} (h : wR n s y) : wR n s (wstep n y) := by
  obtain ⟨t, rfl⟩ := h; exact ⟨t + 1, rfl⟩
theorem wit_add (n s) (t : Nat) : ∀ r, wit n s (t + r) = wit n (wit n s t) r
  | 0 => rfl
  | r + 1 => by show wstep n (wit n s (t + r)) = _; rw [wit_add n s t r]; rfl
theorem wit_end {n : Nat} {s : WL × List Int × Nat} (h : ¬ s.2.2 < n) : ∀ r, wit n s r = s
  | 0 => rfl
  | r + 1 => by show wstep n (wit n s r) = s; rw [wit_end h r]; unfold wstep; rw [if_neg h]
theorem wR.det {n : Nat} {s y z : WL × List Int × Nat} (h : wR n s y) (h2 : wR n s z) (hy : ¬ y.2.2 < n) (hz : ¬ z.2.2 < n) : y = z := by
  obtain ⟨t, rfl⟩ := h
  obtain ⟨r, rfl⟩ := h2
  rcases Nat.le_total t r with e | e
  · obtain ⟨d, rfl⟩ : ∃ d, r = t + d := ⟨r - t, by omega⟩
    rw [wit_add, wit_end hy]
  · obtain ⟨d, rfl⟩ : ∃ d, t = r + d := ⟨t - r, by omega⟩
    rw [wit_add, wit_end hz]
def w0 (b : List (List Int)) : WL × List Int × Nat := (⟨b, unitV b.length, unitV b.length⟩, [], 1)
structure WC (b : List (List Int)) (P : Int) (B U V : List (List Int)) (S : List Int) : Prop where
  rb : CR b.length (b.getD 0 []).length B
  ru : CU b.length U
  rv : CU b.length V
  gu : gram B = fU (gram b) b.length (matF U)
  gv : ∀ x y, x < b.length → y < b.length → gram b x y = fU (gram B) b.length (matF V) x y
  sw : (4 : Int) ^ S.length * pD (gram B) b.length ≤ 3 ^ S.length * P
structure WI (b : List (List Int)) (M Dm P : Int) (B U V : List (List Int)) (S : List Int) (k : Nat) : Prop where
  wc : WC b P B U V S
  l : LL (gram b) b.length M Dm (gram B) k k
  r : wR b.length (w0 b) (⟨B, U, V⟩, S, k)
  k0 : 0 < k
  kn : k ≤ b.length
structure WJ (b : List (List Int)) (M Dm P : Int) (B0 U0 V0 B U V : List (List Int)) (S : List Int) (k c : Nat) : Prop where
  wc : WC b P B U V S
  l : LR (gram b) b.length M Dm (gram B) k c
  e : wszs k c ⟨B, U, V⟩ = wszs k k ⟨B0, U0, V0⟩
  ck : c ≤ k
  s : sumD (gram B) b.length = sumD (gram B0) b.length
structure WK (b : List (List Int)) (M Dm P : Int) (B0 U0 V0 B U V : List (List Int)) (S : List Int) (k : Nat) : Prop where
  wc : WC b P B U V S
  l : LL (gram b) b.length M Dm (gram B) (k + 1) k
  e : (⟨B, U, V⟩ : WL) = wszs k k ⟨B0, U0, V0⟩
  s : sumD (gram B) b.length = sumD (gram B0) b.length
section
variable {b B0 U0 V0 B U V : List (List Int)} {S : List Int} {M Dm P : Int} {k c N : Nat}
theorem basis_CR (h : Basis b) : CR b.length (b.getD 0 []).length b := ⟨rfl, fun x hx => h.r x hx⟩
theorem WI.init (h : Basis b) (hM : ∀ x, x < b.length → gram b x x ≤ M) (hD : ∀ l, l ≤ b.length → uD (gram b) l ≤ Dm) (hB : LB M Dm N) : WI b M Dm (pD (gram b) b.length) b (unitV b.length) (unitV b.length) [] 1 := by
  have hc := basis_CR h
  have hg : gram b = fU (gram b) b.length (matF (unitV b.length)) := (fU_unit (unitV_at _) fun x y hxy => gram_out hc hxy).symm
  exact ⟨⟨hc, CU_unit _, CU_unit _, hg, fun x y _ _ => by rw [← hg], by simp⟩, LL.init (gram_symG h.r) h.p hM hD hB, wR.refl, by omega, h.n0⟩
theorem WI.begin (h : WI b M Dm P B U V S k) (hk : k < b.length) : WJ b M Dm P B U V B U V S k k :=
  ⟨h.wc, h.l.start hk, rfl, Nat.le_refl _, rfl⟩
theorem WJ.zero (h : WJ b M Dm P B0 U0 V0 B U V S k c) (h0 : 0 < c) (hk : k < b.length) (hz : nearQ (frM (gram B) k (c - 1)) = 0) : WJ b M Dm P B0 U0 V0 B U V S k (c - 1) := by
  refine ⟨h.wc, h.l.zero' h0 h.ck hk hz, ?_, by have := h.ck; omega, h.s⟩
  obtain ⟨j, rfl⟩ : ∃ j, c = j + 1 := ⟨c - 1, by omega⟩
  rw [← h.e]
  show _ = wszs k j (wsz1 ⟨B, U, V⟩ k j)
  exact congrArg (wszs k j) (if_pos (c := nearQ (frM (gram B) k j) = 0) hz).symm
theorem WC.lose (h : WC b P B U V S) (hs : SymG (gram B)) (hp : PosU (gram B) b.length) {j : Nat} (hj : j < k) (hk : k < b.length) (q : Int) : WC b P (rowU B k j (-q)) (rowU U k j (-q)) (colV V k j q) S := by
  have hg := gram_row h.rb (j := j) (-q) hk
  refine ⟨CR_row h.rb _ hk, CU_row h.ru _ hk, (CR_colV h.rv.cr k j q).cu, ?_, ?_, ?_⟩
  · rw [hg, h.gu, ← fU_row]
    exact (fU_congr fun x i hi => matF_rowU h.ru (-q) hk x i hi).symm
  · intro x y hx hy
    rw [hg, fU_col_back h.rv.cr hk (by omega) (by omega) hx hy]
    exact h.gv x y hx hy
  · rw [hg, pD_row hs hp hj]; exact h.sw
theorem WJ.lose (h : WJ b M Dm P B0 U0 V0 B U V S k c) (h0 : 0 < c) (hk : k < b.length) (hz : nearQ (frM (gram B) k (c - 1)) ≠ 0) : WJ b M Dm P B0 U0 V0 (rowU B k (c - 1) (-(nearQ (frM (gram B) k (c - 1))))) (rowU U k (c - 1) (-(nearQ (frM (gram B) k (c - 1))))) (colV V k (c - 1) (nearQ (frM (gram B) k (c - 1)))) S k (c - 1) := by
  have hck := h.ck
  refine ⟨h.wc.lose h.l.c.s h.l.c.p (by omega) hk _, ?_, ?_, by omega, ?_⟩
  · rw [gram_row h.wc.rb _ hk]; exact h.l.step' h0 hck hk
  · obtain ⟨j, rfl⟩ : ∃ j, c = j + 1 := ⟨c - 1, by omega⟩
    rw [← h.e]
    show _ = wszs k j (wsz1 ⟨B, U, V⟩ k j)
    exact congrArg (wszs k j) (if_neg (c := nearQ (frM (gram B) k j) = 0) hz).symm
  · rw [gram_row h.wc.rb _ hk, sumD_row h.l.c.s h.l.c.p (by omega)]; exact h.s
theorem WJ.fin (h : WJ b M Dm P B0 U0 V0 B U V S k 0) (hk : k < b.length) (h12 : b.length ≤ 12) : WK b M Dm P B0 U0 V0 B U V S k :=
  ⟨h.wc, h.l.fin hk h12, h.e, h.s⟩
theorem WK.yes (h : WK b M Dm P B0 U0 V0 B U V S k) (hi : WI b M Dm P B0 U0 V0 S k) (hk : k < b.length) (hl : lov (gram B) k) : WI b M Dm P B U V S (k + 1) := by
  refine ⟨h.wc, h.l.yes hl, ?_, by omega, by omega⟩
  have := hi.r.step
  unfold wstep at this
  rw [if_pos hk] at this
  dsimp only at this
  rw [← h.e, if_pos hl] at this
  exact this
theorem WC.swp (h : WC b P B U V S) (hs : SymG (gram B)) (hp : PosU (gram B) b.length) {p : Nat} (hk : p + 1 < b.length) (hl : ¬ lov (gram B) (p + 1)) : WC b P (swpU B p) (swpU U p) (colS V (p + 1)) (S ++ [((p + 1 : Nat) : Int)]) := by
  have hg := gram_swp h.rb hk
  refine ⟨CR_swp h.rb hk, CU_swp h.ru hk, (CR_colS h.rv.cr (p + 1)).cu, ?_, ?_, ?_⟩
  · rw [hg, h.gu, ← fU_swp]
    exact (fU_congr fun x i hi => by unfold matF; rw [swpU_get h.ru hk]).symm
  · intro x y hx hy
    rw [hg, fU_swp_back h.rv.cr hk hx hy]
    exact h.gv x y hx hy
  · rw [hg, List.length_append]
    have h1 := pD_swp hs hp hk hl b.length (by omega) (Nat.le_refl _)
    have h2 := h.sw
    have h4 : (0 : Int) ≤ 4 ^ S.length := Int.le_of_lt (Int.pow_pos (by decide))
    have h5 := Int.mul_le_mul_of_nonneg_left h1 h4
    show (4 : Int) ^ (S.length + 1) * _ ≤ 3 ^ (S.length + 1) * P
    rw [Int.pow_succ, Int.pow_succ]
    grind
theorem WK.no (h : WK b M Dm P B0 U0 V0 B U V S k) (hi : WI b M Dm P B0 U0 V0 S k) (hk : k < b.length) (hl : ¬ lov (gram B) k) : WI b M Dm P (swpU B (k - 1)) (swpU U (k - 1)) (colS V k) (S ++ [(k : Int)]) (max (k - 1) 1) := by
  have hk0 := hi.k0
  have hr := hi.r.step
  unfold wstep at hr
  rw [if_pos hk] at hr
  dsimp only at hr
  rw [← h.e, if_neg hl] at hr
  obtain ⟨p, rfl⟩ : ∃ p, k = p + 1 := ⟨k - 1, by omega⟩
  refine ⟨h.wc.swp h.l.c.s h.l.c.p hk hl, ?_, hr, by omega, by omega⟩
  have := LL.no' h.l (by omega) hk (by rw [show p + 1 - 1 + 1 = p + 1 by omega]; exact hl)
  rw [show p + 1 - 1 = p by omega] at this ⊢
  rw [gram_swp h.wc.rb hk]
  exact this
theorem WK.mu_no (h : WK b M Dm P B0 U0 V0 B U V S k) (h0 : 0 < k) (hk : k < b.length) (hl : ¬ lov (gram B) k) (k2 : Nat) : muL (gram (swpU B (k - 1))) b.length k2 < muL (gram B0) b.length k := by
  obtain ⟨p, rfl⟩ : ∃ p, k = p + 1 := ⟨k - 1, by omega⟩
  refine muL_no ?_ k2
  rw [show p + 1 - 1 = p by omega, gram_swp h.wc.rb hk, ← h.s]
  exact sumD_swp h.l.c.s h.l.c.p hk hl
theorem WK.mu_yes (h : WK b M Dm P B0 U0 V0 B U V S k) (hk : k < b.length) : muL (gram B) b.length (k + 1) < muL (gram B0) b.length k := muL_yes h.s hk
theorem WC.szB (h : WC b P B U V S) (hB : LB M Dm N) (hd : ∀ x, x < b.length → gram B x x ≤ gB M Dm) : SzM (4 * N + 8) B := fun x i => by
  by_cases hx : x < b.length
  · by_cases hi : i < (b.getD 0 []).length
    · have h1 := entry_sq h.rb (x := x) hi
      have h2 := Int.le_trans (hd x hx) hB.g
      have h3 : (0 : Int) ≤ gram B x x := Int.le_trans (by rcases Int.le_total 0 (matF B x i) with e | e; exact Int.mul_nonneg e e; exact Int.mul_nonneg_of_nonpos_of_nonpos e e) h1
      exact (Sz.sq (Sz_pw (N := N) (by omega) h2) h1).up (by omega)
    · rw [getD_nil_of _ _ (by rw [h.rb.row x hx]; omega)]; exact Sz.zero _
  · rw [getD_nil_of B _ (by rw [h.rb.len]; omega)]; exact Sz.zero _
theorem WC.szU (h : WC b P B U V S) (hs : SymG (gram b)) (hp : PosU (gram b) b.length) (h12 : b.length ≤ 12) (hB : LB M Dm N) (hM : ∀ x, x < b.length → gram b x x ≤ M) (hD : ∀ l, l ≤ b.length → uD (gram b) l ≤ Dm) (hd : ∀ x, x < b.length → gram B x x ≤ gB M Dm) : SzM (4 * N + 8) U :=
  sz_Ul h.ru (sz_U hs hp h12 hB hM hD fun x hx => by rw [← h.gu]; exact hd x hx)
theorem WC.szV (h : WC b P B U V S) (hl : LC (gram b) b.length M Dm (gram B)) (h12 : b.length ≤ 12) (hB : LB M Dm N) (hM : ∀ x, x < b.length → gram b x x ≤ M) (hd : ∀ x, x < b.length → gram B x x ≤ gB M Dm) : SzM (4 * N + 8) V := sz_Ul h.rv fun x l hx hll => by
  have g0 := hB.g0
  have m1 := hB.m1
  have hQ : qf (qG (gram B)) b.length (fun i => (matF V x i : Rat)) ≤ ((gB M Dm : Int) : Rat) := by
    rw [← fU_qf, ← h.gv x x hx hx]; exact Rat.intCast_le_intCast.mpr (Int.le_trans (hM x hx) (by omega))
  have w := coef_le hl.s hl.p h12 (M := gB M Dm) hd hl.d (fun i => (matF V x i : Rat)) hQ (by omega) (by omega) 12 l hll (by omega)
  obtain ⟨w1, w2⟩ := wi_int w
  have c := hB.c
  exact (Sz_pw (N := N) (by omega) (by omega)).up (by omega)
end
end Fw
/- Plain facts for the reduction of rows: steps by whole numbers, columns made one by one, sizes of a basis. -/
set_option linter.unusedVariables false
set_option linter.unusedSimpArgs false
set_option exponentiation.threshold 400
namespace Fw
open Go
section
variable {G : Fi} {n : Nat}
theorem lov_iff (hs : SymG G) (hp : PosU G n) {p : Nat} (h : p + 1 < n) : (3 * (uD G (p + 1) * uD G (p + 1)) - 4 * (uD G p * uD G (p + 2) + uE G p (p + 1) p * uE G p (p + 1) p)).sign ≤ 0 ↔ lov G (p + 1) := by
  have a0 : (0 : Rat) < (uD G p : Rat) := Rat.intCast_lt_intCast.mpr (hp.uD (by omega))
  have b0 : (0 : Rat) < (uD G (p + 1) : Rat) := Rat.intCast_lt_intCast.mpr (hp.uD (by omega))
  have e1 := uD_succ hs hp (show p < n by omega)
  have e2 := uD_succ hs hp (show p + 1 < n by omega)
  have e3 := uE_fr hs hp (show p < p + 1 by omega) h
  have hl : lov G (p + 1) ↔ (3 / 4 : Rat) * frS G p ≤ frS G (p + 1) + frM G (p + 1) p * frM G (p + 1) p * frS G p := by unfold lov; rw [show p + 1 - 1 = p by omega]
  have hd : (3 * (uD G (p + 1) * uD G (p + 1)) - 4 * (uD G p * uD G (p + 2) + uE G p (p + 1) p * uE G p (p + 1) p)).sign ≤ 0 ↔ 3 * (uD G (p + 1) * uD G (p + 1)) ≤ 4 * (uD G p * uD G (p + 2) + uE G p (p + 1) p * uE G p (p + 1) p) := by
    constructor
    · exact sgn_le
    · intro h1
      by_cases h2 : (3 * (uD G (p + 1) * uD G (p + 1)) - 4 * (uD G p * uD G (p + 2) + uE G p (p + 1) p * uE G p (p + 1) p)).sign ≤ 0
      · exact h2
      · have := sgn_gt h2; omega
  have hq : 3 * (uD G (p + 1) * uD G (p + 1)) ≤ 4 * (uD G p * uD G (p + 2) + uE G p (p + 1) p * uE G p (p + 1) p) ↔ (3 : Rat) * ((uD G (p + 1) : Rat) * (uD G (p + 1) : Rat)) ≤ 4 * ((uD G p : Rat) * (uD G (p + 2) : Rat) + (uE G p (p + 1) p : Rat) * (uE G p (p + 1) p : Rat)) := by
    rw [← Rat.intCast_le_intCast]
    simp only [Rat.intCast_mul, Rat.intCast_add]
    exact Iff.rfl
  rw [hd, hl, hq]
  replace e2 : (uD G (p + 2) : Rat) = (uD G (p + 1) : Rat) * frS G (p + 1) := e2
  generalize frS G p = s0 at *
  generalize frS G (p + 1) = s1 at *
  generalize frM G (p + 1) p = m at *
  have x1 : (3 : Rat) * ((uD G (p + 1) : Rat) * (uD G (p + 1) : Rat)) = (4 * (uD G p : Rat) * (uD G (p + 1) : Rat)) * (3 / 4 * s0) := by grind
  have x2 : (4 : Rat) * ((uD G p : Rat) * (uD G (p + 2) : Rat) + (uE G p (p + 1) p : Rat) * (uE G p (p + 1) p : Rat)) = (4 * (uD G p : Rat) * (uD G (p + 1) : Rat)) * (s1 + m * m * s0) := by grind
  rw [x1, x2]
  have hc : (0 : Rat) < 4 * (uD G p : Rat) * (uD G (p + 1) : Rat) := Rat.mul_pos (Rat.mul_pos (by decide) a0) b0
  constructor
  · intro h1
    by_cases h2 : (3 / 4 : Rat) * s0 ≤ s1 + m * m * s0
    · exact h2
    · have := Rat.mul_lt_mul_of_pos_left (Rat.not_le.1 h2) hc
      exact absurd h1 (Rat.not_le.2 this)
  · intro h1
    exact Rat.mul_le_mul_of_nonneg_left h1 (Rat.le_of_lt hc)
theorem nearI_spec {a b : Int} (h0 : 0 < b) : (b + b) * nearI a b ≤ a + a + b ∧ a + a + b < (b + b) * nearI a b + (b + b) := by
  have hdef := Int.fmod_def (a + a + b) (b + b)
  have f1 := Int.fmod_nonneg_of_pos (a + a + b) (show 0 < b + b by omega)
  have f2 := Int.fmod_lt_of_pos (a + a + b) (show 0 < b + b by omega)
  have e : nearI a b = (a + a + b).fdiv (b + b) := rfl
  rw [e]
  generalize (a + a + b).fdiv (b + b) = z at *
  omega
theorem nearI_scale {a b g : Int} (h0 : 0 < b) (hg : 0 < g) : nearI (g * a) (g * b) = nearI a b := by
  obtain ⟨h1, h2⟩ := nearI_spec (a := g * a) (b := g * b) (Int.mul_pos hg h0)
  obtain ⟨h3, h4⟩ := nearI_spec (a := a) h0
  generalize nearI (g * a) (g * b) = x at *
  generalize nearI a b = y at *
  have e1 : (g * b + g * b) * x = g * ((b + b) * x) := by grind
  have e2 : g * a + g * a + g * b = g * (a + a + b) := by grind
  have e3 : g * ((b + b) * x) + (g * b + g * b) = g * ((b + b) * x + (b + b)) := by grind
  rw [e1, e2] at h1
  rw [e1, e2, e3] at h2
  have h5 := Int.le_of_mul_le_mul_left h1 hg
  have h6 := Int.lt_of_mul_lt_mul_left h2 (Int.le_of_lt hg)
  have hb : 0 < b + b := by omega
  have k1 : (b + b) * x < (b + b) * (y + 1) := by rw [Int.mul_add, Int.mul_one]; omega
  have k2 : (b + b) * y < (b + b) * (x + 1) := by rw [Int.mul_add, Int.mul_one]; omega
  have k3 := Int.lt_of_mul_lt_mul_left k1 (Int.le_of_lt hb)
  have k4 := Int.lt_of_mul_lt_mul_left k2 (Int.le_of_lt hb)
  omega
theorem rq_scale {n d : Int} {q : Rat} (hd : 0 < d) (h : (n : Rat) = (d : Rat) * q) : ∃ g : Int, 0 < g ∧ n = g * (rq q).1 ∧ d = g * (rq q).2 := by
  have e := rq_val q
  have hq := rq_den_pos q
  have hqq : ((rq q).2 : Rat) ≠ 0 := pos_ne (by exact_mod_cast hq)
  have ea : ((rq q).1 : Rat) = q * ((rq q).2 : Rat) := by rw [← e]; grind
  have h1 : (n : Rat) * ((rq q).2 : Rat) = (d : Rat) * ((rq q).1 : Rat) := by rw [h, ea]; grind
  have h2 : n * (rq q).2 = d * (rq q).1 := by exact_mod_cast h1
  have hdvd : (rq q).2 ∣ d := by
    show ((q.den : Nat) : Int) ∣ d
    rw [Int.ofNat_dvd_left]
    have h3 : q.den ∣ q.num.natAbs * d.natAbs := by
      refine ⟨n.natAbs, ?_⟩
      have h4 := congrArg Int.natAbs h2
      rw [Int.natAbs_mul, Int.natAbs_mul] at h4
      have h5 : ((rq q).2).natAbs = q.den := rfl
      have h6 : ((rq q).1).natAbs = q.num.natAbs := rfl
      rw [h5, h6] at h4
      rw [Nat.mul_comm, ← h4, Nat.mul_comm]
    exact (Nat.Coprime.symm q.reduced).dvd_of_dvd_mul_left h3
  obtain ⟨g, hg⟩ := hdvd
  have hg0 : 0 < g := by
    rcases Int.lt_or_le 0 g with e0 | e0
    · exact e0
    · have := Int.mul_nonpos_of_nonneg_of_nonpos (Int.le_of_lt hq) e0; omega
  refine ⟨g, hg0, ?_, by rw [hg, Int.mul_comm]⟩
  have h3 : (rq q).2 * n = (rq q).2 * (g * (rq q).1) := by
    rw [Int.mul_comm, h2, hg]; grind
  exact Int.eq_of_mul_eq_mul_left (by omega) h3
theorem nearI_frM (hs : SymG G) (hp : PosU G n) {k j : Nat} (hj : j < k) (hk : k < n) : nearI (uE G j k j) (uD G (j + 1)) = nearQ (frM G k j) := by
  obtain ⟨g, g0, e1, e2⟩ := rq_scale (hp.uD (show j + 1 ≤ n by omega)) (uE_fr hs hp hj hk)
  rw [e1, e2, nearI_scale (rq_den_pos _) g0]
  rfl
end
theorem minus_row (q : Int) (u v : List Int) : pairV (fun x y => x - y) u (v.map (fun x => q * x)) = pairV (fun x y => x + y) u (v.map (fun x => -q * x)) := by
  unfold pairV
  apply List.map_congr_left
  intro l hl
  rw [getD_timesV, getD_timesV, Int.neg_mul]
  show u.getD l 0 - q * v.getD l 0 = u.getD l 0 + -(q * v.getD l 0)
  omega
def mapN (F : List Int → List Int) (i : Nat) (V : List (List Int)) : List (List Int) := (V.take i).map F ++ V.drop i
theorem mapN_0 (F V) : mapN F 0 V = V := by simp [mapN]
theorem mapN_end {F V} {i : Nat} (h : i = V.length) : mapN F i V = V.map F := by subst h; simp [mapN]
theorem mapN_len (F V) {i : Nat} (h : i ≤ V.length) : (mapN F i V).length = V.length := by simp [mapN]; omega
theorem mapN_at {F V} {i : Nat} (h : i < V.length) : (mapN F i V).getD i [] = V.getD i [] := by
  unfold mapN
  rw [List.getD_eq_getElem?_getD, List.getElem?_append_right (by simp; omega)]
  simp only [List.length_map, List.length_take, List.getElem?_drop]
  rw [show i + (i - min i V.length) = i + (i - i) by rw [Nat.min_eq_left (by omega)], Nat.sub_self, Nat.add_zero, ← List.getD_eq_getElem?_getD]
theorem mapN_at2 {F V} {i j : Nat} (h : i < V.length) (hj : j < (V.getD i []).length) : ((mapN F i V).getD i [])[j]? = some ((V.getD i []).getD j 0) := by
  rw [mapN_at h, List.getElem?_eq_getElem hj, gde _ 0 hj]
theorem mapN_set {F V} {i : Nat} {r : List Int} (h : i < V.length) (hr : r = F (V.getD i [])) : (mapN F i V).set i r = mapN F (i + 1) V := by
  subst hr
  unfold mapN
  have e : V.drop i = V.getD i [] :: V.drop (i + 1) := by
    rw [List.drop_eq_getElem_cons h, List.getD_eq_getElem?_getD, List.getElem?_eq_getElem h]; rfl
  have e2 : V.take (i + 1) = V.take i ++ [V.getD i []] := by
    rw [List.take_add_one, List.getElem?_eq_getElem h, gde V [] h]; rfl
  have e3 : i - ((V.take i).map F).length = 0 := by simp; omega
  rw [e, e2, List.map_append, List.append_assoc, List.set_append_right _ _ (by simp; omega), e3]
  rfl
def colF (k j : Nat) (q : Int) : List Int → List Int := fun r => r.set j (r.getD j 0 + q * r.getD k 0)
def colG (k : Nat) : List Int → List Int := fun r => (r.set k (r.getD (k - 1) 0)).set (k - 1) (r.getD k 0)
theorem mapN_len2 {F : List Int → List Int} {V : List (List Int)} {i a : Nat} {x : Int} (h : i < V.length) : (((mapN F i V).set i ((V.getD i []).set a x)).getD i []).length = (V.getD i []).length := by
  rw [getD_setL _ _ _ _ _ (by rw [mapN_len _ _ (by omega)]; exact h), if_pos rfl, List.length_set]
theorem mapN_set2 {V : List (List Int)} {i c : Nat} (h : i < V.length) : ((mapN (colG (c + 1)) i V).set i (((mapN (colG (c + 1)) i V).getD i []).set (c + 1) ((V.getD i []).getD c 0))).set i ((((mapN (colG (c + 1)) i V).set i (((mapN (colG (c + 1)) i V).getD i []).set (c + 1) ((V.getD i []).getD c 0))).getD i []).set c ((V.getD i []).getD (c + 1) 0)) = mapN (colG (c + 1)) (i + 1) V := by
  rw [getD_setL _ _ _ _ _ (by rw [mapN_len _ _ (by omega)]; exact h), if_pos rfl, List.set_set, mapN_at h]
  exact mapN_set h rfl
theorem wide_ok {b : List (List Int)} (h0 : 0 < b.length) (h12 : b.length ≤ 12) (hr : RectL b) (hc : ∀ i, (b.getD i []).length ≤ 12) (hp : PosU (gram b) b.length) : gsoE b false = 0 ∧ gsoR b false = (gDs (gram b) b.length, gLs (gram b) b.length) := by
  have h1 : ¬ bigN b false b.length = true := rowsTo_end (by omega) fun j hj => ⟨hc j, fun h => by cases h⟩
  have h2 : gshape b false = 0 := by
    rw [gshape_else h1 (by omega)]
    unfold shE; rw [if_pos (rect_iff.2 hr)]
  obtain ⟨a, c⟩ := gsoE_3 (b := b) (bits := false) (by omega) (gOk_iff.2 hp)
  exact ⟨a, c.trans (gso_yes hp).2⟩
theorem wide_basis {b : List (List Int)} (h : Basis b) : gsoE b false = 0 ∧ gsoR b false = (gDs (gram b) b.length, gLs (gram b) b.length) := wide_ok h.n0 h.n h.r h.c h.p
theorem pD_le {G : Fi} {n d : Nat} (hp : PosU G n) (hD : ∀ l, l ≤ n → uD G l ≤ ((2 ^ d : Nat) : Int)) : ∀ k, k ≤ n → pD G k ≤ ((2 ^ (d * k) : Nat) : Int)
  | 0, _ => by simp [pD]
  | k + 1, h => by
    have ih := pD_le hp hD k (by omega)
    have a := hD (k + 1) h
    have b := mul_pw ih a (Int.le_of_lt (pD_pos hp k (by omega))) (Int.le_of_lt (hp.uD h))
    rw [Nat.mul_succ]; exact b
structure LS (b : List (List Int)) (M Dm P : Int) (N K : Nat) : Prop where
  lb : LB M Dm N
  m : ∀ x, x < b.length → gram b x x ≤ M
  d : ∀ l, l ≤ b.length → uD (gram b) l ≤ Dm
  pe : P = pD (gram b) b.length
  p : P ≤ ((2 ^ K : Nat) : Int)
  k : K ≤ 26400000
  me : M = ((2 ^ 524 : Nat) : Int)
theorem basis_LS {b : List (List Int)} (h : Basis b) : ∃ M Dm P N K, LS b M Dm P N K := by
  have hz : ∀ i j, Sz 524 (gram b i j) := fun i j => gram_Sz h.z h.r (h.c 0) i j
  have hs := gram_symG h.r
  have hd : ∀ l, l ≤ b.length → uD (gram b) l ≤ ((2 ^ 2150400 : Nat) : Int) := fun l hl => by
    have h1 := uD_Sz hs hz h.p l hl
    have h2 := szU_le 524 (show l ≤ 12 by have := h.n; omega)
    have h3 := h1.up (show szU 524 l + 1 ≤ 2150400 + 1 by omega)
    have h4 := h1.up (show szU 524 l + 1 ≤ 2150401 by omega)
    have h5 : szU 524 l + 1 ≤ 2150400 := by
      have := szU_eq 524 l
      have h6 : 2 ^ l ≤ 2 ^ 12 := Nat.pow_le_pow_right (by decide) (show l ≤ 12 by have := h.n; omega)
      have h7 := Nat.mul_le_mul_right (524 + 1) h6
      omega
    have h8 := h1.up h5
    unfold Sz at h8
    generalize (2 : Nat) ^ 2150400 = X at *
    omega
  obtain ⟨N, hN⟩ := LB_pow 524 2150400 (by decide) (by decide)
  refine ⟨_, _, _, N, 2150400 * b.length, hN, fun x hx => ?_, hd, rfl, pD_le h.p hd _ (Nat.le_refl _), ?_, rfl⟩
  · have := hz x x
    unfold Sz at this
    omega
  · have := h.n; omega
theorem WI.swn {b B U V : List (List Int)} {S : List Int} {M Dm P : Int} {N K k : Nat} (h : WI b M Dm P B U V S k) (hL : LS b M Dm P N K) : S.length ≤ 79200002 := by
  have := swaps_le hL.p (pD_pos h.l.c.p b.length (Nat.le_refl _)) h.wc.sw
  have := hL.k
  omega
end Fw
/- The reduction of rows: what a step makes. -/
set_option linter.unusedVariables false
set_option linter.unusedSimpArgs false
set_option exponentiation.threshold 400
set_option maxRecDepth 20000
set_option maxHeartbeats 1000000
namespace Fw
open Go Go.Proofs
theorem c_mat_Minus (u v : List Int) (huv : u.length = v.length) : Fn Tryz.prog 269 [kVZ.is u, kVZ.is v] (VP.tup [kVC.is (pairV (fun x y => x - y) u v), kN6.is 0]) := by
 refine Con.enter Tryz.func269 rfl rfl fun m w => Cr (Wa rfl (Wa rfl (Wr (Wm rfl (Wm rfl (Ws (O.fn fn218 (evs.c rfl (evs.c rfl (evs.l rfl clo_fv evs.nil))) (c_mat_pairs 213 [] (fun x y => x - y) u v huv fn213 (fun x y _ _ => c_zint_Sub x y))) (Ws (O.ext rfl rfl) (Ws (O.ext rfl rfl) (Wa rfl (Wa rfl (Wn (CW.ret ?_))))))))))))
 exact QE.done (.inl rfl) rfl (ResOk.t rfl (ResOk.t rfl ResOk.nil)) (OImp.sub (List.nil_sublist _)) ⟨rfl, rfl⟩
theorem c_gso_Wide (n : Nat) (b : List (List Int)) (hb : SzM n b) (hn : n ≤ 4194304) : Fn Tryz.prog 66 [kMZ.is b] (VP.tup [kGso.is (gsoR b false), kN6.is (gsoE b false)]) := by
 refine Con.enter Tryz.func66 rfl rfl fun m w => Cr (WP.al .n z25_pr_sl_C_sl_sl_C_ fun b1 => Wa rfl (Wr (Wm rfl (Ws (O.fn fn131 (evs.c rfl (evs.c rfl evs.nil)) (c_gso_of n b false (fun _ => hb) hn)) (Ws (O.ext rfl rfl) (Ws (O.ext rfl rfl) (WP.t .n (O.stW (l := kGso) (u := gsoR b false) 0 rfl rfl rfl ty25 rfl Lr) (Wa rfl (Wn (CW.ret ?_))))))))))
 exact QE.done (.inl rfl) rfl (ResOk.c rfl (mem_at 0 rfl) ty25 (ResOk.t rfl ResOk.nil)) (OImp.sub (List.nil_sublist _)) ⟨rfl, rfl⟩
theorem c_mat_eachRRx (fid : FuncId) (caps : List VP) (F : List Int → List Int) (l : List (List Int)) (hok : FnOk Tryz.prog fid) (hF : ∀ x, x ∈ l → Fn Tryz.prog fid (kVZ.is x :: caps) (kVC.is (F x))) : Con Tryz.prog 223 [kMZ.is l, VP.clo fid caps] [] (fun p Lo => ∃ (v : Value), p = VP.ex v ∧ Lo = [OB.row v 23 kVC (l.map F)] ∧ True) := by
 refine Con.enter Tryz.func223 rfl rfl fun m w => ST.fact (i := 0) rfl sl_len fun hB => Cr (Wa rfl (Wr (Wm rfl (Ws (O.lenS rfl U22) (WP.mk0 l.length .n rfl rfl rfl (by omega) U22 el23_sl_C z23_sl_C fun v1 => Wa rfl (Wn (CW.seq (Cr (Wm rfl (Ws (O.lenS rfl U22) (Wm rfl (Wn (CW.block ?_)))))))))))))
 refine CW.loop2 (fun (i : Nat) (v : Value) => i ≤ l.length) (fun (i : Nat) (v : Value) => [(0, kMZ.is l), (1, VP.clo fid caps), (5, VP.ex v), (11, kMZ.is l), (12, kN6.is (l.length : Int)), (13, kN6.is (i : Int))]) (fun (i : Nat) (v : Value) => [OB.row v 23 kVC ((l.take i).map F)]) (fun (i : Nat) (v : Value) => l.length - i) 0 v1 (by omega) (Imp.c4 rfl rfl rfl rfl (Imp.cons rfl (Imp.consLe rfl (is_eq (y := (0 : Int)) (by rfl)) Imp.nil))) (OImp.os (OS.keepLe (OB.row_eq (by rfl)) OS.nil)) ?_
 intro i v hi
 refine Cr (Ws (O.lt rfl rfl) (Wn (CW.seq ?_)))
 refine CW.condD rfl (fun h_t14 => ?_) (fun h_t14 => ?_)
 ·
  refine CW.skip (QE.next (CW.seq (CW.block (Cr (Ws (O.ix i rfl rfl U22 ty23 rfl (v := (l.getD i [])) (gd [] (by omega))) (Ws (O.ldP rfl ty23) (Wa rfl (Wn (CW.region (Wm rfl (Wm rfl (Wm rfl (Ws (O.clo rfl hok (evs.c rfl evs.nil) (hF _ (getD_mem [] (by omega)))) (Ws (O.bs U22 el23_sl_C (evl.c rfl evl.n) rfl (by decide)) (WP.ap 0 .n rfl rfl rfl Lr U22 el23_sl_C (by simp; omega) fun v2 => Wa rfl (WP.nil (QE.blkN (QE.next (CW.region (Ws (O.add rfl rfl (c := ((i : Int) + 1)) (w64 (by omega))) ?_))))))))))))))))))))
  refine Wm rfl (WP.nil (ST.obtold 0 rfl (OB.row_eq (ys := ((l.take (i + 1)).map F)) (map_take_app (by omega))) ?_))
  exact QE.round2 (i + 1) v2 (by omega) (by omega) (Imp.c4 rfl rfl rfl rfl (Imp.cons rfl (Imp.consLe rfl (is_eq (y := (((i + 1) : Nat) : Int)) (by rfl)) Imp.nil))) (OImp.refl _)
 ·
  refine CW.exit (QE.thenE (QE.thenE (QE.blkH (QE.next (Cr (Wm rfl (Wa rfl (Wn (CW.ret (ST.obtold 0 rfl (OB.row_eq (ys := (l.map F)) (by rw [List.take_of_length_le (by omega)])) ?_))))))))))
  exact QE.done (.inl rfl) rfl (ResOk.t rfl ResOk.nil) (OImp.refl _) ⟨v, rfl, rfl, trivial⟩
theorem c_mat_Formx (l : List (List Int)) (hl : ∀ r, r ∈ l → ∀ x, x ∈ r → Sm x) : Con Tryz.prog 248 [kMZ.is l] [] (fun p Lo => ∃ (v : Value), p = VP.ex v ∧ Lo = [OB.row v 23 kVC l] ∧ True) := by
 refine Con.enter Tryz.func248 rfl rfl fun m w => Cr (Wa rfl (Wr (Wm rfl (WP.call (Li := []) (L := []) .n fn223 (evs.c rfl (evs.l rfl clo_fv evs.nil)) (c_mat_eachRRx 268 [] (fun x => x) l fn268 (fun r hr => c_mat_Form1 r (hl r hr))) fun p_ Lo_ hp_ => ?_))))
 obtain ⟨v1, rfl, rfl, hx_t4⟩ := hp_
 refine Wa rfl (Wn (CW.ret (ST.obtold 0 rfl (OB.row_eq (ys := l) (by simp)) ?_)))
 exact QE.done (.inl rfl) rfl (ResOk.t rfl ResOk.nil) (OImp.refl _) ⟨v1, rfl, rfl, trivial⟩
theorem c_mat_Unitf (n : Nat) (hn : n ≤ 12) : Con Tryz.prog 142 [kN6.is (n : Int)] [] (fun p Lo => ∃ (v : Value) (vs : List Value), p = VP.tup [VP.ex v, kN6.is 0] ∧ Lo = [OB.row v 23 kVal vs, OB.fam vs 29 kC (unitV n)] ∧ vs.length = n) := by
 refine Con.enter Tryz.func142 rfl rfl fun m w => Cr (Wa rfl (Wa rfl (Wn (CW.seq (CW.block (Cr (Wm rfl (Ws (O.lt rfl rfl) (Wa rfl (Wn ?_))))))))))
 refine CW.condD rfl (fun h => absurd h (by omega)) (fun h_t7 => ?_)
 refine Cr (Wm rfl (Ws (O.gt rfl rfl) (Wa rfl (Wn ?_))))
 refine CW.condD rfl (fun h => absurd h (by omega)) (fun h_t10 => ?_)
 refine CW.skip (QE.blkN (QE.next (Cr (Wa rfl (Wn (CW.seq (Cr (Wm rfl (Wm rfl (Wn (CW.block (ST.nilrow 23 kVal (ST.famnil 29 kC (CW.loop3 (fun (i : Nat) (v : Value) (vs : List Value) => i ≤ n ∧ vs.length = i) (fun (i : Nat) (v : Value) (vs : List Value) => [(0, kN6.is (n : Int)), (4, VP.ex v), (13, kN6.is (n : Int)), (14, kN6.is (i : Int))]) (fun (i : Nat) (v : Value) (vs : List Value) => [OB.fam vs 29 kC ((List.range i).map (fun x => (List.replicate n 0).set x 1)), OB.row v 23 kVal vs]) (fun (i : Nat) (v : Value) (vs : List Value) => n - i) 0 (.slice none 0 0) [] ⟨Nat.zero_le _, rfl⟩ (Imp.cons rfl (Imp.cons rfl (Imp.cons rfl (Imp.consLe rfl (is_eq (y := (0 : Int)) (by rfl)) Imp.nil)))) (OImp.os (OS.keepLe (OB.fam_eq (by rfl) (by rfl)) (OS.keep OS.nil))) ?_))))))))))))))
 intro i v vs ⟨hi, hvs⟩
 refine Cr (Ws (O.lt rfl rfl) (Wn (CW.seq ?_)))
 refine CW.condD rfl (fun h_t15 => ?_) (fun h_t15 => ?_)
 ·
  refine CW.skip (QE.next (CW.seq (CW.block (Cr (Wm rfl (Wa rfl (Wr (Wm rfl (WP.mk n .n rfl rfl rfl (by omega) U23 el29_C z29_C fun v1 => Wa rfl (Wr (Wm rfl (Wm rfl (Ws (O.fn fn71 (evs.l rfl (i64_int (by omega)) evs.nil) (c_zint_Of 1)) (Ws (O.ixR (k := kC) (xs := (List.replicate n 0)) (n := (i : Int)) i rfl rfl (mem_at 0 rfl) U23 ty29 rfl (by simp; omega)) (WP.t .n (O.stR 0 i rfl rfl Li rfl (y0 := ((List.replicate n 0).getD i 0)) (gd 0 (by simp; omega)) ty29 rfl Lr) ?_)))))))))))))))
  refine Wn (CW.region (Wm rfl (Wm rfl (ST.rowcell 0 rfl fun hcell_ => Ws (O.bs U22 el23_val (evl.l rfl (ex_val (by assumption)) evl.n) rfl (by decide)) (WP.ap 2 .n rfl rfl rfl Lr U22 el23_val (by simp; omega) fun v2 => Wa rfl (WP.nil (QE.blkN (QE.next (CW.region (Ws (O.add rfl rfl (c := ((i : Int) + 1)) (w64 (by omega))) (Wm rfl (WP.nil (ST.oimp (fam_push 0 rfl) (ST.obtold 0 rfl (OB.fam_eq rfl (yss := ((List.range (i + 1)).map (fun x => (List.replicate n 0).set x 1))) (range_app (fun x => (List.replicate n (0 : Int)).set x 1) i)) ?_))))))))))))))
  exact QE.round3 (i + 1) v2 (vs ++ [v1]) (by omega) ⟨by omega, by simp [hvs]⟩ (Imp.cons rfl (Imp.cons rfl (Imp.cons rfl (Imp.consLe rfl (is_eq (y := (((i + 1) : Nat) : Int)) (by rfl)) Imp.nil)))) (OImp.refl _)
 ·
  refine CW.exit (QE.thenE (QE.thenE (QE.blkH (QE.next (Cr (Wm rfl (Wa rfl (Wa rfl (Wn (CW.ret ?_))))))))))
  have hvl : vs.length = n := by omega
  refine ST.obtold 0 rfl (OB.fam_eq rfl (yss := (unitV n)) (by rw [show i = n by omega]; rfl)) (ST.oimp (OImp.ix [1, 0] (by decide) rfl) ?_)
  exact QE.done (.inl rfl) rfl (ResOk.t rfl (ResOk.t rfl ResOk.nil)) (OImp.refl _) ⟨v, vs, rfl, rfl, hvl⟩
theorem c_lll_begun (b : List (List Int)) (hZ : Basis b) : Con Tryz.prog 200 [kMZ.is b] [] (fun p Lo => ∃ (pw : Nat) (vB : Value) (vU : Value) (vV : Value) (vS : Value) (vs : List Value), p = VP.pt pw 0 ∧ Lo = [OB.box pw 173 (kPair kVal (kPair kVal (kPair kVal (kPair kGso kVal)))) (vB, vU, vV, (gDs (gram b) b.length, gLs (gram b) b.length), vS), OB.row vB 23 kVC b, OB.row vU 23 kVC (unitV b.length), OB.row vV 23 kVal vs, OB.fam vs 29 kC (unitV b.length), OB.row vS 3 kI64 []] ∧ vs.length = b.length) := by
 refine Con.enter Tryz.func200 rfl rfl fun m w => ST.fact (i := 0) rfl sl_len fun hB => ST.fact (i := 0) rfl slsl_len fun hlc => ?_
 have hb12 := hZ.n
 have hW := wide_basis hZ
 refine Cr (Wa rfl (Wr (Wm rfl (Ws (O.fn fn66 (evs.c rfl evs.nil) (c_gso_Wide 256 b hZ.z (by decide))) (Wm rfl (Ws (O.ext rfl rfl) (Ws (O.ext rfl rfl) (WP.al .n z25_pr_sl_C_sl_sl_C_ fun b1 => WP.t .n (O.stW (l := kGso) (u := gsoR b false) 0 rfl rfl rfl ty25 rfl Lr) (Wa rfl (Wn (CW.seq (ST.obtold 0 rfl (OB.box_eq (y := (gDs (gram b) b.length, gLs (gram b) b.length)) hW.2) (CW.region (Wm rfl (Ws (O.lenS rfl U22) (WP.call (Li := []) (L := [OB.box b1 25 kGso (gDs (gram b) b.length, gLs (gram b) b.length)]) .n fn142 (evs.l rfl (is_eq (y := ((b.length : Nat) : Int)) (by rfl)) evs.nil) (c_mat_Unit b.length hb12) fun p_ Lo_ hp_ => ?_))))))))))))))))
 obtain ⟨vU, rfl, rfl, hxU⟩ := hp_
 refine Wm rfl (Ws (O.ext rfl rfl) (Ws (O.ext rfl rfl) (Wa rfl (Wa rfl (Wr (Wm rfl (Ws (O.lenS rfl U22) (WP.call (Li := []) (L := [OB.row vU 23 kVC (unitV b.length), OB.box b1 25 kGso (gDs (gram b) b.length, gLs (gram b) b.length)]) .n fn142 (evs.l rfl (is_eq (y := ((b.length : Nat) : Int)) (by rfl)) evs.nil) (c_mat_Unitf b.length hb12) fun p_ Lo_ hp_ => ?_))))))))
 obtain ⟨vV, vs, rfl, rfl, hxV⟩ := hp_
 refine Wm rfl (Ws (O.ext rfl rfl) (Ws (O.ext rfl rfl) (Wa rfl (Wa rfl (Wn (CW.seq (CW.any (by kernel_rfl) (DA.first 0 rfl (by kernel_rfl) (by kernel_rfl) (by kernel_rfl) (fun _ _ _ _ _ h => h) .n (OV.mv rfl) (DA.first 2 rfl (by kernel_rfl) (by kernel_rfl) (by kernel_rfl) (fun _ _ _ _ _ h => h) .n (OV.mv rfl) (DA.first 3 rfl (by kernel_rfl) (by kernel_rfl) (by kernel_rfl) (fun _ _ _ _ _ h => h) .n (OV.mv rfl) ?_))))))))))
 refine DAg 1 [4] ⟨?_, ⟨?_, trivial⟩⟩
 ·
  refine DO.w rfl (WP.call (Li := []) (L := [OB.row vV 23 kVal vs, OB.fam vs 29 kC (unitV b.length), OB.row vU 23 kVC (unitV b.length), OB.box b1 25 kGso (gDs (gram b) b.length, gLs (gram b) b.length)]) .n fn248 (evs.c rfl evs.nil) (c_mat_Formx b (hZ.z.sm (by decide))) fun p_ Lo_ hp_ => ?_)
  obtain ⟨vB, rfl, rfl, hxB⟩ := hp_
  refine WP.nil (DO.nx (DA1 4 (DO.sn rfl .n (O.ld (p := kGso.is (gDs (gram b) b.length, gLs (gram b) b.length)) rfl (mem_at 4 rfl) Li ty25 rfl) (ST.rowcell 0 rfl fun hcell_ => ST.rowcell 3 rfl fun hcell_ => ST.rowcell 1 rfl fun hcell_ => DA.first 5 rfl (by kernel_rfl) (by kernel_rfl) (by kernel_rfl) (fun _ _ _ _ _ h => h) .n (OV.bld lit173_pr_val_pr_val_pr_val_pr_pr_sl_C_sl_sl_C__val____ rfl (evp.l rfl (ex_val (by assumption)) (evp.l rfl (ex_val (by assumption)) (evp.l rfl (ex_val (by assumption)) (evp.c rfl evp.n)))) (.cons rfl (Lens.fst Li) (.cons rfl (Lens.snd (Lens.fst Li)) (.cons rfl (Lens.snd (Lens.snd (Lens.fst Li))) (.cons rfl (Lens.snd (Lens.snd (Lens.snd (Lens.fst Li)))) (.nil _)))))) (DA1 6 (DO.w rfl (WP.bx .n rfl fun b2 => WP.nil (DO.nx (DA1 7 (DO.sn rfl .n (O.asg rfl) (DA.nil (by kernel_rfl) (QE.next (CW.ret (ST.nilrow 3 kI64 (ST.oimp (OImp.ix [1, 2, 5, 3, 4, 0] (by decide) rfl) ?_)))))))))))))))
  exact QE.done (.inl rfl) rfl (ResOk.t rfl ResOk.nil) (OImp.os (OS.keepLe (OB.box_eq (by rfl)) (OS.keep (OS.keep (OS.keep (OS.keep (OS.keep OS.nil))))))) ⟨b2, vB, vU, vV, (.slice none 0 0), vs, rfl, rfl, hxV⟩
 ·
  refine DO.sn rfl .n (O.ld (p := kGso.is (gDs (gram b) b.length, gLs (gram b) b.length)) rfl (mem_at 3 rfl) Li ty25 rfl) (DA1 1 (DO.w rfl (WP.call (Li := []) (L := [OB.row vV 23 kVal vs, OB.fam vs 29 kC (unitV b.length), OB.row vU 23 kVC (unitV b.length), OB.box b1 25 kGso (gDs (gram b) b.length, gLs (gram b) b.length)]) .n fn248 (evs.c rfl evs.nil) (c_mat_Formx b (hZ.z.sm (by decide))) fun p_ Lo_ hp_ => ?_)))
  obtain ⟨vB, rfl, rfl, hxB⟩ := hp_
  refine WP.nil (DO.nx (ST.rowcell 0 rfl fun hcell_ => ST.rowcell 3 rfl fun hcell_ => ST.rowcell 1 rfl fun hcell_ => DA.first 5 rfl (by kernel_rfl) (by kernel_rfl) (by kernel_rfl) (fun _ _ _ _ _ h => h) .n (OV.bld lit173_pr_val_pr_val_pr_val_pr_pr_sl_C_sl_sl_C__val____ rfl (evp.l rfl (ex_val (by assumption)) (evp.l rfl (ex_val (by assumption)) (evp.l rfl (ex_val (by assumption)) (evp.c rfl evp.n)))) (.cons rfl (Lens.fst Li) (.cons rfl (Lens.snd (Lens.fst Li)) (.cons rfl (Lens.snd (Lens.snd (Lens.fst Li))) (.cons rfl (Lens.snd (Lens.snd (Lens.snd (Lens.fst Li)))) (.nil _)))))) (DA1 6 (DO.w rfl (WP.bx .n rfl fun b3 => WP.nil (DO.nx (DA1 7 (DO.sn rfl .n (O.asg rfl) (DA.nil (by kernel_rfl) (QE.next (CW.ret (ST.nilrow 3 kI64 (ST.oimp (OImp.ix [1, 2, 5, 3, 4, 0] (by decide) rfl) ?_)))))))))))))
  exact QE.done (.inl rfl) rfl (ResOk.t rfl ResOk.nil) (OImp.os (OS.keepLe (OB.box_eq (by rfl)) (OS.keep (OS.keep (OS.keep (OS.keep (OS.keep OS.nil))))))) ⟨b3, vB, vU, vV, (.slice none 0 0), vs, rfl, rfl, hxV⟩
theorem c_lll_lose (pw : Nat) (vB vU vV vS : Value) (vs : List Value) (B U V : List (List Int)) (G : Nat → Nat → Int) (n mc nB k j : Nat) (q : Int) (hrB : CR n mc B) (hrU : CU n U) (hrV : CU n V) (hvl : vs.length = n) (h0 : 0 < n) (h12 : n ≤ 12) (hP : PosU G n) (hs : SymG G) (hD : ∀ l, l ≤ n → Sz nB (uD G l)) (hL : ∀ x l, x < n → l < x → Sz nB (uE G l x l)) (hq : Sz nB q) (zB : SzM nB B) (zU : SzM nB U) (zV : SzM nB V) (hj : j < k) (hk : k < n) (hN : nB ≤ 34359738368) : Con Tryz.prog 251 [VP.pt pw 0, kN6.is (k : Int), kN6.is (j : Int), kZ.is q] [OB.box pw 173 (kPair kVal (kPair kVal (kPair kVal (kPair kGso kVal)))) (vB, vU, vV, (gDs (G) n, gLs (G) n), vS), OB.row vB 23 kVC B, OB.row vU 23 kVC U, OB.row vV 23 kVal vs, OB.fam vs 29 kC V] (fun p Lo => p = VP.tup [] ∧ Lo = [OB.box pw 173 (kPair kVal (kPair kVal (kPair kVal (kPair kGso kVal)))) (vB, vU, vV, (gDs (rowI G k j (-q)) n, gLs (rowI G k j (-q)) n), vS), OB.row vB 23 kVC (rowU B k j (-q)), OB.row vU 23 kVC (rowU U k j (-q)), OB.row vV 23 kVal vs, OB.fam vs 29 kC (colV V k j q)] ∧ True) := by
 refine Con.enter Tryz.func251 rfl rfl fun m w => ?_
 have hlB := hrB.len
 have hlU := hrU.len
 have hlV := hrV.len
 refine Cr (WP.bx .n rfl fun b1 => Wn (CW.seq ?_))
 refine CW.drawM (Γ := [.fr (VP.pt pw 0), .fr (VP.pt pw 0), .fr (VP.pt pw 0), .fr (VP.ex vB), .fr (kN6.is (k : Int)), .fr (VP.pt pw 0), .fr (VP.pt pw 0), .fr (VP.pt pw 0), .fr (VP.ex vB), .fr (kN6.is (k : Int)), .fr (VP.pel vB (k * 1)), .fr (kVC.is (B.getD k [])), .fr (kZ.is q), .fr (VP.pt pw 0), .fr (VP.pt pw 0), .fr (VP.pt pw 0), .fr (VP.ex vB), .fr (kN6.is (j : Int)), .fr (VP.pel vB (j * 1)), .fr (kVC.is (B.getD j [])), .fr (kVC.is ((B.getD j []).map (fun x => q * x))), .fr (VP.tup [kVC.is (pairV (fun x y => x - y) (B.getD k []) ((B.getD j []).map (fun x => q * x))), kN6.is 0]), .fr (VP.tup [kVC.is (pairV (fun x y => x - y) (B.getD k []) ((B.getD j []).map (fun x => q * x))), kN6.is 0]), .fr (kVC.is (pairV (fun x y => x - y) (B.getD k []) ((B.getD j []).map (fun x => q * x)))), .lt (kN6.is 0), .fr (VP.pel vB (k * 1))]) (om rfl rfl (on_ rfl rfl (of_ rfl (fun N => O.fa rfl fld173_0 rfl) (of_ rfl (fun N => OpOk.le (O.ld (p := kVal.is vB) rfl (mem_app N (mem_at 1 rfl)) (Lens.fst Li) ty22 rfl) (val_ex _)) (om rfl rfl (om rfl rfl (on_ rfl rfl (of_ rfl (fun N => O.fa rfl fld173_0 rfl) (of_ rfl (fun N => OpOk.le (O.ld (p := kVal.is vB) rfl (mem_app N (mem_at 1 rfl)) (Lens.fst Li) ty22 rfl) (val_ex _)) (om rfl rfl (of_ rfl (fun N => O.ixR (k := kVC) (xs := B) (n := (k : Int)) k rfl rfl (mem_app N (mem_at 2 rfl)) U22 ty23 rfl (by omega)) (of_ rfl (fun N => O.ldR k rfl (mem_app N (mem_at 2 rfl)) Li rfl (y := (B.getD k [])) (gd [] (by omega)) ty23 rfl) (of_ rfl (fun N => O.ld rfl (mem_app N (mem_at 0 rfl)) Li ty29 rfl) (om rfl rfl (on_ rfl rfl (of_ rfl (fun N => O.fa rfl fld173_0 rfl) (of_ rfl (fun N => OpOk.le (O.ld (p := kVal.is vB) rfl (mem_app N (mem_at 1 rfl)) (Lens.fst Li) ty22 rfl) (val_ex _)) (om rfl rfl (of_ rfl (fun N => O.ixR (k := kVC) (xs := B) (n := (j : Int)) j rfl rfl (mem_app N (mem_at 2 rfl)) U22 ty23 rfl (by omega)) (of_ rfl (fun N => O.ldR j rfl (mem_app N (mem_at 2 rfl)) Li rfl (y := (B.getD j [])) (gd [] (by omega)) ty23 rfl) (of_ rfl (fun N => O.fn fn148 (evs.c rfl (evs.l rfl (slC_Z ((zB _).sm (by omega))) evs.nil)) (c_mat_Times q (B.getD j []))) (of_ rfl (fun N => O.fn fn269 (evs.l rfl (slC_Z ((zB _).sm (by omega))) (evs.l rfl (slC_Z ((timesV_Sz (zB _) hq).sm (by omega))) evs.nil)) (c_mat_Minus (B.getD k []) ((B.getD j []).map (fun x => q * x)) (by rw [hrB.row k hk, List.length_map, hrB.row j (by omega)]))) (om rfl rfl (of_ rfl (fun N => O.ext rfl rfl) (oc (Ob.l rfl .n (OV.ext rfl rfl)) (of_ rfl (fun N => O.ixR (k := kVC) (xs := B) (n := (k : Int)) k rfl rfl (mem_app N (mem_at 2 rfl)) U22 ty23 rfl (by omega)) oz)))))))))))))))))))))))))) (fun σ1 => ?_)
 refine WP.t .n (O.stR 2 k rfl rfl Li rfl (y0 := (B.getD k [])) (gd [] (by omega)) ty23 rfl Lr) (Wn (CW.seq (ST.obtold 2 rfl (OB.row_eq (ys := (rowU B k j (-q))) (by rw [minus_row]; rfl)) ?_)))
 refine CW.drawM (Γ := [.fr (VP.pt pw 0), .fr (VP.pt pw 0), .fr (VP.pt pw 1), .fr (VP.ex vU), .fr (kN6.is (k : Int)), .fr (VP.pt pw 0), .fr (VP.pt pw 0), .fr (VP.pt pw 1), .fr (VP.ex vU), .fr (kN6.is (k : Int)), .fr (VP.pel vU (k * 1)), .fr (kVC.is (U.getD k [])), .fr (kZ.is q), .fr (VP.pt pw 0), .fr (VP.pt pw 0), .fr (VP.pt pw 1), .fr (VP.ex vU), .fr (kN6.is (j : Int)), .fr (VP.pel vU (j * 1)), .fr (kVC.is (U.getD j [])), .fr (kVC.is ((U.getD j []).map (fun x => q * x))), .fr (VP.tup [kVC.is (pairV (fun x y => x - y) (U.getD k []) ((U.getD j []).map (fun x => q * x))), kN6.is 0]), .fr (VP.tup [kVC.is (pairV (fun x y => x - y) (U.getD k []) ((U.getD j []).map (fun x => q * x))), kN6.is 0]), .fr (kVC.is (pairV (fun x y => x - y) (U.getD k []) ((U.getD j []).map (fun x => q * x)))), .lt (kN6.is 0), .fr (VP.pel vU (k * 1))]) (om rfl rfl (on_ rfl rfl (of_ rfl (fun N => O.fa rfl fld173_1 rfl) (of_ rfl (fun N => OpOk.le (O.ld (p := kVal.is vU) rfl (mem_app N (mem_at 1 rfl)) (Lens.snd (Lens.fst Li)) ty22 rfl) (val_ex _)) (om rfl rfl (om rfl rfl (on_ rfl rfl (of_ rfl (fun N => O.fa rfl fld173_1 rfl) (of_ rfl (fun N => OpOk.le (O.ld (p := kVal.is vU) rfl (mem_app N (mem_at 1 rfl)) (Lens.snd (Lens.fst Li)) ty22 rfl) (val_ex _)) (om rfl rfl (of_ rfl (fun N => O.ixR (k := kVC) (xs := U) (n := (k : Int)) k rfl rfl (mem_app N (mem_at 3 rfl)) U22 ty23 rfl (by omega)) (of_ rfl (fun N => O.ldR k rfl (mem_app N (mem_at 3 rfl)) Li rfl (y := (U.getD k [])) (gd [] (by omega)) ty23 rfl) (of_ rfl (fun N => O.ld rfl (mem_app N (mem_at 0 rfl)) Li ty29 rfl) (om rfl rfl (on_ rfl rfl (of_ rfl (fun N => O.fa rfl fld173_1 rfl) (of_ rfl (fun N => OpOk.le (O.ld (p := kVal.is vU) rfl (mem_app N (mem_at 1 rfl)) (Lens.snd (Lens.fst Li)) ty22 rfl) (val_ex _)) (om rfl rfl (of_ rfl (fun N => O.ixR (k := kVC) (xs := U) (n := (j : Int)) j rfl rfl (mem_app N (mem_at 3 rfl)) U22 ty23 rfl (by omega)) (of_ rfl (fun N => O.ldR j rfl (mem_app N (mem_at 3 rfl)) Li rfl (y := (U.getD j [])) (gd [] (by omega)) ty23 rfl) (of_ rfl (fun N => O.fn fn148 (evs.c rfl (evs.l rfl (slC_Z ((zU _).sm (by omega))) evs.nil)) (c_mat_Times q (U.getD j []))) (of_ rfl (fun N => O.fn fn269 (evs.l rfl (slC_Z ((zU _).sm (by omega))) (evs.l rfl (slC_Z ((timesV_Sz (zU _) hq).sm (by omega))) evs.nil)) (c_mat_Minus (U.getD k []) ((U.getD j []).map (fun x => q * x)) (by rw [hrU.row k hk, List.length_map, hrU.row j (by omega)]))) (om rfl rfl (of_ rfl (fun N => O.ext rfl rfl) (oc (Ob.l rfl .n (OV.ext rfl rfl)) (of_ rfl (fun N => O.ixR (k := kVC) (xs := U) (n := (k : Int)) k rfl rfl (mem_app N (mem_at 3 rfl)) U22 ty23 rfl (by omega)) oz)))))))))))))))))))))))))) (fun σ2 => ?_)
 refine WP.t .n (O.stR 3 k rfl rfl Li rfl (y0 := (U.getD k [])) (gd [] (by omega)) ty23 rfl Lr) (Wn (CW.seq (CW.seq (ST.obtold 3 rfl (OB.row_eq (ys := (rowU U k j (-q))) (by rw [minus_row]; rfl)) (CW.region (Wm rfl (Ws (O.nck rfl) (Ws (O.fa rfl fld173_2 rfl) (Ws (OpOk.le (O.ld (p := kVal.is vV) rfl (mem_at 1 rfl) (Lens.snd (Lens.snd (Lens.fst Li))) ty22 rfl) (val_ex _)) (Ws (O.lenR rfl (mem_at 4 rfl) U22) (Wm rfl (Wn (CW.block (ST.told 65 rfl (is_eq (y := (n : Int)) (by rw [hvl])) (ST.obtold 5 rfl (OB.fam_eq rfl (yss := (mapN (colF k j q) 0 V)) (mapN_0 _ _).symm) (CW.loop (fun (i : Nat) => i ≤ n) (fun (i : Nat) => [(0, VP.pt pw 0), (1, kN6.is (k : Int)), (2, kN6.is (j : Int)), (7, VP.pt b1 0), (65, kN6.is (n : Int)), (66, kN6.is (i : Int))]) (fun (i : Nat) => [OB.box b1 29 kZ q, OB.box pw 173 (kPair kVal (kPair kVal (kPair kVal (kPair kGso kVal)))) (vB, vU, vV, (gDs (G) n, gLs (G) n), vS), OB.row vB 23 kVC (rowU B k j (-q)), OB.row vU 23 kVC (rowU U k j (-q)), OB.row vV 23 kVal vs, OB.fam vs 29 kC (mapN (colF k j q) i V)]) (fun (i : Nat) => n - i) 0 (by omega) (Imp.c4 rfl rfl rfl rfl (Imp.cons rfl (Imp.consLe rfl (is_eq (y := (0 : Int)) (by rfl)) Imp.nil))) (OImp.refl _) ?_))))))))))))))))
 intro i hi
 refine Cr (Ws (O.lt rfl rfl) (Wn (CW.seq ?_)))
 refine CW.condD rfl (fun h_t67 => ?_) (fun h_t67 => ?_)
 ·
  refine CW.skip (QE.next (CW.seq (CW.block (Cr (Wm rfl (Wa rfl (Wn ?_)))))))
  refine CW.drawM (Γ := [.fr (VP.pt pw 0), .fr (VP.pt pw 0), .fr (VP.pt pw 2), .fr (VP.ex vV), .fr (kN6.is (i : Int)), .fr (VP.pel vV (i * 1)), .fr (VP.ex (vs.getD i nilV)), .fr (kN6.is (j : Int)), .fr (VP.pt pw 0), .fr (VP.pt pw 0), .fr (VP.pt pw 2), .fr (VP.ex vV), .fr (kN6.is (i : Int)), .fr (VP.pel vV (i * 1)), .fr (VP.ex (vs.getD i nilV)), .fr (kN6.is (j : Int)), .fr (VP.pel (vs.getD i nilV) (j * 2)), .fr (kC.is ((V.getD i []).getD j 0)), .fr (kZ.is q), .fr (VP.pt pw 0), .fr (VP.pt pw 0), .fr (VP.pt pw 2), .fr (VP.ex vV), .fr (kN6.is (i : Int)), .fr (VP.pel vV (i * 1)), .fr (VP.ex (vs.getD i nilV)), .fr (kN6.is (k : Int)), .fr (VP.pel (vs.getD i nilV) (k * 2)), .fr (kC.is ((V.getD i []).getD k 0)), .fr (kC.is (q * ((V.getD i []).getD k 0))), .fr (kC.is (((V.getD i []).getD j 0) + (q * ((V.getD i []).getD k 0)))), .fr (VP.pel (vs.getD i nilV) (j * 2))]) (om rfl rfl (on_ rfl rfl (of_ rfl (fun N => O.fa rfl fld173_2 rfl) (of_ rfl (fun N => OpOk.le (O.ld (p := kVal.is vV) rfl (mem_app N (mem_at 1 rfl)) (Lens.snd (Lens.snd (Lens.fst Li))) ty22 rfl) (val_ex _)) (om rfl rfl (of_ rfl (fun N => O.ixR (k := kVal) (xs := vs) (n := (i : Int)) i rfl rfl (mem_app N (mem_at 4 rfl)) U22 ty23 rfl (by omega)) (of_ rfl (fun N => OpOk.le (O.ldR i rfl (mem_app N (mem_at 4 rfl)) Li rfl (y := (vs.getD i nilV)) (gd nilV (by omega)) ty23 rfl) (val_ex _)) (om rfl rfl (om rfl rfl (on_ rfl rfl (of_ rfl (fun N => O.fa rfl fld173_2 rfl) (of_ rfl (fun N => OpOk.le (O.ld (p := kVal.is vV) rfl (mem_app N (mem_at 1 rfl)) (Lens.snd (Lens.snd (Lens.fst Li))) ty22 rfl) (val_ex _)) (om rfl rfl (of_ rfl (fun N => O.ixR (k := kVal) (xs := vs) (n := (i : Int)) i rfl rfl (mem_app N (mem_at 4 rfl)) U22 ty23 rfl (by omega)) (of_ rfl (fun N => OpOk.le (O.ldR i rfl (mem_app N (mem_at 4 rfl)) Li rfl (y := (vs.getD i nilV)) (gd nilV (by omega)) ty23 rfl) (val_ex _)) (om rfl rfl (of_ rfl (fun N => O.ixF (e := 29) (k := kC) (xss := (mapN (colF k j q) i V)) (n := (j : Int)) i j rfl rfl (mem_app N (mem_at 5 rfl)) rfl (by omega) U23 ty29 rfl (by rw [mapN_at (by rw [hrV.len]; omega), hrV.row _ (by omega)]; omega)) (of_ rfl (fun N => O.ldF (k := kC) (xss := (mapN (colF k j q) i V)) i j rfl (mem_app N (mem_at 5 rfl)) rfl (by omega) Li rfl (y := ((V.getD i []).getD j 0)) (mapN_at2 (by omega) (by rw [hrV.row i (by omega)]; omega)) ty29 rfl) (of_ rfl (fun N => O.ld rfl (mem_app N (mem_at 0 rfl)) Li ty29 rfl) (om rfl rfl (on_ rfl rfl (of_ rfl (fun N => O.fa rfl fld173_2 rfl) (of_ rfl (fun N => OpOk.le (O.ld (p := kVal.is vV) rfl (mem_app N (mem_at 1 rfl)) (Lens.snd (Lens.snd (Lens.fst Li))) ty22 rfl) (val_ex _)) (om rfl rfl (of_ rfl (fun N => O.ixR (k := kVal) (xs := vs) (n := (i : Int)) i rfl rfl (mem_app N (mem_at 4 rfl)) U22 ty23 rfl (by omega)) (of_ rfl (fun N => OpOk.le (O.ldR i rfl (mem_app N (mem_at 4 rfl)) Li rfl (y := (vs.getD i nilV)) (gd nilV (by omega)) ty23 rfl) (val_ex _)) (om rfl rfl (of_ rfl (fun N => O.ixF (e := 29) (k := kC) (xss := (mapN (colF k j q) i V)) (n := (k : Int)) i k rfl rfl (mem_app N (mem_at 5 rfl)) rfl (by omega) U23 ty29 rfl (by rw [mapN_at (by rw [hrV.len]; omega), hrV.row _ (by omega)]; omega)) (of_ rfl (fun N => O.ldF (k := kC) (xss := (mapN (colF k j q) i V)) i k rfl (mem_app N (mem_at 5 rfl)) rfl (by omega) Li rfl (y := ((V.getD i []).getD k 0)) (mapN_at2 (by omega) (by rw [hrV.row i (by omega)]; omega)) ty29 rfl) (of_ rfl (fun N => O.fn fn122 (evs.c rfl (evs.l rfl (kC_Z ((zV i k).sm (by omega))) evs.nil)) (c_zint_Mul q ((V.getD i []).getD k 0))) (of_ rfl (fun N => O.fn fn189 (evs.l rfl (kC_Z ((zV i j).sm (by omega))) (evs.l rfl (kC_Z ((hq.mul (zV i k)).sm (by omega))) evs.nil)) (c_zint_Add ((V.getD i []).getD j 0) (q * ((V.getD i []).getD k 0)))) (of_ rfl (fun N => O.ixF (e := 29) (k := kC) (xss := (mapN (colF k j q) i V)) (n := (j : Int)) i j rfl rfl (mem_app N (mem_at 5 rfl)) rfl (by omega) U23 ty29 rfl (by rw [mapN_at (by rw [hrV.len]; omega), hrV.row _ (by omega)]; omega)) oz)))))))))))))))))))))))))))))))) (fun σ3 => ?_)
  refine WP.t .n (O.stF 5 i j rfl rfl rfl (by omega) Li rfl (y0 := (((mapN (colF k j q) i V).getD i []).getD j 0)) (gd 0 (by rw [mapN_at (by rw [hrV.len]; omega), hrV.row _ (by omega)]; omega)) ty29 rfl Lr) (WP.nil (QE.blkN (QE.next (CW.region (Ws (O.add rfl rfl (c := ((i : Int) + 1)) (w64 (by omega))) (Wm rfl (WP.nil (ST.obtold 5 rfl (OB.fam_eq rfl (yss := (mapN (colF k j q) (i + 1) V)) (mapN_set (by omega) (by rw [mapN_at (by omega)]; rfl))) ?_))))))))
  exact QE.round (i + 1) (by omega) (by omega) (Imp.c4 rfl rfl rfl rfl (Imp.cons rfl (Imp.consLe rfl (is_eq (y := (((i + 1) : Nat) : Int)) (by rfl)) Imp.nil))) (OImp.refl _)
 ·
  refine CW.exit (QE.thenE (QE.thenE (QE.blkH (QE.next (ST.obtold 5 rfl (OB.fam_eq rfl (yss := (colV V k j q)) (mapN_end (by omega))) ?_)))))
  refine CW.drawM (Γ := [.fr (VP.pt pw 0), .fr (VP.pt pw 0), .fr (VP.pt pw 0), .fr (VP.pt pw 3), .fr (kGso.is (gDs (G) n, gLs (G) n)), .fr (kN6.is (k : Int)), .fr (kN6.is (j : Int)), .fr (kZ.is q), .fr (kC.is (-q)), .fr (VP.tup [kGso.is (gDs (rowI G k j (-q)) n, gLs (rowI G k j (-q)) n), kN6.is 0]), .fr (VP.tup [kGso.is (gDs (rowI G k j (-q)) n, gLs (rowI G k j (-q)) n), kN6.is 0]), .fr (kGso.is (gDs (rowI G k j (-q)) n, gLs (rowI G k j (-q)) n)), .lt (kN6.is 0), .fr (VP.pt pw 0), .fr (VP.pt pw 3)]) (om rfl rfl (om rfl rfl (on_ rfl rfl (of_ rfl (fun N => O.fa rfl fld173_3 rfl) (of_ rfl (fun N => O.ld (p := kGso.is (gDs (G) n, gLs (G) n)) rfl (mem_app N (mem_at 1 rfl)) (Lens.snd (Lens.snd (Lens.snd (Lens.fst Li)))) ty25 rfl) (om rfl rfl (om rfl rfl (of_ rfl (fun N => O.ld rfl (mem_app N (mem_at 0 rfl)) Li ty29 rfl) (of_ rfl (fun N => O.fn fn145 (evs.c rfl evs.nil) (c_zint_Neg q)) (of_ rfl (fun N => O.fn fn146 (evs.l rfl (is_eq (y := (gDs G n, gLs G n)) (by rfl)) (evs.c rfl (evs.c rfl (evs.l rfl (kC_Z (hq.neg.sm (by omega))) evs.nil)))) (c_gso_AddRow G n nB (by assumption) (by assumption) (by assumption) (by assumption) (by omega) k j (-q) (by assumption) (by assumption) (by assumption) (by assumption) hq.neg)) (om rfl rfl (of_ rfl (fun N => O.ext rfl rfl) (oc (Ob.l rfl .n (OV.ext rfl rfl)) (on_ rfl rfl (of_ rfl (fun N => O.fa rfl fld173_3 rfl) oz))))))))))))))) (fun σ4 => ?_)
  refine WP.t .n (O.st 1 rfl rfl (Lens.snd (Lens.snd (Lens.snd (Lens.fst Li)))) ty25 rfl Lr) (WP.nil (ST.oimp (OImp.ix [1, 2, 3, 4, 5] (by decide) rfl) ?_))
  exact QE.done (.inr rfl) rfl ResOk.nil (OImp.os (OS.keepLe (OB.box_eq (by rfl)) (OS.keep (OS.keep (OS.keep (OS.keep OS.nil)))))) ⟨rfl, rfl, trivial⟩
theorem c_lll_holds (G : Nat → Nat → Int) (n B : Nat) (h0 : 0 < n) (h12 : n ≤ 12) (hP : PosU G n) (hD : ∀ k, k ≤ n → Sz B (uD G k)) (hB : B ≤ 68719476736) (p : Nat) (hp1 : p + 1 < n) (hs : SymG G) (hL : ∀ x k, x < n → k < x → Sz B (uE G k x k)) (hB8 : B ≤ 4294967296) : Fn Tryz.prog 249 [kGso.is (gDs G n, gLs G n), kN6.is ((p : Int) + 1)] (kBool.is (decide (lov G (p + 1)))) := by
 refine Con.enter Tryz.func249 rfl rfl fun m w => ?_
 have z0 := hD p (by omega)
 have z1 := hD (p + 1) (by omega)
 have z2 := hD (p + 2) (by omega)
 have zl := hL (p + 1) p hp1 (by omega)
 have z3 : Sz 3 3 := show (3 : Int).natAbs < 2 ^ 3 by decide
 have z4 : Sz 3 4 := show (4 : Int).natAbs < 2 ^ 3 by decide
 refine Cr (WP.bx .n rfl fun b1 => Wa rfl (Wr (Ws (O.fa rfl fld25_1 rfl) (Ws (O.ld (p := kMC.is (gLs G n)) rfl (mem_at 0 rfl) (Lens.snd Li) ty22 rfl) (Wm rfl (Ws (O.ix (p + 1) rfl rfl U22 ty23 (by omega) (v := ((gLs G n).getD (p + 1) [])) (gd [] (by simp only [gRow_len, gDs_len, gLs_len]; omega))) (Ws (O.ldP rfl ty23) (Wm rfl (Ws (O.sub rfl rfl (c := (((p : Int) + 1) - 1)) (w64 (by omega))) (Ws (O.ix p rfl rfl U23 ty29 (by omega) (v := (uE G p (p + 1) p)) (gLs_at (by omega) (by omega))) (Ws (O.ldP rfl ty29) (WP.al .n z29_C fun b2 => WP.t .n (O.stW (l := kC) (u := (uE G p (p + 1) p)) 0 rfl rfl rfl ty29 rfl Lr) (Wn (CW.seq ?_))))))))))))))
 refine CW.drawM (Γ := [.fr (VP.pt b1 0), .fr (kVC.is (gDs G n)), .fr (kN6.is ((p : Int) + 1)), .fr (kN6.is (((p : Int) + 1) - 1)), .fr (VP.pim kC (uD G p)), .fr (kC.is (uD G p)), .fr (VP.pt b1 0), .fr (kVC.is (gDs G n)), .fr (kN6.is ((p : Int) + 1)), .fr (kN6.is (((p : Int) + 1) + 1)), .fr (VP.pim kC (uD G (p + 2))), .fr (kC.is (uD G (p + 2))), .fr (kC.is ((uD G p) * (uD G (p + 2)))), .fr (kC.is (uE G p (p + 1) p)), .fr (kC.is (uE G p (p + 1) p)), .fr (kC.is ((uE G p (p + 1) p) * (uE G p (p + 1) p))), .fr (kC.is (((uD G p) * (uD G (p + 2))) + ((uE G p (p + 1) p) * (uE G p (p + 1) p)))), .al (fun b => OB.box b 29 kC 0)]) (of_ rfl (fun N => O.fa rfl fld25_0 rfl) (of_ rfl (fun N => O.ld (p := kVC.is (gDs G n)) rfl (mem_app N (mem_at 1 rfl)) (Lens.fst Li) ty23 rfl) (om rfl rfl (of_ rfl (fun N => O.sub rfl rfl (c := (((p : Int) + 1) - 1)) (w64 (by omega))) (of_ rfl (fun N => O.ix p rfl rfl U23 ty29 (by omega) (v := (uD G p)) (gDs_at (by omega))) (of_ rfl (fun N => O.ldP rfl ty29) (of_ rfl (fun N => O.fa rfl fld25_0 rfl) (of_ rfl (fun N => O.ld (p := kVC.is (gDs G n)) rfl (mem_app N (mem_at 1 rfl)) (Lens.fst Li) ty23 rfl) (om rfl rfl (of_ rfl (fun N => O.add rfl rfl (c := (((p : Int) + 1) + 1)) (w64 (by omega))) (of_ rfl (fun N => O.ix (p + 2) rfl rfl U23 ty29 (by omega) (v := (uD G (p + 2))) (gDs_at (by omega))) (of_ rfl (fun N => O.ldP rfl ty29) (of_ rfl (fun N => O.fn fn122 (evs.l rfl (kC_Z (z0.sm (by omega))) (evs.l rfl (kC_Z (z2.sm (by omega))) evs.nil)) (c_zint_Mul (uD G p) (uD G (p + 2)))) (of_ rfl (fun N => O.ld rfl (mem_app N (mem_at 0 rfl)) Li ty29 rfl) (of_ rfl (fun N => O.ld rfl (mem_app N (mem_at 0 rfl)) Li ty29 rfl) (of_ rfl (fun N => O.fn fn122 (evs.l rfl (kC_Z (zl.sm (by omega))) (evs.l rfl (kC_Z (zl.sm (by omega))) evs.nil)) (c_zint_Mul (uE G p (p + 1) p) (uE G p (p + 1) p))) (of_ rfl (fun N => O.fn fn189 (evs.l rfl (kC_Z ((z0.mul z2).sm (by omega))) (evs.l rfl (kC_Z ((zl.mul zl).sm (by omega))) evs.nil)) (c_zint_Add ((uD G p) * (uD G (p + 2))) ((uE G p (p + 1) p) * (uE G p (p + 1) p)))) (oc (Ob.a rfl z29_C) oz)))))))))))))))))) (fun σ1 => ?_)
 refine WP.t .n (O.stW (l := kC) (u := ((uD G p) * (uD G (p + 2))) + ((uE G p (p + 1) p) * (uE G p (p + 1) p))) 0 rfl rfl rfl ty29 rfl Lr) (Wn (CW.seq ?_))
 refine CW.drawM (Γ := [.fr (kC.is 3), .fr (VP.pt b1 0), .fr (kVC.is (gDs G n)), .fr (kN6.is ((p : Int) + 1)), .fr (VP.pim kC (uD G (p + 1))), .fr (kC.is (uD G (p + 1))), .fr (VP.pt b1 0), .fr (kVC.is (gDs G n)), .fr (kN6.is ((p : Int) + 1)), .fr (VP.pim kC (uD G (p + 1))), .fr (kC.is (uD G (p + 1))), .fr (kC.is ((uD G (p + 1)) * (uD G (p + 1)))), .fr (kC.is (3 * ((uD G (p + 1)) * (uD G (p + 1))))), .fr (kC.is 4), .fr (kC.is (((uD G p) * (uD G (p + 2))) + ((uE G p (p + 1) p) * (uE G p (p + 1) p)))), .fr (kC.is (4 * (((uD G p) * (uD G (p + 2))) + ((uE G p (p + 1) p) * (uE G p (p + 1) p))))), .fr (kN6.is (((3 * ((uD G (p + 1)) * (uD G (p + 1)))) - (4 * (((uD G p) * (uD G (p + 2))) + ((uE G p (p + 1) p) * (uE G p (p + 1) p))))).sign)), .fr (kBool.is (decide ((((3 * ((uD G (p + 1)) * (uD G (p + 1)))) - (4 * (((uD G p) * (uD G (p + 2))) + ((uE G p (p + 1) p) * (uE G p (p + 1) p))))).sign) ≤ 0)))]) (of_ rfl (fun N => O.fn fn71 (evs.l rfl (i64_int (by omega)) evs.nil) (c_zint_Of 3)) (of_ rfl (fun N => O.fa rfl fld25_0 rfl) (of_ rfl (fun N => O.ld (p := kVC.is (gDs G n)) rfl (mem_app N (mem_at 2 rfl)) (Lens.fst Li) ty23 rfl) (om rfl rfl (of_ rfl (fun N => O.ix (p + 1) rfl rfl U23 ty29 (by omega) (v := (uD G (p + 1))) (gDs_at (by omega))) (of_ rfl (fun N => O.ldP rfl ty29) (of_ rfl (fun N => O.fa rfl fld25_0 rfl) (of_ rfl (fun N => O.ld (p := kVC.is (gDs G n)) rfl (mem_app N (mem_at 2 rfl)) (Lens.fst Li) ty23 rfl) (om rfl rfl (of_ rfl (fun N => O.ix (p + 1) rfl rfl U23 ty29 (by omega) (v := (uD G (p + 1))) (gDs_at (by omega))) (of_ rfl (fun N => O.ldP rfl ty29) (of_ rfl (fun N => O.fn fn122 (evs.l rfl (kC_Z (z1.sm (by omega))) (evs.l rfl (kC_Z (z1.sm (by omega))) evs.nil)) (c_zint_Mul (uD G (p + 1)) (uD G (p + 1)))) (of_ rfl (fun N => O.fn fn122 (evs.l rfl (kC_Z (z3.sm (by omega))) (evs.l rfl (kC_Z ((z1.mul z1).sm (by omega))) evs.nil)) (c_zint_Mul 3 ((uD G (p + 1)) * (uD G (p + 1))))) (of_ rfl (fun N => O.fn fn71 (evs.l rfl (i64_int (by omega)) evs.nil) (c_zint_Of 4)) (of_ rfl (fun N => O.ld rfl (mem_app N (mem_at 0 rfl)) Li ty29 rfl) (of_ rfl (fun N => O.fn fn122 (evs.l rfl (kC_Z (z4.sm (by omega))) (evs.l rfl (kC_Z ((Sz.add1 (z0.mul z2) (zl.mul zl)).sm (by omega))) evs.nil)) (c_zint_Mul 4 (((uD G p) * (uD G (p + 2))) + ((uE G p (p + 1) p) * (uE G p (p + 1) p))))) (of_ rfl (fun N => O.fn fn119 (evs.l rfl (kC_Z ((z3.mul (z1.mul z1)).sm (by omega))) (evs.l rfl (kC_Z ((z4.mul (Sz.add1 (z0.mul z2) (zl.mul zl))).sm (by omega))) evs.nil)) (c_zint_Compare (3 * ((uD G (p + 1)) * (uD G (p + 1)))) (4 * (((uD G p) * (uD G (p + 2))) + ((uE G p (p + 1) p) * (uE G p (p + 1) p)))))) (of_ rfl (fun N => O.le rfl rfl) oz)))))))))))))))))) (fun σ2 => ?_)
 refine Wa rfl (Wn (CW.ret (ST.told 4 rfl (is_eq (y := (decide (lov G (p + 1)))) (decide_eq_decide.2 (lov_iff hs hP hp1))) ?_)))
 exact QE.done (.inl rfl) rfl (ResOk.t rfl ResOk.nil) (OImp.sub (List.nil_sublist _)) ⟨rfl, rfl⟩
theorem c_lll_swap (pw : Nat) (vB vU vV vS : Value) (vs : List Value) (B U V : List (List Int)) (S : List Int) (G : Nat → Nat → Int) (n mc nB c : Nat) (hrB : CR n mc B) (hrU : CU n U) (hrV : CU n V) (hvl : vs.length = n) (h0 : 0 < n) (h12 : n ≤ 12) (hP : PosU G n) (hs : SymG G) (hD : ∀ l, l ≤ n → Sz nB (uD G l)) (hL : ∀ x l, x < n → l < x → Sz nB (uE G l x l)) (hc : c + 1 < n) (hS : S.length ≤ 79200002) (hN : nB ≤ 34359738368) : Con Tryz.prog 250 [VP.pt pw 0, kN6.is ((c : Int) + 1)] [OB.box pw 173 (kPair kVal (kPair kVal (kPair kVal (kPair kGso kVal)))) (vB, vU, vV, (gDs (G) n, gLs (G) n), vS), OB.row vB 23 kVC B, OB.row vU 23 kVC U, OB.row vV 23 kVal vs, OB.fam vs 29 kC V, OB.row vS 3 kI64 S] (fun p Lo => ∃ (vT : Value), p = VP.tup [] ∧ Lo = [OB.box pw 173 (kPair kVal (kPair kVal (kPair kVal (kPair kGso kVal)))) (vB, vU, vV, (gDs (swpI G c) n, gLs (swpI G c) n), vT), OB.row vB 23 kVC (swpU B c), OB.row vU 23 kVC (swpU U c), OB.row vV 23 kVal vs, OB.fam vs 29 kC (colS V (c + 1)), OB.row vT 3 kI64 (S ++ [((c : Int) + 1)])] ∧ True) := by
 refine Con.enter Tryz.func250 rfl rfl fun m w => ?_
 have hlB := hrB.len
 have hlU := hrU.len
 have hlV := hrV.len
 refine CW.seq ?_
 refine CW.draw (Γ := [.fr (VP.pt pw 0), .fr (VP.pt pw 0), .fr (VP.pt pw 0), .fr (VP.ex vB), .fr (kN6.is ((c : Int) + 1)), .fr (VP.pt pw 0), .fr (VP.pt pw 0), .fr (VP.pt pw 0), .fr (VP.ex vB), .lt (kN6.is ((c : Int) + 1)), .lt (kN6.is (((c : Int) + 1) - 1)), .fr (VP.pt pw 0), .fr (VP.pt pw 0), .fr (VP.pt pw 0), .fr (VP.ex vB), .fr (kN6.is ((c : Int) + 1)), .fr (kN6.is (((c : Int) + 1) - 1)), .fr (VP.pel vB (c * 1)), .fr (kVC.is (B.getD c [])), .fr (VP.pt pw 0), .fr (VP.pt pw 0), .fr (VP.pt pw 0), .fr (VP.ex vB), .fr (kN6.is ((c : Int) + 1)), .fr (VP.pel vB ((c + 1) * 1)), .fr (kVC.is (B.getD (c + 1) [])), .fr (VP.pel vB ((c + 1) * 1))]) (lates := [false, false, false, false, false, false, false, false, false, true, true, false, false, false, false, false, false, false, false, false, false, false, false, false, false, false, false]) (by kernel_rfl) (Chk.of rfl (by kernel_rfl) rfl) (fun _ _ _ _ _ h => h) (fun q_ x_ h_ => ?_) (fun σ1 => ?_)
 ·
  match q_, h_ with
  | 0, h_ => cases h_; exact Ob.f rfl .n fun N => (O.mv rfl)
  | 1, h_ => cases h_; exact Ob.f rfl .n fun N => (O.nck rfl)
  | 2, h_ => cases h_; exact Ob.f rfl .n fun N => (O.fa rfl fld173_0 rfl)
  | 3, h_ => cases h_; exact Ob.f rfl .n fun N => (OpOk.le (O.ld (p := kVal.is vB) rfl (mem_app N (mem_at 0 rfl)) (Lens.fst Li) ty22 rfl) (val_ex _))
  | 4, h_ => cases h_; exact Ob.f rfl .n fun N => (O.mv rfl)
  | 5, h_ => cases h_; exact Ob.f rfl .n fun N => (O.mv rfl)
  | 6, h_ => cases h_; exact Ob.f rfl .n fun N => (O.nck rfl)
  | 7, h_ => cases h_; exact Ob.f rfl .n fun N => (O.fa rfl fld173_0 rfl)
  | 8, h_ => cases h_; exact Ob.f rfl .n fun N => (OpOk.le (O.ld (p := kVal.is vB) rfl (mem_app N (mem_at 0 rfl)) (Lens.fst Li) ty22 rfl) (val_ex _))
  | 9, h_ => cases h_; exact Ob.l rfl .n (OV.mv rfl)
  | 10, h_ => cases h_; exact Ob.l rfl .n (OV.sub rfl rfl (c := (((c : Int) + 1) - 1)) (w64 (by omega)))
  | 11, h_ => cases h_; exact Ob.f rfl .n fun N => (O.mv rfl)
  | 12, h_ => cases h_; exact Ob.f rfl .n fun N => (O.nck rfl)
  | 13, h_ => cases h_; exact Ob.f rfl .n fun N => (O.fa rfl fld173_0 rfl)
  | 14, h_ => cases h_; exact Ob.f rfl .n fun N => (OpOk.le (O.ld (p := kVal.is vB) rfl (mem_app N (mem_at 0 rfl)) (Lens.fst Li) ty22 rfl) (val_ex _))
  | 15, h_ => cases h_; exact Ob.f rfl .n fun N => (O.mv rfl)
  | 16, h_ => cases h_; exact Ob.f rfl .n fun N => (O.sub rfl rfl (c := (((c : Int) + 1) - 1)) (w64 (by omega)))
  | 17, h_ => cases h_; exact Ob.f rfl .n fun N => (O.ixR (k := kVC) (xs := B) (n := (((c : Int) + 1) - 1)) c rfl rfl (mem_app N (mem_at 1 rfl)) U22 ty23 (by omega) (by omega))
  | 18, h_ => cases h_; exact Ob.f rfl .n fun N => (O.ldR c rfl (mem_app N (mem_at 1 rfl)) Li rfl (y := (B.getD c [])) (gd [] (by omega)) ty23 rfl)
  | 19, h_ => cases h_; exact Ob.f rfl .n fun N => (O.mv rfl)
  | 20, h_ => cases h_; exact Ob.f rfl .n fun N => (O.nck rfl)
  | 21, h_ => cases h_; exact Ob.f rfl .n fun N => (O.fa rfl fld173_0 rfl)
  | 22, h_ => cases h_; exact Ob.f rfl .n fun N => (OpOk.le (O.ld (p := kVal.is vB) rfl (mem_app N (mem_at 0 rfl)) (Lens.fst Li) ty22 rfl) (val_ex _))
  | 23, h_ => cases h_; exact Ob.f rfl .n fun N => (O.mv rfl)
  | 24, h_ => cases h_; exact Ob.f rfl .n fun N => (O.ixR (k := kVC) (xs := B) (n := ((c : Int) + 1)) (c + 1) rfl rfl (mem_app N (mem_at 1 rfl)) U22 ty23 (by omega) (by omega))
  | 25, h_ => cases h_; exact Ob.f rfl .n fun N => (O.ldR (c + 1) rfl (mem_app N (mem_at 1 rfl)) Li rfl (y := (B.getD (c + 1) [])) (gd [] (by omega)) ty23 rfl)
  | 26, h_ => cases h_; exact Ob.f rfl .n fun N => (O.ixR (k := kVC) (xs := B) (n := ((c : Int) + 1)) (c + 1) rfl rfl (mem_app N (mem_at 1 rfl)) U22 ty23 (by omega) (by omega))
  | n_ + 27, h_ => simp at h_
 refine WP.t .n (O.stR 1 (c + 1) rfl rfl Li rfl (y0 := (B.getD (c + 1) [])) (gd [] (by omega)) ty23 rfl Lr) (Ws (O.ixR (k := kVC) (xs := (B.set (c + 1) (B.getD c []))) (n := (((c : Int) + 1) - 1)) c rfl rfl (mem_at 1 rfl) U22 ty23 (by omega) (by rw [List.length_set, hrB.len]; omega)) (WP.t .n (O.stR 1 c rfl rfl Li rfl (y0 := ((B.set (c + 1) (B.getD c [])).getD c [])) (gd [] (by rw [List.length_set, hrB.len]; omega)) ty23 rfl Lr) (Wn (CW.seq (ST.obtold 1 rfl (OB.row_eq (ys := (swpU B c)) rfl) ?_)))))
 refine CW.draw (Γ := [.fr (VP.pt pw 0), .fr (VP.pt pw 0), .fr (VP.pt pw 1), .fr (VP.ex vU), .fr (kN6.is ((c : Int) + 1)), .fr (VP.pt pw 0), .fr (VP.pt pw 0), .fr (VP.pt pw 1), .fr (VP.ex vU), .lt (kN6.is ((c : Int) + 1)), .lt (kN6.is (((c : Int) + 1) - 1)), .fr (VP.pt pw 0), .fr (VP.pt pw 0), .fr (VP.pt pw 1), .fr (VP.ex vU), .fr (kN6.is ((c : Int) + 1)), .fr (kN6.is (((c : Int) + 1) - 1)), .fr (VP.pel vU (c * 1)), .fr (kVC.is (U.getD c [])), .fr (VP.pt pw 0), .fr (VP.pt pw 0), .fr (VP.pt pw 1), .fr (VP.ex vU), .fr (kN6.is ((c : Int) + 1)), .fr (VP.pel vU ((c + 1) * 1)), .fr (kVC.is (U.getD (c + 1) [])), .fr (VP.pel vU ((c + 1) * 1))]) (lates := [false, false, false, false, false, false, false, false, false, true, true, false, false, false, false, false, false, false, false, false, false, false, false, false, false, false, false]) (by kernel_rfl) (Chk.of rfl (by kernel_rfl) rfl) (fun _ _ _ _ _ h => h) (fun q_ x_ h_ => ?_) (fun σ2 => ?_)
 ·
  match q_, h_ with
  | 0, h_ => cases h_; exact Ob.f rfl .n fun N => (O.mv rfl)
  | 1, h_ => cases h_; exact Ob.f rfl .n fun N => (O.nck rfl)
  | 2, h_ => cases h_; exact Ob.f rfl .n fun N => (O.fa rfl fld173_1 rfl)
  | 3, h_ => cases h_; exact Ob.f rfl .n fun N => (OpOk.le (O.ld (p := kVal.is vU) rfl (mem_app N (mem_at 0 rfl)) (Lens.snd (Lens.fst Li)) ty22 rfl) (val_ex _))
  | 4, h_ => cases h_; exact Ob.f rfl .n fun N => (O.mv rfl)
  | 5, h_ => cases h_; exact Ob.f rfl .n fun N => (O.mv rfl)
  | 6, h_ => cases h_; exact Ob.f rfl .n fun N => (O.nck rfl)
  | 7, h_ => cases h_; exact Ob.f rfl .n fun N => (O.fa rfl fld173_1 rfl)
  | 8, h_ => cases h_; exact Ob.f rfl .n fun N => (OpOk.le (O.ld (p := kVal.is vU) rfl (mem_app N (mem_at 0 rfl)) (Lens.snd (Lens.fst Li)) ty22 rfl) (val_ex _))
  | 9, h_ => cases h_; exact Ob.l rfl .n (OV.mv rfl)
  | 10, h_ => cases h_; exact Ob.l rfl .n (OV.sub rfl rfl (c := (((c : Int) + 1) - 1)) (w64 (by omega)))
  | 11, h_ => cases h_; exact Ob.f rfl .n fun N => (O.mv rfl)
  | 12, h_ => cases h_; exact Ob.f rfl .n fun N => (O.nck rfl)
  | 13, h_ => cases h_; exact Ob.f rfl .n fun N => (O.fa rfl fld173_1 rfl)
  | 14, h_ => cases h_; exact Ob.f rfl .n fun N => (OpOk.le (O.ld (p := kVal.is vU) rfl (mem_app N (mem_at 0 rfl)) (Lens.snd (Lens.fst Li)) ty22 rfl) (val_ex _))
  | 15, h_ => cases h_; exact Ob.f rfl .n fun N => (O.mv rfl)
  | 16, h_ => cases h_; exact Ob.f rfl .n fun N => (O.sub rfl rfl (c := (((c : Int) + 1) - 1)) (w64 (by omega)))
  | 17, h_ => cases h_; exact Ob.f rfl .n fun N => (O.ixR (k := kVC) (xs := U) (n := (((c : Int) + 1) - 1)) c rfl rfl (mem_app N (mem_at 2 rfl)) U22 ty23 (by omega) (by omega))
  | 18, h_ => cases h_; exact Ob.f rfl .n fun N => (O.ldR c rfl (mem_app N (mem_at 2 rfl)) Li rfl (y := (U.getD c [])) (gd [] (by omega)) ty23 rfl)
  | 19, h_ => cases h_; exact Ob.f rfl .n fun N => (O.mv rfl)
  | 20, h_ => cases h_; exact Ob.f rfl .n fun N => (O.nck rfl)
  | 21, h_ => cases h_; exact Ob.f rfl .n fun N => (O.fa rfl fld173_1 rfl)
  | 22, h_ => cases h_; exact Ob.f rfl .n fun N => (OpOk.le (O.ld (p := kVal.is vU) rfl (mem_app N (mem_at 0 rfl)) (Lens.snd (Lens.fst Li)) ty22 rfl) (val_ex _))
  | 23, h_ => cases h_; exact Ob.f rfl .n fun N => (O.mv rfl)
  | 24, h_ => cases h_; exact Ob.f rfl .n fun N => (O.ixR (k := kVC) (xs := U) (n := ((c : Int) + 1)) (c + 1) rfl rfl (mem_app N (mem_at 2 rfl)) U22 ty23 (by omega) (by omega))
  | 25, h_ => cases h_; exact Ob.f rfl .n fun N => (O.ldR (c + 1) rfl (mem_app N (mem_at 2 rfl)) Li rfl (y := (U.getD (c + 1) [])) (gd [] (by omega)) ty23 rfl)
  | 26, h_ => cases h_; exact Ob.f rfl .n fun N => (O.ixR (k := kVC) (xs := U) (n := ((c : Int) + 1)) (c + 1) rfl rfl (mem_app N (mem_at 2 rfl)) U22 ty23 (by omega) (by omega))
  | n_ + 27, h_ => simp at h_
 refine WP.t .n (O.stR 2 (c + 1) rfl rfl Li rfl (y0 := (U.getD (c + 1) [])) (gd [] (by omega)) ty23 rfl Lr) (Ws (O.ixR (k := kVC) (xs := (U.set (c + 1) (U.getD c []))) (n := (((c : Int) + 1) - 1)) c rfl rfl (mem_at 2 rfl) U22 ty23 (by omega) (by rw [List.length_set, hrU.len]; omega)) (WP.t .n (O.stR 2 c rfl rfl Li rfl (y0 := ((U.set (c + 1) (U.getD c [])).getD c [])) (gd [] (by rw [List.length_set, hrU.len]; omega)) ty23 rfl Lr) (Wn (CW.seq (CW.seq (ST.obtold 2 rfl (OB.row_eq (ys := (swpU U c)) rfl) (CW.region (Wm rfl (Ws (O.nck rfl) (Ws (O.fa rfl fld173_2 rfl) (Ws (OpOk.le (O.ld (p := kVal.is vV) rfl (mem_at 0 rfl) (Lens.snd (Lens.snd (Lens.fst Li))) ty22 rfl) (val_ex _)) (Ws (O.lenR rfl (mem_at 3 rfl) U22) (Wm rfl (Wn (CW.block (ST.told 65 rfl (is_eq (y := (n : Int)) (by rw [hvl])) (ST.obtold 4 rfl (OB.fam_eq rfl (yss := (mapN (colG (c + 1)) 0 V)) (mapN_0 _ _).symm) (CW.loop (fun (i : Nat) => i ≤ n) (fun (i : Nat) => [(0, VP.pt pw 0), (1, kN6.is ((c : Int) + 1)), (65, kN6.is (n : Int)), (66, kN6.is (i : Int))]) (fun (i : Nat) => [OB.box pw 173 (kPair kVal (kPair kVal (kPair kVal (kPair kGso kVal)))) (vB, vU, vV, (gDs (G) n, gLs (G) n), vS), OB.row vB 23 kVC (swpU B c), OB.row vU 23 kVC (swpU U c), OB.row vV 23 kVal vs, OB.fam vs 29 kC (mapN (colG (c + 1)) i V), OB.row vS 3 kI64 S]) (fun (i : Nat) => n - i) 0 (by omega) (Imp.cons rfl (Imp.cons rfl (Imp.cons rfl (Imp.consLe rfl (is_eq (y := (0 : Int)) (by rfl)) Imp.nil)))) (OImp.refl _) ?_))))))))))))))))))
 intro i hi
 refine Cr (Ws (O.lt rfl rfl) (Wn (CW.seq ?_)))
 refine CW.condD rfl (fun h_t67 => ?_) (fun h_t67 => ?_)
 ·
  refine CW.skip (QE.next (CW.seq (CW.block (Cr (Wm rfl (Wa rfl (Wn ?_)))))))
  refine CW.draw (Γ := [.fr (VP.pt pw 0), .fr (VP.pt pw 0), .fr (VP.pt pw 2), .fr (VP.ex vV), .fr (kN6.is (i : Int)), .fr (VP.pel vV (i * 1)), .fr (VP.ex (vs.getD i nilV)), .fr (kN6.is ((c : Int) + 1)), .fr (VP.pt pw 0), .fr (VP.pt pw 0), .fr (VP.pt pw 2), .fr (VP.ex vV), .fr (kN6.is (i : Int)), .fr (VP.pel vV (i * 1)), .fr (VP.ex (vs.getD i nilV)), .lt (kN6.is ((c : Int) + 1)), .lt (kN6.is (((c : Int) + 1) - 1)), .fr (VP.pt pw 0), .fr (VP.pt pw 0), .fr (VP.pt pw 2), .fr (VP.ex vV), .fr (kN6.is (i : Int)), .fr (VP.pel vV (i * 1)), .fr (VP.ex (vs.getD i nilV)), .fr (kN6.is ((c : Int) + 1)), .fr (kN6.is (((c : Int) + 1) - 1)), .fr (VP.pel (vs.getD i nilV) (c * 2)), .fr (kC.is ((V.getD i []).getD c 0)), .fr (VP.pt pw 0), .fr (VP.pt pw 0), .fr (VP.pt pw 2), .fr (VP.ex vV), .fr (kN6.is (i : Int)), .fr (VP.pel vV (i * 1)), .fr (VP.ex (vs.getD i nilV)), .fr (kN6.is ((c : Int) + 1)), .fr (VP.pel (vs.getD i nilV) ((c + 1) * 2)), .fr (kC.is ((V.getD i []).getD (c + 1) 0)), .fr (VP.pel (vs.getD i nilV) ((c + 1) * 2))]) (lates := [false, false, false, false, false, false, false, false, false, false, false, false, false, false, false, true, true, false, false, false, false, false, false, false, false, false, false, false, false, false, false, false, false, false, false, false, false, false, false]) (by kernel_rfl) (Chk.of rfl (by kernel_rfl) rfl) (fun _ _ _ _ _ h => h) (fun q_ x_ h_ => ?_) (fun σ3 => ?_)
  ·
   match q_, h_ with
   | 0, h_ => cases h_; exact Ob.f rfl .n fun N => (O.mv rfl)
   | 1, h_ => cases h_; exact Ob.f rfl .n fun N => (O.nck rfl)
   | 2, h_ => cases h_; exact Ob.f rfl .n fun N => (O.fa rfl fld173_2 rfl)
   | 3, h_ => cases h_; exact Ob.f rfl .n fun N => (OpOk.le (O.ld (p := kVal.is vV) rfl (mem_app N (mem_at 0 rfl)) (Lens.snd (Lens.snd (Lens.fst Li))) ty22 rfl) (val_ex _))
   | 4, h_ => cases h_; exact Ob.f rfl .n fun N => (O.mv rfl)
   | 5, h_ => cases h_; exact Ob.f rfl .n fun N => (O.ixR (k := kVal) (xs := vs) (n := (i : Int)) i rfl rfl (mem_app N (mem_at 3 rfl)) U22 ty23 rfl (by omega))
   | 6, h_ => cases h_; exact Ob.f rfl .n fun N => (OpOk.le (O.ldR i rfl (mem_app N (mem_at 3 rfl)) Li rfl (y := (vs.getD i nilV)) (gd nilV (by omega)) ty23 rfl) (val_ex _))
   | 7, h_ => cases h_; exact Ob.f rfl .n fun N => (O.mv rfl)
   | 8, h_ => cases h_; exact Ob.f rfl .n fun N => (O.mv rfl)
   | 9, h_ => cases h_; exact Ob.f rfl .n fun N => (O.nck rfl)
   | 10, h_ => cases h_; exact Ob.f rfl .n fun N => (O.fa rfl fld173_2 rfl)
   | 11, h_ => cases h_; exact Ob.f rfl .n fun N => (OpOk.le (O.ld (p := kVal.is vV) rfl (mem_app N (mem_at 0 rfl)) (Lens.snd (Lens.snd (Lens.fst Li))) ty22 rfl) (val_ex _))
   | 12, h_ => cases h_; exact Ob.f rfl .n fun N => (O.mv rfl)
   | 13, h_ => cases h_; exact Ob.f rfl .n fun N => (O.ixR (k := kVal) (xs := vs) (n := (i : Int)) i rfl rfl (mem_app N (mem_at 3 rfl)) U22 ty23 rfl (by omega))
   | 14, h_ => cases h_; exact Ob.f rfl .n fun N => (OpOk.le (O.ldR i rfl (mem_app N (mem_at 3 rfl)) Li rfl (y := (vs.getD i nilV)) (gd nilV (by omega)) ty23 rfl) (val_ex _))
   | 15, h_ => cases h_; exact Ob.l rfl .n (OV.mv rfl)
   | 16, h_ => cases h_; exact Ob.l rfl .n (OV.sub rfl rfl (c := (((c : Int) + 1) - 1)) (w64 (by omega)))
   | 17, h_ => cases h_; exact Ob.f rfl .n fun N => (O.mv rfl)
   | 18, h_ => cases h_; exact Ob.f rfl .n fun N => (O.nck rfl)
   | 19, h_ => cases h_; exact Ob.f rfl .n fun N => (O.fa rfl fld173_2 rfl)
   | 20, h_ => cases h_; exact Ob.f rfl .n fun N => (OpOk.le (O.ld (p := kVal.is vV) rfl (mem_app N (mem_at 0 rfl)) (Lens.snd (Lens.snd (Lens.fst Li))) ty22 rfl) (val_ex _))
   | 21, h_ => cases h_; exact Ob.f rfl .n fun N => (O.mv rfl)
   | 22, h_ => cases h_; exact Ob.f rfl .n fun N => (O.ixR (k := kVal) (xs := vs) (n := (i : Int)) i rfl rfl (mem_app N (mem_at 3 rfl)) U22 ty23 rfl (by omega))
   | 23, h_ => cases h_; exact Ob.f rfl .n fun N => (OpOk.le (O.ldR i rfl (mem_app N (mem_at 3 rfl)) Li rfl (y := (vs.getD i nilV)) (gd nilV (by omega)) ty23 rfl) (val_ex _))
   | 24, h_ => cases h_; exact Ob.f rfl .n fun N => (O.mv rfl)
   | 25, h_ => cases h_; exact Ob.f rfl .n fun N => (O.sub rfl rfl (c := (((c : Int) + 1) - 1)) (w64 (by omega)))
   | 26, h_ => cases h_; exact Ob.f rfl .n fun N => (O.ixF (e := 29) (k := kC) (xss := (mapN (colG (c + 1)) i V)) (n := (((c : Int) + 1) - 1)) i c rfl rfl (mem_app N (mem_at 4 rfl)) rfl (by omega) U23 ty29 (by omega) (by rw [mapN_at (by rw [hrV.len]; omega), hrV.row _ (by omega)]; omega))
   | 27, h_ => cases h_; exact Ob.f rfl .n fun N => (O.ldF (k := kC) (xss := (mapN (colG (c + 1)) i V)) i c rfl (mem_app N (mem_at 4 rfl)) rfl (by omega) Li rfl (y := ((V.getD i []).getD c 0)) (mapN_at2 (by omega) (by rw [hrV.row i (by omega)]; omega)) ty29 rfl)
   | 28, h_ => cases h_; exact Ob.f rfl .n fun N => (O.mv rfl)
   | 29, h_ => cases h_; exact Ob.f rfl .n fun N => (O.nck rfl)
   | 30, h_ => cases h_; exact Ob.f rfl .n fun N => (O.fa rfl fld173_2 rfl)
   | 31, h_ => cases h_; exact Ob.f rfl .n fun N => (OpOk.le (O.ld (p := kVal.is vV) rfl (mem_app N (mem_at 0 rfl)) (Lens.snd (Lens.snd (Lens.fst Li))) ty22 rfl) (val_ex _))
   | 32, h_ => cases h_; exact Ob.f rfl .n fun N => (O.mv rfl)
   | 33, h_ => cases h_; exact Ob.f rfl .n fun N => (O.ixR (k := kVal) (xs := vs) (n := (i : Int)) i rfl rfl (mem_app N (mem_at 3 rfl)) U22 ty23 rfl (by omega))
   | 34, h_ => cases h_; exact Ob.f rfl .n fun N => (OpOk.le (O.ldR i rfl (mem_app N (mem_at 3 rfl)) Li rfl (y := (vs.getD i nilV)) (gd nilV (by omega)) ty23 rfl) (val_ex _))
   | 35, h_ => cases h_; exact Ob.f rfl .n fun N => (O.mv rfl)
   | 36, h_ => cases h_; exact Ob.f rfl .n fun N => (O.ixF (e := 29) (k := kC) (xss := (mapN (colG (c + 1)) i V)) (n := ((c : Int) + 1)) i (c + 1) rfl rfl (mem_app N (mem_at 4 rfl)) rfl (by omega) U23 ty29 (by omega) (by rw [mapN_at (by rw [hrV.len]; omega), hrV.row _ (by omega)]; omega))
   | 37, h_ => cases h_; exact Ob.f rfl .n fun N => (O.ldF (k := kC) (xss := (mapN (colG (c + 1)) i V)) i (c + 1) rfl (mem_app N (mem_at 4 rfl)) rfl (by omega) Li rfl (y := ((V.getD i []).getD (c + 1) 0)) (mapN_at2 (by omega) (by rw [hrV.row i (by omega)]; omega)) ty29 rfl)
   | 38, h_ => cases h_; exact Ob.f rfl .n fun N => (O.ixF (e := 29) (k := kC) (xss := (mapN (colG (c + 1)) i V)) (n := ((c : Int) + 1)) i (c + 1) rfl rfl (mem_app N (mem_at 4 rfl)) rfl (by omega) U23 ty29 (by omega) (by rw [mapN_at (by rw [hrV.len]; omega), hrV.row _ (by omega)]; omega))
   | n_ + 39, h_ => simp at h_
  refine WP.t .n (O.stF 4 i (c + 1) rfl rfl rfl (by omega) Li rfl (y0 := (((mapN (colG (c + 1)) i V).getD i []).getD (c + 1) 0)) (gd 0 (by rw [mapN_at (by rw [hrV.len]; omega), hrV.row _ (by omega)]; omega)) ty29 rfl Lr) (Ws (O.ixF (e := 29) (k := kC) (xss := ((mapN (colG (c + 1)) i V).set i (((mapN (colG (c + 1)) i V).getD i []).set (c + 1) ((V.getD i []).getD c 0)))) (n := (((c : Int) + 1) - 1)) i c rfl rfl (mem_at 4 rfl) rfl (by omega) U23 ty29 (by omega) (by rw [mapN_at (by rw [hrV.len]; omega), mapN_len2 (by rw [hrV.len]; omega), hrV.row _ (by omega)]; omega)) (WP.t .n (O.stF 4 i c rfl rfl rfl (by omega) Li rfl (y0 := ((((mapN (colG (c + 1)) i V).set i (((mapN (colG (c + 1)) i V).getD i []).set (c + 1) ((V.getD i []).getD c 0))).getD i []).getD c 0)) (gd 0 (by rw [mapN_at (by rw [hrV.len]; omega), mapN_len2 (by rw [hrV.len]; omega), hrV.row _ (by omega)]; omega)) ty29 rfl Lr) (WP.nil (QE.blkN (QE.next (CW.region (Ws (O.add rfl rfl (c := ((i : Int) + 1)) (w64 (by omega))) (Wm rfl (WP.nil (ST.obtold 4 rfl (OB.fam_eq rfl (yss := (mapN (colG (c + 1)) (i + 1) V)) (mapN_set2 (by omega))) ?_))))))))))
  exact QE.round (i + 1) (by omega) (by omega) (Imp.cons rfl (Imp.cons rfl (Imp.cons rfl (Imp.consLe rfl (is_eq (y := (((i + 1) : Nat) : Int)) (by rfl)) Imp.nil)))) (OImp.refl _)
 ·
  refine CW.exit (QE.thenE (QE.thenE (QE.blkH (QE.next (CW.seq (ST.obtold 4 rfl (OB.fam_eq rfl (yss := (colS V (c + 1))) (mapN_end (by omega))) (CW.region (Wm rfl (Wm rfl (Ws (O.nck rfl) (Ws (O.fa rfl fld173_3 rfl) (Ws (O.ld (p := kGso.is (gDs (G) n, gLs (G) n)) rfl (mem_at 0 rfl) (Lens.snd (Lens.snd (Lens.snd (Lens.fst Li)))) ty25 rfl) (Wm rfl (Ws (O.fn fn150 (evs.l rfl (is_eq (y := (gDs G n, gLs G n)) (by rfl)) (evs.c rfl evs.nil)) (c_gso_Swap G n nB (by assumption) (by assumption) (by assumption) (by assumption) (by omega) c (by assumption) (by assumption) (by assumption))) (Wm rfl (Ws (O.ext rfl rfl) (Ws (O.ext rfl rfl) (Ws (O.nck rfl) (Ws (O.fa rfl fld173_3 rfl) (WP.t .n (O.st 0 rfl rfl (Lens.snd (Lens.snd (Lens.snd (Lens.fst Li)))) ty25 rfl Lr) (Wn (CW.region ?_))))))))))))))))))))))
  refine Wm rfl (Wm rfl (Ws (O.nck rfl) (Ws (O.fa rfl fld173_4 rfl) (Ws (OpOk.le (O.ld (p := kVal.is vS) rfl (mem_at 0 rfl) (Lens.snd (Lens.snd (Lens.snd (Lens.snd Li)))) ty155 rfl) (val_ex _)) (Wm rfl (Ws (O.bs U155 el3_int (evl.l rfl (i64_int (by omega)) evl.n) rfl (by decide)) (WP.ap 5 .n rfl rfl rfl Lr U155 el3_int (by simp; omega) fun v1 => Ws (O.nck rfl) (Ws (O.fa rfl fld173_4 rfl) (ST.rowcell 5 rfl fun hcell_ => WP.t .n (O.st 0 rfl rfl (Lens.snd (Lens.snd (Lens.snd (Lens.snd Li)))) ty155 rfl (ex_val (by assumption))) (WP.nil (ST.oimp (OImp.ix [0, 1, 2, 3, 4, 5] (by decide) rfl) ?_)))))))))))
  exact QE.done (.inr rfl) rfl ResOk.nil (OImp.os (OS.keepLe (OB.box_eq (by rfl)) (OS.keep (OS.keep (OS.keep (OS.keep (OS.keep OS.nil))))))) ⟨v1, rfl, rfl, trivial⟩
end Fw
/- The reduction of rows: the program. -/
set_option linter.unusedVariables false
set_option linter.unusedSimpArgs false
set_option exponentiation.threshold 400
set_option maxRecDepth 20000
set_option maxHeartbeats 1000000
namespace Fw
open Go Go.Proofs
theorem c_lll_sizes (pw : Nat) (vB vU vV vS : Value) (vs : List Value) (b : List (List Int)) (M Dm P : Int) (nz K : Nat) (hZ : Basis b) (hL : LS b M Dm P nz K) (B0 U0 V0 : List (List Int)) (S : List Int) (k : Nat) (hI : WI b M Dm P B0 U0 V0 S k) (hk : k < b.length) (hvl : vs.length = b.length) : Con Tryz.prog 202 [VP.pt pw 0, kN6.is (k : Int)] [OB.box pw 173 (kPair kVal (kPair kVal (kPair kVal (kPair kGso kVal)))) (vB, vU, vV, (gDs (gram B0) b.length, gLs (gram B0) b.length), vS), OB.row vB 23 kVC B0, OB.row vU 23 kVC U0, OB.row vV 23 kVal vs, OB.fam vs 29 kC V0] (fun p Lo => ∃ (B : List (List Int)) (U : List (List Int)) (V : List (List Int)), p = VP.tup [] ∧ Lo = [OB.box pw 173 (kPair kVal (kPair kVal (kPair kVal (kPair kGso kVal)))) (vB, vU, vV, (gDs (gram B) b.length, gLs (gram B) b.length), vS), OB.row vB 23 kVC B, OB.row vU 23 kVC U, OB.row vV 23 kVal vs, OB.fam vs 29 kC V] ∧ WK b M Dm P B0 U0 V0 B U V S k) := by
 refine Con.enter Tryz.func202 rfl rfl fun m w => ?_
 have hb12 := hZ.n
 refine Cr (Wm rfl (Ws (O.sub rfl rfl (c := ((k : Int) - 1)) (w64 (by omega))) (Wa rfl (Wn (CW.block (CW.loop4 (fun (c : Nat) (B : List (List Int)) (U : List (List Int)) (V : List (List Int)) => WJ b M Dm P B0 U0 V0 B U V S k c) (fun (c : Nat) (B : List (List Int)) (U : List (List Int)) (V : List (List Int)) => [(0, VP.pt pw 0), (1, kN6.is (k : Int)), (4, kN6.is ((c : Int) - 1))]) (fun (c : Nat) (B : List (List Int)) (U : List (List Int)) (V : List (List Int)) => [OB.box pw 173 (kPair kVal (kPair kVal (kPair kVal (kPair kGso kVal)))) (vB, vU, vV, (gDs (gram B) b.length, gLs (gram B) b.length), vS), OB.row vB 23 kVC B, OB.row vU 23 kVC U, OB.row vV 23 kVal vs, OB.fam vs 29 kC V]) (fun (c : Nat) (B : List (List Int)) (U : List (List Int)) (V : List (List Int)) => c) k B0 U0 V0 (hI.begin hk) (Imp.cons rfl (Imp.cons rfl (Imp.cons rfl Imp.nil))) (OImp.refl _) ?_))))))
 intro c B U V hJ
 have hck := hJ.ck
 refine CW.seq (Cr (Wm rfl (Ws (O.ge rfl rfl) (Wn ?_))))
 refine CW.condD rfl (fun h_t10 => ?_) (fun h_t10 => ?_)
 ·
  refine CW.skip (QE.next (CW.seq (CW.block (CW.seq ?_))))
  have hCC := hJ.l.c
  have hNn := hL.lb.n
  have hdi := hJ.l.dia hL.lb (show k < b.length by omega) hb12
  have hDz := sz_D hCC hL.lb
  have hLz := sz_L hCC hL.lb hdi
  have hzB := hJ.wc.szB hL.lb hdi
  have hzU := hJ.wc.szU (gram_symG hZ.r) hZ.p hb12 hL.lb hL.m hL.d hdi
  have hzV := hJ.wc.szV hCC hb12 hL.lb hL.m hdi
  have hqz := sz_q hCC hL.lb hdi (show c - 1 < k by omega) (by omega)
  refine CW.drawM (Γ := [.fr (VP.pt pw 0), .fr (VP.pt pw 0), .fr (VP.pt pw 3), .fr (VP.pt pw 4), .fr (kMC.is (gLs (gram B) b.length)), .fr (kN6.is (k : Int)), .fr (VP.pim kVC ((gLs (gram B) b.length).getD k [])), .fr (kVC.is ((gLs (gram B) b.length).getD k [])), .fr (kN6.is ((c : Int) - 1)), .fr (VP.pim kC (uE (gram B) (c - 1) k (c - 1))), .fr (kC.is (uE (gram B) (c - 1) k (c - 1))), .fr (VP.pt pw 0), .fr (VP.pt pw 0), .fr (VP.pt pw 3), .fr (VP.pt pw 3), .fr (kVC.is (gDs (gram B) b.length)), .fr (kN6.is ((c : Int) - 1)), .fr (kN6.is (((c : Int) - 1) + 1)), .fr (VP.pim kC (uD (gram B) c)), .fr (kC.is (uD (gram B) c)), .fr (VP.tup [kC.is (nearI (uE (gram B) (c - 1) k (c - 1)) (uD (gram B) c)), kN6.is 0]), .fr (VP.tup [kC.is (nearI (uE (gram B) (c - 1) k (c - 1)) (uD (gram B) c)), kN6.is 0]), .fr (kC.is (nearI (uE (gram B) (c - 1) k (c - 1)) (uD (gram B) c))), .lt (kN6.is 0), .al (fun b => OB.box b 29 kC 0)]) (om rfl rfl (on_ rfl rfl (of_ rfl (fun N => O.fa rfl fld173_3 rfl) (of_ rfl (fun N => O.fa rfl fld25_1 rfl) (of_ rfl (fun N => O.ld (p := kMC.is (gLs (gram B) b.length)) rfl (mem_app N (mem_at 0 rfl)) (Lens.snd (Lens.snd (Lens.snd (Lens.fst (Lens.snd Li))))) ty22 rfl) (om rfl rfl (of_ rfl (fun N => O.ix k rfl rfl U22 ty23 (by omega) (v := ((gLs (gram B) b.length).getD k [])) (gd [] (by simp only [gRow_len, gDs_len, gLs_len]; omega))) (of_ rfl (fun N => O.ldP rfl ty23) (om rfl rfl (of_ rfl (fun N => O.ix (c - 1) rfl rfl U23 ty29 (by omega) (v := (uE (gram B) (c - 1) k (c - 1))) (gLs_at (by omega) (by omega))) (of_ rfl (fun N => O.ldP rfl ty29) (om rfl rfl (on_ rfl rfl (of_ rfl (fun N => O.fa rfl fld173_3 rfl) (of_ rfl (fun N => O.fa rfl fld25_0 rfl) (of_ rfl (fun N => O.ld (p := kVC.is (gDs (gram B) b.length)) rfl (mem_app N (mem_at 0 rfl)) (Lens.snd (Lens.snd (Lens.snd (Lens.fst (Lens.fst Li))))) ty23 rfl) (om rfl rfl (of_ rfl (fun N => O.add rfl rfl (c := (((c : Int) - 1) + 1)) (w64 (by omega))) (of_ rfl (fun N => O.ix c rfl rfl U23 ty29 (by omega) (v := (uD (gram B) c)) (gDs_at (by omega))) (of_ rfl (fun N => O.ldP rfl ty29) (of_ rfl (fun N => O.fn fn215 (evs.l rfl (kC_Z ((hLz k (c - 1) (by omega) (by omega)).sm (by omega))) (evs.l rfl (kC_Z ((hDz c (by omega)).sm (by omega))) evs.nil)) (c_zint_Near (4 * nz + 8) (uE (gram B) (c - 1) k (c - 1)) (uD (gram B) c) (hLz k (c - 1) (by omega) (by omega)) (hDz c (by omega)) (hCC.p.uD (by omega)) (by omega))) (om rfl rfl (of_ rfl (fun N => O.ext rfl rfl) (oc (Ob.l rfl .n (OV.ext rfl rfl)) (oc (Ob.a rfl z29_C) oz))))))))))))))))))))))))) (fun σ1 => ?_)
  refine WP.t .n (O.stW (l := kC) (u := nearI (uE (gram B) (c - 1) k (c - 1)) (uD (gram B) c)) 0 rfl rfl rfl ty29 rfl Lr) (Wa rfl (Wn (CW.seq (ST.obtold 0 rfl (OB.box_eq (y := (nearQ (frM (gram B) k (c - 1)))) (by rw [← nearI_frM hCC.s hCC.p (show c - 1 < k by omega) (by omega), show c - 1 + 1 = c by omega])) (CW.region (Ws (O.ld rfl (mem_at 0 rfl) Li ty29 rfl) (Ws (O.fn fn57 (evs.l rfl (kC_Z (hqz.sm (by omega))) evs.nil) (c_zint_Sign (nearQ (frM (gram B) k (c - 1))))) (Ws (O.ne rfl rfl) (Wn ?_)))))))))
  refine CW.condD rfl (fun h_t39 => ?_) (fun h_t39 => ?_)
  ·
   refine CW.region (Wm rfl (Wm rfl (Wm rfl (Ws (O.ld rfl (mem_at 0 rfl) Li ty29 rfl) (ST.oimp (OImp.ix [1, 2, 3, 4, 5, 0] (by decide) rfl) (WP.call (Li := [OB.box pw 173 (kPair kVal (kPair kVal (kPair kVal (kPair kGso kVal)))) (vB, vU, vV, (gDs (gram B) b.length, gLs (gram B) b.length), vS), OB.row vB 23 kVC B, OB.row vU 23 kVC U, OB.row vV 23 kVal vs, OB.fam vs 29 kC V]) (L := [OB.box (σ1 24) 29 kC (nearQ (frM (gram B) k (c - 1)))]) .n fn251 (evs.c rfl (evs.c rfl (evs.l rfl (is_eq (y := (((c - 1) : Nat) : Int)) (by omega)) (evs.l rfl (kC_Z (hqz.sm (by omega))) evs.nil)))) (c_lll_lose pw vB vU vV vS vs B U V (gram B) b.length ((b.getD 0 []).length) (4 * nz + 8) k (c - 1) (nearQ (frM (gram B) k (c - 1))) hJ.wc.rb hJ.wc.ru hJ.wc.rv (by assumption) hZ.n0 hb12 hCC.p hCC.s hDz hLz hqz hzB hzU hzV (by omega) (by assumption) (by omega)) fun p_ Lo_ hp_ => ?_))))))
   obtain ⟨rfl, rfl, hx_t44⟩ := hp_
   refine WP.nil (QE.blkN (QE.next (CW.region (Wm rfl (Ws (O.sub rfl rfl (c := (((c : Int) - 1) - 1)) (w64 (by omega))) (Wa rfl (WP.nil (ST.oimp (OImp.ix [0, 1, 2, 3, 4] (by decide) rfl) (ST.obtold 0 rfl (OB.box_eq (y := (vB, vU, vV, (gDs (gram (rowU B k (c - 1) (-(nearQ (frM (gram B) k (c - 1)))))) b.length, gLs (gram (rowU B k (c - 1) (-(nearQ (frM (gram B) k (c - 1)))))) b.length), vS)) (by rw [gram_row hJ.wc.rb _ hk])) ?_)))))))))
   exact QE.round4 (c - 1) (rowU B k (c - 1) (-(nearQ (frM (gram B) k (c - 1))))) (rowU U k (c - 1) (-(nearQ (frM (gram B) k (c - 1))))) (colV V k (c - 1) (nearQ (frM (gram B) k (c - 1)))) (by omega) (hJ.lose (by omega) hk (fun h => h_t39 (by rw [h]; rfl))) (Imp.cons rfl (Imp.cons rfl (Imp.consLe rfl (is_eq (y := ((((c - 1) : Nat) : Int) - 1)) (by omega)) Imp.nil))) (OImp.refl _)
  ·
   refine CW.skip (QE.blkN (QE.next (CW.region (Wm rfl (Ws (O.sub rfl rfl (c := (((c : Int) - 1) - 1)) (w64 (by omega))) (Wa rfl (WP.nil (ST.oimp (OImp.ix [1, 2, 3, 4, 5] (by decide) rfl) ?_))))))))
   exact QE.round4 (c - 1) B U V (by omega) (hJ.zero (by omega) hk (Int.sign_eq_zero_iff_zero.1 (by omega))) (Imp.cons rfl (Imp.cons rfl (Imp.consLe rfl (is_eq (y := ((((c - 1) : Nat) : Int) - 1)) (by omega)) Imp.nil))) (OImp.refl _)
 ·
  refine CW.exit (QE.thenE (QE.thenE (QE.blkH ?_)))
  have hK := (show WJ b M Dm P B0 U0 V0 B U V S k 0 by rw [show c = 0 by omega] at hJ; exact hJ).fin hk hZ.n
  exact QE.done (.inr rfl) rfl ResOk.nil (OImp.refl _) ⟨B, U, V, rfl, rfl, hK⟩
theorem c_lll_run (pw : Nat) (vB vU vV vS : Value) (vs : List Value) (b : List (List Int)) (M Dm P : Int) (nz K : Nat) (hZ : Basis b) (hL : LS b M Dm P nz K) (hvl : vs.length = b.length) : Con Tryz.prog 201 [VP.pt pw 0, VP.bnd 202 [VP.pt pw 0]] [OB.box pw 173 (kPair kVal (kPair kVal (kPair kVal (kPair kGso kVal)))) (vB, vU, vV, (gDs (gram b) b.length, gLs (gram b) b.length), vS), OB.row vB 23 kVC b, OB.row vU 23 kVC (unitV b.length), OB.row vV 23 kVal vs, OB.fam vs 29 kC (unitV b.length), OB.row vS 3 kI64 []] (fun p Lo => ∃ (vT : Value) (B : List (List Int)) (U : List (List Int)) (V : List (List Int)) (S : List Int), p = VP.tup [] ∧ Lo = [OB.box pw 173 (kPair kVal (kPair kVal (kPair kVal (kPair kGso kVal)))) (vB, vU, vV, (gDs (gram B) b.length, gLs (gram B) b.length), vT), OB.row vB 23 kVC B, OB.row vU 23 kVC U, OB.row vV 23 kVal vs, OB.fam vs 29 kC V, OB.row vT 3 kI64 S] ∧ WI b M Dm P B U V S b.length) := by
 refine Con.enter Tryz.func201 rfl rfl fun m w => ?_
 have hb12 := hZ.n
 refine CW.scope (Cr (Wa rfl (Wn (CW.seq (CW.label (QE.next (CW.block (CW.loop6 (fun (k : Nat) (B : List (List Int)) (U : List (List Int)) (V : List (List Int)) (S : List Int) (vT : Value) => WI b M Dm P B U V S k) (fun (k : Nat) (B : List (List Int)) (U : List (List Int)) (V : List (List Int)) (S : List Int) (vT : Value) => [(0, VP.pt pw 0), (1, VP.bnd 202 [VP.pt pw 0]), (4, kN6.is (k : Int))]) (fun (k : Nat) (B : List (List Int)) (U : List (List Int)) (V : List (List Int)) (S : List Int) (vT : Value) => [OB.box pw 173 (kPair kVal (kPair kVal (kPair kVal (kPair kGso kVal)))) (vB, vU, vV, (gDs (gram B) b.length, gLs (gram B) b.length), vT), OB.row vB 23 kVC B, OB.row vU 23 kVC U, OB.row vV 23 kVal vs, OB.fam vs 29 kC V, OB.row vT 3 kI64 S]) (fun (k : Nat) (B : List (List Int)) (U : List (List Int)) (V : List (List Int)) (S : List Int) (vT : Value) => muL (gram B) b.length k) 1 b (unitV b.length) (unitV b.length) [] vS (by have := WI.init hZ hL.m hL.d hL.lb; rw [← hL.pe] at this; exact this) (Imp.cons rfl (Imp.cons rfl (Imp.consLe rfl (is_eq (y := (1 : Int)) (by rfl)) Imp.nil))) (OImp.refl _) ?_))))))))
 intro k B U V S vT hI
 have hkn := hI.kn
 have hk0 := hI.k0
 have hlB := hI.wc.rb.len
 refine CW.seq (Cr (Wm rfl (Wm rfl (Ws (O.nck rfl) (Ws (O.fa rfl fld173_0 rfl) (Ws (OpOk.le (O.ld (p := kVal.is vB) rfl (mem_at 0 rfl) (Lens.fst Li) ty22 rfl) (val_ex _)) (Ws (O.lenR rfl (mem_at 1 rfl) U22) (Ws (O.lt rfl rfl) (Wn ?_)))))))))
 refine CW.condD rfl (fun h_t11 => ?_) (fun h_t11 => ?_)
 ·
  have hkl : k < b.length := by omega
  refine CW.skip (QE.next (CW.block (Cr (Wm rfl (Wm rfl (WP.callb (Li := [OB.box pw 173 (kPair kVal (kPair kVal (kPair kVal (kPair kGso kVal)))) (vB, vU, vV, (gDs (gram B) b.length, gLs (gram B) b.length), vT), OB.row vB 23 kVC B, OB.row vU 23 kVC U, OB.row vV 23 kVal vs, OB.fam vs 29 kC V]) (L := [OB.row vT 3 kI64 S]) .n rfl fn202 (evs.c rfl evs.nil) (c_lll_sizes pw vB vU vV vT vs b M Dm P nz K (by assumption) (by assumption) B U V S k hI (by assumption) (by assumption)) fun p_ Lo_ hp_ => ?_))))))
  obtain ⟨B1, U1, V1, rfl, rfl, hK⟩ := hp_
  refine Wn (CW.seq (CW.seq ?_))
  have hCC := hK.l.c
  have hNn := hL.lb.n
  have hdi := hK.l.dia hL.lb
  have hDz := sz_D hCC hL.lb
  have hLz := sz_L hCC hL.lb hdi
  refine CW.region (Wm rfl (Ws (O.nck rfl) (Ws (O.fa rfl fld173_3 rfl) (Ws (O.ld (p := kGso.is (gDs (gram B1) b.length, gLs (gram B1) b.length)) rfl (mem_at 0 rfl) (Lens.snd (Lens.snd (Lens.snd (Lens.fst Li)))) ty25 rfl) (Wm rfl (Ws (O.fn fn249 (evs.c rfl (evs.l rfl (is_eq (y := ((((k - 1) : Nat) : Int) + 1)) (by omega)) evs.nil)) (c_lll_holds (gram B1) b.length (4 * nz + 8) hZ.n0 hb12 hCC.p hDz (by omega) (k - 1) (by omega) hCC.s hLz (by omega))) (Wn ?_)))))))
  refine CW.condD rfl (fun h_t20 => ?_) (fun h_t20 => ?_)
  ·
   refine Cr (Wm rfl (Ws (O.add rfl rfl (c := ((k : Int) + 1)) (w64 (by omega))) (Wa rfl (Wn (CW.exit (QE.thenE (QE.blkH ?_)))))))
   exact QE.round6 (k + 1) B1 U1 V1 S vT (hK.mu_yes (by omega)) (hK.yes hI (by omega) (by rw [show k = k - 1 + 1 by omega]; exact h_t20)) (Imp.cons rfl (Imp.cons rfl (Imp.consLe rfl (is_eq (y := (((k + 1) : Nat) : Int)) (by rfl)) Imp.nil))) (OImp.refl _)
  ·
   refine CW.skip (QE.next (Cr (Wm rfl (Wm rfl (WP.call (Li := [OB.box pw 173 (kPair kVal (kPair kVal (kPair kVal (kPair kGso kVal)))) (vB, vU, vV, (gDs (gram B1) b.length, gLs (gram B1) b.length), vT), OB.row vB 23 kVC B1, OB.row vU 23 kVC U1, OB.row vV 23 kVal vs, OB.fam vs 29 kC V1, OB.row vT 3 kI64 S]) (L := []) .n fn250 (evs.c rfl (evs.l rfl (is_eq (y := ((((k - 1) : Nat) : Int) + 1)) (by omega)) evs.nil)) (c_lll_swap pw vB vU vV vT vs B1 U1 V1 S (gram B1) b.length ((b.getD 0 []).length) (4 * nz + 8) (k - 1) hK.wc.rb hK.wc.ru hK.wc.rv (by assumption) hZ.n0 hb12 hCC.p hCC.s hDz hLz (by omega) (hI.swn hL) (by omega)) fun p_ Lo_ hp_ => ?_)))))
   obtain ⟨vT2, rfl, rfl, hx25⟩ := hp_
   refine Wn (CW.region (Wm rfl (Ws (O.sub rfl rfl (c := ((k : Int) - 1)) (w64 (by omega))) (Ws (O.mx rfl rfl) (Wa rfl (WP.nil (QE.blkN (ST.obtold 0 rfl (OB.box_eq (y := (vB, vU, vV, (gDs (gram (swpU B1 (k - 1))) b.length, gLs (gram (swpU B1 (k - 1))) b.length), vT2)) (by rw [gram_swp hK.wc.rb (by omega)])) (ST.obtold 4 rfl (OB.fam_eq rfl (yss := (colS V1 k)) (by rw [show k - 1 + 1 = k by omega])) (ST.obtold 5 rfl (OB.row_eq (ys := (S ++ [(k : Int)])) (by rw [show ((k - 1 : Nat) : Int) + 1 = (k : Int) by omega])) ?_))))))))))
   exact QE.round6 (max (k - 1) 1) (swpU B1 (k - 1)) (swpU U1 (k - 1)) (colS V1 k) (S ++ [(k : Int)]) vT2 (by exact hK.mu_no (by omega) (by omega) (by rw [show k = k - 1 + 1 by omega]; exact h_t20) _) (hK.no hI (by omega) (by rw [show k = k - 1 + 1 by omega]; exact h_t20)) (Imp.cons rfl (Imp.cons rfl (Imp.consLe rfl (is_eq (y := (((max (k - 1) 1) : Nat) : Int)) (by omega)) Imp.nil))) (OImp.refl _)
 ·
  refine CW.exit (QE.thenE (QE.thenE (QE.blkH (QE.scN ?_))))
  exact QE.done (.inr rfl) rfl ResOk.nil (OImp.refl _) ⟨vT, B, U, V, S, rfl, rfl, (by rw [show k = b.length by omega] at hI; exact hI)⟩
theorem c_lll_reduced (b : List (List Int)) (M Dm P : Int) (nz K : Nat) (hZ : Basis b) (hL : LS b M Dm P nz K) : Con Tryz.prog 130 [kMZ.is b] [] (fun p Lo => ∃ (pw : Nat) (vB : Value) (vU : Value) (vV : Value) (vS : Value) (vs : List Value) (B : List (List Int)) (U : List (List Int)) (V : List (List Int)) (S : List Int), p = VP.pt pw 0 ∧ Lo = [OB.box pw 173 (kPair kVal (kPair kVal (kPair kVal (kPair kGso kVal)))) (vB, vU, vV, (gDs (gram B) b.length, gLs (gram B) b.length), vS), OB.row vB 23 kVC B, OB.row vU 23 kVC U, OB.row vV 23 kVal vs, OB.fam vs 29 kC V, OB.row vS 3 kI64 S] ∧ vs.length = b.length ∧ WI b M Dm P B U V S b.length) := by
 refine Con.enter Tryz.func130 rfl rfl fun m w => Cr (Wa rfl (Wr (Wm rfl (WP.call (Li := []) (L := []) .n fn200 (evs.c rfl evs.nil) (c_lll_begun b (by assumption)) fun p_ Lo_ hp_ => ?_))))
 obtain ⟨pw, vB, vU, vV, vS, vs, rfl, rfl, hvl⟩ := hp_
 refine Wa rfl (Wr (Wm rfl (Wm rfl (Ws (O.mkb (evs.c rfl evs.nil)) (WP.call (Li := [OB.box pw 173 (kPair kVal (kPair kVal (kPair kVal (kPair kGso kVal)))) (vB, vU, vV, (gDs (gram b) b.length, gLs (gram b) b.length), vS), OB.row vB 23 kVC b, OB.row vU 23 kVC (unitV b.length), OB.row vV 23 kVal vs, OB.fam vs 29 kC (unitV b.length), OB.row vS 3 kI64 []]) (L := []) .n fn201 (evs.c rfl (evs.c rfl evs.nil)) (c_lll_run pw vB vU vV vS vs b M Dm P nz K (by assumption) (by assumption) (by assumption)) fun p_ Lo_ hp_ => ?_)))))
 obtain ⟨vT, B, U, V, S, rfl, rfl, hI⟩ := hp_
 refine Wr (Wm rfl (Wa rfl (Wn (CW.ret ?_))))
 exact QE.done (.inl rfl) rfl (ResOk.t rfl ResOk.nil) (OImp.refl _) ⟨pw, vB, vU, vV, vT, vs, B, U, V, S, rfl, rfl, ⟨hvl, hI⟩⟩
end Fw
/- Plain facts: the reduction of rows comes to an end; what is known of the reduced basis. -/
set_option linter.unusedVariables false
set_option linter.unusedSimpArgs false
set_option exponentiation.threshold 600
namespace Fw
open Go
section
variable {b B0 U0 V0 B U V : List (List Int)} {S : List Int} {M Dm P : Int} {k c N K : Nat}
theorem WJ.down : ∀ (c : Nat) {B U V : List (List Int)}, WJ b M Dm P B0 U0 V0 B U V S k c → k < b.length → ∃ B' U' V', WJ b M Dm P B0 U0 V0 B' U' V' S k 0
  | 0, B, U, V, h, _ => ⟨B, U, V, h⟩
  | c + 1, B, U, V, h, hk => by
    by_cases hz : nearQ (frM (gram B) k (c + 1 - 1)) = 0
    · exact WJ.down c (h.zero (by omega) hk hz) hk
    · exact WJ.down c (h.lose (by omega) hk hz) hk
theorem WI.ends (hZ : Basis b) : ∀ (n : Nat) {B U V : List (List Int)} {S : List Int} {k : Nat}, muL (gram B) b.length k < n → WI b M Dm P B U V S k → ∃ B U V S, WI b M Dm P B U V S b.length
  | 0, B, U, V, S, k, hm, h => absurd hm (by omega)
  | n + 1, B, U, V, S, k, hm, h => by
    by_cases hk : k < b.length
    · obtain ⟨B', U', V', hj⟩ := WJ.down k (h.begin hk) hk
      have hK := hj.fin hk hZ.n
      by_cases hl : lov (gram B') k
      · exact WI.ends hZ n (by have := hK.mu_yes hk; omega) (hK.yes h hk hl)
      · exact WI.ends hZ n (by have := hK.mu_no h.k0 hk hl (max (k - 1) 1); omega) (hK.no h hk hl)
    · have := h.kn
      have e : k = b.length := by omega
      subst e
      exact ⟨B, U, V, S, h⟩
end
noncomputable def llY (b : List (List Int)) : WL × List Int × Nat := by
  classical
  exact if h : ∃ y, wR b.length (w0 b) y ∧ ¬ y.2.2 < b.length then Classical.choose h else (⟨[], [], []⟩, [], 0)
noncomputable def llB (b : List (List Int)) : List (List Int) := (llY b).1.b
noncomputable def llU (b : List (List Int)) : List (List Int) := (llY b).1.u
noncomputable def llV (b : List (List Int)) : List (List Int) := (llY b).1.v
noncomputable def llS (b : List (List Int)) : List Int := (llY b).2.1
theorem llY_eq {b B U V : List (List Int)} {S : List Int} {M Dm P : Int} (h : WI b M Dm P B U V S b.length) : llY b = (⟨B, U, V⟩, S, b.length) := by
  have hx : ∃ y, wR b.length (w0 b) y ∧ ¬ y.2.2 < b.length := ⟨_, h.r, Nat.lt_irrefl _⟩
  unfold llY
  rw [dif_pos hx]
  exact wR.det (Classical.choose_spec hx).1 h.r (Classical.choose_spec hx).2 (Nat.lt_irrefl _)
theorem ll_eq {b B U V : List (List Int)} {S : List Int} {M Dm P : Int} (h : WI b M Dm P B U V S b.length) : B = llB b ∧ U = llU b ∧ V = llV b ∧ S = llS b := by
  have e := llY_eq h
  unfold llB llU llV llS
  rw [e]
  exact ⟨rfl, rfl, rfl, rfl⟩
theorem ll_WI {b : List (List Int)} {M Dm P : Int} {N K : Nat} (hZ : Basis b) (hL : LS b M Dm P N K) : WI b M Dm P (llB b) (llU b) (llV b) (llS b) b.length := by
  have h0 := WI.init hZ hL.m hL.d hL.lb
  rw [← hL.pe] at h0
  obtain ⟨B, U, V, S, h⟩ := WI.ends hZ _ (Nat.lt_succ_self _) h0
  obtain ⟨e1, e2, e3, e4⟩ := ll_eq h
  rw [← e1, ← e2, ← e3, ← e4]
  exact h
structure RedB (b : List (List Int)) : Prop where
  r : CR b.length (b.getD 0 []).length (llB b)
  u : CU b.length (llU b)
  v : CU b.length (llV b)
  p : PosU (gram (llB b)) b.length
  s : SymG (gram (llB b))
  z : SzM 264 (llB b)
  zu : SzM 2147483656 (llU b)
  zv : SzM 2147483656 (llV b)
  n0 : 0 < b.length
  n : b.length ≤ 12
  c : ∀ i, ((llB b).getD i []).length ≤ 12
  hh : ∀ x, x < b.length → ∀ l, l < x → half (frM (gram (llB b)) x l)
  hv : ∀ x, 0 < x → x < b.length → lov (gram (llB b)) x
  g : gram (llB b) = fU (gram b) b.length (matF (llU b))
  gz : ∀ x, x < b.length → gram (llB b) x x ≤ ((2 ^ 526 : Nat) : Int)
  sl : (llS b).length ≤ 79200002
theorem RedB.len {b : List (List Int)} (h : RedB b) : (llB b).length = b.length := h.r.len
theorem Sz_sq {z w : Int} {n : Nat} (h : z * z ≤ w) (hw : w ≤ ((2 ^ (n + n) : Nat) : Int)) : Sz (n + 1) z := by
  unfold Sz
  have h1 : z.natAbs * z.natAbs ≤ 2 ^ n * 2 ^ n := by
    have h2 : ((z.natAbs * z.natAbs : Nat) : Int) ≤ ((2 ^ (n + n) : Nat) : Int) := by
      rw [Int.natAbs_mul_self]; omega
    have h3 : z.natAbs * z.natAbs ≤ 2 ^ (n + n) := by exact_mod_cast h2
    rwa [Nat.pow_add] at h3
  have h2 : z.natAbs ≤ 2 ^ n := by
    by_cases h3 : z.natAbs ≤ 2 ^ n
    · exact h3
    · have := Nat.mul_lt_mul'' (Nat.lt_of_not_le h3) (Nat.lt_of_not_le h3); omega
  have := Nat.two_pow_pos n
  rw [Nat.pow_succ]; omega
theorem redB_of {b : List (List Int)} (hZ : Basis b) : RedB b := by
  obtain ⟨M, Dm, P, N, K, hL⟩ := basis_LS hZ
  have hI := ll_WI hZ hL
  have hd := hI.l.dia hL.lb
  have hN := hL.lb.n
  have hgz : ∀ x, x < b.length → gram (llB b) x x ≤ ((2 ^ 526 : Nat) : Int) := fun x hx => by
    have h1 := hI.l.z x hx
    have h2 := hL.me
    have h3 : (2 : Nat) ^ 526 = 4 * 2 ^ 524 := by decide
    rw [h3, Int.natCast_mul]
    rw [h2] at h1
    exact h1
  refine ⟨hI.wc.rb, hI.wc.ru, hI.wc.rv, hI.l.c.p, hI.l.c.s, fun x i => ?_, (hI.wc.szU (gram_symG hZ.r) hZ.p hZ.n hL.lb hL.m hL.d hd).up (by omega), (hI.wc.szV hI.l.c hZ.n hL.lb hL.m hd).up (by omega), hZ.n0, hZ.n, fun i => ?_, hI.l.h, hI.l.v, hI.wc.gu, hgz, hI.swn hL⟩
  · by_cases hx : x < b.length
    · by_cases hi : i < (b.getD 0 []).length
      · exact Sz_sq (n := 263) (entry_sq hI.wc.rb (x := x) hi) (hgz x hx)
      · rw [getD_nil_of _ _ (by rw [hI.wc.rb.row x hx]; omega)]; exact Sz.zero _
    · rw [getD_nil_of (llB b) _ (by rw [hI.wc.rb.len]; omega)]; exact Sz.zero _
  · by_cases hi : i < b.length
    · rw [hI.wc.rb.row i hi]; exact hZ.c 0
    · rw [getD_nil_of (llB b) _ (by rw [hI.wc.rb.len]; omega)]; simp
theorem RedB.wide {b : List (List Int)} (h : RedB b) : gsoE (llB b) false = 0 ∧ gsoR (llB b) false = (gDs (gram (llB b)) b.length, gLs (gram (llB b)) b.length) := by
  have := wide_ok (b := llB b) (by rw [h.len]; exact h.n0) (by rw [h.len]; exact h.n) h.r.rl h.c (by rw [h.len]; exact h.p)
  rw [h.len] at this
  exact this
end Fw
/- The reduced basis and the plan: the program. -/
set_option linter.unusedVariables false
set_option linter.unusedSimpArgs false
set_option exponentiation.threshold 600
set_option maxRecDepth 20000
set_option maxHeartbeats 1000000
namespace Fw
open Go Go.Proofs
theorem c_lll_Reduce (b : List (List Int)) (hZ : Basis b) (hE : gsoE b true = 0) : Fn Tryz.prog 65 [kMZ.is b] (VP.tup [kRed.is (llB b, llU b, llV b, ((llS b).length : Int)), kN6.is 0]) := by
 refine Con.enter Tryz.func65 rfl rfl fun m w => ?_
 obtain ⟨M, Dm, P, nz, K, hL⟩ := basis_LS hZ
 refine Cr (WP.al .n z35_pr_sl_sl_C_pr_sl_sl_C_pr_sl_sl_C_int___ fun b1 => Wa rfl (Wn (CW.seq (Cr (Wm rfl (Ws (O.fn fn116 (evs.c rfl evs.nil) (c_gso_Valid b)) (Wa rfl (Wr (Wm rfl (Ws (O.ne rfl rfl) (Wn ?_)))))))))))
 refine CW.condD rfl (fun h => absurd h (fun h => h hE)) (fun h_t9 => ?_)
 refine CW.skip (QE.next (Cr (Wm rfl (WP.call (Li := []) (L := [OB.box b1 35 kRed ([], ([], ([], 0)))]) .n fn130 (evs.c rfl evs.nil) (c_lll_reduced b M Dm P nz K (by assumption) (by assumption)) fun p_ Lo_ hp_ => ?_))))
 obtain ⟨pw, vB, vU, vV, vS, vs, B, U, V, S, rfl, rfl, hx⟩ := hp_
 refine Wa rfl (Wn (CW.seq ?_))
 obtain ⟨hvl, hI⟩ := hx
 obtain ⟨e1, e2, e3, e4⟩ := ll_eq hI
 have hsl := hI.swn hL
 refine CW.drawM (Γ := [.fr (VP.pt pw 0), .fr (VP.pt pw 0), .fr (VP.pt pw 0), .fr (VP.ex vB), .fr (VP.pt pw 0), .fr (VP.pt pw 0), .fr (VP.pt pw 1), .fr (VP.ex vU), .fr (VP.pt pw 0), .fr (VP.pt pw 0), .fr (VP.pt pw 2), .fr (VP.ex vV), .fr (VP.pt pw 0), .fr (VP.pt pw 0), .fr (VP.pt pw 5), .fr (VP.ex vS), .fr (kN6.is (S.length : Int))]) (om rfl rfl (on_ rfl rfl (of_ rfl (fun N => O.fa rfl fld173_0 rfl) (of_ rfl (fun N => OpOk.le (O.ld (p := kVal.is vB) rfl (mem_app N (mem_at 0 rfl)) (Lens.fst Li) ty22 rfl) (val_ex _)) (om rfl rfl (on_ rfl rfl (of_ rfl (fun N => O.fa rfl fld173_1 rfl) (of_ rfl (fun N => OpOk.le (O.ld (p := kVal.is vU) rfl (mem_app N (mem_at 0 rfl)) (Lens.snd (Lens.fst Li)) ty22 rfl) (val_ex _)) (om rfl rfl (on_ rfl rfl (of_ rfl (fun N => O.fa rfl fld173_2 rfl) (of_ rfl (fun N => OpOk.le (O.ld (p := kVal.is vV) rfl (mem_app N (mem_at 0 rfl)) (Lens.snd (Lens.snd (Lens.fst Li))) ty22 rfl) (val_ex _)) (om rfl rfl (on_ rfl rfl (of_ rfl (fun N => O.fa rfl fld173_4 rfl) (of_ rfl (fun N => OpOk.le (O.ld (p := kVal.is vS) rfl (mem_app N (mem_at 0 rfl)) (Lens.snd (Lens.snd (Lens.snd (Lens.snd Li)))) ty155 rfl) (val_ex _)) (of_ rfl (fun N => O.lenR rfl (mem_app N (mem_at 5 rfl)) U155) oz))))))))))))))))) (fun σ1 => ?_)
 refine ST.freeze 1 rfl (kp 0 rfl (kp 2 rfl (kp 3 rfl (kp 4 rfl (kp 5 rfl (kp 6 rfl (kp 7 rfl (kp 8 rfl (kp 9 rfl (kp 12 rfl (kp 13 rfl (kp 14 rfl (kp 15 rfl (kp 16 rfl (.hit (i := 17) rfl (kp 18 rfl (kp 19 rfl (kp 20 rfl (kp 21 rfl (kp 22 rfl (kp 23 rfl (kp 24 rfl (kp 25 rfl (kp 26 rfl (kp 27 rfl (kp 28 rfl (kp 29 rfl (kp 30 rfl .nil)))))))))))))))))))))))))))) (ST.freeze 1 rfl (kp 0 rfl (kp 2 rfl (kp 3 rfl (kp 4 rfl (kp 5 rfl (kp 6 rfl (kp 7 rfl (kp 8 rfl (kp 9 rfl (kp 12 rfl (kp 13 rfl (kp 14 rfl (kp 15 rfl (kp 16 rfl (kp 17 rfl (kp 18 rfl (kp 19 rfl (kp 20 rfl (.hit (i := 21) rfl (kp 22 rfl (kp 23 rfl (kp 24 rfl (kp 25 rfl (kp 26 rfl (kp 27 rfl (kp 28 rfl (kp 29 rfl (kp 30 rfl .nil)))))))))))))))))))))))))))) (ST.freezeM 2 1 rfl rfl (kp 0 rfl (kp 2 rfl (kp 3 rfl (kp 4 rfl (kp 5 rfl (kp 6 rfl (kp 7 rfl (kp 8 rfl (kp 9 rfl (kp 12 rfl (kp 13 rfl (kp 14 rfl (kp 15 rfl (kp 16 rfl (kp 17 rfl (kp 18 rfl (kp 19 rfl (kp 20 rfl (kp 21 rfl (kp 22 rfl (kp 23 rfl (kp 24 rfl (.hit (i := 25) rfl (kp 26 rfl (kp 27 rfl (kp 28 rfl (kp 29 rfl (kp 30 rfl .nil)))))))))))))))))))))))))))) (Ws (O.bld lit35_pr_sl_sl_C_pr_sl_sl_C_pr_sl_sl_C_int___ rfl (evp.c rfl (evp.c rfl (evp.c rfl (evp.l rfl (i64_int (by omega)) evp.n)))) (.cons rfl (Lens.fst Li) (.cons rfl (Lens.snd (Lens.fst Li)) (.cons rfl (Lens.snd (Lens.snd (Lens.fst Li))) (.cons rfl (Lens.snd (Lens.snd (Lens.snd Li))) (.nil _)))))) (WP.t .n (O.stW (l := kRed) (u := (B, (U, (V, (S.length : Int))))) 2 rfl rfl rfl ty35 rfl Lr) (Wa rfl (Wn (CW.ret (ST.obtold 2 rfl (OB.box_eq (y := (llB b, llU b, llV b, ((llS b).length : Int))) (by rw [← e1, ← e2, ← e3, ← e4])) ?_))))))))
 exact QE.done (.inl rfl) rfl (ResOk.c rfl (mem_at 2 rfl) ty35 (ResOk.t rfl ResOk.nil)) (OImp.sub (List.nil_sublist _)) ⟨rfl, rfl⟩
theorem c_lll_Reduce_bad (b : List (List Int)) (hE : gsoE b true ≠ 0) : Fn Tryz.prog 65 [kMZ.is b] (VP.tup [kRed.is ([], [], [], 0), kN6.is (gsoE b true)]) := by
 refine Con.enter Tryz.func65 rfl rfl fun m w => Cr (WP.al .n z35_pr_sl_sl_C_pr_sl_sl_C_pr_sl_sl_C_int___ fun b1 => Wa rfl (Wn (CW.seq (Cr (Wm rfl (Ws (O.fn fn116 (evs.c rfl evs.nil) (c_gso_Valid b)) (Wa rfl (Wr (Wm rfl (Ws (O.ne rfl rfl) (Wn ?_)))))))))))
 refine CW.condD rfl (fun h_t9 => ?_) (fun h => absurd hE h)
 refine Cr (Ws (O.bld lit35_pr_sl_sl_C_pr_sl_sl_C_pr_sl_sl_C_int___ rfl evp.n (.nil _)) (Wm rfl (WP.t .n (O.stW (l := kRed) (u := ([], ([], ([], 0)))) 0 rfl rfl rfl ty35 rfl Lr) (Wa rfl (Wn (CW.ret (QE.thenR ?_)))))))
 exact QE.done (.inl rfl) rfl (ResOk.cl rfl (mem_at 0 rfl) ty35 (is_eq (y := ([], [], [], 0)) (by rfl)) (ResOk.t rfl ResOk.nil)) (OImp.sub (List.nil_sublist _)) ⟨rfl, rfl⟩
end Fw
/- Plain facts for the document's reduction: sizes of its fractions, floors, nearest numbers, steps. -/
set_option linter.unusedVariables false
set_option linter.unusedSimpArgs false
set_option exponentiation.threshold 600
namespace Fw
open Go
section
variable {G G0 : Fi} {n N : Nat} {M Dm X : Int}
theorem gr_wi (hs : SymG G) (hp : PosU G n) (hX : ∀ x, x < n → G x x ≤ X) {i j : Nat} (hi : i < n) (hj : j < n) : wi (G i j : Rat) (X : Rat) := by
  have key : ∀ i j, i < n → j < i → -X ≤ G i j ∧ G i j ≤ X := fun i j hi hj => by
    have h1 := row_dia hs hp hj hi 1
    have h2 := row_dia hs hp hj hi (-1)
    have h3 := hX i hi
    have h4 := hX j (by omega)
    omega
  have h : -X ≤ G i j ∧ G i j ≤ X := by
    rcases Nat.lt_trichotomy i j with e | e | e
    · have := key j i hj e; rw [hs i j]; exact this
    · subst e
      have h1 := hX i hi
      have h2 := dia_pos hs hp hi
      omega
    · exact key i j hi e
  constructor
  · have := Rat.intCast_le_intCast.mpr h.1
    rw [Rat.intCast_neg] at this; exact this
  · exact Rat.intCast_le_intCast.mpr h.2
theorem ab_wi {a b s X : Rat} (hs : 0 ≤ s) (ha : a * a * s ≤ X) (hb : b * b * s ≤ X) : wi (a * b * s) X := by
  have h1 : 0 ≤ (a - b) * (a - b) * s := Rat.mul_nonneg (sq_nonneg _) hs
  have h2 : 0 ≤ (a + b) * (a + b) * s := Rat.mul_nonneg (sq_nonneg _) hs
  constructor <;> grind
theorem gsE_wi (hs : SymG G) (hp : PosU G n) (hX : ∀ x, x < n → G x x ≤ X) {i j : Nat} (hi : i < n) (hj : j < n) : ∀ k, k ≤ i → k ≤ j → wi (gsE (qG G) k i j) (((k : Nat) + 1 : Rat) * (X : Rat))
  | 0, _, _ => by
    have := gr_wi hs hp hX hi hj
    exact wi_le this (by have e0 : ((0 : Nat) : Rat) = 0 := rfl
                         rw [e0, Rat.zero_add, Rat.one_mul]; exact Rat.le_refl)
  | k + 1, h1, h2 => by
    have ih := gsE_wi hs hp hX hi hj k (by omega) (by omega)
    have hk : k < n := by omega
    have a1 := Rat.le_trans (term_le hs hp (show k < i by omega) hi) (Rat.intCast_le_intCast.mpr (hX i hi))
    have a2 := Rat.le_trans (term_le hs hp (show k < j by omega) hj) (Rat.intCast_le_intCast.mpr (hX j hj))
    have h3 := ab_wi (Rat.le_of_lt (frS_p hs hp hk)) a2 a1
    rw [← fr_step hs (hp.le (by omega)) j]
    refine wi_le (wi_sub ih h3) ?_
    have : ((k + 1 : Nat) : Rat) = (k : Rat) + 1 := by push_cast; rfl
    rw [this]
    have e : ((k : Rat) + 1) * (X : Rat) + (X : Rat) = ((k : Rat) + 1 + 1) * (X : Rat) := by grind
    rw [e]; exact Rat.le_refl
theorem uE_bd (hs : SymG G) (hp : PosU G n) (h12 : n ≤ 12) (hX : ∀ x, x < n → G x x ≤ X) (hX0 : 0 ≤ X) (hD : ∀ l, l ≤ n → uD G l ≤ Dm) {i j k : Nat} (hi : i < n) (hj : j < n) (h1 : k ≤ i) (h2 : k ≤ j) : -(Dm * (16 * X)) ≤ uE G k i j ∧ uE G k i j ≤ Dm * (16 * X) := by
  have hk : k ≤ n := by omega
  have e := uE_q hs (hp.le hk) h1 h2
  have w1 : wi (gsE (qG G) k i j) ((16 * X : Int) : Rat) := by
    refine wi_le (gsE_wi hs hp hX hi hj k h1 h2) ?_
    rw [Rat.intCast_mul]
    have hk16 : ((k : Nat) + 1 : Rat) ≤ ((16 : Int) : Rat) := by
      have : (k : Int) + 1 ≤ 16 := by omega
      have := Rat.intCast_le_intCast.mpr this
      rw [Rat.intCast_add] at this
      exact this
    exact Rat.mul_le_mul_of_nonneg_right hk16 (Rat.intCast_le_intCast.mpr hX0)
  have w2 : wi (gsD (qG G) k) ((Dm : Int) : Rat) := by
    rw [← uD_q hs (hp.le hk)]
    have h3 := hp.uD hk
    have h4 := hD k hk
    constructor
    · rw [← Rat.intCast_neg]; exact Rat.intCast_le_intCast.mpr (by omega)
    · exact Rat.intCast_le_intCast.mpr h4
  have w3 := wi_mul w2 w1
  rw [← e, ← Rat.intCast_mul] at w3
  exact wi_int w3
theorem fr_sz (hC : LC G0 n M Dm G) (hB : LB M Dm N) (h12 : n ≤ 12) (hd : ∀ x, x < n → G x x ≤ gB M Dm) : (∀ k, k < n → RZ (4 * N + 8) (frS G k)) ∧ (∀ x k, x < n → k < x → RZ (4 * N + 8) (frM G x k)) ∧ (∀ i k j, i < n → k ≤ i → k ≤ j → j ≤ i → RZ (4 * N + 8) (gsE (qG G) k i j)) := by
  have hD := sz_D hC hB
  have hL := sz_L hC hB hd
  refine ⟨fun k hk => RZ.of (uD_ne hC.p (by omega)) (frS_rmk hC.s hC.p hk) (hD _ (by omega)) (hD _ (by omega)), fun x k hx hk => RZ.of (uD_ne hC.p (by omega)) (frM_rmk hC.s hC.p hk hx) (hL _ _ hx hk) (hD _ (by omega)), fun i k j hi hki hkj hji => ?_⟩
  rw [gsE_frac hC.s (hC.p.le (by omega)) hki hkj]
  have hx0 : 0 ≤ gB M Dm := by have := hB.g0; have := hB.m1; omega
  obtain ⟨b1, b2⟩ := uE_bd hC.s hC.p h12 hd hx0 hC.d hi (show j < n by omega) hki hkj
  have d1 := hB.d1
  have e1 : 16 * gB M Dm ≤ ((2 ^ (4 + N) : Nat) : Int) := by
    have := hB.g
    rw [Nat.pow_add]
    generalize (2 : Nat) ^ N = y at *
    omega
  have e2 := mul_pw hB.d e1 (by omega) (by omega)
  exact RZ.frac (uD_ne hC.p (by omega)) ((Sz_pw (N := N + (4 + N)) (by omega) (by omega)).up (by omega)) (hD k (by omega))
end
def floorQ (p : Rat) : Int := (rq p).1.fdiv (rq p).2
theorem floorQ_spec (p : Rat) : (floorQ p : Rat) ≤ p ∧ p < (floorQ p : Rat) + 1 := by
  have hd := rq_den_pos p
  have hdq : (0 : Rat) < ((rq p).2 : Rat) := by exact_mod_cast hd
  have hne : ((rq p).2 : Rat) ≠ 0 := pos_ne hdq
  have e := rq_val p
  have ea : ((rq p).1 : Rat) = p * ((rq p).2 : Rat) := by rw [← e]; grind
  have hdef := Int.fmod_def (rq p).1 (rq p).2
  have f1 := Int.fmod_nonneg_of_pos (rq p).1 hd
  have f2 := Int.fmod_lt_of_pos (rq p).1 hd
  have hz : (rq p).1.fdiv (rq p).2 = floorQ p := rfl
  rw [hz] at hdef
  generalize floorQ p = z at *
  generalize (rq p).1 = a at *
  generalize (rq p).2 = d at *
  have g1 : d * z ≤ a := by omega
  have g2 : a < d * z + d := by omega
  have q1 : ((d * z : Int) : Rat) ≤ (a : Rat) := by exact_mod_cast g1
  have q2 : (a : Rat) < ((d * z + d : Int) : Rat) := by exact_mod_cast g2
  rw [Rat.intCast_mul, ea] at q1
  rw [Rat.intCast_add, Rat.intCast_mul, ea] at q2
  constructor
  · by_cases h : (z : Rat) ≤ p
    · exact h
    · have h3 : 0 < (z : Rat) - p := by have := Rat.not_le.1 h; grind
      have := Rat.mul_pos hdq h3
      grind
  · by_cases h : p < (z : Rat) + 1
    · exact h
    · replace h := Rat.not_lt.mp h
      have h3 : 0 ≤ p - ((z : Rat) + 1) := by grind
      have := Rat.mul_nonneg (Rat.le_of_lt hdq) h3
      grind
theorem floor_uniq {p : Rat} {x y : Int} (h1 : (x : Rat) ≤ p) (h2 : p < (x : Rat) + 1) (h3 : (y : Rat) ≤ p) (h4 : p < (y : Rat) + 1) : x = y := by
  have a : (x : Rat) < ((y + 1 : Int) : Rat) := by rw [Rat.intCast_add]; have e : ((1 : Int) : Rat) = 1 := rfl; rw [e]; grind
  have b : (y : Rat) < ((x + 1 : Int) : Rat) := by rw [Rat.intCast_add]; have e : ((1 : Int) : Rat) = 1 := rfl; rw [e]; grind
  have a' := Rat.intCast_lt_intCast.mp a
  have b' := Rat.intCast_lt_intCast.mp b
  omega
theorem floor_near (p : Rat) : floorQ (p + 1 / 2) = nearQ p := by
  obtain ⟨h1, h2⟩ := floorQ_spec (p + 1 / 2)
  obtain ⟨h3, h4⟩ := near_spec p
  exact floor_uniq h1 h2 h3 h4
theorem floor_int (z : Int) : floorQ (z : Rat) = z := by
  unfold floorQ; rw [rq_int]; exact Int.fdiv_one z
theorem rq_cmp0 (p q : Rat) : (rq (p - q)).1.sign ≤ 0 ↔ p ≤ q := by
  have h := rq_cmp (p - q) 0
  have e : rq 0 = (0, 1) := rq_int 0
  rw [e] at h
  have e2 : (rq (p - q)).1 * (0, 1).2 - (0, 1).1 * (rq (p - q)).2 = (rq (p - q)).1 := by
    show (rq (p - q)).1 * 1 - 0 * (rq (p - q)).2 = _
    omega
  rw [e2] at h
  rw [h]
  constructor <;> intro h1 <;> grind
section
variable {G : Fi} {n : Nat}
theorem data_L (hs : SymG G) (hp : PosU G n) {i j : Nat} (hj : j < i) (hi : i < n) : floorQ (frM G i j * (uD G (j + 1) : Rat)) = uE G j i j := by
  have := uE_fr hs hp hj hi
  rw [show frM G i j * (uD G (j + 1) : Rat) = ((uE G j i j : Int) : Rat) by rw [this]; grind, floor_int]
theorem data_D (hs : SymG G) (hp : PosU G n) {i : Nat} (hi : i < n) : floorQ (frS G i * (uD G i : Rat)) = uD G (i + 1) := by
  have := uD_succ hs hp hi
  rw [show frS G i * (uD G i : Rat) = ((uD G (i + 1) : Int) : Rat) by rw [this]; grind, floor_int]
end
theorem frV_ok {G : Fi} {n : Nat} (hp : PosU G n) : frV G n = (frMus G n, frSts G n) := (fr_yes hp).1.symm
theorem frR_ok {b : List (List Int)} (h : gsoE b false = 0) (hp : PosU (gram b) b.length) : frR b false = (frMus (gram b) b.length, frSts (gram b) b.length) := by
  unfold frR; rw [if_pos h, frV_ok hp]
theorem grown_row (q : Int) (u v : List Int) : pairV (fun x y => x + q * y) u v = pairV (fun x y => x + y) u (v.map (fun x => q * x)) := by
  unfold pairV
  apply List.map_congr_left
  intro l hl
  rw [getD_timesV]
theorem unit_app {n i k : Nat} {z : Int} (hk : k < n) (hi : i < n) (hz : z = if k = i then 1 else 0) : ((List.replicate n (0 : Int)).set i 1).take k ++ [z] = ((List.replicate n (0 : Int)).set i 1).take (k + 1) := by
  apply take_app2
  rw [List.getElem?_set]
  by_cases e : i = k
  · subst e; simp [hi, hz]
  · rw [if_neg e, hz, if_neg (fun h => e h.symm)]; simp [hk]
theorem RZ_int {n : Nat} {z : Int} (h1 : 1 ≤ n) (h : Sz n z) : RZ n (z : Rat) := by
  obtain ⟨k, rfl⟩ : ∃ k, n = k + 1 := ⟨n - 1, by omega⟩
  exact RZ.int h
theorem wide_sz {n : Nat} {b : List (List Int)} (hb : SzM n b) (hr : RectL b) (hc : (b.getD 0 []).length ≤ 12) (hP : PosU (gram b) b.length) (h12 : b.length ≤ 12) (hn : n ≤ 1048576) : (∀ k, k ≤ b.length → Sz 8590000128 (uD (gram b) k)) ∧ (∀ k, k < b.length → RZ 8590000128 (frS (gram b) k)) ∧ (∀ x k, x < b.length → k < x → RZ 8590000128 (frM (gram b) x k)) := by
  have hs := gram_symG hr
  have hz : ∀ i j, Sz (n + n + 12) (gram b i j) := fun i j => gram_Sz hb hr hc i j
  have hU : ∀ k, k ≤ 12 → szU (n + n + 12) k + 1 ≤ 8590000128 := fun k hk => by
    have := szU_eq (n + n + 12) k
    have h2 : 2 ^ k ≤ 2 ^ 12 := Nat.pow_le_pow_right (by decide) hk
    have h3 := Nat.mul_le_mul_right (n + n + 12 + 1) h2
    omega
  exact ⟨fun k hk => (uD_Sz hs hz hP k hk).up (hU k (by omega)), fun k hk => (frE_RZ hs hz hP (show k ≤ b.length by omega) (Nat.le_refl k) (Nat.le_refl k)).up (hU k (by omega)), fun x k hx hk => (frM_RZ hs hz hP (show k < b.length by omega) (show k ≤ x by omega)).up (hU k (by omega))⟩
end Fw
/- Plain facts for layer 18: fractions in any form, what is wrong with a target, distances, the cover. -/
set_option linter.unusedVariables false
set_option linter.unusedSimpArgs false
set_option exponentiation.threshold 600
namespace Fw
open Go
abbrev Rw := Int × Int
def rv (x : Rw) : Rat := (x.1 : Rat) / (x.2 : Rat)
theorem rv_rq (p : Rat) : rv (rq p) = p := rq_val p
theorem rw_pos {y : Int} (h : 0 < y) : (0 : Rat) < (y : Rat) := Rat.intCast_lt_intCast.mpr h
theorem rw_ne {y : Int} (h : 0 < y) : (y : Rat) ≠ 0 := pos_ne (rw_pos h)
theorem c2_z2 {x : Rw} (h1 : Sm x.1) (h2 : Sm x.2) : VP.le (kRC.is x) ((kPair kZ kZ).is x) :=
  is_kd rfl fun m cs ⟨a, b, e, ha, hb⟩ => ⟨a, b, e, kC_Zat h1 ha, kC_Zat h2 hb⟩
section
variable {x y u v : Int}
theorem raw_sub (hy : 0 < y) (hv : 0 < v) : rmk (x * v - u * y) (y * v) = rq (rv (x, y) - rv (u, v)) := by
  rw [rmk_rq (Int.mul_ne_zero (by omega) (by omega))]
  congr 1
  have h1 := rw_ne hy
  have h2 := rw_ne hv
  unfold rv
  rw [Rat.intCast_sub, Rat.intCast_mul, Rat.intCast_mul, Rat.intCast_mul]
  grind
theorem raw_add (hy : 0 < y) (hv : 0 < v) : rmk (x * v + u * y) (y * v) = rq (rv (x, y) + rv (u, v)) := by
  rw [rmk_rq (Int.mul_ne_zero (by omega) (by omega))]
  congr 1
  have h1 := rw_ne hy
  have h2 := rw_ne hv
  unfold rv
  rw [Rat.intCast_add, Rat.intCast_mul, Rat.intCast_mul, Rat.intCast_mul]
  grind
theorem raw_neg (hy : 0 < y) : rmk (-x) y = rq (-rv (x, y)) := by
  rw [rmk_rq (by omega)]
  congr 1
  have h1 := rw_ne hy
  unfold rv
  rw [Rat.intCast_neg]
  grind
theorem raw_cmp (hy : 0 < y) (hv : 0 < v) : (x * v - u * y).sign = 0 ↔ rv (x, y) = rv (u, v) := by
  have h1 := rw_ne hy
  have h2 := rw_ne hv
  rw [sgn0]
  constructor
  · intro h
    have : (x : Rat) * (v : Rat) = (u : Rat) * (y : Rat) := by exact_mod_cast h
    unfold rv; dsimp only; grind
  · intro h
    unfold rv at h; dsimp only at h
    have : (x : Rat) * (v : Rat) = (u : Rat) * (y : Rat) := by grind
    exact_mod_cast this
end
theorem rv_RZ {n : Nat} {x : Rw} (h : 0 < x.2) (h1 : Sz n x.1) (h2 : Sz n x.2) : RZ n (rv x) := RZ.frac (by omega) h1 h2
theorem RZ.add2 {n m p q} (h : RZ n p) (k : RZ m q) : RZ (n + m + 1) (p + q) := by
  have := h.sub2 k.neg
  rwa [Rat.sub_eq_add_neg, Rat.neg_neg] at this
theorem RZ0 : RZ 1 (0 : Rat) := ⟨show ((rq 0).1).natAbs < 2 ^ 1 by decide, show ((rq 0).2).natAbs < 2 ^ 1 by decide⟩
def sqQ (d : Nat → Rat) : Nat → Rat
  | 0 => 0
  | i + 1 => sqQ d i + d i * d i
def szQ (n i : Nat) : Nat := 1 + i * (n + n + 1)
theorem szQ_succ (n i : Nat) : szQ n (i + 1) = szQ n i + (n + n) + 1 := by unfold szQ; rw [Nat.succ_mul]; omega
theorem sqQ_RZ {d : Nat → Rat} {n N : Nat} (h : ∀ i, i < N → RZ n (d i)) : ∀ i, i ≤ N → RZ (szQ n i) (sqQ d i)
  | 0, _ => RZ0.up (by unfold szQ; omega)
  | i + 1, hi => by
    rw [szQ_succ]
    exact (sqQ_RZ h i (by omega)).add2 ((h i (by omega)).mul (h i (by omega)))
theorem szQ_le {n i : Nat} (hi : i ≤ 12) : szQ n i ≤ 1 + 12 * (n + n + 1) := by
  unfold szQ
  have := Nat.mul_le_mul_right (n + n + 1) hi
  omega
def dfQ (w : List Int) (t : List Rw) (i : Nat) : Rat := (w.getD i 0 : Rat) - rv (t.getD i (0, 1))
def dstQ (w : List Int) (t : List Rw) : Rat := sqQ (dfQ w t) w.length
def dfL (w : List Int) (t : List Rw) (i : Nat) : List (Int × Int) := (List.range i).map (fun k => rq (dfQ w t k))
theorem dfL_len (w t i) : (dfL w t i).length = i := by simp [dfL]
theorem dfL_app (w t i) : dfL w t i ++ [rq (dfQ w t i)] = dfL w t (i + 1) := by simp [dfL, List.range_succ]
def denB (t : List Rw) (i : Nat) : Bool := (t.take i).all (fun x => decide (0 < x.2))
def bitB (t : List Rw) (i : Nat) : Bool := (t.take i).all (fun x => decide ((bitlen x.1.natAbs : Int) ≤ 256) && decide ((bitlen x.2.natAbs : Int) ≤ 256))
def askE (b : List (List Int)) (t : List Rw) : Int :=
  if gsoE b true ≠ 0 then gsoE b true else if t.length ≠ (b.getD 0 []).length then 8 else if denB t t.length = true then (if bitB t t.length = true then 0 else 40) else 30
theorem all_take {α : Type} {l : List α} {f : α → Bool} {i : Nat} {d : α} (h : i < l.length) : (l.take (i + 1)).all f = ((l.take i).all f && f (l.getD i d)) := by
  rw [List.take_add_one, List.getElem?_eq_getElem h, List.all_append]
  simp [List.getD_eq_getElem?_getD, List.getElem?_eq_getElem h]
theorem all_no {α : Type} {l : List α} {f : α → Bool} {i : Nat} {d : α} (h : i < l.length) (hf : f (l.getD i d) = false) : ¬ (l.take l.length).all f = true := by
  rw [List.take_length, List.all_eq_true]
  intro e
  have := e (l.getD i d) (by rw [gde l d h]; exact List.getElem_mem h)
  rw [hf] at this; cases this
theorem denB_0 (t) : denB t 0 = true := rfl
theorem bitB_0 (t) : bitB t 0 = true := rfl
theorem denB_s {t : List Rw} {i : Nat} (h : i < t.length) (hd : denB t i = true) (hp : 0 < (t.getD i (0, 0)).2) : denB t (i + 1) = true := by
  unfold denB at *
  rw [all_take (d := (0, 0)) h, hd]; simpa using hp
theorem bitB_s {t : List Rw} {i : Nat} (h : i < t.length) (hd : bitB t i = true) (h1 : ¬ (256 : Int) < (bitlen (t.getD i (0, 0)).1.natAbs : Int)) (h2 : ¬ (256 : Int) < (bitlen (t.getD i (0, 0)).2.natAbs : Int)) : bitB t (i + 1) = true := by
  unfold bitB at *
  rw [all_take (d := (0, 0)) h, hd]
  simp only [Bool.true_and, Bool.and_eq_true, decide_eq_true_eq]
  omega
theorem denB_n {t : List Rw} {i : Nat} (h : i < t.length) (hp : ¬ 0 < (t.getD i (0, 0)).2) : ¬ denB t t.length = true := all_no (d := (0, 0)) h (by simpa using hp)
theorem bitB_n {t : List Rw} {i : Nat} (h : i < t.length) (hp : (256 : Int) < (bitlen (t.getD i (0, 0)).1.natAbs : Int) ∨ (256 : Int) < (bitlen (t.getD i (0, 0)).2.natAbs : Int)) : ¬ bitB t t.length = true := all_no (d := (0, 0)) h (by
  rw [Bool.and_eq_false_iff, decide_eq_false_iff_not, decide_eq_false_iff_not]; omega)
section
variable {b : List (List Int)} {t : List Rw}
theorem askE_1 (h : gsoE b true ≠ 0) : askE b t = gsoE b true := if_pos h
theorem askE_2 (h : ¬ gsoE b true ≠ 0) (h2 : t.length ≠ (b.getD 0 []).length) : askE b t = 8 := by unfold askE; rw [if_neg h, if_pos h2]
theorem askE_3 (h : ¬ gsoE b true ≠ 0) (h2 : ¬ t.length ≠ (b.getD 0 []).length) (h3 : ¬ denB t t.length = true) : askE b t = 30 := by unfold askE; rw [if_neg h, if_neg h2, if_neg h3]
theorem askE_4 (h : ¬ gsoE b true ≠ 0) (h2 : ¬ t.length ≠ (b.getD 0 []).length) (h3 : denB t t.length = true) (h4 : ¬ bitB t t.length = true) : askE b t = 40 := by unfold askE; rw [if_neg h, if_neg h2, if_pos h3, if_neg h4]
theorem askE_5 (h : ¬ gsoE b true ≠ 0) (h2 : ¬ t.length ≠ (b.getD 0 []).length) (h3 : denB t t.length = true) (h4 : bitB t t.length = true) : askE b t = 0 := by unfold askE; rw [if_neg h, if_neg h2, if_pos h3, if_pos h4]
structure Tgt (b : List (List Int)) (t : List Rw) : Prop where
  e : gsoE b true = 0
  l : t.length = (b.getD 0 []).length
  d : ∀ i, i < t.length → 0 < (t.getD i (0, 0)).2
  z : ∀ i, i < t.length → Sz 256 (t.getD i (0, 0)).1 ∧ Sz 256 (t.getD i (0, 0)).2
theorem tgt_of (h : askE b t = 0) : Tgt b t := by
  unfold askE at h
  split at h
  · rename_i h1; exact absurd h h1
  · rename_i h1
    split at h
    · cases h
    · rename_i h2
      split at h
      · rename_i h3
        split at h
        · rename_i h4
          refine ⟨by omega, by omega, fun i hi => ?_, fun i hi => ?_⟩
          · by_cases e : 0 < (t.getD i (0, 0)).2
            · exact e
            · exact absurd h3 (denB_n hi e)
          · have key : ∀ x : Int, ¬ (256 : Int) < (bitlen x.natAbs : Int) → Sz 256 x := fun x hx => by
              unfold Sz
              exact Nat.lt_of_lt_of_le (lt_bitlen _) (Nat.pow_le_pow_right (by decide) (by omega))
            constructor
            · refine key _ fun e => ?_
              exact absurd h4 (bitB_n hi (.inl e))
            · refine key _ fun e => ?_
              exact absurd h4 (bitB_n hi (.inr e))
        · cases h
      · cases h
end
theorem rq_num0 {q : Rat} : (rq q).1.sign = 0 ↔ q = 0 := rq_zero
noncomputable def covS (b : List (List Int)) : Nat → Rat
  | 0 => 0
  | i + 1 => covS b i + frS (gram (llB b)) i
theorem dfQ_eq (w : List Int) (t : List Rw) (i : Nat) (h : i < t.length) : ((w.getD i 0 : Int) : Rat) - rv ((t.getD i (0, 0)).1, (t.getD i (0, 0)).2) = dfQ w t i := by
  unfold dfQ
  rw [gde t (0, 0) h, gde t (0, 1) h]
theorem dfQ_RZ {n : Nat} {w : List Int} {t : List Rw} (h1 : 1 ≤ n) (hl : t.length = w.length) (hw : SzL n w) (hd : ∀ i, i < t.length → 0 < (t.getD i (0, 0)).2) (hz : ∀ i, i < t.length → Sz n (t.getD i (0, 0)).1 ∧ Sz n (t.getD i (0, 0)).2) {i : Nat} (hi : i < w.length) : RZ (n + n + 1) (dfQ w t i) := by
  rw [← dfQ_eq w t i (by omega)]
  exact (RZ_int h1 (hw i)).sub2 (rv_RZ (hd i (by omega)) (hz i (by omega)).1 (hz i (by omega)).2)
theorem sgn_pos0 {a : Int} (h : ¬ a.sign ≤ 0) : 0 < a := by
  rcases Int.lt_or_le 0 a with e | e
  · exact e
  · exfalso; apply h
    rcases Int.lt_or_eq_of_le e with e2 | e2
    · rw [Int.sign_eq_neg_one_of_neg e2]; decide
    · rw [e2]; decide
theorem sgn_npos {a : Int} (h : a.sign ≤ 0) : ¬ 0 < a := fun e => by
  rw [Int.sign_eq_one_of_pos e] at h; exact absurd h (by decide)
theorem comb_len {X : List Int} {b : List (List Int)} (h : combE X b = 0) : (combA X b).length = (b.getD 0 []).length := by
  unfold combE at h
  split at h
  · rename_i h1; unfold combA; rw [if_pos h1, combV_len]
  · cases h
theorem dstQ_RZ {b : List (List Int)} {t : List Rw} {w : List Int} (hl : t.length = w.length) (h12 : w.length ≤ 12) (hw : SzL 67108876 w) (hT : Tgt b t) : RZ 4000000000 (dstQ w t) := by
  have h := sqQ_RZ (N := w.length) (fun i hi => dfQ_RZ (n := 67108876) (by decide) hl hw hT.d (fun k hk => ⟨(hT.z k hk).1.up (by decide), (hT.z k hk).2.up (by decide)⟩) hi) w.length (Nat.le_refl _)
  exact h.up (Nat.le_trans (szQ_le h12) (by decide))
def closeP (b : List (List Int)) (t : List Rw) (W X : List Int) (x y : Int) : Prop := combE X b = 0 ∧ ordV (combA X b) W = 0 ∧ 0 < y ∧ dstQ (combA X b) t = rv (x, y)
instance (b t W X x y) : Decidable (closeP b t W X x y) := by unfold closeP; infer_instance
def closeV (b : List (List Int)) (t : List Rw) (W X : List Int) (x y : Int) : Bool := decide (askE b t = 0 ∧ closeP b t W X x y)
section
variable {b : List (List Int)} {t : List Rw} {W X : List Int} {x y : Int}
theorem closeV_0 (h : askE b t ≠ 0) : false = closeV b t W X x y := by unfold closeV; rw [decide_eq_false (fun e => h e.1)]
theorem closeP_1 (h : combE X b ≠ 0) : ¬ closeP b t W X x y := fun e => h e.1
theorem closeP_2 (h : ordV (combA X b) W ≠ 0) : ¬ closeP b t W X x y := fun e => h e.2.1
theorem closeP_3 (h : ¬ 0 < y) : ¬ closeP b t W X x y := fun e => h e.2.2.1
theorem closeV_n (h : ¬ closeP b t W X x y) : false = closeV b t W X x y := by unfold closeV; rw [decide_eq_false (fun e => h e.2)]
theorem closeV_ok (h : askE b t = 0) : closeV b t W X x y = decide (closeP b t W X x y) := by unfold closeV; simp [h]
theorem closeP_4 (h1 : combE X b = 0) (h2 : ordV (combA X b) W = 0) (h3 : 0 < y) : ((rq (dstQ (combA X b) t)).1 * y - x * (rq (dstQ (combA X b) t)).2).sign = 0 ↔ closeP b t W X x y := by
  rw [raw_cmp (x := (rq (dstQ (combA X b) t)).1) (u := x) (rq_den_pos _) h3]
  rw [show ((rq (dstQ (combA X b) t)).1, (rq (dstQ (combA X b) t)).2) = rq (dstQ (combA X b) t) from rfl, rv_rq]
  exact ⟨fun h => ⟨h1, h2, h3, h⟩, fun h => h.2.2.2⟩
theorem closeP_5 (h1 : combE X b = 0) (h2 : ordV (combA X b) W = 0) (h3 : 0 < y) : (rq (rv (x, y) - dstQ (combA X b) t)).1.sign = 0 ↔ closeP b t W X x y := by
  rw [rq_num0]
  constructor
  · intro h; exact ⟨h1, h2, h3, by grind⟩
  · intro h; have := h.2.2.2; grind
end
theorem redB_dz {b : List (List Int)} (hZ : Basis b) : ∀ l, l ≤ b.length → Sz 2147483656 (uD (gram (llB b)) l) := fun l hl => by
  obtain ⟨M, Dm, P, N, K, hL⟩ := basis_LS hZ
  have hI := ll_WI hZ hL
  have hN := hL.lb.n
  exact (sz_D hI.l.c hL.lb l hl).up (by omega)
theorem star_RZ {b : List (List Int)} (hZ : Basis b) {i : Nat} (hi : i < b.length) : RZ 2147483656 (frS (gram (llB b)) i) := by
  have hR := redB_of hZ
  exact RZ.of (uD_ne hR.p (by omega)) (frS_rmk hR.s hR.p hi) (redB_dz hZ _ (by omega)) (redB_dz hZ _ (by omega))
theorem covS_RZ {b : List (List Int)} (hZ : Basis b) : ∀ i, i ≤ b.length → RZ (1 + i * 2147483657) (covS b i)
  | 0, _ => RZ0
  | i + 1, h => by
    have := (covS_RZ hZ i (by omega)).add2 (star_RZ hZ (show i < b.length by omega))
    exact this.up (by rw [Nat.succ_mul]; omega)
theorem covS_le {b : List (List Int)} (hZ : Basis b) {i : Nat} (hi : i ≤ b.length) : RZ 30000000000 (covS b i) := (covS_RZ hZ i hi).up (by have := hZ.n; omega)
theorem RZ4 : RZ 4 ((4 : Int) : Rat) := ⟨show ((rq ((4 : Int) : Rat)).1).natAbs < 2 ^ 4 by decide, show ((rq ((4 : Int) : Rat)).2).natAbs < 2 ^ 4 by decide⟩
theorem sgn_pos_iff {a : Int} : 0 < a.sign ↔ 0 < a := ⟨fun h => sgn_pos0 (by omega), fun h => by rw [Int.sign_eq_one_of_pos h]; decide⟩
theorem rng_at {α : Type} {f : Nat → α} {n i : Nat} (h : i < n) : ((List.range n).map f)[i]? = some (f i) := by simp [h]
end Fw
/- Fractions in any form; distances; the cover: the program. -/
set_option linter.unusedVariables false
set_option linter.unusedSimpArgs false
set_option exponentiation.threshold 600
set_option maxRecDepth 20000
set_option maxHeartbeats 1000000
namespace Fw
open Go Go.Proofs
theorem c_rat_validr (l : List (Int × Int)) (hv : ∀ x, x ∈ l → 0 < x.2) : Fn Tryz.prog 121 [(kSl (kPair kZ kZ)).is l] (kN6.is 0) := by
 refine Con.enter Tryz.func121 rfl rfl fun m w => ST.fact (i := 0) rfl sl_len fun hB => Cr (Wa rfl (Wn (CW.seq (Cr (Wm rfl (Ws (O.lenS rfl U26) (Wm rfl (Wn (CW.block (CW.loop (fun (i : Nat) => i ≤ l.length) (fun (i : Nat) => [(0, (kSl (kPair kZ kZ)).is l), (5, (kSl (kPair kZ kZ)).is l), (6, kN6.is (l.length : Int)), (7, kN6.is (i : Int))]) (fun (i : Nat) => []) (fun (i : Nat) => l.length - i) 0 (by omega) (Imp.cons rfl (Imp.cons rfl (Imp.cons rfl (Imp.consLe rfl (is_eq (y := (0 : Int)) (by rfl)) Imp.nil)))) (OImp.refl _) ?_))))))))))
 intro i hi
 refine Cr (Ws (O.lt rfl rfl) (Wn (CW.seq ?_)))
 refine CW.condD rfl (fun h_t8 => ?_) (fun h_t8 => ?_)
 ·
  refine CW.skip (QE.next (CW.seq (CW.block (Cr (Ws (O.ix i rfl rfl U26 ty31 rfl (v := (l.getD i (0, 0))) (gd (0, 0) (by omega))) (Ws (O.ldP rfl ty31) (WP.al .n z31_pr_C_C_ fun b1 => WP.t .n (O.stW (l := (kPair kZ kZ)) (u := (l.getD i (0, 0))) 0 rfl rfl rfl ty31 rfl Lr) (Wr (Ws (O.fa rfl fld31_1 rfl) (Ws (O.ld rfl (mem_at 0 rfl) (Lens.snd Li) ty29 rfl) (Ws (O.fn fn57 (evs.c rfl evs.nil) (c_zint_Sign ((l.getD i (0, 0)).2))) (Ws (O.le rfl rfl) (Wn ?_)))))))))))))
  refine CW.condD rfl (fun h => absurd h (by have h1 := hv _ (getD_mem (0, 0) (show i < l.length by omega)); have := Int.sign_eq_one_of_pos h1; omega)) (fun h_t14 => ?_)
  refine CW.skip (QE.blkN (QE.next (CW.region (Ws (O.add rfl rfl (c := ((i : Int) + 1)) (w64 (by omega))) (Wm rfl (WP.nil ?_))))))
  exact QE.round (i + 1) (by omega) (by omega) (Imp.cons rfl (Imp.cons rfl (Imp.cons rfl (Imp.consLe rfl (is_eq (y := (((i + 1) : Nat) : Int)) (by rfl)) Imp.nil)))) (OImp.sub (List.nil_sublist _))
 ·
  refine CW.exit (QE.thenE (QE.thenE (QE.blkH (QE.next (Cr (Wa rfl (Wn (CW.ret ?_))))))))
  exact QE.done (.inl rfl) rfl (ResOk.t rfl ResOk.nil) (OImp.sub (List.nil_sublist _)) ⟨rfl, rfl⟩
theorem c_rat_twor (n : Nat) (p r : Rat) (x y : Int) (fid : FuncId) (caps : List VP) (hok : FnOk Tryz.prog fid) (hF : Fn Tryz.prog fid caps (kRC.is (rq r))) (hp : RZ n p) (h0 : 0 < y) (hn : n ≤ 68719476736) : Fn Tryz.prog 205 [kRC.is (rq p), (kPair kZ kZ).is (x, y), VP.clo fid caps] (VP.tup [kRC.is (rq r), kN6.is 0]) := by
 refine Con.enter Tryz.func205 rfl rfl fun m w => Cr (WP.bx .n rfl fun b1 => WP.bx .n rfl fun b2 => WP.al .n z31_pr_C_C_ fun b3 => Wa rfl (Wn (CW.seq (Cr (Ws (O.ld rfl (mem_at 2 rfl) Li ty31 rfl) (Ws (O.ld (p := (kPair kZ kZ).is (x, y)) rfl (mem_at 1 rfl) Li ty31 rfl) (Ws (O.bs U26 el31_pr_Z_Z_ (evl.l rfl (c2_z2 (hp.a.sm (by omega)) (hp.b.sm (by omega))) (evl.c rfl evl.n)) rfl (by decide)) (Ws (O.fn fn121 (evs.c rfl evs.nil) (c_rat_validr [rq p, (x, y)] (by intro z hz; rcases List.mem_cons.1 hz with rfl | hz; exact rq_den_pos p; rcases List.mem_cons.1 hz with rfl | hz; exact h0; cases hz))) (Wa rfl (Wr (Wm rfl (Ws (O.ne rfl rfl) (WP.nil ?_)))))))))))))
 refine QE.next ?_
 refine CW.condD rfl (fun h => absurd h (fun h => h rfl)) (fun h_t14 => ?_)
 refine CW.skip (QE.next (Cr (Wm rfl (Ws (O.clo rfl hok evs.nil hF) (WP.t .n (O.stW (l := kRC) (u := rq r) 0 rfl rfl rfl ty31 rfl Lr) (Wa rfl (Wn (CW.ret ?_))))))))
 exact QE.done (.inl rfl) rfl (ResOk.c rfl (mem_at 0 rfl) ty31 (ResOk.t rfl ResOk.nil)) (OImp.sub (List.nil_sublist _)) ⟨rfl, rfl⟩
theorem c_rat_Sub1r (n : Nat) (p : Rat) (x y : Int) (hp : RZ n p) (hx : Sz n x) (hy : Sz n y) (h0 : 0 < y) (hn : n ≤ 68719476736) : Fn Tryz.prog 244 [VP.pim kRC (rq p), VP.pim (kPair kZ kZ) (x, y)] (kRC.is (rq (p - rv (x, y)))) := by
 refine Con.enter Tryz.func244 rfl rfl fun m w => Cr (WP.al .n z31_pr_C_C_ fun b1 => Wn (CW.seq ?_))
 refine CW.drawM (Γ := [.fr (VP.pim kC ((rq p).1)), .fr (kC.is ((rq p).1)), .fr (VP.pim kZ y), .fr (kZ.is y), .fr (kC.is (((rq p).1) * y)), .fr (VP.pim kZ x), .fr (kZ.is x), .fr (VP.pim kC ((rq p).2)), .fr (kC.is ((rq p).2)), .fr (kC.is (x * ((rq p).2))), .fr (kC.is ((((rq p).1) * y) - (x * ((rq p).2)))), .fr (VP.pim kC ((rq p).2)), .fr (kC.is ((rq p).2)), .fr (VP.pim kZ y), .fr (kZ.is y), .fr (kC.is (((rq p).2) * y)), .fr (kRC.is (rmk ((((rq p).1) * y) - (x * ((rq p).2))) (((rq p).2) * y)))]) (of_ rfl (fun N => O.faP rfl fld31_0 (Lens.fst Li) rfl) (of_ rfl (fun N => O.ldP rfl ty29) (of_ rfl (fun N => O.faP rfl fld31_1 (Lens.snd Li) rfl) (of_ rfl (fun N => O.ldP rfl ty29) (of_ rfl (fun N => O.fn fn122 (evs.l rfl (kC_Z (hp.a.sm (by omega))) (evs.c rfl evs.nil)) (c_zint_Mul ((rq p).1) y)) (of_ rfl (fun N => O.faP rfl fld31_0 (Lens.fst Li) rfl) (of_ rfl (fun N => O.ldP rfl ty29) (of_ rfl (fun N => O.faP rfl fld31_1 (Lens.snd Li) rfl) (of_ rfl (fun N => O.ldP rfl ty29) (of_ rfl (fun N => O.fn fn122 (evs.c rfl (evs.l rfl (kC_Z (hp.b.sm (by omega))) evs.nil)) (c_zint_Mul x ((rq p).2))) (of_ rfl (fun N => O.fn fn213 (evs.l rfl (kC_Z ((hp.a.mul hy).sm (by omega))) (evs.l rfl (kC_Z ((hx.mul hp.b).sm (by omega))) evs.nil)) (c_zint_Sub (((rq p).1) * y) (x * ((rq p).2)))) (of_ rfl (fun N => O.faP rfl fld31_1 (Lens.snd Li) rfl) (of_ rfl (fun N => O.ldP rfl ty29) (of_ rfl (fun N => O.faP rfl fld31_1 (Lens.snd Li) rfl) (of_ rfl (fun N => O.ldP rfl ty29) (of_ rfl (fun N => O.fn fn122 (evs.l rfl (kC_Z (hp.b.sm (by omega))) (evs.c rfl evs.nil)) (c_zint_Mul ((rq p).2) y)) (of_ rfl (fun N => O.fn fn136 (evs.l rfl (kC_Z (((hp.a.mul hy).sub (hx.mul hp.b)).sm (by omega))) (evs.l rfl (kC_Z ((hp.b.mul hy).sm (by omega))) evs.nil)) (c_rat_made ((((rq p).1) * y) - (x * ((rq p).2))) (((rq p).2) * y) (by exact Int.mul_ne_zero (rq_den_ne p) (by omega)))) oz))))))))))))))))) (fun σ1 => ?_)
 refine WP.t .n (O.stW (l := kRC) (u := rmk ((((rq p).1) * y) - (x * ((rq p).2))) (((rq p).2) * y)) 0 rfl rfl rfl ty31 rfl Lr) (Wn (CW.ret (ST.obtold 0 rfl (OB.box_eq (y := (rq (p - rv (x, y)))) (by have e := raw_sub (x := (rq p).1) (u := x) (rq_den_pos p) h0; rw [show ((rq p).1, (rq p).2) = rq p from rfl, rv_rq] at e; exact e)) ?_)))
 exact QE.done (.inl rfl) rfl (ResOk.c rfl (mem_at 0 rfl) ty31 ResOk.nil) (OImp.sub (List.nil_sublist _)) ⟨rfl, rfl⟩
theorem c_rat_Subr (n : Nat) (p : Rat) (x y : Int) (hp : RZ n p) (hx : Sz n x) (hy : Sz n y) (h0 : 0 < y) (hn : n ≤ 68719476736) : Fn Tryz.prog 194 [kRC.is (rq p), (kPair kZ kZ).is (x, y)] (VP.tup [kRC.is (rq (p - rv (x, y))), kN6.is 0]) := by
 refine Con.enter Tryz.func194 rfl rfl fun m w => Cr (WP.bx .n rfl fun b1 => WP.bx .n rfl fun b2 => WP.al .n z31_pr_C_C_ fun b3 => Wa rfl (Wr (Ws (O.ld rfl (mem_at 2 rfl) Li ty31 rfl) (Ws (O.ld (p := (kPair kZ kZ).is (x, y)) rfl (mem_at 1 rfl) Li ty31 rfl) (ST.freezeb 2 rfl (kp 0 rfl (kp 1 rfl (.hit (i := 2) rfl (kp 3 rfl (kp 4 rfl (kp 5 rfl (kp 6 rfl (kp 7 rfl .nil)))))))) (ST.freezeb 1 rfl (kp 0 rfl (kp 1 rfl (kp 2 rfl (.hit (i := 3) rfl (kp 4 rfl (kp 5 rfl (kp 6 rfl (kp 7 rfl .nil)))))))) (Ws (O.mkf (evs.c rfl (evs.c rfl evs.nil))) (Ws (O.fn fn205 (evs.c rfl (evs.c rfl (evs.c rfl evs.nil))) (c_rat_twor n p (p - rv (x, y)) x y 244 [VP.pim kRC (rq p), VP.pim (kPair kZ kZ) (x, y)] fn244 (c_rat_Sub1r n p x y hp hx hy h0 hn) hp h0 hn)) (Ws (O.ext rfl rfl) (Ws (O.ext rfl rfl) (WP.t .n (O.stW (l := kRC) (u := rq (p - rv (x, y))) 0 rfl rfl rfl ty31 rfl Lr) (Wa rfl (Wn (CW.ret ?_))))))))))))))
 exact QE.done (.inl rfl) rfl (ResOk.c rfl (mem_at 0 rfl) ty31 (ResOk.t rfl ResOk.nil)) (OImp.sub (List.nil_sublist _)) ⟨rfl, rfl⟩
theorem c_close_subr (n : Nat) (p : Rat) (x y : Int) (hp : RZ n p) (hx : Sz n x) (hy : Sz n y) (h0 : 0 < y) (hn : n ≤ 68719476736) : Fn Tryz.prog 123 [kRC.is (rq p), (kPair kZ kZ).is (x, y)] (kRC.is (rq (p - rv (x, y)))) := by
 refine Con.enter Tryz.func123 rfl rfl fun m w => Cr (WP.bx .n rfl fun b1 => WP.bx .n rfl fun b2 => WP.al .n z31_pr_C_C_ fun b3 => Wr (Ws (O.ld rfl (mem_at 2 rfl) Li ty31 rfl) (Ws (O.ld (p := (kPair kZ kZ).is (x, y)) rfl (mem_at 1 rfl) Li ty31 rfl) (Ws (O.fn fn194 (evs.c rfl (evs.c rfl evs.nil)) (c_rat_Subr n p x y (by assumption) (by assumption) (by assumption) (by assumption) (by assumption))) (Wm rfl (Ws (O.ext rfl rfl) (Ws (O.ext rfl rfl) (WP.al .n z31_pr_C_C_ fun b4 => WP.t .n (O.stW (l := kRC) (u := rq (p - rv (x, y))) 0 rfl rfl rfl ty31 rfl Lr) (Wa rfl (Wr (Ws (O.ld rfl (mem_at 0 rfl) Li ty31 rfl) ?_)))))))))))
 refine WP.t .n (O.stW (l := kRC) (u := rq (p - rv (x, y))) 1 rfl rfl rfl ty31 rfl Lr) (Wn (CW.ret ?_))
 exact QE.done (.inl rfl) rfl (ResOk.c rfl (mem_at 1 rfl) ty31 ResOk.nil) (OImp.sub (List.nil_sublist _)) ⟨rfl, rfl⟩
theorem c_rat_Cmpr (n : Nat) (p : Rat) (x y : Int) (hp : RZ n p) (hx : Sz n x) (hy : Sz n y) (h0 : 0 < y) (hn : n ≤ 68719476736) : Fn Tryz.prog 58 [kRC.is (rq p), (kPair kZ kZ).is (x, y)] (VP.tup [kN6.is (((rq p).1 * y - x * (rq p).2).sign), kN6.is 0]) := by
 refine Con.enter Tryz.func58 rfl rfl fun m w => Cr (WP.bx .n rfl fun b1 => WP.bx .n rfl fun b2 => Wa rfl (Wa rfl (Wn (CW.seq (Cr (Ws (O.ld rfl (mem_at 1 rfl) Li ty31 rfl) (Ws (O.ld (p := (kPair kZ kZ).is (x, y)) rfl (mem_at 0 rfl) Li ty31 rfl) (Ws (O.bs U26 el31_pr_Z_Z_ (evl.l rfl (c2_z2 (hp.a.sm (by omega)) (hp.b.sm (by omega))) (evl.c rfl evl.n)) rfl (by decide)) (Ws (O.fn fn121 (evs.c rfl evs.nil) (c_rat_validr [rq p, (x, y)] (by intro z hz; rcases List.mem_cons.1 hz with rfl | hz; exact rq_den_pos p; rcases List.mem_cons.1 hz with rfl | hz; exact h0; cases hz))) (Wa rfl (Wr (Wm rfl (Ws (O.ne rfl rfl) (WP.nil ?_))))))))))))))
 refine QE.next ?_
 refine CW.condD rfl (fun h => absurd h (fun h => h rfl)) (fun h_t12 => ?_)
 refine CW.skip (QE.next (CW.seq ?_))
 refine CW.drawM (Γ := [.fr (VP.pt b1 0), .fr (kC.is ((rq p).1)), .fr (VP.pt b2 2), .fr (kZ.is y), .fr (kC.is (((rq p).1) * y)), .fr (VP.pt b2 0), .fr (kZ.is x), .fr (VP.pt b1 2), .fr (kC.is ((rq p).2)), .fr (kC.is (x * ((rq p).2))), .fr (kN6.is (((((rq p).1) * y) - (x * ((rq p).2))).sign))]) (of_ rfl (fun N => O.fa rfl fld31_0 rfl) (of_ rfl (fun N => O.ld rfl (mem_app N (mem_at 1 rfl)) (Lens.fst Li) ty29 rfl) (of_ rfl (fun N => O.fa rfl fld31_1 rfl) (of_ rfl (fun N => O.ld (p := kZ.is y) rfl (mem_app N (mem_at 0 rfl)) (Lens.snd Li) ty29 rfl) (of_ rfl (fun N => O.fn fn122 (evs.l rfl (kC_Z (hp.a.sm (by omega))) (evs.c rfl evs.nil)) (c_zint_Mul ((rq p).1) y)) (of_ rfl (fun N => O.fa rfl fld31_0 rfl) (of_ rfl (fun N => O.ld (p := kZ.is x) rfl (mem_app N (mem_at 0 rfl)) (Lens.fst Li) ty29 rfl) (of_ rfl (fun N => O.fa rfl fld31_1 rfl) (of_ rfl (fun N => O.ld rfl (mem_app N (mem_at 1 rfl)) (Lens.snd Li) ty29 rfl) (of_ rfl (fun N => O.fn fn122 (evs.c rfl (evs.l rfl (kC_Z (hp.b.sm (by omega))) evs.nil)) (c_zint_Mul x ((rq p).2))) (of_ rfl (fun N => O.fn fn119 (evs.l rfl (kC_Z ((hp.a.mul hy).sm (by omega))) (evs.l rfl (kC_Z ((hx.mul hp.b).sm (by omega))) evs.nil)) (c_zint_Compare (((rq p).1) * y) (x * ((rq p).2)))) oz))))))))))) (fun σ1 => ?_)
 refine Wa rfl (Wa rfl (Wn (CW.ret ?_)))
 exact QE.done (.inl rfl) rfl (ResOk.tl rfl (is_eq (y := ((rq p).1 * y - x * (rq p).2).sign) (by rfl)) (ResOk.t rfl ResOk.nil)) (OImp.sub (List.nil_sublist _)) ⟨rfl, rfl⟩
theorem c_rat_Div (n : Nat) (p q : Rat) (hp : RZ n p) (hq : RZ n q) (h0 : q ≠ 0) (hn : n ≤ 68719476736) : Fn Tryz.prog 70 [kRC.is (rq p), kRC.is (rq q)] (VP.tup [kRC.is (rq (p / q)), kN6.is 0]) := by
 refine Con.enter Tryz.func70 rfl rfl fun m w => ?_
 have hv2 : ∀ x, x ∈ [rq p, rq q] → 0 < x.2 ∧ Sm x.2 := by intro x hx; rcases List.mem_cons.1 hx with rfl | hx; exact ⟨rq_den_pos p, hp.b.sm (by omega)⟩; rcases List.mem_cons.1 hx with rfl | hx; exact ⟨rq_den_pos q, hq.b.sm (by omega)⟩; cases hx
 refine Cr (WP.bx .n rfl fun b1 => WP.bx .n rfl fun b2 => WP.al .n z31_pr_C_C_ fun b3 => Wa rfl (Wn (CW.seq (Cr (Ws (O.ld rfl (mem_at 2 rfl) Li ty31 rfl) (Ws (O.ld rfl (mem_at 1 rfl) Li ty31 rfl) (Ws (O.bs U26 el31_pr_C_C_ (evl.c rfl (evl.c rfl evl.n)) rfl (by decide)) (Ws (O.fn fn121 (evs.c rfl evs.nil) (c_rat_valid [rq p, rq q] hv2)) (Wa rfl (Wr (Wm rfl (Ws (O.ne rfl rfl) (Wn ?_)))))))))))))
 refine CW.condD rfl (fun h => absurd h (fun h => h rfl)) (fun h_t12 => ?_)
 refine CW.skip (QE.next (CW.seq (Cr (Ws (O.fa rfl fld31_0 rfl) (Ws (O.ld rfl (mem_at 1 rfl) (Lens.fst Li) ty29 rfl) (Ws (O.fn fn57 (evs.l rfl (kC_Z (hq.a.sm (by omega))) evs.nil) (c_zint_Sign ((rq q).1))) (Ws (O.eq rfl rfl) (Wn ?_))))))))
 refine CW.condD rfl (fun h => absurd h (fun h => h0 (rq_num0.1 h))) (fun h_t18 => ?_)
 refine CW.skip (QE.next (CW.seq ?_))
 refine CW.drawM (Γ := [.fr (VP.pt b1 0), .fr (kC.is ((rq p).1)), .fr (VP.pt b2 2), .fr (kC.is ((rq q).2)), .fr (kC.is (((rq p).1) * ((rq q).2))), .fr (VP.pt b1 2), .fr (kC.is ((rq p).2)), .fr (VP.pt b2 0), .fr (kC.is ((rq q).1)), .fr (kC.is (((rq p).2) * ((rq q).1))), .fr (kRC.is (rmk (((rq p).1) * ((rq q).2)) (((rq p).2) * ((rq q).1))))]) (of_ rfl (fun N => O.fa rfl fld31_0 rfl) (of_ rfl (fun N => O.ld rfl (mem_app N (mem_at 2 rfl)) (Lens.fst Li) ty29 rfl) (of_ rfl (fun N => O.fa rfl fld31_1 rfl) (of_ rfl (fun N => O.ld rfl (mem_app N (mem_at 1 rfl)) (Lens.snd Li) ty29 rfl) (of_ rfl (fun N => O.fn fn122 (evs.l rfl (kC_Z (hp.a.sm (by omega))) (evs.l rfl (kC_Z (hq.b.sm (by omega))) evs.nil)) (c_zint_Mul ((rq p).1) ((rq q).2))) (of_ rfl (fun N => O.fa rfl fld31_1 rfl) (of_ rfl (fun N => O.ld rfl (mem_app N (mem_at 2 rfl)) (Lens.snd Li) ty29 rfl) (of_ rfl (fun N => O.fa rfl fld31_0 rfl) (of_ rfl (fun N => O.ld rfl (mem_app N (mem_at 1 rfl)) (Lens.fst Li) ty29 rfl) (of_ rfl (fun N => O.fn fn122 (evs.l rfl (kC_Z (hp.b.sm (by omega))) (evs.l rfl (kC_Z (hq.a.sm (by omega))) evs.nil)) (c_zint_Mul ((rq p).2) ((rq q).1))) (of_ rfl (fun N => O.fn fn136 (evs.l rfl (kC_Z ((hp.a.mul hq.b).sm (by omega))) (evs.l rfl (kC_Z ((hp.b.mul hq.a).sm (by omega))) evs.nil)) (c_rat_made (((rq p).1) * ((rq q).2)) (((rq p).2) * ((rq q).1)) (Int.mul_ne_zero (rq_den_ne p) (rq_num_ne h0)))) oz))))))))))) (fun σ1 => ?_)
 refine WP.t .n (O.stW (l := kRC) (u := rmk (((rq p).1) * ((rq q).2)) (((rq p).2) * ((rq q).1))) 0 rfl rfl rfl ty31 rfl Lr) (Wa rfl (Wn (CW.ret (ST.obtold 0 rfl (OB.box_eq (y := (rq (p / q))) (rq_div p h0)) ?_))))
 exact QE.done (.inl rfl) rfl (ResOk.c rfl (mem_at 0 rfl) ty31 (ResOk.t rfl ResOk.nil)) (OImp.sub (List.nil_sublist _)) ⟨rfl, rfl⟩
theorem c_close_add (n : Nat) (p q : Rat) (hp : RZ n p) (hq : RZ n q) (hn : n ≤ 68719476736) : Fn Tryz.prog 69 [kRC.is (rq p), kRC.is (rq q)] (kRC.is (rq (p + q))) := by
 refine Con.enter Tryz.func69 rfl rfl fun m w => Cr (WP.bx .n rfl fun b1 => WP.bx .n rfl fun b2 => WP.al .n z31_pr_C_C_ fun b3 => Wr (Ws (O.ld rfl (mem_at 2 rfl) Li ty31 rfl) (Ws (O.ld rfl (mem_at 1 rfl) Li ty31 rfl) (Ws (O.fn fn135 (evs.c rfl (evs.c rfl evs.nil)) (c_rat_Add n p q (by assumption) (by assumption) (by assumption))) (Wm rfl (Ws (O.ext rfl rfl) (Ws (O.ext rfl rfl) (WP.al .n z31_pr_C_C_ fun b4 => WP.t .n (O.stW (l := kRC) (u := rq (p + q)) 0 rfl rfl rfl ty31 rfl Lr) (Wa rfl (Wr (Ws (O.ld rfl (mem_at 0 rfl) Li ty31 rfl) ?_)))))))))))
 refine WP.t .n (O.stW (l := kRC) (u := rq (p + q)) 1 rfl rfl rfl ty31 rfl Lr) (Wn (CW.ret ?_))
 exact QE.done (.inl rfl) rfl (ResOk.c rfl (mem_at 1 rfl) ty31 ResOk.nil) (OImp.sub (List.nil_sublist _)) ⟨rfl, rfl⟩
theorem c_close_mul (n : Nat) (p q : Rat) (hp : RZ n p) (hq : RZ n q) (hn : n ≤ 68719476736) : Fn Tryz.prog 195 [kRC.is (rq p), kRC.is (rq q)] (kRC.is (rq (p * q))) := by
 refine Con.enter Tryz.func195 rfl rfl fun m w => Cr (WP.bx .n rfl fun b1 => WP.bx .n rfl fun b2 => WP.al .n z31_pr_C_C_ fun b3 => Wr (Ws (O.ld rfl (mem_at 2 rfl) Li ty31 rfl) (Ws (O.ld rfl (mem_at 1 rfl) Li ty31 rfl) (Ws (O.fn fn221 (evs.c rfl (evs.c rfl evs.nil)) (c_rat_Mul n p q (by assumption) (by assumption) (by assumption))) (Wm rfl (Ws (O.ext rfl rfl) (Ws (O.ext rfl rfl) (WP.al .n z31_pr_C_C_ fun b4 => WP.t .n (O.stW (l := kRC) (u := rq (p * q)) 0 rfl rfl rfl ty31 rfl Lr) (Wa rfl (Wr (Ws (O.ld rfl (mem_at 0 rfl) Li ty31 rfl) ?_)))))))))))
 refine WP.t .n (O.stW (l := kRC) (u := rq (p * q)) 1 rfl rfl rfl ty31 rfl Lr) (Wn (CW.ret ?_))
 exact QE.done (.inl rfl) rfl (ResOk.c rfl (mem_at 1 rfl) ty31 ResOk.nil) (OImp.sub (List.nil_sublist _)) ⟨rfl, rfl⟩
theorem c_close_squares (n m0 : Nat) (d : Nat → Rat) (hm : m0 ≤ 12) (hd : ∀ i, i < m0 → RZ n (d i)) (hn : n ≤ 2147483649) : Fn Tryz.prog 124 [(kSl kRC).is ((List.range m0).map (fun k => rq (d k)))] (kRC.is (rq (sqQ d m0))) := by
 refine Con.enter Tryz.func124 rfl rfl fun m w => ?_
 have hS : ∀ i, i ≤ m0 → RZ 60000000000 (sqQ d i) := fun i hi => (sqQ_RZ hd i hi).up (Nat.le_trans (szQ_le (by omega)) (by omega))
 refine Cr (WP.al .n z31_pr_C_C_ fun b1 => Wr (Ws (O.bld lit29_C rfl evp.n (.nil _)) (Ws (O.fn fn67 (evs.l rfl (kC_Z (by exact Sm_lit (by decide))) evs.nil) (c_rat_Of 0)) (WP.al .n z31_pr_C_C_ fun b2 => WP.t .n (O.stW (l := kRC) (u := rq (0 : Rat)) 0 rfl rfl rfl ty31 rfl Lr) (Wn (CW.seq (Cr (Wm rfl (Ws (O.lenS rfl U26) (Wm rfl (Wn (CW.block (ST.told 9 rfl (is_eq (y := (m0 : Int)) (by simp)) (ST.obtold 0 rfl (OB.box_eq (y := (rq (sqQ d 0))) (by exact rq_int 0)) ?_))))))))))))))
 refine CW.loop2 (fun (i : Nat) (q : Nat) => i ≤ m0) (fun (i : Nat) (q : Nat) => [(2, VP.pt b1 0), (3, VP.pt b2 0), (8, (kSl kRC).is ((List.range m0).map (fun k => rq (d k)))), (9, kN6.is (m0 : Int)), (10, kN6.is (i : Int))]) (fun (i : Nat) (q : Nat) => [OB.box b2 31 kRC (rq (sqQ d i)), OB.box b1 31 kRC (0, 0)]) (fun (i : Nat) (q : Nat) => m0 - i) 0 0 (Nat.zero_le _) (Imp.c4 rfl rfl rfl rfl (Imp.consLe rfl (is_eq (y := (0 : Int)) (by rfl)) Imp.nil)) (OImp.refl _) ?_
 intro i q hi
 refine Cr (Ws (O.lt rfl rfl) (Wn (CW.seq ?_)))
 refine CW.condD rfl (fun h_t11 => ?_) (fun h_t11 => ?_)
 ·
  refine CW.skip (QE.next (CW.seq (CW.block (Cr (Ws (O.ix i rfl rfl U26 ty31 rfl (v := (rq (d i))) (rng_at (f := fun k => rq (d k)) (by omega))) (Ws (O.ldP rfl ty31) (WP.al .n z31_pr_C_C_ fun b3 => WP.t .n (O.stW (l := kRC) (u := (rq (d i))) 0 rfl rfl rfl ty31 rfl Lr) (Wn ?_))))))))
  refine CW.drawM (Γ := [.fr (kRC.is (rq (sqQ d i))), .fr (kRC.is (rq (d i))), .fr (kRC.is (rq (d i))), .fr (kRC.is (rq ((d i) * (d i)))), .fr (kRC.is (rq ((sqQ d i) + (d i * d i))))]) (of_ rfl (fun N => O.ld rfl (mem_app N (mem_at 1 rfl)) Li ty31 rfl) (of_ rfl (fun N => O.ld rfl (mem_app N (mem_at 0 rfl)) Li ty31 rfl) (of_ rfl (fun N => O.ld rfl (mem_app N (mem_at 0 rfl)) Li ty31 rfl) (of_ rfl (fun N => O.fn fn195 (evs.c rfl (evs.c rfl evs.nil)) (c_close_mul n (d i) (d i) (hd i (by omega)) (hd i (by omega)) (by omega))) (of_ rfl (fun N => O.fn fn69 (evs.c rfl (evs.l rfl (is_eq (y := rq (d i * d i)) (by rfl)) evs.nil)) (c_close_add 60000000000 (sqQ d i) (d i * d i) (hS i (by omega)) (((hd i (by omega)).mul (hd i (by omega))).up (by omega)) (by omega))) oz))))) (fun σ1 => ?_)
  refine WP.t .n (O.stW (l := kRC) (u := rq ((sqQ d i) + (d i * d i))) 1 rfl rfl rfl ty31 rfl Lr) (WP.nil (QE.blkN (QE.next (CW.region (Ws (O.add rfl rfl (c := ((i : Int) + 1)) (w64 (by omega))) (Wm rfl (WP.nil (ST.oimp (OImp.ix [1, 2] (by decide) rfl) (ST.obtold 0 rfl (OB.box_eq (y := (rq (sqQ d (i + 1)))) rfl) ?_)))))))))
  exact QE.round2 (i + 1) q (by omega) (by omega) (Imp.c4 rfl rfl rfl rfl (Imp.consLe rfl (is_eq (y := (((i + 1) : Nat) : Int)) (by rfl)) Imp.nil)) (OImp.refl _)
 ·
  refine CW.exit (QE.thenE (QE.thenE (QE.blkH (QE.next (Cr (Ws (O.ld rfl (mem_at 0 rfl) Li ty31 rfl) (WP.t .n (O.stW (l := kRC) (u := (rq (sqQ d i))) 1 rfl rfl rfl ty31 rfl Lr) (Wn (CW.ret (ST.obtold 1 rfl (OB.box_eq (y := (rq (sqQ d m0))) (by rw [show i = m0 by omega])) ?_))))))))))
  exact QE.done (.inl rfl) rfl (ResOk.c rfl (mem_at 1 rfl) ty31 ResOk.nil) (OImp.sub (List.nil_sublist _)) ⟨rfl, rfl⟩
theorem c_close_distance (n : Nat) (u : List Int) (t : List (Int × Int)) (hl : t.length = u.length) (h12 : u.length ≤ 12) (hu : SzL n u) (hd : ∀ i, i < t.length → 0 < (t.getD i (0, 0)).2) (hz : ∀ i, i < t.length → Sz n (t.getD i (0, 0)).1 ∧ Sz n (t.getD i (0, 0)).2) (h1 : 1 ≤ n) (hn : n ≤ 1073741824) : Fn Tryz.prog 59 [kVZ.is u, (kSl (kPair kZ kZ)).is t] (kRC.is (rq (dstQ u t))) := by
 refine Con.enter Tryz.func59 rfl rfl fun m w => ST.fact (i := 0) rfl sl_len fun hB0 => ?_
 have hR : ∀ i, i < u.length → RZ (n + n + 1) (dfQ u t i) := fun i hi => dfQ_RZ h1 hl hu hd hz hi
 refine Cr (WP.al .n z31_pr_C_C_ fun b1 => Wr (Wa rfl (Wn (CW.seq (Cr (Wm rfl (Ws (O.lenS rfl U23) (Wm rfl (Wn (CW.block (ST.nilrow 31 kRC (CW.loop2 (fun (i : Nat) (v : Value) => i ≤ u.length) (fun (i : Nat) (v : Value) => [(0, kVZ.is u), (1, (kSl (kPair kZ kZ)).is t), (4, VP.pt b1 0), (5, VP.ex v), (8, kN6.is (u.length : Int)), (9, kN6.is (i : Int))]) (fun (i : Nat) (v : Value) => [OB.row v 31 kRC (dfL u t i), OB.box b1 31 kRC (0, 0)]) (fun (i : Nat) (v : Value) => u.length - i) 0 (.slice none 0 0) (Nat.zero_le _) (Imp.c4 rfl rfl rfl rfl (Imp.cons rfl (Imp.consLe rfl (is_eq (y := (0 : Int)) (by rfl)) Imp.nil))) (OImp.os (OS.keepLe (OB.row_eq (by rfl)) (OS.keep OS.nil))) ?_))))))))))))
 intro i v hi
 refine Cr (Ws (O.lt rfl rfl) (Wn (CW.seq ?_)))
 refine CW.condD rfl (fun h_t10 => ?_) (fun h_t10 => ?_)
 ·
  refine CW.skip (QE.next (CW.seq (CW.block (Cr (Wm rfl (Wa rfl (Wn ?_)))))))
  refine CW.drawM (Γ := [.fr (VP.ex v), .fr (kVZ.is u), .fr (kN6.is (i : Int)), .fr (VP.pim kZ (u.getD i 0)), .fr (kZ.is (u.getD i 0)), .fr (kRC.is (rq ((u.getD i 0) : Rat))), .fr ((kSl (kPair kZ kZ)).is t), .fr (kN6.is (i : Int)), .fr (VP.pim (kPair kZ kZ) (t.getD i (0, 0))), .fr ((kPair kZ kZ).is (t.getD i (0, 0))), .fr (kRC.is (rq (((u.getD i 0 : Int) : Rat) - rv (((t.getD i (0, 0)).1), ((t.getD i (0, 0)).2))))), .fr ((kSl kRC).is [rq (((u.getD i 0 : Int) : Rat) - rv (((t.getD i (0, 0)).1), ((t.getD i (0, 0)).2)))])]) (om rfl rfl (om rfl rfl (om rfl rfl (of_ rfl (fun N => O.ix i rfl rfl U23 ty29 rfl (v := (u.getD i 0)) (gd 0 (by omega))) (of_ rfl (fun N => O.ldP rfl ty29) (of_ rfl (fun N => O.fn fn67 (evs.c rfl evs.nil) (c_rat_Of (u.getD i 0))) (om rfl rfl (om rfl rfl (of_ rfl (fun N => O.ix i rfl rfl U26 ty31 rfl (v := (t.getD i (0, 0))) (gd (0, 0) (by omega))) (of_ rfl (fun N => O.ldP rfl ty31) (of_ rfl (fun N => O.fn fn123 (evs.l rfl (is_eq (y := rq ((u.getD i 0 : Int) : Rat)) (by rfl)) (evs.l rfl (is_eq (y := ((t.getD i (0, 0)).1, (t.getD i (0, 0)).2)) (by rfl)) evs.nil)) (c_close_subr (n + 1) ((u.getD i 0 : Int) : Rat) ((t.getD i (0, 0)).1) ((t.getD i (0, 0)).2) (RZ.int ((hu i).up (by omega))) ((hz i (by omega)).1.up (by omega)) ((hz i (by omega)).2.up (by omega)) (hd i (by omega)) (by omega))) (of_ rfl (fun N => O.bs U26 el31_pr_C_C_ (evl.c rfl evl.n) rfl (by decide)) oz)))))))))))) (fun σ1 => ?_)
  refine WP.ap 0 .n rfl rfl rfl Lr U26 el31_pr_C_C_ (by simp [dfL_len]; omega) fun v2 => Wa rfl (WP.nil (QE.blkN (QE.next (CW.region (Ws (O.add rfl rfl (c := ((i : Int) + 1)) (w64 (by omega))) (Wm rfl (WP.nil (ST.obtold 0 rfl (OB.row_eq (ys := (dfL u t (i + 1))) (by rw [← dfL_app, ← dfQ_eq u t i (by omega)])) ?_))))))))
  exact QE.round2 (i + 1) v2 (by omega) (by omega) (Imp.c4 rfl rfl rfl rfl (Imp.cons rfl (Imp.consLe rfl (is_eq (y := (((i + 1) : Nat) : Int)) (by rfl)) Imp.nil))) (OImp.refl _)
 ·
  refine CW.exit (QE.thenE (QE.thenE (QE.blkH (QE.next (CW.seq (ST.obtold 0 rfl (OB.row_eq (ys := ((List.range u.length).map (fun k => rq (dfQ u t k)))) (by rw [show i = u.length by omega]; rfl)) (CW.region (Wm rfl (ST.freeze 0 rfl (kp 0 rfl (kp 1 rfl (kp 4 rfl (.hit (i := 5) rfl (kp 8 rfl (kp 9 rfl (kp 10 rfl (.hit (i := 26) rfl .nil)))))))) (Ws (O.fn fn124 (evs.l rfl (is_eq (y := ((List.range u.length).map (fun k => rq ((dfQ u t) k)))) (by rfl)) evs.nil) (c_close_squares (n + n + 1) u.length (dfQ u t) h12 hR (by omega))) (WP.t .n (O.stW (l := kRC) (u := rq (sqQ (dfQ u t) u.length)) 0 rfl rfl rfl ty31 rfl Lr) (Wn (CW.ret (ST.obtold 0 rfl (OB.box_eq (y := (rq (dstQ u t))) rfl) ?_))))))))))))))
  exact QE.done (.inl rfl) rfl (ResOk.c rfl (mem_at 0 rfl) ty31 ResOk.nil) (OImp.sub (List.nil_sublist _)) ⟨rfl, rfl⟩
end Fw
/- What is asked of a target, the check, the cover: the program. -/
set_option linter.unusedVariables false
set_option linter.unusedSimpArgs false
set_option exponentiation.threshold 600
set_option maxRecDepth 20000
set_option maxHeartbeats 1000000
namespace Fw
open Go Go.Proofs
theorem c_close_big (z : Int) : Fn Tryz.prog 117 [kZ.is z] (kBool.is (decide ((256 : Int) < (bitlen z.natAbs : Int)))) := by
 refine Con.enter Tryz.func117 rfl rfl fun m w => Cr (WP.bx .n rfl fun b1 => Wa rfl (Wr (Ws (O.ld rfl (mem_at 0 rfl) Li ty29 rfl) (Ws (O.fn fn188 (evs.c rfl evs.nil) (c_zint_Bits z)) (Ws (O.gt rfl rfl) (Wa rfl (Wn (CW.ret ?_))))))))
 exact QE.done (.inl rfl) rfl (ResOk.tl rfl (is_eq (y := decide ((256 : Int) < (bitlen z.natAbs : Int))) (by rfl)) ResOk.nil) (OImp.sub (List.nil_sublist _)) ⟨rfl, rfl⟩
theorem c_close_asked (b : List (List Int)) (t : List (Int × Int)) : Fn Tryz.prog 54 [kMZ.is b, (kSl (kPair kZ kZ)).is t] (kN6.is (askE b t)) := by
 refine Con.enter Tryz.func54 rfl rfl fun m w => ST.fact (i := 1) rfl sl_len fun hB1 => ST.fact (i := 0) rfl sl_len fun hB0 => ST.fact (i := 0) rfl slsl_len fun hlc => Cr (Wa rfl (Wn (CW.seq (Cr (Wm rfl (Ws (O.fn fn116 (evs.c rfl evs.nil) (c_gso_Valid b)) (Wa rfl (Wr (Wm rfl (Ws (O.ne rfl rfl) (Wn ?_)))))))))))
 refine CW.condD rfl (fun h_t13 => ?_) (fun h_t13 => ?_)
 ·
  refine Cr (Wm rfl (Wa rfl (Wn (CW.ret (QE.thenR (ST.told 4 rfl (is_eq (y := (askE b t)) (askE_1 h_t13).symm) ?_))))))
  exact QE.done (.inl rfl) rfl (ResOk.t rfl ResOk.nil) (OImp.sub (List.nil_sublist _)) ⟨rfl, rfl⟩
 ·
  refine CW.skip (QE.next (CW.seq (CW.seq ?_)))
  have hlc0 := hlc 0
  have hb0 := (basis_of (b := b) (by omega)).n0
  refine CW.region (Wm rfl (Ws (O.lenS rfl U26) (Wm rfl (Ws (O.ix 0 rfl rfl U22 ty23 rfl (v := (b.getD 0 [])) (gd [] (by omega))) (Ws (O.ldP rfl ty23) (Ws (O.lenS rfl U23) (Ws (O.ne rfl rfl) (Wn ?_))))))))
  refine CW.condD rfl (fun h_t21 => ?_) (fun h_t21 => ?_)
  ·
   refine Cr (Wa rfl (Wn (CW.ret (QE.thenR (ST.told 4 rfl (is_eq (y := (askE b t)) (askE_2 h_t13 (by omega)).symm) ?_)))))
   exact QE.done (.inl rfl) rfl (ResOk.t rfl ResOk.nil) (OImp.sub (List.nil_sublist _)) ⟨rfl, rfl⟩
  ·
   refine CW.skip (QE.next (CW.seq (Cr (Wm rfl (Ws (O.lenS rfl U26) (Wm rfl (Wn (CW.block (CW.loop (fun (i : Nat) => i ≤ t.length ∧ denB t i = true) (fun (i : Nat) => [(0, kMZ.is b), (1, (kSl (kPair kZ kZ)).is t), (22, (kSl (kPair kZ kZ)).is t), (23, kN6.is (t.length : Int)), (24, kN6.is (i : Int))]) (fun (i : Nat) => []) (fun (i : Nat) => t.length - i) 0 ⟨Nat.zero_le _, denB_0 t⟩ (Imp.c4 rfl rfl rfl rfl (Imp.consLe rfl (is_eq (y := (0 : Int)) (by rfl)) Imp.nil)) (OImp.refl _) ?_)))))))))
   intro i ⟨hi, hd⟩
   refine Cr (Ws (O.lt rfl rfl) (Wn (CW.seq ?_)))
   refine CW.condD rfl (fun h_t25 => ?_) (fun h_t25 => ?_)
   ·
    refine CW.skip (QE.next (CW.seq (CW.block (Cr (Ws (O.ix i rfl rfl U26 ty31 rfl (v := (t.getD i (0, 0))) (gd (0, 0) (by omega))) (Ws (O.ldP rfl ty31) (WP.al .n z31_pr_Z_Z_ fun b1 => WP.t .n (O.stW (l := (kPair kZ kZ)) (u := (t.getD i (0, 0))) 0 rfl rfl rfl ty31 rfl Lr) (Wr (Ws (O.fa rfl fld31_1 rfl) (Ws (O.ld rfl (mem_at 0 rfl) (Lens.snd Li) ty29 rfl) (Ws (O.fn fn57 (evs.c rfl evs.nil) (c_zint_Sign ((t.getD i (0, 0)).2))) (Ws (O.le rfl rfl) (Wn ?_)))))))))))))
    refine CW.condD rfl (fun h_t31 => ?_) (fun h_t31 => ?_)
    ·
     refine Cr (Wa rfl (Wn (CW.ret (QE.blkR (QE.thenR (QE.thenR (QE.blkR (QE.thenR (ST.told 4 rfl (is_eq (y := (askE b t)) (askE_3 h_t13 (by omega) (denB_n (i := i) (by omega) (sgn_npos h_t31))).symm) ?_)))))))))
     exact QE.done (.inl rfl) rfl (ResOk.t rfl ResOk.nil) (OImp.sub (List.nil_sublist _)) ⟨rfl, rfl⟩
    ·
     refine CW.skip (QE.blkN (QE.next (CW.region (Ws (O.add rfl rfl (c := ((i : Int) + 1)) (w64 (by omega))) (Wm rfl (WP.nil ?_))))))
     exact QE.round (i + 1) (by omega) ⟨by omega, denB_s (by omega) hd (sgn_pos0 h_t31)⟩ (Imp.c4 rfl rfl rfl rfl (Imp.consLe rfl (is_eq (y := (((i + 1) : Nat) : Int)) (by rfl)) Imp.nil)) (OImp.sub (List.nil_sublist _))
   ·
    refine CW.exit (QE.thenE (QE.thenE (QE.blkH (QE.next (CW.seq (CW.seq ?_))))))
    have hdn : denB t t.length = true := by rw [show t.length = i by omega]; exact hd
    refine CW.region (Wm rfl (Ws (O.lenS rfl U26) (Wm rfl (Wn (CW.block (CW.loop (fun (j : Nat) => j ≤ t.length ∧ bitB t j = true) (fun (j : Nat) => [(0, kMZ.is b), (1, (kSl (kPair kZ kZ)).is t), (33, (kSl (kPair kZ kZ)).is t), (34, kN6.is (t.length : Int)), (35, kN6.is (j : Int))]) (fun (j : Nat) => []) (fun (j : Nat) => t.length - j) 0 ⟨Nat.zero_le _, bitB_0 t⟩ (Imp.c4 rfl rfl rfl rfl (Imp.consLe rfl (is_eq (y := (0 : Int)) (by rfl)) Imp.nil)) (OImp.refl _) ?_))))))
    intro j ⟨hj, hb⟩
    refine Cr (Ws (O.lt rfl rfl) (Wn (CW.seq ?_)))
    refine CW.condD rfl (fun h_t36 => ?_) (fun h_t36 => ?_)
    ·
     refine CW.skip (QE.next (CW.seq (CW.block (Cr (Ws (O.ix j rfl rfl U26 ty31 rfl (v := (t.getD j (0, 0))) (gd (0, 0) (by omega))) (Ws (O.ldP rfl ty31) (WP.al .n z31_pr_Z_Z_ fun b2 => WP.t .n (O.stW (l := (kPair kZ kZ)) (u := (t.getD j (0, 0))) 0 rfl rfl rfl ty31 rfl Lr) (Wr (Ws (O.fa rfl fld31_0 rfl) (Ws (O.ld rfl (mem_at 0 rfl) (Lens.fst Li) ty29 rfl) (Ws (O.fn fn117 (evs.c rfl evs.nil) (c_close_big ((t.getD j (0, 0)).1))) (Wm rfl ?_))))))))))))
     refine WP.splitD 42 rfl (fun h_t42 => ?_) (fun h_t42 => ?_)
     ·
      refine WP.ku (b := true) rfl rfl (WP.ku (b := true) rfl rfl (WP.ku (b := true) rfl rfl (Ws (O.pickT rfl rfl) (Wn (CW.condT rfl (Cr (Wa rfl (Wn (CW.ret (QE.blkR (QE.thenR (QE.thenR (QE.blkR (QE.thenR (ST.told 4 rfl (is_eq (y := (askE b t)) (askE_4 h_t13 (by omega) hdn (bitB_n (i := j) (by omega) (.inl h_t42))).symm) ?_)))))))))))))))
      exact QE.done (.inl rfl) rfl (ResOk.t rfl ResOk.nil) (OImp.sub (List.nil_sublist _)) ⟨rfl, rfl⟩
     ·
      refine WP.s (.g rfl rfl) (O.fa rfl fld31_1 rfl) (WP.s (.g rfl rfl) (O.ld rfl (mem_at 0 rfl) (Lens.snd Li) ty29 rfl) (WP.s (.g rfl rfl) (O.fn fn117 (evs.c rfl evs.nil) (c_close_big ((t.getD j (0, 0)).2))) (Ws (O.pickF rfl rfl) (Wn ?_))))
      refine CW.condD rfl (fun h_t46 => ?_) (fun h_t46 => ?_)
      ·
       refine Cr (Wa rfl (Wn (CW.ret (QE.blkR (QE.thenR (QE.thenR (QE.blkR (QE.thenR (ST.told 4 rfl (is_eq (y := (askE b t)) (askE_4 h_t13 (by omega) hdn (bitB_n (i := j) (by omega) (.inr (by simpa using h_t46)))).symm) ?_)))))))))
       exact QE.done (.inl rfl) rfl (ResOk.t rfl ResOk.nil) (OImp.sub (List.nil_sublist _)) ⟨rfl, rfl⟩
      ·
       refine CW.skip (QE.blkN (QE.next (CW.region (Ws (O.add rfl rfl (c := ((j : Int) + 1)) (w64 (by omega))) (Wm rfl (WP.nil ?_))))))
       exact QE.round (j + 1) (by omega) ⟨by omega, bitB_s (by omega) hb h_t42 (by simpa using h_t46)⟩ (Imp.c4 rfl rfl rfl rfl (Imp.consLe rfl (is_eq (y := (((j + 1) : Nat) : Int)) (by rfl)) Imp.nil)) (OImp.sub (List.nil_sublist _))
    ·
     refine CW.exit (QE.thenE (QE.thenE (QE.blkH (QE.next (CW.seq ?_)))))
     have hbn : bitB t t.length = true := by rw [show t.length = j by omega]; exact hb
     refine CW.region (Wa rfl (Wn (CW.ret (ST.told 4 rfl (is_eq (y := (askE b t)) (askE_5 h_t13 (by omega) hdn hbn).symm) ?_))))
     exact QE.done (.inl rfl) rfl (ResOk.t rfl ResOk.nil) (OImp.sub (List.nil_sublist _)) ⟨rfl, rfl⟩
theorem c_close_Check (b : List (List Int)) (t : List (Int × Int)) (cW cX : List Int) (cx cy : Int) (hW : SzL 33554432 cW) (hX : SzL 33554432 cX) (hx : Sz 33554432 cx) (hy : Sz 33554432 cy) : Fn Tryz.prog 17 [kMZ.is b, (kSl (kPair kZ kZ)).is t, (kPair kVZ (kPair kVZ (kPair kZ kZ))).is (cW, cX, (cx, cy))] (VP.tup [kBool.is (closeV b t cW cX cx cy), kN6.is (askE b t)]) := by
 refine Con.enter Tryz.func17 rfl rfl fun m w => Cr (WP.bx .n rfl fun b1 => Wa rfl (Wa rfl (Wn (CW.seq (Cr (Wm rfl (Wm rfl (Ws (O.fn fn54 (evs.c rfl (evs.c rfl evs.nil)) (c_close_asked b t)) (Wa rfl (Wr (Wm rfl (Ws (O.ne rfl rfl) (Wn ?_)))))))))))))
 refine CW.condD rfl (fun h_t17 => ?_) (fun h_t17 => ?_)
 ·
  refine Cr (Wm rfl (Wa rfl (Wa rfl (Wn (CW.ret (QE.thenR (ST.told 6 rfl (is_eq (y := (closeV b t cW cX cx cy)) (closeV_0 h_t17)) ?_)))))))
  exact QE.done (.inl rfl) rfl (ResOk.t rfl (ResOk.t rfl ResOk.nil)) (OImp.sub (List.nil_sublist _)) ⟨rfl, rfl⟩
 ·
  refine CW.skip (QE.next (CW.seq ?_))
  have hT := tgt_of (b := b) (t := t) (by omega)
  have hZ := basis_of hT.e
  have hC := bel_C hZ hX 67108876 (by decide)
  have hSl := hC.sm (by decide)
  have hlC := combA_len cX b
  have hc12 := hZ.c 0
  have hl12 : (combA cX b).length ≤ 12 := by omega
  refine CW.region (Ws (O.fa rfl fld53_1 rfl) (Ws (O.ld (p := kVZ.is cX) rfl (mem_at 0 rfl) (Lens.snd (Lens.fst Li)) ty23 rfl) (Wm rfl (Ws (O.fn fn55 (evs.c rfl (evs.c rfl evs.nil)) (c_mat_Combine 33554432 cX b hX (hZ.z.up (by decide)) (by have := hZ.n; omega))) (Wm rfl (Ws (O.ext rfl rfl) (Ws (O.ext rfl rfl) (Wa rfl (Wa rfl (Wn (CW.seq (Cr (Wm rfl (Ws (O.ne rfl rfl) (Wm rfl ?_)))))))))))))))
  refine WP.splitD 28 rfl (fun h_t28 => ?_) (fun h_t28 => ?_)
  ·
   refine WP.ku (b := true) rfl rfl (WP.ku (b := true) rfl rfl (WP.ku (b := true) rfl rfl (WP.ku (b := true) rfl rfl (WP.ku (b := true) rfl rfl (Ws (O.pickT rfl rfl) (Wn (CW.condT rfl (Cr (Wa rfl (Wa rfl (Wn (CW.ret (QE.thenR (ST.told 6 rfl (is_eq (y := (closeV b t cW cX cx cy)) (closeV_n (closeP_1 h_t28))) (ST.told 7 rfl (is_eq (y := (askE b t)) (by omega)) ?_)))))))))))))))
   exact QE.done (.inl rfl) rfl (ResOk.t rfl (ResOk.t rfl ResOk.nil)) (OImp.sub (List.nil_sublist _)) ⟨rfl, rfl⟩
  ·
   refine WP.s (.g rfl rfl) (O.mv rfl) (WP.s (.g rfl rfl) (O.fa rfl fld53_0 rfl) (WP.s (.g rfl rfl) (O.ld (p := kVZ.is cW) rfl (mem_at 0 rfl) (Lens.fst Li) ty23 rfl) (WP.s (.g rfl rfl) (O.fn fn56 (evs.l rfl (slC_Z (by exact hSl)) (evs.c rfl evs.nil)) (c_mat_Order (combA cX b) cW)) (WP.s (.g rfl rfl) (O.ne rfl rfl) (Ws (O.pickF rfl rfl) (Wn ?_))))))
   refine CW.condD rfl (fun h_t34 => ?_) (fun h_t34 => ?_)
   ·
    refine Cr (Wa rfl (Wa rfl (Wn (CW.ret (QE.thenR (ST.told 6 rfl (is_eq (y := (closeV b t cW cX cx cy)) (closeV_n (closeP_2 h_t34))) (ST.told 7 rfl (is_eq (y := (askE b t)) (by omega)) ?_)))))))
    exact QE.done (.inl rfl) rfl (ResOk.t rfl (ResOk.t rfl ResOk.nil)) (OImp.sub (List.nil_sublist _)) ⟨rfl, rfl⟩
   ·
    refine CW.skip (QE.next (CW.seq (CW.seq ?_)))
    have h5 : combE cX b = 0 := by simpa using h_t28
    have h6 : ordV (combA cX b) cW = 0 := by simpa using h_t34
    have hlt : t.length = (combA cX b).length := by rw [hT.l, comb_len h5]
    refine CW.region (Ws (O.fa rfl fld53_2 rfl) (Ws (O.fa rfl fld31_1 rfl) (Ws (O.ld (p := kZ.is cy) rfl (mem_at 0 rfl) (Lens.snd (Lens.snd (Lens.snd Li))) ty29 rfl) (Ws (O.fn fn57 (evs.c rfl evs.nil) (c_zint_Sign cy)) (Ws (O.le rfl rfl) (Wn ?_))))))
    refine CW.condD rfl (fun h_t39 => ?_) (fun h_t39 => ?_)
    ·
     refine Cr (Wa rfl (Wa rfl (Wn (CW.ret (QE.thenR (ST.told 6 rfl (is_eq (y := (closeV b t cW cX cx cy)) (closeV_n (closeP_3 (sgn_npos h_t39)))) (ST.told 7 rfl (is_eq (y := (askE b t)) (by omega)) ?_)))))))
     exact QE.done (.inl rfl) rfl (ResOk.t rfl (ResOk.t rfl ResOk.nil)) (OImp.sub (List.nil_sublist _)) ⟨rfl, rfl⟩
    ·
     refine CW.skip (QE.next (CW.seq ?_))
     have hdq := dstQ_RZ hlt hl12 hC hT
     refine CW.drawM (Γ := [.fr (kVC.is (combA cX b)), .fr ((kSl (kPair kZ kZ)).is t), .fr (kRC.is (rq (dstQ (combA cX b) t))), .fr (VP.pt b1 2), .fr ((kPair kZ kZ).is (cx, cy)), .fr (VP.tup [kN6.is (((rq (dstQ (combA cX b) t)).1 * cy - cx * (rq (dstQ (combA cX b) t)).2).sign), kN6.is 0]), .fr (VP.tup [kN6.is (((rq (dstQ (combA cX b) t)).1 * cy - cx * (rq (dstQ (combA cX b) t)).2).sign), kN6.is 0]), .fr (kN6.is (((rq (dstQ (combA cX b) t)).1 * cy - cx * (rq (dstQ (combA cX b) t)).2).sign)), .lt (kN6.is 0)]) (om rfl rfl (om rfl rfl (of_ rfl (fun N => O.fn fn59 (evs.l rfl (slC_Z (by exact hSl)) (evs.c rfl evs.nil)) (c_close_distance 67108876 (combA cX b) t hlt hl12 hC hT.d (fun i hi => ⟨(hT.z i hi).1.up (by decide), (hT.z i hi).2.up (by decide)⟩) (by decide) (by decide))) (of_ rfl (fun N => O.fa rfl fld53_2 rfl) (of_ rfl (fun N => O.ld (p := (kPair kZ kZ).is (cx, cy)) rfl (mem_app N (mem_at 0 rfl)) (Lens.snd (Lens.snd Li)) ty31 rfl) (of_ rfl (fun N => O.fn fn58 (evs.c rfl (evs.c rfl evs.nil)) (c_rat_Cmpr 4000000000 (dstQ (combA cX b) t) cx cy hdq (hx.up (by decide)) (hy.up (by decide)) (sgn_pos0 h_t39) (by decide))) (om rfl rfl (of_ rfl (fun N => O.ext rfl rfl) (oc (Ob.l rfl .n (OV.ext rfl rfl)) oz))))))))) (fun σ1 => ?_)
     refine Wa rfl (Wa rfl (Wr (Wm rfl (Ws (O.eq rfl rfl) (Wa rfl (Wa rfl (Wn (CW.ret (ST.told 6 rfl (is_eq (y := (closeV b t cW cX cx cy)) (by rw [closeV_ok (by omega)]; exact decide_eq_decide.2 (closeP_4 h5 h6 (sgn_pos0 h_t39)))) (ST.told 7 rfl (is_eq (y := (askE b t)) (by omega)) ?_))))))))))
     exact QE.done (.inl rfl) rfl (ResOk.t rfl (ResOk.t rfl ResOk.nil)) (OImp.sub (List.nil_sublist _)) ⟨rfl, rfl⟩
theorem c_close_Cover (b : List (List Int)) (hZ : Basis b) (hE : gsoE b true = 0) : Fn Tryz.prog 22 [kMZ.is b] (VP.tup [kRC.is (rq (covS b b.length / ((4 : Int) : Rat))), kN6.is 0]) := by
 refine Con.enter Tryz.func22 rfl rfl fun m w => ?_
 have hRB := redB_of hZ
 have hn12 := hZ.n
 have hlR := hRB.len
 refine Cr (WP.al .n z31_pr_C_C_ fun b1 => Wa rfl (Wr (Wm rfl (Ws (O.fn fn65 (evs.c rfl evs.nil) (c_lll_Reduce b (by assumption) (by assumption))) (Wm rfl (Ws (O.ext rfl rfl) (Ws (O.ext rfl rfl) (WP.al .n z35_pr_sl_sl_C_pr_sl_sl_C_pr_sl_sl_C_int___ fun b2 => WP.t .n (O.stW (l := kRed) (u := (llB b, llU b, llV b, ((llS b).length : Int))) 0 rfl rfl rfl ty35 rfl Lr) (Wa rfl (Wn (CW.seq (Cr (Wm rfl (Ws (O.ne rfl rfl) (WP.nil ?_)))))))))))))))
 refine QE.next ?_
 refine CW.condD rfl (fun h => absurd h (fun h => h rfl)) (fun h_t18 => ?_)
 refine CW.skip (QE.next (Cr (Ws (O.fa rfl fld35_0 rfl) (Ws (O.ld (p := kMC.is (llB b)) rfl (mem_at 0 rfl) (Lens.fst Li) ty22 rfl) (Ws (O.fn fn66 (evs.l rfl (slslC_Z (hRB.z.sm (by decide))) evs.nil) (c_gso_Wide 264 (llB b) hRB.z (by decide))) (Wm rfl (Ws (O.ext rfl rfl) (Ws (O.ext rfl rfl) (WP.al .n z25_pr_sl_C_sl_sl_C_ fun b3 => WP.t .n (O.stW (l := kGso) (u := gsoR (llB b) false) 0 rfl rfl rfl ty25 rfl Lr) (Wa rfl (Wn (CW.seq (ST.obtold 0 rfl (OB.box_eq (y := (gDs (gram (llB b)) b.length, gLs (gram (llB b)) b.length)) hRB.wide.2) (CW.region (Ws (O.bld lit29_C rfl evp.n (.nil _)) (Ws (O.fn fn67 (evs.l rfl (kC_Z (Sm_lit (by decide))) evs.nil) (c_rat_Of 0)) (WP.al .n z31_pr_C_C_ fun b4 => WP.t .n (O.stW (l := kRC) (u := rq (0 : Rat)) 0 rfl rfl rfl ty31 rfl Lr) (Wn ?_))))))))))))))))))
 refine CW.seq (Cr (Ws (O.fa rfl fld35_0 rfl) (Ws (O.ld (p := kMC.is (llB b)) rfl (mem_at 2 rfl) (Lens.fst Li) ty22 rfl) (Ws (O.lenS rfl U22) (Wm rfl (Wn (CW.block (ST.told 31 rfl (is_eq (y := (b.length : Int)) (by rw [hlR])) (ST.obtold 0 rfl (OB.box_eq (y := (rq (covS b 0))) (rq_int 0)) (CW.loop (fun (i : Nat) => i ≤ b.length) (fun (i : Nat) => [(2, VP.pt b1 0), (4, VP.pt b2 0), (6, VP.pt b3 0), (8, VP.pt b4 0), (31, kN6.is (b.length : Int)), (32, kN6.is (i : Int))]) (fun (i : Nat) => [OB.box b4 31 kRC (rq (covS b i)), OB.box b3 25 kGso (gDs (gram (llB b)) b.length, gLs (gram (llB b)) b.length), OB.box b2 35 kRed (llB b, llU b, llV b, ((llS b).length : Int)), OB.box b1 31 kRC (0, 0)]) (fun (i : Nat) => b.length - i) 0 (Nat.zero_le _) (Imp.c4 rfl rfl rfl rfl (Imp.cons rfl (Imp.consLe rfl (is_eq (y := (0 : Int)) (by rfl)) Imp.nil))) (OImp.refl _) ?_))))))))))
 intro i hi
 refine Cr (Ws (O.lt rfl rfl) (Wn (CW.seq ?_)))
 refine CW.condD rfl (fun h_t33 => ?_) (fun h_t33 => ?_)
 ·
  refine CW.skip (QE.next (CW.seq (CW.block (Cr (Wm rfl (Wa rfl (Wr (Ws (O.ld (p := kGso.is (gDs (gram (llB b)) b.length, gLs (gram (llB b)) b.length)) rfl (mem_at 1 rfl) Li ty25 rfl) (Wm rfl (Ws (O.fn fn68 (evs.c rfl (evs.c rfl evs.nil)) (c_gso_Star (gram (llB b)) b.length 2147483656 hRB.n0 hRB.n hRB.p (redB_dz hZ) (by decide) i (by omega) hRB.s)) (Wm rfl (Ws (O.ext rfl rfl) (Ws (O.ext rfl rfl) (WP.al .n z31_pr_C_C_ fun b5 => WP.t .n (O.stW (l := kRC) (u := rq (frS (gram (llB b)) i)) 0 rfl rfl rfl ty31 rfl Lr) (Wa rfl (Wn (CW.region ?_)))))))))))))))))
  refine Ws (O.ld rfl (mem_at 1 rfl) Li ty31 rfl) (Ws (O.ld rfl (mem_at 0 rfl) Li ty31 rfl) (Ws (O.fn fn69 (evs.c rfl (evs.c rfl evs.nil)) (c_close_add 30000000000 (covS b i) (frS (gram (llB b)) i) (covS_le hZ (by omega)) ((star_RZ hZ (by omega)).up (by decide)) (by decide))) (WP.t .n (O.stW (l := kRC) (u := rq ((covS b i) + (frS (gram (llB b)) i))) 1 rfl rfl rfl ty31 rfl Lr) (WP.nil (QE.blkN (QE.next (CW.region (Ws (O.add rfl rfl (c := ((i : Int) + 1)) (w64 (by omega))) (Wm rfl (WP.nil (ST.oimp (OImp.ix [1, 2, 3, 4] (by decide) rfl) (ST.obtold 0 rfl (OB.box_eq (y := (rq (covS b (i + 1)))) rfl) ?_))))))))))))
  exact QE.round (i + 1) (by omega) (by omega) (Imp.c4 rfl rfl rfl rfl (Imp.cons rfl (Imp.consLe rfl (is_eq (y := (((i + 1) : Nat) : Int)) (by rfl)) Imp.nil))) (OImp.refl _)
 ·
  refine CW.exit (QE.thenE (QE.thenE (QE.blkH (QE.next (CW.seq (ST.obtold 0 rfl (OB.box_eq (y := (rq (covS b b.length))) (by rw [show i = b.length by omega])) ?_))))))
  refine CW.drawM (Γ := [.fr (kRC.is (rq (covS b b.length))), .fr (kC.is 4), .fr (kRC.is (rq (4 : Rat))), .fr (VP.tup [kRC.is (rq ((covS b b.length) / ((4 : Int) : Rat))), kN6.is 0]), .fr (kRC.is (rq ((covS b b.length) / ((4 : Int) : Rat)))), .fr (kN6.is 0)]) (of_ rfl (fun N => O.ld rfl (mem_app N (mem_at 0 rfl)) Li ty31 rfl) (of_ rfl (fun N => O.fn fn71 (evs.l rfl (i64_int (by omega)) evs.nil) (c_zint_Of 4)) (of_ rfl (fun N => O.fn fn67 (evs.l rfl (kC_Z (Sm_lit (by decide))) evs.nil) (c_rat_Of 4)) (of_ rfl (fun N => O.fn fn70 (evs.c rfl (evs.l rfl (is_eq (y := rq ((4 : Int) : Rat)) (by rfl)) evs.nil)) (c_rat_Div 30000000000 (covS b b.length) ((4 : Int) : Rat) (covS_le hZ (Nat.le_refl _)) (RZ4.up (by decide)) (by decide) (by decide))) (of_ rfl (fun N => O.ext rfl rfl) (of_ rfl (fun N => O.ext rfl rfl) oz)))))) (fun σ1 => ?_)
  refine WP.t .n (O.stW (l := kRC) (u := rq ((covS b b.length) / ((4 : Int) : Rat))) 3 rfl rfl rfl ty31 rfl Lr) (Wa rfl (Wn (CW.ret ?_)))
  exact QE.done (.inl rfl) rfl (ResOk.cl rfl (mem_at 3 rfl) ty31 (is_eq (y := rq (covS b b.length / ((4 : Int) : Rat))) (by rfl)) (ResOk.t rfl ResOk.nil)) (OImp.sub (List.nil_sublist _)) ⟨rfl, rfl⟩
theorem c_close_Cover_bad (b : List (List Int)) (hE : gsoE b true ≠ 0) : Fn Tryz.prog 22 [kMZ.is b] (VP.tup [kRC.is (0, 0), kN6.is (gsoE b true)]) := by
 refine Con.enter Tryz.func22 rfl rfl fun m w => Cr (WP.al .n z31_pr_C_C_ fun b1 => Wa rfl (Wr (Wm rfl (Ws (O.fn fn65 (evs.c rfl evs.nil) (c_lll_Reduce_bad b (by assumption))) (Wm rfl (Ws (O.ext rfl rfl) (Ws (O.ext rfl rfl) (WP.al .n z35_pr_sl_sl_C_pr_sl_sl_C_pr_sl_sl_C_int___ fun b2 => WP.t .n (O.stW (l := kRed) (u := ([], [], [], 0)) 0 rfl rfl rfl ty35 rfl Lr) (Wa rfl (Wn (CW.seq (Cr (Wm rfl (Ws (O.ne rfl rfl) ?_))))))))))))))
 refine Wn ?_
 refine CW.condD rfl (fun h_t18 => ?_) (fun h => absurd hE h)
 refine Cr (Ws (O.bld lit31_pr_C_C_ rfl evp.n (.nil _)) (Wm rfl (WP.t .n (O.stW (l := kRC) (u := (0, 0)) 1 rfl rfl rfl ty31 rfl Lr) (Wa rfl (Wn (CW.ret (QE.thenR ?_)))))))
 exact QE.done (.inl rfl) rfl (ResOk.c rfl (mem_at 1 rfl) ty31 (ResOk.t rfl ResOk.nil)) (OImp.sub (List.nil_sublist _)) ⟨rfl, rfl⟩
end Fw
/- Fractions, data and frames of the document. -/
set_option linter.unusedVariables false
set_option linter.unusedSimpArgs false
set_option exponentiation.threshold 600
set_option maxRecDepth 20000
set_option maxHeartbeats 1000000
namespace Fw
open Go Go.Proofs
theorem c_ref03_Floor (n : Nat) (p : Rat) (hp : RZ n p) (hn : n ≤ 68719476736) : Fn Tryz.prog 159 [kRC.is (rq p)] (kC.is (floorQ p)) := by
 refine Con.enter Tryz.func159 rfl rfl fun m w => Cr (WP.bx .n rfl fun b1 => WP.al .n z29_C fun b2 => Wr (Ws (O.fa rfl fld31_0 rfl) (Ws (O.ld rfl (mem_at 1 rfl) (Lens.fst Li) ty29 rfl) (Ws (O.fa rfl fld31_1 rfl) (Ws (O.ld rfl (mem_at 1 rfl) (Lens.snd Li) ty29 rfl) (Ws (O.fn fn162 (evs.l rfl (kC_Z (hp.a.sm (by omega))) (evs.l rfl (kC_Z (hp.b.sm (by omega))) evs.nil)) (c_ref02_Floor ((rq p).1) ((rq p).2) (rq_den_ne p))) (Wm rfl (Ws (O.ext rfl rfl) (Ws (O.ext rfl rfl) (WP.al .n z29_C fun b3 => WP.al .n z29_C fun b4 => WP.t .n (O.stW (l := kC) (u := ((rq p).1).fdiv ((rq p).2)) 1 rfl rfl rfl ty29 rfl Lr) (WP.t .n (O.stW (l := kC) (u := ((rq p).1).fmod ((rq p).2)) 0 rfl rfl rfl ty29 rfl Lr) (Wn (CW.seq ?_)))))))))))))
 refine CW.region (Ws (O.ld rfl (mem_at 1 rfl) Li ty29 rfl) (WP.t .n (O.stW (l := kC) (u := ((rq p).1).fdiv ((rq p).2)) 2 rfl rfl rfl ty29 rfl Lr) (Wn (CW.ret (ST.obtold 2 rfl (OB.box_eq (y := (floorQ p)) rfl) ?_)))))
 exact QE.done (.inl rfl) rfl (ResOk.c rfl (mem_at 2 rfl) ty29 ResOk.nil) (OImp.sub (List.nil_sublist _)) ⟨rfl, rfl⟩
theorem c_ref03_Half  : Fn Tryz.prog 160 [] (kRC.is (rq (1 / 2 : Rat))) := by
 refine Con.enter Tryz.func160 rfl rfl fun m w => Cr (WP.al .n z31_pr_C_C_ fun b1 => Wr (Ws (O.fn fn114 evs.nil (c_ref03_one)) (Ws (O.fn fn77 (evs.l rfl (i64_int (by omega)) evs.nil) (c_ref02_Of 2)) (Ws (O.bld lit31_pr_C_C_ rfl (evp.c rfl (evp.c rfl evp.n)) (.cons rfl (Lens.fst Li) (.cons rfl (Lens.snd Li) (.nil _)))) (WP.t .n (O.stW (l := kRC) (u := (1, 2)) 0 rfl rfl rfl ty31 rfl Lr) (Wn (CW.ret (ST.obtold 0 rfl (OB.box_eq (y := (rq (1 / 2 : Rat))) (by decide +kernel)) ?_))))))))
 exact QE.done (.inl rfl) rfl (ResOk.c rfl (mem_at 0 rfl) ty31 ResOk.nil) (OImp.sub (List.nil_sublist _)) ⟨rfl, rfl⟩
theorem c_ref03_Near (n : Nat) (p : Rat) (hp : RZ n p) (hn : n ≤ 17179869184) : Fn Tryz.prog 90 [kRC.is (rq p)] (kC.is (nearQ p)) := by
 refine Con.enter Tryz.func90 rfl rfl fun m w => ?_
 have rH : RZ 3 (1 / 2 : Rat) := RZ.of (n := 1) (d := 2) (by decide) (by decide +kernel) (show (1 : Int).natAbs < 2 ^ 3 by decide) (show (2 : Int).natAbs < 2 ^ 3 by decide)
 have rS := (hp.up (show n ≤ n + 3 by omega)).add (rH.up (show 3 ≤ n + 3 by omega))
 refine Cr (WP.bx .n rfl fun b1 => WP.al .n z29_C fun b2 => Wn (CW.seq ?_))
 refine CW.drawM (Γ := [.fr (kRC.is (rq p)), .fr (kRC.is (rq (1 / 2 : Rat))), .fr (kRC.is (rq (p + (1 / 2 : Rat)))), .fr (kC.is (floorQ (p + 1 / 2)))]) (of_ rfl (fun N => O.ld rfl (mem_app N (mem_at 1 rfl)) Li ty31 rfl) (of_ rfl (fun N => O.fn fn160 evs.nil (c_ref03_Half)) (of_ rfl (fun N => O.fn fn74 (evs.c rfl (evs.c rfl evs.nil)) (c_ref03_Add (n + 3) p (1 / 2 : Rat) (hp.up (by omega)) (rH.up (by omega)) (by omega))) (of_ rfl (fun N => O.fn fn159 (evs.l rfl (is_eq (y := rq (p + 1 / 2)) (by rfl)) evs.nil) (c_ref03_Floor (n + 3 + (n + 3) + 1) (p + 1 / 2) rS (by omega))) oz)))) (fun σ1 => ?_)
 refine WP.t .n (O.stW (l := kC) (u := floorQ (p + 1 / 2)) 0 rfl rfl rfl ty29 rfl Lr) (Wn (CW.ret (ST.obtold 0 rfl (OB.box_eq (y := (nearQ p)) (floor_near p)) ?_)))
 exact QE.done (.inl rfl) rfl (ResOk.c rfl (mem_at 0 rfl) ty29 ResOk.nil) (OImp.sub (List.nil_sublist _)) ⟨rfl, rfl⟩
theorem c_ref03_Cmp (n : Nat) (p q : Rat) (hp : RZ n p) (hq : RZ n q) (hn : n ≤ 68719476736) : Fn Tryz.prog 64 [kRC.is (rq p), kRC.is (rq q)] (kN6.is ((rq (p - q)).1.sign)) := by
 refine Con.enter Tryz.func64 rfl rfl fun m w => ?_
 have rD := hp.sub2 hq
 refine Cr (WP.bx .n rfl fun b1 => WP.bx .n rfl fun b2 => Wa rfl (Wr (Ws (O.ld rfl (mem_at 1 rfl) Li ty31 rfl) (Ws (O.ld rfl (mem_at 0 rfl) Li ty31 rfl) (Ws (O.fn fn103 (evs.c rfl (evs.c rfl evs.nil)) (c_ref03_Sub n p q (by assumption) (by assumption) (by assumption))) (Ws (O.fld rfl rfl prt31_0 (Lens.fst Li) rfl) (Ws (O.fn fn88 (evs.l rfl (kC_Z (by exact rD.a.sm (by omega))) evs.nil) (c_ref02_Sign ((rq (p - q)).1))) (Wa rfl (Wn (CW.ret ?_))))))))))
 exact QE.done (.inl rfl) rfl (ResOk.tl rfl (is_eq (y := (rq (p - q)).1.sign) (by rfl)) ResOk.nil) (OImp.sub (List.nil_sublist _)) ⟨rfl, rfl⟩
theorem c_ref05_times (n : Nat) (p : Rat) (z : Int) (hp : RZ n p) (hz : Sz n z) (h1 : 1 ≤ n) (hn : n ≤ 68719476736) : Fn Tryz.prog 187 [kRC.is (rq p), kC.is z] (kRC.is (rq (p * (z : Rat)))) := by
 refine Con.enter Tryz.func187 rfl rfl fun m w => ?_
 have hzq : RZ n (z : Rat) := by obtain ⟨k, rfl⟩ : ∃ k, n = k + 1 := ⟨n - 1, by omega⟩; exact RZ.int hz
 refine Cr (WP.bx .n rfl fun b1 => WP.bx .n rfl fun b2 => WP.al .n z31_pr_C_C_ fun b3 => Wn (CW.seq ?_))
 refine CW.drawM (Γ := [.fr (kRC.is (rq p)), .fr (kC.is z), .fr (kRC.is (rq (z : Rat))), .fr (kRC.is (rq (p * (z : Rat))))]) (of_ rfl (fun N => O.ld rfl (mem_app N (mem_at 2 rfl)) Li ty31 rfl) (of_ rfl (fun N => O.ld rfl (mem_app N (mem_at 1 rfl)) Li ty29 rfl) (of_ rfl (fun N => O.fn fn52 (evs.l rfl (kC_Z (by exact hz.sm (by omega))) evs.nil) (c_ref03_Of z)) (of_ rfl (fun N => O.fn fn104 (evs.c rfl (evs.c rfl evs.nil)) (c_ref03_Mul n p (z : Rat) (by assumption) (by assumption) (by assumption))) oz)))) (fun σ1 => ?_)
 refine WP.t .n (O.stW (l := kRC) (u := rq (p * (z : Rat))) 0 rfl rfl rfl ty31 rfl Lr) (Wn (CW.ret ?_))
 exact QE.done (.inl rfl) rfl (ResOk.c rfl (mem_at 0 rfl) ty31 ResOk.nil) (OImp.sub (List.nil_sublist _)) ⟨rfl, rfl⟩
theorem c_ref05_data (G : Nat → Nat → Int) (n nB : Nat) (hs : SymG G) (hP : PosU G n) (h12 : n ≤ 12) (hD : ∀ k, k ≤ n → Sz nB (uD G k)) (hS : ∀ k, k < n → RZ nB (frS G k)) (hM : ∀ x k, x < n → k < x → RZ nB (frM G x k)) (h1 : 1 ≤ nB) (hB : nB ≤ 34359738368) : Fn Tryz.prog 112 [kFrm.is (frMus (G) n, frSts (G) n)] (kGso.is (gDs (G) n, gLs (G) n)) := by
 refine Con.enter Tryz.func112 rfl rfl fun m w => ?_
 have hfl := frSts_len G n
 refine Cr (WP.bx .n rfl fun b1 => WP.al .n z25_pr_sl_C_sl_sl_C_ fun b2 => Wr (WP.al .n z25_pr_val_val_ fun b3 => Wr (Ws (O.fn fn77 (evs.l rfl (i64_int (by omega)) evs.nil) (c_ref02_Of 1)) (WP.al .n z29_C fun b4 => WP.t .n (O.stW (l := kC) (u := 1) 0 rfl rfl rfl ty29 rfl Lr) (Wn (CW.seq (ST.nilrow 29 kC (CW.region (Ws (O.fa rfl fld25_0 rfl) (Ws (OpOk.le (O.ld (p := kVal.is (.slice none 0 0)) rfl (mem_at 2 rfl) (Lens.fst Li) ty23 rfl) (val_ex _)) (Ws (O.ld rfl (mem_at 1 rfl) Li ty29 rfl) ?_)))))))))))
 refine Ws (O.bs U23 el29_C (evl.c rfl evl.n) rfl (by decide)) (WP.ap 0 .n rfl rfl rfl Lr U23 el29_C (by simp only [frRow_len, frMus_len, frSts_len, gRow_len, gDs_len, gLs_len, List.length_cons, List.length_nil]; omega) fun v5 => Ws (O.fa rfl fld25_0 rfl) (ST.rowcell 0 rfl fun hcell_ => WP.t .n (O.st 2 rfl rfl (Lens.fst Li) ty23 rfl (ex_val (by assumption))) (Wn (CW.seq (CW.seq (ST.nilrow 23 kVC (CW.region (Wa rfl (Wn (CW.block (CW.loop3 (fun (i : Nat) (vD : Value) (vL : Value) => i ≤ n) (fun (i : Nat) (vD : Value) (vL : Value) => [(1, VP.pt b1 0), (2, VP.pt b2 0), (3, VP.pt b3 0), (4, VP.pt b4 0), (5, kN6.is (i : Int))]) (fun (i : Nat) (vD : Value) (vL : Value) => [OB.row vL 23 kVC (gLs G i), OB.row vD 29 kC (gDs G i), OB.box b4 29 kC (uD G i), OB.box b3 25 (kPair kVal kVal) (vD, vL), OB.box b2 25 kGso ([], []), OB.box b1 150 kFrm (frMus (G) n, frSts (G) n)]) (fun (i : Nat) (vD : Value) (vL : Value) => n - i) 0 v5 (.slice none 0 0) (Nat.zero_le _) (Imp.c4 rfl rfl rfl rfl (Imp.consLe rfl (is_eq (y := (0 : Int)) (by rfl)) Imp.nil)) (OImp.os (OS.keepLe (OB.row_eq (by rfl)) (OS.keepLe (OB.row_eq (by rfl)) (OS.keepLe (OB.box_eq (by rfl)) (OS.keep (OS.keep (OS.keep OS.nil))))))) ?_)))))))))))
 intro i vD vL hi
 refine CW.seq (Cr (Wm rfl (Ws (O.fa rfl fld150_1 rfl) (Ws (O.ld (p := (kSl kRC).is (frSts (G) n)) rfl (mem_at 5 rfl) (Lens.snd Li) ty26 rfl) (Ws (O.lenS rfl U26) (Ws (O.lt rfl rfl) (Wn ?_)))))))
 refine CW.condD rfl (fun h_t19 => ?_) (fun h_t19 => ?_)
 ·
  refine CW.skip (QE.next (CW.seq (CW.block (Cr (Wa rfl (Wn (CW.seq (Cr (Wa rfl (Wn (CW.block (ST.nilrow 29 kC (CW.loop2 (fun (j : Nat) (v : Value) => j ≤ i) (fun (j : Nat) (v : Value) => [(1, VP.pt b1 0), (2, VP.pt b2 0), (3, VP.pt b3 0), (4, VP.pt b4 0), (5, kN6.is (i : Int)), (6, VP.ex v), (7, kN6.is (j : Int))]) (fun (j : Nat) (v : Value) => [OB.row v 29 kC (gRow G i j), OB.row vL 23 kVC (gLs G i), OB.row vD 29 kC (gDs G i), OB.box b4 29 kC (uD G i), OB.box b3 25 (kPair kVal kVal) (vD, vL), OB.box b2 25 kGso ([], []), OB.box b1 150 kFrm (frMus (G) n, frSts (G) n)]) (fun (j : Nat) (v : Value) => i - j) 0 (.slice none 0 0) (by omega) (Imp.c4 rfl rfl rfl rfl (Imp.cons rfl (Imp.cons rfl (Imp.consLe rfl (is_eq (y := (0 : Int)) (by rfl)) Imp.nil)))) (OImp.os (OS.keepLe (OB.row_eq (by rfl)) (OS.keep (OS.keep (OS.keep (OS.keep (OS.keep (OS.keep OS.nil)))))))) ?_)))))))))))))
  intro j v hj
  refine CW.seq (Cr (Wm rfl (Wm rfl (Ws (O.lt rfl rfl) (Wn ?_)))))
  refine CW.condD rfl (fun h_t24 => ?_) (fun h_t24 => ?_)
  ·
   refine CW.skip (QE.next (CW.seq (CW.block ?_)))
   refine CW.drawM (Γ := [.fr (VP.ex v), .fr (VP.pt b1 0), .fr ((kSl (kSl kRC)).is (frMus (G) n)), .fr (kN6.is (i : Int)), .fr (VP.pim (kSl kRC) ((frMus (G) n).getD i [])), .fr ((kSl kRC).is ((frMus (G) n).getD i [])), .fr (kN6.is (j : Int)), .fr (VP.pim kRC (rq (frM G i j))), .fr (kRC.is (rq (frM G i j))), .fr (VP.pt b3 0), .fr (VP.ex vD), .fr (kN6.is (j : Int)), .fr (kN6.is ((j : Int) + 1)), .fr (VP.pel vD ((j + 1) * 2)), .fr (kC.is (uD G (j + 1))), .fr (kRC.is (rq ((frM G i j) * ((uD G (j + 1)) : Rat)))), .fr (kC.is (floorQ (frM G i j * (uD G (j + 1) : Rat)))), .fr (kVC.is [floorQ (frM G i j * (uD G (j + 1) : Rat))])]) (om rfl rfl (of_ rfl (fun N => O.fa rfl fld150_0 rfl) (of_ rfl (fun N => O.ld (p := (kSl (kSl kRC)).is (frMus (G) n)) rfl (mem_app N (mem_at 6 rfl)) (Lens.fst Li) ty148 rfl) (om rfl rfl (of_ rfl (fun N => O.ix i rfl rfl U148 ty26 rfl (v := ((frMus (G) n).getD i [])) (gd [] (by simp only [frRow_len, frMus_len, frSts_len, gRow_len, gDs_len, gLs_len]; omega))) (of_ rfl (fun N => O.ldP rfl ty26) (om rfl rfl (of_ rfl (fun N => O.ix j rfl rfl U26 ty31 rfl (v := (rq (frM G i j))) (frMus_at (by omega) (by omega))) (of_ rfl (fun N => O.ldP rfl ty31) (of_ rfl (fun N => O.fa rfl fld25_0 rfl) (of_ rfl (fun N => OpOk.le (O.ld (p := kVal.is vD) rfl (mem_app N (mem_at 4 rfl)) (Lens.fst Li) ty23 rfl) (val_ex _)) (om rfl rfl (of_ rfl (fun N => O.add rfl rfl (c := ((j : Int) + 1)) (w64 (by omega))) (of_ rfl (fun N => O.ixR (k := kC) (xs := (gDs G i)) (n := ((j : Int) + 1)) (j + 1) rfl rfl (mem_app N (mem_at 2 rfl)) U23 ty29 (by omega) (by simp only [frRow_len, frMus_len, frSts_len, gRow_len, gDs_len, gLs_len]; omega)) (of_ rfl (fun N => O.ldR (k := kC) (xs := (gDs G i)) (j + 1) rfl (mem_app N (mem_at 2 rfl)) Li (ho := rfl) (y := (uD G (j + 1))) (gDs_at (by omega)) ty29 rfl) (of_ rfl (fun N => O.fn fn187 (evs.c rfl (evs.c rfl evs.nil)) (c_ref05_times nB (frM G i j) (uD G (j + 1)) (hM i j (by omega) (by omega)) (hD (j + 1) (by omega)) (by assumption) (by omega))) (of_ rfl (fun N => O.fn fn159 (evs.l rfl (is_eq (y := rq (frM G i j * (uD G (j + 1) : Rat))) (by rfl)) evs.nil) (c_ref03_Floor (nB + nB) (frM G i j * (uD G (j + 1) : Rat)) ((hM i j (by omega) (by omega)).mul (RZ_int h1 (hD (j + 1) (by omega)))) (by omega))) (of_ rfl (fun N => O.bs U23 el29_C (evl.c rfl evl.n) rfl (by decide)) oz)))))))))))))))))) (fun σ1 => ?_)
   refine WP.ap 0 .n rfl rfl rfl Lr U23 el29_C (by simp only [frRow_len, frMus_len, frSts_len, gRow_len, gDs_len, gLs_len, List.length_cons, List.length_nil]; omega) fun v6 => Wa rfl (WP.nil (QE.blkN (QE.next (CW.region (Wm rfl (Ws (O.add rfl rfl (c := ((j : Int) + 1)) (w64 (by omega))) (Wa rfl (WP.nil (ST.obtold 0 rfl (OB.row_eq (ys := (gRow G i (j + 1))) (by rw [data_L hs hP (by omega) (by omega)]; exact gRow_app G i j)) ?_)))))))))
   exact QE.round2 (j + 1) v6 (by omega) (by omega) (Imp.c4 rfl rfl rfl rfl (Imp.cons rfl (Imp.cons rfl (Imp.consLe rfl (is_eq (y := (((j + 1) : Nat) : Int)) (by rfl)) Imp.nil)))) (OImp.refl _)
  ·
   refine CW.exit (QE.thenE (QE.thenE (QE.blkH (QE.next (CW.seq (ST.obtold 0 rfl (OB.row_eq (ys := (gRow G i i)) (by rw [show j = i by omega])) (ST.freeze 0 rfl (kp 1 rfl (kp 2 rfl (kp 3 rfl (kp 4 rfl (kp 5 rfl (.hit (i := 6) rfl (kp 7 rfl (kp 22 rfl (kp 23 rfl (kp 24 rfl .nil)))))))))) (CW.region (Ws (O.fa rfl fld25_1 rfl) (Ws (OpOk.le (O.ld (p := kVal.is vL) rfl (mem_at 3 rfl) (Lens.snd Li) ty22 rfl) (val_ex _)) (Wm rfl (Ws (O.bs U22 el23_sl_C (evl.c rfl evl.n) rfl (by decide)) (WP.ap 0 .n rfl rfl rfl Lr U22 el23_sl_C (by simp only [frRow_len, frMus_len, frSts_len, gRow_len, gDs_len, gLs_len, List.length_cons, List.length_nil]; omega) fun v7 => Ws (O.fa rfl fld25_1 rfl) (ST.rowcell 0 rfl fun hcell_ => WP.t .n (O.st 3 rfl rfl (Lens.snd Li) ty22 rfl (ex_val (by assumption))) (Wn (CW.seq ?_))))))))))))))))
   refine CW.drawM (Γ := [.fr (VP.pt b1 1), .fr ((kSl kRC).is (frSts (G) n)), .fr (kN6.is (i : Int)), .fr (VP.pim kRC (rq (frS G i))), .fr (kRC.is (rq (frS G i))), .fr (kC.is (uD G i)), .fr (kRC.is (rq ((frS G i) * ((uD G i) : Rat)))), .fr (kC.is (floorQ (frS G i * (uD G i : Rat))))]) (of_ rfl (fun N => O.fa rfl fld150_1 rfl) (of_ rfl (fun N => O.ld (p := (kSl kRC).is (frSts (G) n)) rfl (mem_app N (mem_at 5 rfl)) (Lens.snd Li) ty26 rfl) (om rfl rfl (of_ rfl (fun N => O.ix i rfl rfl U26 ty31 rfl (v := (rq (frS G i))) (frSts_at (by omega))) (of_ rfl (fun N => O.ldP rfl ty31) (of_ rfl (fun N => O.ld rfl (mem_app N (mem_at 2 rfl)) Li ty29 rfl) (of_ rfl (fun N => O.fn fn187 (evs.c rfl (evs.c rfl evs.nil)) (c_ref05_times nB (frS G i) (uD G i) (hS i (by omega)) (hD i (by omega)) (by assumption) (by omega))) (of_ rfl (fun N => O.fn fn159 (evs.l rfl (is_eq (y := rq (frS G i * (uD G i : Rat))) (by rfl)) evs.nil) (c_ref03_Floor (nB + nB) (frS G i * (uD G i : Rat)) ((hS i (by omega)).mul (RZ_int h1 (hD i (by omega)))) (by omega))) oz)))))))) (fun σ2 => ?_)
   refine WP.t .n (O.stW (l := kC) (u := floorQ (frS G i * (uD G i : Rat))) 2 rfl rfl rfl ty29 rfl Lr) (Wn (ST.obtold 2 rfl (OB.box_eq (y := (uD G (i + 1))) (data_D hs hP (by omega))) (CW.region (Ws (O.fa rfl fld25_0 rfl) (Ws (OpOk.le (O.ld (p := kVal.is vD) rfl (mem_at 3 rfl) (Lens.fst Li) ty23 rfl) (val_ex _)) (Ws (O.ld rfl (mem_at 2 rfl) Li ty29 rfl) (Ws (O.bs U23 el29_C (evl.c rfl evl.n) rfl (by decide)) (WP.ap 1 .n rfl rfl rfl Lr U23 el29_C (by simp only [frRow_len, frMus_len, frSts_len, gRow_len, gDs_len, gLs_len, List.length_cons, List.length_nil]; omega) fun v8 => Ws (O.fa rfl fld25_0 rfl) (ST.rowcell 1 rfl fun hcell_ => WP.t .n (O.st 3 rfl rfl (Lens.fst Li) ty23 rfl (ex_val (by assumption))) (WP.nil (QE.blkN (QE.next (CW.region (Wm rfl (Ws (O.add rfl rfl (c := ((i : Int) + 1)) (w64 (by omega))) (Wa rfl (WP.nil (ST.obtold 1 rfl (OB.row_eq (ys := (gDs G (i + 1))) (gDs_app G i)) (ST.obtold 0 rfl (OB.row_eq (ys := (gLs G (i + 1))) (gLs_app G i)) ?_)))))))))))))))))))
   exact QE.round3 (i + 1) v8 v7 (by omega) (by omega) (Imp.c4 rfl rfl rfl rfl (Imp.consLe rfl (is_eq (y := (((i + 1) : Nat) : Int)) (by rfl)) Imp.nil)) (OImp.refl _)
 ·
  refine CW.exit (QE.thenE (QE.thenE (QE.blkH (QE.next (CW.seq (ST.obtold 1 rfl (OB.row_eq (ys := (gDs G n)) (by rw [show i = n by omega])) (ST.obtold 0 rfl (OB.row_eq (ys := (gLs G n)) (by rw [show i = n by omega])) (ST.freezeIn (k2 := (kPair kVC kVal)) ((gDs G n), vL) 1 2 rfl rfl (fun m_ cs_ h_ c_ => fz_fst m_ cs_ h_ c_) (kp 1 rfl (kp 2 rfl (kp 3 rfl (kp 4 rfl (kp 5 rfl (kp 15 rfl (kp 16 rfl (kp 17 rfl (kp 18 rfl (kp 19 rfl .nil)))))))))) (ST.freezeIn (k2 := kGso) ((gDs G n), (gLs G n)) 0 1 rfl rfl (fun m_ cs_ h_ c_ => fz_snd m_ cs_ h_ c_) (kp 1 rfl (kp 2 rfl (kp 3 rfl (kp 4 rfl (kp 5 rfl (kp 15 rfl (kp 16 rfl (kp 17 rfl (kp 18 rfl (kp 19 rfl .nil)))))))))) (CW.region (Ws (O.ld (p := kGso.is ((gDs G n), (gLs G n))) rfl (mem_at 1 rfl) Li ty25 rfl) (WP.t .n (O.stW (l := kGso) (u := ((gDs G n), (gLs G n))) 2 rfl rfl rfl ty25 rfl Lr) (Wn (CW.ret ?_))))))))))))))
  exact QE.done (.inl rfl) rfl (ResOk.cl rfl (mem_at 2 rfl) ty25 (is_eq (y := (gDs (G) n, gLs (G) n)) (by rfl)) ResOk.nil) (OImp.sub (List.nil_sublist _)) ⟨rfl, rfl⟩
theorem c_ref05_Wide (n : Nat) (b : List (List Int)) (hb : SzM n b) (hn : n ≤ 1048576) (hE : gsoE b false = 0) (hP : PosU (gram b) b.length) (hr : RectL b) (h12 : b.length ≤ 12) (hc : (b.getD 0 []).length ≤ 12) : Fn Tryz.prog 51 [kMZ.is b] (VP.tup [kGso.is (gDs (gram b) b.length, gLs (gram b) b.length), kN6.is 0]) := by
 refine Con.enter Tryz.func51 rfl rfl fun m w => Cr (WP.al .n z25_pr_sl_C_sl_sl_C_ fun b1 => Wa rfl (Wr (Wm rfl (Ws (O.fn fn110 (evs.c rfl (evs.c rfl evs.nil)) (c_ref05_check n b false (fun _ => hb) hn)) (Wm rfl (Ws (O.ext rfl rfl) (Ws (O.ext rfl rfl) (WP.al .n z150_pr_sl_sl_pr_C_C__sl_pr_C_C__ fun b2 => WP.t .n (O.stW (l := kFrm) (u := frR b false) 0 rfl rfl rfl ty150 rfl Lr) (Wa rfl (Wn (CW.seq (CW.seq (ST.obtold 0 rfl (OB.box_eq (y := (frMus (gram b) b.length, frSts (gram b) b.length)) (frR_ok hE hP)) (CW.region (Wm rfl ?_)))))))))))))))
 refine Ws (O.ne rfl rfl) (Wn ?_)
 refine CW.condD rfl (fun h => absurd h (fun h => h hE)) (fun h_t12 => ?_)
 refine CW.skip (QE.next (Cr (Ws (O.ld (p := kFrm.is (frMus (gram b) b.length, frSts (gram b) b.length)) rfl (mem_at 0 rfl) Li ty150 rfl) (Ws (O.fn fn112 (evs.l rfl (is_eq (y := (frMus ((gram b)) b.length, frSts ((gram b)) b.length)) (by rfl)) evs.nil) (c_ref05_data (gram b) b.length 8590000128 (gram_symG hr) hP h12 ((wide_sz hb hr hc hP h12 hn).1) ((wide_sz hb hr hc hP h12 hn).2.1) ((wide_sz hb hr hc hP h12 hn).2.2) (by decide) (by decide))) (WP.t .n (O.stW (l := kGso) (u := (gDs ((gram b)) b.length, gLs ((gram b)) b.length)) 1 rfl rfl rfl ty25 rfl Lr) (Wa rfl (Wn (CW.ret ?_))))))))
 exact QE.done (.inl rfl) rfl (ResOk.cl rfl (mem_at 1 rfl) ty25 (is_eq (y := (gDs (gram b) b.length, gLs (gram b) b.length)) (by rfl)) (ResOk.t rfl ResOk.nil)) (OImp.sub (List.nil_sublist _)) ⟨rfl, rfl⟩
theorem c_ref05_Makeo (vB : Value) (n : Nat) (b : List (List Int)) (hb : SzM n b) (hr : RectL b) (hl : b.length ≤ 12) (hc : (b.getD 0 []).length ≤ 12) (hn : n ≤ 34359738368) (hPn : PosU (gram b) b.length) (hSn : ∀ k, k < b.length → RZ 8590000128 (frS (gram b) k)) (hMn : ∀ x k, x < b.length → k < x → RZ 8590000128 (frM (gram b) x k)) (hEn : ∀ i k j, i < b.length → k ≤ i → k ≤ j → j ≤ i → RZ 8590000128 (gsE (qG (gram b)) k i j)) : Con Tryz.prog 181 [VP.ex vB] [OB.row vB 23 kVC b] (fun p Lo => p = VP.tup [kFrm.is (frMus (gram b) b.length, frSts (gram b) b.length), kBool.is true] ∧ Lo = [OB.row vB 23 kVC b] ∧ True) := by
 refine Con.enter Tryz.func181 rfl rfl fun m w => ?_
 have hs := gram_symG hr
 have hz : ∀ i j, Sz (n + n + 12) (gram b i j) := fun i j => gram_Sz hb hr hc i j
 refine Cr (WP.al .n z150_pr_sl_sl_pr_C_C__sl_pr_C_C__ fun b1 => Wa rfl (Wr (WP.al .n z150_pr_val_val_ fun b2 => Wn (CW.seq (Cr (Wa rfl (Wn (CW.block (ST.nilrow 31 kRC (ST.nilrow 26 (kSl kRC) (CW.loop3 (fun (i : Nat) (vM : Value) (vS : Value) => i ≤ b.length) (fun (i : Nat) (vM : Value) (vS : Value) => [(0, VP.ex vB), (2, VP.pt b1 0), (3, kBool.is false), (4, VP.pt b2 0), (5, kN6.is (i : Int))]) (fun (i : Nat) (vM : Value) (vS : Value) => [OB.row vM 26 (kSl kRC) (frMus (gram b) i), OB.row vS 31 kRC (frSts (gram b) i), OB.box b2 150 (kPair kVal kVal) (vM, vS), OB.box b1 150 kFrm ([], []), OB.row vB 23 kVC b]) (fun (i : Nat) (vM : Value) (vS : Value) => b.length - i) 0 (.slice none 0 0) (.slice none 0 0) (Nat.zero_le _) (Imp.c4 rfl rfl rfl rfl (Imp.consLe rfl (is_eq (y := (0 : Int)) (by rfl)) Imp.nil)) (OImp.os (OS.keepLe (OB.row_eq (by rfl)) (OS.keepLe (OB.row_eq (by rfl)) (OS.keep (OS.keep (OS.keep OS.nil)))))) ?_)))))))))))
 intro i vM vS hi
 have hP : PosU (gram b) i := hPn.le hi
 refine CW.seq (Cr (Wm rfl (Wm rfl (Ws (O.lenR rfl (mem_at 4 rfl) U22) (Ws (O.lt rfl rfl) (Wn ?_))))))
 refine CW.condD rfl (fun h_t15 => ?_) (fun h_t15 => ?_)
 ·
  refine CW.skip (QE.next (CW.seq (CW.block (Cr (Wa rfl (Wn (CW.seq (Cr (Wa rfl (Wn (CW.block (ST.nilrow 31 kRC ?_))))))))))))
  have hE : ∀ k j, k ≤ i → k ≤ j → j ≤ i → RZ 8590000128 (gsE (qG (gram b)) k i j) := fun k j h1 h2 h3 => hEn i k j (by omega) h1 h2 h3
  have hS : ∀ k, k < i → RZ 8590000128 (frS (gram b) k) := fun k hk => hSn k (by omega)
  have hM : ∀ x k, x < b.length → k < x → RZ 8590000128 (frM (gram b) x k) := hMn
  refine CW.loop2 (fun (j : Nat) (v : Value) => j ≤ i) (fun (j : Nat) (v : Value) => [(0, VP.ex vB), (2, VP.pt b1 0), (3, kBool.is false), (4, VP.pt b2 0), (5, kN6.is (i : Int)), (6, VP.ex v), (7, kN6.is (j : Int))]) (fun (j : Nat) (v : Value) => [OB.row v 31 kRC (frRow (gram b) i j), OB.row vM 26 (kSl kRC) (frMus (gram b) i), OB.row vS 31 kRC (frSts (gram b) i), OB.box b2 150 (kPair kVal kVal) (vM, vS), OB.box b1 150 kFrm ([], []), OB.row vB 23 kVC b]) (fun (j : Nat) (v : Value) => i - j) 0 (.slice none 0 0) (by omega) (Imp.c4 rfl rfl rfl rfl (Imp.cons rfl (Imp.cons rfl (Imp.consLe rfl (is_eq (y := (0 : Int)) (by rfl)) Imp.nil)))) (OImp.os (OS.keepLe (OB.row_eq (by rfl)) (OS.keep (OS.keep (OS.keep (OS.keep (OS.keep OS.nil))))))) ?_
  intro j v hj
  refine CW.seq (Cr (Wm rfl (Wm rfl (Ws (O.lt rfl rfl) (Wn ?_)))))
  refine CW.condD rfl (fun h_t20 => ?_) (fun h_t20 => ?_)
  ·
   refine CW.skip (QE.next (CW.seq (CW.block (CW.seq ?_))))
   refine CW.drawM (Γ := [.fr (VP.ex vB), .fr (kN6.is (i : Int)), .fr (VP.pel vB (i * 1)), .fr (kVC.is (b.getD i [])), .fr (VP.ex vB), .fr (kN6.is (j : Int)), .fr (VP.pel vB (j * 1)), .fr (kVC.is (b.getD j [])), .fr (kC.is (dotV (b.getD i []) (b.getD j []))), .fr (kRC.is (rq (gsE (qG (gram b)) 0 i j))), .al (fun b => OB.box b 31 kRC (0, 0))]) (om rfl rfl (om rfl rfl (of_ rfl (fun N => O.ixR (k := kVC) (xs := b) (n := (i : Int)) i rfl rfl (mem_app N (mem_at 5 rfl)) U22 ty23 rfl (by omega)) (of_ rfl (fun N => O.ldR i rfl (mem_app N (mem_at 5 rfl)) Li rfl (y := (b.getD i [])) (gd [] (by omega)) ty23 rfl) (om rfl rfl (om rfl rfl (of_ rfl (fun N => O.ixR (k := kVC) (xs := b) (n := (j : Int)) j rfl rfl (mem_app N (mem_at 5 rfl)) U22 ty23 rfl (by omega)) (of_ rfl (fun N => O.ldR j rfl (mem_app N (mem_at 5 rfl)) Li rfl (y := (b.getD j [])) (gd [] (by omega)) ty23 rfl) (of_ rfl (fun N => O.fn fn238 (evs.l rfl (slC_Z ((hb i).sm (by omega))) (evs.l rfl (slC_Z ((hb j).sm (by omega))) evs.nil)) (c_ref05_Dot n (b.getD i []) (b.getD j []) (hb i) (hb j) (by have := row_le hr hc i; omega) (by rw [hr i (by omega), hr j (by omega)]; exact Nat.le_refl _))) (of_ rfl (fun N => OpOk.le (O.fn fn52 (evs.l rfl (kC_Z ((hz i j).sm (by omega))) evs.nil) (c_ref03_Of (dotV (b.getD i []) (b.getD j [])))) (is_eq rfl)) (oc (Ob.a rfl z31_pr_C_C_) oz))))))))))) (fun σ1 => ?_)
   refine WP.t .n (O.stW (l := kRC) (u := rq (gsE (qG (gram b)) 0 i j)) 0 rfl rfl rfl ty31 rfl Lr) (Wn (CW.seq (Cr (Wa rfl (Wn (CW.block (CW.loop2 (fun (k : Nat) (p : Nat) => k ≤ j) (fun (k : Nat) (p : Nat) => [(0, VP.ex vB), (2, VP.pt b1 0), (3, kBool.is false), (4, VP.pt b2 0), (5, kN6.is (i : Int)), (6, VP.ex v), (7, kN6.is (j : Int)), (8, VP.pt p 0), (9, kN6.is (k : Int))]) (fun (k : Nat) (p : Nat) => [OB.box p 31 kRC (rq (gsE (qG (gram b)) k i j)), OB.row v 31 kRC (frRow (gram b) i j), OB.row vM 26 (kSl kRC) (frMus (gram b) i), OB.row vS 31 kRC (frSts (gram b) i), OB.box b2 150 (kPair kVal kVal) (vM, vS), OB.box b1 150 kFrm ([], []), OB.row vB 23 kVC b]) (fun (k : Nat) (p : Nat) => j - k) 0 (σ1 10) (by omega) (Imp.c4 rfl rfl rfl rfl (Imp.c4 rfl rfl rfl rfl (Imp.consLe rfl (is_eq (y := (0 : Int)) (by rfl)) Imp.nil))) (OImp.refl _) ?_)))))))
   intro k p hk
   refine CW.seq (Cr (Wm rfl (Wm rfl (Ws (O.lt rfl rfl) (Wn ?_)))))
   refine CW.condD rfl (fun h_t35 => ?_) (fun h_t35 => ?_)
   ·
    refine CW.skip (QE.next (CW.seq (CW.block ?_)))
    refine CW.drawM (Γ := [.fr (kRC.is (rq (gsE (qG (gram b)) k i j))), .fr (VP.pt b2 0), .fr (VP.ex vM), .fr (kN6.is (j : Int)), .fr (VP.pel vM (j * 1)), .fr ((kSl kRC).is ((frMus (gram b) i).getD j [])), .fr (kN6.is (k : Int)), .fr (VP.pim kRC (rq (frM (gram b) j k))), .fr (kRC.is (rq (frM (gram b) j k))), .fr (VP.ex v), .fr (kN6.is (k : Int)), .fr (VP.pel v (k * 4)), .fr (kRC.is (rq (frM (gram b) i k))), .fr (kRC.is (rq ((frM (gram b) j k) * (frM (gram b) i k)))), .fr (VP.pt b2 1), .fr (VP.ex vS), .fr (kN6.is (k : Int)), .fr (VP.pel vS (k * 4)), .fr (kRC.is (rq (frS (gram b) k))), .fr (kRC.is (rq ((frM (gram b) j k * frM (gram b) i k) * (frS (gram b) k)))), .fr (kRC.is (rq ((gsE (qG (gram b)) k i j) - (frM (gram b) j k * frM (gram b) i k * frS (gram b) k))))]) (of_ rfl (fun N => O.ld rfl (mem_app N (mem_at 0 rfl)) Li ty31 rfl) (of_ rfl (fun N => O.fa rfl fld150_0 rfl) (of_ rfl (fun N => OpOk.le (O.ld (p := kVal.is vM) rfl (mem_app N (mem_at 4 rfl)) (Lens.fst Li) ty148 rfl) (val_ex _)) (om rfl rfl (of_ rfl (fun N => O.ixR (k := (kSl kRC)) (xs := (frMus (gram b) i)) (n := (j : Int)) j rfl rfl (mem_app N (mem_at 2 rfl)) U148 ty26 rfl (by simp only [frRow_len, frMus_len, frSts_len]; omega)) (of_ rfl (fun N => O.ldR j rfl (mem_app N (mem_at 2 rfl)) Li rfl (y := ((frMus (gram b) i).getD j [])) (gd [] (by simp only [frRow_len, frMus_len, frSts_len]; omega)) ty26 rfl) (om rfl rfl (of_ rfl (fun N => O.ix k rfl rfl U26 ty31 rfl (v := (rq (frM (gram b) j k))) (frMus_at (by omega) (by omega))) (of_ rfl (fun N => O.ldP rfl ty31) (om rfl rfl (om rfl rfl (of_ rfl (fun N => O.ixR (k := kRC) (xs := (frRow (gram b) i j)) (n := (k : Int)) k rfl rfl (mem_app N (mem_at 1 rfl)) U26 ty31 rfl (by simp only [frRow_len, frMus_len, frSts_len]; omega)) (of_ rfl (fun N => O.ldR (k := kRC) (xs := (frRow (gram b) i j)) k rfl (mem_app N (mem_at 1 rfl)) Li (ho := rfl) (y := (rq (frM (gram b) i k))) (frRow_at (by omega)) ty31 rfl) (of_ rfl (fun N => O.fn fn104 (evs.c rfl (evs.c rfl evs.nil)) (c_ref03_Mul 8590000128 (frM (gram b) j k) (frM (gram b) i k) (hM j k (by omega) (by omega)) (hM i k (by omega) (by omega)) (by omega))) (of_ rfl (fun N => O.fa rfl fld150_1 rfl) (of_ rfl (fun N => OpOk.le (O.ld (p := kVal.is vS) rfl (mem_app N (mem_at 4 rfl)) (Lens.snd Li) ty26 rfl) (val_ex _)) (om rfl rfl (of_ rfl (fun N => O.ixR (k := kRC) (xs := (frSts (gram b) i)) (n := (k : Int)) k rfl rfl (mem_app N (mem_at 3 rfl)) U26 ty31 rfl (by simp only [frRow_len, frMus_len, frSts_len]; omega)) (of_ rfl (fun N => O.ldR (k := kRC) (xs := (frSts (gram b) i)) k rfl (mem_app N (mem_at 3 rfl)) Li (ho := rfl) (y := (rq (frS (gram b) k))) (frSts_at (by omega)) ty31 rfl) (of_ rfl (fun N => O.fn fn104 (evs.l rfl (is_eq (y := rq (frM (gram b) j k * frM (gram b) i k)) (by rfl)) (evs.c rfl evs.nil)) (c_ref03_Mul 17180000256 (frM (gram b) j k * frM (gram b) i k) (frS (gram b) k) ((hM j k (by omega) (by omega)).mul (hM i k (by omega) (by omega))) ((hS k (by omega)).up (by omega)) (by omega))) (of_ rfl (fun N => O.fn fn103 (evs.c rfl (evs.l rfl (is_eq (y := rq (frM (gram b) j k * frM (gram b) i k * frS (gram b) k)) (by rfl)) evs.nil)) (c_ref03_Sub 25770000384 (gsE (qG (gram b)) k i j) (frM (gram b) j k * frM (gram b) i k * frS (gram b) k) ((hE k j (by omega) (by omega) (by omega)).up (by omega)) (((hM j k (by omega) (by omega)).mul (hM i k (by omega) (by omega))).mul (hS k (by omega))) (by omega))) oz))))))))))))))))))))) (fun σ2 => ?_)
    refine WP.t .n (O.stW (l := kRC) (u := rq ((gsE (qG (gram b)) k i j) - (frM (gram b) j k * frM (gram b) i k * frS (gram b) k))) 0 rfl rfl rfl ty31 rfl Lr) (WP.nil (QE.blkN (QE.next (CW.region (Wm rfl (Ws (O.add rfl rfl (c := ((k : Int) + 1)) (w64 (by omega))) (Wa rfl (WP.nil (ST.obtold 0 rfl (OB.box_eq (y := (rq (gsE (qG (gram b)) (k + 1) i j))) (by rw [fr_step hs (hP.le (by omega))])) ?_)))))))))
    exact QE.round2 (k + 1) p (by omega) (by omega) (Imp.c4 rfl rfl rfl rfl (Imp.c4 rfl rfl rfl rfl (Imp.consLe rfl (is_eq (y := (((k + 1) : Nat) : Int)) (by rfl)) Imp.nil))) (OImp.refl _)
   ·
    refine CW.exit (QE.thenE (QE.thenE (QE.blkH (QE.next (ST.obtold 0 rfl (OB.box_eq (y := (rq (gsE (qG (gram b)) j i j))) (by rw [show k = j by omega])) ?_)))))
    refine CW.drawM (Γ := [.fr (VP.ex v), .fr (kRC.is (rq (gsE (qG (gram b)) j i j))), .fr (VP.pt b2 1), .fr (VP.ex vS), .fr (kN6.is (j : Int)), .fr (VP.pel vS (j * 4)), .fr (kRC.is (rq (frS (gram b) j))), .fr (kRC.is (rq ((gsE (qG (gram b)) j i j) / (frS (gram b) j)))), .fr ((kSl kRC).is [rq ((gsE (qG (gram b)) j i j) / (frS (gram b) j))])]) (om rfl rfl (of_ rfl (fun N => O.ld rfl (mem_app N (mem_at 0 rfl)) Li ty31 rfl) (of_ rfl (fun N => O.fa rfl fld150_1 rfl) (of_ rfl (fun N => OpOk.le (O.ld (p := kVal.is vS) rfl (mem_app N (mem_at 4 rfl)) (Lens.snd Li) ty26 rfl) (val_ex _)) (om rfl rfl (of_ rfl (fun N => O.ixR (k := kRC) (xs := (frSts (gram b) i)) (n := (j : Int)) j rfl rfl (mem_app N (mem_at 3 rfl)) U26 ty31 rfl (by simp only [frRow_len, frMus_len, frSts_len]; omega)) (of_ rfl (fun N => O.ldR (k := kRC) (xs := (frSts (gram b) i)) j rfl (mem_app N (mem_at 3 rfl)) Li (ho := rfl) (y := (rq (frS (gram b) j))) (frSts_at (by omega)) ty31 rfl) (of_ rfl (fun N => O.fn fn76 (evs.c rfl (evs.c rfl evs.nil)) (c_ref03_Div 8590000128 (gsE (qG (gram b)) j i j) (frS (gram b) j) (hE j j (by omega) (by omega) (by omega)) (hS j (by omega)) (by omega) (frS_ne hs (hP.le (by omega))))) (of_ rfl (fun N => O.bs U26 el31_pr_C_C_ (evl.c rfl evl.n) rfl (by decide)) oz))))))))) (fun σ3 => ?_)
    refine WP.ap 1 .n rfl rfl rfl Lr U26 el31_pr_C_C_ (by simp only [frRow_len, frMus_len, frSts_len, List.length_cons, List.length_nil]; omega) fun v3 => Wa rfl (WP.nil (QE.blkN (QE.next (CW.region (Wm rfl (Ws (O.add rfl rfl (c := ((j : Int) + 1)) (w64 (by omega))) (Wa rfl (WP.nil (ST.obtold 1 rfl (OB.row_eq (ys := (frRow (gram b) i (j + 1))) (frRow_app (gram b) i j)) ?_)))))))))
    exact QE.round2 (j + 1) v3 (by omega) (by omega) (Imp.c4 rfl rfl rfl rfl (Imp.cons rfl (Imp.cons rfl (Imp.consLe rfl (is_eq (y := (((j + 1) : Nat) : Int)) (by rfl)) Imp.nil)))) (OImp.os (OS.skip (OS.keep (OS.keep (OS.keep (OS.keep (OS.keep (OS.keep OS.nil))))))))
  ·
   refine CW.exit (QE.thenE (QE.thenE (QE.blkH (QE.next (CW.seq (ST.obtold 0 rfl (OB.row_eq (ys := (frRow (gram b) i i)) (by rw [show j = i by omega])) ?_))))))
   refine CW.drawM (Γ := [.fr (VP.ex vB), .fr (kN6.is (i : Int)), .fr (VP.pel vB (i * 1)), .fr (kVC.is (b.getD i [])), .fr (VP.ex vB), .fr (kN6.is (i : Int)), .fr (VP.pel vB (i * 1)), .fr (kVC.is (b.getD i [])), .fr (kC.is (dotV (b.getD i []) (b.getD i []))), .fr (kRC.is (rq (gsE (qG (gram b)) 0 i i))), .al (fun b => OB.box b 31 kRC (0, 0))]) (om rfl rfl (om rfl rfl (of_ rfl (fun N => O.ixR (k := kVC) (xs := b) (n := (i : Int)) i rfl rfl (mem_app N (mem_at 5 rfl)) U22 ty23 rfl (by omega)) (of_ rfl (fun N => O.ldR i rfl (mem_app N (mem_at 5 rfl)) Li rfl (y := (b.getD i [])) (gd [] (by omega)) ty23 rfl) (om rfl rfl (om rfl rfl (of_ rfl (fun N => O.ixR (k := kVC) (xs := b) (n := (i : Int)) i rfl rfl (mem_app N (mem_at 5 rfl)) U22 ty23 rfl (by omega)) (of_ rfl (fun N => O.ldR i rfl (mem_app N (mem_at 5 rfl)) Li rfl (y := (b.getD i [])) (gd [] (by omega)) ty23 rfl) (of_ rfl (fun N => O.fn fn238 (evs.l rfl (slC_Z ((hb i).sm (by omega))) (evs.l rfl (slC_Z ((hb i).sm (by omega))) evs.nil)) (c_ref05_Dot n (b.getD i []) (b.getD i []) (hb i) (hb i) (by have := row_le hr hc i; omega) (Nat.le_refl _))) (of_ rfl (fun N => OpOk.le (O.fn fn52 (evs.l rfl (kC_Z ((hz i i).sm (by omega))) evs.nil) (c_ref03_Of (dotV (b.getD i []) (b.getD i [])))) (is_eq rfl)) (oc (Ob.a rfl z31_pr_C_C_) oz))))))))))) (fun σ4 => ?_)
   refine WP.t .n (O.stW (l := kRC) (u := rq (gsE (qG (gram b)) 0 i i)) 0 rfl rfl rfl ty31 rfl Lr) (Wn (CW.seq (Cr (Wa rfl (Wn (CW.block (CW.loop2 (fun (l : Nat) (p : Nat) => l ≤ i) (fun (l : Nat) (p : Nat) => [(0, VP.ex vB), (2, VP.pt b1 0), (3, kBool.is false), (4, VP.pt b2 0), (5, kN6.is (i : Int)), (6, VP.ex v), (10, VP.pt p 0), (11, kN6.is (l : Int))]) (fun (l : Nat) (p : Nat) => [OB.box p 31 kRC (rq (gsE (qG (gram b)) l i i)), OB.row v 31 kRC (frRow (gram b) i i), OB.row vM 26 (kSl kRC) (frMus (gram b) i), OB.row vS 31 kRC (frSts (gram b) i), OB.box b2 150 (kPair kVal kVal) (vM, vS), OB.box b1 150 kFrm ([], []), OB.row vB 23 kVC b]) (fun (l : Nat) (p : Nat) => i - l) 0 (σ4 10) (by omega) (Imp.c4 rfl rfl rfl rfl (Imp.cons rfl (Imp.cons rfl (Imp.cons rfl (Imp.consLe rfl (is_eq (y := (0 : Int)) (by rfl)) Imp.nil))))) (OImp.refl _) ?_)))))))
   intro l p hl2
   refine CW.seq (Cr (Wm rfl (Wm rfl (Ws (O.lt rfl rfl) (Wn ?_)))))
   refine CW.condD rfl (fun h_t81 => ?_) (fun h_t81 => ?_)
   ·
    refine CW.skip (QE.next (CW.seq (CW.block ?_)))
    refine CW.drawM (Γ := [.fr (kRC.is (rq (gsE (qG (gram b)) l i i))), .fr (VP.ex v), .fr (kN6.is (l : Int)), .fr (VP.pel v (l * 4)), .fr (kRC.is (rq (frM (gram b) i l))), .fr (kRC.is (rq ((frM (gram b) i l) * (frM (gram b) i l)))), .fr (VP.pt b2 1), .fr (VP.ex vS), .fr (kN6.is (l : Int)), .fr (VP.pel vS (l * 4)), .fr (kRC.is (rq (frS (gram b) l))), .fr (kRC.is (rq ((frM (gram b) i l * frM (gram b) i l) * (frS (gram b) l)))), .fr (kRC.is (rq ((gsE (qG (gram b)) l i i) - (frM (gram b) i l * frM (gram b) i l * frS (gram b) l))))]) (of_ rfl (fun N => O.ld rfl (mem_app N (mem_at 0 rfl)) Li ty31 rfl) (om rfl rfl (om rfl rfl (of_ rfl (fun N => O.ixR (k := kRC) (xs := (frRow (gram b) i i)) (n := (l : Int)) l rfl rfl (mem_app N (mem_at 1 rfl)) U26 ty31 rfl (by simp only [frRow_len, frMus_len, frSts_len]; omega)) (of_ rfl (fun N => O.ldR (k := kRC) (xs := (frRow (gram b) i i)) l rfl (mem_app N (mem_at 1 rfl)) Li (ho := rfl) (y := (rq (frM (gram b) i l))) (frRow_at (by omega)) ty31 rfl) (of_ rfl (fun N => O.fn fn239 (evs.c rfl evs.nil) (c_ref05_square 8590000128 (frM (gram b) i l) (hM i l (by omega) (by omega)) (by omega))) (of_ rfl (fun N => O.fa rfl fld150_1 rfl) (of_ rfl (fun N => OpOk.le (O.ld (p := kVal.is vS) rfl (mem_app N (mem_at 4 rfl)) (Lens.snd Li) ty26 rfl) (val_ex _)) (om rfl rfl (of_ rfl (fun N => O.ixR (k := kRC) (xs := (frSts (gram b) i)) (n := (l : Int)) l rfl rfl (mem_app N (mem_at 3 rfl)) U26 ty31 rfl (by simp only [frRow_len, frMus_len, frSts_len]; omega)) (of_ rfl (fun N => O.ldR (k := kRC) (xs := (frSts (gram b) i)) l rfl (mem_app N (mem_at 3 rfl)) Li (ho := rfl) (y := (rq (frS (gram b) l))) (frSts_at (by omega)) ty31 rfl) (of_ rfl (fun N => O.fn fn104 (evs.l rfl (is_eq (y := rq (frM (gram b) i l * frM (gram b) i l)) (by rfl)) (evs.c rfl evs.nil)) (c_ref03_Mul 17180000256 (frM (gram b) i l * frM (gram b) i l) (frS (gram b) l) ((hM i l (by omega) (by omega)).mul (hM i l (by omega) (by omega))) ((hS l (by omega)).up (by omega)) (by omega))) (of_ rfl (fun N => O.fn fn103 (evs.c rfl (evs.l rfl (is_eq (y := rq (frM (gram b) i l * frM (gram b) i l * frS (gram b) l)) (by rfl)) evs.nil)) (c_ref03_Sub 25770000384 (gsE (qG (gram b)) l i i) (frM (gram b) i l * frM (gram b) i l * frS (gram b) l) ((hE l i (by omega) (by omega) (by omega)).up (by omega)) (((hM i l (by omega) (by omega)).mul (hM i l (by omega) (by omega))).mul (hS l (by omega))) (by omega))) oz))))))))))))) (fun σ5 => ?_)
    refine WP.t .n (O.stW (l := kRC) (u := rq ((gsE (qG (gram b)) l i i) - (frM (gram b) i l * frM (gram b) i l * frS (gram b) l))) 0 rfl rfl rfl ty31 rfl Lr) (WP.nil (QE.blkN (QE.next (CW.region (Wm rfl (Ws (O.add rfl rfl (c := ((l : Int) + 1)) (w64 (by omega))) (Wa rfl (WP.nil (ST.obtold 0 rfl (OB.box_eq (y := (rq (gsE (qG (gram b)) (l + 1) i i))) (by rw [fr_step hs (hP.le (by omega))])) ?_)))))))))
    exact QE.round2 (l + 1) p (by omega) (by omega) (Imp.c4 rfl rfl rfl rfl (Imp.cons rfl (Imp.cons rfl (Imp.cons rfl (Imp.consLe rfl (is_eq (y := (((l + 1) : Nat) : Int)) (by rfl)) Imp.nil))))) (OImp.refl _)
   ·
    refine CW.exit (QE.thenE (QE.thenE (QE.blkH (QE.next (CW.seq (CW.seq ?_))))))
    have hSi : RZ 8590000128 (frS (gram b) i) := hSn i (by omega)
    refine ST.obtold 0 rfl (OB.box_eq (y := (rq (frS (gram b) i))) (by rw [show l = i by omega]; rfl)) (CW.region (Ws (O.fa rfl fld31_0 rfl) (Ws (O.ld rfl (mem_at 0 rfl) (Lens.fst Li) ty29 rfl) (Ws (O.fn fn88 (evs.l rfl (kC_Z (hSi.a.sm (by omega))) evs.nil) (c_ref02_Sign ((rq (frS (gram b) i)).1))) (Ws (O.le rfl rfl) (Wn ?_))))))
    refine CW.condD rfl (fun h => absurd h (fun h => (frS_sgn hs hP).1 h (hPn i (by omega)))) (fun h_t100 => ?_)
    refine CW.skip (QE.next (CW.seq (ST.freeze 1 rfl (kp 0 rfl (kp 2 rfl (kp 3 rfl (kp 4 rfl (kp 5 rfl (.hit (i := 6) rfl (kp 10 rfl (kp 11 rfl (kp 79 rfl (kp 80 rfl (kp 81 rfl (kp 97 rfl (kp 98 rfl (kp 99 rfl (kp 100 rfl .nil))))))))))))))) (CW.region (Ws (O.fa rfl fld150_0 rfl) (Ws (OpOk.le (O.ld (p := kVal.is vM) rfl (mem_at 3 rfl) (Lens.fst Li) ty148 rfl) (val_ex _)) (Wm rfl (Ws (O.bs U148 el26_sl_pr_C_C_ (evl.c rfl evl.n) rfl (by decide)) (WP.ap 1 .n rfl rfl rfl Lr U148 el26_sl_pr_C_C_ (by simp only [frRow_len, frMus_len, frSts_len, List.length_cons, List.length_nil]; omega) fun v4 => Ws (O.fa rfl fld150_0 rfl) (ST.rowcell 1 rfl fun hcell_ => WP.t .n (O.st 3 rfl rfl (Lens.fst Li) ty148 rfl (ex_val (by assumption))) (Wn (CW.region (Ws (O.fa rfl fld150_1 rfl) (Ws (OpOk.le (O.ld (p := kVal.is vS) rfl (mem_at 3 rfl) (Lens.snd Li) ty26 rfl) (val_ex _)) (Ws (O.ld rfl (mem_at 0 rfl) Li ty31 rfl) (Ws (O.bs U26 el31_pr_C_C_ (evl.c rfl evl.n) rfl (by decide)) (WP.ap 2 .n rfl rfl rfl Lr U26 el31_pr_C_C_ (by simp only [frRow_len, frMus_len, frSts_len, List.length_cons, List.length_nil]; omega) fun v5 => Ws (O.fa rfl fld150_1 rfl) (ST.rowcell 2 rfl fun hcell_ => WP.t .n (O.st 3 rfl rfl (Lens.snd Li) ty26 rfl (ex_val (by assumption))) ?_))))))))))))))))))
    refine WP.nil (QE.blkN (QE.next (CW.region (Wm rfl (Ws (O.add rfl rfl (c := ((i : Int) + 1)) (w64 (by omega))) (Wa rfl (WP.nil (ST.obtold 1 rfl (OB.row_eq (ys := (frMus (gram b) (i + 1))) (frMus_app (gram b) i)) (ST.obtold 2 rfl (OB.row_eq (ys := (frSts (gram b) (i + 1))) (frSts_app (gram b) i)) ?_)))))))))
    exact QE.round3 (i + 1) v4 v5 (by omega) (by omega) (Imp.c4 rfl rfl rfl rfl (Imp.consLe rfl (is_eq (y := (((i + 1) : Nat) : Int)) (by rfl)) Imp.nil)) (OImp.os (OS.skip (OS.keep (OS.keep (OS.keep (OS.keep (OS.keep OS.nil)))))))
 ·
  refine CW.exit (QE.thenE (QE.thenE (QE.blkH (QE.next (CW.seq (ST.freezeIn (k2 := (kPair (kSl (kSl kRC)) kVal)) ((frMus (gram b) i), vS) 0 1 rfl rfl (fun m_ cs_ h_ c_ => fz_fst m_ cs_ h_ c_) (kp 0 rfl (kp 2 rfl (kp 3 rfl (kp 4 rfl (kp 5 rfl (kp 12 rfl (kp 13 rfl (kp 14 rfl (kp 15 rfl .nil))))))))) (ST.freezeIn (k2 := kFrm) ((frMus (gram b) i), (frSts (gram b) i)) 0 0 rfl rfl (fun m_ cs_ h_ c_ => fz_snd m_ cs_ h_ c_) (kp 0 rfl (kp 2 rfl (kp 3 rfl (kp 4 rfl (kp 5 rfl (kp 12 rfl (kp 13 rfl (kp 14 rfl (kp 15 rfl .nil))))))))) ?_)))))))
  have hib : i = b.length := by omega
  refine CW.region (Ws (O.ld (p := kFrm.is ((frMus (gram b) i), (frSts (gram b) i))) rfl (mem_at 0 rfl) Li ty150 rfl) (WP.t .n (O.stW (l := kFrm) (u := ((frMus (gram b) i), (frSts (gram b) i))) 1 rfl rfl rfl ty150 rfl Lr) (Wa rfl (Wn (CW.ret (ST.obtold 1 rfl (OB.box_eq (y := (frMus (gram b) b.length, frSts (gram b) b.length)) (by rw [← hib])) (ST.oimp (OImp.ix [2, 1] (by decide) rfl) ?_)))))))
  exact QE.done (.inl rfl) rfl (ResOk.c rfl (mem_at 1 rfl) ty150 (ResOk.t rfl ResOk.nil)) (OImp.os (OS.keep (OS.skip OS.nil))) ⟨rfl, rfl, trivial⟩
end Fw
