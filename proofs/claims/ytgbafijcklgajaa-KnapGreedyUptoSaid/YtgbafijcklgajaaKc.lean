/- Plain facts: weights that climb, all choices with a sum, the greedy block. -/
import Derived.Test.YtgbafijcklgajaaKa
set_option linter.unusedVariables false
set_option linter.unusedSimpArgs false
set_option exponentiation.threshold 400
namespace Fw
open Go

theorem take_sum {xs : List Int} {i : Nat} (h : i < xs.length) : (xs.take (i + 1)).sum = (xs.take i).sum + xs.getD i 0 := by
  rw [← take_app (d := 0) h, List.sum_append]; simp
/-- Each of the first i is above the sum of those ahead. -/
def climbTo (xs : List Int) (i : Nat) : Prop := ∀ j, j < i → (xs.take j).sum < xs.getD j 0
instance (xs : List Int) (i : Nat) : Decidable (climbTo xs i) := by unfold climbTo; infer_instance
def climb (xs : List Int) : Bool := decide (climbTo xs xs.length)
theorem climbTo_0 (xs : List Int) : climbTo xs 0 := fun j h => by omega
theorem climbTo_s {xs : List Int} {i : Nat} (h : climbTo xs i) (h1 : (xs.take i).sum < xs.getD i 0) : climbTo xs (i + 1) := fun j hj => by
  by_cases e : j = i
  · subst e; exact h1
  · exact h j (by omega)
theorem climb_no {xs : List Int} {i : Nat} (hi : i < xs.length) (h : ¬ (xs.take i).sum < xs.getD i 0) : climb xs = false := by
  unfold climb; rw [decide_eq_false_iff_not]; exact fun hc => h (hc i hi)
theorem climb_yes {xs : List Int} {i : Nat} (hi : xs.length ≤ i) (h : climbTo xs i) : climb xs = true := by
  unfold climb; rw [decide_eq_true_iff]; exact fun j hj => h j (by omega)
theorem climb_to {xs : List Int} (h : climb xs = true) : climbTo xs xs.length := by unfold climb at h; exact of_decide_eq_true h
theorem wOk_sum {xs : List Int} (h : wOk xs = true) : ∀ i, i ≤ xs.length → 0 ≤ (xs.take i).sum ∧ (xs.take i).sum ≤ (i : Int) * 2 ^ 200
  | 0, _ => by simp
  | i + 1, hi => by
    have h1 := wOk_sum h i (by omega)
    have h2 := wOk_get h (show i < xs.length by omega)
    rw [take_sum (by omega), Int.natCast_add, Int.add_mul]
    omega
theorem Sm_small {z : Int} (h : 0 ≤ z) (h2 : z ≤ 20 * 2 ^ 200) : Sm z := Sm_of (n := 300) (by
  have : z.natAbs ≤ 20 * 2 ^ 200 := by omega
  exact Nat.lt_of_le_of_lt this (by decide)) (by decide)
theorem wOk_Sm {xs : List Int} (h : wOk xs = true) {i : Nat} (hi : i ≤ xs.length) : Sm (xs.take i).sum := by
  have h1 := wOk_sum h i hi
  have h2 := wOk_len h
  have : (i : Int) * 2 ^ 200 ≤ 20 * 2 ^ 200 := Int.mul_le_mul_of_nonneg_right (by omega) (by decide)
  exact Sm_small h1.1 (Int.le_trans h1.2 this)
theorem take_take_Sm {xs : List Int} (h : wOk xs = true) (i : Nat) : ∀ j, j ≤ (xs.take i).length → Sm (((xs.take i).take j).sum) := fun j hj => by
  rw [List.length_take] at hj
  rw [List.take_take, show min j i = j from by omega]
  exact wOk_Sm h (by omega)

/-! ### The greedy block -/
def grN (xs : List Int) : Nat → Int → List Int → List Int × Int
  | 0, s, B => (B, s)
  | i + 1, s, B => if xs.getD i 0 ≤ s then grN xs i (s - xs.getD i 0) (B.set i 1) else grN xs i s B
def ones (B : List Int) : Nat → List Int
  | 0 => []
  | i + 1 => ones B i ++ (if B.getD i 0 = 1 then [(i : Int)] else [])
def tot (xs c : List Int) : Int := (c.map fun k => xs.getD k.toNat 0).sum
theorem tot_nil (xs : List Int) : tot xs [] = 0 := rfl
theorem tot_add (xs c d : List Int) : tot xs (c ++ d) = tot xs c + tot xs d := by simp [tot, List.sum_append]
theorem tot_one (xs : List Int) (i : Nat) : tot xs [(i : Int)] = xs.getD i 0 := by simp [tot]
theorem grN_get (xs : List Int) : ∀ (i : Nat) (s : Int) (B : List Int) (j : Nat), i ≤ j → (grN xs i s B).1.getD j 0 = B.getD j 0
  | 0, s, B, j, h => rfl
  | i + 1, s, B, j, h => by
    simp only [grN]
    split
    · rw [grN_get xs i _ _ j (by omega)]
      simp only [List.getD_eq_getElem?_getD]
      rw [List.getElem?_set_ne (by omega)]
    · exact grN_get xs i _ _ j (by omega)
theorem grN_len (xs : List Int) : ∀ (i : Nat) (s : Int) (B : List Int), (grN xs i s B).1.length = B.length
  | 0, s, B => rfl
  | i + 1, s, B => by
    simp only [grN]
    split
    · rw [grN_len xs i]; simp
    · exact grN_len xs i _ _
theorem ones_len (B : List Int) : ∀ i, (ones B i).length ≤ i
  | 0 => by simp [ones]
  | i + 1 => by have := ones_len B i; simp only [ones, List.length_append]; split <;> simp <;> omega
theorem ones_congr {B B' : List Int} : ∀ {i : Nat}, (∀ j, j < i → B.getD j 0 = B'.getD j 0) → ones B i = ones B' i
  | 0, _ => rfl
  | i + 1, h => by simp only [ones]; rw [ones_congr (i := i) (fun j hj => h j (by omega)), h i (by omega)]
/-- Rising places below i. -/
inductive Up : Nat → List Int → Prop
  | nil : Up 0 []
  | skip {i : Nat} {t : List Int} : Up i t → Up (i + 1) t
  | put {i : Nat} {t : List Int} : Up i t → Up (i + 1) (t ++ [(i : Int)])
/-- Rising places from n - m on. -/
inductive Dn (n : Nat) : Nat → List Int → Prop
  | nil : Dn n 0 []
  | skip {m : Nat} {t : List Int} : Dn n m t → Dn n (m + 1) t
  | put {m : Nat} {t : List Int} : Dn n m t → Dn n (m + 1) (((n - (m + 1) : Nat) : Int) :: t)
theorem Dn_nil (n : Nat) : ∀ m, Dn n m []
  | 0 => .nil
  | m + 1 => .skip (Dn_nil n m)
theorem Up_of_Dn {n m : Nat} {u : List Int} (h : Dn n m u) : ∀ {i : Nat} {t : List Int}, Up i t → i + m = n → Up n (t ++ u) := by
  induction h with
  | nil => intro i t ht e; simpa [show n = i by omega] using ht
  | skip _ ih => intro i t ht e; exact ih ht.skip (by omega)
  | @put m u _ ih =>
    intro i t ht e
    have := ih ht.put (by omega)
    rw [show n - (m + 1) = i by omega]
    simpa using this
theorem Dn_of_Up {n i : Nat} {t : List Int} (h : Up i t) : ∀ {m : Nat} {u : List Int}, Dn n m u → i + m = n → Dn n n (t ++ u) := by
  induction h with
  | nil => intro m u hu e; have : m = n := by omega
           subst this; simpa using hu
  | skip _ ih => intro m u hu e; exact ih hu.skip (by omega)
  | @put i t _ ih =>
    intro m u hu e
    have := ih hu.put (by omega)
    rw [show n - (m + 1) = i by omega] at this
    simpa using this
theorem tot_Up {xs : List Int} (h : wOk xs = true) {i : Nat} {t : List Int} (ht : Up i t) : i ≤ xs.length → 0 ≤ tot xs t ∧ tot xs t ≤ (xs.take i).sum := by
  induction ht with
  | nil => intro _; simp [tot]
  | @skip i t _ ih =>
    intro hi
    have h1 := ih (by omega)
    have h2 := wOk_get h (show i < xs.length by omega)
    rw [take_sum (by omega)]; omega
  | @put i t _ ih =>
    intro hi
    have h1 := ih (by omega)
    have h2 := wOk_get h (show i < xs.length by omega)
    rw [take_sum (by omega), tot_add, tot_one]; omega
/-- A choice with the sum is the greedy one. -/
theorem gr_of_Up {xs : List Int} (h : wOk xs = true) (hc : climb xs = true) {i : Nat} {t : List Int} (ht : Up i t) : ∀ {s : Int} {B : List Int}, i ≤ xs.length → i ≤ B.length → (∀ j, j < i → B.getD j 0 = 0) → tot xs t = s → (grN xs i s B).2 = 0 ∧ ones (grN xs i s B).1 i = t := by
  induction ht with
  | nil => intro s B _ _ _ hs; exact ⟨by simp [grN, ← hs, tot], rfl⟩
  | @skip i t ht ih =>
    intro s B hi hB hz hs
    have h1 := tot_Up h ht (by omega)
    have h2 := climb_to hc i (by omega)
    simp only [grN]
    rw [if_neg (by omega)]
    obtain ⟨h3, h4⟩ := ih (s := s) (B := B) (by omega) (by omega) (fun j hj => hz j (by omega)) hs
    refine ⟨h3, ?_⟩
    simp only [ones]
    rw [h4, grN_get xs i s B i (Nat.le_refl _), hz i (by omega)]
    simp
  | @put i t ht ih =>
    intro s B hi hB hz hs
    have h1 := tot_Up h ht (by omega)
    rw [tot_add, tot_one] at hs
    simp only [grN]
    rw [if_pos (by omega)]
    obtain ⟨h3, h4⟩ := ih (s := s - xs.getD i 0) (B := B.set i 1) (by omega) (by simpa using Nat.le_of_succ_le hB) (fun j hj => by
      have := hz j (by omega)
      simp only [List.getD_eq_getElem?_getD] at this ⊢
      rw [List.getElem?_set_ne (by omega)]; exact this) (by omega)
    refine ⟨h3, ?_⟩
    simp only [ones]
    rw [h4, grN_get xs i _ _ i (Nat.le_refl _)]
    simp only [List.getD_eq_getElem?_getD]
    rw [List.getElem?_set_self (by omega)]
    simp
/-- What the greedy block sums up to. -/
theorem gr_tot {xs : List Int} : ∀ (i : Nat) (s : Int) (B : List Int), i ≤ B.length → (∀ j, j < i → B.getD j 0 = 0) → Up i (ones (grN xs i s B).1 i) ∧ tot xs (ones (grN xs i s B).1 i) = s - (grN xs i s B).2
  | 0, s, B, _, _ => ⟨.nil, by simp [ones, grN, tot]⟩
  | i + 1, s, B, hB, hz => by
    simp only [grN]
    split
    · obtain ⟨h1, h2⟩ := gr_tot (xs := xs) i (s - xs.getD i 0) (B.set i 1) (by simp; omega) (fun j hj => by
        have := hz j (by omega)
        simp only [List.getD_eq_getElem?_getD] at this ⊢
        rw [List.getElem?_set_ne (by omega)]; exact this)
      have h3 : (grN xs i (s - xs.getD i 0) (B.set i 1)).1.getD i 0 = 1 := by
        rw [grN_get xs i _ _ i (Nat.le_refl _)]
        simp only [List.getD_eq_getElem?_getD]
        rw [List.getElem?_set_self (by omega)]; rfl
      simp only [ones, h3, if_true]
      exact ⟨h1.put, by rw [tot_add, tot_one, h2]; omega⟩
    · obtain ⟨h1, h2⟩ := gr_tot (xs := xs) i s B (by omega) (fun j hj => hz j (by omega))
      have h3 : (grN xs i s B).1.getD i 0 = 0 := by rw [grN_get xs i _ _ i (Nat.le_refl _)]; exact hz i (by omega)
      simp only [ones, h3]
      exact ⟨by simpa using h1.skip, by simpa using h2⟩

/-! ### All choices -/
def chK (xs : List Int) (s : Int) : Nat → List Int → List (List Int)
  | 0, _ => []
  | m + 1, c => ((if tot xs (c ++ [((xs.length - (m + 1) : Nat) : Int)]) = s then [c ++ [((xs.length - (m + 1) : Nat) : Int)]] else []) ++ chK xs s m (c ++ [((xs.length - (m + 1) : Nat) : Int)])) ++ chK xs s m c
def chA (xs : List Int) (s : Int) (m : Nat) (c : List Int) : List (List Int) := (if tot xs c = s then [c] else []) ++ chK xs s m c
theorem chA_len (xs : List Int) (s : Int) : ∀ m c, (chA xs s m c).length ≤ 2 ^ m
  | 0, c => by unfold chA; split <;> simp [chK]
  | m + 1, c => by
    have h1 := chA_len xs s m c
    have h2 := chA_len xs s m (c ++ [((xs.length - (m + 1) : Nat) : Int)])
    unfold chA at *
    rw [Nat.pow_succ]
    simp only [chK, List.length_append] at *
    omega
theorem chK_len {xs : List Int} {s : Int} {m : Nat} {c : List Int} : (chK xs s m c).length ≤ 2 ^ m := by
  have := chA_len xs s m c
  unfold chA at this
  rw [List.length_append] at this
  omega
theorem chK_sound (xs : List Int) (s : Int) : ∀ (m : Nat) (c l : List Int), l ∈ chK xs s m c → ∃ u, l = c ++ u ∧ Dn xs.length m u ∧ tot xs l = s
  | 0, c, l, h => by simp [chK] at h
  | m + 1, c, l, h => by
    simp only [chK, List.mem_append] at h
    rcases h with (h | h) | h
    · split at h
      · rename_i he
        simp only [List.mem_singleton] at h
        subst h
        exact ⟨_, rfl, .put (Dn_nil _ m), he⟩
      · cases h
    · obtain ⟨u, rfl, h1, h2⟩ := chK_sound xs s m _ l h
      exact ⟨_ :: u, by simp, .put h1, h2⟩
    · obtain ⟨u, rfl, h1, h2⟩ := chK_sound xs s m _ l h
      exact ⟨u, rfl, .skip h1, h2⟩
theorem chK_full {xs : List Int} {s : Int} {m : Nat} {u : List Int} (h : Dn xs.length m u) : ∀ {c : List Int}, u ≠ [] → tot xs (c ++ u) = s → c ++ u ∈ chK xs s m c := by
  induction h with
  | nil => intro c h; exact absurd rfl h
  | skip _ ih => intro c h1 h2; simp only [chK, List.mem_append]; exact .inr (ih h1 h2)
  | @put m u hu ih =>
    intro c _ h2
    simp only [chK, List.mem_append]
    by_cases hn : u = []
    · subst hn
      rw [if_pos h2]
      exact .inl (.inl (by simp))
    · have := ih (c := c ++ [((xs.length - (m + 1) : Nat) : Int)]) hn (by simpa using h2)
      exact .inl (.inr (by simpa using this))
theorem chA_iff {xs : List Int} {s : Int} {l : List Int} : l ∈ chA xs s xs.length [] ↔ Up xs.length l ∧ tot xs l = s := by
  unfold chA
  rw [List.mem_append]
  constructor
  · rintro (h | h)
    · split at h
      · rename_i he
        simp only [List.mem_singleton] at h
        subst h
        exact ⟨by simpa using Up_of_Dn (Dn_nil xs.length xs.length) .nil (by omega), he⟩
      · cases h
    · obtain ⟨u, rfl, h1, h2⟩ := chK_sound xs s _ _ l h
      exact ⟨Up_of_Dn h1 .nil (by omega), h2⟩
  · rintro ⟨h1, h2⟩
    by_cases hn : l = []
    · subst hn; left; rw [if_pos h2]; simp
    · right
      have := Dn_of_Up h1 .nil (n := xs.length) (by omega)
      simp only [List.append_nil] at this
      simpa using chK_full this (c := []) hn (by simpa using h2)
def zeros10 : List Int := List.replicate 10 0
theorem zeros10_get (j : Nat) : zeros10.getD j 0 = 0 := by
  unfold zeros10
  rw [List.getD_eq_getElem?_getD, List.getElem?_replicate]
  split <;> rfl
def grV (xs : List Int) (s : Int) : List Int × Int := grN xs xs.length s zeros10
theorem grV_ones {xs : List Int} {s : Int} (h : wOk xs = true) : ∀ k, xs.length + k ≤ 10 → ones (grV xs s).1 (xs.length + k) = ones (grV xs s).1 xs.length
  | 0, _ => rfl
  | k + 1, hk => by
    have h1 := grV_ones (s := s) h k (by omega)
    rw [← Nat.add_assoc]
    simp only [ones]
    rw [h1, show (grV xs s).1.getD (xs.length + k) 0 = 0 from by unfold grV; rw [grN_get xs _ _ _ _ (by omega)]; exact zeros10_get _]
    simp
theorem grV_ones10 {xs : List Int} {s : Int} (h : wOk xs = true) : ones (grV xs s).1 10 = ones (grV xs s).1 xs.length := by
  have hl := wOk_len h
  have := grV_ones (s := s) h (10 - xs.length) (by omega)
  rwa [show xs.length + (10 - xs.length) = 10 from by omega] at this
/-- Where weights climb: the first of all choices is the greedy one. -/
theorem gr_head {xs : List Int} {s : Int} (h : wOk xs = true) (hc : climb xs = true) : ((grV xs s).2 = 0 → (chA xs s xs.length []).length ≠ 0 ∧ (chA xs s xs.length []).getD 0 [] = ones (grV xs s).1 10) ∧ ((grV xs s).2 ≠ 0 → (chA xs s xs.length []).length = 0) := by
  have hl := wOk_len h
  have hz : ∀ j, j < xs.length → zeros10.getD j 0 = 0 := fun j _ => zeros10_get j
  have hzl : xs.length ≤ zeros10.length := by simp [zeros10]; omega
  have hall : ∀ l, l ∈ chA xs s xs.length [] → (grV xs s).2 = 0 ∧ ones (grV xs s).1 10 = l := fun l hm => by
    obtain ⟨h1, h2⟩ := chA_iff.1 hm
    rw [grV_ones10 h]
    exact gr_of_Up h hc h1 (Nat.le_refl _) hzl hz h2
  constructor
  · intro h0
    obtain ⟨h1, h2⟩ := gr_tot (xs := xs) xs.length s zeros10 hzl hz
    have hm : ones (grV xs s).1 xs.length ∈ chA xs s xs.length [] := chA_iff.2 ⟨h1, by rw [show (ones (grV xs s).1 xs.length) = ones (grN xs xs.length s zeros10).1 xs.length from rfl, h2]; unfold grV at h0; omega⟩
    cases hl2 : chA xs s xs.length [] with
    | nil => rw [hl2] at hm; cases hm
    | cons a r => exact ⟨by simp, by rw [(hall a (by rw [hl2]; simp)).2]; rfl⟩
  · intro h0
    cases hl2 : chA xs s xs.length [] with
    | nil => rfl
    | cons a r => exact absurd (hall a (by rw [hl2]; simp)).1 h0

/-! ### Steps -/
theorem sgn_le {a b : Int} (h : (a - b).sign ≤ 0) : a ≤ b := by
  rcases Int.lt_trichotomy (a - b) 0 with h1 | h1 | h1
  · omega
  · omega
  · rw [Int.sign_eq_one_of_pos h1] at h; omega
theorem sgn_gt {a b : Int} (h : ¬ (a - b).sign ≤ 0) : b < a := by
  rcases Int.lt_trichotomy (a - b) 0 with h1 | h1 | h1
  · rw [Int.sign_eq_neg_one_of_neg h1] at h; omega
  · rw [h1] at h; simp at h
  · omega
theorem sgn_lt0 {a : Int} (h : a.sign < 0) : a < 0 := by
  rcases Int.lt_trichotomy a 0 with h1 | h1 | h1
  · exact h1
  · subst h1; simp at h
  · rw [Int.sign_eq_one_of_pos h1] at h; omega
theorem sgn_ge0 {a : Int} (h : ¬ a.sign < 0) : 0 ≤ a := by
  rcases Int.lt_trichotomy a 0 with h1 | h1 | h1
  · rw [Int.sign_eq_neg_one_of_neg h1] at h; omega
  · omega
  · omega
theorem sgn_eq {a b : Int} (h : (a - b).sign = 0) : a = b := by have := Int.sign_eq_zero_iff_zero.1 h; omega
theorem sgn_ne {a b : Int} (h : ¬ (a - b).sign = 0) : a ≠ b := fun e => h (by subst e; simp)
theorem grN_in {xs : List Int} {i : Nat} {q : Int} {B : List Int} (h : 0 < i) (hx : xs.getD (i - 1) 0 ≤ q) : grN xs i q B = grN xs (i - 1) (q - xs.getD (i - 1) 0) (B.set (i - 1) 1) := by
  cases i with
  | zero => omega
  | succ i => simp only [grN, Nat.add_sub_cancel] at *; rw [if_pos hx]
theorem grN_out {xs : List Int} {i : Nat} {q : Int} {B : List Int} (h : 0 < i) (hx : ¬ xs.getD (i - 1) 0 ≤ q) : grN xs i q B = grN xs (i - 1) q B := by
  cases i with
  | zero => omega
  | succ i => simp only [grN, Nat.add_sub_cancel] at *; rw [if_neg hx]
def gyV (xs : List Int) (s : Int) : List Int × Bool × Int :=
  if wErr xs ≠ 0 then ([], false, wErr xs) else if s < 0 then ([], false, 1) else if climb xs = false then ([], false, 5) else if (grV xs s).2 = 0 then (ones (grV xs s).1 10, true, 0) else ([], false, 0)
theorem gy_1 {xs : List Int} {s : Int} (h : wErr xs ≠ 0) : gyV xs s = ([], false, wErr xs) := by unfold gyV; rw [if_pos h]
theorem gy_2 {xs : List Int} {s : Int} (h : ¬ wErr xs ≠ 0) (h2 : s < 0) : gyV xs s = ([], false, 1) := by unfold gyV; rw [if_neg h, if_pos h2]
theorem gy_3 {xs : List Int} {s : Int} (h : ¬ wErr xs ≠ 0) (h2 : ¬ s < 0) (h3 : climb xs = false) : gyV xs s = ([], false, 5) := by unfold gyV; rw [if_neg h, if_neg h2, if_pos h3]
theorem gy_4 {xs : List Int} {s : Int} (h : ¬ wErr xs ≠ 0) (h2 : ¬ s < 0) (h3 : climb xs = true) (h4 : ¬ (grV xs s).2 = 0) : gyV xs s = ([], false, 0) := by unfold gyV; rw [if_neg h, if_neg h2, if_neg (by rw [h3]; decide), if_neg h4]
theorem gy_5 {xs : List Int} {s : Int} (h : ¬ wErr xs ≠ 0) (h2 : ¬ s < 0) (h3 : climb xs = true) (h4 : (grV xs s).2 = 0) : gyV xs s = (ones (grV xs s).1 10, true, 0) := by unfold gyV; rw [if_neg h, if_neg h2, if_neg (by rw [h3]; decide), if_pos h4]
theorem ch_len0 {xs : List Int} {s : Int} (h : ¬ wErr xs ≠ 0) (h3 : climb xs = true) (h4 : (chA xs s xs.length []).length = 0) : ¬ (grV xs s).2 = 0 := fun h0 => ((gr_head (wErr_0 h) h3).1 h0).1 h4
theorem ch_len1 {xs : List Int} {s : Int} (h : ¬ wErr xs ≠ 0) (h3 : climb xs = true) (h4 : ¬ (chA xs s xs.length []).length = 0) : (grV xs s).2 = 0 ∧ (chA xs s xs.length []).getD 0 [] = ones (grV xs s).1 10 := by
  by_cases h0 : (grV xs s).2 = 0
  · exact ⟨h0, ((gr_head (wErr_0 h) h3).1 h0).2⟩
  · exact absurd ((gr_head (wErr_0 h) h3).2 h0) h4
def Plc (xs c : List Int) : Prop := ∀ k ∈ c, 0 ≤ k ∧ k < (xs.length : Int)
theorem Plc_nil (xs : List Int) : Plc xs [] := fun k h => by cases h
theorem Plc_app {xs c : List Int} {k : Nat} (h : Plc xs c) (hk : k < xs.length) : Plc xs (c ++ [(k : Int)]) := fun j hj => by
  rcases List.mem_append.1 hj with h1 | h1
  · exact h j h1
  · simp at h1; subst h1; omega
theorem Plc_get {xs c : List Int} (h : Plc xs c) {i : Nat} (hi : i < c.length) : 0 ≤ c.getD i 0 ∧ c.getD i 0 < (xs.length : Int) := by
  rw [List.getD_eq_getElem?_getD, List.getElem?_eq_getElem hi]
  exact h _ (List.getElem_mem hi)
theorem tot_rng {xs : List Int} (hk : wOk xs = true) : ∀ {c : List Int}, Plc xs c → 0 ≤ tot xs c ∧ tot xs c ≤ (c.length : Int) * 2 ^ 200
  | [], _ => by simp [tot]
  | k :: c, h => by
    have h1 := tot_rng hk (c := c) (fun j hj => h j (List.mem_cons_of_mem _ hj))
    have h2 := h k (by simp)
    have h3 := wOk_get hk (show k.toNat < xs.length by omega)
    have h4 : tot xs (k :: c) = xs.getD k.toNat 0 + tot xs c := by simp [tot]
    rw [h4, List.length_cons, Int.natCast_add, Int.add_mul]
    omega
theorem Plc_take {xs c : List Int} (h : Plc xs c) (i : Nat) : Plc xs (c.take i) := fun k hk => h k (List.mem_of_mem_take hk)
theorem tot_10 {xs c : List Int} (hk : wOk xs = true) (h : Plc xs c) (hl : c.length ≤ 10) : 0 ≤ tot xs c ∧ tot xs c ≤ 10 * 2 ^ 200 := by
  have h1 := tot_rng hk h
  have : (c.length : Int) * 2 ^ 200 ≤ 10 * 2 ^ 200 := Int.mul_le_mul_of_nonneg_right (by omega) (by decide)
  exact ⟨h1.1, Int.le_trans h1.2 this⟩
theorem tot_Sm {xs c : List Int} (hk : wOk xs = true) (h : Plc xs c) (hl : c.length ≤ 10) (i : Nat) : Sm (tot xs (c.take i)) := by
  have h1 := tot_10 hk (Plc_take h i) (by rw [List.length_take]; omega)
  exact Sm_small h1.1 (Int.le_trans h1.2 (by decide))
theorem tot_Sm' {xs c : List Int} (hk : wOk xs = true) (h : Plc xs c) (hl : c.length ≤ 10) : Sm (tot xs c) := by
  have h1 := tot_10 hk h hl
  exact Sm_small h1.1 (Int.le_trans h1.2 (by decide))
theorem tot_take {xs c : List Int} {i : Nat} (hi : i < c.length) : tot xs (c.take i) + xs.getD (c.getD i 0).toNat 0 = tot xs (c.take (i + 1)) := by
  rw [← take_app (d := 0) hi, tot_add]; simp [tot]
/-- With s, no difference with a choice's sum is too great. -/
theorem Sm_small2 {x y : Int} {i n : Nat} (h : 0 < x ∧ x < 2 ^ 200) (h2 : 0 ≤ y ∧ y ≤ (i : Int) * 2 ^ 200) (h3 : 1 ≤ n ∧ n ≤ 10) (h4 : i ≤ n) : Sm (x - y) := by
  have : (i : Int) * 2 ^ 200 ≤ 10 * 2 ^ 200 := Int.mul_le_mul_of_nonneg_right (by omega) (by decide)
  refine Sm_of (n := 300) ?_ (by decide)
  have h5 : (x - y).natAbs ≤ 11 * 2 ^ 200 := by omega
  exact Nat.lt_of_le_of_lt h5 (by decide)
def Ss (s : Int) : Prop := Sm s ∧ ∀ z, 0 ≤ z → z ≤ 10 * 2 ^ 200 → Sm (z - s)
theorem chA_cond {xs : List Int} {s : Int} {m : Nat} {c : List Int} : (if tot xs c = s then [c] else []) ++ chK xs s m c = chA xs s m c := rfl
theorem chK_s {xs : List Int} {s : Int} {c : List Int} {k : Nat} (hk : k < xs.length) : chA xs s (xs.length - (k + 1)) (c ++ [(k : Int)]) ++ chK xs s (xs.length - (k + 1)) c = chK xs s (xs.length - k) c := by
  have h1 : xs.length - k = (xs.length - (k + 1)) + 1 := by omega
  rw [h1]
  simp only [chK, chA]
  rw [show xs.length - (xs.length - (k + 1) + 1) = k from by omega]
theorem Ss_lt {s : Int} {n : Nat} (h : s.natAbs < 2 ^ n) (hn : n ≤ 549755813000) : Ss s := by
  refine ⟨Sm_of h (by omega), fun z h1 h2 => ?_⟩
  refine Sm_of (n := n + 300) ?_ (by omega)
  have h3 : (z - s).natAbs ≤ 10 * 2 ^ 200 + s.natAbs := by omega
  have h4 : 2 ^ n * 2 ^ 299 + 2 ^ n * 2 ^ 299 = 2 ^ (n + 300) := by rw [Nat.pow_add, ← Nat.mul_add]
  have h5 : 0 < 2 ^ n := Nat.two_pow_pos n
  have h6 : 2 ^ 299 ≤ 2 ^ n * 2 ^ 299 := Nat.le_mul_of_pos_left _ h5
  have h7 : 2 ^ n ≤ 2 ^ n * 2 ^ 299 := Nat.le_mul_of_pos_right _ (by decide)
  rw [← h4]
  have h8 : 10 * 2 ^ 200 < 2 ^ 299 := by decide
  exact Nat.lt_of_le_of_lt h3 (by omega)
theorem Ss_ex {s : Int} (h : ∃ n, n ≤ 33554432 ∧ s.natAbs < 2 ^ n) : Ss s := by
  obtain ⟨n, h1, h2⟩ := h
  exact Ss_lt h2 (by omega)
end Fw
