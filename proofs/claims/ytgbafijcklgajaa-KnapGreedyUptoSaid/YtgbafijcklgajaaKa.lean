/- Plain facts on weights and blocks. -/
import Derived.Test.YtgbafijcklgajaaRa
set_option linter.unusedVariables false
set_option linter.unusedSimpArgs false
set_option exponentiation.threshold 600
namespace Fw

def wGood (x : Int) : Bool := decide (0 < x) && decide (bitlen x.natAbs ≤ 200)
def wOk (xs : List Int) : Bool := decide (1 ≤ xs.length) && decide (xs.length ≤ 10) && xs.all wGood
def wErr (xs : List Int) : Int := if wOk xs then 0 else 240
def wTo (xs : List Int) (i : Nat) : Prop := (xs.take i).all wGood = true
theorem wTo_0 (xs : List Int) : wTo xs 0 := by simp [wTo]
theorem wTo_s {xs : List Int} {i : Nat} (hi : i < xs.length) (h : wTo xs i) (h1 : ¬ (xs.getD i 0).sign ≤ 0) (h2 : ¬ (200 : Int) < (bitlen (xs.getD i 0).natAbs : Int)) : wTo xs (i + 1) := by
  have hp : 0 < xs.getD i 0 := by
    rcases Int.lt_trichotomy (xs.getD i 0) 0 with h | h | h
    · rw [Int.sign_eq_neg_one_of_neg h] at h1; omega
    · rw [h] at h1; simp at h1
    · exact h
  unfold wTo at h ⊢
  rw [← take_app (d := 0) hi, List.all_append, h]
  simp [wGood] at hp h2 ⊢
  exact ⟨hp, by omega⟩
theorem wErr_len {xs : List Int} (h : ¬ (1 ≤ xs.length ∧ xs.length ≤ 10)) : 240 = wErr xs := by
  unfold wErr wOk
  rw [if_neg]
  simp
  omega
theorem wErr_bad {xs : List Int} {i : Nat} (hi : i < xs.length) (h : (xs.getD i 0).sign ≤ 0 ∨ (200 : Int) < (bitlen (xs.getD i 0).natAbs : Int)) : 240 = wErr xs := by
  unfold wErr
  rw [if_neg]
  intro h0
  simp only [wOk, Bool.and_eq_true, List.all_eq_true] at h0
  have hm : xs.getD i 0 ∈ xs := by
    rw [List.getD_eq_getElem?_getD, List.getElem?_eq_getElem hi]; simp
  have := h0.2 _ hm
  simp only [wGood, Bool.and_eq_true, decide_eq_true_eq] at this
  rcases h with h | h
  · rw [Int.sign_eq_one_of_pos this.1] at h; omega
  · omega
theorem wErr_ok {xs : List Int} {i : Nat} (hl : 1 ≤ xs.length ∧ xs.length ≤ 10) (hi : xs.length ≤ i) (h : wTo xs i) : 0 = wErr xs := by
  unfold wTo at h
  rw [List.take_of_length_le hi] at h
  unfold wErr wOk
  rw [h]
  simp [hl]
theorem wErr_0 {xs : List Int} (h : ¬ wErr xs ≠ 0) : wOk xs = true := by
  unfold wErr at h
  cases hw : wOk xs with
  | true => rfl
  | false => simp [hw] at h
theorem wOk_len {xs : List Int} (h : wOk xs = true) : 1 ≤ xs.length ∧ xs.length ≤ 10 := by
  simp [wOk] at h; omega
theorem wOk_get {xs : List Int} (h : wOk xs = true) {i : Nat} (hi : i < xs.length) : 0 < xs.getD i 0 ∧ xs.getD i 0 < 2 ^ 200 := by
  simp only [wOk, Bool.and_eq_true, List.all_eq_true] at h
  have hm : xs.getD i 0 ∈ xs := by
    rw [List.getD_eq_getElem?_getD, List.getElem?_eq_getElem hi]; simp
  have := h.2 _ hm
  simp only [wGood, Bool.and_eq_true, decide_eq_true_eq] at this
  have h2 := lt_bitlen (xs.getD i 0).natAbs
  have h3 : 2 ^ bitlen (xs.getD i 0).natAbs ≤ 2 ^ 200 := Nat.pow_le_pow_right (by omega) this.2
  omega
/-- the sum of the first n weights that a block takes -/
def sealN (xs bs : List Int) : Nat → Int
  | 0 => 0
  | n + 1 => sealN xs bs n + if bs.getD n 0 = 1 then xs.getD n 0 else 0
def sealTo (bs : List Int) (i : Nat) : Prop := ∀ j, j < i → bs.getD j 0 = 0 ∨ bs.getD j 0 = 1
instance (bs : List Int) (i : Nat) : Decidable (sealTo bs i) := inferInstanceAs (Decidable (∀ j, j < i → _))
def sealV (xs bs : List Int) : Int × Int := if wErr xs ≠ 0 then (0, wErr xs) else if bs.length ≠ xs.length then (0, 1) else if sealTo bs bs.length then (sealN xs bs bs.length, 0) else (0, 1)
theorem sealTo_0 (bs : List Int) : sealTo bs 0 := fun j h => by omega
theorem sealTo_s {bs : List Int} {i : Nat} (hi : i < bs.length) (h : sealTo bs i) (hb : bs.getD i 0 = 0 ∨ bs.getD i 0 = 1) : sealTo bs (i + 1) := fun j hj => by
  by_cases hji : j = i
  · subst hji; exact hb
  · exact h j (by omega)
theorem sealN_0 {xs bs : List Int} {i : Nat} (h : bs.getD i 0 = 0) : sealN xs bs i = sealN xs bs (i + 1) := by simp only [sealN, h]; simp
theorem sealN_1 {xs bs : List Int} {i : Nat} (h : bs.getD i 0 = 1) : sealN xs bs i + xs.getD i 0 = sealN xs bs (i + 1) := by simp only [sealN, h]; simp
theorem sealN_le {xs bs : List Int} (h : wOk xs = true) : ∀ i, i ≤ xs.length → 0 ≤ sealN xs bs i ∧ sealN xs bs i ≤ (i : Int) * 2 ^ 200
  | 0, _ => by simp [sealN]
  | i + 1, hi => by
    obtain ⟨h1, h2⟩ := sealN_le h (bs := bs) i (by omega)
    obtain ⟨h3, h4⟩ := wOk_get h (i := i) (by omega)
    unfold sealN
    split <;> omega
theorem sealN_Sm {xs bs : List Int} {i : Nat} (h : ¬ wErr xs ≠ 0) (hi : i ≤ xs.length) : Sm (sealN xs bs i) := by
  have hw := wErr_0 h
  obtain ⟨h1, h2⟩ := sealN_le hw (bs := bs) i hi
  have hl := wOk_len hw
  refine Sm_of (n := 210) ?_ (by omega)
  omega
theorem sealV_e1 {xs bs : List Int} (h : wErr xs ≠ 0) : sealV xs bs = (0, wErr xs) := by simp [sealV, h]
theorem sealV_e2 {xs bs : List Int} (h : ¬ wErr xs ≠ 0) (h2 : bs.length ≠ xs.length) : sealV xs bs = (0, 1) := by simp only [sealV]; rw [if_neg h, if_pos h2]
theorem sealV_e3 {xs bs : List Int} {i : Nat} (h : ¬ wErr xs ≠ 0) (h2 : bs.length = xs.length) (hi : i < bs.length) (h3 : ¬ bs.getD i 0 = 0) (h4 : ¬ bs.getD i 0 = 1) : sealV xs bs = (0, 1) := by
  simp only [sealV]; rw [if_neg h, if_neg (by omega), if_neg]
  intro hs
  rcases hs i hi with h | h
  · exact h3 h
  · exact h4 h
theorem sealV_ok {xs bs : List Int} {i : Nat} (h : ¬ wErr xs ≠ 0) (h2 : bs.length = xs.length) (hi : i = bs.length) (hs : sealTo bs i) : sealV xs bs = (sealN xs bs i, 0) := by
  subst hi
  simp only [sealV]; rw [if_neg h, if_neg (by omega), if_pos hs]
end Fw
