/- Proved: QuadBinaries, for every input of bulk at most 1048576; no other condition. -/
import Derived.Test.YtgbafijcklgajaaCQuadBinariesC
/- Plain facts: Gauss's steps on binary forms. -/
set_option linter.unusedVariables false
set_option linter.unusedSimpArgs false
set_option exponentiation.threshold 400
namespace Fw
open Go

def posF (A B C : Int) : Prop := 0 < A ∧ B * B < 4 * (A * C)
instance (A B C : Int) : Decidable (posF A B C) := by unfold posF; infer_instance
def kF (A B : Int) : Int := (A - B).fdiv (A + A)
def sB (A B : Int) : Int := B + (A * kF A B + A * kF A B)
def sC (A B C : Int) : Int := (A * kF A B + B) * kF A B + C
def redF (A B C : Int) : Prop := A < C ∨ (A = C ∧ 0 ≤ B)
instance (A B C : Int) : Decidable (redF A B C) := by unfold redF; infer_instance
def gFlag (A B : Int) : Nat := if 0 ≤ B ∧ B ≤ A then 0 else 1
theorem sq_nn (x : Int) : 0 ≤ x * x := by
  rcases Int.le_total 0 x with h | h
  · exact Int.mul_nonneg h h
  · exact Int.mul_nonneg_of_nonpos_of_nonpos h h
theorem kF_rng {A B : Int} (hA : 0 < A) : A * kF A B + A * kF A B ≤ A - B ∧ A - B < A * kF A B + A * kF A B + (A + A) := by
  have h1 := Int.fmod_nonneg_of_pos (A - B) (show 0 < A + A by omega)
  have h2 := Int.fmod_lt_of_pos (A - B) (show 0 < A + A by omega)
  have h3 := Int.mul_fdiv_add_fmod (A - B) (A + A)
  have h4 : (A + A) * (A - B).fdiv (A + A) = A * kF A B + A * kF A B := by unfold kF; rw [Int.add_mul]
  omega
theorem sB_rng {A B : Int} (hA : 0 < A) : -A < sB A B ∧ sB A B ≤ A := by
  have := kF_rng (B := B) hA
  unfold sB; omega
theorem disc_s (A B C : Int) : sB A B * sB A B - 4 * (A * sC A B C) = B * B - 4 * (A * C) := by
  unfold sB sC
  generalize kF A B = k
  grind
theorem pos_s {A B C : Int} (h : posF A B C) : sB A B * sB A B < 4 * (A * sC A B C) ∧ 0 < sC A B C := by
  have h1 := disc_s A B C
  have h2 : sB A B * sB A B < 4 * (A * sC A B C) := by have := h.2; omega
  refine ⟨h2, ?_⟩
  have h3 := sq_nn (sB A B)
  rcases Int.lt_or_le 0 (sC A B C) with h4 | h4
  · exact h4
  · have := Int.mul_nonpos_of_nonneg_of_nonpos (Int.le_of_lt h.1) h4
    omega
theorem pos_next {A B C : Int} (h : posF A B C) : posF (sC A B C) (-(sB A B)) A := by
  obtain ⟨h1, h2⟩ := pos_s h
  refine ⟨h2, ?_⟩
  rw [Int.neg_mul_neg, Int.mul_comm (sC A B C)]
  exact h1
theorem kF_0 {A B : Int} (hA : 0 < A) (h : 0 ≤ B ∧ B ≤ A) : kF A B = 0 := by
  unfold kF
  rw [Int.fdiv_eq_ediv_of_nonneg _ (by omega)]
  exact Int.ediv_eq_zero_of_lt (by omega) (by omega)
theorem g_dec {A B C : Int} (h : posF A B C ∧ ¬ redF A (sB A B) (sC A B C)) : 2 * (sC A B C).toNat + gFlag (sC A B C) (-(sB A B)) < 2 * A.toNat + gFlag A B := by
  obtain ⟨hp, hr⟩ := h
  obtain ⟨h1, h2⟩ := pos_s hp
  have hA := hp.1
  have h3 := sB_rng (B := B) hA
  unfold redF at hr
  by_cases hc : sC A B C < A
  · have h4 : gFlag (sC A B C) (-(sB A B)) ≤ 1 := by unfold gFlag; split <;> omega
    omega
  · have h5 : A = sC A B C := by omega
    have h6 : sB A B < 0 := by omega
    have h7 : gFlag (sC A B C) (-(sB A B)) = 0 := by unfold gFlag; rw [if_pos (by omega)]
    have h8 : gFlag A B = 1 := by
      unfold gFlag
      rw [if_neg]
      intro h9
      have := kF_0 hA h9
      have h10 : sB A B = B := by unfold sB; rw [this]; omega
      omega
    omega
/-- Gauss's steps, with what they change. -/
def gs (A B C x y z t : Int) : (Int × Int × Int) × List Int :=
  if h : posF A B C ∧ ¬ redF A (sB A B) (sC A B C) then gs (sC A B C) (-(sB A B)) A (y + x * kF A B) (-x) (t + z * kF A B) (-z)
  else ((A, sB A B, sC A B C), [x, y + x * kF A B, z, t + z * kF A B])
termination_by 2 * A.toNat + gFlag A B
decreasing_by exact g_dec h
theorem gs_go {A B C x y z t : Int} (h : posF A B C) (h2 : ¬ redF A (sB A B) (sC A B C)) : gs (sC A B C) (-(sB A B)) A (y + x * kF A B) (-x) (t + z * kF A B) (-z) = gs A B C x y z t := by
  rw [gs.eq_1 A B C x y z t, dif_pos ⟨h, h2⟩]
theorem gs_end {A B C x y z t : Int} (h2 : redF A (sB A B) (sC A B C)) : ((A, sB A B, sC A B C), [x, y + x * kF A B, z, t + z * kF A B]) = gs A B C x y z t := by
  rw [gs.eq_1 A B C x y z t, dif_neg (fun hh => hh.2 h2)]
/-- The reduced form alone. -/
def g1 (A B C : Int) : Int × Int × Int := (gs A B C 1 0 0 1).1
theorem gs_fst (A B C x y z t x' y' z' t' : Int) : (gs A B C x y z t).1 = (gs A B C x' y' z' t').1 := by
  induction A, B, C, x, y, z, t using gs.induct generalizing x' y' z' t' with
  | case1 A B C x y z t h ih =>
    rw [← gs_go h.1 h.2, ← gs_go (x := x') (y := y') (z := z') (t := t') h.1 h.2]
    exact ih _ _ _ _
  | case2 A B C x y z t h =>
    rw [gs.eq_1 A B C x y z t, gs.eq_1 A B C x' y' z' t', dif_neg h, dif_neg h]
theorem g1_go {A B C : Int} (h : posF A B C) (h2 : ¬ redF A (sB A B) (sC A B C)) : g1 (sC A B C) (-(sB A B)) A = g1 A B C := by
  unfold g1
  rw [← gs_go (x := 1) (y := 0) (z := 0) (t := 1) h h2]
  exact gs_fst ..
theorem g1_end {A B C : Int} (h2 : redF A (sB A B) (sC A B C)) : (A, sB A B, sC A B C) = g1 A B C := by
  unfold g1
  rw [← gs_end (x := 1) (y := 0) (z := 0) (t := 1) h2]

/-! ### What the change makes -/
def tv (A B C x y : Int) : Int := A * (x * x) + B * (x * y) + C * (y * y)
structure TR (A0 B0 C0 A B C x y z t : Int) : Prop where
  a : tv A0 B0 C0 x z = A
  c : tv A0 B0 C0 y t = C
  b : tv A0 B0 C0 (x + y) (z + t) - (tv A0 B0 C0 x z + tv A0 B0 C0 y t) = B
  d : x * t - y * z = 1
theorem TR_0 (A B C : Int) : TR A B C A B C 1 0 0 1 := by
  constructor <;> (try unfold tv) <;> grind
theorem TR_s {A0 B0 C0 A B C x y z t : Int} (h : TR A0 B0 C0 A B C x y z t) : TR A0 B0 C0 A (sB A B) (sC A B C) x (y + x * kF A B) z (t + z * kF A B) := by
  obtain ⟨h1, h2, h3, h4⟩ := h
  unfold tv at *
  unfold sB sC
  generalize kF A B = k
  constructor <;> (try unfold tv) <;> grind
theorem TR_n {A0 B0 C0 A B C x y z t : Int} (h : TR A0 B0 C0 A B C x y z t) : TR A0 B0 C0 C (-B) A y (-x) t (-z) := by
  obtain ⟨h1, h2, h3, h4⟩ := h
  unfold tv at *
  constructor <;> (try unfold tv) <;> grind
theorem tv_bd {A B C x y V : Int} (h : posF A B C) (hV : tv A B C x y = V) : y.natAbs ≤ (4 * (A * V)).natAbs ∧ x.natAbs ≤ (4 * (C * V)).natAbs := by
  have hC : 0 < C := by
    have h3 := sq_nn B
    rcases Int.lt_or_le 0 C with h4 | h4
    · exact h4
    · have := Int.mul_nonpos_of_nonneg_of_nonpos (Int.le_of_lt h.1) h4
      have := h.2
      omega
  have e1 : 4 * (A * V) = (2 * A * x + B * y) * (2 * A * x + B * y) + (4 * (A * C) - B * B) * (y * y) := by
    subst hV; unfold tv; grind
  have e2 : 4 * (C * V) = (2 * C * y + B * x) * (2 * C * y + B * x) + (4 * (A * C) - B * B) * (x * x) := by
    subst hV; unfold tv; grind
  have hD : 1 ≤ 4 * (A * C) - B * B := by have := h.2; omega
  have key : ∀ w q : Int, (w.natAbs : Int) ≤ q * q + (4 * (A * C) - B * B) * (w * w) := fun w q => by
    have h1 := sq_nn q
    have h2 := sq_nn w
    have h3 : 1 * (w * w) ≤ (4 * (A * C) - B * B) * (w * w) := Int.mul_le_mul_of_nonneg_right hD h2
    have h4 : (w.natAbs : Int) ≤ w * w := by
      rw [← Int.natAbs_mul_self]
      have : w.natAbs ≤ w.natAbs * w.natAbs := by
        rcases Nat.eq_zero_or_pos w.natAbs with h5 | h5
        · rw [h5]; omega
        · exact Nat.le_mul_of_pos_right _ h5
      exact_mod_cast this
    omega
  have k1 := key y (2 * A * x + B * y)
  have k2 := key x (2 * C * y + B * x)
  rw [← e1] at k1
  rw [← e2] at k2
  omega
theorem Sz_4 (n : Nat) : Sz (n + 3) 4 := by
  unfold Sz
  have : 2 ^ 3 ≤ 2 ^ (n + 3) := Nat.pow_le_pow_right (by decide) (by omega)
  omega
theorem TR_sz {A0 B0 C0 A B C x y z t : Int} {n m : Nat} (hp : posF A0 B0 C0) (h : TR A0 B0 C0 A B C x y z t) (h1 : Sz n A0) (h2 : Sz n C0) (h3 : Sz m A) (h4 : Sz m C) : Sz (n + m + 3) x ∧ Sz (n + m + 3) y ∧ Sz (n + m + 3) z ∧ Sz (n + m + 3) t := by
  have h5 := tv_bd hp h.a
  have h6 := tv_bd hp h.c
  have e : ∀ {u v : Int}, Sz n u → Sz m v → Sz (n + m + 3) (4 * (u * v)) := fun {u v} hu hv => by
    have := (Sz_4 0).mul (hu.mul hv)
    exact this.up (by omega)
  exact ⟨(e h2 h3).le h5.2, (e h2 h4).le h6.2, (e h1 h3).le h5.1, (e h1 h4).le h6.1⟩

/-! ### The steps' numbers -/
structure GsR (n : Nat) (A0 B0 C0 A B C x y z t : Int) : Prop where
  e : gs A B C x y z t = gs A0 B0 C0 1 0 0 1
  p : posF A B C
  a : Sz n A
  b : Sz n B
  c : Sz n C
  r : TR A0 B0 C0 A B C x y z t
theorem gsR_0 {n : Nat} {A B C : Int} (hp : posF A B C) (ha : Sz n A) (hb : Sz n B) (hc : Sz n C) : GsR n A B C A B C 1 0 0 1 := ⟨rfl, hp, ha, hb, hc, TR_0 A B C⟩
theorem gsR_s {n : Nat} {A0 B0 C0 A B C x y z t : Int} (h : GsR n A0 B0 C0 A B C x y z t) (h2 : ¬ redF A (sB A B) (sC A B C)) : GsR n A0 B0 C0 (sC A B C) (-(sB A B)) A (y + x * kF A B) (-x) (t + z * kF A B) (-z) := by
  have h3 := pos_s h.p
  have h4 := sB_rng (B := B) h.p.1
  have h5 : sC A B C ≤ A := by unfold redF at h2; omega
  exact ⟨(gs_go h.p h2).trans h.e, pos_next h.p, h.a.le (by omega), h.a.le (by omega), h.a, TR_n (TR_s h.r)⟩
theorem gsR_end {n : Nat} {A0 B0 C0 A B C x y z t : Int} (h : GsR n A0 B0 C0 A B C x y z t) (h2 : redF A (sB A B) (sC A B C)) : ((A, sB A B, sC A B C), [x, y + x * kF A B, z, t + z * kF A B]) = gs A0 B0 C0 1 0 0 1 := (gs_end h2).trans h.e
theorem kF_abs (A B : Int) : (kF A B).natAbs ≤ (A - B).natAbs := by
  unfold kF
  rcases Int.lt_or_le (A + A) 0 with h | h
  · have : (A - B).fdiv (A + A) = (-(A - B)).fdiv (-(A + A)) := (Int.neg_fdiv_neg _ _).symm
    rw [this, Int.fdiv_eq_ediv_of_nonneg _ (by omega)]
    have := Int.natAbs_ediv_le_natAbs (-(A - B)) (-(A + A))
    rwa [Int.natAbs_neg] at this
  · rw [Int.fdiv_eq_ediv_of_nonneg _ h]
    exact Int.natAbs_ediv_le_natAbs _ _
theorem kF_sz {n : Nat} {A B : Int} (ha : Sz n A) (hb : Sz n B) : Sz (n + n + 1) (kF A B) := (ha.sub hb).le (kF_abs A B)
theorem sC_sz {n : Nat} {A B C : Int} (ha : Sz n A) (hb : Sz n B) (hc : Sz n C) : Sz (7 * n + 10) (sC A B C) := by
  have hk := kF_sz ha hb
  exact ((((ha.mul hk).add hb).mul hk).add hc).up (by omega)
/-- All that the steps make is of modest size. -/
structure GsS (A B C x y z t : Int) : Prop where
  a : Sm A
  b : Sm B
  c : Sm C
  ab : Sm (A - B)
  aa : Sm (A + A)
  k : Sm (kF A B)
  ak : Sm (A * kF A B)
  a2k : Sm (A * kF A B + A * kF A B)
  akb : Sm (A * kF A B + B)
  akbk : Sm ((A * kF A B + B) * kF A B)
  sb : Sm (sB A B)
  sc : Sm (sC A B C)
  ac : Sm (A - sC A B C)
  fx : Sm x
  fy : Sm y
  fz : Sm z
  ft : Sm t
  xk : Sm (x * kF A B)
  zk : Sm (z * kF A B)
  yk : Sm (y + x * kF A B)
  tk : Sm (t + z * kF A B)
  t2 : Sm 2
  ta : Sm (2 * A)
  tak : Sm (2 * A * kF A B)
theorem gsR_S {n : Nat} {A0 B0 C0 A B C x y z t : Int} (hn : n ≤ 200000000) (hp : posF A0 B0 C0) (h1 : Sz n A0) (h2 : Sz n C0) (h : GsR n A0 B0 C0 A B C x y z t) : GsS A B C x y z t := by
  obtain ⟨_, hp1, ha, hb, hc, hr⟩ := h
  obtain ⟨hx, hy, hz, ht⟩ := TR_sz hp hr h1 h2 ha hc
  have hk := kF_sz ha hb
  have hak := ha.mul hk
  have hakb := hak.add hb
  have hsB := sB_rng (B := B) hp1.1
  have h22 : Sz 2 2 := by unfold Sz; decide
  have hsc := sC_sz ha hb hc
  exact ⟨ha.sm (by omega), hb.sm (by omega), hc.sm (by omega), (ha.sub hb).sm (by omega), (ha.add ha).sm (by omega), hk.sm (by omega), hak.sm (by omega), (hak.add hak).sm (by omega), hakb.sm (by omega), (hakb.mul hk).sm (by omega),
    (ha.le (y := sB A B) (by omega)).sm (by omega), hsc.sm (by omega), (ha.sub hsc).sm (by omega), hx.sm (by omega), hy.sm (by omega), hz.sm (by omega), ht.sm (by omega), (hx.mul hk).sm (by omega), (hz.mul hk).sm (by omega), (hy.add (hx.mul hk)).sm (by omega), (ht.add (hz.mul hk)).sm (by omega),
    h22.sm (by omega), (h22.mul ha).sm (by omega), ((h22.mul ha).mul hk).sm (by omega)⟩
/-- What comes of the steps. -/
theorem gs_TR (A0 B0 C0 : Int) (n : Nat) (hp : posF A0 B0 C0) (h1 : Sz n A0) (h2 : Sz n C0) (A B C x y z t : Int) : GsR n A0 B0 C0 A B C x y z t →
    ∃ a b c x' y' z' t', gs A B C x y z t = ((a, b, c), [x', y', z', t']) ∧ TR A0 B0 C0 a b c x' y' z' t' ∧ Sz (7 * n + 10) a ∧ Sz (7 * n + 10) b ∧ Sz (7 * n + 10) c := by
  induction A, B, C, x, y, z, t using gs.induct with
  | case1 A B C x y z t h ih =>
    intro hr
    have := ih (gsR_s hr h.2)
    rwa [gs_go h.1 h.2] at this
  | case2 A B C x y z t h =>
    intro hr
    have hred : redF A (sB A B) (sC A B C) := by
      by_cases h3 : redF A (sB A B) (sC A B C)
      · exact h3
      · exact absurd ⟨hr.p, h3⟩ h
    have hsB := sB_rng (B := B) hr.p.1
    exact ⟨_, _, _, _, _, _, _, (gs_end hred).symm, TR_s hr.r, hr.a.up (by omega), (hr.a.le (y := sB A B) (by omega)).up (by omega), sC_sz hr.a hr.b hr.c⟩
/-- Sizes of a value's parts. -/
structure TvS (A B C x y : Int) : Prop where
  xx : Sm (x * x)
  axx : Sm (A * (x * x))
  xy : Sm (x * y)
  bxy : Sm (B * (x * y))
  ab : Sm (A * (x * x) + B * (x * y))
  yy : Sm (y * y)
  cyy : Sm (C * (y * y))
theorem tv_sz {n m : Nat} {A B C x y : Int} (ha : Sz n A) (hb : Sz n B) (hc : Sz n C) (hx : Sz m x) (hy : Sz m y) : Sz (3 * n + 6 * m + 2) (tv A B C x y) :=
  (((ha.mul (hx.mul hx)).add (hb.mul (hx.mul hy))).add (hc.mul (hy.mul hy))).up (by omega)
theorem TvS_of {n m : Nat} {A B C x y : Int} (ha : Sz n A) (hb : Sz n B) (hc : Sz n C) (hx : Sz m x) (hy : Sz m y) (hn : n ≤ 10000000000) (hm : m ≤ 10000000000) : TvS A B C x y :=
  ⟨(hx.mul hx).sm (by omega), (ha.mul (hx.mul hx)).sm (by omega), (hx.mul hy).sm (by omega), (hb.mul (hx.mul hy)).sm (by omega), ((ha.mul (hx.mul hx)).add (hb.mul (hx.mul hy))).sm (by omega), (hy.mul hy).sm (by omega), (hc.mul (hy.mul hy)).sm (by omega)⟩
structure DiS (A B C : Int) : Prop where
  bb : Sm (B * B)
  ac : Sm (A * C)
  ac4 : Sm (4 * (A * C))
  f4 : Sm 4
theorem DiS_of {n : Nat} {A B C : Int} (ha : Sz n A) (hb : Sz n B) (hc : Sz n C) (hn : n ≤ 10000000000) : DiS A B C :=
  ⟨(hb.mul hb).sm (by omega), (ha.mul hc).sm (by omega), ((Sz_4 0).mul (ha.mul hc)).sm (by omega), (Sz_4 0).sm (by omega)⟩
/-- Sizes of a shift. -/
structure ShS (A B C k : Int) : Prop where
  a : Sm A
  b : Sm B
  c : Sm C
  ak : Sm (A * k)
  a2k : Sm (A * k + A * k)
  akb : Sm (A * k + B)
  akbk : Sm ((A * k + B) * k)
theorem GsS.sh {A B C x y z t : Int} (h : GsS A B C x y z t) : ShS A B C (kF A B) := ⟨h.a, h.b, h.c, h.ak, h.a2k, h.akb, h.akbk⟩
theorem sgn_p {a : Int} (h : 0 < a) : 0 < a.sign := by rw [Int.sign_eq_one_of_pos h]; decide
theorem sgn_np {a : Int} (h : ¬ 0 < a) : ¬ 0 < a.sign := fun h1 => by
  rcases Int.lt_trichotomy a 0 with h2 | h2 | h2
  · rw [Int.sign_eq_neg_one_of_neg h2] at h1; omega
  · subst h2; simp at h1
  · exact h h2
theorem sgn_lti {a b : Int} : (a - b).sign < 0 ↔ a < b := by
  constructor
  · intro h; have := sgn_lt0 h; omega
  · intro h; rw [Int.sign_eq_neg_one_of_neg (by omega)]; decide
theorem sound_t {A B C : Int} (h : 0 < A) : decide ((B * B - 4 * (A * C)).sign < 0) = decide (posF A B C) := by
  rw [decide_eq_decide, sgn_lti]
  unfold posF
  exact ⟨fun h1 => ⟨h, h1⟩, fun h1 => h1.2⟩
theorem sound_f {A B C : Int} (h : ¬ 0 < A) : false = decide (posF A B C) := by
  rw [eq_comm, decide_eq_false_iff_not]
  exact fun h1 => h h1.1
theorem red_t {A B C : Int} (h : (A - C).sign < 0) : redF A B C := .inl (sgn_lti.1 h)
theorem red_e {A B C : Int} (h : (A - C).sign = 0) (h2 : 0 ≤ B.sign) : redF A B C := .inr ⟨by have := Int.sign_eq_zero_iff_zero.1 h; omega, by
  rcases Int.lt_or_le B 0 with h3 | h3
  · rw [Int.sign_eq_neg_one_of_neg h3] at h2; omega
  · exact h3⟩
theorem nred_b {A B C : Int} (h0 : ¬ (A - C).sign < 0) (h2 : ¬ 0 ≤ B.sign) : ¬ redF A B C := by
  rintro (h | ⟨_, h⟩)
  · exact h0 (sgn_lti.2 h)
  · apply h2
    rcases Int.lt_trichotomy B 0 with h3 | h3 | h3
    · omega
    · subst h3; decide
    · rw [Int.sign_eq_one_of_pos h3]; decide
theorem nred_e {A B C : Int} (h0 : ¬ (A - C).sign < 0) (h2 : ¬ (A - C).sign = 0) : ¬ redF A B C := by
  rintro (h | ⟨h, _⟩)
  · exact h0 (sgn_lti.2 h)
  · apply h2; rw [h]; simp
theorem gs_dec' {A B C : Int} (hp : posF A B C) (h : ¬ redF A (sB A B) (sC A B C)) : 2 * (sC A B C).toNat + gFlag (sC A B C) (-(sB A B)) < 2 * A.toNat + gFlag A B := g_dec ⟨hp, h⟩
theorem k2F (A B : Int) : (A - B).fdiv (2 * A) = kF A B := by unfold kF; rw [Int.two_mul]
theorem sB2 (A B : Int) : B + 2 * A * kF A B = sB A B := by unfold sB; rw [Int.two_mul, Int.add_mul]
/-- The document's numbers: the reduced form alone. -/
structure G1R (n : Nat) (A0 B0 C0 A B C : Int) : Prop where
  e : g1 A B C = g1 A0 B0 C0
  s : ∃ x y z t, GsR n A0 B0 C0 A B C x y z t
theorem g1R_0 {n : Nat} {A B C : Int} (hp : posF A B C) (ha : Sz n A) (hb : Sz n B) (hc : Sz n C) : G1R n A B C A B C := ⟨rfl, _, _, _, _, gsR_0 hp ha hb hc⟩
theorem g1R_s {n : Nat} {A0 B0 C0 A B C : Int} (h : G1R n A0 B0 C0 A B C) (h2 : ¬ redF A (sB A B) (sC A B C)) : G1R n A0 B0 C0 (sC A B C) (-(sB A B)) A := by
  obtain ⟨he, x, y, z, t, hr⟩ := h
  exact ⟨(g1_go hr.p h2).trans he, _, _, _, _, gsR_s hr h2⟩
theorem g1R_S {n : Nat} {A0 B0 C0 A B C : Int} (hn : n ≤ 200000000) (hp : posF A0 B0 C0) (h1 : Sz n A0) (h2 : Sz n C0) (h : G1R n A0 B0 C0 A B C) : posF A B C ∧ GsS A B C 0 0 0 0 := by
  obtain ⟨he, x, y, z, t, hr⟩ := h
  have h3 := gsR_S hn hp h1 h2 hr
  have h0 : Sm 0 := (Sz.zero 0).sm (by omega)
  exact ⟨hr.p, h3.a, h3.b, h3.c, h3.ab, h3.aa, h3.k, h3.ak, h3.a2k, h3.akb, h3.akbk, h3.sb, h3.sc, h3.ac, h0, h0, h0, h0, by rw [Int.zero_mul]; exact h0, by rw [Int.zero_mul]; exact h0, by rw [Int.zero_mul]; exact h0, by rw [Int.zero_mul]; exact h0, h3.t2, h3.ta, h3.tak⟩
theorem g1R_end {n : Nat} {A0 B0 C0 A B C : Int} (h : G1R n A0 B0 C0 A B C) (h2 : redF A (sB A B) (sC A B C)) : (A, sB A B, sC A B C) = g1 A0 B0 C0 := (g1_end h2).trans h.e
end Fw


/- Plain facts: what the functions on binary forms answer. -/
set_option linter.unusedVariables false
set_option linter.unusedSimpArgs false
set_option exponentiation.threshold 400
namespace Fw
open Go

def oneV (A B C D E F : Int) : Bool × Int := if posF A B C ∧ posF D E F then (decide (g1 A B C = g1 D E F), 0) else (false, 221)
theorem oneV_n {A B C D E F : Int} (h : ¬ (posF A B C ∧ posF D E F)) : oneV A B C D E F = (false, 221) := by unfold oneV; rw [if_neg h]
theorem oneV_p {A B C D E F : Int} (h1 : posF A B C) (h2 : posF D E F) : oneV A B C D E F = (decide (g1 A B C = g1 D E F), 0) := by unfold oneV; rw [if_pos ⟨h1, h2⟩]
theorem eq3_t {p q : Int × Int × Int} (h1 : (p.1 - q.1).sign = 0) (h2 : (p.2.1 - q.2.1).sign = 0) : decide ((p.2.2 - q.2.2).sign = 0) = decide (p = q) := by
  have e1 := sgn_eq h1
  have e2 := sgn_eq h2
  rw [decide_eq_decide]
  constructor
  · intro h3; exact Prod.ext e1 (Prod.ext e2 (sgn_eq h3))
  · intro h3; rw [h3]; simp
theorem eq3_b {p q : Int × Int × Int} (h2 : ¬ (p.2.1 - q.2.1).sign = 0) : false = decide (p = q) := by
  rw [eq_comm, decide_eq_false_iff_not]
  intro h; apply h2; rw [h]; simp
theorem eq3_a {p q : Int × Int × Int} (h2 : ¬ (p.1 - q.1).sign = 0) : false = decide (p = q) := by
  rw [eq_comm, decide_eq_false_iff_not]
  intro h; apply h2; rw [h]; simp
theorem sgn_pi {a : Int} (h : 0 < a.sign) : 0 < a := by
  by_cases h1 : 0 < a
  · exact h1
  · exact absurd h (sgn_np h1)
theorem sgn_npi {a : Int} (h : ¬ 0 < a.sign) : ¬ 0 < a := fun h1 => h (sgn_p h1)
theorem sg_0 (a : Int) : (a - a).sign = 0 := by simp
theorem sg_nne' {a b : Int} (h : a = b) : ¬ (a - b).sign ≠ 0 := by subst h; simp
/-- All of the end: numbers, what holds of them, sizes. -/
theorem gs_all {A B C : Int} {n : Nat} (hn : n ≤ 100000000) (hp : posF A B C) (ha : Sz n A) (hb : Sz n B) (hc : Sz n C) :
    ∃ a b c x y z t, gs A B C 1 0 0 1 = ((a, b, c), [x, y, z, t]) ∧ TR A B C a b c x y z t ∧ Sz (8 * n + 13) a ∧ Sz (8 * n + 13) b ∧ Sz (8 * n + 13) c ∧ Sz (8 * n + 13) x ∧ Sz (8 * n + 13) y ∧ Sz (8 * n + 13) z ∧ Sz (8 * n + 13) t := by
  obtain ⟨a, b, c, x, y, z, t, h1, h2, h3, h4, h5⟩ := gs_TR A B C n hp ha hc A B C 1 0 0 1 (gsR_0 hp ha hb hc)
  obtain ⟨hx, hy, hz, ht⟩ := TR_sz hp h2 ha hc h3 h5
  exact ⟨a, b, c, x, y, z, t, h1, h2, h3.up (by omega), h4.up (by omega), h5.up (by omega), hx.up (by omega), hy.up (by omega), hz.up (by omega), ht.up (by omega)⟩
theorem gs_Sz {A B C : Int} {n : Nat} (hn : n ≤ 100000000) (hp : posF A B C) (ha : Sz n A) (hb : Sz n B) (hc : Sz n C) : Sz (8 * n + 13) (gs A B C 1 0 0 1).1.1 ∧ Sz (8 * n + 13) (gs A B C 1 0 0 1).1.2.1 ∧ Sz (8 * n + 13) (gs A B C 1 0 0 1).1.2.2 := by
  obtain ⟨a, b, c, x, y, z, t, h1, _, h3, h4, h5, _⟩ := gs_all hn hp ha hb hc
  rw [h1]; exact ⟨h3, h4, h5⟩
theorem gs_Sm {A B C : Int} {n : Nat} (hn : n ≤ 100000000) (hp : posF A B C) (ha : Sz n A) (hb : Sz n B) (hc : Sz n C) : Sm (gs A B C 1 0 0 1).1.1 ∧ Sm (gs A B C 1 0 0 1).1.2.1 ∧ Sm (gs A B C 1 0 0 1).1.2.2 := by
  obtain ⟨h1, h2, h3⟩ := gs_Sz hn hp ha hb hc
  exact ⟨h1.sm (by omega), h2.sm (by omega), h3.sm (by omega)⟩
structure SameS (p q : Int × Int × Int) : Prop where
  p1 : Sm p.1
  p2 : Sm p.2.1
  p3 : Sm p.2.2
  q1 : Sm q.1
  q2 : Sm q.2.1
  q3 : Sm q.2.2
  d1 : Sm (p.1 - q.1)
  d2 : Sm (p.2.1 - q.2.1)
  d3 : Sm (p.2.2 - q.2.2)
theorem SameS_of {A B C D E F : Int} {n : Nat} (hn : n ≤ 100000000) (hp : posF A B C) (hq : posF D E F) (ha : Sz n A) (hb : Sz n B) (hc : Sz n C) (hd : Sz n D) (he : Sz n E) (hf : Sz n F) : SameS (g1 A B C) (g1 D E F) := by
  obtain ⟨h1, h2, h3⟩ := gs_Sz hn hp ha hb hc
  obtain ⟨k1, k2, k3⟩ := gs_Sz hn hq hd he hf
  exact ⟨h1.sm (by omega), h2.sm (by omega), h3.sm (by omega), k1.sm (by omega), k2.sm (by omega), k3.sm (by omega), (h1.sub k1).sm (by omega), (h2.sub k2).sm (by omega), (h3.sub k3).sm (by omega)⟩
def GV (A B C : Int) : (Int × Int × Int) × List Int × Int := if posF A B C then ((gs A B C 1 0 0 1).1, (gs A B C 1 0 0 1).2, 0) else ((0, 0, 0), List.replicate 4 0, 221)
theorem GV_p {A B C : Int} (h : posF A B C) : GV A B C = ((gs A B C 1 0 0 1).1, (gs A B C 1 0 0 1).2, 0) := by unfold GV; rw [if_pos h]
theorem GV_n {A B C : Int} (h : ¬ posF A B C) : GV A B C = ((0, 0, 0), List.replicate 4 0, 221) := by unfold GV; rw [if_neg h]
theorem Dis_Sm {A B C : Int} {n : Nat} (ha : Sz n A) (hb : Sz n B) (hc : Sz n C) (hn : n ≤ 10000000000) : Sm (B * B - 4 * (A * C)) := ((hb.mul hb).sub ((Sz_4 0).mul (ha.mul hc))).sm (by omega)
/-- Sizes of the check of a change. -/
structure TuS (A B C a b c x y z t : Int) : Prop where
  fa : Sm a
  fb : Sm b
  fc : Sm c
  fx : Sm x
  fy : Sm y
  fz : Sm z
  ft : Sm t
  xt : Sm (x * t)
  yz : Sm (y * z)
  d : Sm (x * t - y * z)
  d1 : Sm (x * t - y * z - 1)
  o : Sm 1
  xy : Sm (x + y)
  zt : Sm (z + t)
  v1 : TvS A B C x z
  v2 : TvS A B C y t
  v3 : TvS A B C (x + y) (z + t)
  s : Sm (tv A B C (x + y) (z + t))
  ac : Sm (a + c)
  a0 : Sm (a - a)
  b0 : Sm (b - b)
  c0 : Sm (c - c)
theorem TuS_of {A B C a b c x y z t : Int} {n : Nat} (hn : n ≤ 1000000000) (ha : Sz n A) (hb : Sz n B) (hc : Sz n C) (h1 : Sz n a) (h2 : Sz n b) (h3 : Sz n c) (h4 : Sz n x) (h5 : Sz n y) (h6 : Sz n z) (h7 : Sz n t) : TuS A B C a b c x y z t := by
  have h0 : Sm 0 := (Sz.zero 0).sm (by omega)
  have ho : Sz 1 1 := by unfold Sz; decide
  have hxt := h4.mul h7
  have hyz := h5.mul h6
  have hxy := h4.add h5
  have hzt := h6.add h7
  exact ⟨h1.sm (by omega), h2.sm (by omega), h3.sm (by omega), h4.sm (by omega), h5.sm (by omega), h6.sm (by omega), h7.sm (by omega), hxt.sm (by omega), hyz.sm (by omega), (hxt.sub hyz).sm (by omega), ((hxt.sub hyz).sub ho).sm (by omega), ho.sm (by omega), hxy.sm (by omega), hzt.sm (by omega),
    TvS_of ha hb hc h4 h6 (by omega) (by omega), TvS_of ha hb hc h5 h7 (by omega) (by omega), TvS_of ha hb hc hxy hzt (by omega) (by omega), (tv_sz ha hb hc hxy hzt).sm (by omega), (h1.add h3).sm (by omega),
    by rw [Int.sub_self]; exact h0, by rw [Int.sub_self]; exact h0, by rw [Int.sub_self]; exact h0⟩
theorem OB.C3_Z3 {g : Nat} {e : TypeId} {x y z : Int} (h1 : Sm x) (h2 : Sm y) (h3 : Sm z) : OB.le (OB.box g e (kPair kC (kPair kC kC)) (x, y, z)) (OB.box g e (kPair kZ (kPair kZ kZ)) (x, y, z)) :=
  OB.box_kd fun m cs ⟨a, b, e, ha, c, d, e2, hc, hd⟩ => ⟨a, b, e, kC_Zat h1 ha, c, d, e2, kC_Zat h2 hc, kC_Zat h3 hd⟩
end Fw


/- Gauss on binary forms: what the functions answer. -/
set_option linter.unusedVariables false
set_option linter.unusedSimpArgs false
set_option exponentiation.threshold 400
namespace Fw
open Go Go.Proofs

set_option maxRecDepth 20000 in
set_option maxHeartbeats 1000000 in
theorem c_law22_own (z : Int) : Fn Try.prog 23 [kZ.is z] (kZ.is z) := by
  refine Con.enter Try.func23 rfl rfl fun m w => ?_
  refine ST.z 0 rfl fun y y_v y_n y_l => ?_
  refine CW.seq ?_
  refine CW.region ?_
  refine WP.bx .n rfl fun b1 => ?_
  refine WP.al .n z31_C fun b2 => ?_
  refine WP.nil ?_
  refine QE.next ?_
  refine CW.seq ?_
  refine CW.region ?_
  refine WP.s .n (O.asg rfl) ?_
  refine WP.nil ?_
  refine QE.next ?_
  refine CW.seq ?_
  refine ST.nilrow 121 kLimb ?_
  refine CW.region ?_
  refine WP.s .n (O.mv rfl) ?_
  refine WP.s .n (O.fa rfl fld31_1 rfl) ?_
  refine WP.s .n (O.ld (p := kN.is y.2) rfl (mem_at 2 rfl) (Lens.snd (Lens.id _)) ty29 rfl) ?_
  refine WP.ap 0 .n rfl rfl rfl (VP.le_refl _) Try.underlying29 el121_limb (by simp; omega) fun v3 => ?_
  refine WP.s .n (O.asg rfl) ?_
  refine WP.nil ?_
  refine QE.next ?_
  refine CW.seq ?_
  refine CW.region ?_
  refine WP.s .n (O.mv rfl) ?_
  refine WP.s .n (O.bs Try.underlying29 el121_limb (evl.l rfl (u32_limb (x := 77) (by omega)) (evl.l rfl (u32_limb (x := 78) (by omega)) (evl.l rfl (u32_limb (x := 79) (by omega)) (evl.l rfl (u32_limb (x := 80) (by omega)) (evl.l rfl (u32_limb (x := 81) (by omega)) (evl.l rfl (u32_limb (x := 82) (by omega)) (evl.l rfl (u32_limb (x := 83) (by omega)) (evl.l rfl (u32_limb (x := 84) (by omega)) (evl.l rfl (u32_limb (x := 85) (by omega)) evl.n))))))))) rfl (by decide)) ?_
  refine WP.ap 0 .n rfl rfl rfl (VP.le_refl _) Try.underlying29 el121_limb (by simp; omega) fun v4 => ?_
  refine WP.s .n (O.asg rfl) ?_
  refine WP.nil ?_
  refine QE.next ?_
  refine CW.seq ?_
  refine ST.freeze 0 rfl (.keep (i := 0) rfl (.keep (i := 1) rfl (.keep (i := 2) rfl (.hit (i := 3) rfl (.keep (i := 4) rfl (.keep (i := 5) rfl (.keep (i := 6) rfl (.keep (i := 7) rfl (.keep (i := 8) rfl (.keep (i := 9) rfl (.hit (i := 10) rfl .nil))))))))))) ?_
  refine CW.draw (Γ := [.fr (VP.ex (.pointer (some ⟨b1, 0, none⟩))), .fr (kBool.is y.1), .fr (kN.is (y.2 ++ [77, 78, 79, 80, 81, 82, 83, 84, 85])), .fr (VP.ex (.pointer (some ⟨b1, 1, none⟩))), .fr (kN.is y.2), .fr ((kInt .i64).is (y.2.length : Int)), .fr (kN.is ((y.2 ++ [77, 78, 79, 80, 81, 82, 83, 84, 85]).take y.2.length)), .fr (kI.is (y.1, ((y.2 ++ [77, 78, 79, 80, 81, 82, 83, 84, 85]).take y.2.length)))]) (lates := [false, false, false, false, false, false, false, false]) (by kernel_rfl) (Chk.of rfl (by kernel_rfl) rfl) (fun _ _ _ _ _ h => h) (fun q_ x_ h_ => ?_) (fun σ1 => ?_)
  · match q_, h_ with
    | 0, h_ => cases h_; exact Ob.f rfl .n fun N => (O.fa rfl fld31_0 rfl)
    | 1, h_ => cases h_; exact Ob.f rfl .n fun N => (O.ld (p := kBool.is y.1) rfl (mem_app N (mem_at 1 rfl)) (Lens.fst (Lens.id _)) ty4 rfl)
    | 2, h_ => cases h_; exact Ob.f rfl .n fun N => (O.mv rfl)
    | 3, h_ => cases h_; exact Ob.f rfl .n fun N => (O.fa rfl fld31_1 rfl)
    | 4, h_ => cases h_; exact Ob.f rfl .n fun N => (O.ld (p := kN.is y.2) rfl (mem_app N (mem_at 1 rfl)) (Lens.snd (Lens.id _)) ty29 rfl)
    | 5, h_ => cases h_; exact Ob.f rfl .n fun N => (O.lenS rfl Try.underlying29)
    | 6, h_ => cases h_; exact Ob.f rfl .n fun N => (O.slH y.2.length rfl rfl Try.underlying29 ty121 rfl (by simp))
    | 7, h_ => cases h_; exact Ob.f rfl .n fun N => (O.bld lit31_I rfl (evp.c rfl (evp.c rfl evp.n)) (.cons rfl (Lens.fst (Lens.id _)) (.cons rfl (Lens.snd (Lens.id _)) (.nil _))))
    | n_ + 8, h_ => simp at h_
  refine WP.t .n (O.stW (l := kI) (u := (y.1, ((y.2 ++ [77, 78, 79, 80, 81, 82, 83, 84, 85]).take y.2.length))) 0 rfl rfl rfl ty31 rfl (VP.le_refl _)) ?_
  refine WP.nil ?_
  refine QE.next ?_
  refine CW.ret ?_
  refine ST.obtold (b' := OB.box b2 31 kZ z) 0 rfl (OB.I_Z (own_val y_v) (by simp; omega)) ?_
  exact QE.done (.inl rfl) rfl (ResOk.c rfl (mem_at 0 rfl) ty31 ResOk.nil) (OImp.sub (List.nil_sublist _)) ⟨rfl, rfl⟩

set_option maxRecDepth 20000 in
set_option maxHeartbeats 1000000 in
theorem c_law22_eq (x y : Bool × List Nat) : Fn Try.prog 29 [kI.is x, kI.is y] (kBool.is (decide (x = y))) := by
  refine Con.enter Try.func29 rfl rfl fun m w => ?_
  refine CW.seq ?_
  refine CW.region ?_
  refine WP.bx .n rfl fun b1 => ?_
  refine WP.bx .n rfl fun b2 => ?_
  refine WP.s .n (O.asg rfl) ?_
  refine WP.nil ?_
  refine QE.next ?_
  refine CW.seq ?_
  refine CW.seq ?_
  refine CW.region ?_
  refine WP.s .n (O.fa rfl fld31_0 rfl) ?_
  refine WP.s .n (O.ld rfl (mem_at 1 rfl) (Lens.fst (Lens.id _)) ty4 rfl) ?_
  refine WP.s .n (O.fa rfl fld31_0 rfl) ?_
  refine WP.s .n (O.ld rfl (mem_at 0 rfl) (Lens.fst (Lens.id _)) ty4 rfl) ?_
  refine WP.s .n (O.neB rfl rfl Try.underlying4) ?_
  refine WP.s .n (O.mv rfl) ?_
  refine WP.splitD 11 rfl (fun h_t11 => ?_) (fun h_t11 => ?_)
  · refine WP.ku (b := true) rfl rfl ?_
    refine WP.ku (b := true) rfl rfl ?_
    refine WP.ku (b := true) rfl rfl ?_
    refine WP.ku (b := true) rfl rfl ?_
    refine WP.ku (b := true) rfl rfl ?_
    refine WP.ku (b := true) rfl rfl ?_
    refine WP.ku (b := true) rfl rfl ?_
    refine WP.s .n (O.pickT rfl rfl) ?_
    refine WP.nil ?_
    refine QE.next ?_
    refine CW.condT rfl ?_
    refine CW.seq ?_
    refine CW.region ?_
    refine WP.s .n (O.asg rfl) ?_
    refine WP.nil ?_
    refine QE.next ?_
    refine CW.ret ?_
    refine QE.thenR ?_
    refine ST.told 4 rfl (is_eq (y := (decide (x = y))) (by rw [eq_comm, decide_eq_false_iff_not]; intro e; exact h_t11 (by rw [e]))) ?_
    exact QE.done (.inl rfl) rfl (ResOk.t rfl ResOk.nil) (OImp.sub (List.nil_sublist _)) ⟨rfl, rfl⟩
  · refine WP.s (.g rfl rfl) (O.fa rfl fld31_1 rfl) ?_
    refine WP.s (.g rfl rfl) (O.ld rfl (mem_at 1 rfl) (Lens.snd (Lens.id _)) ty29 rfl) ?_
    refine WP.s (.g rfl rfl) (O.lenS rfl Try.underlying29) ?_
    refine WP.s (.g rfl rfl) (O.fa rfl fld31_1 rfl) ?_
    refine WP.s (.g rfl rfl) (O.ld rfl (mem_at 0 rfl) (Lens.snd (Lens.id _)) ty29 rfl) ?_
    refine WP.s (.g rfl rfl) (O.lenS rfl Try.underlying29) ?_
    refine WP.s (.g rfl rfl) (O.ne rfl rfl) ?_
    refine WP.s .n (O.pickF rfl rfl) ?_
    refine WP.nil ?_
    refine QE.next ?_
    refine CW.condD rfl (fun h_t19 => ?_) (fun h_t19 => ?_)
    · refine CW.seq ?_
      refine CW.region ?_
      refine WP.s .n (O.asg rfl) ?_
      refine WP.nil ?_
      refine QE.next ?_
      refine CW.ret ?_
      refine QE.thenR ?_
      refine ST.told 4 rfl (is_eq (y := (decide (x = y))) (by rw [eq_comm, decide_eq_false_iff_not]; intro e; exact h_t19 (by rw [e]))) ?_
      exact QE.done (.inl rfl) rfl (ResOk.t rfl ResOk.nil) (OImp.sub (List.nil_sublist _)) ⟨rfl, rfl⟩
    · refine CW.skip ?_
      refine QE.next ?_
      refine CW.seq ?_
      refine CW.seq ?_
      refine ST.fact (i := 13) rfl sl_len fun hB => ?_
      refine CW.region ?_
      refine WP.s .n (O.asg rfl) ?_
      refine WP.nil ?_
      refine QE.next ?_
      refine CW.block ?_
      refine CW.loop (fun (i : Nat) => i ≤ x.2.length ∧ x.2.take i = y.2.take i) (fun (i : Nat) => [(2, VP.ex (.pointer (some ⟨b1, 0, none⟩))), (3, VP.ex (.pointer (some ⟨b2, 0, none⟩))), (5, (kInt .i64).is (i : Int))]) (fun (i : Nat) => [OB.box b2 31 kI y, OB.box b1 31 kI x]) (fun (i : Nat) => x.2.length - i) 0 ⟨Nat.zero_le _, rfl⟩ (Imp.cons rfl (Imp.cons rfl (Imp.consLe rfl (is_eq (y := (0 : Int)) (by omega)) Imp.nil))) (OImp.refl _) ?_
      intro i ⟨hi, ht⟩
      refine CW.seq ?_
      refine CW.seq ?_
      refine CW.region ?_
      refine WP.s .n (O.mv rfl) ?_
      refine WP.s .n (O.fa rfl fld31_1 rfl) ?_
      refine WP.s .n (O.ld rfl (mem_at 1 rfl) (Lens.snd (Lens.id _)) ty29 rfl) ?_
      refine WP.s .n (O.lenS rfl Try.underlying29) ?_
      refine WP.s .n (O.lt rfl rfl) ?_
      refine WP.nil ?_
      refine QE.next ?_
      refine CW.condD rfl (fun h_t24 => ?_) (fun h_t24 => ?_)
      · refine CW.skip ?_
        refine QE.next ?_
        refine CW.seq ?_
        refine CW.block ?_
        refine CW.seq ?_
        refine CW.draw (Γ := [.fr (VP.ex (.pointer (some ⟨b1, 1, none⟩))), .fr (kN.is x.2), .fr ((kInt .i64).is (i : Int)), .fr (VP.pim kLimb (x.2.getD i 0)), .fr ((kInt .u32).is ((x.2.getD i 0) : Int)), .fr (VP.ex (.pointer (some ⟨b2, 1, none⟩))), .fr (kN.is y.2), .fr ((kInt .i64).is (i : Int)), .fr (VP.pim kLimb (y.2.getD i 0)), .fr ((kInt .u32).is ((y.2.getD i 0) : Int)), .fr (kBool.is (decide (((x.2.getD i 0) : Int) ≠ ((y.2.getD i 0) : Int))))]) (lates := [false, false, false, false, false, false, false, false, false, false, false]) (by kernel_rfl) (Chk.of rfl (by kernel_rfl) rfl) (fun _ _ _ _ _ h => h) (fun q_ x_ h_ => ?_) (fun σ1 => ?_)
        · match q_, h_ with
          | 0, h_ => cases h_; exact Ob.f rfl .n fun N => (O.fa rfl fld31_1 rfl)
          | 1, h_ => cases h_; exact Ob.f rfl .n fun N => (O.ld rfl (mem_app N (mem_at 1 rfl)) (Lens.snd (Lens.id _)) ty29 rfl)
          | 2, h_ => cases h_; exact Ob.f rfl .n fun N => (O.mv rfl)
          | 3, h_ => cases h_; exact Ob.f rfl .n fun N => (O.ix i rfl rfl Try.underlying29 ty121 rfl (v := (x.2.getD i 0)) (gd 0 (by omega)))
          | 4, h_ => cases h_; exact Ob.f rfl .n fun N => (OpOk.le (O.ldP rfl ty121) (limb_le _))
          | 5, h_ => cases h_; exact Ob.f rfl .n fun N => (O.fa rfl fld31_1 rfl)
          | 6, h_ => cases h_; exact Ob.f rfl .n fun N => (O.ld rfl (mem_app N (mem_at 0 rfl)) (Lens.snd (Lens.id _)) ty29 rfl)
          | 7, h_ => cases h_; exact Ob.f rfl .n fun N => (O.mv rfl)
          | 8, h_ => cases h_; exact Ob.f rfl .n fun N => (O.ix i rfl rfl Try.underlying29 ty121 rfl (v := (y.2.getD i 0)) (gd 0 (by omega)))
          | 9, h_ => cases h_; exact Ob.f rfl .n fun N => (OpOk.le (O.ldP rfl ty121) (limb_le _))
          | 10, h_ => cases h_; exact Ob.f rfl .n fun N => (O.ne rfl rfl)
          | n_ + 11, h_ => simp at h_
        refine WP.nil ?_
        refine QE.next ?_
        refine CW.condD rfl (fun h_t37 => ?_) (fun h_t37 => ?_)
        · refine CW.seq ?_
          refine CW.region ?_
          refine WP.s .n (O.asg rfl) ?_
          refine WP.nil ?_
          refine QE.next ?_
          refine CW.ret ?_
          refine QE.blkR ?_
          refine QE.thenR ?_
          refine QE.thenR ?_
          refine QE.blkR ?_
          refine QE.thenR ?_
          refine ST.told 4 rfl (is_eq (y := (decide (x = y))) (by rw [eq_comm, decide_eq_false_iff_not]; intro e; exact h_t37 (by rw [e]))) ?_
          exact QE.done (.inl rfl) rfl (ResOk.t rfl ResOk.nil) (OImp.sub (List.nil_sublist _)) ⟨rfl, rfl⟩
        · refine CW.skip ?_
          refine QE.blkN ?_
          refine QE.next ?_
          refine CW.region ?_
          refine WP.s .n (O.mv rfl) ?_
          refine WP.s .n (O.add rfl rfl (c := ((i : Int) + 1)) (w64 (by omega))) ?_
          refine WP.s .n (O.asg rfl) ?_
          refine WP.nil ?_
          exact QE.round (i + 1) (by omega) ⟨by omega, eq_take (d := 0) (by omega) (by omega) ht (by omega)⟩ (Imp.cons rfl (Imp.cons rfl (Imp.consLe rfl (is_eq (y := (((i + 1) : Nat) : Int)) (by omega)) Imp.nil))) (OImp.refl _)
      · refine CW.exit ?_
        refine QE.thenE ?_
        refine QE.thenE ?_
        refine QE.blkH ?_
        refine QE.next ?_
        refine CW.seq ?_
        refine CW.region ?_
        refine WP.s .n (O.asg rfl) ?_
        refine WP.nil ?_
        refine QE.next ?_
        refine CW.ret ?_
        refine ST.told 4 rfl (is_eq (y := (decide (x = y))) (by rw [eq_comm, decide_eq_true_iff]; exact Prod.ext (by simpa using h_t11) (eq_full (i := i) (by omega) (by omega) ht))) ?_
        exact QE.done (.inl rfl) rfl (ResOk.t rfl ResOk.nil) (OImp.sub (List.nil_sublist _)) ⟨rfl, rfl⟩

set_option maxRecDepth 20000 in
set_option maxHeartbeats 1000000 in
theorem c_quad_sound (A B C : Int) (hD : DiS A B C) : Fn Try.prog 85 [(kPair kZ (kPair kZ kZ)).is (A, B, C)] (kBool.is (decide (posF A B C))) := by
  refine Con.enter Try.func85 rfl rfl fun m w => ?_
  refine CW.seq ?_
  refine CW.region ?_
  refine WP.bx .n rfl fun b1 => ?_
  refine WP.s .n (O.asg rfl) ?_
  refine WP.nil ?_
  refine QE.next ?_
  refine CW.seq ?_
  refine CW.draw (Γ := [.fr (kC.is 4), .fr (VP.ex (.pointer (some ⟨b1, 0, none⟩))), .fr (kZ.is A), .fr (VP.ex (.pointer (some ⟨b1, 4, none⟩))), .fr (kZ.is C), .fr (kC.is (A * C)), .fr (kC.is (4 * (A * C))), .al (fun b => OB.box b 31 kC 0)]) (lates := [false, false, false, false, false, false, false, false]) (by kernel_rfl) (Chk.of rfl (by kernel_rfl) rfl) (fun _ _ _ _ _ h => h) (fun q_ x_ h_ => ?_) (fun σ1 => ?_)
  · match q_, h_ with
    | 0, h_ => cases h_; exact Ob.f rfl .n fun N => (O.fn fn74 (evs.l rfl (i64_int (by omega)) evs.nil) (c_zint_Of 4))
    | 1, h_ => cases h_; exact Ob.f rfl .n fun N => (O.fa rfl fld47_0 rfl)
    | 2, h_ => cases h_; exact Ob.f rfl .n fun N => (O.ld (p := kZ.is A) rfl (mem_app N (mem_at 0 rfl)) (Lens.fst (Lens.id _)) ty31 rfl)
    | 3, h_ => cases h_; exact Ob.f rfl .n fun N => (O.fa rfl fld47_2 rfl)
    | 4, h_ => cases h_; exact Ob.f rfl .n fun N => (O.ld (p := kZ.is C) rfl (mem_app N (mem_at 0 rfl)) (Lens.snd (Lens.snd (Lens.id _))) ty31 rfl)
    | 5, h_ => cases h_; exact Ob.f rfl .n fun N => (O.fn fn76 (evs.c rfl (evs.c rfl evs.nil)) (c_zint_Mul A C))
    | 6, h_ => cases h_; exact Ob.f rfl .n fun N => (O.fn fn76 (evs.l rfl (kC_Z hD.f4) (evs.l rfl (kC_Z hD.ac) evs.nil)) (c_zint_Mul 4 (A * C)))
    | 7, h_ => cases h_; exact Ob.a rfl z31_C
    | n_ + 8, h_ => simp at h_
  refine WP.t .n (O.stW (l := kC) (u := 4 * (A * C)) 0 rfl rfl rfl ty31 rfl (VP.le_refl _)) ?_
  refine WP.nil ?_
  refine QE.next ?_
  refine CW.seq ?_
  by_cases hA : 0 < A
  · refine CW.draw (Γ := [.fr (VP.ex (.pointer (some ⟨b1, 0, none⟩))), .fr (kZ.is A), .fr ((kInt .i64).is A.sign), .fr (kBool.is true), .fr (kBool.is true), .fr (VP.ex (.pointer (some ⟨b1, 2, none⟩))), .fr (kZ.is B), .fr (VP.ex (.pointer (some ⟨b1, 2, none⟩))), .fr (kZ.is B), .fr (kC.is (B * B)), .fr (kC.is (4 * (A * C))), .fr ((kInt .i64).is (((B * B) - (4 * (A * C))).sign)), .fr (kBool.is (decide ((((B * B) - (4 * (A * C))).sign) < 0))), .fr (kBool.is (decide ((((B * B) - (4 * (A * C))).sign) < 0)))]) (lates := [false, false, false, false, false, false, false, false, false, false, false, false, false, false]) (by kernel_rfl) (Chk.of rfl (by kernel_rfl) rfl) (fun _ _ _ _ _ h => h) (fun q_ x_ h_ => ?_) (fun σ2 => ?_)
    · match q_, h_ with
      | 0, h_ => cases h_; exact Ob.f rfl .n fun N => (O.fa rfl fld47_0 rfl)
      | 1, h_ => cases h_; exact Ob.f rfl .n fun N => (O.ld (p := kZ.is A) rfl (mem_app N (mem_at 1 rfl)) (Lens.fst (Lens.id _)) ty31 rfl)
      | 2, h_ => cases h_; exact Ob.f rfl .n fun N => (O.fn fn80 (evs.c rfl evs.nil) (c_zint_Sign A))
      | 3, h_ => cases h_; exact Ob.f rfl .n fun N => (OpOk.le (O.gt rfl rfl) (is_eq (decide_eq_true (sgn_p hA))))
      | 4, h_ => cases h_; exact Ob.f rfl .n fun N => (O.mv rfl)
      | 5, h_ => cases h_; exact Ob.f rfl (.g rfl rfl) fun N => (O.fa rfl fld47_1 rfl)
      | 6, h_ => cases h_; exact Ob.f rfl (.g rfl rfl) fun N => (O.ld (p := kZ.is B) rfl (mem_app N (mem_at 1 rfl)) (Lens.snd (Lens.fst (Lens.id _))) ty31 rfl)
      | 7, h_ => cases h_; exact Ob.f rfl (.g rfl rfl) fun N => (O.fa rfl fld47_1 rfl)
      | 8, h_ => cases h_; exact Ob.f rfl (.g rfl rfl) fun N => (O.ld (p := kZ.is B) rfl (mem_app N (mem_at 1 rfl)) (Lens.snd (Lens.fst (Lens.id _))) ty31 rfl)
      | 9, h_ => cases h_; exact Ob.f rfl (.g rfl rfl) fun N => (O.fn fn76 (evs.c rfl (evs.c rfl evs.nil)) (c_zint_Mul B B))
      | 10, h_ => cases h_; exact Ob.f rfl (.g rfl rfl) fun N => (O.ld rfl (mem_app N (mem_at 0 rfl)) (Lens.id _) ty31 rfl)
      | 11, h_ => cases h_; exact Ob.f rfl (.g rfl rfl) fun N => (O.fn fn75 (evs.l rfl (kC_Z hD.bb) (evs.l rfl (kC_Z hD.ac4) evs.nil)) (c_zint_Compare (B * B) (4 * (A * C))))
      | 12, h_ => cases h_; exact Ob.f rfl (.g rfl rfl) fun N => (O.lt rfl rfl)
      | 13, h_ => cases h_; exact Ob.f rfl .n fun N => (O.pickT rfl rfl)
      | n_ + 14, h_ => simp at h_
    refine WP.s .n (O.asg rfl) ?_
    refine WP.nil ?_
    refine QE.next ?_
    refine CW.ret ?_
    refine ST.told 2 rfl (is_eq (y := (decide (posF A B C))) (sound_t hA)) ?_
    exact QE.done (.inl rfl) rfl (ResOk.t rfl ResOk.nil) (OImp.sub (List.nil_sublist _)) ⟨rfl, rfl⟩
  · refine CW.draw (Γ := [.fr (VP.ex (.pointer (some ⟨b1, 0, none⟩))), .fr (kZ.is A), .fr ((kInt .i64).is A.sign), .fr (kBool.is false), .fr (kBool.is false), .fr (VP.ex undef), .fr (VP.ex undef), .fr (VP.ex undef), .fr (VP.ex undef), .fr (VP.ex undef), .fr (VP.ex undef), .fr (VP.ex undef), .fr (VP.ex undef), .fr (kBool.is false)]) (lates := [false, false, false, false, false, false, false, false, false, false, false, false, false, false]) (by kernel_rfl) (Chk.of rfl (by kernel_rfl) rfl) (fun _ _ _ _ _ h => h) (fun q_ x_ h_ => ?_) (fun σ3 => ?_)
    · match q_, h_ with
      | 0, h_ => cases h_; exact Ob.f rfl .n fun N => (O.fa rfl fld47_0 rfl)
      | 1, h_ => cases h_; exact Ob.f rfl .n fun N => (O.ld (p := kZ.is A) rfl (mem_app N (mem_at 1 rfl)) (Lens.fst (Lens.id _)) ty31 rfl)
      | 2, h_ => cases h_; exact Ob.f rfl .n fun N => (O.fn fn80 (evs.c rfl evs.nil) (c_zint_Sign A))
      | 3, h_ => cases h_; exact Ob.f rfl .n fun N => (OpOk.le (O.gt rfl rfl) (is_eq (decide_eq_false (sgn_np hA))))
      | 4, h_ => cases h_; exact Ob.f rfl .n fun N => (O.mv rfl)
      | 5, h_ => cases h_; exact Ob.ku (b := false) rfl rfl rfl
      | 6, h_ => cases h_; exact Ob.ku (b := false) rfl rfl rfl
      | 7, h_ => cases h_; exact Ob.ku (b := false) rfl rfl rfl
      | 8, h_ => cases h_; exact Ob.ku (b := false) rfl rfl rfl
      | 9, h_ => cases h_; exact Ob.ku (b := false) rfl rfl rfl
      | 10, h_ => cases h_; exact Ob.ku (b := false) rfl rfl rfl
      | 11, h_ => cases h_; exact Ob.ku (b := false) rfl rfl rfl
      | 12, h_ => cases h_; exact Ob.ku (b := false) rfl rfl rfl
      | 13, h_ => cases h_; exact Ob.f rfl .n fun N => (O.pickF rfl rfl)
      | n_ + 14, h_ => simp at h_
    refine WP.s .n (O.asg rfl) ?_
    refine WP.nil ?_
    refine QE.next ?_
    refine CW.ret ?_
    refine ST.told 2 rfl (is_eq (y := (decide (posF A B C))) (sound_f hA)) ?_
    exact QE.done (.inl rfl) rfl (ResOk.t rfl ResOk.nil) (OImp.sub (List.nil_sublist _)) ⟨rfl, rfl⟩

set_option maxRecDepth 20000 in
set_option maxHeartbeats 1000000 in
theorem c_quad_shift (A B C k : Int) (hS : ShS A B C k) : Fn Try.prog 160 [(kPair kC (kPair kC kC)).is (A, B, C), kZ.is k] ((kPair kC (kPair kC kC)).is (A, (B + (A * k + A * k)), ((A * k + B) * k + C))) := by
  refine Con.enter Try.func160 rfl rfl fun m w => ?_
  refine CW.seq ?_
  refine CW.region ?_
  refine WP.bx .n rfl fun b1 => ?_
  refine WP.bx .n rfl fun b2 => ?_
  refine WP.al .n z47_pr_C_pr_C_C__ fun b3 => ?_
  refine WP.nil ?_
  refine QE.next ?_
  refine CW.seq ?_
  refine CW.region ?_
  refine WP.s .n (O.fa rfl fld47_0 rfl) ?_
  refine WP.s .n (O.ld (p := kC.is A) rfl (mem_at 2 rfl) (Lens.fst (Lens.id _)) ty31 rfl) ?_
  refine WP.s .n (O.ld rfl (mem_at 1 rfl) (Lens.id _) ty31 rfl) ?_
  refine WP.s .n (O.fn fn76 (evs.l rfl (kC_Z hS.a) (evs.c rfl evs.nil)) (c_zint_Mul A k)) ?_
  refine WP.al .n z31_C fun b4 => ?_
  refine WP.t .n (O.stW (l := kC) (u := A * k) 0 rfl rfl rfl ty31 rfl (VP.le_refl _)) ?_
  refine WP.nil ?_
  refine QE.next ?_
  refine CW.seq ?_
  refine CW.draw (Γ := [.fr (VP.ex (.pointer (some ⟨b1, 0, none⟩))), .fr (kC.is A), .fr (VP.ex (.pointer (some ⟨b1, 2, none⟩))), .fr (kC.is B), .fr (kC.is (A * k)), .fr (kC.is (A * k)), .fr (kC.is ((A * k) + (A * k))), .fr (kC.is (B + ((A * k) + (A * k)))), .fr (kC.is (A * k)), .fr (VP.ex (.pointer (some ⟨b1, 2, none⟩))), .fr (kC.is B), .fr (kC.is ((A * k) + B)), .fr (kZ.is k), .fr (kC.is (((A * k) + B) * k)), .fr (VP.ex (.pointer (some ⟨b1, 4, none⟩))), .fr (kC.is C), .fr (kC.is ((((A * k) + B) * k) + C)), .fr ((kPair kC (kPair kC kC)).is (A, (B + ((A * k) + (A * k)), (((A * k) + B) * k) + C)))]) (lates := [false, false, false, false, false, false, false, false, false, false, false, false, false, false, false, false, false, false]) (by kernel_rfl) (Chk.of rfl (by kernel_rfl) rfl) (fun _ _ _ _ _ h => h) (fun q_ x_ h_ => ?_) (fun σ1 => ?_)
  · match q_, h_ with
    | 0, h_ => cases h_; exact Ob.f rfl .n fun N => (O.fa rfl fld47_0 rfl)
    | 1, h_ => cases h_; exact Ob.f rfl .n fun N => (O.ld (p := kC.is A) rfl (mem_app N (mem_at 3 rfl)) (Lens.fst (Lens.id _)) ty31 rfl)
    | 2, h_ => cases h_; exact Ob.f rfl .n fun N => (O.fa rfl fld47_1 rfl)
    | 3, h_ => cases h_; exact Ob.f rfl .n fun N => (O.ld (p := kC.is B) rfl (mem_app N (mem_at 3 rfl)) (Lens.snd (Lens.fst (Lens.id _))) ty31 rfl)
    | 4, h_ => cases h_; exact Ob.f rfl .n fun N => (O.ld rfl (mem_app N (mem_at 0 rfl)) (Lens.id _) ty31 rfl)
    | 5, h_ => cases h_; exact Ob.f rfl .n fun N => (O.ld rfl (mem_app N (mem_at 0 rfl)) (Lens.id _) ty31 rfl)
    | 6, h_ => cases h_; exact Ob.f rfl .n fun N => (O.fn fn77 (evs.l rfl (kC_Z hS.ak) (evs.l rfl (kC_Z hS.ak) evs.nil)) (c_zint_Add (A * k) (A * k)))
    | 7, h_ => cases h_; exact Ob.f rfl .n fun N => (O.fn fn77 (evs.l rfl (kC_Z hS.b) (evs.l rfl (kC_Z hS.a2k) evs.nil)) (c_zint_Add B ((A * k) + (A * k))))
    | 8, h_ => cases h_; exact Ob.f rfl .n fun N => (O.ld rfl (mem_app N (mem_at 0 rfl)) (Lens.id _) ty31 rfl)
    | 9, h_ => cases h_; exact Ob.f rfl .n fun N => (O.fa rfl fld47_1 rfl)
    | 10, h_ => cases h_; exact Ob.f rfl .n fun N => (O.ld (p := kC.is B) rfl (mem_app N (mem_at 3 rfl)) (Lens.snd (Lens.fst (Lens.id _))) ty31 rfl)
    | 11, h_ => cases h_; exact Ob.f rfl .n fun N => (O.fn fn77 (evs.l rfl (kC_Z hS.ak) (evs.l rfl (kC_Z hS.b) evs.nil)) (c_zint_Add (A * k) B))
    | 12, h_ => cases h_; exact Ob.f rfl .n fun N => (O.ld rfl (mem_app N (mem_at 2 rfl)) (Lens.id _) ty31 rfl)
    | 13, h_ => cases h_; exact Ob.f rfl .n fun N => (O.fn fn76 (evs.l rfl (kC_Z hS.akb) (evs.c rfl evs.nil)) (c_zint_Mul ((A * k) + B) k))
    | 14, h_ => cases h_; exact Ob.f rfl .n fun N => (O.fa rfl fld47_2 rfl)
    | 15, h_ => cases h_; exact Ob.f rfl .n fun N => (O.ld (p := kC.is C) rfl (mem_app N (mem_at 3 rfl)) (Lens.snd (Lens.snd (Lens.id _))) ty31 rfl)
    | 16, h_ => cases h_; exact Ob.f rfl .n fun N => (O.fn fn77 (evs.l rfl (kC_Z hS.akbk) (evs.l rfl (kC_Z hS.c) evs.nil)) (c_zint_Add (((A * k) + B) * k) C))
    | 17, h_ => cases h_; exact Ob.f rfl .n fun N => (O.bld lit47_pr_C_pr_C_C__ rfl (evp.c rfl (evp.c rfl (evp.c rfl evp.n))) (.cons rfl (Lens.fst (Lens.id _)) (.cons rfl (Lens.snd (Lens.fst (Lens.id _))) (.cons rfl (Lens.snd (Lens.snd (Lens.id _))) (.nil _)))))
    | n_ + 18, h_ => simp at h_
  refine WP.t .n (O.stW (l := (kPair kC (kPair kC kC))) (u := (A, (B + ((A * k) + (A * k)), (((A * k) + B) * k) + C))) 1 rfl rfl rfl ty47 rfl (VP.le_refl _)) ?_
  refine WP.nil ?_
  refine QE.next ?_
  refine CW.ret ?_
  exact QE.done (.inl rfl) rfl (ResOk.cl rfl (mem_at 1 rfl) ty47 (is_eq (y := (A, (B + (A * k + A * k)), ((A * k + B) * k + C))) (by rfl)) ResOk.nil) (OImp.sub (List.nil_sublist _)) ⟨rfl, rfl⟩

set_option maxRecDepth 20000 in
set_option maxHeartbeats 4000000 in
theorem c_quad_gauss (A0 B0 C0 : Int) (n : Nat) (hn : n ≤ 100000000) (ha : Sz n A0) (hb : Sz n B0) (hc : Sz n C0) (hp : posF A0 B0 C0) : Fn Try.prog 86 [(kPair kZ (kPair kZ kZ)).is (A0, B0, C0)] (VP.tup [(kPair kC (kPair kC kC)).is ((gs A0 B0 C0 1 0 0 1).1), (kArr 4 kC).is ((gs A0 B0 C0 1 0 0 1).2)]) := by
  refine Con.enter Try.func86 rfl rfl fun m w => ?_
  refine CW.seq ?_
  refine CW.region ?_
  refine WP.bx .n rfl fun b1 => ?_
  refine WP.al .n z47_pr_C_pr_C_C__ fun b2 => ?_
  refine WP.al .n z48_ar4_C fun b3 => ?_
  refine WP.nil ?_
  refine QE.next ?_
  refine CW.seq ?_
  refine CW.draw (Γ := [.fr (VP.ex (.pointer (some ⟨b1, 0, none⟩))), .fr (kZ.is A0), .fr (kC.is A0), .fr (VP.ex (.pointer (some ⟨b1, 2, none⟩))), .fr (kZ.is B0), .fr (kC.is B0), .fr (VP.ex (.pointer (some ⟨b1, 4, none⟩))), .fr (kZ.is C0), .fr (kC.is C0), .fr ((kPair kC (kPair kC kC)).is (A0, (B0, C0)))]) (lates := [false, false, false, false, false, false, false, false, false, false]) (by kernel_rfl) (Chk.of rfl (by kernel_rfl) rfl) (fun _ _ _ _ _ h => h) (fun q_ x_ h_ => ?_) (fun σ1 => ?_)
  · match q_, h_ with
    | 0, h_ => cases h_; exact Ob.f rfl .n fun N => (O.fa rfl fld47_0 rfl)
    | 1, h_ => cases h_; exact Ob.f rfl .n fun N => (O.ld (p := kZ.is A0) rfl (mem_app N (mem_at 2 rfl)) (Lens.fst (Lens.id _)) ty31 rfl)
    | 2, h_ => cases h_; exact Ob.f rfl .n fun N => (O.fn fn146 (evs.c rfl evs.nil) (c_zint_Form A0))
    | 3, h_ => cases h_; exact Ob.f rfl .n fun N => (O.fa rfl fld47_1 rfl)
    | 4, h_ => cases h_; exact Ob.f rfl .n fun N => (O.ld (p := kZ.is B0) rfl (mem_app N (mem_at 2 rfl)) (Lens.snd (Lens.fst (Lens.id _))) ty31 rfl)
    | 5, h_ => cases h_; exact Ob.f rfl .n fun N => (O.fn fn146 (evs.c rfl evs.nil) (c_zint_Form B0))
    | 6, h_ => cases h_; exact Ob.f rfl .n fun N => (O.fa rfl fld47_2 rfl)
    | 7, h_ => cases h_; exact Ob.f rfl .n fun N => (O.ld (p := kZ.is C0) rfl (mem_app N (mem_at 2 rfl)) (Lens.snd (Lens.snd (Lens.id _))) ty31 rfl)
    | 8, h_ => cases h_; exact Ob.f rfl .n fun N => (O.fn fn146 (evs.c rfl evs.nil) (c_zint_Form C0))
    | 9, h_ => cases h_; exact Ob.f rfl .n fun N => (O.bld lit47_pr_C_pr_C_C__ rfl (evp.c rfl (evp.c rfl (evp.c rfl evp.n))) (.cons rfl (Lens.fst (Lens.id _)) (.cons rfl (Lens.snd (Lens.fst (Lens.id _))) (.cons rfl (Lens.snd (Lens.snd (Lens.id _))) (.nil _)))))
    | n_ + 10, h_ => simp at h_
  refine WP.t .n (O.stW (l := (kPair kC (kPair kC kC))) (u := (A0, (B0, C0))) 2 rfl rfl rfl ty47 rfl (VP.le_refl _)) ?_
  refine WP.nil ?_
  refine QE.next ?_
  refine CW.seq ?_
  refine CW.region ?_
  refine WP.s .n (O.fn fn74 (evs.l rfl (i64_int (by omega)) evs.nil) (c_zint_Of 1)) ?_
  refine WP.s .n (O.bld lit31_C rfl evp.n (.nil _)) ?_
  refine WP.s .n (O.bld lit31_C rfl evp.n (.nil _)) ?_
  refine WP.s .n (O.fn fn74 (evs.l rfl (i64_int (by omega)) evs.nil) (c_zint_Of 1)) ?_
  refine WP.s .n (O.bld lit48_ar4_C rfl (evp.c rfl (evp.c rfl (evp.c rfl (evp.c rfl evp.n)))) (.cons rfl (Lens.arr 0 0 (by decide) (Lens.id _)) (.cons rfl (Lens.arr 0 1 (by decide) (Lens.id _)) (.cons rfl (Lens.arr 0 2 (by decide) (Lens.id _)) (.cons rfl (Lens.arr 0 3 (by decide) (Lens.id _)) (.nil _)))))) ?_
  refine WP.al .n z48_ar4_C fun b4 => ?_
  refine WP.t .n (O.stW (l := (kArr 4 kC)) (u := [1, 0, 0, 1]) 0 rfl rfl rfl ty48 rfl (VP.le_refl _)) ?_
  refine WP.nil ?_
  refine QE.next ?_
  refine CW.block ?_
  refine CW.loop7 (fun (A : Int) (B : Int) (C : Int) (x : Int) (y : Int) (z : Int) (t : Int) => GsR n A0 B0 C0 A B C x y z t) (fun (A : Int) (B : Int) (C : Int) (x : Int) (y : Int) (z : Int) (t : Int) => [(1, VP.ex (.pointer (some ⟨b1, 0, none⟩))), (2, VP.ex (.pointer (some ⟨b2, 0, none⟩))), (3, VP.ex (.pointer (some ⟨b3, 0, none⟩))), (4, VP.ex (.pointer (some ⟨b4, 0, none⟩)))]) (fun (A : Int) (B : Int) (C : Int) (x : Int) (y : Int) (z : Int) (t : Int) => [OB.box b4 48 (kArr 4 kC) [x, y, z, t], OB.box b3 48 (kArr 4 kC) (List.replicate 4 0), OB.box b2 47 (kPair kC (kPair kC kC)) (0, 0, 0), OB.box b1 47 (kPair kC (kPair kC kC)) (A, B, C)]) (fun (A : Int) (B : Int) (C : Int) (x : Int) (y : Int) (z : Int) (t : Int) => 2 * A.toNat + gFlag A B) A0 B0 C0 1 0 0 1 (gsR_0 hp ha hb hc) (Imp.cons rfl (Imp.cons rfl (Imp.cons rfl (Imp.cons rfl Imp.nil)))) (OImp.os (OS.keep (OS.keep (OS.keepLe (OB.box_eq (by rfl)) (OS.keepLe (OB.box_eq (by rfl)) OS.nil))))) ?_
  intro A B C x y z t hG
  have hS := gsR_S (by omega) hp ha hc hG
  refine CW.block ?_
  refine CW.seq ?_
  refine CW.draw (Γ := [.fr (VP.ex (.pointer (some ⟨b1, 0, none⟩))), .fr (kC.is A), .fr (VP.ex (.pointer (some ⟨b1, 2, none⟩))), .fr (kC.is B), .fr (kC.is (A - B)), .fr (VP.ex (.pointer (some ⟨b1, 0, none⟩))), .fr (kC.is A), .fr (VP.ex (.pointer (some ⟨b1, 0, none⟩))), .fr (kC.is A), .fr (kC.is (A + A)), .fr (VP.tup [kC.is ((A - B).fdiv (A + A)), kC.is (if (A + A) = 0 then 0 else (A - B).fmod (A + A)), (kInt .i64).is (if (A + A) = 0 then 11 else 0)]), .fr (VP.tup [kC.is ((A - B).fdiv (A + A)), kC.is (if (A + A) = 0 then 0 else (A - B).fmod (A + A)), (kInt .i64).is (if (A + A) = 0 then 11 else 0)]), .fr (kC.is ((A - B).fdiv (A + A))), .lt (kC.is (if (A + A) = 0 then 0 else (A - B).fmod (A + A))), .lt ((kInt .i64).is (if (A + A) = 0 then 11 else 0)), .al (fun b => OB.box b 31 kC 0), .al (fun b => OB.box b 31 kC 0)]) (lates := [false, false, false, false, false, false, false, false, false, false, false, false, false, true, true, false, false]) (by kernel_rfl) (Chk.of rfl (by kernel_rfl) rfl) (fun _ _ _ _ _ h => h) (fun q_ x_ h_ => ?_) (fun σ2 => ?_)
  · match q_, h_ with
    | 0, h_ => cases h_; exact Ob.f rfl .n fun N => (O.fa rfl fld47_0 rfl)
    | 1, h_ => cases h_; exact Ob.f rfl .n fun N => (O.ld (p := kC.is A) rfl (mem_app N (mem_at 3 rfl)) (Lens.fst (Lens.id _)) ty31 rfl)
    | 2, h_ => cases h_; exact Ob.f rfl .n fun N => (O.fa rfl fld47_1 rfl)
    | 3, h_ => cases h_; exact Ob.f rfl .n fun N => (O.ld (p := kC.is B) rfl (mem_app N (mem_at 3 rfl)) (Lens.snd (Lens.fst (Lens.id _))) ty31 rfl)
    | 4, h_ => cases h_; exact Ob.f rfl .n fun N => (O.fn fn157 (evs.l rfl (kC_Z hS.a) (evs.l rfl (kC_Z hS.b) evs.nil)) (c_zint_Sub A B))
    | 5, h_ => cases h_; exact Ob.f rfl .n fun N => (O.fa rfl fld47_0 rfl)
    | 6, h_ => cases h_; exact Ob.f rfl .n fun N => (O.ld (p := kC.is A) rfl (mem_app N (mem_at 3 rfl)) (Lens.fst (Lens.id _)) ty31 rfl)
    | 7, h_ => cases h_; exact Ob.f rfl .n fun N => (O.fa rfl fld47_0 rfl)
    | 8, h_ => cases h_; exact Ob.f rfl .n fun N => (O.ld (p := kC.is A) rfl (mem_app N (mem_at 3 rfl)) (Lens.fst (Lens.id _)) ty31 rfl)
    | 9, h_ => cases h_; exact Ob.f rfl .n fun N => (O.fn fn77 (evs.l rfl (kC_Z hS.a) (evs.l rfl (kC_Z hS.a) evs.nil)) (c_zint_Add A A))
    | 10, h_ => cases h_; exact Ob.f rfl .n fun N => (O.fn fn105 (evs.l rfl (kC_Z hS.ab) (evs.l rfl (kC_Z hS.aa) evs.nil)) (c_zint_Floor (A - B) (A + A)))
    | 11, h_ => cases h_; exact Ob.f rfl .n fun N => (O.mv rfl)
    | 12, h_ => cases h_; exact Ob.f rfl .n fun N => (O.ext rfl rfl)
    | 13, h_ => cases h_; exact Ob.l rfl .n (OV.ext rfl rfl)
    | 14, h_ => cases h_; exact Ob.l rfl .n (OV.ext rfl rfl)
    | 15, h_ => cases h_; exact Ob.a rfl z31_C
    | 16, h_ => cases h_; exact Ob.a rfl z31_C
    | n_ + 17, h_ => simp at h_
  refine WP.t .n (O.stW (l := kC) (u := (A - B).fdiv (A + A)) 0 rfl rfl rfl ty31 rfl (VP.le_refl _)) ?_
  refine WP.t .n (O.stW (l := kC) (u := if (A + A) = 0 then 0 else (A - B).fmod (A + A)) 1 rfl rfl rfl ty31 rfl (VP.le_refl _)) ?_
  refine WP.s .n (O.asg rfl) ?_
  refine WP.nil ?_
  refine QE.next ?_
  refine CW.seq ?_
  refine ST.obtold 0 rfl (OB.box_eq (y := (kF A B)) rfl) ?_
  refine CW.region ?_
  refine WP.s .n (O.ld (p := (kPair kC (kPair kC kC)).is (A, B, C)) rfl (mem_at 5 rfl) (Lens.id _) ty47 rfl) ?_
  refine WP.s .n (O.ld rfl (mem_at 0 rfl) (Lens.id _) ty31 rfl) ?_
  refine WP.s .n (O.fn fn160 (evs.c rfl (evs.l rfl (kC_Z hS.k) evs.nil)) (c_quad_shift A B C (kF A B) hS.sh)) ?_
  refine WP.t .n (O.stW (l := (kPair kC (kPair kC kC))) (u := (A, (B + (A * (kF A B) + A * (kF A B))), ((A * (kF A B) + B) * (kF A B) + C))) 5 rfl rfl rfl ty47 rfl (VP.le_refl _)) ?_
  refine WP.nil ?_
  refine QE.next ?_
  refine CW.seq ?_
  refine ST.obtold 5 rfl (OB.box_eq (y := (A, (sB A B), (sC A B C))) rfl) ?_
  refine CW.draw (Γ := [.fr (VP.ex (.pointer (some ⟨b4, 2, none⟩))), .fr (kC.is y), .fr (VP.ex (.pointer (some ⟨b4, 0, none⟩))), .fr (kC.is x), .fr (kC.is (kF A B)), .fr (kC.is (x * (kF A B))), .fr (kC.is (y + (x * (kF A B)))), .fr (VP.ex (.pointer (some ⟨b4, 2, none⟩)))]) (lates := [false, false, false, false, false, false, false, false]) (by kernel_rfl) (Chk.of rfl (by kernel_rfl) rfl) (fun _ _ _ _ _ h => h) (fun q_ x_ h_ => ?_) (fun σ3 => ?_)
  · match q_, h_ with
    | 0, h_ => cases h_; exact Ob.f rfl .n fun N => (O.ixA (o' := 2) 1 rfl rfl Try.underlying48 ty31 rfl (by decide) (by rfl))
    | 1, h_ => cases h_; exact Ob.f rfl .n fun N => (O.ld (p := kC.is y) rfl (mem_app N (mem_at 2 rfl)) (Lens.arr 0 1 (by decide) (Lens.id _)) ty31 rfl)
    | 2, h_ => cases h_; exact Ob.f rfl .n fun N => (O.ixA (o' := 0) 0 rfl rfl Try.underlying48 ty31 rfl (by decide) (by rfl))
    | 3, h_ => cases h_; exact Ob.f rfl .n fun N => (O.ld (p := kC.is x) rfl (mem_app N (mem_at 2 rfl)) (Lens.arr 0 0 (by decide) (Lens.id _)) ty31 rfl)
    | 4, h_ => cases h_; exact Ob.f rfl .n fun N => (O.ld rfl (mem_app N (mem_at 0 rfl)) (Lens.id _) ty31 rfl)
    | 5, h_ => cases h_; exact Ob.f rfl .n fun N => (O.fn fn76 (evs.l rfl (kC_Z hS.fx) (evs.l rfl (kC_Z hS.k) evs.nil)) (c_zint_Mul x (kF A B)))
    | 6, h_ => cases h_; exact Ob.f rfl .n fun N => (O.fn fn77 (evs.l rfl (kC_Z hS.fy) (evs.l rfl (kC_Z hS.xk) evs.nil)) (c_zint_Add y (x * (kF A B))))
    | 7, h_ => cases h_; exact Ob.f rfl .n fun N => (O.ixA (o' := 2) 1 rfl rfl Try.underlying48 ty31 rfl (by decide) (by rfl))
    | n_ + 8, h_ => simp at h_
  refine WP.t .n (O.st 2 rfl rfl (Lens.arr 0 1 (by decide) (Lens.id _)) ty31 rfl (VP.le_refl _)) ?_
  refine WP.nil ?_
  refine QE.next ?_
  refine CW.seq ?_
  refine CW.draw (Γ := [.fr (VP.ex (.pointer (some ⟨b4, 6, none⟩))), .fr (kC.is t), .fr (VP.ex (.pointer (some ⟨b4, 4, none⟩))), .fr (kC.is z), .fr (kC.is (kF A B)), .fr (kC.is (z * (kF A B))), .fr (kC.is (t + (z * (kF A B)))), .fr (VP.ex (.pointer (some ⟨b4, 6, none⟩)))]) (lates := [false, false, false, false, false, false, false, false]) (by kernel_rfl) (Chk.of rfl (by kernel_rfl) rfl) (fun _ _ _ _ _ h => h) (fun q_ x_ h_ => ?_) (fun σ4 => ?_)
  · match q_, h_ with
    | 0, h_ => cases h_; exact Ob.f rfl .n fun N => (O.ixA (o' := 6) 3 rfl rfl Try.underlying48 ty31 rfl (by decide) (by rfl))
    | 1, h_ => cases h_; exact Ob.f rfl .n fun N => (O.ld (p := kC.is t) rfl (mem_app N (mem_at 2 rfl)) (Lens.arr 0 3 (by decide) (Lens.id _)) ty31 rfl)
    | 2, h_ => cases h_; exact Ob.f rfl .n fun N => (O.ixA (o' := 4) 2 rfl rfl Try.underlying48 ty31 rfl (by decide) (by rfl))
    | 3, h_ => cases h_; exact Ob.f rfl .n fun N => (O.ld (p := kC.is z) rfl (mem_app N (mem_at 2 rfl)) (Lens.arr 0 2 (by decide) (Lens.id _)) ty31 rfl)
    | 4, h_ => cases h_; exact Ob.f rfl .n fun N => (O.ld rfl (mem_app N (mem_at 0 rfl)) (Lens.id _) ty31 rfl)
    | 5, h_ => cases h_; exact Ob.f rfl .n fun N => (O.fn fn76 (evs.l rfl (kC_Z hS.fz) (evs.l rfl (kC_Z hS.k) evs.nil)) (c_zint_Mul z (kF A B)))
    | 6, h_ => cases h_; exact Ob.f rfl .n fun N => (O.fn fn77 (evs.l rfl (kC_Z hS.ft) (evs.l rfl (kC_Z hS.zk) evs.nil)) (c_zint_Add t (z * (kF A B))))
    | 7, h_ => cases h_; exact Ob.f rfl .n fun N => (O.ixA (o' := 6) 3 rfl rfl Try.underlying48 ty31 rfl (by decide) (by rfl))
    | n_ + 8, h_ => simp at h_
  refine WP.t .n (O.st 2 rfl rfl (Lens.arr 0 3 (by decide) (Lens.id _)) ty31 rfl (VP.le_refl _)) ?_
  refine WP.nil ?_
  refine QE.next ?_
  refine CW.seq ?_
  refine CW.region ?_
  refine WP.s .n (O.fa rfl fld47_0 rfl) ?_
  refine WP.s .n (O.ld (p := kC.is A) rfl (mem_at 5 rfl) (Lens.fst (Lens.id _)) ty31 rfl) ?_
  refine WP.s .n (O.fa rfl fld47_2 rfl) ?_
  refine WP.s .n (O.ld (p := kC.is (sC A B C)) rfl (mem_at 5 rfl) (Lens.snd (Lens.snd (Lens.id _))) ty31 rfl) ?_
  refine WP.s .n (O.fn fn75 (evs.l rfl (kC_Z hS.a) (evs.l rfl (kC_Z hS.sc) evs.nil)) (c_zint_Compare A (sC A B C))) ?_
  refine WP.s .n (O.asg rfl) ?_
  refine WP.nil ?_
  refine QE.next ?_
  refine CW.seq ?_
  refine CW.seq ?_
  refine CW.region ?_
  refine WP.s .n (O.mv rfl) ?_
  refine WP.s .n (O.lt rfl rfl) ?_
  refine WP.s .n (O.mv rfl) ?_
  refine WP.splitD 65 rfl (fun h_t65 => ?_) (fun h_t65 => ?_)
  · refine WP.ku (b := true) rfl rfl ?_
    refine WP.ku (b := true) rfl rfl ?_
    refine WP.ku (b := true) rfl rfl ?_
    refine WP.kk rfl rfl ?_
    refine WP.kk rfl rfl ?_
    refine WP.kk rfl rfl ?_
    refine WP.kk rfl rfl ?_
    refine WP.ku (b := true) rfl rfl ?_
    refine WP.s .n (O.pickT rfl rfl) ?_
    refine WP.nil ?_
    refine QE.next ?_
    refine CW.condT rfl ?_
    refine CW.seq ?_
    have hE := gsR_end hG (red_t h_t65)
    refine CW.join [(1, VP.ex (.pointer (some ⟨b1, 0, none⟩))), (2, VP.ex (.pointer (some ⟨b2, 0, none⟩))), (3, VP.ex (.pointer (some ⟨b3, 0, none⟩))), (4, VP.ex (.pointer (some ⟨b4, 0, none⟩))), (5, VP.ex (.pointer (some ⟨(σ2 15), 0, none⟩))), (6, VP.ex (.pointer (some ⟨(σ2 16), 0, none⟩))), (7, (kInt .i64).is (if (A + A) = 0 then 11 else 0)), (8, (kInt .i64).is ((A - (sC A B C)).sign)), (24, VP.tup [kC.is ((A - B).fdiv (A + A)), kC.is (if (A + A) = 0 then 0 else (A - B).fmod (A + A)), (kInt .i64).is (if (A + A) = 0 then 11 else 0)]), (25, VP.ex (.pointer (some ⟨b1, 0, none⟩))), (26, kC.is A), (27, VP.ex (.pointer (some ⟨b1, 2, none⟩))), (28, kC.is B), (29, kC.is (A - B)), (30, VP.ex (.pointer (some ⟨b1, 0, none⟩))), (31, kC.is A), (32, VP.ex (.pointer (some ⟨b1, 0, none⟩))), (33, kC.is A), (34, kC.is (A + A)), (35, VP.tup [kC.is ((A - B).fdiv (A + A)), kC.is (if (A + A) = 0 then 0 else (A - B).fmod (A + A)), (kInt .i64).is (if (A + A) = 0 then 11 else 0)]), (36, kC.is ((A - B).fdiv (A + A))), (37, kC.is (if (A + A) = 0 then 0 else (A - B).fmod (A + A))), (38, (kInt .i64).is (if (A + A) = 0 then 11 else 0)), (39, (kPair kC (kPair kC kC)).is (A, B, C)), (40, kC.is (kF A B)), (41, (kPair kC (kPair kC kC)).is (A, (B + (A * (kF A B) + A * (kF A B))), ((A * (kF A B) + B) * (kF A B) + C))), (42, VP.ex (.pointer (some ⟨b4, 2, none⟩))), (43, kC.is y), (44, VP.ex (.pointer (some ⟨b4, 0, none⟩))), (45, kC.is x), (46, kC.is (kF A B)), (47, kC.is (x * (kF A B))), (48, kC.is (y + (x * (kF A B)))), (49, VP.ex (.pointer (some ⟨b4, 2, none⟩))), (50, VP.ex (.pointer (some ⟨b4, 6, none⟩))), (51, kC.is t), (52, VP.ex (.pointer (some ⟨b4, 4, none⟩))), (53, kC.is z), (54, kC.is (kF A B)), (55, kC.is (z * (kF A B))), (56, kC.is (t + (z * (kF A B)))), (57, VP.ex (.pointer (some ⟨b4, 6, none⟩))), (58, VP.ex (.pointer (some ⟨b1, 0, none⟩))), (59, kC.is A), (60, VP.ex (.pointer (some ⟨b1, 4, none⟩))), (61, kC.is (sC A B C)), (62, (kInt .i64).is ((A - (sC A B C)).sign)), (63, (kInt .i64).is ((A - (sC A B C)).sign)), (64, kBool.is (decide (((A - (sC A B C)).sign) < 0))), (65, kBool.is true), (66, VP.ex undef), (67, VP.ex undef), (68, VP.ex undef), (69, VP.ex undef), (70, VP.ex undef), (71, VP.ex undef), (72, VP.ex undef), (73, VP.ex undef), (74, kBool.is true), (75, (kPair kC (kPair kC kC)).is (A, (sB A B), (sC A B C))), (76, (kArr 4 kC).is [x, y + (x * (kF A B)), z, t + (z * (kF A B))])] [OB.box (σ2 15) 31 kC (kF A B), OB.box (σ2 16) 31 kC (if (A + A) = 0 then 0 else (A - B).fmod (A + A)), OB.box b4 48 (kArr 4 kC) [x, y + (x * (kF A B)), z, t + (z * (kF A B))], OB.box b3 48 (kArr 4 kC) [x, y + (x * (kF A B)), z, t + (z * (kF A B))], OB.box b2 47 (kPair kC (kPair kC kC)) (A, (sB A B), (sC A B C)), OB.box b1 47 (kPair kC (kPair kC kC)) (A, (sB A B), (sC A B C))] ?_ ?_
    · refine CW.any (by kernel_rfl) ?_
      refine DA.go 0 [1] (by kernel_rfl) ⟨?_, ⟨?_, trivial⟩⟩
      · refine DO.w rfl ?_
        refine WP.s .n (O.ld (p := (kPair kC (kPair kC kC)).is (A, (sB A B), (sC A B C))) rfl (mem_at 5 rfl) (Lens.id _) ty47 rfl) ?_
        refine WP.nil ?_
        refine DO.nx ?_
        refine DA.go 1 [2] (by kernel_rfl) ⟨?_, ⟨?_, trivial⟩⟩
        · refine DO.w rfl ?_
          refine WP.s .n (O.ld (p := (kArr 4 kC).is [x, y + (x * (kF A B)), z, t + (z * (kF A B))]) rfl (mem_at 2 rfl) (Lens.id _) ty48 rfl) ?_
          refine WP.nil ?_
          refine DO.nx ?_
          refine DA.go 2 [] (by kernel_rfl) ⟨?_, trivial⟩
          refine DO.w rfl ?_
          refine WP.t .n (O.stW (l := (kPair kC (kPair kC kC))) (u := (A, (sB A B), (sC A B C))) 4 rfl rfl rfl ty47 rfl (VP.le_refl _)) ?_
          refine WP.nil ?_
          refine DO.nx ?_
          refine DA.go 3 [] (by kernel_rfl) ⟨?_, trivial⟩
          refine DO.w rfl ?_
          refine WP.t .n (O.stW (l := (kArr 4 kC)) (u := [x, y + (x * (kF A B)), z, t + (z * (kF A B))]) 3 rfl rfl rfl ty48 rfl (VP.le_refl _)) ?_
          refine WP.nil ?_
          refine DO.nx ?_
          refine DA.nil (by kernel_rfl) ?_
          exact QE.join (Imp.cons rfl (Imp.cons rfl (Imp.cons rfl (Imp.cons rfl (Imp.cons rfl (Imp.cons rfl (Imp.cons rfl (Imp.cons rfl (Imp.cons rfl (Imp.cons rfl (Imp.cons rfl (Imp.cons rfl (Imp.cons rfl (Imp.cons rfl (Imp.cons rfl (Imp.cons rfl (Imp.cons rfl (Imp.cons rfl (Imp.cons rfl (Imp.cons rfl (Imp.cons rfl (Imp.cons rfl (Imp.cons rfl (Imp.cons rfl (Imp.cons rfl (Imp.cons rfl (Imp.cons rfl (Imp.cons rfl (Imp.cons rfl (Imp.cons rfl (Imp.cons rfl (Imp.cons rfl (Imp.cons rfl (Imp.cons rfl (Imp.cons rfl (Imp.cons rfl (Imp.cons rfl (Imp.cons rfl (Imp.cons rfl (Imp.cons rfl (Imp.cons rfl (Imp.cons rfl (Imp.cons rfl (Imp.cons rfl (Imp.cons rfl (Imp.cons rfl (Imp.cons rfl (Imp.cons rfl (Imp.cons rfl (Imp.cons rfl (Imp.cons rfl (Imp.cons rfl (Imp.cons rfl (Imp.cons rfl (Imp.cons rfl (Imp.cons rfl (Imp.cons rfl (Imp.cons rfl (Imp.cons rfl (Imp.cons rfl (Imp.cons rfl Imp.nil))))))))))))))))))))))))))))))))))))))))))))))))))))))))))))) (OImp.refl _)
        · refine DO.w rfl ?_
          refine WP.t .n (O.stW (l := (kPair kC (kPair kC kC))) (u := (A, (sB A B), (sC A B C))) 4 rfl rfl rfl ty47 rfl (VP.le_refl _)) ?_
          refine WP.nil ?_
          refine DO.nx ?_
          refine DA.go 1 [] (by kernel_rfl) ⟨?_, trivial⟩
          refine DO.w rfl ?_
          refine WP.s .n (O.ld (p := (kArr 4 kC).is [x, y + (x * (kF A B)), z, t + (z * (kF A B))]) rfl (mem_at 2 rfl) (Lens.id _) ty48 rfl) ?_
          refine WP.nil ?_
          refine DO.nx ?_
          refine DA.go 3 [] (by kernel_rfl) ⟨?_, trivial⟩
          refine DO.w rfl ?_
          refine WP.t .n (O.stW (l := (kArr 4 kC)) (u := [x, y + (x * (kF A B)), z, t + (z * (kF A B))]) 3 rfl rfl rfl ty48 rfl (VP.le_refl _)) ?_
          refine WP.nil ?_
          refine DO.nx ?_
          refine DA.nil (by kernel_rfl) ?_
          exact QE.join (Imp.cons rfl (Imp.cons rfl (Imp.cons rfl (Imp.cons rfl (Imp.cons rfl (Imp.cons rfl (Imp.cons rfl (Imp.cons rfl (Imp.cons rfl (Imp.cons rfl (Imp.cons rfl (Imp.cons rfl (Imp.cons rfl (Imp.cons rfl (Imp.cons rfl (Imp.cons rfl (Imp.cons rfl (Imp.cons rfl (Imp.cons rfl (Imp.cons rfl (Imp.cons rfl (Imp.cons rfl (Imp.cons rfl (Imp.cons rfl (Imp.cons rfl (Imp.cons rfl (Imp.cons rfl (Imp.cons rfl (Imp.cons rfl (Imp.cons rfl (Imp.cons rfl (Imp.cons rfl (Imp.cons rfl (Imp.cons rfl (Imp.cons rfl (Imp.cons rfl (Imp.cons rfl (Imp.cons rfl (Imp.cons rfl (Imp.cons rfl (Imp.cons rfl (Imp.cons rfl (Imp.cons rfl (Imp.cons rfl (Imp.cons rfl (Imp.cons rfl (Imp.cons rfl (Imp.cons rfl (Imp.cons rfl (Imp.cons rfl (Imp.cons rfl (Imp.cons rfl (Imp.cons rfl (Imp.cons rfl (Imp.cons rfl (Imp.cons rfl (Imp.cons rfl (Imp.cons rfl (Imp.cons rfl (Imp.cons rfl (Imp.cons rfl Imp.nil))))))))))))))))))))))))))))))))))))))))))))))))))))))))))))) (OImp.refl _)
      · refine DO.w rfl ?_
        refine WP.s .n (O.ld (p := (kArr 4 kC).is [x, y + (x * (kF A B)), z, t + (z * (kF A B))]) rfl (mem_at 2 rfl) (Lens.id _) ty48 rfl) ?_
        refine WP.nil ?_
        refine DO.nx ?_
        refine DA.go 0 [] (by kernel_rfl) ⟨?_, trivial⟩
        refine DO.w rfl ?_
        refine WP.s .n (O.ld (p := (kPair kC (kPair kC kC)).is (A, (sB A B), (sC A B C))) rfl (mem_at 5 rfl) (Lens.id _) ty47 rfl) ?_
        refine WP.nil ?_
        refine DO.nx ?_
        refine DA.go 2 [] (by kernel_rfl) ⟨?_, trivial⟩
        refine DO.w rfl ?_
        refine WP.t .n (O.stW (l := (kPair kC (kPair kC kC))) (u := (A, (sB A B), (sC A B C))) 4 rfl rfl rfl ty47 rfl (VP.le_refl _)) ?_
        refine WP.nil ?_
        refine DO.nx ?_
        refine DA.go 3 [] (by kernel_rfl) ⟨?_, trivial⟩
        refine DO.w rfl ?_
        refine WP.t .n (O.stW (l := (kArr 4 kC)) (u := [x, y + (x * (kF A B)), z, t + (z * (kF A B))]) 3 rfl rfl rfl ty48 rfl (VP.le_refl _)) ?_
        refine WP.nil ?_
        refine DO.nx ?_
        refine DA.nil (by kernel_rfl) ?_
        exact QE.join (Imp.cons rfl (Imp.cons rfl (Imp.cons rfl (Imp.cons rfl (Imp.cons rfl (Imp.cons rfl (Imp.cons rfl (Imp.cons rfl (Imp.cons rfl (Imp.cons rfl (Imp.cons rfl (Imp.cons rfl (Imp.cons rfl (Imp.cons rfl (Imp.cons rfl (Imp.cons rfl (Imp.cons rfl (Imp.cons rfl (Imp.cons rfl (Imp.cons rfl (Imp.cons rfl (Imp.cons rfl (Imp.cons rfl (Imp.cons rfl (Imp.cons rfl (Imp.cons rfl (Imp.cons rfl (Imp.cons rfl (Imp.cons rfl (Imp.cons rfl (Imp.cons rfl (Imp.cons rfl (Imp.cons rfl (Imp.cons rfl (Imp.cons rfl (Imp.cons rfl (Imp.cons rfl (Imp.cons rfl (Imp.cons rfl (Imp.cons rfl (Imp.cons rfl (Imp.cons rfl (Imp.cons rfl (Imp.cons rfl (Imp.cons rfl (Imp.cons rfl (Imp.cons rfl (Imp.cons rfl (Imp.cons rfl (Imp.cons rfl (Imp.cons rfl (Imp.cons rfl (Imp.cons rfl (Imp.cons rfl (Imp.cons rfl (Imp.cons rfl (Imp.cons rfl (Imp.cons rfl (Imp.cons rfl (Imp.cons rfl (Imp.cons rfl Imp.nil))))))))))))))))))))))))))))))))))))))))))))))))))))))))))))) (OImp.refl _)
    refine QE.next ?_
    refine CW.ret ?_
    refine QE.thenR ?_
    refine QE.blkR ?_
    refine QE.thenR ?_
    refine QE.blkR ?_
    refine ST.obtold 4 rfl (OB.box_eq (y := ((gs A0 B0 C0 1 0 0 1).1)) (congrArg Prod.fst hE)) ?_
    refine ST.obtold 3 rfl (OB.box_eq (y := ((gs A0 B0 C0 1 0 0 1).2)) (congrArg Prod.snd hE)) ?_
    exact QE.done (.inl rfl) rfl (ResOk.c rfl (mem_at 4 rfl) ty47 (ResOk.c rfl (mem_at 3 rfl) ty48 ResOk.nil)) (OImp.sub (List.nil_sublist _)) ⟨rfl, rfl⟩
  · refine WP.s (.g rfl rfl) (O.mv rfl) ?_
    refine WP.s (.g rfl rfl) (O.eq rfl rfl) ?_
    refine WP.s (.g rfl rfl) (O.mv rfl) ?_
    refine WP.splitD 68 rfl (fun h_t68 => ?_) (fun h_t68 => ?_)
    · refine WP.s (.g rfl rfl) (O.fa rfl fld47_1 rfl) ?_
      refine WP.s (.g rfl rfl) (O.ld (p := kC.is (sB A B)) rfl (mem_at 5 rfl) (Lens.snd (Lens.fst (Lens.id _))) ty31 rfl) ?_
      refine WP.s (.g rfl rfl) (O.fn fn80 (evs.l rfl (kC_Z hS.sb) evs.nil) (c_zint_Sign (sB A B))) ?_
      refine WP.s (.g rfl rfl) (O.ge rfl rfl) ?_
      refine WP.s (.g rfl rfl) (O.pickT rfl rfl) ?_
      refine WP.s .n (O.pickF rfl rfl) ?_
      refine WP.nil ?_
      refine QE.next ?_
      refine CW.condD rfl (fun h_t74 => ?_) (fun h_t74 => ?_)
      · refine CW.seq ?_
        have hE := gsR_end hG (red_e h_t68 h_t74)
        refine CW.join [(1, VP.ex (.pointer (some ⟨b1, 0, none⟩))), (2, VP.ex (.pointer (some ⟨b2, 0, none⟩))), (3, VP.ex (.pointer (some ⟨b3, 0, none⟩))), (4, VP.ex (.pointer (some ⟨b4, 0, none⟩))), (5, VP.ex (.pointer (some ⟨(σ2 15), 0, none⟩))), (6, VP.ex (.pointer (some ⟨(σ2 16), 0, none⟩))), (7, (kInt .i64).is (if (A + A) = 0 then 11 else 0)), (8, (kInt .i64).is ((A - (sC A B C)).sign)), (24, VP.tup [kC.is ((A - B).fdiv (A + A)), kC.is (if (A + A) = 0 then 0 else (A - B).fmod (A + A)), (kInt .i64).is (if (A + A) = 0 then 11 else 0)]), (25, VP.ex (.pointer (some ⟨b1, 0, none⟩))), (26, kC.is A), (27, VP.ex (.pointer (some ⟨b1, 2, none⟩))), (28, kC.is B), (29, kC.is (A - B)), (30, VP.ex (.pointer (some ⟨b1, 0, none⟩))), (31, kC.is A), (32, VP.ex (.pointer (some ⟨b1, 0, none⟩))), (33, kC.is A), (34, kC.is (A + A)), (35, VP.tup [kC.is ((A - B).fdiv (A + A)), kC.is (if (A + A) = 0 then 0 else (A - B).fmod (A + A)), (kInt .i64).is (if (A + A) = 0 then 11 else 0)]), (36, kC.is ((A - B).fdiv (A + A))), (37, kC.is (if (A + A) = 0 then 0 else (A - B).fmod (A + A))), (38, (kInt .i64).is (if (A + A) = 0 then 11 else 0)), (39, (kPair kC (kPair kC kC)).is (A, B, C)), (40, kC.is (kF A B)), (41, (kPair kC (kPair kC kC)).is (A, (B + (A * (kF A B) + A * (kF A B))), ((A * (kF A B) + B) * (kF A B) + C))), (42, VP.ex (.pointer (some ⟨b4, 2, none⟩))), (43, kC.is y), (44, VP.ex (.pointer (some ⟨b4, 0, none⟩))), (45, kC.is x), (46, kC.is (kF A B)), (47, kC.is (x * (kF A B))), (48, kC.is (y + (x * (kF A B)))), (49, VP.ex (.pointer (some ⟨b4, 2, none⟩))), (50, VP.ex (.pointer (some ⟨b4, 6, none⟩))), (51, kC.is t), (52, VP.ex (.pointer (some ⟨b4, 4, none⟩))), (53, kC.is z), (54, kC.is (kF A B)), (55, kC.is (z * (kF A B))), (56, kC.is (t + (z * (kF A B)))), (57, VP.ex (.pointer (some ⟨b4, 6, none⟩))), (58, VP.ex (.pointer (some ⟨b1, 0, none⟩))), (59, kC.is A), (60, VP.ex (.pointer (some ⟨b1, 4, none⟩))), (61, kC.is (sC A B C)), (62, (kInt .i64).is ((A - (sC A B C)).sign)), (63, (kInt .i64).is ((A - (sC A B C)).sign)), (64, kBool.is (decide (((A - (sC A B C)).sign) < 0))), (65, kBool.is false), (66, (kInt .i64).is ((A - (sC A B C)).sign)), (67, kBool.is (decide (((A - (sC A B C)).sign) = 0))), (68, kBool.is true), (69, VP.ex (.pointer (some ⟨b1, 2, none⟩))), (70, kC.is (sB A B)), (71, (kInt .i64).is ((sB A B).sign)), (72, kBool.is (decide (0 ≤ ((sB A B).sign)))), (73, kBool.is (decide (0 ≤ ((sB A B).sign)))), (74, kBool.is (decide (0 ≤ ((sB A B).sign)))), (75, (kPair kC (kPair kC kC)).is (A, (sB A B), (sC A B C))), (76, (kArr 4 kC).is [x, y + (x * (kF A B)), z, t + (z * (kF A B))])] [OB.box (σ2 15) 31 kC (kF A B), OB.box (σ2 16) 31 kC (if (A + A) = 0 then 0 else (A - B).fmod (A + A)), OB.box b4 48 (kArr 4 kC) [x, y + (x * (kF A B)), z, t + (z * (kF A B))], OB.box b3 48 (kArr 4 kC) [x, y + (x * (kF A B)), z, t + (z * (kF A B))], OB.box b2 47 (kPair kC (kPair kC kC)) (A, (sB A B), (sC A B C)), OB.box b1 47 (kPair kC (kPair kC kC)) (A, (sB A B), (sC A B C))] ?_ ?_
        · refine CW.any (by kernel_rfl) ?_
          refine DA.go 0 [1] (by kernel_rfl) ⟨?_, ⟨?_, trivial⟩⟩
          · refine DO.w rfl ?_
            refine WP.s .n (O.ld (p := (kPair kC (kPair kC kC)).is (A, (sB A B), (sC A B C))) rfl (mem_at 5 rfl) (Lens.id _) ty47 rfl) ?_
            refine WP.nil ?_
            refine DO.nx ?_
            refine DA.go 1 [2] (by kernel_rfl) ⟨?_, ⟨?_, trivial⟩⟩
            · refine DO.w rfl ?_
              refine WP.s .n (O.ld (p := (kArr 4 kC).is [x, y + (x * (kF A B)), z, t + (z * (kF A B))]) rfl (mem_at 2 rfl) (Lens.id _) ty48 rfl) ?_
              refine WP.nil ?_
              refine DO.nx ?_
              refine DA.go 2 [] (by kernel_rfl) ⟨?_, trivial⟩
              refine DO.w rfl ?_
              refine WP.t .n (O.stW (l := (kPair kC (kPair kC kC))) (u := (A, (sB A B), (sC A B C))) 4 rfl rfl rfl ty47 rfl (VP.le_refl _)) ?_
              refine WP.nil ?_
              refine DO.nx ?_
              refine DA.go 3 [] (by kernel_rfl) ⟨?_, trivial⟩
              refine DO.w rfl ?_
              refine WP.t .n (O.stW (l := (kArr 4 kC)) (u := [x, y + (x * (kF A B)), z, t + (z * (kF A B))]) 3 rfl rfl rfl ty48 rfl (VP.le_refl _)) ?_
              refine WP.nil ?_
              refine DO.nx ?_
              refine DA.nil (by kernel_rfl) ?_
              exact QE.join (Imp.cons rfl (Imp.cons rfl (Imp.cons rfl (Imp.cons rfl (Imp.cons rfl (Imp.cons rfl (Imp.cons rfl (Imp.cons rfl (Imp.cons rfl (Imp.cons rfl (Imp.cons rfl (Imp.cons rfl (Imp.cons rfl (Imp.cons rfl (Imp.cons rfl (Imp.cons rfl (Imp.cons rfl (Imp.cons rfl (Imp.cons rfl (Imp.cons rfl (Imp.cons rfl (Imp.cons rfl (Imp.cons rfl (Imp.cons rfl (Imp.cons rfl (Imp.cons rfl (Imp.cons rfl (Imp.cons rfl (Imp.cons rfl (Imp.cons rfl (Imp.cons rfl (Imp.cons rfl (Imp.cons rfl (Imp.cons rfl (Imp.cons rfl (Imp.cons rfl (Imp.cons rfl (Imp.cons rfl (Imp.cons rfl (Imp.cons rfl (Imp.cons rfl (Imp.cons rfl (Imp.cons rfl (Imp.cons rfl (Imp.cons rfl (Imp.cons rfl (Imp.cons rfl (Imp.cons rfl (Imp.cons rfl (Imp.cons rfl (Imp.cons rfl (Imp.cons rfl (Imp.cons rfl (Imp.cons rfl (Imp.cons rfl (Imp.cons rfl (Imp.cons rfl (Imp.cons rfl (Imp.cons rfl (Imp.cons rfl (Imp.cons rfl Imp.nil))))))))))))))))))))))))))))))))))))))))))))))))))))))))))))) (OImp.refl _)
            · refine DO.w rfl ?_
              refine WP.t .n (O.stW (l := (kPair kC (kPair kC kC))) (u := (A, (sB A B), (sC A B C))) 4 rfl rfl rfl ty47 rfl (VP.le_refl _)) ?_
              refine WP.nil ?_
              refine DO.nx ?_
              refine DA.go 1 [] (by kernel_rfl) ⟨?_, trivial⟩
              refine DO.w rfl ?_
              refine WP.s .n (O.ld (p := (kArr 4 kC).is [x, y + (x * (kF A B)), z, t + (z * (kF A B))]) rfl (mem_at 2 rfl) (Lens.id _) ty48 rfl) ?_
              refine WP.nil ?_
              refine DO.nx ?_
              refine DA.go 3 [] (by kernel_rfl) ⟨?_, trivial⟩
              refine DO.w rfl ?_
              refine WP.t .n (O.stW (l := (kArr 4 kC)) (u := [x, y + (x * (kF A B)), z, t + (z * (kF A B))]) 3 rfl rfl rfl ty48 rfl (VP.le_refl _)) ?_
              refine WP.nil ?_
              refine DO.nx ?_
              refine DA.nil (by kernel_rfl) ?_
              exact QE.join (Imp.cons rfl (Imp.cons rfl (Imp.cons rfl (Imp.cons rfl (Imp.cons rfl (Imp.cons rfl (Imp.cons rfl (Imp.cons rfl (Imp.cons rfl (Imp.cons rfl (Imp.cons rfl (Imp.cons rfl (Imp.cons rfl (Imp.cons rfl (Imp.cons rfl (Imp.cons rfl (Imp.cons rfl (Imp.cons rfl (Imp.cons rfl (Imp.cons rfl (Imp.cons rfl (Imp.cons rfl (Imp.cons rfl (Imp.cons rfl (Imp.cons rfl (Imp.cons rfl (Imp.cons rfl (Imp.cons rfl (Imp.cons rfl (Imp.cons rfl (Imp.cons rfl (Imp.cons rfl (Imp.cons rfl (Imp.cons rfl (Imp.cons rfl (Imp.cons rfl (Imp.cons rfl (Imp.cons rfl (Imp.cons rfl (Imp.cons rfl (Imp.cons rfl (Imp.cons rfl (Imp.cons rfl (Imp.cons rfl (Imp.cons rfl (Imp.cons rfl (Imp.cons rfl (Imp.cons rfl (Imp.cons rfl (Imp.cons rfl (Imp.cons rfl (Imp.cons rfl (Imp.cons rfl (Imp.cons rfl (Imp.cons rfl (Imp.cons rfl (Imp.cons rfl (Imp.cons rfl (Imp.cons rfl (Imp.cons rfl (Imp.cons rfl Imp.nil))))))))))))))))))))))))))))))))))))))))))))))))))))))))))))) (OImp.refl _)
          · refine DO.w rfl ?_
            refine WP.s .n (O.ld (p := (kArr 4 kC).is [x, y + (x * (kF A B)), z, t + (z * (kF A B))]) rfl (mem_at 2 rfl) (Lens.id _) ty48 rfl) ?_
            refine WP.nil ?_
            refine DO.nx ?_
            refine DA.go 0 [] (by kernel_rfl) ⟨?_, trivial⟩
            refine DO.w rfl ?_
            refine WP.s .n (O.ld (p := (kPair kC (kPair kC kC)).is (A, (sB A B), (sC A B C))) rfl (mem_at 5 rfl) (Lens.id _) ty47 rfl) ?_
            refine WP.nil ?_
            refine DO.nx ?_
            refine DA.go 2 [] (by kernel_rfl) ⟨?_, trivial⟩
            refine DO.w rfl ?_
            refine WP.t .n (O.stW (l := (kPair kC (kPair kC kC))) (u := (A, (sB A B), (sC A B C))) 4 rfl rfl rfl ty47 rfl (VP.le_refl _)) ?_
            refine WP.nil ?_
            refine DO.nx ?_
            refine DA.go 3 [] (by kernel_rfl) ⟨?_, trivial⟩
            refine DO.w rfl ?_
            refine WP.t .n (O.stW (l := (kArr 4 kC)) (u := [x, y + (x * (kF A B)), z, t + (z * (kF A B))]) 3 rfl rfl rfl ty48 rfl (VP.le_refl _)) ?_
            refine WP.nil ?_
            refine DO.nx ?_
            refine DA.nil (by kernel_rfl) ?_
            exact QE.join (Imp.cons rfl (Imp.cons rfl (Imp.cons rfl (Imp.cons rfl (Imp.cons rfl (Imp.cons rfl (Imp.cons rfl (Imp.cons rfl (Imp.cons rfl (Imp.cons rfl (Imp.cons rfl (Imp.cons rfl (Imp.cons rfl (Imp.cons rfl (Imp.cons rfl (Imp.cons rfl (Imp.cons rfl (Imp.cons rfl (Imp.cons rfl (Imp.cons rfl (Imp.cons rfl (Imp.cons rfl (Imp.cons rfl (Imp.cons rfl (Imp.cons rfl (Imp.cons rfl (Imp.cons rfl (Imp.cons rfl (Imp.cons rfl (Imp.cons rfl (Imp.cons rfl (Imp.cons rfl (Imp.cons rfl (Imp.cons rfl (Imp.cons rfl (Imp.cons rfl (Imp.cons rfl (Imp.cons rfl (Imp.cons rfl (Imp.cons rfl (Imp.cons rfl (Imp.cons rfl (Imp.cons rfl (Imp.cons rfl (Imp.cons rfl (Imp.cons rfl (Imp.cons rfl (Imp.cons rfl (Imp.cons rfl (Imp.cons rfl (Imp.cons rfl (Imp.cons rfl (Imp.cons rfl (Imp.cons rfl (Imp.cons rfl (Imp.cons rfl (Imp.cons rfl (Imp.cons rfl (Imp.cons rfl (Imp.cons rfl (Imp.cons rfl Imp.nil))))))))))))))))))))))))))))))))))))))))))))))))))))))))))))) (OImp.refl _)
        refine QE.next ?_
        refine CW.ret ?_
        refine QE.thenR ?_
        refine QE.blkR ?_
        refine QE.thenR ?_
        refine QE.blkR ?_
        refine ST.obtold 4 rfl (OB.box_eq (y := ((gs A0 B0 C0 1 0 0 1).1)) (congrArg Prod.fst hE)) ?_
        refine ST.obtold 3 rfl (OB.box_eq (y := ((gs A0 B0 C0 1 0 0 1).2)) (congrArg Prod.snd hE)) ?_
        exact QE.done (.inl rfl) rfl (ResOk.c rfl (mem_at 4 rfl) ty47 (ResOk.c rfl (mem_at 3 rfl) ty48 ResOk.nil)) (OImp.sub (List.nil_sublist _)) ⟨rfl, rfl⟩
      · refine CW.skip ?_
        refine QE.next ?_
        refine CW.seq ?_
        have hnr := nred_b h_t65 h_t74
        refine CW.draw (Γ := [.fr (VP.ex (.pointer (some ⟨b1, 4, none⟩))), .fr (kC.is (sC A B C)), .fr (VP.ex (.pointer (some ⟨b1, 2, none⟩))), .fr (kC.is (sB A B)), .fr (kC.is (-(sB A B))), .fr (VP.ex (.pointer (some ⟨b1, 0, none⟩))), .fr (kC.is A), .fr ((kPair kC (kPair kC kC)).is ((sC A B C), (-(sB A B), A)))]) (lates := [false, false, false, false, false, false, false, false]) (by kernel_rfl) (Chk.of rfl (by kernel_rfl) rfl) (fun _ _ _ _ _ h => h) (fun q_ x_ h_ => ?_) (fun σ7 => ?_)
        · match q_, h_ with
          | 0, h_ => cases h_; exact Ob.f rfl .n fun N => (O.fa rfl fld47_2 rfl)
          | 1, h_ => cases h_; exact Ob.f rfl .n fun N => (O.ld (p := kC.is (sC A B C)) rfl (mem_app N (mem_at 5 rfl)) (Lens.snd (Lens.snd (Lens.id _))) ty31 rfl)
          | 2, h_ => cases h_; exact Ob.f rfl .n fun N => (O.fa rfl fld47_1 rfl)
          | 3, h_ => cases h_; exact Ob.f rfl .n fun N => (O.ld (p := kC.is (sB A B)) rfl (mem_app N (mem_at 5 rfl)) (Lens.snd (Lens.fst (Lens.id _))) ty31 rfl)
          | 4, h_ => cases h_; exact Ob.f rfl .n fun N => (O.fn fn161 (evs.l rfl (kC_Z hS.sb) evs.nil) (c_zint_Neg (sB A B)))
          | 5, h_ => cases h_; exact Ob.f rfl .n fun N => (O.fa rfl fld47_0 rfl)
          | 6, h_ => cases h_; exact Ob.f rfl .n fun N => (O.ld (p := kC.is A) rfl (mem_app N (mem_at 5 rfl)) (Lens.fst (Lens.id _)) ty31 rfl)
          | 7, h_ => cases h_; exact Ob.f rfl .n fun N => (O.bld lit47_pr_C_pr_C_C__ rfl (evp.c rfl (evp.c rfl (evp.c rfl evp.n))) (.cons rfl (Lens.fst (Lens.id _)) (.cons rfl (Lens.snd (Lens.fst (Lens.id _))) (.cons rfl (Lens.snd (Lens.snd (Lens.id _))) (.nil _)))))
          | n_ + 8, h_ => simp at h_
        refine WP.t .n (O.stW (l := (kPair kC (kPair kC kC))) (u := ((sC A B C), (-(sB A B), A))) 5 rfl rfl rfl ty47 rfl (VP.le_refl _)) ?_
        refine WP.nil ?_
        refine QE.next ?_
        refine CW.draw (Γ := [.fr (VP.ex (.pointer (some ⟨b4, 2, none⟩))), .fr (kC.is (y + (x * (kF A B)))), .fr (VP.ex (.pointer (some ⟨b4, 0, none⟩))), .fr (kC.is x), .fr (kC.is (-x)), .fr (VP.ex (.pointer (some ⟨b4, 6, none⟩))), .fr (kC.is (t + (z * (kF A B)))), .fr (VP.ex (.pointer (some ⟨b4, 4, none⟩))), .fr (kC.is z), .fr (kC.is (-z)), .fr ((kArr 4 kC).is [y + (x * (kF A B)), -x, t + (z * (kF A B)), -z])]) (lates := [false, false, false, false, false, false, false, false, false, false, false]) (by kernel_rfl) (Chk.of rfl (by kernel_rfl) rfl) (fun _ _ _ _ _ h => h) (fun q_ x_ h_ => ?_) (fun σ8 => ?_)
        · match q_, h_ with
          | 0, h_ => cases h_; exact Ob.f rfl .n fun N => (O.ixA (o' := 2) 1 rfl rfl Try.underlying48 ty31 rfl (by decide) (by rfl))
          | 1, h_ => cases h_; exact Ob.f rfl .n fun N => (O.ld (p := kC.is (y + (x * (kF A B)))) rfl (mem_app N (mem_at 2 rfl)) (Lens.arr 0 1 (by decide) (Lens.id _)) ty31 rfl)
          | 2, h_ => cases h_; exact Ob.f rfl .n fun N => (O.ixA (o' := 0) 0 rfl rfl Try.underlying48 ty31 rfl (by decide) (by rfl))
          | 3, h_ => cases h_; exact Ob.f rfl .n fun N => (O.ld (p := kC.is x) rfl (mem_app N (mem_at 2 rfl)) (Lens.arr 0 0 (by decide) (Lens.id _)) ty31 rfl)
          | 4, h_ => cases h_; exact Ob.f rfl .n fun N => (O.fn fn161 (evs.l rfl (kC_Z hS.fx) evs.nil) (c_zint_Neg x))
          | 5, h_ => cases h_; exact Ob.f rfl .n fun N => (O.ixA (o' := 6) 3 rfl rfl Try.underlying48 ty31 rfl (by decide) (by rfl))
          | 6, h_ => cases h_; exact Ob.f rfl .n fun N => (O.ld (p := kC.is (t + (z * (kF A B)))) rfl (mem_app N (mem_at 2 rfl)) (Lens.arr 0 3 (by decide) (Lens.id _)) ty31 rfl)
          | 7, h_ => cases h_; exact Ob.f rfl .n fun N => (O.ixA (o' := 4) 2 rfl rfl Try.underlying48 ty31 rfl (by decide) (by rfl))
          | 8, h_ => cases h_; exact Ob.f rfl .n fun N => (O.ld (p := kC.is z) rfl (mem_app N (mem_at 2 rfl)) (Lens.arr 0 2 (by decide) (Lens.id _)) ty31 rfl)
          | 9, h_ => cases h_; exact Ob.f rfl .n fun N => (O.fn fn161 (evs.l rfl (kC_Z hS.fz) evs.nil) (c_zint_Neg z))
          | 10, h_ => cases h_; exact Ob.f rfl .n fun N => (O.bld lit48_ar4_C rfl (evp.c rfl (evp.c rfl (evp.c rfl (evp.c rfl evp.n)))) (.cons rfl (Lens.arr 0 0 (by decide) (Lens.id _)) (.cons rfl (Lens.arr 0 1 (by decide) (Lens.id _)) (.cons rfl (Lens.arr 0 2 (by decide) (Lens.id _)) (.cons rfl (Lens.arr 0 3 (by decide) (Lens.id _)) (.nil _))))))
          | n_ + 11, h_ => simp at h_
        refine WP.t .n (O.stW (l := (kArr 4 kC)) (u := [y + (x * (kF A B)), -x, t + (z * (kF A B)), -z]) 2 rfl rfl rfl ty48 rfl (VP.le_refl _)) ?_
        refine WP.nil ?_
        refine QE.blkN ?_
        exact QE.round7 (sC A B C) (-(sB A B)) A (y + x * kF A B) (-x) (t + z * kF A B) (-z) (by exact gs_dec' hG.p hnr) (gsR_s hG hnr) (Imp.cons rfl (Imp.cons rfl (Imp.cons rfl (Imp.cons rfl Imp.nil)))) (OImp.os (OS.skip (OS.skip (OS.keepLe (OB.box_eq (by rfl)) (OS.keep (OS.keep (OS.keepLe (OB.box_eq (by rfl)) OS.nil)))))))
    · refine WP.ku (b := false) rfl rfl ?_
      refine WP.ku (b := false) rfl rfl ?_
      refine WP.ku (b := false) rfl rfl ?_
      refine WP.ku (b := false) rfl rfl ?_
      refine WP.s (.g rfl rfl) (O.pickF rfl rfl) ?_
      refine WP.s .n (O.pickF rfl rfl) ?_
      refine WP.nil ?_
      refine QE.next ?_
      refine CW.condF rfl ?_
      refine CW.skip ?_
      refine QE.next ?_
      refine CW.seq ?_
      have hnr := nred_e (B := sB A B) h_t65 h_t68
      refine CW.draw (Γ := [.fr (VP.ex (.pointer (some ⟨b1, 4, none⟩))), .fr (kC.is (sC A B C)), .fr (VP.ex (.pointer (some ⟨b1, 2, none⟩))), .fr (kC.is (sB A B)), .fr (kC.is (-(sB A B))), .fr (VP.ex (.pointer (some ⟨b1, 0, none⟩))), .fr (kC.is A), .fr ((kPair kC (kPair kC kC)).is ((sC A B C), (-(sB A B), A)))]) (lates := [false, false, false, false, false, false, false, false]) (by kernel_rfl) (Chk.of rfl (by kernel_rfl) rfl) (fun _ _ _ _ _ h => h) (fun q_ x_ h_ => ?_) (fun σ9 => ?_)
      · match q_, h_ with
        | 0, h_ => cases h_; exact Ob.f rfl .n fun N => (O.fa rfl fld47_2 rfl)
        | 1, h_ => cases h_; exact Ob.f rfl .n fun N => (O.ld (p := kC.is (sC A B C)) rfl (mem_app N (mem_at 5 rfl)) (Lens.snd (Lens.snd (Lens.id _))) ty31 rfl)
        | 2, h_ => cases h_; exact Ob.f rfl .n fun N => (O.fa rfl fld47_1 rfl)
        | 3, h_ => cases h_; exact Ob.f rfl .n fun N => (O.ld (p := kC.is (sB A B)) rfl (mem_app N (mem_at 5 rfl)) (Lens.snd (Lens.fst (Lens.id _))) ty31 rfl)
        | 4, h_ => cases h_; exact Ob.f rfl .n fun N => (O.fn fn161 (evs.l rfl (kC_Z hS.sb) evs.nil) (c_zint_Neg (sB A B)))
        | 5, h_ => cases h_; exact Ob.f rfl .n fun N => (O.fa rfl fld47_0 rfl)
        | 6, h_ => cases h_; exact Ob.f rfl .n fun N => (O.ld (p := kC.is A) rfl (mem_app N (mem_at 5 rfl)) (Lens.fst (Lens.id _)) ty31 rfl)
        | 7, h_ => cases h_; exact Ob.f rfl .n fun N => (O.bld lit47_pr_C_pr_C_C__ rfl (evp.c rfl (evp.c rfl (evp.c rfl evp.n))) (.cons rfl (Lens.fst (Lens.id _)) (.cons rfl (Lens.snd (Lens.fst (Lens.id _))) (.cons rfl (Lens.snd (Lens.snd (Lens.id _))) (.nil _)))))
        | n_ + 8, h_ => simp at h_
      refine WP.t .n (O.stW (l := (kPair kC (kPair kC kC))) (u := ((sC A B C), (-(sB A B), A))) 5 rfl rfl rfl ty47 rfl (VP.le_refl _)) ?_
      refine WP.nil ?_
      refine QE.next ?_
      refine CW.draw (Γ := [.fr (VP.ex (.pointer (some ⟨b4, 2, none⟩))), .fr (kC.is (y + (x * (kF A B)))), .fr (VP.ex (.pointer (some ⟨b4, 0, none⟩))), .fr (kC.is x), .fr (kC.is (-x)), .fr (VP.ex (.pointer (some ⟨b4, 6, none⟩))), .fr (kC.is (t + (z * (kF A B)))), .fr (VP.ex (.pointer (some ⟨b4, 4, none⟩))), .fr (kC.is z), .fr (kC.is (-z)), .fr ((kArr 4 kC).is [y + (x * (kF A B)), -x, t + (z * (kF A B)), -z])]) (lates := [false, false, false, false, false, false, false, false, false, false, false]) (by kernel_rfl) (Chk.of rfl (by kernel_rfl) rfl) (fun _ _ _ _ _ h => h) (fun q_ x_ h_ => ?_) (fun σ10 => ?_)
      · match q_, h_ with
        | 0, h_ => cases h_; exact Ob.f rfl .n fun N => (O.ixA (o' := 2) 1 rfl rfl Try.underlying48 ty31 rfl (by decide) (by rfl))
        | 1, h_ => cases h_; exact Ob.f rfl .n fun N => (O.ld (p := kC.is (y + (x * (kF A B)))) rfl (mem_app N (mem_at 2 rfl)) (Lens.arr 0 1 (by decide) (Lens.id _)) ty31 rfl)
        | 2, h_ => cases h_; exact Ob.f rfl .n fun N => (O.ixA (o' := 0) 0 rfl rfl Try.underlying48 ty31 rfl (by decide) (by rfl))
        | 3, h_ => cases h_; exact Ob.f rfl .n fun N => (O.ld (p := kC.is x) rfl (mem_app N (mem_at 2 rfl)) (Lens.arr 0 0 (by decide) (Lens.id _)) ty31 rfl)
        | 4, h_ => cases h_; exact Ob.f rfl .n fun N => (O.fn fn161 (evs.l rfl (kC_Z hS.fx) evs.nil) (c_zint_Neg x))
        | 5, h_ => cases h_; exact Ob.f rfl .n fun N => (O.ixA (o' := 6) 3 rfl rfl Try.underlying48 ty31 rfl (by decide) (by rfl))
        | 6, h_ => cases h_; exact Ob.f rfl .n fun N => (O.ld (p := kC.is (t + (z * (kF A B)))) rfl (mem_app N (mem_at 2 rfl)) (Lens.arr 0 3 (by decide) (Lens.id _)) ty31 rfl)
        | 7, h_ => cases h_; exact Ob.f rfl .n fun N => (O.ixA (o' := 4) 2 rfl rfl Try.underlying48 ty31 rfl (by decide) (by rfl))
        | 8, h_ => cases h_; exact Ob.f rfl .n fun N => (O.ld (p := kC.is z) rfl (mem_app N (mem_at 2 rfl)) (Lens.arr 0 2 (by decide) (Lens.id _)) ty31 rfl)
        | 9, h_ => cases h_; exact Ob.f rfl .n fun N => (O.fn fn161 (evs.l rfl (kC_Z hS.fz) evs.nil) (c_zint_Neg z))
        | 10, h_ => cases h_; exact Ob.f rfl .n fun N => (O.bld lit48_ar4_C rfl (evp.c rfl (evp.c rfl (evp.c rfl (evp.c rfl evp.n)))) (.cons rfl (Lens.arr 0 0 (by decide) (Lens.id _)) (.cons rfl (Lens.arr 0 1 (by decide) (Lens.id _)) (.cons rfl (Lens.arr 0 2 (by decide) (Lens.id _)) (.cons rfl (Lens.arr 0 3 (by decide) (Lens.id _)) (.nil _))))))
        | n_ + 11, h_ => simp at h_
      refine WP.t .n (O.stW (l := (kArr 4 kC)) (u := [y + (x * (kF A B)), -x, t + (z * (kF A B)), -z]) 2 rfl rfl rfl ty48 rfl (VP.le_refl _)) ?_
      refine WP.nil ?_
      refine QE.blkN ?_
      exact QE.round7 (sC A B C) (-(sB A B)) A (y + x * kF A B) (-x) (t + z * kF A B) (-z) (by exact gs_dec' hG.p hnr) (gsR_s hG hnr) (Imp.cons rfl (Imp.cons rfl (Imp.cons rfl (Imp.cons rfl Imp.nil)))) (OImp.os (OS.skip (OS.skip (OS.keepLe (OB.box_eq (by rfl)) (OS.keep (OS.keep (OS.keepLe (OB.box_eq (by rfl)) OS.nil)))))))

set_option maxRecDepth 20000 in
set_option maxHeartbeats 1000000 in
theorem c_quad_Gauss (A B C : Int) (n : Nat) (hn : n ≤ 100000000) (ha : Sz n A) (hb : Sz n B) (hc : Sz n C) : Fn Try.prog 24 [(kPair kZ (kPair kZ kZ)).is (A, B, C)] (VP.tup [(kPair kC (kPair kC kC)).is ((GV A B C).1), (kArr 4 kC).is ((GV A B C).2.1), (kInt .i64).is ((GV A B C).2.2)]) := by
  refine Con.enter Try.func24 rfl rfl fun m w => ?_
  refine CW.seq ?_
  refine CW.region ?_
  refine WP.bx .n rfl fun b1 => ?_
  refine WP.al .n z47_pr_C_pr_C_C__ fun b2 => ?_
  refine WP.al .n z48_ar4_C fun b3 => ?_
  refine WP.s .n (O.asg rfl) ?_
  refine WP.nil ?_
  refine QE.next ?_
  refine CW.seq ?_
  refine CW.seq ?_
  refine CW.region ?_
  refine WP.s .n (O.ld (p := (kPair kZ (kPair kZ kZ)).is (A, B, C)) rfl (mem_at 2 rfl) (Lens.id _) ty47 rfl) ?_
  refine WP.s .n (O.fn fn85 (evs.c rfl evs.nil) (c_quad_sound A B C (DiS_of ha hb hc (by omega)))) ?_
  refine WP.s .n (O.not rfl) ?_
  refine WP.nil ?_
  refine QE.next ?_
  refine CW.cond rfl (fun h_t9 => ?_) (fun h_t9 => ?_)
  · have hp : ¬ posF A B C := by simpa using h_t9
    refine CW.seq ?_
    refine CW.region ?_
    refine WP.s .n (O.bld lit47_pr_C_pr_C_C__ rfl evp.n (.nil _)) ?_
    refine WP.s .n (O.bld lit48_ar4_C rfl evp.n (.nil _)) ?_
    refine WP.t .n (O.stW (l := (kPair kC (kPair kC kC))) (u := (0, (0, 0))) 1 rfl rfl rfl ty47 rfl (VP.le_refl _)) ?_
    refine WP.t .n (O.stW (l := (kArr 4 kC)) (u := (List.replicate 4 0)) 0 rfl rfl rfl ty48 rfl (VP.le_refl _)) ?_
    refine WP.s .n (O.asg rfl) ?_
    refine WP.nil ?_
    refine QE.next ?_
    refine CW.ret ?_
    refine QE.thenR ?_
    refine ST.obtold 1 rfl (OB.box_eq (y := ((GV A B C).1)) (by rw [GV_n hp])) ?_
    refine ST.obtold 0 rfl (OB.box_eq (y := ((GV A B C).2.1)) (by rw [GV_n hp])) ?_
    refine ST.told 4 rfl (is_eq (y := ((GV A B C).2.2)) (by rw [GV_n hp])) ?_
    exact QE.done (.inl rfl) rfl (ResOk.c rfl (mem_at 1 rfl) ty47 (ResOk.c rfl (mem_at 0 rfl) ty48 (ResOk.t rfl ResOk.nil))) (OImp.sub (List.nil_sublist _)) ⟨rfl, rfl⟩
  · have hp : posF A B C := by simpa using h_t9
    refine CW.skip ?_
    refine QE.next ?_
    refine CW.seq ?_
    refine CW.region ?_
    refine WP.s .n (O.ld (p := (kPair kZ (kPair kZ kZ)).is (A, B, C)) rfl (mem_at 2 rfl) (Lens.id _) ty47 rfl) ?_
    refine WP.s .n (O.fn fn86 (evs.c rfl evs.nil) (c_quad_gauss A B C n (by assumption) (by assumption) (by assumption) (by assumption) hp)) ?_
    refine WP.s .n (O.mv rfl) ?_
    refine WP.s .n (O.ext rfl rfl) ?_
    refine WP.s .n (O.ext rfl rfl) ?_
    refine WP.al .n z47_pr_C_pr_C_C__ fun b4 => ?_
    refine WP.al .n z48_ar4_C fun b5 => ?_
    refine WP.t .n (O.stW (l := (kPair kC (kPair kC kC))) (u := (gs A B C 1 0 0 1).1) 1 rfl rfl rfl ty47 rfl (VP.le_refl _)) ?_
    refine WP.t .n (O.stW (l := (kArr 4 kC)) (u := (gs A B C 1 0 0 1).2) 0 rfl rfl rfl ty48 rfl (VP.le_refl _)) ?_
    refine WP.nil ?_
    refine QE.next ?_
    refine CW.seq ?_
    refine CW.join [(0, (kPair kZ (kPair kZ kZ)).is (A, B, C)), (1, VP.ex (.pointer (some ⟨b1, 0, none⟩))), (2, VP.ex (.pointer (some ⟨b2, 0, none⟩))), (3, VP.ex (.pointer (some ⟨b3, 0, none⟩))), (4, (kInt .i64).is 0), (5, VP.ex (.pointer (some ⟨b4, 0, none⟩))), (6, VP.ex (.pointer (some ⟨b5, 0, none⟩))), (7, (kPair kZ (kPair kZ kZ)).is (A, B, C)), (8, kBool.is (decide (posF A B C))), (9, kBool.is (!(decide (posF A B C)))), (12, VP.tup [(kPair kC (kPair kC kC)).is ((gs A B C 1 0 0 1).1), (kArr 4 kC).is ((gs A B C 1 0 0 1).2)]), (13, (kPair kZ (kPair kZ kZ)).is (A, B, C)), (14, VP.tup [(kPair kC (kPair kC kC)).is ((gs A B C 1 0 0 1).1), (kArr 4 kC).is ((gs A B C 1 0 0 1).2)]), (15, (kPair kC (kPair kC kC)).is ((gs A B C 1 0 0 1).1)), (16, (kArr 4 kC).is ((gs A B C 1 0 0 1).2)), (17, (kPair kC (kPair kC kC)).is ((gs A B C 1 0 0 1).1)), (18, (kArr 4 kC).is ((gs A B C 1 0 0 1).2))] [OB.box b5 48 (kArr 4 kC) ((gs A B C 1 0 0 1).2), OB.box b4 47 (kPair kC (kPair kC kC)) ((gs A B C 1 0 0 1).1), OB.box b3 48 (kArr 4 kC) ((gs A B C 1 0 0 1).2), OB.box b2 47 (kPair kC (kPair kC kC)) ((gs A B C 1 0 0 1).1), OB.box b1 47 (kPair kZ (kPair kZ kZ)) (A, B, C)] ?_ ?_
    · refine CW.any (by kernel_rfl) ?_
      refine DA.go 0 [1] (by kernel_rfl) ⟨?_, ⟨?_, trivial⟩⟩
      · refine DO.w rfl ?_
        refine WP.s .n (O.ld rfl (mem_at 1 rfl) (Lens.id _) ty47 rfl) ?_
        refine WP.nil ?_
        refine DO.nx ?_
        refine DA.go 1 [2] (by kernel_rfl) ⟨?_, ⟨?_, trivial⟩⟩
        · refine DO.w rfl ?_
          refine WP.s .n (O.ld (p := (kArr 4 kC).is ((gs A B C 1 0 0 1).2)) rfl (mem_at 0 rfl) (Lens.id _) ty48 rfl) ?_
          refine WP.nil ?_
          refine DO.nx ?_
          refine DA.go 2 [] (by kernel_rfl) ⟨?_, trivial⟩
          refine DO.w rfl ?_
          refine WP.t .n (O.stW (l := (kPair kC (kPair kC kC))) (u := (gs A B C 1 0 0 1).1) 3 rfl rfl rfl ty47 rfl (VP.le_refl _)) ?_
          refine WP.nil ?_
          refine DO.nx ?_
          refine DA.go 3 [] (by kernel_rfl) ⟨?_, trivial⟩
          refine DO.w rfl ?_
          refine WP.t .n (O.stW (l := (kArr 4 kC)) (u := (gs A B C 1 0 0 1).2) 2 rfl rfl rfl ty48 rfl (VP.le_refl _)) ?_
          refine WP.nil ?_
          refine DO.nx ?_
          refine DA.go 4 [] (by kernel_rfl) ⟨?_, trivial⟩
          refine DO.w rfl ?_
          refine WP.s .n (O.asg rfl) ?_
          refine WP.nil ?_
          refine DO.nx ?_
          refine DA.nil (by kernel_rfl) ?_
          exact QE.join (Imp.cons rfl (Imp.cons rfl (Imp.cons rfl (Imp.cons rfl (Imp.cons rfl (Imp.cons rfl (Imp.cons rfl (Imp.cons rfl (Imp.cons rfl (Imp.cons rfl (Imp.cons rfl (Imp.cons rfl (Imp.cons rfl (Imp.cons rfl (Imp.cons rfl (Imp.cons rfl (Imp.cons rfl Imp.nil))))))))))))))))) (OImp.refl _)
        · refine DO.w rfl ?_
          refine WP.t .n (O.stW (l := (kPair kC (kPair kC kC))) (u := (gs A B C 1 0 0 1).1) 3 rfl rfl rfl ty47 rfl (VP.le_refl _)) ?_
          refine WP.nil ?_
          refine DO.nx ?_
          refine DA.go 1 [] (by kernel_rfl) ⟨?_, trivial⟩
          refine DO.w rfl ?_
          refine WP.s .n (O.ld (p := (kArr 4 kC).is ((gs A B C 1 0 0 1).2)) rfl (mem_at 0 rfl) (Lens.id _) ty48 rfl) ?_
          refine WP.nil ?_
          refine DO.nx ?_
          refine DA.go 3 [] (by kernel_rfl) ⟨?_, trivial⟩
          refine DO.w rfl ?_
          refine WP.t .n (O.stW (l := (kArr 4 kC)) (u := (gs A B C 1 0 0 1).2) 2 rfl rfl rfl ty48 rfl (VP.le_refl _)) ?_
          refine WP.nil ?_
          refine DO.nx ?_
          refine DA.go 4 [] (by kernel_rfl) ⟨?_, trivial⟩
          refine DO.w rfl ?_
          refine WP.s .n (O.asg rfl) ?_
          refine WP.nil ?_
          refine DO.nx ?_
          refine DA.nil (by kernel_rfl) ?_
          exact QE.join (Imp.cons rfl (Imp.cons rfl (Imp.cons rfl (Imp.cons rfl (Imp.cons rfl (Imp.cons rfl (Imp.cons rfl (Imp.cons rfl (Imp.cons rfl (Imp.cons rfl (Imp.cons rfl (Imp.cons rfl (Imp.cons rfl (Imp.cons rfl (Imp.cons rfl (Imp.cons rfl (Imp.cons rfl Imp.nil))))))))))))))))) (OImp.refl _)
      · refine DO.w rfl ?_
        refine WP.s .n (O.ld (p := (kArr 4 kC).is ((gs A B C 1 0 0 1).2)) rfl (mem_at 0 rfl) (Lens.id _) ty48 rfl) ?_
        refine WP.nil ?_
        refine DO.nx ?_
        refine DA.go 0 [] (by kernel_rfl) ⟨?_, trivial⟩
        refine DO.w rfl ?_
        refine WP.s .n (O.ld rfl (mem_at 1 rfl) (Lens.id _) ty47 rfl) ?_
        refine WP.nil ?_
        refine DO.nx ?_
        refine DA.go 2 [] (by kernel_rfl) ⟨?_, trivial⟩
        refine DO.w rfl ?_
        refine WP.t .n (O.stW (l := (kPair kC (kPair kC kC))) (u := (gs A B C 1 0 0 1).1) 3 rfl rfl rfl ty47 rfl (VP.le_refl _)) ?_
        refine WP.nil ?_
        refine DO.nx ?_
        refine DA.go 3 [] (by kernel_rfl) ⟨?_, trivial⟩
        refine DO.w rfl ?_
        refine WP.t .n (O.stW (l := (kArr 4 kC)) (u := (gs A B C 1 0 0 1).2) 2 rfl rfl rfl ty48 rfl (VP.le_refl _)) ?_
        refine WP.nil ?_
        refine DO.nx ?_
        refine DA.go 4 [] (by kernel_rfl) ⟨?_, trivial⟩
        refine DO.w rfl ?_
        refine WP.s .n (O.asg rfl) ?_
        refine WP.nil ?_
        refine DO.nx ?_
        refine DA.nil (by kernel_rfl) ?_
        exact QE.join (Imp.cons rfl (Imp.cons rfl (Imp.cons rfl (Imp.cons rfl (Imp.cons rfl (Imp.cons rfl (Imp.cons rfl (Imp.cons rfl (Imp.cons rfl (Imp.cons rfl (Imp.cons rfl (Imp.cons rfl (Imp.cons rfl (Imp.cons rfl (Imp.cons rfl (Imp.cons rfl (Imp.cons rfl Imp.nil))))))))))))))))) (OImp.refl _)
    refine QE.next ?_
    refine CW.ret ?_
    refine ST.obtold 3 rfl (OB.box_eq (y := ((GV A B C).1)) (by rw [GV_p hp])) ?_
    refine ST.obtold 2 rfl (OB.box_eq (y := ((GV A B C).2.1)) (by rw [GV_p hp])) ?_
    refine ST.told 4 rfl (is_eq (y := ((GV A B C).2.2)) (by rw [GV_p hp])) ?_
    exact QE.done (.inl rfl) rfl (ResOk.c rfl (mem_at 3 rfl) ty47 (ResOk.c rfl (mem_at 2 rfl) ty48 (ResOk.t rfl ResOk.nil))) (OImp.sub (List.nil_sublist _)) ⟨rfl, rfl⟩

end Fw


/- Which forms are one; the document on binary forms; the statement QuadBinaries. -/
set_option linter.unusedVariables false
set_option linter.unusedSimpArgs false
set_option exponentiation.threshold 400
namespace Fw
open Go Go.Proofs

set_option maxRecDepth 20000 in
set_option maxHeartbeats 1000000 in
theorem c_quad_One (A B C D E F : Int) (n : Nat) (hn : n ≤ 100000000) (ha : Sz n A) (hb : Sz n B) (hc : Sz n C) (hd : Sz n D) (he : Sz n E) (hf : Sz n F) : Fn Try.prog 25 [(kPair kZ (kPair kZ kZ)).is (A, B, C), (kPair kZ (kPair kZ kZ)).is (D, E, F)] (VP.tup [kBool.is ((oneV A B C D E F).1), (kInt .i64).is ((oneV A B C D E F).2)]) := by
  refine Con.enter Try.func25 rfl rfl fun m w => ?_
  refine CW.seq ?_
  refine CW.region ?_
  refine WP.bx .n rfl fun b1 => ?_
  refine WP.bx .n rfl fun b2 => ?_
  refine WP.s .n (O.asg rfl) ?_
  refine WP.s .n (O.asg rfl) ?_
  refine WP.nil ?_
  refine QE.next ?_
  refine CW.seq ?_
  refine CW.seq ?_
  refine CW.region ?_
  refine WP.s .n (O.ld (p := (kPair kZ (kPair kZ kZ)).is (A, B, C)) rfl (mem_at 1 rfl) (Lens.id _) ty47 rfl) ?_
  refine WP.s .n (O.fn fn85 (evs.c rfl evs.nil) (c_quad_sound A B C (DiS_of ha hb hc (by omega)))) ?_
  refine WP.s .n (O.not rfl) ?_
  refine WP.s .n (O.mv rfl) ?_
  refine WP.split 13 rfl (fun h_t13 => ?_) (fun h_t13 => ?_)
  · have hp1 : ¬ posF A B C := by simpa using h_t13
    refine WP.ku (b := true) rfl rfl ?_
    refine WP.ku (b := true) rfl rfl ?_
    refine WP.ku (b := true) rfl rfl ?_
    refine WP.s .n (O.pickT rfl rfl) ?_
    refine WP.nil ?_
    refine QE.next ?_
    refine CW.condT rfl ?_
    refine CW.seq ?_
    refine CW.region ?_
    refine WP.s .n (O.asg rfl) ?_
    refine WP.s .n (O.asg rfl) ?_
    refine WP.nil ?_
    refine QE.next ?_
    refine CW.ret ?_
    refine QE.thenR ?_
    have hO := oneV_n (A := A) (B := B) (C := C) (D := D) (E := E) (F := F) (fun h => hp1 h.1)
    refine ST.told 4 rfl (is_eq (y := ((oneV A B C D E F).1)) (by rw [hO])) ?_
    refine ST.told 5 rfl (is_eq (y := ((oneV A B C D E F).2)) (by rw [hO])) ?_
    exact QE.done (.inl rfl) rfl (ResOk.t rfl (ResOk.t rfl ResOk.nil)) (OImp.sub (List.nil_sublist _)) ⟨rfl, rfl⟩
  · have hp1 : posF A B C := by simpa using h_t13
    refine WP.s (.g rfl rfl) (O.ld (p := (kPair kZ (kPair kZ kZ)).is (D, E, F)) rfl (mem_at 0 rfl) (Lens.id _) ty47 rfl) ?_
    refine WP.s (.g rfl rfl) (O.fn fn85 (evs.c rfl evs.nil) (c_quad_sound D E F (DiS_of hd he hf (by omega)))) ?_
    refine WP.s (.g rfl rfl) (O.not rfl) ?_
    refine WP.s .n (O.pickF rfl rfl) ?_
    refine WP.nil ?_
    refine QE.next ?_
    refine CW.cond rfl (fun h_t17 => ?_) (fun h_t17 => ?_)
    · have hp2 : ¬ posF D E F := by simpa using h_t17
      refine CW.seq ?_
      refine CW.region ?_
      refine WP.s .n (O.asg rfl) ?_
      refine WP.s .n (O.asg rfl) ?_
      refine WP.nil ?_
      refine QE.next ?_
      refine CW.ret ?_
      refine QE.thenR ?_
      have hO := oneV_n (A := A) (B := B) (C := C) (D := D) (E := E) (F := F) (fun h => hp2 h.2)
      refine ST.told 4 rfl (is_eq (y := ((oneV A B C D E F).1)) (by rw [hO])) ?_
      refine ST.told 5 rfl (is_eq (y := ((oneV A B C D E F).2)) (by rw [hO])) ?_
      exact QE.done (.inl rfl) rfl (ResOk.t rfl (ResOk.t rfl ResOk.nil)) (OImp.sub (List.nil_sublist _)) ⟨rfl, rfl⟩
    · have hp2 : posF D E F := by simpa using h_t17
      have hs1 := gs_Sm hn hp1 ha hb hc
      have hs2 := gs_Sm hn hp2 hd he hf
      refine CW.skip ?_
      refine QE.next ?_
      refine CW.seq ?_
      refine CW.region ?_
      refine WP.s .n (O.ld (p := (kPair kZ (kPair kZ kZ)).is (A, B, C)) rfl (mem_at 1 rfl) (Lens.id _) ty47 rfl) ?_
      refine WP.s .n (O.fn fn86 (evs.c rfl evs.nil) (c_quad_gauss A B C n (by assumption) (by assumption) (by assumption) (by assumption) hp1)) ?_
      refine WP.s .n (O.mv rfl) ?_
      refine WP.s .n (O.ext rfl rfl) ?_
      refine WP.s .n (O.ext rfl rfl) ?_
      refine WP.al .n z47_pr_C_pr_C_C__ fun b3 => ?_
      refine WP.al .n z48_ar4_C fun b4 => ?_
      refine WP.t .n (O.stW (l := (kPair kC (kPair kC kC))) (u := (gs A B C 1 0 0 1).1) 1 rfl rfl rfl ty47 rfl (VP.le_refl _)) ?_
      refine WP.t .n (O.stW (l := (kArr 4 kC)) (u := (gs A B C 1 0 0 1).2) 0 rfl rfl rfl ty48 rfl (VP.le_refl _)) ?_
      refine WP.nil ?_
      refine QE.next ?_
      refine CW.seq ?_
      refine CW.region ?_
      refine WP.s .n (O.ld (p := (kPair kZ (kPair kZ kZ)).is (D, E, F)) rfl (mem_at 2 rfl) (Lens.id _) ty47 rfl) ?_
      refine WP.s .n (O.fn fn86 (evs.c rfl evs.nil) (c_quad_gauss D E F n (by assumption) (by assumption) (by assumption) (by assumption) hp2)) ?_
      refine WP.s .n (O.mv rfl) ?_
      refine WP.s .n (O.ext rfl rfl) ?_
      refine WP.s .n (O.ext rfl rfl) ?_
      refine WP.al .n z47_pr_C_pr_C_C__ fun b5 => ?_
      refine WP.al .n z48_ar4_C fun b6 => ?_
      refine WP.t .n (O.stW (l := (kPair kC (kPair kC kC))) (u := (gs D E F 1 0 0 1).1) 1 rfl rfl rfl ty47 rfl (VP.le_refl _)) ?_
      refine WP.t .n (O.stW (l := (kArr 4 kC)) (u := (gs D E F 1 0 0 1).2) 0 rfl rfl rfl ty48 rfl (VP.le_refl _)) ?_
      refine WP.nil ?_
      refine QE.next ?_
      refine CW.seq ?_
      refine CW.region ?_
      refine WP.s .n (O.fa rfl fld47_0 rfl) ?_
      refine WP.s .n (O.ld rfl (mem_at 3 rfl) (Lens.fst (Lens.id _)) ty31 rfl) ?_
      refine WP.s .n (O.fa rfl fld47_0 rfl) ?_
      refine WP.s .n (O.ld rfl (mem_at 1 rfl) (Lens.fst (Lens.id _)) ty31 rfl) ?_
      refine WP.s .n (O.fn fn75 (evs.l rfl (kC_Z hs1.1) (evs.l rfl (kC_Z hs2.1) evs.nil)) (c_zint_Compare (((gs A B C 1 0 0 1).1).1) (((gs D E F 1 0 0 1).1).1))) ?_
      refine WP.s .n (O.eq rfl rfl) ?_
      refine WP.s .n (O.mv rfl) ?_
      refine WP.splitD 34 rfl (fun h_t34 => ?_) (fun h_t34 => ?_)
      · refine WP.s (.g rfl rfl) (O.fa rfl fld47_1 rfl) ?_
        refine WP.s (.g rfl rfl) (O.ld rfl (mem_at 3 rfl) (Lens.snd (Lens.fst (Lens.id _))) ty31 rfl) ?_
        refine WP.s (.g rfl rfl) (O.fa rfl fld47_1 rfl) ?_
        refine WP.s (.g rfl rfl) (O.ld rfl (mem_at 1 rfl) (Lens.snd (Lens.fst (Lens.id _))) ty31 rfl) ?_
        refine WP.s (.g rfl rfl) (O.fn fn75 (evs.l rfl (kC_Z hs1.2.1) (evs.l rfl (kC_Z hs2.2.1) evs.nil)) (c_zint_Compare ((((gs A B C 1 0 0 1).1).2).1) ((((gs D E F 1 0 0 1).1).2).1))) ?_
        refine WP.s (.g rfl rfl) (O.eq rfl rfl) ?_
        refine WP.s .n (O.pickT rfl rfl) ?_
        refine WP.s .n (O.mv rfl) ?_
        refine WP.splitD 42 rfl (fun h_t42 => ?_) (fun h_t42 => ?_)
        · refine WP.s (.g rfl rfl) (O.fa rfl fld47_2 rfl) ?_
          refine WP.s (.g rfl rfl) (O.ld rfl (mem_at 3 rfl) (Lens.snd (Lens.snd (Lens.id _))) ty31 rfl) ?_
          refine WP.s (.g rfl rfl) (O.fa rfl fld47_2 rfl) ?_
          refine WP.s (.g rfl rfl) (O.ld rfl (mem_at 1 rfl) (Lens.snd (Lens.snd (Lens.id _))) ty31 rfl) ?_
          refine WP.s (.g rfl rfl) (O.fn fn75 (evs.l rfl (kC_Z hs1.2.2) (evs.l rfl (kC_Z hs2.2.2) evs.nil)) (c_zint_Compare ((((gs A B C 1 0 0 1).1).2).2) ((((gs D E F 1 0 0 1).1).2).2))) ?_
          refine WP.s (.g rfl rfl) (O.eq rfl rfl) ?_
          refine WP.s .n (O.pickT rfl rfl) ?_
          refine WP.s .n (O.asg rfl) ?_
          refine WP.s .n (O.asg rfl) ?_
          refine WP.nil ?_
          refine QE.next ?_
          refine CW.ret ?_
          have hO := oneV_p hp1 hp2
          refine ST.told 4 rfl (is_eq (y := ((oneV A B C D E F).1)) (by rw [hO]; exact eq3_t h_t34 h_t42)) ?_
          refine ST.told 5 rfl (is_eq (y := ((oneV A B C D E F).2)) (by rw [hO])) ?_
          exact QE.done (.inl rfl) rfl (ResOk.t rfl (ResOk.t rfl ResOk.nil)) (OImp.sub (List.nil_sublist _)) ⟨rfl, rfl⟩
        · refine WP.ku (b := false) rfl rfl ?_
          refine WP.ku (b := false) rfl rfl ?_
          refine WP.ku (b := false) rfl rfl ?_
          refine WP.ku (b := false) rfl rfl ?_
          refine WP.ku (b := false) rfl rfl ?_
          refine WP.ku (b := false) rfl rfl ?_
          refine WP.s .n (O.pickF rfl rfl) ?_
          refine WP.s .n (O.asg rfl) ?_
          refine WP.s .n (O.asg rfl) ?_
          refine WP.nil ?_
          refine QE.next ?_
          refine CW.ret ?_
          have hO := oneV_p hp1 hp2
          refine ST.told 4 rfl (is_eq (y := ((oneV A B C D E F).1)) (by rw [hO]; exact eq3_b h_t42)) ?_
          refine ST.told 5 rfl (is_eq (y := ((oneV A B C D E F).2)) (by rw [hO])) ?_
          exact QE.done (.inl rfl) rfl (ResOk.t rfl (ResOk.t rfl ResOk.nil)) (OImp.sub (List.nil_sublist _)) ⟨rfl, rfl⟩
      · refine WP.ku (b := false) rfl rfl ?_
        refine WP.ku (b := false) rfl rfl ?_
        refine WP.ku (b := false) rfl rfl ?_
        refine WP.ku (b := false) rfl rfl ?_
        refine WP.ku (b := false) rfl rfl ?_
        refine WP.ku (b := false) rfl rfl ?_
        refine WP.s .n (O.pickF rfl rfl) ?_
        refine WP.s .n (O.mv rfl) ?_
        refine WP.ku (b := false) rfl rfl ?_
        refine WP.ku (b := false) rfl rfl ?_
        refine WP.ku (b := false) rfl rfl ?_
        refine WP.ku (b := false) rfl rfl ?_
        refine WP.ku (b := false) rfl rfl ?_
        refine WP.ku (b := false) rfl rfl ?_
        refine WP.s .n (O.pickF rfl rfl) ?_
        refine WP.s .n (O.asg rfl) ?_
        refine WP.s .n (O.asg rfl) ?_
        refine WP.nil ?_
        refine QE.next ?_
        refine CW.ret ?_
        have hO := oneV_p hp1 hp2
        refine ST.told 4 rfl (is_eq (y := ((oneV A B C D E F).1)) (by rw [hO]; exact eq3_a h_t34)) ?_
        refine ST.told 5 rfl (is_eq (y := ((oneV A B C D E F).2)) (by rw [hO])) ?_
        exact QE.done (.inl rfl) rfl (ResOk.t rfl (ResOk.t rfl ResOk.nil)) (OImp.sub (List.nil_sublist _)) ⟨rfl, rfl⟩

set_option maxRecDepth 20000 in
set_option maxHeartbeats 1000000 in
theorem c_ref22_disc (A B C : Int) (hD : DiS A B C) : Fn Try.prog 87 [(kPair kZ (kPair kZ kZ)).is (A, B, C)] (kC.is (B * B - 4 * (A * C))) := by
  refine Con.enter Try.func87 rfl rfl fun m w => ?_
  refine CW.seq ?_
  refine CW.region ?_
  refine WP.bx .n rfl fun b1 => ?_
  refine WP.al .n z31_C fun b2 => ?_
  refine WP.nil ?_
  refine QE.next ?_
  refine CW.seq ?_
  refine CW.draw (Γ := [.fr (VP.ex (.pointer (some ⟨b1, 2, none⟩))), .fr (kZ.is B), .fr (VP.ex (.pointer (some ⟨b1, 2, none⟩))), .fr (kZ.is B), .fr (kC.is (B * B)), .fr (kC.is 4), .fr (VP.ex (.pointer (some ⟨b1, 0, none⟩))), .fr (kZ.is A), .fr (VP.ex (.pointer (some ⟨b1, 4, none⟩))), .fr (kZ.is C), .fr (kC.is (A * C)), .fr (kC.is (4 * (A * C))), .fr (kC.is ((B * B) - (4 * (A * C))))]) (lates := [false, false, false, false, false, false, false, false, false, false, false, false, false]) (by kernel_rfl) (Chk.of rfl (by kernel_rfl) rfl) (fun _ _ _ _ _ h => h) (fun q_ x_ h_ => ?_) (fun σ1 => ?_)
  · match q_, h_ with
    | 0, h_ => cases h_; exact Ob.f rfl .n fun N => (O.fa rfl fld47_1 rfl)
    | 1, h_ => cases h_; exact Ob.f rfl .n fun N => (O.ld (p := kZ.is B) rfl (mem_app N (mem_at 1 rfl)) (Lens.snd (Lens.fst (Lens.id _))) ty31 rfl)
    | 2, h_ => cases h_; exact Ob.f rfl .n fun N => (O.fa rfl fld47_1 rfl)
    | 3, h_ => cases h_; exact Ob.f rfl .n fun N => (O.ld (p := kZ.is B) rfl (mem_app N (mem_at 1 rfl)) (Lens.snd (Lens.fst (Lens.id _))) ty31 rfl)
    | 4, h_ => cases h_; exact Ob.f rfl .n fun N => (O.fn fn91 (evs.c rfl (evs.c rfl evs.nil)) (c_ref02_Mul B B))
    | 5, h_ => cases h_; exact Ob.f rfl .n fun N => (O.fn fn78 (evs.l rfl (i64_int (by omega)) evs.nil) (c_ref02_Of 4))
    | 6, h_ => cases h_; exact Ob.f rfl .n fun N => (O.fa rfl fld47_0 rfl)
    | 7, h_ => cases h_; exact Ob.f rfl .n fun N => (O.ld (p := kZ.is A) rfl (mem_app N (mem_at 1 rfl)) (Lens.fst (Lens.id _)) ty31 rfl)
    | 8, h_ => cases h_; exact Ob.f rfl .n fun N => (O.fa rfl fld47_2 rfl)
    | 9, h_ => cases h_; exact Ob.f rfl .n fun N => (O.ld (p := kZ.is C) rfl (mem_app N (mem_at 1 rfl)) (Lens.snd (Lens.snd (Lens.id _))) ty31 rfl)
    | 10, h_ => cases h_; exact Ob.f rfl .n fun N => (O.fn fn91 (evs.c rfl (evs.c rfl evs.nil)) (c_ref02_Mul A C))
    | 11, h_ => cases h_; exact Ob.f rfl .n fun N => (O.fn fn91 (evs.l rfl (kC_Z hD.f4) (evs.l rfl (kC_Z hD.ac) evs.nil)) (c_ref02_Mul 4 (A * C)))
    | 12, h_ => cases h_; exact Ob.f rfl .n fun N => (O.fn fn90 (evs.l rfl (kC_Z hD.bb) (evs.l rfl (kC_Z hD.ac4) evs.nil)) (c_ref02_Sub (B * B) (4 * (A * C))))
    | n_ + 13, h_ => simp at h_
  refine WP.t .n (O.stW (l := kC) (u := (B * B) - (4 * (A * C))) 0 rfl rfl rfl ty31 rfl (VP.le_refl _)) ?_
  refine WP.nil ?_
  refine QE.next ?_
  refine CW.ret ?_
  exact QE.done (.inl rfl) rfl (ResOk.cl rfl (mem_at 0 rfl) ty31 (is_eq (y := (B * B - 4 * (A * C))) (by rfl)) ResOk.nil) (OImp.sub (List.nil_sublist _)) ⟨rfl, rfl⟩

set_option maxRecDepth 20000 in
set_option maxHeartbeats 1000000 in
theorem c_ref22_Positive (A B C : Int) (hD : DiS A B C) (hs : Sm (B * B - 4 * (A * C))) : Fn Try.prog 26 [(kPair kZ (kPair kZ kZ)).is (A, B, C)] (kBool.is (decide (posF A B C))) := by
  refine Con.enter Try.func26 rfl rfl fun m w => ?_
  refine CW.seq ?_
  refine CW.region ?_
  refine WP.bx .n rfl fun b1 => ?_
  refine WP.s .n (O.asg rfl) ?_
  refine WP.nil ?_
  refine QE.next ?_
  refine CW.seq ?_
  refine CW.region ?_
  refine WP.s .n (O.fa rfl fld47_0 rfl) ?_
  refine WP.s .n (O.ld (p := kZ.is A) rfl (mem_at 0 rfl) (Lens.fst (Lens.id _)) ty31 rfl) ?_
  refine WP.s .n (O.fn fn83 (evs.c rfl evs.nil) (c_ref02_Sign A)) ?_
  refine WP.s .n (O.gt rfl rfl) ?_
  refine WP.s .n (O.mv rfl) ?_
  refine WP.splitD 7 rfl (fun h_t7 => ?_) (fun h_t7 => ?_)
  · refine WP.s (.g rfl rfl) (O.ld (p := (kPair kZ (kPair kZ kZ)).is (A, B, C)) rfl (mem_at 0 rfl) (Lens.id _) ty47 rfl) ?_
    refine WP.s (.g rfl rfl) (O.fn fn87 (evs.c rfl evs.nil) (c_ref22_disc A B C (by assumption))) ?_
    refine WP.s (.g rfl rfl) (O.fn fn83 (evs.l rfl (kC_Z hs) evs.nil) (c_ref02_Sign (B * B - 4 * (A * C)))) ?_
    refine WP.s (.g rfl rfl) (O.lt rfl rfl) ?_
    refine WP.s .n (O.pickT rfl rfl) ?_
    refine WP.s .n (O.asg rfl) ?_
    refine WP.nil ?_
    refine QE.next ?_
    refine CW.ret ?_
    refine ST.told 2 rfl (is_eq (y := (decide (posF A B C))) (sound_t (sgn_pi h_t7))) ?_
    exact QE.done (.inl rfl) rfl (ResOk.t rfl ResOk.nil) (OImp.sub (List.nil_sublist _)) ⟨rfl, rfl⟩
  · refine WP.ku (b := false) rfl rfl ?_
    refine WP.ku (b := false) rfl rfl ?_
    refine WP.ku (b := false) rfl rfl ?_
    refine WP.ku (b := false) rfl rfl ?_
    refine WP.s .n (O.pickF rfl rfl) ?_
    refine WP.s .n (O.asg rfl) ?_
    refine WP.nil ?_
    refine QE.next ?_
    refine CW.ret ?_
    refine ST.told 2 rfl (is_eq (y := (decide (posF A B C))) (sound_f (sgn_npi h_t7))) ?_
    exact QE.done (.inl rfl) rfl (ResOk.t rfl ResOk.nil) (OImp.sub (List.nil_sublist _)) ⟨rfl, rfl⟩

set_option maxRecDepth 20000 in
set_option maxHeartbeats 4000000 in
theorem c_ref22_Gauss (A0 B0 C0 : Int) (n : Nat) (hn : n ≤ 100000000) (ha : Sz n A0) (hb : Sz n B0) (hc : Sz n C0) (hp : posF A0 B0 C0) : Fn Try.prog 28 [(kPair kZ (kPair kZ kZ)).is (A0, B0, C0)] ((kPair kC (kPair kC kC)).is (g1 A0 B0 C0)) := by
  refine Con.enter Try.func28 rfl rfl fun m w => ?_
  refine CW.seq ?_
  refine CW.region ?_
  refine WP.bx .n rfl fun b1 => ?_
  refine WP.al .n z47_pr_C_pr_C_C__ fun b2 => ?_
  refine WP.nil ?_
  refine QE.next ?_
  refine CW.seq ?_
  refine CW.region ?_
  refine WP.s .n (O.fn fn78 (evs.l rfl (i64_int (by omega)) evs.nil) (c_ref02_Of 2)) ?_
  refine WP.al .n z31_C fun b3 => ?_
  refine WP.t .n (O.stW (l := kC) (u := 2) 0 rfl rfl rfl ty31 rfl (VP.le_refl _)) ?_
  refine WP.nil ?_
  refine QE.next ?_
  refine CW.block ?_
  refine CW.loop3 (fun (A : Int) (B : Int) (C : Int) => G1R n A0 B0 C0 A B C) (fun (A : Int) (B : Int) (C : Int) => [(1, VP.ex (.pointer (some ⟨b1, 0, none⟩))), (2, VP.ex (.pointer (some ⟨b2, 0, none⟩))), (3, VP.ex (.pointer (some ⟨b3, 0, none⟩)))]) (fun (A : Int) (B : Int) (C : Int) => [OB.box b3 31 kC 2, OB.box b2 47 (kPair kC (kPair kC kC)) (0, 0, 0), OB.box b1 47 (kPair kZ (kPair kZ kZ)) (A, B, C)]) (fun (A : Int) (B : Int) (C : Int) => 2 * A.toNat + gFlag A B) A0 B0 C0 (g1R_0 hp ha hb hc) (Imp.cons rfl (Imp.cons rfl (Imp.cons rfl Imp.nil))) (OImp.os (OS.keep (OS.keepLe (OB.box_eq (by rfl)) (OS.keep OS.nil)))) ?_
  intro A B C hG
  have hpS := g1R_S (by omega) hp ha hc hG
  have hS := hpS.2
  refine CW.block ?_
  refine CW.seq ?_
  refine CW.draw (Γ := [.fr (VP.ex (.pointer (some ⟨b1, 0, none⟩))), .fr (kZ.is A), .fr (VP.ex (.pointer (some ⟨b1, 2, none⟩))), .fr (kZ.is B), .fr (kC.is (A - B)), .fr (kC.is 2), .fr (VP.ex (.pointer (some ⟨b1, 0, none⟩))), .fr (kZ.is A), .fr (kC.is (2 * A)), .fr (VP.tup [kC.is ((A - B).fdiv (2 * A)), kC.is ((A - B).fmod (2 * A))]), .fr (VP.tup [kC.is ((A - B).fdiv (2 * A)), kC.is ((A - B).fmod (2 * A))]), .fr (kC.is ((A - B).fdiv (2 * A))), .lt (kC.is ((A - B).fmod (2 * A))), .al (fun b => OB.box b 31 kC 0), .al (fun b => OB.box b 31 kC 0)]) (lates := [false, false, false, false, false, false, false, false, false, false, false, false, true, false, false]) (by kernel_rfl) (Chk.of rfl (by kernel_rfl) rfl) (fun _ _ _ _ _ h => h) (fun q_ x_ h_ => ?_) (fun σ1 => ?_)
  · match q_, h_ with
    | 0, h_ => cases h_; exact Ob.f rfl .n fun N => (O.fa rfl fld47_0 rfl)
    | 1, h_ => cases h_; exact Ob.f rfl .n fun N => (O.ld (p := kZ.is A) rfl (mem_app N (mem_at 2 rfl)) (Lens.fst (Lens.id _)) ty31 rfl)
    | 2, h_ => cases h_; exact Ob.f rfl .n fun N => (O.fa rfl fld47_1 rfl)
    | 3, h_ => cases h_; exact Ob.f rfl .n fun N => (O.ld (p := kZ.is B) rfl (mem_app N (mem_at 2 rfl)) (Lens.snd (Lens.fst (Lens.id _))) ty31 rfl)
    | 4, h_ => cases h_; exact Ob.f rfl .n fun N => (O.fn fn90 (evs.c rfl (evs.c rfl evs.nil)) (c_ref02_Sub A B))
    | 5, h_ => cases h_; exact Ob.f rfl .n fun N => (O.ld rfl (mem_app N (mem_at 0 rfl)) (Lens.id _) ty31 rfl)
    | 6, h_ => cases h_; exact Ob.f rfl .n fun N => (O.fa rfl fld47_0 rfl)
    | 7, h_ => cases h_; exact Ob.f rfl .n fun N => (O.ld (p := kZ.is A) rfl (mem_app N (mem_at 2 rfl)) (Lens.fst (Lens.id _)) ty31 rfl)
    | 8, h_ => cases h_; exact Ob.f rfl .n fun N => (O.fn fn91 (evs.l rfl (kC_Z hS.t2) (evs.c rfl evs.nil)) (c_ref02_Mul 2 A))
    | 9, h_ => cases h_; exact Ob.f rfl .n fun N => (O.fn fn89 (evs.l rfl (kC_Z hS.ab) (evs.l rfl (kC_Z hS.ta) evs.nil)) (c_ref02_Floor (A - B) (2 * A) (by have := hpS.1.1; omega)))
    | 10, h_ => cases h_; exact Ob.f rfl .n fun N => (O.mv rfl)
    | 11, h_ => cases h_; exact Ob.f rfl .n fun N => (O.ext rfl rfl)
    | 12, h_ => cases h_; exact Ob.l rfl .n (OV.ext rfl rfl)
    | 13, h_ => cases h_; exact Ob.a rfl z31_C
    | 14, h_ => cases h_; exact Ob.a rfl z31_C
    | n_ + 15, h_ => simp at h_
  refine WP.t .n (O.stW (l := kC) (u := (A - B).fdiv (2 * A)) 0 rfl rfl rfl ty31 rfl (VP.le_refl _)) ?_
  refine WP.t .n (O.stW (l := kC) (u := (A - B).fmod (2 * A)) 1 rfl rfl rfl ty31 rfl (VP.le_refl _)) ?_
  refine WP.nil ?_
  refine QE.next ?_
  refine CW.seq ?_
  refine ST.obtold 0 rfl (OB.box_eq (y := (kF A B)) (k2F A B)) ?_
  refine CW.draw (Γ := [.fr (VP.ex (.pointer (some ⟨b1, 0, none⟩))), .fr (kZ.is A), .fr (kC.is (kF A B)), .fr (kC.is (A * (kF A B))), .fr (VP.ex (.pointer (some ⟨b1, 2, none⟩))), .fr (kZ.is B), .fr (kC.is ((A * (kF A B)) + B)), .fr (kC.is (kF A B)), .fr (kC.is (((A * (kF A B)) + B) * (kF A B))), .fr (VP.ex (.pointer (some ⟨b1, 4, none⟩))), .fr (kZ.is C), .fr (kC.is ((((A * (kF A B)) + B) * (kF A B)) + C)), .al (fun b => OB.box b 31 kC 0)]) (lates := [false, false, false, false, false, false, false, false, false, false, false, false, false]) (by kernel_rfl) (Chk.of rfl (by kernel_rfl) rfl) (fun _ _ _ _ _ h => h) (fun q_ x_ h_ => ?_) (fun σ2 => ?_)
  · match q_, h_ with
    | 0, h_ => cases h_; exact Ob.f rfl .n fun N => (O.fa rfl fld47_0 rfl)
    | 1, h_ => cases h_; exact Ob.f rfl .n fun N => (O.ld (p := kZ.is A) rfl (mem_app N (mem_at 4 rfl)) (Lens.fst (Lens.id _)) ty31 rfl)
    | 2, h_ => cases h_; exact Ob.f rfl .n fun N => (O.ld rfl (mem_app N (mem_at 0 rfl)) (Lens.id _) ty31 rfl)
    | 3, h_ => cases h_; exact Ob.f rfl .n fun N => (O.fn fn91 (evs.c rfl (evs.l rfl (kC_Z hS.k) evs.nil)) (c_ref02_Mul A (kF A B)))
    | 4, h_ => cases h_; exact Ob.f rfl .n fun N => (O.fa rfl fld47_1 rfl)
    | 5, h_ => cases h_; exact Ob.f rfl .n fun N => (O.ld (p := kZ.is B) rfl (mem_app N (mem_at 4 rfl)) (Lens.snd (Lens.fst (Lens.id _))) ty31 rfl)
    | 6, h_ => cases h_; exact Ob.f rfl .n fun N => (O.fn fn79 (evs.l rfl (kC_Z hS.ak) (evs.c rfl evs.nil)) (c_ref02_Add (A * (kF A B)) B))
    | 7, h_ => cases h_; exact Ob.f rfl .n fun N => (O.ld rfl (mem_app N (mem_at 0 rfl)) (Lens.id _) ty31 rfl)
    | 8, h_ => cases h_; exact Ob.f rfl .n fun N => (O.fn fn91 (evs.l rfl (kC_Z hS.akb) (evs.l rfl (kC_Z hS.k) evs.nil)) (c_ref02_Mul ((A * (kF A B)) + B) (kF A B)))
    | 9, h_ => cases h_; exact Ob.f rfl .n fun N => (O.fa rfl fld47_2 rfl)
    | 10, h_ => cases h_; exact Ob.f rfl .n fun N => (O.ld (p := kZ.is C) rfl (mem_app N (mem_at 4 rfl)) (Lens.snd (Lens.snd (Lens.id _))) ty31 rfl)
    | 11, h_ => cases h_; exact Ob.f rfl .n fun N => (O.fn fn79 (evs.l rfl (kC_Z hS.akbk) (evs.c rfl evs.nil)) (c_ref02_Add (((A * (kF A B)) + B) * (kF A B)) C))
    | 12, h_ => cases h_; exact Ob.a rfl z31_C
    | n_ + 13, h_ => simp at h_
  refine WP.t .n (O.stW (l := kC) (u := (((A * (kF A B)) + B) * (kF A B)) + C) 0 rfl rfl rfl ty31 rfl (VP.le_refl _)) ?_
  refine WP.nil ?_
  refine QE.next ?_
  refine CW.seq ?_
  refine ST.obtold 0 rfl (OB.box_eq (y := (sC A B C)) rfl) ?_
  refine CW.draw (Γ := [.fr (VP.ex (.pointer (some ⟨b1, 2, none⟩))), .fr (kZ.is B), .fr (kC.is 2), .fr (VP.ex (.pointer (some ⟨b1, 0, none⟩))), .fr (kZ.is A), .fr (kC.is (2 * A)), .fr (kC.is (kF A B)), .fr (kC.is ((2 * A) * (kF A B))), .fr (kC.is (B + ((2 * A) * (kF A B)))), .al (fun b => OB.box b 31 kC 0)]) (lates := [false, false, false, false, false, false, false, false, false, false]) (by kernel_rfl) (Chk.of rfl (by kernel_rfl) rfl) (fun _ _ _ _ _ h => h) (fun q_ x_ h_ => ?_) (fun σ3 => ?_)
  · match q_, h_ with
    | 0, h_ => cases h_; exact Ob.f rfl .n fun N => (O.fa rfl fld47_1 rfl)
    | 1, h_ => cases h_; exact Ob.f rfl .n fun N => (O.ld (p := kZ.is B) rfl (mem_app N (mem_at 5 rfl)) (Lens.snd (Lens.fst (Lens.id _))) ty31 rfl)
    | 2, h_ => cases h_; exact Ob.f rfl .n fun N => (O.ld rfl (mem_app N (mem_at 3 rfl)) (Lens.id _) ty31 rfl)
    | 3, h_ => cases h_; exact Ob.f rfl .n fun N => (O.fa rfl fld47_0 rfl)
    | 4, h_ => cases h_; exact Ob.f rfl .n fun N => (O.ld (p := kZ.is A) rfl (mem_app N (mem_at 5 rfl)) (Lens.fst (Lens.id _)) ty31 rfl)
    | 5, h_ => cases h_; exact Ob.f rfl .n fun N => (O.fn fn91 (evs.l rfl (kC_Z hS.t2) (evs.c rfl evs.nil)) (c_ref02_Mul 2 A))
    | 6, h_ => cases h_; exact Ob.f rfl .n fun N => (O.ld rfl (mem_app N (mem_at 1 rfl)) (Lens.id _) ty31 rfl)
    | 7, h_ => cases h_; exact Ob.f rfl .n fun N => (O.fn fn91 (evs.l rfl (kC_Z hS.ta) (evs.l rfl (kC_Z hS.k) evs.nil)) (c_ref02_Mul (2 * A) (kF A B)))
    | 8, h_ => cases h_; exact Ob.f rfl .n fun N => (O.fn fn79 (evs.c rfl (evs.l rfl (kC_Z hS.tak) evs.nil)) (c_ref02_Add B ((2 * A) * (kF A B))))
    | 9, h_ => cases h_; exact Ob.a rfl z31_C
    | n_ + 10, h_ => simp at h_
  refine WP.t .n (O.stW (l := kC) (u := B + ((2 * A) * (kF A B))) 0 rfl rfl rfl ty31 rfl (VP.le_refl _)) ?_
  refine WP.nil ?_
  refine QE.next ?_
  refine CW.seq ?_
  refine ST.obtold 0 rfl (OB.box_eq (y := (sB A B)) (sB2 A B)) ?_
  refine CW.draw (Γ := [.fr (VP.ex (.pointer (some ⟨b1, 0, none⟩))), .fr (kZ.is A), .fr (kC.is A), .fr (kC.is (sB A B)), .fr (kC.is (sC A B C)), .fr ((kPair kC (kPair kC kC)).is (A, ((sB A B), (sC A B C))))]) (lates := [false, false, false, false, false, false]) (by kernel_rfl) (Chk.of rfl (by kernel_rfl) rfl) (fun _ _ _ _ _ h => h) (fun q_ x_ h_ => ?_) (fun σ4 => ?_)
  · match q_, h_ with
    | 0, h_ => cases h_; exact Ob.f rfl .n fun N => (O.fa rfl fld47_0 rfl)
    | 1, h_ => cases h_; exact Ob.f rfl .n fun N => (O.ld (p := kZ.is A) rfl (mem_app N (mem_at 6 rfl)) (Lens.fst (Lens.id _)) ty31 rfl)
    | 2, h_ => cases h_; exact Ob.f rfl .n fun N => (O.fn fn92 (evs.c rfl evs.nil) (c_ref02_Norm A))
    | 3, h_ => cases h_; exact Ob.f rfl .n fun N => (O.ld rfl (mem_app N (mem_at 0 rfl)) (Lens.id _) ty31 rfl)
    | 4, h_ => cases h_; exact Ob.f rfl .n fun N => (O.ld rfl (mem_app N (mem_at 1 rfl)) (Lens.id _) ty31 rfl)
    | 5, h_ => cases h_; exact Ob.f rfl .n fun N => (O.bld lit47_pr_C_pr_C_C__ rfl (evp.c rfl (evp.c rfl (evp.c rfl evp.n))) (.cons rfl (Lens.fst (Lens.id _)) (.cons rfl (Lens.snd (Lens.fst (Lens.id _))) (.cons rfl (Lens.snd (Lens.snd (Lens.id _))) (.nil _)))))
    | n_ + 6, h_ => simp at h_
  refine WP.t .n (O.stW (l := (kPair kC (kPair kC kC))) (u := (A, ((sB A B), (sC A B C)))) 6 rfl rfl rfl ty47 rfl (VP.le_refl _)) ?_
  refine WP.nil ?_
  refine QE.next ?_
  refine CW.seq ?_
  refine CW.region ?_
  refine WP.s .n (O.fa rfl fld47_0 rfl) ?_
  refine WP.s .n (O.ld (p := kC.is A) rfl (mem_at 6 rfl) (Lens.fst (Lens.id _)) ty31 rfl) ?_
  refine WP.s .n (O.fa rfl fld47_2 rfl) ?_
  refine WP.s .n (O.ld (p := kC.is (sC A B C)) rfl (mem_at 6 rfl) (Lens.snd (Lens.snd (Lens.id _))) ty31 rfl) ?_
  refine WP.s .n (O.fn fn88 (evs.l rfl (kC_Z hS.a) (evs.l rfl (kC_Z hS.sc) evs.nil)) (c_ref02_Cmp A (sC A B C) hS.ac)) ?_
  refine WP.s .n (O.asg rfl) ?_
  refine WP.nil ?_
  refine QE.next ?_
  refine CW.seq ?_
  refine CW.seq ?_
  refine CW.region ?_
  refine WP.s .n (O.mv rfl) ?_
  refine WP.s .n (O.lt rfl rfl) ?_
  refine WP.s .n (O.mv rfl) ?_
  refine WP.splitD 57 rfl (fun h_t57 => ?_) (fun h_t57 => ?_)
  · refine WP.ku (b := true) rfl rfl ?_
    refine WP.ku (b := true) rfl rfl ?_
    refine WP.ku (b := true) rfl rfl ?_
    refine WP.kk rfl rfl ?_
    refine WP.kk rfl rfl ?_
    refine WP.kk rfl rfl ?_
    refine WP.kk rfl rfl ?_
    refine WP.ku (b := true) rfl rfl ?_
    refine WP.s .n (O.pickT rfl rfl) ?_
    refine WP.nil ?_
    refine QE.next ?_
    refine CW.condT rfl ?_
    refine CW.seq ?_
    have hE := g1R_end hG (red_t h_t57)
    refine CW.region ?_
    refine WP.s .n (O.ld (p := (kPair kC (kPair kC kC)).is (A, ((sB A B), (sC A B C)))) rfl (mem_at 6 rfl) (Lens.id _) ty47 rfl) ?_
    refine WP.t .n (O.stW (l := (kPair kC (kPair kC kC))) (u := (A, ((sB A B), (sC A B C)))) 5 rfl rfl rfl ty47 rfl (VP.le_refl _)) ?_
    refine WP.nil ?_
    refine QE.next ?_
    refine CW.ret ?_
    refine QE.thenR ?_
    refine QE.blkR ?_
    refine QE.thenR ?_
    refine QE.blkR ?_
    refine ST.obtold 5 rfl (OB.box_eq (y := (g1 A0 B0 C0)) hE) ?_
    exact QE.done (.inl rfl) rfl (ResOk.c rfl (mem_at 5 rfl) ty47 ResOk.nil) (OImp.sub (List.nil_sublist _)) ⟨rfl, rfl⟩
  · refine WP.s (.g rfl rfl) (O.mv rfl) ?_
    refine WP.s (.g rfl rfl) (O.eq rfl rfl) ?_
    refine WP.s (.g rfl rfl) (O.mv rfl) ?_
    refine WP.splitD 60 rfl (fun h_t60 => ?_) (fun h_t60 => ?_)
    · refine WP.s (.g rfl rfl) (O.fa rfl fld47_1 rfl) ?_
      refine WP.s (.g rfl rfl) (O.ld (p := kC.is (sB A B)) rfl (mem_at 6 rfl) (Lens.snd (Lens.fst (Lens.id _))) ty31 rfl) ?_
      refine WP.s (.g rfl rfl) (O.fn fn83 (evs.l rfl (kC_Z hS.sb) evs.nil) (c_ref02_Sign (sB A B))) ?_
      refine WP.s (.g rfl rfl) (O.ge rfl rfl) ?_
      refine WP.s (.g rfl rfl) (O.pickT rfl rfl) ?_
      refine WP.s .n (O.pickF rfl rfl) ?_
      refine WP.nil ?_
      refine QE.next ?_
      refine CW.condD rfl (fun h_t66 => ?_) (fun h_t66 => ?_)
      · refine CW.seq ?_
        have hE := g1R_end hG (red_e h_t60 h_t66)
        refine CW.region ?_
        refine WP.s .n (O.ld (p := (kPair kC (kPair kC kC)).is (A, ((sB A B), (sC A B C)))) rfl (mem_at 6 rfl) (Lens.id _) ty47 rfl) ?_
        refine WP.t .n (O.stW (l := (kPair kC (kPair kC kC))) (u := (A, ((sB A B), (sC A B C)))) 5 rfl rfl rfl ty47 rfl (VP.le_refl _)) ?_
        refine WP.nil ?_
        refine QE.next ?_
        refine CW.ret ?_
        refine QE.thenR ?_
        refine QE.blkR ?_
        refine QE.thenR ?_
        refine QE.blkR ?_
        refine ST.obtold 5 rfl (OB.box_eq (y := (g1 A0 B0 C0)) hE) ?_
        exact QE.done (.inl rfl) rfl (ResOk.c rfl (mem_at 5 rfl) ty47 ResOk.nil) (OImp.sub (List.nil_sublist _)) ⟨rfl, rfl⟩
      · refine CW.skip ?_
        refine QE.next ?_
        have hnr := nred_b h_t57 h_t66
        refine CW.draw (Γ := [.fr (VP.ex (.pointer (some ⟨b1, 4, none⟩))), .fr (kC.is (sC A B C)), .fr (VP.ex (.pointer (some ⟨b1, 2, none⟩))), .fr (kC.is (sB A B)), .fr (kC.is (-(sB A B))), .fr (VP.ex (.pointer (some ⟨b1, 0, none⟩))), .fr (kC.is A), .fr ((kPair kC (kPair kC kC)).is ((sC A B C), (-(sB A B), A)))]) (lates := [false, false, false, false, false, false, false, false]) (by kernel_rfl) (Chk.of rfl (by kernel_rfl) rfl) (fun _ _ _ _ _ h => h) (fun q_ x_ h_ => ?_) (fun σ5 => ?_)
        · match q_, h_ with
          | 0, h_ => cases h_; exact Ob.f rfl .n fun N => (O.fa rfl fld47_2 rfl)
          | 1, h_ => cases h_; exact Ob.f rfl .n fun N => (O.ld (p := kC.is (sC A B C)) rfl (mem_app N (mem_at 6 rfl)) (Lens.snd (Lens.snd (Lens.id _))) ty31 rfl)
          | 2, h_ => cases h_; exact Ob.f rfl .n fun N => (O.fa rfl fld47_1 rfl)
          | 3, h_ => cases h_; exact Ob.f rfl .n fun N => (O.ld (p := kC.is (sB A B)) rfl (mem_app N (mem_at 6 rfl)) (Lens.snd (Lens.fst (Lens.id _))) ty31 rfl)
          | 4, h_ => cases h_; exact Ob.f rfl .n fun N => (O.fn fn93 (evs.l rfl (kC_Z hS.sb) evs.nil) (c_ref02_Neg (sB A B)))
          | 5, h_ => cases h_; exact Ob.f rfl .n fun N => (O.fa rfl fld47_0 rfl)
          | 6, h_ => cases h_; exact Ob.f rfl .n fun N => (O.ld (p := kC.is A) rfl (mem_app N (mem_at 6 rfl)) (Lens.fst (Lens.id _)) ty31 rfl)
          | 7, h_ => cases h_; exact Ob.f rfl .n fun N => (O.bld lit47_pr_C_pr_C_C__ rfl (evp.c rfl (evp.c rfl (evp.c rfl evp.n))) (.cons rfl (Lens.fst (Lens.id _)) (.cons rfl (Lens.snd (Lens.fst (Lens.id _))) (.cons rfl (Lens.snd (Lens.snd (Lens.id _))) (.nil _)))))
          | n_ + 8, h_ => simp at h_
        refine WP.t .n (O.stW (l := (kPair kC (kPair kC kC))) (u := ((sC A B C), (-(sB A B), A))) 6 rfl rfl rfl ty47 rfl (VP.le_refl _)) ?_
        refine WP.nil ?_
        refine QE.blkN ?_
        refine ST.obtold (b' := OB.box b1 47 (kPair kZ (kPair kZ kZ)) ((sC A B C), (-(sB A B)), A)) 6 rfl (OB.C3_Z3 hS.sc (Sm_neg hS.sb) hS.a) ?_
        exact QE.round3 (sC A B C) (-(sB A B)) A (by exact gs_dec' hpS.1 hnr) (g1R_s hG hnr) (Imp.cons rfl (Imp.cons rfl (Imp.cons rfl Imp.nil))) (OImp.os (OS.skip (OS.skip (OS.skip (OS.skip (OS.keep (OS.keep (OS.keep OS.nil))))))))
    · refine WP.ku (b := false) rfl rfl ?_
      refine WP.ku (b := false) rfl rfl ?_
      refine WP.ku (b := false) rfl rfl ?_
      refine WP.ku (b := false) rfl rfl ?_
      refine WP.s (.g rfl rfl) (O.pickF rfl rfl) ?_
      refine WP.s .n (O.pickF rfl rfl) ?_
      refine WP.nil ?_
      refine QE.next ?_
      refine CW.condF rfl ?_
      refine CW.skip ?_
      refine QE.next ?_
      have hnr := nred_e (B := sB A B) h_t57 h_t60
      refine CW.draw (Γ := [.fr (VP.ex (.pointer (some ⟨b1, 4, none⟩))), .fr (kC.is (sC A B C)), .fr (VP.ex (.pointer (some ⟨b1, 2, none⟩))), .fr (kC.is (sB A B)), .fr (kC.is (-(sB A B))), .fr (VP.ex (.pointer (some ⟨b1, 0, none⟩))), .fr (kC.is A), .fr ((kPair kC (kPair kC kC)).is ((sC A B C), (-(sB A B), A)))]) (lates := [false, false, false, false, false, false, false, false]) (by kernel_rfl) (Chk.of rfl (by kernel_rfl) rfl) (fun _ _ _ _ _ h => h) (fun q_ x_ h_ => ?_) (fun σ6 => ?_)
      · match q_, h_ with
        | 0, h_ => cases h_; exact Ob.f rfl .n fun N => (O.fa rfl fld47_2 rfl)
        | 1, h_ => cases h_; exact Ob.f rfl .n fun N => (O.ld (p := kC.is (sC A B C)) rfl (mem_app N (mem_at 6 rfl)) (Lens.snd (Lens.snd (Lens.id _))) ty31 rfl)
        | 2, h_ => cases h_; exact Ob.f rfl .n fun N => (O.fa rfl fld47_1 rfl)
        | 3, h_ => cases h_; exact Ob.f rfl .n fun N => (O.ld (p := kC.is (sB A B)) rfl (mem_app N (mem_at 6 rfl)) (Lens.snd (Lens.fst (Lens.id _))) ty31 rfl)
        | 4, h_ => cases h_; exact Ob.f rfl .n fun N => (O.fn fn93 (evs.l rfl (kC_Z hS.sb) evs.nil) (c_ref02_Neg (sB A B)))
        | 5, h_ => cases h_; exact Ob.f rfl .n fun N => (O.fa rfl fld47_0 rfl)
        | 6, h_ => cases h_; exact Ob.f rfl .n fun N => (O.ld (p := kC.is A) rfl (mem_app N (mem_at 6 rfl)) (Lens.fst (Lens.id _)) ty31 rfl)
        | 7, h_ => cases h_; exact Ob.f rfl .n fun N => (O.bld lit47_pr_C_pr_C_C__ rfl (evp.c rfl (evp.c rfl (evp.c rfl evp.n))) (.cons rfl (Lens.fst (Lens.id _)) (.cons rfl (Lens.snd (Lens.fst (Lens.id _))) (.cons rfl (Lens.snd (Lens.snd (Lens.id _))) (.nil _)))))
        | n_ + 8, h_ => simp at h_
      refine WP.t .n (O.stW (l := (kPair kC (kPair kC kC))) (u := ((sC A B C), (-(sB A B), A))) 6 rfl rfl rfl ty47 rfl (VP.le_refl _)) ?_
      refine WP.nil ?_
      refine QE.blkN ?_
      refine ST.obtold (b' := OB.box b1 47 (kPair kZ (kPair kZ kZ)) ((sC A B C), (-(sB A B)), A)) 6 rfl (OB.C3_Z3 hS.sc (Sm_neg hS.sb) hS.a) ?_
      exact QE.round3 (sC A B C) (-(sB A B)) A (by exact gs_dec' hpS.1 hnr) (g1R_s hG hnr) (Imp.cons rfl (Imp.cons rfl (Imp.cons rfl Imp.nil))) (OImp.os (OS.skip (OS.skip (OS.skip (OS.skip (OS.keep (OS.keep (OS.keep OS.nil))))))))

set_option maxRecDepth 20000 in
set_option maxHeartbeats 1000000 in
theorem c_ref22_Same (p q : Int × Int × Int) (h : SameS p q) : Fn Try.prog 27 [(kPair kC (kPair kC kC)).is p, (kPair kC (kPair kC kC)).is q] (kBool.is (decide (p = q))) := by
  refine Con.enter Try.func27 rfl rfl fun m w => ?_
  refine CW.seq ?_
  refine CW.region ?_
  refine WP.bx .n rfl fun b1 => ?_
  refine WP.bx .n rfl fun b2 => ?_
  refine WP.s .n (O.asg rfl) ?_
  refine WP.nil ?_
  refine QE.next ?_
  refine CW.seq ?_
  refine CW.region ?_
  refine WP.s .n (O.fa rfl fld47_0 rfl) ?_
  refine WP.s .n (O.ld rfl (mem_at 1 rfl) (Lens.fst (Lens.id _)) ty31 rfl) ?_
  refine WP.s .n (O.fa rfl fld47_0 rfl) ?_
  refine WP.s .n (O.ld rfl (mem_at 0 rfl) (Lens.fst (Lens.id _)) ty31 rfl) ?_
  refine WP.s .n (O.fn fn88 (evs.l rfl (kC_Z h.p1) (evs.l rfl (kC_Z h.q1) evs.nil)) (c_ref02_Cmp p.1 q.1 h.d1)) ?_
  refine WP.s .n (O.eq rfl rfl) ?_
  refine WP.s .n (O.mv rfl) ?_
  refine WP.splitD 11 rfl (fun h_t11 => ?_) (fun h_t11 => ?_)
  · refine WP.s (.g rfl rfl) (O.fa rfl fld47_1 rfl) ?_
    refine WP.s (.g rfl rfl) (O.ld rfl (mem_at 1 rfl) (Lens.snd (Lens.fst (Lens.id _))) ty31 rfl) ?_
    refine WP.s (.g rfl rfl) (O.fa rfl fld47_1 rfl) ?_
    refine WP.s (.g rfl rfl) (O.ld rfl (mem_at 0 rfl) (Lens.snd (Lens.fst (Lens.id _))) ty31 rfl) ?_
    refine WP.s (.g rfl rfl) (O.fn fn88 (evs.l rfl (kC_Z h.p2) (evs.l rfl (kC_Z h.q2) evs.nil)) (c_ref02_Cmp p.2.1 q.2.1 h.d2)) ?_
    refine WP.s (.g rfl rfl) (O.eq rfl rfl) ?_
    refine WP.s .n (O.pickT rfl rfl) ?_
    refine WP.s .n (O.mv rfl) ?_
    refine WP.splitD 19 rfl (fun h_t19 => ?_) (fun h_t19 => ?_)
    · refine WP.s (.g rfl rfl) (O.fa rfl fld47_2 rfl) ?_
      refine WP.s (.g rfl rfl) (O.ld rfl (mem_at 1 rfl) (Lens.snd (Lens.snd (Lens.id _))) ty31 rfl) ?_
      refine WP.s (.g rfl rfl) (O.fa rfl fld47_2 rfl) ?_
      refine WP.s (.g rfl rfl) (O.ld rfl (mem_at 0 rfl) (Lens.snd (Lens.snd (Lens.id _))) ty31 rfl) ?_
      refine WP.s (.g rfl rfl) (O.fn fn88 (evs.l rfl (kC_Z h.p3) (evs.l rfl (kC_Z h.q3) evs.nil)) (c_ref02_Cmp p.2.2 q.2.2 h.d3)) ?_
      refine WP.s (.g rfl rfl) (O.eq rfl rfl) ?_
      refine WP.s .n (O.pickT rfl rfl) ?_
      refine WP.s .n (O.asg rfl) ?_
      refine WP.nil ?_
      refine QE.next ?_
      refine CW.ret ?_
      refine ST.told 4 rfl (is_eq (y := (decide (p = q))) (eq3_t h_t11 h_t19)) ?_
      exact QE.done (.inl rfl) rfl (ResOk.t rfl ResOk.nil) (OImp.sub (List.nil_sublist _)) ⟨rfl, rfl⟩
    · refine WP.ku (b := false) rfl rfl ?_
      refine WP.ku (b := false) rfl rfl ?_
      refine WP.ku (b := false) rfl rfl ?_
      refine WP.ku (b := false) rfl rfl ?_
      refine WP.ku (b := false) rfl rfl ?_
      refine WP.ku (b := false) rfl rfl ?_
      refine WP.s .n (O.pickF rfl rfl) ?_
      refine WP.s .n (O.asg rfl) ?_
      refine WP.nil ?_
      refine QE.next ?_
      refine CW.ret ?_
      refine ST.told 4 rfl (is_eq (y := (decide (p = q))) (eq3_b h_t19)) ?_
      exact QE.done (.inl rfl) rfl (ResOk.t rfl ResOk.nil) (OImp.sub (List.nil_sublist _)) ⟨rfl, rfl⟩
  · refine WP.ku (b := false) rfl rfl ?_
    refine WP.ku (b := false) rfl rfl ?_
    refine WP.ku (b := false) rfl rfl ?_
    refine WP.ku (b := false) rfl rfl ?_
    refine WP.ku (b := false) rfl rfl ?_
    refine WP.ku (b := false) rfl rfl ?_
    refine WP.s .n (O.pickF rfl rfl) ?_
    refine WP.s .n (O.mv rfl) ?_
    refine WP.ku (b := false) rfl rfl ?_
    refine WP.ku (b := false) rfl rfl ?_
    refine WP.ku (b := false) rfl rfl ?_
    refine WP.ku (b := false) rfl rfl ?_
    refine WP.ku (b := false) rfl rfl ?_
    refine WP.ku (b := false) rfl rfl ?_
    refine WP.s .n (O.pickF rfl rfl) ?_
    refine WP.s .n (O.asg rfl) ?_
    refine WP.nil ?_
    refine QE.next ?_
    refine CW.ret ?_
    refine ST.told 4 rfl (is_eq (y := (decide (p = q))) (eq3_a h_t11)) ?_
    exact QE.done (.inl rfl) rfl (ResOk.t rfl ResOk.nil) (OImp.sub (List.nil_sublist _)) ⟨rfl, rfl⟩

set_option maxRecDepth 20000 in
set_option maxHeartbeats 1000000 in
theorem c_law22_value (A B C x y : Int) (hT : TvS A B C x y) : Fn Try.prog 94 [(kPair kZ (kPair kZ kZ)).is (A, B, C), kZ.is x, kZ.is y] (kC.is (tv A B C x y)) := by
  refine Con.enter Try.func94 rfl rfl fun m w => ?_
  refine CW.seq ?_
  refine CW.region ?_
  refine WP.bx .n rfl fun b1 => ?_
  refine WP.bx .n rfl fun b2 => ?_
  refine WP.bx .n rfl fun b3 => ?_
  refine WP.al .n z31_C fun b4 => ?_
  refine WP.nil ?_
  refine QE.next ?_
  refine CW.seq ?_
  refine CW.draw (Γ := [.fr (VP.ex (.pointer (some ⟨b1, 0, none⟩))), .fr (kZ.is A), .fr (kZ.is x), .fr (kZ.is x), .fr (kC.is (x * x)), .fr (kC.is (A * (x * x))), .al (fun b => OB.box b 31 kC 0)]) (lates := [false, false, false, false, false, false, false]) (by kernel_rfl) (Chk.of rfl (by kernel_rfl) rfl) (fun _ _ _ _ _ h => h) (fun q_ x_ h_ => ?_) (fun σ1 => ?_)
  · match q_, h_ with
    | 0, h_ => cases h_; exact Ob.f rfl .n fun N => (O.fa rfl fld47_0 rfl)
    | 1, h_ => cases h_; exact Ob.f rfl .n fun N => (O.ld (p := kZ.is A) rfl (mem_app N (mem_at 3 rfl)) (Lens.fst (Lens.id _)) ty31 rfl)
    | 2, h_ => cases h_; exact Ob.f rfl .n fun N => (O.ld rfl (mem_app N (mem_at 2 rfl)) (Lens.id _) ty31 rfl)
    | 3, h_ => cases h_; exact Ob.f rfl .n fun N => (O.ld rfl (mem_app N (mem_at 2 rfl)) (Lens.id _) ty31 rfl)
    | 4, h_ => cases h_; exact Ob.f rfl .n fun N => (O.fn fn91 (evs.c rfl (evs.c rfl evs.nil)) (c_ref02_Mul x x))
    | 5, h_ => cases h_; exact Ob.f rfl .n fun N => (O.fn fn91 (evs.c rfl (evs.l rfl (kC_Z hT.xx) evs.nil)) (c_ref02_Mul A (x * x)))
    | 6, h_ => cases h_; exact Ob.a rfl z31_C
    | n_ + 7, h_ => simp at h_
  refine WP.t .n (O.stW (l := kC) (u := A * (x * x)) 0 rfl rfl rfl ty31 rfl (VP.le_refl _)) ?_
  refine WP.nil ?_
  refine QE.next ?_
  refine CW.seq ?_
  refine CW.draw (Γ := [.fr (VP.ex (.pointer (some ⟨b1, 2, none⟩))), .fr (kZ.is B), .fr (kZ.is x), .fr (kZ.is y), .fr (kC.is (x * y)), .fr (kC.is (B * (x * y))), .al (fun b => OB.box b 31 kC 0)]) (lates := [false, false, false, false, false, false, false]) (by kernel_rfl) (Chk.of rfl (by kernel_rfl) rfl) (fun _ _ _ _ _ h => h) (fun q_ x_ h_ => ?_) (fun σ2 => ?_)
  · match q_, h_ with
    | 0, h_ => cases h_; exact Ob.f rfl .n fun N => (O.fa rfl fld47_1 rfl)
    | 1, h_ => cases h_; exact Ob.f rfl .n fun N => (O.ld (p := kZ.is B) rfl (mem_app N (mem_at 4 rfl)) (Lens.snd (Lens.fst (Lens.id _))) ty31 rfl)
    | 2, h_ => cases h_; exact Ob.f rfl .n fun N => (O.ld rfl (mem_app N (mem_at 3 rfl)) (Lens.id _) ty31 rfl)
    | 3, h_ => cases h_; exact Ob.f rfl .n fun N => (O.ld rfl (mem_app N (mem_at 2 rfl)) (Lens.id _) ty31 rfl)
    | 4, h_ => cases h_; exact Ob.f rfl .n fun N => (O.fn fn91 (evs.c rfl (evs.c rfl evs.nil)) (c_ref02_Mul x y))
    | 5, h_ => cases h_; exact Ob.f rfl .n fun N => (O.fn fn91 (evs.c rfl (evs.l rfl (kC_Z hT.xy) evs.nil)) (c_ref02_Mul B (x * y)))
    | 6, h_ => cases h_; exact Ob.a rfl z31_C
    | n_ + 7, h_ => simp at h_
  refine WP.t .n (O.stW (l := kC) (u := B * (x * y)) 0 rfl rfl rfl ty31 rfl (VP.le_refl _)) ?_
  refine WP.nil ?_
  refine QE.next ?_
  refine CW.seq ?_
  refine CW.draw (Γ := [.fr (kC.is (A * (x * x))), .fr (kC.is (B * (x * y))), .fr (kC.is ((A * (x * x)) + (B * (x * y)))), .fr (VP.ex (.pointer (some ⟨b1, 4, none⟩))), .fr (kZ.is C), .fr (kZ.is y), .fr (kZ.is y), .fr (kC.is (y * y)), .fr (kC.is (C * (y * y))), .fr (kC.is (((A * (x * x)) + (B * (x * y))) + (C * (y * y))))]) (lates := [false, false, false, false, false, false, false, false, false, false]) (by kernel_rfl) (Chk.of rfl (by kernel_rfl) rfl) (fun _ _ _ _ _ h => h) (fun q_ x_ h_ => ?_) (fun σ3 => ?_)
  · match q_, h_ with
    | 0, h_ => cases h_; exact Ob.f rfl .n fun N => (O.ld rfl (mem_app N (mem_at 1 rfl)) (Lens.id _) ty31 rfl)
    | 1, h_ => cases h_; exact Ob.f rfl .n fun N => (O.ld rfl (mem_app N (mem_at 0 rfl)) (Lens.id _) ty31 rfl)
    | 2, h_ => cases h_; exact Ob.f rfl .n fun N => (O.fn fn79 (evs.l rfl (kC_Z hT.axx) (evs.l rfl (kC_Z hT.bxy) evs.nil)) (c_ref02_Add (A * (x * x)) (B * (x * y))))
    | 3, h_ => cases h_; exact Ob.f rfl .n fun N => (O.fa rfl fld47_2 rfl)
    | 4, h_ => cases h_; exact Ob.f rfl .n fun N => (O.ld (p := kZ.is C) rfl (mem_app N (mem_at 5 rfl)) (Lens.snd (Lens.snd (Lens.id _))) ty31 rfl)
    | 5, h_ => cases h_; exact Ob.f rfl .n fun N => (O.ld rfl (mem_app N (mem_at 3 rfl)) (Lens.id _) ty31 rfl)
    | 6, h_ => cases h_; exact Ob.f rfl .n fun N => (O.ld rfl (mem_app N (mem_at 3 rfl)) (Lens.id _) ty31 rfl)
    | 7, h_ => cases h_; exact Ob.f rfl .n fun N => (O.fn fn91 (evs.c rfl (evs.c rfl evs.nil)) (c_ref02_Mul y y))
    | 8, h_ => cases h_; exact Ob.f rfl .n fun N => (O.fn fn91 (evs.c rfl (evs.l rfl (kC_Z hT.yy) evs.nil)) (c_ref02_Mul C (y * y)))
    | 9, h_ => cases h_; exact Ob.f rfl .n fun N => (O.fn fn79 (evs.l rfl (kC_Z hT.ab) (evs.l rfl (kC_Z hT.cyy) evs.nil)) (c_ref02_Add ((A * (x * x)) + (B * (x * y))) (C * (y * y))))
    | n_ + 10, h_ => simp at h_
  refine WP.t .n (O.stW (l := kC) (u := ((A * (x * x)) + (B * (x * y))) + (C * (y * y))) 2 rfl rfl rfl ty31 rfl (VP.le_refl _)) ?_
  refine WP.nil ?_
  refine QE.next ?_
  refine CW.ret ?_
  exact QE.done (.inl rfl) rfl (ResOk.cl rfl (mem_at 2 rfl) ty31 (is_eq (y := (tv A B C x y)) (by rfl)) ResOk.nil) (OImp.sub (List.nil_sublist _)) ⟨rfl, rfl⟩

set_option maxRecDepth 20000 in
set_option maxHeartbeats 1000000 in
theorem c_law22_turns (A B C a b c x y z t : Int) (hT : TR A B C a b c x y z t) (hS : TuS A B C a b c x y z t) : Fn Try.prog 30 [(kPair kZ (kPair kZ kZ)).is (A, B, C), (kPair kC (kPair kC kC)).is (a, b, c), (kArr 4 kC).is [x, y, z, t]] (kBool.is true) := by
  refine Con.enter Try.func30 rfl rfl fun m w => ?_
  refine CW.seq ?_
  refine CW.region ?_
  refine WP.bx .n rfl fun b1 => ?_
  refine WP.bx .n rfl fun b2 => ?_
  refine WP.bx .n rfl fun b3 => ?_
  refine WP.s .n (O.asg rfl) ?_
  refine WP.nil ?_
  refine QE.next ?_
  refine CW.seq ?_
  refine CW.draw (Γ := [.fr (VP.ex (.pointer (some ⟨b3, 0, none⟩))), .fr (kC.is x), .fr (VP.ex (.pointer (some ⟨b3, 6, none⟩))), .fr (kC.is t), .fr (kC.is (x * t)), .fr (VP.ex (.pointer (some ⟨b3, 2, none⟩))), .fr (kC.is y), .fr (VP.ex (.pointer (some ⟨b3, 4, none⟩))), .fr (kC.is z), .fr (kC.is (y * z)), .fr (kC.is ((x * t) - (y * z))), .al (fun b => OB.box b 31 kC 0)]) (lates := [false, false, false, false, false, false, false, false, false, false, false, false]) (by kernel_rfl) (Chk.of rfl (by kernel_rfl) rfl) (fun _ _ _ _ _ h => h) (fun q_ x_ h_ => ?_) (fun σ1 => ?_)
  · match q_, h_ with
    | 0, h_ => cases h_; exact Ob.f rfl .n fun N => (O.ixA (o' := 0) 0 rfl rfl Try.underlying48 ty31 rfl (by decide) (by rfl))
    | 1, h_ => cases h_; exact Ob.f rfl .n fun N => (O.ld (p := kC.is x) rfl (mem_app N (mem_at 0 rfl)) (Lens.arr 0 0 (by decide) (Lens.id _)) ty31 rfl)
    | 2, h_ => cases h_; exact Ob.f rfl .n fun N => (O.ixA (o' := 6) 3 rfl rfl Try.underlying48 ty31 rfl (by decide) (by rfl))
    | 3, h_ => cases h_; exact Ob.f rfl .n fun N => (O.ld (p := kC.is t) rfl (mem_app N (mem_at 0 rfl)) (Lens.arr 0 3 (by decide) (Lens.id _)) ty31 rfl)
    | 4, h_ => cases h_; exact Ob.f rfl .n fun N => (O.fn fn91 (evs.l rfl (kC_Z hS.fx) (evs.l rfl (kC_Z hS.ft) evs.nil)) (c_ref02_Mul x t))
    | 5, h_ => cases h_; exact Ob.f rfl .n fun N => (O.ixA (o' := 2) 1 rfl rfl Try.underlying48 ty31 rfl (by decide) (by rfl))
    | 6, h_ => cases h_; exact Ob.f rfl .n fun N => (O.ld (p := kC.is y) rfl (mem_app N (mem_at 0 rfl)) (Lens.arr 0 1 (by decide) (Lens.id _)) ty31 rfl)
    | 7, h_ => cases h_; exact Ob.f rfl .n fun N => (O.ixA (o' := 4) 2 rfl rfl Try.underlying48 ty31 rfl (by decide) (by rfl))
    | 8, h_ => cases h_; exact Ob.f rfl .n fun N => (O.ld (p := kC.is z) rfl (mem_app N (mem_at 0 rfl)) (Lens.arr 0 2 (by decide) (Lens.id _)) ty31 rfl)
    | 9, h_ => cases h_; exact Ob.f rfl .n fun N => (O.fn fn91 (evs.l rfl (kC_Z hS.fy) (evs.l rfl (kC_Z hS.fz) evs.nil)) (c_ref02_Mul y z))
    | 10, h_ => cases h_; exact Ob.f rfl .n fun N => (O.fn fn90 (evs.l rfl (kC_Z hS.xt) (evs.l rfl (kC_Z hS.yz) evs.nil)) (c_ref02_Sub (x * t) (y * z)))
    | 11, h_ => cases h_; exact Ob.a rfl z31_C
    | n_ + 12, h_ => simp at h_
  refine WP.t .n (O.stW (l := kC) (u := (x * t) - (y * z)) 0 rfl rfl rfl ty31 rfl (VP.le_refl _)) ?_
  refine WP.nil ?_
  refine QE.next ?_
  refine CW.seq ?_
  refine CW.seq ?_
  refine CW.draw (Γ := [.fr (kC.is ((x * t) - (y * z))), .fr (kC.is 1), .fr ((kInt .i64).is ((((x * t) - (y * z)) - 1).sign)), .fr (kBool.is (decide (((((x * t) - (y * z)) - 1).sign) ≠ 0)))]) (lates := [false, false, false, false]) (by kernel_rfl) (Chk.of rfl (by kernel_rfl) rfl) (fun _ _ _ _ _ h => h) (fun q_ x_ h_ => ?_) (fun σ2 => ?_)
  · match q_, h_ with
    | 0, h_ => cases h_; exact Ob.f rfl .n fun N => (O.ld rfl (mem_app N (mem_at 0 rfl)) (Lens.id _) ty31 rfl)
    | 1, h_ => cases h_; exact Ob.f rfl .n fun N => (O.fn fn78 (evs.l rfl (i64_int (by omega)) evs.nil) (c_ref02_Of 1))
    | 2, h_ => cases h_; exact Ob.f rfl .n fun N => (O.fn fn88 (evs.l rfl (kC_Z hS.d) (evs.l rfl (kC_Z hS.o) evs.nil)) (c_ref02_Cmp ((x * t) - (y * z)) 1 hS.d1))
    | 3, h_ => cases h_; exact Ob.f rfl .n fun N => (O.ne rfl rfl)
    | n_ + 4, h_ => simp at h_
  refine WP.nil ?_
  refine QE.next ?_
  refine CW.condD rfl (fun h => absurd h (sg_nne' hT.d)) (fun h_t26 => ?_)
  refine CW.skip ?_
  refine QE.next ?_
  refine CW.seq ?_
  refine CW.region ?_
  refine WP.s .n (O.ld (p := (kPair kZ (kPair kZ kZ)).is (A, B, C)) rfl (mem_at 3 rfl) (Lens.id _) ty47 rfl) ?_
  refine WP.s .n (O.ixA (o' := 0) 0 rfl rfl Try.underlying48 ty31 rfl (by decide) (by rfl)) ?_
  refine WP.s .n (O.ld (p := kC.is x) rfl (mem_at 1 rfl) (Lens.arr 0 0 (by decide) (Lens.id _)) ty31 rfl) ?_
  refine WP.s .n (O.ixA (o' := 4) 2 rfl rfl Try.underlying48 ty31 rfl (by decide) (by rfl)) ?_
  refine WP.s .n (O.ld (p := kC.is z) rfl (mem_at 1 rfl) (Lens.arr 0 2 (by decide) (Lens.id _)) ty31 rfl) ?_
  refine WP.s .n (O.fn fn94 (evs.c rfl (evs.l rfl (kC_Z hS.fx) (evs.l rfl (kC_Z hS.fz) evs.nil))) (c_law22_value A B C x z hS.v1)) ?_
  refine WP.al .n z31_C fun b4 => ?_
  refine WP.t .n (O.stW (l := kC) (u := (tv A B C x z)) 0 rfl rfl rfl ty31 rfl (VP.le_refl _)) ?_
  refine WP.nil ?_
  refine QE.next ?_
  refine CW.seq ?_
  refine ST.obtold 0 rfl (OB.box_eq (y := a) hT.a) ?_
  refine CW.region ?_
  refine WP.s .n (O.ld (p := (kPair kZ (kPair kZ kZ)).is (A, B, C)) rfl (mem_at 4 rfl) (Lens.id _) ty47 rfl) ?_
  refine WP.s .n (O.ixA (o' := 2) 1 rfl rfl Try.underlying48 ty31 rfl (by decide) (by rfl)) ?_
  refine WP.s .n (O.ld (p := kC.is y) rfl (mem_at 2 rfl) (Lens.arr 0 1 (by decide) (Lens.id _)) ty31 rfl) ?_
  refine WP.s .n (O.ixA (o' := 6) 3 rfl rfl Try.underlying48 ty31 rfl (by decide) (by rfl)) ?_
  refine WP.s .n (O.ld (p := kC.is t) rfl (mem_at 2 rfl) (Lens.arr 0 3 (by decide) (Lens.id _)) ty31 rfl) ?_
  refine WP.s .n (O.fn fn94 (evs.c rfl (evs.l rfl (kC_Z hS.fy) (evs.l rfl (kC_Z hS.ft) evs.nil))) (c_law22_value A B C y t hS.v2)) ?_
  refine WP.al .n z31_C fun b5 => ?_
  refine WP.t .n (O.stW (l := kC) (u := (tv A B C y t)) 0 rfl rfl rfl ty31 rfl (VP.le_refl _)) ?_
  refine WP.nil ?_
  refine QE.next ?_
  refine CW.seq ?_
  refine ST.obtold 0 rfl (OB.box_eq (y := c) hT.c) ?_
  refine CW.draw (Γ := [.fr ((kPair kZ (kPair kZ kZ)).is (A, B, C)), .fr (VP.ex (.pointer (some ⟨b3, 0, none⟩))), .fr (kC.is x), .fr (VP.ex (.pointer (some ⟨b3, 2, none⟩))), .fr (kC.is y), .fr (kC.is (x + y)), .fr (VP.ex (.pointer (some ⟨b3, 4, none⟩))), .fr (kC.is z), .fr (VP.ex (.pointer (some ⟨b3, 6, none⟩))), .fr (kC.is t), .fr (kC.is (z + t)), .fr (kC.is (tv A B C (x + y) (z + t))), .al (fun b => OB.box b 31 kC 0)]) (lates := [false, false, false, false, false, false, false, false, false, false, false, false, false]) (by kernel_rfl) (Chk.of rfl (by kernel_rfl) rfl) (fun _ _ _ _ _ h => h) (fun q_ x_ h_ => ?_) (fun σ3 => ?_)
  · match q_, h_ with
    | 0, h_ => cases h_; exact Ob.f rfl .n fun N => (O.ld (p := (kPair kZ (kPair kZ kZ)).is (A, B, C)) rfl (mem_app N (mem_at 5 rfl)) (Lens.id _) ty47 rfl)
    | 1, h_ => cases h_; exact Ob.f rfl .n fun N => (O.ixA (o' := 0) 0 rfl rfl Try.underlying48 ty31 rfl (by decide) (by rfl))
    | 2, h_ => cases h_; exact Ob.f rfl .n fun N => (O.ld (p := kC.is x) rfl (mem_app N (mem_at 3 rfl)) (Lens.arr 0 0 (by decide) (Lens.id _)) ty31 rfl)
    | 3, h_ => cases h_; exact Ob.f rfl .n fun N => (O.ixA (o' := 2) 1 rfl rfl Try.underlying48 ty31 rfl (by decide) (by rfl))
    | 4, h_ => cases h_; exact Ob.f rfl .n fun N => (O.ld (p := kC.is y) rfl (mem_app N (mem_at 3 rfl)) (Lens.arr 0 1 (by decide) (Lens.id _)) ty31 rfl)
    | 5, h_ => cases h_; exact Ob.f rfl .n fun N => (O.fn fn79 (evs.l rfl (kC_Z hS.fx) (evs.l rfl (kC_Z hS.fy) evs.nil)) (c_ref02_Add x y))
    | 6, h_ => cases h_; exact Ob.f rfl .n fun N => (O.ixA (o' := 4) 2 rfl rfl Try.underlying48 ty31 rfl (by decide) (by rfl))
    | 7, h_ => cases h_; exact Ob.f rfl .n fun N => (O.ld (p := kC.is z) rfl (mem_app N (mem_at 3 rfl)) (Lens.arr 0 2 (by decide) (Lens.id _)) ty31 rfl)
    | 8, h_ => cases h_; exact Ob.f rfl .n fun N => (O.ixA (o' := 6) 3 rfl rfl Try.underlying48 ty31 rfl (by decide) (by rfl))
    | 9, h_ => cases h_; exact Ob.f rfl .n fun N => (O.ld (p := kC.is t) rfl (mem_app N (mem_at 3 rfl)) (Lens.arr 0 3 (by decide) (Lens.id _)) ty31 rfl)
    | 10, h_ => cases h_; exact Ob.f rfl .n fun N => (O.fn fn79 (evs.l rfl (kC_Z hS.fz) (evs.l rfl (kC_Z hS.ft) evs.nil)) (c_ref02_Add z t))
    | 11, h_ => cases h_; exact Ob.f rfl .n fun N => (O.fn fn94 (evs.c rfl (evs.l rfl (kC_Z hS.xy) (evs.l rfl (kC_Z hS.zt) evs.nil))) (c_law22_value A B C (x + y) (z + t) hS.v3))
    | 12, h_ => cases h_; exact Ob.a rfl z31_C
    | n_ + 13, h_ => simp at h_
  refine WP.t .n (O.stW (l := kC) (u := (tv A B C (x + y) (z + t))) 0 rfl rfl rfl ty31 rfl (VP.le_refl _)) ?_
  refine WP.nil ?_
  refine QE.next ?_
  refine CW.seq ?_
  refine CW.draw (Γ := [.fr (kC.is (tv A B C (x + y) (z + t))), .fr (kC.is a), .fr (kC.is c), .fr (kC.is (a + c)), .fr (kC.is ((tv A B C (x + y) (z + t)) - (a + c))), .al (fun b => OB.box b 31 kC 0)]) (lates := [false, false, false, false, false, false]) (by kernel_rfl) (Chk.of rfl (by kernel_rfl) rfl) (fun _ _ _ _ _ h => h) (fun q_ x_ h_ => ?_) (fun σ4 => ?_)
  · match q_, h_ with
    | 0, h_ => cases h_; exact Ob.f rfl .n fun N => (O.ld rfl (mem_app N (mem_at 0 rfl)) (Lens.id _) ty31 rfl)
    | 1, h_ => cases h_; exact Ob.f rfl .n fun N => (O.ld rfl (mem_app N (mem_at 2 rfl)) (Lens.id _) ty31 rfl)
    | 2, h_ => cases h_; exact Ob.f rfl .n fun N => (O.ld rfl (mem_app N (mem_at 1 rfl)) (Lens.id _) ty31 rfl)
    | 3, h_ => cases h_; exact Ob.f rfl .n fun N => (O.fn fn79 (evs.l rfl (kC_Z hS.fa) (evs.l rfl (kC_Z hS.fc) evs.nil)) (c_ref02_Add a c))
    | 4, h_ => cases h_; exact Ob.f rfl .n fun N => (O.fn fn90 (evs.l rfl (kC_Z hS.s) (evs.l rfl (kC_Z hS.ac) evs.nil)) (c_ref02_Sub (tv A B C (x + y) (z + t)) (a + c)))
    | 5, h_ => cases h_; exact Ob.a rfl z31_C
    | n_ + 6, h_ => simp at h_
  refine WP.t .n (O.stW (l := kC) (u := (tv A B C (x + y) (z + t)) - (a + c)) 0 rfl rfl rfl ty31 rfl (VP.le_refl _)) ?_
  refine WP.nil ?_
  refine QE.next ?_
  refine CW.seq ?_
  refine ST.obtold 0 rfl (OB.box_eq (y := b) (by rw [← hT.b, hT.a, hT.c])) ?_
  refine CW.region ?_
  refine WP.s .n (O.ld rfl (mem_at 3 rfl) (Lens.id _) ty31 rfl) ?_
  refine WP.s .n (O.fa rfl fld47_0 rfl) ?_
  refine WP.s .n (O.ld (p := kC.is a) rfl (mem_at 6 rfl) (Lens.fst (Lens.id _)) ty31 rfl) ?_
  refine WP.s .n (O.fn fn88 (evs.l rfl (kC_Z hS.fa) (evs.l rfl (kC_Z hS.fa) evs.nil)) (c_ref02_Cmp a a hS.a0)) ?_
  refine WP.s .n (O.eq rfl rfl) ?_
  refine WP.s .n (O.mv rfl) ?_
  refine WP.splitD 61 rfl (fun h_t61 => ?_) (fun h => absurd (sg_0 a) h)
  refine WP.s (.g rfl rfl) (O.ld rfl (mem_at 0 rfl) (Lens.id _) ty31 rfl) ?_
  refine WP.s (.g rfl rfl) (O.fa rfl fld47_1 rfl) ?_
  refine WP.s (.g rfl rfl) (O.ld (p := kC.is b) rfl (mem_at 6 rfl) (Lens.snd (Lens.fst (Lens.id _))) ty31 rfl) ?_
  refine WP.s (.g rfl rfl) (O.fn fn88 (evs.l rfl (kC_Z hS.fb) (evs.l rfl (kC_Z hS.fb) evs.nil)) (c_ref02_Cmp b b hS.b0)) ?_
  refine WP.s (.g rfl rfl) (O.eq rfl rfl) ?_
  refine WP.s .n (O.pickT rfl rfl) ?_
  refine WP.s .n (O.mv rfl) ?_
  refine WP.splitD 68 rfl (fun h_t68 => ?_) (fun h => absurd (sg_0 b) h)
  refine WP.s (.g rfl rfl) (O.ld rfl (mem_at 2 rfl) (Lens.id _) ty31 rfl) ?_
  refine WP.s (.g rfl rfl) (O.fa rfl fld47_2 rfl) ?_
  refine WP.s (.g rfl rfl) (O.ld (p := kC.is c) rfl (mem_at 6 rfl) (Lens.snd (Lens.snd (Lens.id _))) ty31 rfl) ?_
  refine WP.s (.g rfl rfl) (O.fn fn88 (evs.l rfl (kC_Z hS.fc) (evs.l rfl (kC_Z hS.fc) evs.nil)) (c_ref02_Cmp c c hS.c0)) ?_
  refine WP.s (.g rfl rfl) (O.eq rfl rfl) ?_
  refine WP.s .n (O.pickT rfl rfl) ?_
  refine WP.s .n (O.asg rfl) ?_
  refine WP.nil ?_
  refine QE.next ?_
  refine CW.ret ?_
  exact QE.done (.inl rfl) rfl (ResOk.tl rfl (is_eq (y := true) (by first | rfl | simp [hT.c])) ResOk.nil) (OImp.sub (List.nil_sublist _)) ⟨rfl, rfl⟩

set_option maxRecDepth 20000 in
set_option maxHeartbeats 1000000 in
theorem c_law22_QuadBinaries (A B C D E F : Int) (n : Nat) (hn : n ≤ 100000000) (ha : Sz n A) (hb : Sz n B) (hc : Sz n C) (hd : Sz n D) (he : Sz n E) (hf : Sz n F) : Fn Try.prog 6 [(kPair kZ (kPair kZ kZ)).is (A, B, C), (kPair kZ (kPair kZ kZ)).is (D, E, F)] (kBool.is true) := by
  refine Con.enter Try.func6 rfl rfl fun m w => ?_
  refine CW.seq ?_
  refine CW.region ?_
  refine WP.bx .n rfl fun b1 => ?_
  refine WP.bx .n rfl fun b2 => ?_
  refine WP.s .n (O.asg rfl) ?_
  refine WP.nil ?_
  refine QE.next ?_
  refine CW.seq ?_
  refine CW.draw (Γ := [.fr (VP.ex (.pointer (some ⟨b1, 0, none⟩))), .fr (kZ.is A), .fr (kZ.is A), .fr (VP.ex (.pointer (some ⟨b1, 2, none⟩))), .fr (kZ.is B), .fr (kZ.is B), .fr (VP.ex (.pointer (some ⟨b1, 4, none⟩))), .fr (kZ.is C), .fr (kZ.is C), .fr ((kPair kZ (kPair kZ kZ)).is (A, (B, C))), .al (fun b => OB.box b 47 (kPair kZ (kPair kZ kZ)) (0, (0, 0)))]) (lates := [false, false, false, false, false, false, false, false, false, false, false]) (by kernel_rfl) (Chk.of rfl (by kernel_rfl) rfl) (fun _ _ _ _ _ h => h) (fun q_ x_ h_ => ?_) (fun σ1 => ?_)
  · match q_, h_ with
    | 0, h_ => cases h_; exact Ob.f rfl .n fun N => (O.fa rfl fld47_0 rfl)
    | 1, h_ => cases h_; exact Ob.f rfl .n fun N => (O.ld (p := kZ.is A) rfl (mem_app N (mem_at 1 rfl)) (Lens.fst (Lens.id _)) ty31 rfl)
    | 2, h_ => cases h_; exact Ob.f rfl .n fun N => (O.fn fn23 (evs.c rfl evs.nil) (c_law22_own A))
    | 3, h_ => cases h_; exact Ob.f rfl .n fun N => (O.fa rfl fld47_1 rfl)
    | 4, h_ => cases h_; exact Ob.f rfl .n fun N => (O.ld (p := kZ.is B) rfl (mem_app N (mem_at 1 rfl)) (Lens.snd (Lens.fst (Lens.id _))) ty31 rfl)
    | 5, h_ => cases h_; exact Ob.f rfl .n fun N => (O.fn fn23 (evs.c rfl evs.nil) (c_law22_own B))
    | 6, h_ => cases h_; exact Ob.f rfl .n fun N => (O.fa rfl fld47_2 rfl)
    | 7, h_ => cases h_; exact Ob.f rfl .n fun N => (O.ld (p := kZ.is C) rfl (mem_app N (mem_at 1 rfl)) (Lens.snd (Lens.snd (Lens.id _))) ty31 rfl)
    | 8, h_ => cases h_; exact Ob.f rfl .n fun N => (O.fn fn23 (evs.c rfl evs.nil) (c_law22_own C))
    | 9, h_ => cases h_; exact Ob.f rfl .n fun N => (O.bld lit47_pr_Z_pr_Z_Z__ rfl (evp.c rfl (evp.c rfl (evp.c rfl evp.n))) (.cons rfl (Lens.fst (Lens.id _)) (.cons rfl (Lens.snd (Lens.fst (Lens.id _))) (.cons rfl (Lens.snd (Lens.snd (Lens.id _))) (.nil _)))))
    | 10, h_ => cases h_; exact Ob.a rfl z47_pr_Z_pr_Z_Z__
    | n_ + 11, h_ => simp at h_
  refine WP.t .n (O.stW (l := (kPair kZ (kPair kZ kZ))) (u := (A, (B, C))) 0 rfl rfl rfl ty47 rfl (VP.le_refl _)) ?_
  refine WP.nil ?_
  refine QE.next ?_
  refine CW.seq ?_
  refine CW.draw (Γ := [.fr (VP.ex (.pointer (some ⟨b2, 0, none⟩))), .fr (kZ.is D), .fr (kZ.is D), .fr (VP.ex (.pointer (some ⟨b2, 2, none⟩))), .fr (kZ.is E), .fr (kZ.is E), .fr (VP.ex (.pointer (some ⟨b2, 4, none⟩))), .fr (kZ.is F), .fr (kZ.is F), .fr ((kPair kZ (kPair kZ kZ)).is (D, (E, F))), .al (fun b => OB.box b 47 (kPair kZ (kPair kZ kZ)) (0, (0, 0)))]) (lates := [false, false, false, false, false, false, false, false, false, false, false]) (by kernel_rfl) (Chk.of rfl (by kernel_rfl) rfl) (fun _ _ _ _ _ h => h) (fun q_ x_ h_ => ?_) (fun σ2 => ?_)
  · match q_, h_ with
    | 0, h_ => cases h_; exact Ob.f rfl .n fun N => (O.fa rfl fld47_0 rfl)
    | 1, h_ => cases h_; exact Ob.f rfl .n fun N => (O.ld (p := kZ.is D) rfl (mem_app N (mem_at 1 rfl)) (Lens.fst (Lens.id _)) ty31 rfl)
    | 2, h_ => cases h_; exact Ob.f rfl .n fun N => (O.fn fn23 (evs.c rfl evs.nil) (c_law22_own D))
    | 3, h_ => cases h_; exact Ob.f rfl .n fun N => (O.fa rfl fld47_1 rfl)
    | 4, h_ => cases h_; exact Ob.f rfl .n fun N => (O.ld (p := kZ.is E) rfl (mem_app N (mem_at 1 rfl)) (Lens.snd (Lens.fst (Lens.id _))) ty31 rfl)
    | 5, h_ => cases h_; exact Ob.f rfl .n fun N => (O.fn fn23 (evs.c rfl evs.nil) (c_law22_own E))
    | 6, h_ => cases h_; exact Ob.f rfl .n fun N => (O.fa rfl fld47_2 rfl)
    | 7, h_ => cases h_; exact Ob.f rfl .n fun N => (O.ld (p := kZ.is F) rfl (mem_app N (mem_at 1 rfl)) (Lens.snd (Lens.snd (Lens.id _))) ty31 rfl)
    | 8, h_ => cases h_; exact Ob.f rfl .n fun N => (O.fn fn23 (evs.c rfl evs.nil) (c_law22_own F))
    | 9, h_ => cases h_; exact Ob.f rfl .n fun N => (O.bld lit47_pr_Z_pr_Z_Z__ rfl (evp.c rfl (evp.c rfl (evp.c rfl evp.n))) (.cons rfl (Lens.fst (Lens.id _)) (.cons rfl (Lens.snd (Lens.fst (Lens.id _))) (.cons rfl (Lens.snd (Lens.snd (Lens.id _))) (.nil _)))))
    | 10, h_ => cases h_; exact Ob.a rfl z47_pr_Z_pr_Z_Z__
    | n_ + 11, h_ => simp at h_
  refine WP.t .n (O.stW (l := (kPair kZ (kPair kZ kZ))) (u := (D, (E, F))) 0 rfl rfl rfl ty47 rfl (VP.le_refl _)) ?_
  refine WP.nil ?_
  refine QE.next ?_
  refine CW.seq ?_
  refine CW.region ?_
  refine WP.s .n (O.ld (p := (kPair kZ (kPair kZ kZ)).is (A, (B, C))) rfl (mem_at 1 rfl) (Lens.id _) ty47 rfl) ?_
  refine WP.s .n (O.fn fn24 (evs.l rfl (is_eq (y := (A, B, C)) (by first | rfl | simp)) evs.nil) (c_quad_Gauss A B C n (by assumption) (by assumption) (by assumption) (by assumption))) ?_
  refine WP.s .n (O.mv rfl) ?_
  refine WP.s .n (O.ext rfl rfl) ?_
  refine WP.s .n (O.ext rfl rfl) ?_
  refine WP.s .n (O.ext rfl rfl) ?_
  refine WP.al .n z47_pr_C_pr_C_C__ fun b3 => ?_
  refine WP.al .n z48_ar4_C fun b4 => ?_
  refine WP.t .n (O.stW (l := (kPair kC (kPair kC kC))) (u := (GV A B C).1) 1 rfl rfl rfl ty47 rfl (VP.le_refl _)) ?_
  refine WP.t .n (O.stW (l := (kArr 4 kC)) (u := (GV A B C).2.1) 0 rfl rfl rfl ty48 rfl (VP.le_refl _)) ?_
  refine WP.s .n (O.asg rfl) ?_
  refine WP.nil ?_
  refine QE.next ?_
  refine CW.seq ?_
  refine CW.region ?_
  refine WP.s .n (O.ld (p := (kPair kZ (kPair kZ kZ)).is (A, (B, C))) rfl (mem_at 3 rfl) (Lens.id _) ty47 rfl) ?_
  refine WP.s .n (O.ld (p := (kPair kZ (kPair kZ kZ)).is (D, (E, F))) rfl (mem_at 2 rfl) (Lens.id _) ty47 rfl) ?_
  refine WP.s .n (O.fn fn25 (evs.l rfl (is_eq (y := (A, B, C)) (by first | rfl | simp)) (evs.l rfl (is_eq (y := (D, E, F)) (by first | rfl | simp)) evs.nil)) (c_quad_One A B C D E F n (by assumption) (by assumption) (by assumption) (by assumption) (by assumption) (by assumption) (by assumption))) ?_
  refine WP.s .n (O.mv rfl) ?_
  refine WP.s .n (O.ext rfl rfl) ?_
  refine WP.s .n (O.ext rfl rfl) ?_
  refine WP.s .n (O.asg rfl) ?_
  refine WP.s .n (O.asg rfl) ?_
  refine WP.nil ?_
  refine QE.next ?_
  refine CW.seq ?_
  refine CW.region ?_
  refine WP.s .n (O.ld (p := (kPair kZ (kPair kZ kZ)).is (A, B, C)) rfl (mem_at 5 rfl) (Lens.id _) ty47 rfl) ?_
  refine WP.s .n (O.fn fn26 (evs.c rfl evs.nil) (c_ref22_Positive A B C (DiS_of ha hb hc (by omega)) (Dis_Sm ha hb hc (by omega)))) ?_
  refine WP.s .n (O.asg rfl) ?_
  refine WP.nil ?_
  refine QE.next ?_
  refine CW.seq ?_
  refine CW.seq ?_
  refine CW.region ?_
  refine WP.s .n (O.mv rfl) ?_
  refine WP.s .n (O.not rfl) ?_
  refine WP.s .n (O.mv rfl) ?_
  refine WP.split 50 rfl (fun h_t50 => ?_) (fun h_t50 => ?_)
  · have hp1 : ¬ posF A B C := by simpa using h_t50
    have hO := oneV_n (A := A) (B := B) (C := C) (D := D) (E := E) (F := F) (fun h => hp1 h.1)
    refine WP.ku (b := true) rfl rfl ?_
    refine WP.ku (b := true) rfl rfl ?_
    refine WP.ku (b := true) rfl rfl ?_
    refine WP.s .n (O.pickT rfl rfl) ?_
    refine WP.nil ?_
    refine QE.next ?_
    refine CW.condT rfl ?_
    refine CW.seq ?_
    refine ST.told 10 rfl (is_eq (y := false) (by rw [hO])) ?_
    refine ST.told 11 rfl (is_eq (y := 221) (by rw [hO])) ?_
    refine CW.region ?_
    refine WP.s .n (O.mv rfl) ?_
    refine WP.s .n (O.ne rfl rfl) ?_
    refine WP.s .n (O.mv rfl) ?_
    refine WP.splitD 57 rfl (fun h => absurd h (fun h => h rfl)) (fun h_t57 => ?_)
    refine WP.s (.g rfl rfl) (O.mv rfl) ?_
    refine WP.s .n (O.pickF rfl rfl) ?_
    refine WP.nil ?_
    refine QE.next ?_
    refine CW.condF rfl ?_
    refine CW.skip ?_
    refine QE.next ?_
    refine CW.seq ?_
    refine CW.seq ?_
    refine CW.region ?_
    refine WP.s .n (O.mv rfl) ?_
    refine WP.s .n (O.not rfl) ?_
    refine WP.nil ?_
    refine QE.next ?_
    refine CW.cond rfl (fun h_t72 => ?_) (fun h => Bool.noConfusion ((h.symm.trans (show (!(decide (posF A B C))) = true from h_t50)) : false = true))
    refine CW.seq ?_
    have hG := GV_n hp1
    refine ST.told 9 rfl (is_eq (y := 221) (by rw [hG])) ?_
    refine ST.obtold 1 rfl (OB.box_eq (y := (0, 0, 0)) (by rw [hG])) ?_
    refine ST.obtold 0 rfl (OB.box_eq (y := [0, 0, 0, 0]) (by rw [hG]; rfl)) ?_
    refine CW.region ?_
    refine WP.s .n (O.mv rfl) ?_
    refine WP.s .n (O.eq rfl rfl) ?_
    refine WP.s .n (O.mv rfl) ?_
    refine WP.splitD 75 rfl (fun h_t75 => ?_) (fun h => absurd rfl h)
    refine WP.s (.g rfl rfl) (O.fa rfl fld47_0 rfl) ?_
    refine WP.s (.g rfl rfl) (O.ld (p := kC.is 0) rfl (mem_at 1 rfl) (Lens.fst (Lens.id _)) ty31 rfl) ?_
    refine WP.s (.g rfl rfl) (O.bld lit31_C rfl evp.n (.nil _)) ?_
    refine WP.s (.g rfl rfl) (O.fn fn29 (evs.l rfl (kC_I _) (evs.l rfl (kC_I _) evs.nil)) (c_law22_eq (canon 0) (canon 0))) ?_
    refine WP.s .n (O.pickT rfl rfl) ?_
    refine WP.s .n (O.mv rfl) ?_
    refine WP.splitD 81 rfl (fun h_t81 => ?_) (fun h => absurd rfl h)
    refine WP.s (.g rfl rfl) (O.ixA (o' := 0) 0 rfl rfl Try.underlying48 ty31 rfl (by decide) (by rfl)) ?_
    refine WP.s (.g rfl rfl) (O.ld (p := kC.is 0) rfl (mem_at 0 rfl) (Lens.arr 0 0 (by decide) (Lens.id _)) ty31 rfl) ?_
    refine WP.s (.g rfl rfl) (O.bld lit31_C rfl evp.n (.nil _)) ?_
    refine WP.s (.g rfl rfl) (O.fn fn29 (evs.l rfl (kC_I _) (evs.l rfl (kC_I _) evs.nil)) (c_law22_eq (canon 0) (canon 0))) ?_
    refine WP.s .n (O.pickT rfl rfl) ?_
    refine WP.s .n (O.asg rfl) ?_
    refine WP.nil ?_
    refine QE.next ?_
    refine CW.ret ?_
    refine QE.thenR ?_
    exact QE.done (.inl rfl) rfl (ResOk.tl rfl (is_eq (y := true) (by first | rfl | simp)) ResOk.nil) (OImp.sub (List.nil_sublist _)) ⟨rfl, rfl⟩
  · have hp1 : posF A B C := by simpa using h_t50
    refine WP.s (.g rfl rfl) (O.ld (p := (kPair kZ (kPair kZ kZ)).is (D, E, F)) rfl (mem_at 4 rfl) (Lens.id _) ty47 rfl) ?_
    refine WP.s (.g rfl rfl) (O.fn fn26 (evs.c rfl evs.nil) (c_ref22_Positive D E F (DiS_of hd he hf (by omega)) (Dis_Sm hd he hf (by omega)))) ?_
    refine WP.s (.g rfl rfl) (O.not rfl) ?_
    refine WP.s .n (O.pickF rfl rfl) ?_
    refine WP.nil ?_
    refine QE.next ?_
    refine CW.cond rfl (fun h_t54 => ?_) (fun h_t54 => ?_)
    · have hp2 : ¬ posF D E F := by simpa using h_t54
      have hO := oneV_n (A := A) (B := B) (C := C) (D := D) (E := E) (F := F) (fun h => hp2 h.2)
      refine CW.seq ?_
      refine ST.told 10 rfl (is_eq (y := false) (by rw [hO])) ?_
      refine ST.told 11 rfl (is_eq (y := 221) (by rw [hO])) ?_
      refine CW.region ?_
      refine WP.s .n (O.mv rfl) ?_
      refine WP.s .n (O.ne rfl rfl) ?_
      refine WP.s .n (O.mv rfl) ?_
      refine WP.splitD 57 rfl (fun h => absurd h (fun h => h rfl)) (fun h_t57 => ?_)
      refine WP.s (.g rfl rfl) (O.mv rfl) ?_
      refine WP.s .n (O.pickF rfl rfl) ?_
      refine WP.nil ?_
      refine QE.next ?_
      refine CW.condF rfl ?_
      refine CW.skip ?_
      refine QE.next ?_
      refine CW.seq ?_
      refine CW.seq ?_
      refine CW.region ?_
      refine WP.s .n (O.mv rfl) ?_
      refine WP.s .n (O.not rfl) ?_
      refine WP.nil ?_
      refine QE.next ?_
      refine CW.cond rfl (fun h => Bool.noConfusion ((h.symm.trans (show (!(decide (posF A B C))) = false from h_t50)) : true = false)) (fun h_t72 => ?_)
      refine CW.skip ?_
      refine QE.next ?_
      refine CW.seq ?_
      have hG := GV_p hp1
      refine ST.told 9 rfl (is_eq (y := 0) (by rw [hG])) ?_
      refine ST.obtold 1 rfl (OB.box_eq (y := (g1 A B C)) (by rw [hG]; rfl)) ?_
      refine CW.region ?_
      refine WP.s .n (O.ld (p := (kPair kZ (kPair kZ kZ)).is (A, B, C)) rfl (mem_at 5 rfl) (Lens.id _) ty47 rfl) ?_
      refine WP.s .n (O.fn fn28 (evs.c rfl evs.nil) (c_ref22_Gauss A B C n (by assumption) (by assumption) (by assumption) (by assumption) hp1)) ?_
      refine WP.al .n z47_pr_C_pr_C_C__ fun b5 => ?_
      refine WP.t .n (O.stW (l := (kPair kC (kPair kC kC))) (u := (g1 A B C)) 0 rfl rfl rfl ty47 rfl (VP.le_refl _)) ?_
      refine WP.nil ?_
      refine QE.next ?_
      refine CW.seq ?_
      refine CW.seq ?_
      refine CW.region ?_
      refine WP.s .n (O.mv rfl) ?_
      refine WP.s .n (O.ne rfl rfl) ?_
      refine WP.s .n (O.mv rfl) ?_
      refine WP.splitD 91 rfl (fun h => absurd h (fun h => h rfl)) (fun h_t91 => ?_)
      refine WP.s (.g rfl rfl) (O.fa rfl fld47_0 rfl) ?_
      refine WP.s (.g rfl rfl) (O.ld rfl (mem_at 2 rfl) (Lens.fst (Lens.id _)) ty31 rfl) ?_
      refine WP.s (.g rfl rfl) (O.fa rfl fld47_0 rfl) ?_
      refine WP.s (.g rfl rfl) (O.ld rfl (mem_at 0 rfl) (Lens.fst (Lens.id _)) ty31 rfl) ?_
      refine WP.s (.g rfl rfl) (O.fn fn29 (evs.l rfl (kC_I _) (evs.l rfl (kC_I _) evs.nil)) (c_law22_eq (canon ((g1 A B C).1)) (canon ((g1 A B C).1)))) ?_
      refine WP.s (.g rfl rfl) (O.not rfl) ?_
      refine WP.s .n (O.pickF rfl rfl) ?_
      refine WP.s .n (O.mv rfl) ?_
      refine WP.split 99 rfl (fun h => Bool.noConfusion ((h.symm.trans (show (!(decide ((canon ((g1 A B C).1)) = (canon ((g1 A B C).1))))) = false from (by simp))) : true = false)) (fun h_t99 => ?_)
      refine WP.s (.g rfl rfl) (O.fa rfl fld47_1 rfl) ?_
      refine WP.s (.g rfl rfl) (O.ld rfl (mem_at 2 rfl) (Lens.snd (Lens.fst (Lens.id _))) ty31 rfl) ?_
      refine WP.s (.g rfl rfl) (O.fa rfl fld47_1 rfl) ?_
      refine WP.s (.g rfl rfl) (O.ld rfl (mem_at 0 rfl) (Lens.snd (Lens.fst (Lens.id _))) ty31 rfl) ?_
      refine WP.s (.g rfl rfl) (O.fn fn29 (evs.l rfl (kC_I _) (evs.l rfl (kC_I _) evs.nil)) (c_law22_eq (canon (((g1 A B C).2).1)) (canon (((g1 A B C).2).1)))) ?_
      refine WP.s (.g rfl rfl) (O.not rfl) ?_
      refine WP.s .n (O.pickF rfl rfl) ?_
      refine WP.s .n (O.mv rfl) ?_
      refine WP.split 107 rfl (fun h => Bool.noConfusion ((h.symm.trans (show (!(decide ((canon (((g1 A B C).2).1)) = (canon (((g1 A B C).2).1))))) = false from (by simp))) : true = false)) (fun h_t107 => ?_)
      refine WP.s (.g rfl rfl) (O.fa rfl fld47_2 rfl) ?_
      refine WP.s (.g rfl rfl) (O.ld rfl (mem_at 2 rfl) (Lens.snd (Lens.snd (Lens.id _))) ty31 rfl) ?_
      refine WP.s (.g rfl rfl) (O.fa rfl fld47_2 rfl) ?_
      refine WP.s (.g rfl rfl) (O.ld rfl (mem_at 0 rfl) (Lens.snd (Lens.snd (Lens.id _))) ty31 rfl) ?_
      refine WP.s (.g rfl rfl) (O.fn fn29 (evs.l rfl (kC_I _) (evs.l rfl (kC_I _) evs.nil)) (c_law22_eq (canon (((g1 A B C).2).2)) (canon (((g1 A B C).2).2)))) ?_
      refine WP.s (.g rfl rfl) (O.not rfl) ?_
      refine WP.s .n (O.pickF rfl rfl) ?_
      refine WP.nil ?_
      refine QE.next ?_
      refine CW.cond rfl (fun h => Bool.noConfusion ((h.symm.trans (show (!(decide ((canon (((g1 A B C).2).2)) = (canon (((g1 A B C).2).2))))) = false from (by simp))) : true = false)) (fun h_t114 => ?_)
      refine CW.skip ?_
      refine QE.next ?_
      refine CW.seq ?_
      obtain ⟨a1, b1_, c1, x1, y1, z1, t1, hgs, hTR, hz1, hz2, hz3, hz4, hz5, hz6, hz7⟩ := gs_all hn hp1 ha hb hc
      refine ST.obtold 2 rfl (OB.box_eq (y := (a1, b1_, c1)) (by unfold g1; rw [hgs])) ?_
      refine ST.obtold 1 rfl (OB.box_eq (y := [x1, y1, z1, t1]) (by rw [hG]; show (gs A B C 1 0 0 1).2 = _; rw [hgs])) ?_
      refine CW.region ?_
      refine WP.s .n (O.ld (p := (kPair kZ (kPair kZ kZ)).is (A, B, C)) rfl (mem_at 6 rfl) (Lens.id _) ty47 rfl) ?_
      refine WP.s .n (O.ld (p := (kPair kC (kPair kC kC)).is (a1, b1_, c1)) rfl (mem_at 2 rfl) (Lens.id _) ty47 rfl) ?_
      refine WP.s .n (O.ld (p := (kArr 4 kC).is [x1, y1, z1, t1]) rfl (mem_at 1 rfl) (Lens.id _) ty48 rfl) ?_
      refine WP.s .n (O.fn fn30 (evs.c rfl (evs.c rfl (evs.c rfl evs.nil))) (c_law22_turns A B C a1 b1_ c1 x1 y1 z1 t1 hTR (TuS_of (by omega) (ha.up (by omega)) (hb.up (by omega)) (hc.up (by omega)) hz1 hz2 hz3 hz4 hz5 hz6 hz7))) ?_
      refine WP.s .n (O.asg rfl) ?_
      refine WP.nil ?_
      refine QE.next ?_
      refine CW.ret ?_
      exact QE.done (.inl rfl) rfl (ResOk.t rfl ResOk.nil) (OImp.sub (List.nil_sublist _)) ⟨rfl, rfl⟩
    · have hp2 : posF D E F := by simpa using h_t54
      have hO := oneV_p hp1 hp2
      refine CW.seq ?_
      refine ST.told 10 rfl (is_eq (y := (decide (g1 A B C = g1 D E F))) (by rw [hO])) ?_
      refine ST.told 11 rfl (is_eq (y := 0) (by rw [hO])) ?_
      refine CW.draw (Γ := [.fr ((kInt .i64).is 0), .fr (kBool.is false), .fr (kBool.is false), .fr (kBool.is (decide (g1 A B C = g1 D E F))), .fr ((kPair kZ (kPair kZ kZ)).is (A, B, C)), .fr ((kPair kC (kPair kC kC)).is (g1 A B C)), .fr ((kPair kZ (kPair kZ kZ)).is (D, E, F)), .fr ((kPair kC (kPair kC kC)).is (g1 D E F)), .fr (kBool.is (decide ((g1 A B C) = (g1 D E F)))), .fr (kBool.is false), .fr (kBool.is false)]) (lates := [false, false, false, false, false, false, false, false, false, false, false]) (by kernel_rfl) (Chk.of rfl (by kernel_rfl) rfl) (fun _ _ _ _ _ h => h) (fun q_ x_ h_ => ?_) (fun σ3 => ?_)
      · match q_, h_ with
        | 0, h_ => cases h_; exact Ob.f rfl .n fun N => (O.mv rfl)
        | 1, h_ => cases h_; exact Ob.f rfl .n fun N => (OpOk.le (O.ne rfl rfl) (is_eq rfl))
        | 2, h_ => cases h_; exact Ob.f rfl .n fun N => (O.mv rfl)
        | 3, h_ => cases h_; exact Ob.f rfl (.g rfl rfl) fun N => (O.mv rfl)
        | 4, h_ => cases h_; exact Ob.f rfl (.g rfl rfl) fun N => (O.ld (p := (kPair kZ (kPair kZ kZ)).is (A, B, C)) rfl (mem_app N (mem_at 5 rfl)) (Lens.id _) ty47 rfl)
        | 5, h_ => cases h_; exact Ob.f rfl (.g rfl rfl) fun N => (O.fn fn28 (evs.c rfl evs.nil) (c_ref22_Gauss A B C n (by assumption) (by assumption) (by assumption) (by assumption) hp1))
        | 6, h_ => cases h_; exact Ob.f rfl (.g rfl rfl) fun N => (O.ld (p := (kPair kZ (kPair kZ kZ)).is (D, E, F)) rfl (mem_app N (mem_at 4 rfl)) (Lens.id _) ty47 rfl)
        | 7, h_ => cases h_; exact Ob.f rfl (.g rfl rfl) fun N => (O.fn fn28 (evs.c rfl evs.nil) (c_ref22_Gauss D E F n (by assumption) (by assumption) (by assumption) (by assumption) hp2))
        | 8, h_ => cases h_; exact Ob.f rfl (.g rfl rfl) fun N => (O.fn fn27 (evs.c rfl (evs.c rfl evs.nil)) (c_ref22_Same (g1 A B C) (g1 D E F) (SameS_of hn hp1 hp2 ha hb hc hd he hf)))
        | 9, h_ => cases h_; exact Ob.f rfl (.g rfl rfl) fun N => (OpOk.le (O.neB rfl rfl Try.underlying4) (is_eq (by simp)))
        | 10, h_ => cases h_; exact Ob.f rfl .n fun N => (O.pickF rfl rfl)
        | n_ + 11, h_ => simp at h_
      refine WP.nil ?_
      refine QE.next ?_
      refine CW.condF rfl ?_
      refine CW.skip ?_
      refine QE.next ?_
      refine CW.seq ?_
      refine CW.seq ?_
      refine CW.region ?_
      refine WP.s .n (O.mv rfl) ?_
      refine WP.s .n (O.not rfl) ?_
      refine WP.nil ?_
      refine QE.next ?_
      refine CW.cond rfl (fun h => Bool.noConfusion ((h.symm.trans (show (!(decide (posF A B C))) = false from h_t50)) : true = false)) (fun h_t72 => ?_)
      refine CW.skip ?_
      refine QE.next ?_
      refine CW.seq ?_
      have hG := GV_p hp1
      refine ST.told 9 rfl (is_eq (y := 0) (by rw [hG])) ?_
      refine ST.obtold 1 rfl (OB.box_eq (y := (g1 A B C)) (by rw [hG]; rfl)) ?_
      refine CW.region ?_
      refine WP.s .n (O.ld (p := (kPair kZ (kPair kZ kZ)).is (A, B, C)) rfl (mem_at 5 rfl) (Lens.id _) ty47 rfl) ?_
      refine WP.s .n (O.fn fn28 (evs.c rfl evs.nil) (c_ref22_Gauss A B C n (by assumption) (by assumption) (by assumption) (by assumption) hp1)) ?_
      refine WP.al .n z47_pr_C_pr_C_C__ fun b6 => ?_
      refine WP.t .n (O.stW (l := (kPair kC (kPair kC kC))) (u := (g1 A B C)) 0 rfl rfl rfl ty47 rfl (VP.le_refl _)) ?_
      refine WP.nil ?_
      refine QE.next ?_
      refine CW.seq ?_
      refine CW.seq ?_
      refine CW.region ?_
      refine WP.s .n (O.mv rfl) ?_
      refine WP.s .n (O.ne rfl rfl) ?_
      refine WP.s .n (O.mv rfl) ?_
      refine WP.splitD 91 rfl (fun h => absurd h (fun h => h rfl)) (fun h_t91 => ?_)
      refine WP.s (.g rfl rfl) (O.fa rfl fld47_0 rfl) ?_
      refine WP.s (.g rfl rfl) (O.ld rfl (mem_at 2 rfl) (Lens.fst (Lens.id _)) ty31 rfl) ?_
      refine WP.s (.g rfl rfl) (O.fa rfl fld47_0 rfl) ?_
      refine WP.s (.g rfl rfl) (O.ld rfl (mem_at 0 rfl) (Lens.fst (Lens.id _)) ty31 rfl) ?_
      refine WP.s (.g rfl rfl) (O.fn fn29 (evs.l rfl (kC_I _) (evs.l rfl (kC_I _) evs.nil)) (c_law22_eq (canon ((g1 A B C).1)) (canon ((g1 A B C).1)))) ?_
      refine WP.s (.g rfl rfl) (O.not rfl) ?_
      refine WP.s .n (O.pickF rfl rfl) ?_
      refine WP.s .n (O.mv rfl) ?_
      refine WP.split 99 rfl (fun h => Bool.noConfusion ((h.symm.trans (show (!(decide ((canon ((g1 A B C).1)) = (canon ((g1 A B C).1))))) = false from (by simp))) : true = false)) (fun h_t99 => ?_)
      refine WP.s (.g rfl rfl) (O.fa rfl fld47_1 rfl) ?_
      refine WP.s (.g rfl rfl) (O.ld rfl (mem_at 2 rfl) (Lens.snd (Lens.fst (Lens.id _))) ty31 rfl) ?_
      refine WP.s (.g rfl rfl) (O.fa rfl fld47_1 rfl) ?_
      refine WP.s (.g rfl rfl) (O.ld rfl (mem_at 0 rfl) (Lens.snd (Lens.fst (Lens.id _))) ty31 rfl) ?_
      refine WP.s (.g rfl rfl) (O.fn fn29 (evs.l rfl (kC_I _) (evs.l rfl (kC_I _) evs.nil)) (c_law22_eq (canon (((g1 A B C).2).1)) (canon (((g1 A B C).2).1)))) ?_
      refine WP.s (.g rfl rfl) (O.not rfl) ?_
      refine WP.s .n (O.pickF rfl rfl) ?_
      refine WP.s .n (O.mv rfl) ?_
      refine WP.split 107 rfl (fun h => Bool.noConfusion ((h.symm.trans (show (!(decide ((canon (((g1 A B C).2).1)) = (canon (((g1 A B C).2).1))))) = false from (by simp))) : true = false)) (fun h_t107 => ?_)
      refine WP.s (.g rfl rfl) (O.fa rfl fld47_2 rfl) ?_
      refine WP.s (.g rfl rfl) (O.ld rfl (mem_at 2 rfl) (Lens.snd (Lens.snd (Lens.id _))) ty31 rfl) ?_
      refine WP.s (.g rfl rfl) (O.fa rfl fld47_2 rfl) ?_
      refine WP.s (.g rfl rfl) (O.ld rfl (mem_at 0 rfl) (Lens.snd (Lens.snd (Lens.id _))) ty31 rfl) ?_
      refine WP.s (.g rfl rfl) (O.fn fn29 (evs.l rfl (kC_I _) (evs.l rfl (kC_I _) evs.nil)) (c_law22_eq (canon (((g1 A B C).2).2)) (canon (((g1 A B C).2).2)))) ?_
      refine WP.s (.g rfl rfl) (O.not rfl) ?_
      refine WP.s .n (O.pickF rfl rfl) ?_
      refine WP.nil ?_
      refine QE.next ?_
      refine CW.cond rfl (fun h => Bool.noConfusion ((h.symm.trans (show (!(decide ((canon (((g1 A B C).2).2)) = (canon (((g1 A B C).2).2))))) = false from (by simp))) : true = false)) (fun h_t114 => ?_)
      refine CW.skip ?_
      refine QE.next ?_
      refine CW.seq ?_
      obtain ⟨a1, b1_, c1, x1, y1, z1, t1, hgs, hTR, hz1, hz2, hz3, hz4, hz5, hz6, hz7⟩ := gs_all hn hp1 ha hb hc
      refine ST.obtold 2 rfl (OB.box_eq (y := (a1, b1_, c1)) (by unfold g1; rw [hgs])) ?_
      refine ST.obtold 1 rfl (OB.box_eq (y := [x1, y1, z1, t1]) (by rw [hG]; show (gs A B C 1 0 0 1).2 = _; rw [hgs])) ?_
      refine CW.region ?_
      refine WP.s .n (O.ld (p := (kPair kZ (kPair kZ kZ)).is (A, B, C)) rfl (mem_at 6 rfl) (Lens.id _) ty47 rfl) ?_
      refine WP.s .n (O.ld (p := (kPair kC (kPair kC kC)).is (a1, b1_, c1)) rfl (mem_at 2 rfl) (Lens.id _) ty47 rfl) ?_
      refine WP.s .n (O.ld (p := (kArr 4 kC).is [x1, y1, z1, t1]) rfl (mem_at 1 rfl) (Lens.id _) ty48 rfl) ?_
      refine WP.s .n (O.fn fn30 (evs.c rfl (evs.c rfl (evs.c rfl evs.nil))) (c_law22_turns A B C a1 b1_ c1 x1 y1 z1 t1 hTR (TuS_of (by omega) (ha.up (by omega)) (hb.up (by omega)) (hc.up (by omega)) hz1 hz2 hz3 hz4 hz5 hz6 hz7))) ?_
      refine WP.s .n (O.asg rfl) ?_
      refine WP.nil ?_
      refine QE.next ?_
      refine CW.ret ?_
      exact QE.done (.inl rfl) rfl (ResOk.t rfl ResOk.nil) (OImp.sub (List.nil_sublist _)) ⟨rfl, rfl⟩

end Fw


/- Proved: QuadBinaries, for every input of bulk at most 1048576; no other condition. -/
set_option linter.unusedVariables false
namespace Go.Proofs.Ytgbafijcklgajaa.quadBinaries
open Go.ChangeShapes Go.WideShapes Go.ChangeAt Go.RowKit Fw
theorem rd31 : Rd Try.prog 31 kZ ZB := rd_Z (rd_struct (fs := [_, _]) Try.underlying31 (by kernel_rfl) (rdf_cons rfl (by kernel_rfl) (rd_bool Try.underlying4) rfl (rdf_last rfl (by kernel_rfl) (rd_sl Try.underlying29 (by kernel_rfl) (by decide) (rd_limb Try.underlying121)))))
theorem rd47 : Rd Try.prog 47 (kPair kZ (kPair kZ kZ)) (fun x => ZB x.1 ∧ (fun x => ZB x.1 ∧ ZB x.2) x.2) := rd_struct (fs := [_, _, _]) Try.underlying47 (by kernel_rfl) (rdf_cons rfl (by kernel_rfl) rd31 rfl (rdf_cons rfl (by kernel_rfl) rd31 rfl (rdf_last rfl (by kernel_rfl) rd31)))
theorem own : ownKnob Try.prog.godebug = none := by kernel_rfl
theorem laidOut : laidOutB Try.prog = true := by kernel_rfl
set_option maxRecDepth 100000 in
theorem contract (H : Type) (enc : TypeId × Value → H) (W : World) (base : Nat) (args : Array Value) (ds gs : List (DataW H)) (before : List MemPlace)
    (hval : ∀ (j : Nat) t v, Try.f6.params[j]? = some t → args[j]? = some v → Value.okWide Try.prog W .any base t v)
    (hW : DataW.Whole enc Try.prog Try.f6.params.toList Rows.quadBinariesSpec.vars false W args.toList ds gs before) (hk : Rows.uptoSmall H (ds ++ gs) = true) :
    Calls Try.prog 6 args W fun e W' => ∃ v, e = .returned v ∧ Rows.quadBinariesSpec.post enc Try.prog Try.f6 false true false false W args v W' := by
  have hW' := hW
  obtain ⟨p, q, hA0, hV, rfl, hfz, hnd⟩ := hW
  have hA : DataW.TrodAll enc Try.prog W 0 (fun _ => true) true Try.f6.params.toList args.toList ds p := hA0
  rw [Try.params6] at hA hval
  obtain ⟨rfl, rfl⟩ := trodVars_none hV
  unfold Rows.uptoSmall at hk
  have hbulk := of_decide_eq_true hk
  rw [List.append_nil] at hbulk
  obtain ⟨v0, vs0, d0, ds0, p0, q0, hargs, rfl, rfl, h0, r0⟩ := trodAll_cons hA
  obtain ⟨v1, vs1, d1, ds1, p1, q1, rfl, rfl, rfl, h1, r1⟩ := trodAll_cons r0
  obtain ⟨rfl, rfl, rfl⟩ := trodAll_nil r1
  obtain rfl : args = [v0, v1].toArray := by cases args; simp_all
  simp only [Rows.uptoBulkAll] at hbulk
  obtain ⟨x0, a0, b0⟩ := arg_agg Try.underlying47 rfl rd47 (hval 0 47 v0 rfl rfl) h0 (by unfold uptoN; omega)
  obtain ⟨x1, a1, b1⟩ := arg_agg Try.underlying47 rfl rd47 (hval 1 47 v1 rfl rfl) h1 (by unfold uptoN; omega)
  refine ((c_law22_QuadBinaries x0.1 x0.2.1 x0.2.2 x1.1 x1.2.1 x1.2.2 33554432 (by decide) (Exists.elim (ZB_lt b0.1) fun n h => Sz.up (n := n) h.2 h.1) (Exists.elim (ZB_lt b0.2.1) fun n h => Sz.up (n := n) h.2 h.1) (Exists.elim (ZB_lt b0.2.2) fun n h => Sz.up (n := n) h.2 h.1) (Exists.elim (ZB_lt b1.1) fun n h => Sz.up (n := n) h.2 h.1) (Exists.elim (ZB_lt b1.2.1) fun n h => Sz.up (n := n) h.2 h.1) (Exists.elim (ZB_lt b1.2.2) fun n h => Sz.up (n := n) h.2 h.1)).calls (vs := [v0, v1]) ⟨a0, a1, trivial⟩).mono fun e W' ⟨he, bel⟩ => ?_
  subst he
  exact ⟨_, rfl, _, _, _, [], _, [], hW', trodAll_mk1 (shut_bool Try.underlying4 _), below_all laidOut bel (by kernel_rfl) hA0 (fun x hx => by simpa using hW'.lt x (by simpa using hx)), rfl, bel.frame _, fun h => by cases h⟩
set_option maxRecDepth 100000 in
theorem lifted (os : Os) (started : os.Started) (H : Type) (enc : TypeId × Value → H) (F : Stop.Interp) :
    ReturnsInHanded {} Try.checked os 6 .any ((Rows.OpenSpec.upto Rows.quadBinariesSpec).pre6 enc Try.prog Try.f6 Rows.quadBinariesUptoRow.domain false) (((Rows.OpenSpec.upto Rows.quadBinariesSpec).at F).post enc Try.prog Try.f6 false true false false) := by
  refine returnsInHanded_of_cond (C := Try.checked) (s := Rows.OpenSpec.upto Rows.quadBinariesSpec) (k := Rows.uptoSmall) rfl own started (by kernel_rfl) Try.func6
    (OpenSpec.witness (enc := enc) (C := Try.checked) (s := Rows.OpenSpec.upto Rows.quadBinariesSpec) (k := Rows.uptoSmall) rfl false ⟨#[], #[.agg #[.bool false, .slice none 0 0, .bool false, .slice none 0 0, .bool false, .slice none 0 0], .agg #[.bool false, .slice none 0 0, .bool false, .slice none 0 0, .bool false, .slice none 0 0]], []⟩ 8 (by kernel_rfl) (by kernel_rfl) (by kernel_rfl)
      (x := ([.agg [.agg [.lit (.bool false), .nil], .agg [.lit (.bool false), .nil], .agg [.lit (.bool false), .nil]], .agg [.agg [.lit (.bool false), .nil], .agg [.lit (.bool false), .nil], .agg [.lit (.bool false), .nil]]], [], [])) (by kernel_rfl) rfl (by kernel_rfl)) ?_
  intro W base args ds gs before hval hW _ hk _
  exact contract H enc W base args ds gs before hval hW hk
theorem over : Rows.quadBinariesUptoRow.holds Try.pinned (Rows.OpenSpec.upto Rows.quadBinariesSpec) :=
  OpenClaim.holds_of_cond 6 Try.f6 rfl rfl rfl rfl rfl rfl rfl ⟨rfl, rfl, rfl, rfl, rfl⟩ rfl rfl rfl rfl rfl (by kernel_rfl) Try.func6 (by kernel_rfl)
    (of_decide_eq_true (by kernel_rfl)) (by unfold Func.isWrapper; first | (rw [if_pos (by decide +kernel)]; kernel_rfl) | (rw [if_neg (by decide +kernel)]; exact ⟨rfl, rfl⟩))
    (fun os started H enc _ F => lifted os started H enc F)
theorem proved : Rows.QuadBinariesUptoSaid := over
end Go.Proofs.Ytgbafijcklgajaa.quadBinaries
