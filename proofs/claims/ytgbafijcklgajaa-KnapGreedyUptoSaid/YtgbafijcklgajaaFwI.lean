/- The frame of the walks: closed facts on types; whole numbers as the program bears them. -/
import Derived.Test.YtgbafijcklgajaaFwH
set_option linter.unusedVariables false
set_option linter.unusedSimpArgs false
namespace Fw
open Go

section
variable {P : Program}
theorem elOk_of {α : Type} {k : Kd α} {e : TypeId} {z : Value} {b : Nat} (h : (P.info? e).map (fun i => (i.zero, i.size, i.bytes)) = some (some z, k.sz, b)) (hb : Nat.ble b 128 = true) (hz : z.cells.size = k.sz) (h0 : Nat.blt 0 k.sz = true) : ElOk P e k := by
  obtain ⟨i, h1, h2, h3, h4⟩ := info_parts h
  exact ⟨i, z, h1, h2, h3, by rw [h4]; simpa using hb, hz, by simpa using h0⟩
theorem zeroOk_of {α : Type} {k : Kd α} {e : TypeId} {z : Value} {n b : Nat} {x : α} (h : (P.info? e).map (fun i => (i.zero, i.size, i.bytes)) = some (some z, n, b)) (hz : ∀ m, k.at' m z.cells.toList x) : ZeroOk P e k x := by
  obtain ⟨i, h1, h2, h3, h4⟩ := info_parts h
  exact ⟨i, z, h1, h2, hz⟩
def placesOf (P : Program) (T : TypeId) : Option (List (Nat × Nat)) := (P.underlying T).bind fun d => match d with
  | .struct fs => fs.toList.mapM (fun f => (P.info? f.type).map fun i => (f.offset, i.size))
  | _ => none
def fieldOf (P : Program) (T : TypeId) (f : Nat) : Option (Nat × Nat) := (P.underlying T).bind fun d => match d with
  | .struct fs => (fs[f]?).bind fun fd => (P.info? fd.type).map fun i => (fd.offset, i.size)
  | _ => none
theorem lit_of {α : Type} {k : Kd α} {T : TypeId} {z : Value} {n b : Nat} {x : α} {places : List (Nat × Nat)} (h : (P.info? T).map (fun i => (i.zero, i.size, i.bytes)) = some (some z, n, b)) (hp : placesOf P T = some places) (hz : ∀ m, k.at' m z.cells.toList x) : LitOk P T k (places.toArray[·]?) x := by
  obtain ⟨i, h1, h2, h3, h4⟩ := info_parts h
  refine ⟨z.cells, fun parts => ?_, hz⟩
  unfold placesOf at hp
  cases hu : P.underlying T with
  | none => simp [hu] at hp
  | some d =>
    cases d <;> simp only [hu, Option.bind_some] at hp <;> try (cases hp; done)
    rename_i fs
    simp only [Program.built, h1, hu, h2, hp]
theorem litA_of {α : Type} {k : Kd α} {T e : TypeId} {z : Value} {n b q s b' : Nat} {ze : Value} {x : α} (h : (P.info? T).map (fun i => (i.zero, i.size, i.bytes)) = some (some z, n, b)) (hu : P.underlying T = some (.array q e)) (he : (P.info? e).map (fun i => (i.zero, i.size, i.bytes)) = some (some ze, s, b')) (hz : ∀ m, k.at' m z.cells.toList x) : LitOk P T k (fun i => some (i * s, s)) x := by
  obtain ⟨i, h1, h2, h3, h4⟩ := info_parts h
  obtain ⟨i', h1', h2', h3', h4'⟩ := info_parts he
  refine ⟨z.cells, fun parts => ?_, hz⟩
  simp only [Program.built, h1, hu, h2, h1', h3']
theorem fld_of {T : TypeId} {f off n : Nat} (h : fieldOf P T f = some (off, n + 1)) : FldOk P T f off := by
  unfold fieldOf at h
  cases hu : P.underlying T with
  | none => simp [hu] at h
  | some d =>
    cases d <;> simp only [hu, Option.bind_some] at h <;> try (cases h; done)
    rename_i fs
    cases hf : fs[f]? with
    | none => simp [hf] at h
    | some fd =>
      simp only [hf, Option.bind_some] at h
      cases hi : P.info? fd.type with
      | none => simp [hi] at h
      | some i =>
        simp only [hi, Option.map_some, Option.some.injEq, Prod.mk.injEq] at h
        exact ⟨fs, fd, n, hu, hf, h.1, by simp [hi, h.2]⟩
end

/-! ### Limbs -/
/-- What limbs say, the lowest first. -/
def nval : List Nat → Nat
  | [] => 0
  | x :: l => x + 4294967296 * nval l
def Lims (l : List Nat) : Prop := ∀ x ∈ l, x < 4294967296
/-- The limbs of a number, without noughts at the end. -/
def limbs (n : Nat) : List Nat := if h : n = 0 then [] else (n % 4294967296) :: limbs (n / 4294967296)
termination_by n
decreasing_by omega
theorem limbs_zero : limbs 0 = [] := by unfold limbs; simp
theorem limbs_pos {n : Nat} (h : n ≠ 0) : limbs n = (n % 4294967296) :: limbs (n / 4294967296) := by
  conv => lhs; unfold limbs
  simp [h]
theorem nval_limbs (n : Nat) : nval (limbs n) = n := by
  induction n using Nat.strongRecOn with
  | _ n ih =>
    by_cases h : n = 0
    · subst h; rw [limbs_zero]; rfl
    · rw [limbs_pos h, nval, ih _ (by omega)]; omega
theorem limbs_lims (n : Nat) : Lims (limbs n) := by
  induction n using Nat.strongRecOn with
  | _ n ih =>
    by_cases h : n = 0
    · subst h; rw [limbs_zero]; intro x hx; cases hx
    · rw [limbs_pos h]
      intro x hx
      rcases List.mem_cons.1 hx with rfl | hx
      · omega
      · exact ih _ (by omega) x hx
def trimL (l : List Nat) : List Nat := (l.reverse.dropWhile (· == 0)).reverse
theorem trimL_nil : trimL [] = [] := rfl
theorem trimL_concat0 (l : List Nat) : trimL (l ++ [0]) = trimL l := by simp [trimL]
theorem trimL_concat (l : List Nat) (x : Nat) (h : x ≠ 0) : trimL (l ++ [x]) = l ++ [x] := by simp [trimL, h]
theorem nval_append (a b : List Nat) : nval (a ++ b) = nval a + 4294967296 ^ a.length * nval b := by
  induction a with
  | nil => simp [nval]
  | cons x a ih =>
    simp only [List.cons_append, nval, ih, List.length_cons, Nat.pow_succ, Nat.mul_add]
    have : 4294967296 * (4294967296 ^ a.length * nval b) = 4294967296 ^ a.length * 4294967296 * nval b := by
      rw [← Nat.mul_assoc, Nat.mul_comm 4294967296]
    omega
theorem nval_replicate0 (n : Nat) : nval (List.replicate n 0) = 0 := by
  induction n with
  | zero => rfl
  | succ n ih => simp [List.replicate_succ, nval, ih]
theorem nval_lt {l : List Nat} (h : Lims l) : nval l < 4294967296 ^ l.length := by
  induction l with
  | nil => simp [nval]
  | cons x l ih =>
    have h1 := h x (by simp)
    have h2 := ih (fun y hy => h y (List.mem_cons_of_mem _ hy))
    simp only [nval, List.length_cons, Nat.pow_succ]
    have : 4294967296 * (nval l + 1) ≤ 4294967296 * 4294967296 ^ l.length := Nat.mul_le_mul_left _ h2
    rw [Nat.mul_comm (4294967296 ^ l.length)]
    omega
theorem trim_split (l : List Nat) : ∃ n, l = trimL l ++ List.replicate n 0 ∧ (trimL l = [] ∨ ∃ i x, trimL l = i ++ [x] ∧ x ≠ 0) := by
  induction h : l.length generalizing l with
  | zero => exact ⟨0, by rw [List.eq_nil_of_length_eq_zero h]; rfl, .inl (by rw [List.eq_nil_of_length_eq_zero h]; rfl)⟩
  | succ n ih =>
    have hne : l ≠ [] := by intro hh; subst hh; simp at h
    have hl := List.dropLast_concat_getLast hne
    by_cases hx : l.getLast hne = 0
    · rw [hx] at hl
      obtain ⟨m, h1, h2⟩ := ih l.dropLast (by simp [h])
      have ht : trimL l = trimL l.dropLast := by rw [← hl, trimL_concat0, List.dropLast_concat]
      refine ⟨m + 1, ?_, by rw [ht]; exact h2⟩
      rw [ht, List.replicate_succ', ← List.append_assoc, ← h1, hl]
    · have ht : trimL l = l := by rw [← hl]; exact trimL_concat _ _ hx
      refine ⟨0, by simp [ht], .inr ⟨l.dropLast, l.getLast hne, by rw [ht, hl], hx⟩⟩
theorem nval_trim (l : List Nat) : nval (trimL l) = nval l := by
  obtain ⟨n, h, _⟩ := trim_split l
  conv => rhs; rw [h, nval_append, nval_replicate0]
  omega
theorem limbs_nval : ∀ {l : List Nat}, Lims l → (l = [] ∨ ∃ i x, l = i ++ [x] ∧ x ≠ 0) → limbs (nval l) = l := by
  intro l
  induction l with
  | nil => intro _ _; exact limbs_zero
  | cons x l ih =>
    intro hl hc
    have h1 := hl x (by simp)
    have h2 : Lims l := fun y hy => hl y (List.mem_cons_of_mem _ hy)
    have h3 : l = [] ∨ ∃ i y, l = i ++ [y] ∧ y ≠ 0 := by
      rcases hc with hc | ⟨i, y, hc, hy⟩
      · cases hc
      · cases i with
        | nil => left; simp at hc; exact hc.2
        | cons z i => right; simp at hc; exact ⟨i, y, hc.2, hy⟩
    have ih' := ih h2 h3
    have hne : nval (x :: l) ≠ 0 := by
      intro h0
      simp only [nval] at h0
      have hx : x = 0 := by omega
      have hv : nval l = 0 := by omega
      rw [hv, limbs_zero] at ih'
      subst ih'
      rcases hc with hc | ⟨i, y, hc, hy⟩
      · cases hc
      · cases i with
        | nil => simp at hc; exact hy (hc ▸ hx)
        | cons z i => simp at hc
    rw [limbs_pos hne]
    simp only [nval]
    rw [show (x + 4294967296 * nval l) % 4294967296 = x from by omega, show (x + 4294967296 * nval l) / 4294967296 = nval l from by omega, ih']
theorem trim_eq {l : List Nat} (h : Lims l) : trimL l = limbs (nval l) := by
  obtain ⟨n, h1, h2⟩ := trim_split l
  have hl : Lims (trimL l) := fun x hx => h x (by rw [h1]; exact List.mem_append.2 (.inl hx))
  rw [← nval_trim l, limbs_nval hl h2]
theorem trim_limbs (n : Nat) : trimL (limbs n) = limbs n := by rw [trim_eq (limbs_lims n), nval_limbs]
theorem limbs_len_le {l : List Nat} (h : Lims l) : (limbs (nval l)).length ≤ l.length := by
  rw [← trim_eq h]
  obtain ⟨n, h1, _⟩ := trim_split l
  have := congrArg List.length h1
  simp at this
  omega
theorem limbs_len_lt {n k : Nat} (h : n < 4294967296 ^ k) : (limbs n).length ≤ k := by
  induction k generalizing n with
  | zero => simp at h; subst h; rw [limbs_zero]; simp
  | succ k ih =>
    by_cases h0 : n = 0
    · subst h0; rw [limbs_zero]; simp
    · rw [limbs_pos h0]
      have := ih (n := n / 4294967296) (by rw [Nat.div_lt_iff_lt_mul (by omega)]; rwa [Nat.pow_succ] at h)
      simp; omega

abbrev kN : Kd (List Nat) := kSl kLimb
/-- Such limbs are limbs. -/
theorem rows_lims {m : Mem} : ∀ {cells : List Value} {l : List Nat}, Rows kLimb m cells l → Lims l
  | _, [], _ => fun x hx => by cases hx
  | _, x :: l, ⟨a, b, _, h, r⟩ => fun y hy => by
    rcases List.mem_cons.1 hy with rfl | hy
    · exact h.2
    · exact rows_lims r y hy
theorem kN_lims {l : List Nat} (m : Mem) (v : Value) (h : (kN.is l).p m v) : Lims l := by
  obtain ⟨_, _, _, _, _, h⟩ := Kd.is_sl h
  rcases h with rfl | ⟨_, _, _, _, _, _, _, r⟩
  · intro x hx; cases hx
  · exact rows_lims r

/-! ### Whole numbers with a sign -/
/-- A number as it lies: below nought?, the limbs. -/
abbrev kI : Kd (Bool × List Nat) := kPair kBool kN
def ival (x : Bool × List Nat) : Int := if x.1 then -(nval x.2 : Int) else nval x.2
def canon (z : Int) : Bool × List Nat := (decide (z < 0), limbs z.natAbs)
theorem ival_canon (z : Int) : ival (canon z) = z := by
  simp only [ival, canon, nval_limbs]
  by_cases h : z < 0
  · simp [h]; omega
  · simp [h]; omega
theorem canon_inj {a b : Int} (h : canon a = canon b) : a = b := by rw [← ival_canon a, h, ival_canon]
/-- Any form of a number. -/
def kZ : Kd Int := kVia kI fun x z => ival x = z ∧ x.2.length ≤ 17179869184
/-- The one form of a number. -/
def kC : Kd Int := kVia kI fun x z => x = canon z
/-- A number of modest size. -/
def Sm (z : Int) : Prop := z.natAbs < 4294967296 ^ 17179869184
theorem kC_I (z : Int) : VP.le (kC.is z) (kI.is (canon z)) := by
  rintro m v ⟨cs, rfl, y, h, rfl⟩
  exact ⟨cs, rfl, h⟩
theorem kI_C {x : Bool × List Nat} {z : Int} (hx : x = canon z) : VP.le (kI.is x) (kC.is z) := by
  rintro m v ⟨cs, rfl, h⟩
  exact ⟨cs, rfl, x, h, hx⟩
theorem kC_Z {z : Int} (h : Sm z) : VP.le (kC.is z) (kZ.is z) := by
  rintro m v ⟨cs, rfl, y, h1, rfl⟩
  exact ⟨cs, rfl, _, h1, ival_canon z, limbs_len_lt h⟩
end Fw
