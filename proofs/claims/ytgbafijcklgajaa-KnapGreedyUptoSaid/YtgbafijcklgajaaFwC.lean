/- The frame of the walks: operations, regions, control, contracts. -/
import Derived.Test.YtgbafijcklgajaaFwB
import Derived.Deep.LoopGhost
set_option linter.unusedVariables false
set_option linter.unusedSimpArgs false
namespace Fw
open Go

/-! ### Code -/
/-- From a state so told K follows. -/
def ST (C : Ctx) (K : Act → World → Prop) (ρ : Env) (L : List OB) : Prop := ∀ m w a, Sat C m w L → Has C.N m a ρ → K a w
abbrev CW (C : Ctx) (Q : Exit → Act → World → Prop) (c : Code) (ρ : Env) (L : List OB) : Prop := ST C (Code.wp C.P c Q) ρ L
abbrev QE (C : Ctx) (Q : Exit → Act → World → Prop) (e : Exit) (ρ : Env) (L : List OB) : Prop := ST C (Q e) ρ L
abbrev WP (C : Ctx) (ops : Array Oper) (Q : Exit → Act → World → Prop) (l : List Oper) (ρ : Env) (L : List OB) : Prop := ST C (wpList C.P ops Q l) ρ L

section
variable {C : Ctx} {Q : Exit → Act → World → Prop} {ρ : Env} {L : List OB}
theorem CW.seq {x y : Code} (h : CW C (Exit.then (y.wp C.P Q) Q) x ρ L) : CW C Q (x.seq y) ρ L := fun m w a s t => wp_seq (h m w a s t)
theorem QE.next {y : Code} (h : CW C Q y ρ L) : QE C (Exit.then (y.wp C.P Q) Q) .normal ρ L := h
theorem QE.thenE {n : Act → World → Prop} {id : Nat} (h : QE C Q (.exit id) ρ L) : QE C (Exit.then n Q) (.exit id) ρ L := h
theorem QE.thenR {n : Act → World → Prop} (h : QE C Q .ret ρ L) : QE C (Exit.then n Q) .ret ρ L := h
theorem QE.blkN {id : Nat} (h : QE C Q .normal ρ L) : QE C (Exit.inBlock id Q) .normal ρ L := h
theorem QE.blkR {id : Nat} (h : QE C Q .ret ρ L) : QE C (Exit.inBlock id Q) .ret ρ L := h
theorem QE.blkH {id : Nat} (h : QE C Q .normal ρ L) : QE C (Exit.inBlock id Q) (.exit id) ρ L := fun m w a s t => by
  simpa [Exit.inBlock] using h m w a s t
theorem QE.blkM {id id' : Nat} (hne : (id' == id) = false) (h : QE C Q (.exit id') ρ L) : QE C (Exit.inBlock id Q) (.exit id') ρ L := fun m w a s t => by
  have : id' ≠ id := by simpa using hne
  simpa [Exit.inBlock, this] using h m w a s t
theorem CW.skip (h : QE C Q .normal ρ L) : CW C Q .skip ρ L := fun m w a s t => wp_skip (h m w a s t)
theorem CW.exit {id : Nat} (h : QE C Q (.exit id) ρ L) : CW C Q (.exit id) ρ L := fun m w a s t => wp_exit (h m w a s t)
theorem CW.ret (h : QE C Q .ret ρ L) : CW C Q .ret ρ L := fun m w a s t => wp_ret (h m w a s t)
theorem CW.label {l : Nat} (h : QE C Q .normal ρ L) : CW C Q (.label l) ρ L := fun m w a s t => wp_label (h m w a s t)
theorem CW.block {id : Nat} {c : Code} (h : CW C (Exit.inBlock id Q) c ρ L) : CW C Q (.block id c) ρ L := fun m w a s t => wp_block (h m w a s t)
theorem CW.region {id : Nat} {l : List Oper} (h : WP C l.toArray Q l ρ L) : CW C Q (.region id l.toArray false) ρ L := fun m w a s t => wp_region_lit (h m w a s t)
theorem WP.nil {ops : Array Oper} (h : QE C Q .normal ρ L) : WP C ops Q [] ρ L := fun m w a s t => wpList_nil (h m w a s t)
theorem cond_val {p : VP} {x : Operand} {N : Nat} {m : Mem} {a : Act} {b : Bool} (t : Has N m a ρ) (e : ev ρ x = some (kBool.is b)) : a.eval x = .bool b := by
  obtain ⟨cs, h1, h2⟩ := t.evl e
  rw [h1, h2]; rfl
theorem CW.cond {x : Operand} {c d : Code} {b : Bool} (e : ev ρ x = some (kBool.is b)) (ht : b = true → CW C Q c ρ L) (hf : b = false → CW C Q d ρ L) : CW C Q (.cond x c d) ρ L := fun m w a s t =>
  wp_cond_split (cond_val (p := kBool.is b) t e) (fun h => ht h m w a s t) (fun h => hf h m w a s t)
theorem CW.condD {x : Operand} {c d : Code} {p : Prop} [Decidable p] (e : ev ρ x = some (kBool.is (decide p))) (ht : p → CW C Q c ρ L) (hf : ¬ p → CW C Q d ρ L) : CW C Q (.cond x c d) ρ L :=
  CW.cond e (fun h => ht (of_decide_eq_true h)) (fun h => hf (of_decide_eq_false h))
theorem CW.condT {x : Operand} {c d : Code} (e : ev ρ x = some (kBool.is true)) (ht : CW C Q c ρ L) : CW C Q (.cond x c d) ρ L := CW.cond e (fun _ => ht) (fun h => by cases h)
theorem CW.condF {x : Operand} {c d : Code} (e : ev ρ x = some (kBool.is false)) (hf : CW C Q d ρ L) : CW C Q (.cond x c d) ρ L := CW.cond e (fun h => by cases h) (fun _ => hf)

/-- What one env tells, the other tells too. -/
def Imp (ρ ρ' : Env) : Prop := ∀ (N : Nat) (m : Mem) (a : Act), Has N m a ρ → Has N m a ρ'
theorem Imp.nil : Imp ρ [] := fun N m a h => ⟨h.defers, h.size, fun i p e => by cases e⟩
theorem Imp.cons {ρ' : Env} {i : Nat} {p : VP} (e : ρ.get i = some p) (h : Imp ρ ρ') : Imp ρ ((i, p) :: ρ') := fun N m a t => ⟨t.defers, t.size, fun j q hq => by
  simp only [Env.get] at hq
  cases hb : Nat.beq i j with
  | true =>
    have := Nat.eq_of_beq_eq_true hb
    subst this
    simp only [hb, cond_true, Option.some.injEq] at hq
    subst hq
    exact t.get i p e
  | false => simp only [hb, cond_false] at hq; exact (h N m a t).get j q hq⟩
/-- One thing told tells the other. -/
def VP.le (p q : VP) : Prop := ∀ m v, p.p m v → q.p m v
theorem VP.le_refl (p : VP) : VP.le p p := fun _ _ h => h
theorem Imp.consLe {ρ' : Env} {i : Nat} {p q : VP} (e : ρ.get i = some p) (hl : VP.le p q) (h : Imp ρ ρ') : Imp ρ ((i, q) :: ρ') := fun N m a t => ⟨t.defers, t.size, fun j r hq => by
  simp only [Env.get] at hq
  cases hb : Nat.beq i j with
  | true =>
    have := Nat.eq_of_beq_eq_true hb
    subst this
    simp only [hb, cond_true, Option.some.injEq] at hq
    subst hq
    exact hl _ _ (t.get i p e)
  | false => simp only [hb, cond_false] at hq; exact (h N m a t).get j r hq⟩
theorem ST.imp {K : Act → World → Prop} {ρ' : Env} (hi : Imp ρ ρ') (h : ST C K ρ' L) : ST C K ρ L := fun m w a s t => h m w a s (hi _ m a t)
/-- The owned blocks told otherwise. -/
def OImp (C : Ctx) (L L' : List OB) : Prop := ∀ m w, Sat C m w L → Sat C m w L'
theorem OImp.refl (L : List OB) : OImp C L L := fun _ _ s => s
theorem OImp.sub {L' : List OB} (h : L'.Sublist L) : OImp C L L' := fun _ _ s => s.sub h
theorem OImp.perm {L' : List OB} (h : L'.Perm L) : OImp C L L' := fun _ _ s => s.perm h
theorem OImp.trans {L' L'' : List OB} (h : OImp C L L') (k : OImp C L' L'') : OImp C L L'' := fun m w s => k m w (h m w s)
theorem ST.oimp {K : Act → World → Prop} {L' : List OB} (hi : OImp C L L') (h : ST C K ρ L') : ST C K ρ L := fun m w a s t => h m w a (hi m w s) t

/-- A fact that a slot tells. -/
theorem ST.fact {K : Act → World → Prop} {i : Nat} {p : VP} {F : Prop} (e : ρ.get i = some p) (hF : ∀ m v, p.p m v → F) (h : F → ST C K ρ L) : ST C K ρ L := fun m w a s t => h (hF _ _ (t.get i p e)) m w a s t

/-- A state somewhere on the way: one of a family. -/
def Mid (C : Ctx) {ι : Type} (R : ι → Prop) (I : ι → Env) (O : ι → List OB) (a : Act) (w : World) : Prop := ∃ i m, R i ∧ Sat C m w (O i) ∧ Has C.N m a (I i)
theorem CW.cut {x y : Code} {ι : Type} (R : ι → Prop) (I : ι → Env) (O : ι → List OB) (h : CW C (Exit.then (Mid C R I O) Q) x ρ L) (k : ∀ i, R i → CW C Q y (I i) (O i)) : CW C Q (x.seq y) ρ L := fun m w a s t =>
  wp_seq (wp_mono (h m w a s t) fun e a w q => by
    cases e with
    | normal => obtain ⟨i, m, r, s, t⟩ := q; exact k i r m w a s t
    | _ => exact q)
theorem QE.mid {ι : Type} {R : ι → Prop} {I : ι → Env} {O : ι → List OB} (i : ι) (r : R i) (hi : Imp ρ (I i)) (ho : OImp C L (O i)) : QE C (Exit.then (Mid C R I O) Q) .normal ρ L := fun m w a s t => ⟨i, m, r, ho m w s, hi _ m a t⟩

def Round (C : Ctx) {ι : Type} (R : ι → Prop) (I : ι → Env) (O : ι → List OB) (μ : ι → Nat) (n : Nat) (a : Act) (w : World) : Prop := ∃ i m, μ i < n ∧ R i ∧ Sat C m w (O i) ∧ Has C.N m a (I i)
theorem CW.loop {c : Code} {ι : Type} (R : ι → Prop) (I : ι → Env) (O : ι → List OB) (μ : ι → Nat) (i : ι) (r : R i) (hi : Imp ρ (I i)) (ho : OImp C L (O i))
    (round : ∀ i, R i → CW C (Exit.then (Round C R I O μ (μ i)) Q) c (I i) (O i)) : CW C Q (.loop c) ρ L := fun m w a s t =>
  wp_loop_ghost (fun n a w => ∃ i m, μ i = n ∧ R i ∧ Sat C m w (O i) ∧ Has C.N m a (I i)) (μ i) ⟨i, m, rfl, r, ho m w s, hi _ m a t⟩ fun n a w ⟨i, m, hn, r, s, t⟩ => by
    subst hn
    refine wp_mono (round i r m w a s t) fun e a w q => ?_
    cases e with
    | normal => obtain ⟨j, m, hlt, r, s, t⟩ := q; exact ⟨μ j, hlt, j, m, rfl, r, s, t⟩
    | _ => exact q
theorem QE.round {ι : Type} {R : ι → Prop} {I : ι → Env} {O : ι → List OB} {μ : ι → Nat} {n : Nat} (i : ι) (hlt : μ i < n) (r : R i) (hi : Imp ρ (I i)) (ho : OImp C L (O i)) : QE C (Exit.then (Round C R I O μ n) Q) .normal ρ L := fun m w a s t => ⟨i, m, hlt, r, ho m w s, hi _ m a t⟩
/-! With several letters. -/
def Round2 (C : Ctx) {ι1 ι2 : Type} (R : ι1 → ι2 → Prop) (I : ι1 → ι2 → Env) (O : ι1 → ι2 → List OB) (μ : ι1 → ι2 → Nat) (n : Nat) (a : Act) (w : World) : Prop := ∃ x1 x2 m, μ x1 x2 < n ∧ R x1 x2 ∧ Sat C m w (O x1 x2) ∧ Has C.N m a (I x1 x2)
theorem CW.loop2 {c : Code} {ι1 ι2 : Type} (R : ι1 → ι2 → Prop) (I : ι1 → ι2 → Env) (O : ι1 → ι2 → List OB) (μ : ι1 → ι2 → Nat) (x1 : ι1) (x2 : ι2) (r : R x1 x2) (hi : Imp ρ (I x1 x2)) (ho : OImp C L (O x1 x2))
    (round : ∀ x1 x2, R x1 x2 → CW C (Exit.then (Round2 C R I O μ (μ x1 x2)) Q) c (I x1 x2) (O x1 x2)) : CW C Q (.loop c) ρ L := fun m w a s t =>
  wp_loop_ghost (fun n a w => ∃ x1 x2 m, μ x1 x2 = n ∧ R x1 x2 ∧ Sat C m w (O x1 x2) ∧ Has C.N m a (I x1 x2)) (μ x1 x2) ⟨x1, x2, m, rfl, r, ho m w s, hi _ m a t⟩ fun n a w ⟨x1, x2, m, hn, r, s, t⟩ => by
    subst hn
    refine wp_mono (round x1 x2 r m w a s t) fun e a w q => ?_
    cases e with
    | normal => obtain ⟨x1, x2, m, hlt, r, s, t⟩ := q; exact ⟨μ x1 x2, hlt, x1, x2, m, rfl, r, s, t⟩
    | _ => exact q
theorem QE.round2 {ι1 ι2 : Type} {R : ι1 → ι2 → Prop} {I : ι1 → ι2 → Env} {O : ι1 → ι2 → List OB} {μ : ι1 → ι2 → Nat} {n : Nat} (x1 : ι1) (x2 : ι2) (hlt : μ x1 x2 < n) (r : R x1 x2) (hi : Imp ρ (I x1 x2)) (ho : OImp C L (O x1 x2)) : QE C (Exit.then (Round2 C R I O μ n) Q) .normal ρ L := fun m w a s t => ⟨x1, x2, m, hlt, r, ho m w s, hi _ m a t⟩
def Mid2 (C : Ctx) {ι1 ι2 : Type} (R : ι1 → ι2 → Prop) (I : ι1 → ι2 → Env) (O : ι1 → ι2 → List OB) (a : Act) (w : World) : Prop := ∃ x1 x2 m, R x1 x2 ∧ Sat C m w (O x1 x2) ∧ Has C.N m a (I x1 x2)
theorem CW.cut2 {x y : Code} {ι1 ι2 : Type} (R : ι1 → ι2 → Prop) (I : ι1 → ι2 → Env) (O : ι1 → ι2 → List OB) (h : CW C (Exit.then (Mid2 C R I O) Q) x ρ L) (k : ∀ x1 x2, R x1 x2 → CW C Q y (I x1 x2) (O x1 x2)) : CW C Q (x.seq y) ρ L := fun m w a s t =>
  wp_seq (wp_mono (h m w a s t) fun e a w q => by
    cases e with
    | normal => obtain ⟨x1, x2, m, r, s, t⟩ := q; exact k x1 x2 r m w a s t
    | _ => exact q)
theorem QE.mid2 {ι1 ι2 : Type} {R : ι1 → ι2 → Prop} {I : ι1 → ι2 → Env} {O : ι1 → ι2 → List OB} (x1 : ι1) (x2 : ι2) (r : R x1 x2) (hi : Imp ρ (I x1 x2)) (ho : OImp C L (O x1 x2)) : QE C (Exit.then (Mid2 C R I O) Q) .normal ρ L := fun m w a s t => ⟨x1, x2, m, r, ho m w s, hi _ m a t⟩
def Round3 (C : Ctx) {ι1 ι2 ι3 : Type} (R : ι1 → ι2 → ι3 → Prop) (I : ι1 → ι2 → ι3 → Env) (O : ι1 → ι2 → ι3 → List OB) (μ : ι1 → ι2 → ι3 → Nat) (n : Nat) (a : Act) (w : World) : Prop := ∃ x1 x2 x3 m, μ x1 x2 x3 < n ∧ R x1 x2 x3 ∧ Sat C m w (O x1 x2 x3) ∧ Has C.N m a (I x1 x2 x3)
theorem CW.loop3 {c : Code} {ι1 ι2 ι3 : Type} (R : ι1 → ι2 → ι3 → Prop) (I : ι1 → ι2 → ι3 → Env) (O : ι1 → ι2 → ι3 → List OB) (μ : ι1 → ι2 → ι3 → Nat) (x1 : ι1) (x2 : ι2) (x3 : ι3) (r : R x1 x2 x3) (hi : Imp ρ (I x1 x2 x3)) (ho : OImp C L (O x1 x2 x3))
    (round : ∀ x1 x2 x3, R x1 x2 x3 → CW C (Exit.then (Round3 C R I O μ (μ x1 x2 x3)) Q) c (I x1 x2 x3) (O x1 x2 x3)) : CW C Q (.loop c) ρ L := fun m w a s t =>
  wp_loop_ghost (fun n a w => ∃ x1 x2 x3 m, μ x1 x2 x3 = n ∧ R x1 x2 x3 ∧ Sat C m w (O x1 x2 x3) ∧ Has C.N m a (I x1 x2 x3)) (μ x1 x2 x3) ⟨x1, x2, x3, m, rfl, r, ho m w s, hi _ m a t⟩ fun n a w ⟨x1, x2, x3, m, hn, r, s, t⟩ => by
    subst hn
    refine wp_mono (round x1 x2 x3 r m w a s t) fun e a w q => ?_
    cases e with
    | normal => obtain ⟨x1, x2, x3, m, hlt, r, s, t⟩ := q; exact ⟨μ x1 x2 x3, hlt, x1, x2, x3, m, rfl, r, s, t⟩
    | _ => exact q
theorem QE.round3 {ι1 ι2 ι3 : Type} {R : ι1 → ι2 → ι3 → Prop} {I : ι1 → ι2 → ι3 → Env} {O : ι1 → ι2 → ι3 → List OB} {μ : ι1 → ι2 → ι3 → Nat} {n : Nat} (x1 : ι1) (x2 : ι2) (x3 : ι3) (hlt : μ x1 x2 x3 < n) (r : R x1 x2 x3) (hi : Imp ρ (I x1 x2 x3)) (ho : OImp C L (O x1 x2 x3)) : QE C (Exit.then (Round3 C R I O μ n) Q) .normal ρ L := fun m w a s t => ⟨x1, x2, x3, m, hlt, r, ho m w s, hi _ m a t⟩
def Mid3 (C : Ctx) {ι1 ι2 ι3 : Type} (R : ι1 → ι2 → ι3 → Prop) (I : ι1 → ι2 → ι3 → Env) (O : ι1 → ι2 → ι3 → List OB) (a : Act) (w : World) : Prop := ∃ x1 x2 x3 m, R x1 x2 x3 ∧ Sat C m w (O x1 x2 x3) ∧ Has C.N m a (I x1 x2 x3)
theorem CW.cut3 {x y : Code} {ι1 ι2 ι3 : Type} (R : ι1 → ι2 → ι3 → Prop) (I : ι1 → ι2 → ι3 → Env) (O : ι1 → ι2 → ι3 → List OB) (h : CW C (Exit.then (Mid3 C R I O) Q) x ρ L) (k : ∀ x1 x2 x3, R x1 x2 x3 → CW C Q y (I x1 x2 x3) (O x1 x2 x3)) : CW C Q (x.seq y) ρ L := fun m w a s t =>
  wp_seq (wp_mono (h m w a s t) fun e a w q => by
    cases e with
    | normal => obtain ⟨x1, x2, x3, m, r, s, t⟩ := q; exact k x1 x2 x3 r m w a s t
    | _ => exact q)
theorem QE.mid3 {ι1 ι2 ι3 : Type} {R : ι1 → ι2 → ι3 → Prop} {I : ι1 → ι2 → ι3 → Env} {O : ι1 → ι2 → ι3 → List OB} (x1 : ι1) (x2 : ι2) (x3 : ι3) (r : R x1 x2 x3) (hi : Imp ρ (I x1 x2 x3)) (ho : OImp C L (O x1 x2 x3)) : QE C (Exit.then (Mid3 C R I O) Q) .normal ρ L := fun m w a s t => ⟨x1, x2, x3, m, r, ho m w s, hi _ m a t⟩
def Round4 (C : Ctx) {ι1 ι2 ι3 ι4 : Type} (R : ι1 → ι2 → ι3 → ι4 → Prop) (I : ι1 → ι2 → ι3 → ι4 → Env) (O : ι1 → ι2 → ι3 → ι4 → List OB) (μ : ι1 → ι2 → ι3 → ι4 → Nat) (n : Nat) (a : Act) (w : World) : Prop := ∃ x1 x2 x3 x4 m, μ x1 x2 x3 x4 < n ∧ R x1 x2 x3 x4 ∧ Sat C m w (O x1 x2 x3 x4) ∧ Has C.N m a (I x1 x2 x3 x4)
theorem CW.loop4 {c : Code} {ι1 ι2 ι3 ι4 : Type} (R : ι1 → ι2 → ι3 → ι4 → Prop) (I : ι1 → ι2 → ι3 → ι4 → Env) (O : ι1 → ι2 → ι3 → ι4 → List OB) (μ : ι1 → ι2 → ι3 → ι4 → Nat) (x1 : ι1) (x2 : ι2) (x3 : ι3) (x4 : ι4) (r : R x1 x2 x3 x4) (hi : Imp ρ (I x1 x2 x3 x4)) (ho : OImp C L (O x1 x2 x3 x4))
    (round : ∀ x1 x2 x3 x4, R x1 x2 x3 x4 → CW C (Exit.then (Round4 C R I O μ (μ x1 x2 x3 x4)) Q) c (I x1 x2 x3 x4) (O x1 x2 x3 x4)) : CW C Q (.loop c) ρ L := fun m w a s t =>
  wp_loop_ghost (fun n a w => ∃ x1 x2 x3 x4 m, μ x1 x2 x3 x4 = n ∧ R x1 x2 x3 x4 ∧ Sat C m w (O x1 x2 x3 x4) ∧ Has C.N m a (I x1 x2 x3 x4)) (μ x1 x2 x3 x4) ⟨x1, x2, x3, x4, m, rfl, r, ho m w s, hi _ m a t⟩ fun n a w ⟨x1, x2, x3, x4, m, hn, r, s, t⟩ => by
    subst hn
    refine wp_mono (round x1 x2 x3 x4 r m w a s t) fun e a w q => ?_
    cases e with
    | normal => obtain ⟨x1, x2, x3, x4, m, hlt, r, s, t⟩ := q; exact ⟨μ x1 x2 x3 x4, hlt, x1, x2, x3, x4, m, rfl, r, s, t⟩
    | _ => exact q
theorem QE.round4 {ι1 ι2 ι3 ι4 : Type} {R : ι1 → ι2 → ι3 → ι4 → Prop} {I : ι1 → ι2 → ι3 → ι4 → Env} {O : ι1 → ι2 → ι3 → ι4 → List OB} {μ : ι1 → ι2 → ι3 → ι4 → Nat} {n : Nat} (x1 : ι1) (x2 : ι2) (x3 : ι3) (x4 : ι4) (hlt : μ x1 x2 x3 x4 < n) (r : R x1 x2 x3 x4) (hi : Imp ρ (I x1 x2 x3 x4)) (ho : OImp C L (O x1 x2 x3 x4)) : QE C (Exit.then (Round4 C R I O μ n) Q) .normal ρ L := fun m w a s t => ⟨x1, x2, x3, x4, m, hlt, r, ho m w s, hi _ m a t⟩
def Mid4 (C : Ctx) {ι1 ι2 ι3 ι4 : Type} (R : ι1 → ι2 → ι3 → ι4 → Prop) (I : ι1 → ι2 → ι3 → ι4 → Env) (O : ι1 → ι2 → ι3 → ι4 → List OB) (a : Act) (w : World) : Prop := ∃ x1 x2 x3 x4 m, R x1 x2 x3 x4 ∧ Sat C m w (O x1 x2 x3 x4) ∧ Has C.N m a (I x1 x2 x3 x4)
theorem CW.cut4 {x y : Code} {ι1 ι2 ι3 ι4 : Type} (R : ι1 → ι2 → ι3 → ι4 → Prop) (I : ι1 → ι2 → ι3 → ι4 → Env) (O : ι1 → ι2 → ι3 → ι4 → List OB) (h : CW C (Exit.then (Mid4 C R I O) Q) x ρ L) (k : ∀ x1 x2 x3 x4, R x1 x2 x3 x4 → CW C Q y (I x1 x2 x3 x4) (O x1 x2 x3 x4)) : CW C Q (x.seq y) ρ L := fun m w a s t =>
  wp_seq (wp_mono (h m w a s t) fun e a w q => by
    cases e with
    | normal => obtain ⟨x1, x2, x3, x4, m, r, s, t⟩ := q; exact k x1 x2 x3 x4 r m w a s t
    | _ => exact q)
theorem QE.mid4 {ι1 ι2 ι3 ι4 : Type} {R : ι1 → ι2 → ι3 → ι4 → Prop} {I : ι1 → ι2 → ι3 → ι4 → Env} {O : ι1 → ι2 → ι3 → ι4 → List OB} (x1 : ι1) (x2 : ι2) (x3 : ι3) (x4 : ι4) (r : R x1 x2 x3 x4) (hi : Imp ρ (I x1 x2 x3 x4)) (ho : OImp C L (O x1 x2 x3 x4)) : QE C (Exit.then (Mid4 C R I O) Q) .normal ρ L := fun m w a s t => ⟨x1, x2, x3, x4, m, r, ho m w s, hi _ m a t⟩
def Round5 (C : Ctx) {ι1 ι2 ι3 ι4 ι5 : Type} (R : ι1 → ι2 → ι3 → ι4 → ι5 → Prop) (I : ι1 → ι2 → ι3 → ι4 → ι5 → Env) (O : ι1 → ι2 → ι3 → ι4 → ι5 → List OB) (μ : ι1 → ι2 → ι3 → ι4 → ι5 → Nat) (n : Nat) (a : Act) (w : World) : Prop := ∃ x1 x2 x3 x4 x5 m, μ x1 x2 x3 x4 x5 < n ∧ R x1 x2 x3 x4 x5 ∧ Sat C m w (O x1 x2 x3 x4 x5) ∧ Has C.N m a (I x1 x2 x3 x4 x5)
theorem CW.loop5 {c : Code} {ι1 ι2 ι3 ι4 ι5 : Type} (R : ι1 → ι2 → ι3 → ι4 → ι5 → Prop) (I : ι1 → ι2 → ι3 → ι4 → ι5 → Env) (O : ι1 → ι2 → ι3 → ι4 → ι5 → List OB) (μ : ι1 → ι2 → ι3 → ι4 → ι5 → Nat) (x1 : ι1) (x2 : ι2) (x3 : ι3) (x4 : ι4) (x5 : ι5) (r : R x1 x2 x3 x4 x5) (hi : Imp ρ (I x1 x2 x3 x4 x5)) (ho : OImp C L (O x1 x2 x3 x4 x5))
    (round : ∀ x1 x2 x3 x4 x5, R x1 x2 x3 x4 x5 → CW C (Exit.then (Round5 C R I O μ (μ x1 x2 x3 x4 x5)) Q) c (I x1 x2 x3 x4 x5) (O x1 x2 x3 x4 x5)) : CW C Q (.loop c) ρ L := fun m w a s t =>
  wp_loop_ghost (fun n a w => ∃ x1 x2 x3 x4 x5 m, μ x1 x2 x3 x4 x5 = n ∧ R x1 x2 x3 x4 x5 ∧ Sat C m w (O x1 x2 x3 x4 x5) ∧ Has C.N m a (I x1 x2 x3 x4 x5)) (μ x1 x2 x3 x4 x5) ⟨x1, x2, x3, x4, x5, m, rfl, r, ho m w s, hi _ m a t⟩ fun n a w ⟨x1, x2, x3, x4, x5, m, hn, r, s, t⟩ => by
    subst hn
    refine wp_mono (round x1 x2 x3 x4 x5 r m w a s t) fun e a w q => ?_
    cases e with
    | normal => obtain ⟨x1, x2, x3, x4, x5, m, hlt, r, s, t⟩ := q; exact ⟨μ x1 x2 x3 x4 x5, hlt, x1, x2, x3, x4, x5, m, rfl, r, s, t⟩
    | _ => exact q
theorem QE.round5 {ι1 ι2 ι3 ι4 ι5 : Type} {R : ι1 → ι2 → ι3 → ι4 → ι5 → Prop} {I : ι1 → ι2 → ι3 → ι4 → ι5 → Env} {O : ι1 → ι2 → ι3 → ι4 → ι5 → List OB} {μ : ι1 → ι2 → ι3 → ι4 → ι5 → Nat} {n : Nat} (x1 : ι1) (x2 : ι2) (x3 : ι3) (x4 : ι4) (x5 : ι5) (hlt : μ x1 x2 x3 x4 x5 < n) (r : R x1 x2 x3 x4 x5) (hi : Imp ρ (I x1 x2 x3 x4 x5)) (ho : OImp C L (O x1 x2 x3 x4 x5)) : QE C (Exit.then (Round5 C R I O μ n) Q) .normal ρ L := fun m w a s t => ⟨x1, x2, x3, x4, x5, m, hlt, r, ho m w s, hi _ m a t⟩
def Mid5 (C : Ctx) {ι1 ι2 ι3 ι4 ι5 : Type} (R : ι1 → ι2 → ι3 → ι4 → ι5 → Prop) (I : ι1 → ι2 → ι3 → ι4 → ι5 → Env) (O : ι1 → ι2 → ι3 → ι4 → ι5 → List OB) (a : Act) (w : World) : Prop := ∃ x1 x2 x3 x4 x5 m, R x1 x2 x3 x4 x5 ∧ Sat C m w (O x1 x2 x3 x4 x5) ∧ Has C.N m a (I x1 x2 x3 x4 x5)
theorem CW.cut5 {x y : Code} {ι1 ι2 ι3 ι4 ι5 : Type} (R : ι1 → ι2 → ι3 → ι4 → ι5 → Prop) (I : ι1 → ι2 → ι3 → ι4 → ι5 → Env) (O : ι1 → ι2 → ι3 → ι4 → ι5 → List OB) (h : CW C (Exit.then (Mid5 C R I O) Q) x ρ L) (k : ∀ x1 x2 x3 x4 x5, R x1 x2 x3 x4 x5 → CW C Q y (I x1 x2 x3 x4 x5) (O x1 x2 x3 x4 x5)) : CW C Q (x.seq y) ρ L := fun m w a s t =>
  wp_seq (wp_mono (h m w a s t) fun e a w q => by
    cases e with
    | normal => obtain ⟨x1, x2, x3, x4, x5, m, r, s, t⟩ := q; exact k x1 x2 x3 x4 x5 r m w a s t
    | _ => exact q)
theorem QE.mid5 {ι1 ι2 ι3 ι4 ι5 : Type} {R : ι1 → ι2 → ι3 → ι4 → ι5 → Prop} {I : ι1 → ι2 → ι3 → ι4 → ι5 → Env} {O : ι1 → ι2 → ι3 → ι4 → ι5 → List OB} (x1 : ι1) (x2 : ι2) (x3 : ι3) (x4 : ι4) (x5 : ι5) (r : R x1 x2 x3 x4 x5) (hi : Imp ρ (I x1 x2 x3 x4 x5)) (ho : OImp C L (O x1 x2 x3 x4 x5)) : QE C (Exit.then (Mid5 C R I O) Q) .normal ρ L := fun m w a s t => ⟨x1, x2, x3, x4, x5, m, r, ho m w s, hi _ m a t⟩
def Round6 (C : Ctx) {ι1 ι2 ι3 ι4 ι5 ι6 : Type} (R : ι1 → ι2 → ι3 → ι4 → ι5 → ι6 → Prop) (I : ι1 → ι2 → ι3 → ι4 → ι5 → ι6 → Env) (O : ι1 → ι2 → ι3 → ι4 → ι5 → ι6 → List OB) (μ : ι1 → ι2 → ι3 → ι4 → ι5 → ι6 → Nat) (n : Nat) (a : Act) (w : World) : Prop := ∃ x1 x2 x3 x4 x5 x6 m, μ x1 x2 x3 x4 x5 x6 < n ∧ R x1 x2 x3 x4 x5 x6 ∧ Sat C m w (O x1 x2 x3 x4 x5 x6) ∧ Has C.N m a (I x1 x2 x3 x4 x5 x6)
theorem CW.loop6 {c : Code} {ι1 ι2 ι3 ι4 ι5 ι6 : Type} (R : ι1 → ι2 → ι3 → ι4 → ι5 → ι6 → Prop) (I : ι1 → ι2 → ι3 → ι4 → ι5 → ι6 → Env) (O : ι1 → ι2 → ι3 → ι4 → ι5 → ι6 → List OB) (μ : ι1 → ι2 → ι3 → ι4 → ι5 → ι6 → Nat) (x1 : ι1) (x2 : ι2) (x3 : ι3) (x4 : ι4) (x5 : ι5) (x6 : ι6) (r : R x1 x2 x3 x4 x5 x6) (hi : Imp ρ (I x1 x2 x3 x4 x5 x6)) (ho : OImp C L (O x1 x2 x3 x4 x5 x6))
    (round : ∀ x1 x2 x3 x4 x5 x6, R x1 x2 x3 x4 x5 x6 → CW C (Exit.then (Round6 C R I O μ (μ x1 x2 x3 x4 x5 x6)) Q) c (I x1 x2 x3 x4 x5 x6) (O x1 x2 x3 x4 x5 x6)) : CW C Q (.loop c) ρ L := fun m w a s t =>
  wp_loop_ghost (fun n a w => ∃ x1 x2 x3 x4 x5 x6 m, μ x1 x2 x3 x4 x5 x6 = n ∧ R x1 x2 x3 x4 x5 x6 ∧ Sat C m w (O x1 x2 x3 x4 x5 x6) ∧ Has C.N m a (I x1 x2 x3 x4 x5 x6)) (μ x1 x2 x3 x4 x5 x6) ⟨x1, x2, x3, x4, x5, x6, m, rfl, r, ho m w s, hi _ m a t⟩ fun n a w ⟨x1, x2, x3, x4, x5, x6, m, hn, r, s, t⟩ => by
    subst hn
    refine wp_mono (round x1 x2 x3 x4 x5 x6 r m w a s t) fun e a w q => ?_
    cases e with
    | normal => obtain ⟨x1, x2, x3, x4, x5, x6, m, hlt, r, s, t⟩ := q; exact ⟨μ x1 x2 x3 x4 x5 x6, hlt, x1, x2, x3, x4, x5, x6, m, rfl, r, s, t⟩
    | _ => exact q
theorem QE.round6 {ι1 ι2 ι3 ι4 ι5 ι6 : Type} {R : ι1 → ι2 → ι3 → ι4 → ι5 → ι6 → Prop} {I : ι1 → ι2 → ι3 → ι4 → ι5 → ι6 → Env} {O : ι1 → ι2 → ι3 → ι4 → ι5 → ι6 → List OB} {μ : ι1 → ι2 → ι3 → ι4 → ι5 → ι6 → Nat} {n : Nat} (x1 : ι1) (x2 : ι2) (x3 : ι3) (x4 : ι4) (x5 : ι5) (x6 : ι6) (hlt : μ x1 x2 x3 x4 x5 x6 < n) (r : R x1 x2 x3 x4 x5 x6) (hi : Imp ρ (I x1 x2 x3 x4 x5 x6)) (ho : OImp C L (O x1 x2 x3 x4 x5 x6)) : QE C (Exit.then (Round6 C R I O μ n) Q) .normal ρ L := fun m w a s t => ⟨x1, x2, x3, x4, x5, x6, m, hlt, r, ho m w s, hi _ m a t⟩
def Mid6 (C : Ctx) {ι1 ι2 ι3 ι4 ι5 ι6 : Type} (R : ι1 → ι2 → ι3 → ι4 → ι5 → ι6 → Prop) (I : ι1 → ι2 → ι3 → ι4 → ι5 → ι6 → Env) (O : ι1 → ι2 → ι3 → ι4 → ι5 → ι6 → List OB) (a : Act) (w : World) : Prop := ∃ x1 x2 x3 x4 x5 x6 m, R x1 x2 x3 x4 x5 x6 ∧ Sat C m w (O x1 x2 x3 x4 x5 x6) ∧ Has C.N m a (I x1 x2 x3 x4 x5 x6)
theorem CW.cut6 {x y : Code} {ι1 ι2 ι3 ι4 ι5 ι6 : Type} (R : ι1 → ι2 → ι3 → ι4 → ι5 → ι6 → Prop) (I : ι1 → ι2 → ι3 → ι4 → ι5 → ι6 → Env) (O : ι1 → ι2 → ι3 → ι4 → ι5 → ι6 → List OB) (h : CW C (Exit.then (Mid6 C R I O) Q) x ρ L) (k : ∀ x1 x2 x3 x4 x5 x6, R x1 x2 x3 x4 x5 x6 → CW C Q y (I x1 x2 x3 x4 x5 x6) (O x1 x2 x3 x4 x5 x6)) : CW C Q (x.seq y) ρ L := fun m w a s t =>
  wp_seq (wp_mono (h m w a s t) fun e a w q => by
    cases e with
    | normal => obtain ⟨x1, x2, x3, x4, x5, x6, m, r, s, t⟩ := q; exact k x1 x2 x3 x4 x5 x6 r m w a s t
    | _ => exact q)
theorem QE.mid6 {ι1 ι2 ι3 ι4 ι5 ι6 : Type} {R : ι1 → ι2 → ι3 → ι4 → ι5 → ι6 → Prop} {I : ι1 → ι2 → ι3 → ι4 → ι5 → ι6 → Env} {O : ι1 → ι2 → ι3 → ι4 → ι5 → ι6 → List OB} (x1 : ι1) (x2 : ι2) (x3 : ι3) (x4 : ι4) (x5 : ι5) (x6 : ι6) (r : R x1 x2 x3 x4 x5 x6) (hi : Imp ρ (I x1 x2 x3 x4 x5 x6)) (ho : OImp C L (O x1 x2 x3 x4 x5 x6)) : QE C (Exit.then (Mid6 C R I O) Q) .normal ρ L := fun m w a s t => ⟨x1, x2, x3, x4, x5, x6, m, r, ho m w s, hi _ m a t⟩
end

/-! ### Operations -/
/-- An operation that yields something that reads as p. -/
def OpOk (C : Ctx) (o : Oper) (ρ : Env) (L : List OB) (p : VP) (L' : List OB) : Prop :=
  ∀ m w a, Sat C m w L → Has C.N m a ρ → ∀ (next : Act → World → Prop) (Q : Exit → Act → World → Prop),
    (∀ m' w' v, Mem.le m m' → Sat C m' w' L' → p.p m' v → next (a.put o.dst v) w') → o.wp C.P a w next Q
/-- Is the operation wanted? -/
def Run (ops : Array Oper) (ρ : Env) (o : Oper) : Prop := ∀ N m a, Has N m a ρ → Region.wanted o (yielded ops a.tmps) = true
def VP.tt : VP := ⟨fun _ _ => True, fun _ _ => trivial⟩

section
variable {C : Ctx} {Q : Exit → Act → World → Prop} {ρ : Env} {L L' : List OB} {ops : Array Oper} {rest : List Oper}
theorem Run.n {dst : Option Tmp} {op : Op} {ty : TypeId} {pos : String} {after : Array Edge} : Run ops ρ ⟨dst, op, ty, pos, after, none⟩ := fun N m a t => by simp [Region.wanted]
theorem getD_bool {tmps : Array Value} {t : Nat} {b : Bool} (h : tmps.getD t undef = .bool b) : tmps[t]? = some (.bool b) := by
  rw [Array.getD_eq_getD_getElem?] at h
  cases hh : tmps[t]? with
  | none => rw [hh] at h; cases h
  | some v => rw [hh] at h; simp at h; rw [h]
theorem yields_of {N : Nat} {m : Mem} {a : Act} {j t : Nat} {b : Bool} (h : Has N m a ρ) (hj : (ops[j]?).bind (·.dst) = some t) (e : ρ.get t = some (kBool.is b)) : yielded ops a.tmps j = some b := by
  obtain ⟨cs, h1, h2⟩ := h.get t _ e
  have h3 : a.tmps.getD t undef = .bool b := by rw [h1, h2]; rfl
  simp [yielded, hj, getD_bool h3]
theorem Run.g {dst : Option Tmp} {op : Op} {ty : TypeId} {pos : String} {after : Array Edge} {j t : Nat} {b : Bool} (hj : (ops[j]?).bind (·.dst) = some t) (e : ρ.get t = some (kBool.is b)) : Run ops ρ ⟨dst, op, ty, pos, after, some (j, b)⟩ := fun N m a h => by
  simp [Region.wanted, yields_of h hj e]
/-- One operation, its slot told. -/
theorem WP.s {d : Tmp} {op : Op} {ty : TypeId} {pos : String} {after : Array Edge} {g : Option (Nat × Bool)} {p : VP} (hr : Run ops ρ ⟨some d, op, ty, pos, after, g⟩) (ho : OpOk C ⟨some d, op, ty, pos, after, g⟩ ρ L p L') (h : WP C ops Q rest ((d, p) :: ρ) L') (hd : Nat.blt d C.N = true := by rfl) : WP C ops Q (⟨some d, op, ty, pos, after, g⟩ :: rest) ρ L := fun m w a s t => by
  unfold wpList
  rw [if_pos (hr _ m a t)]
  exact .inl (ho m w a s t _ _ fun m' w' v hm s' hp => h m' w' _ s' ((t.up hm).put hp hd))
/-- One operation without a slot. -/
theorem WP.t {op : Op} {ty : TypeId} {pos : String} {after : Array Edge} {g : Option (Nat × Bool)} {p : VP} (hr : Run ops ρ ⟨none, op, ty, pos, after, g⟩) (ho : OpOk C ⟨none, op, ty, pos, after, g⟩ ρ L p L') (h : WP C ops Q rest ρ L') : WP C ops Q (⟨none, op, ty, pos, after, g⟩ :: rest) ρ L := fun m w a s t => by
  unfold wpList
  rw [if_pos (hr _ m a t)]
  exact .inl (ho m w a s t _ _ fun m' w' v hm s' hp => h m' w' _ s' (t.up hm))
/-- An operation that is not wanted. -/
theorem WP.k {d : Tmp} {op : Op} {ty : TypeId} {pos : String} {after : Array Edge} {j t : Nat} {b : Bool} (hj : (ops[j]?).bind (·.dst) = some t) (e : ρ.get t = some (kBool.is b)) (h : WP C ops Q rest ((d, VP.tt) :: ρ) L) (hd : Nat.blt d C.N = true := by rfl) : WP C ops Q (⟨some d, op, ty, pos, after, some (j, !b)⟩ :: rest) ρ L := fun m w a s t => by
  unfold wpList
  rw [if_neg (by simp [Region.wanted, yields_of t hj e])]
  exact h m w _ s (t.put trivial hd)
theorem WP.k0 {op : Op} {ty : TypeId} {pos : String} {after : Array Edge} {j t : Nat} {b : Bool} (hj : (ops[j]?).bind (·.dst) = some t) (e : ρ.get t = some (kBool.is b)) (h : WP C ops Q rest ρ L) : WP C ops Q (⟨none, op, ty, pos, after, some (j, !b)⟩ :: rest) ρ L := fun m w a s t => by
  unfold wpList
  rw [if_neg (by simp [Region.wanted, yields_of t hj e])]
  exact h m w _ s t
/-- A test that guards: both ways. -/
theorem WP.split {l : List Oper} (i : Nat) {b : Bool} (e : ρ.get i = some (kBool.is b)) (ht : b = true → WP C ops Q l ((i, kBool.is true) :: ρ) L) (hf : b = false → WP C ops Q l ((i, kBool.is false) :: ρ) L) : WP C ops Q l ρ L := fun m w a s t => by
  cases b with
  | true => exact ht rfl m w a s ((Imp.cons e (fun _ _ _ h => h)) _ m a t)
  | false => exact hf rfl m w a s ((Imp.cons e (fun _ _ _ h => h)) _ m a t)
theorem WP.splitD {l : List Oper} (i : Nat) {p : Prop} [Decidable p] (e : ρ.get i = some (kBool.is (decide p))) (ht : p → WP C ops Q l ((i, kBool.is true) :: ρ) L) (hf : ¬ p → WP C ops Q l ((i, kBool.is false) :: ρ) L) : WP C ops Q l ρ L :=
  WP.split i e (fun h => ht (of_decide_eq_true h)) (fun h => hf (of_decide_eq_false h))

/-- An operation that only yields a value. -/
theorem OpOk.val {o : Oper} {p : VP} (h : ∀ m w a, Sat C m w L → Has C.N m a ρ → ∃ v, (execOp a.eval o).run C.P w = .ok (.value v) w ∧ p.p m v) : OpOk C o ρ L p L := fun m w a s t next Q k => by
  obtain ⟨v, h1, h2⟩ := h m w a s t
  unfold Oper.wp
  rw [h1]
  exact k m w v (Mem.le_refl m) s h2
theorem OpOk.valW {o : Oper} {p : VP} (h : ∀ m w a, Sat C m w L → Has C.N m a ρ → ∃ v w', (execOp a.eval o).run C.P w = .ok (.value v) w' ∧ Sat C m w' L' ∧ p.p m v) : OpOk C o ρ L p L' := fun m w a s t next Q k => by
  obtain ⟨v, w', h1, h2, h3⟩ := h m w a s t
  unfold Oper.wp
  rw [h1]
  exact k m w' v (Mem.le_refl m) h2 h3
theorem OpOk.skipW {o : Oper} (h : ∀ m w a, Sat C m w L → Has C.N m a ρ → ∃ w', (execOp a.eval o).run C.P w = .ok .skip w' ∧ Sat C m w' L') : OpOk C o ρ L VP.tt L' := fun m w a s t next Q k => by
  obtain ⟨w', h1, h2⟩ := h m w a s t
  unfold Oper.wp
  rw [h1]
  exact k m w' undef (Mem.le_refl m) h2 trivial
end

/-! ### Contracts -/
/-- The arguments read so. -/
def Args (m : Mem) : List Value → List VP → Prop
  | [], [] => True
  | v :: vs, p :: ps => p.p m v ∧ Args m vs ps
  | _, _ => False
theorem Args.up {m m' : Mem} (hm : Mem.le m m') : ∀ {vs : List Value} {ps : List VP}, Args m vs ps → Args m' vs ps
  | [], [], _ => trivial
  | _ :: _, p :: _, ⟨h, r⟩ => ⟨p.mono hm h, Args.up hm r⟩
def idsOf (L : List OB) : List Nat := L.flatMap (·.ids)
/-- Owned blocks that are handed in. -/
def Given (m : Mem) (w : World) (L : List OB) : Prop := (∀ b ∈ L, b.p m w ∧ ∀ g ∈ b.ids, m g = none ∧ g < w.heap.size) ∧ L.Pairwise (fun a b => ∀ g ∈ a.ids, g ∉ b.ids)
def Out (P : Program) (m : Mem) (w : World) (Li : List OB) (post : VP → List OB → Prop) : Ending → World → Prop := fun e w' =>
  ∃ m' v p Lo, e = .returned v ∧ Sat ⟨P, 0, m, w, idsOf Li⟩ m' w' Lo ∧ p.p m' v ∧ post p Lo
/-- What a function does: its arguments read as 'pre', the blocks Li are handed in; it returns something that reads as p, and the blocks Lo, as 'post' says. -/
def Con (P : Program) (f : FuncId) (pre : List VP) (Li : List OB) (post : VP → List OB → Prop) : Prop :=
  ∀ m w vs, Fits m w → Args m vs pre → Given m w Li → Calls P f vs.toArray w (Out P m w Li post)
/-- Plain: nothing is handed in or out. -/
def Fn (P : Program) (f : FuncId) (pre : List VP) (res : VP) : Prop := Con P f pre [] fun p Lo => p = res ∧ Lo = []
theorem Con.mono {P : Program} {f : FuncId} {pre : List VP} {Li : List OB} {post post' : VP → List OB → Prop} (h : Con P f pre Li post) (hp : ∀ p Lo, post p Lo → post' p Lo) : Con P f pre Li post' :=
  fun m w vs a b c => (h m w vs a b c).mono fun e w' ⟨m', v, p, Lo, h1, h2, h3, h4⟩ => ⟨m', v, p, Lo, h1, h2, h3, hp _ _ h4⟩

def FnOk (P : Program) (f : FuncId) : Prop := ∃ fn, P.funcs[f]? = some fn ∧ (fn.name == "runtime.NumGoroutine") = false ∧ fn.body.isNone = false

section
variable {C : Ctx} {Q : Exit → Act → World → Prop} {ρ : Env} {L L' : List OB}
/-- The operands read so. -/
def evs (ρ : Env) : List Operand → List VP → Prop
  | [], [] => True
  | x :: xs, p :: ps => (∃ q, ev ρ x = some q ∧ VP.le q p) ∧ evs ρ xs ps
  | _, _ => False
theorem evs.nil : evs ρ [] [] := trivial
theorem evs.c {x : Operand} {xs : List Operand} {p : VP} {ps : List VP} (h : ev ρ x = some p) (r : evs ρ xs ps) : evs ρ (x :: xs) (p :: ps) := ⟨⟨p, h, VP.le_refl p⟩, r⟩
theorem evs.l {x : Operand} {xs : List Operand} {p q : VP} {ps : List VP} (h : ev ρ x = some q) (hl : VP.le q p) (r : evs ρ xs ps) : evs ρ (x :: xs) (p :: ps) := ⟨⟨q, h, hl⟩, r⟩
theorem evs.args {N : Nat} {m : Mem} {a : Act} (t : Has N m a ρ) : ∀ {xs : List Operand} {ps : List VP}, evs ρ xs ps → Args m (xs.map a.eval) ps
  | [], [], _ => trivial
  | x :: xs, p :: ps, ⟨⟨q, h, l⟩, r⟩ => ⟨l _ _ (t.evl h), evs.args t r⟩

theorem Sat.after {m : Mem} {w : World} {Li : List OB} (s : Sat C m w (Li ++ L)) {P : Program} {m' : Mem} {w' : World} {Lo : List OB} (h : Sat ⟨P, 0, m, w, idsOf Li⟩ m' w' Lo) : Sat C m' w' (Lo ++ L) where
  le := Mem.le_trans s.le h.le
  fits := h.fits
  grow := s.grow.trans h.grow (fun g hg => by
    obtain ⟨b, hb, hg⟩ := List.mem_flatMap.1 hg
    exact ((s.own b (List.mem_append.2 (.inl hb))).2 g hg).2.1)
  fresh := fun i hi hx h0 => h.fresh i (Nat.lt_of_lt_of_le hi s.grow.size) (fun hg => by
    obtain ⟨b, hb, hg⟩ := List.mem_flatMap.1 hg
    rcases ((s.own b (List.mem_append.2 (.inl hb))).2 i hg).2.1 with h1 | h1
    · omega
    · exact hx h1) (s.fresh i hi hx h0)
  own := fun b hb => by
    rcases List.mem_append.1 hb with hb | hb
    · obtain ⟨h1, h2⟩ := h.own b hb
      refine ⟨h1, fun g hg => ?_⟩
      obtain ⟨a1, a2, a3⟩ := h2 g hg
      refine ⟨a1, ?_, a3⟩
      rcases a2 with a2 | a2
      · exact .inl (Nat.le_trans s.grow.size a2)
      · obtain ⟨c, hc, hg⟩ := List.mem_flatMap.1 a2
        exact ((s.own c (List.mem_append.2 (.inl hc))).2 g hg).2.1
    · obtain ⟨h1, h2⟩ := s.own b (List.mem_append.2 (.inr hb))
      have hap := (List.pairwise_append.1 s.apart).2.2
      refine ⟨b.mono h.le (fun g hg => h.grow.block g (h2 g hg).2.2 (fun hx => ?_)) h1, fun g hg => ?_⟩
      · obtain ⟨c, hc, hx⟩ := List.mem_flatMap.1 hx
        exact hap c hc b hb g hx hg
      · obtain ⟨a1, a2, a3⟩ := h2 g hg
        exact ⟨h.fresh g a3 (fun hx => by
          obtain ⟨c, hc, hx⟩ := List.mem_flatMap.1 hx
          exact hap c hc b hb g hx hg) a1, a2, Nat.lt_of_lt_of_le a3 h.grow.size⟩
  apart := by
    obtain ⟨p1, p2, p3⟩ := List.pairwise_append.1 s.apart
    refine List.pairwise_append.2 ⟨h.apart, p2, fun b hb c hc g hg hh => ?_⟩
    have hc' := (s.own c (List.mem_append.2 (.inr hc))).2 g hh
    rcases ((h.own b hb).2 g hg).2.1 with h1 | h1
    · have := hc'.2.2; exact absurd h1 (by simp; omega)
    · obtain ⟨d, hd, hx⟩ := List.mem_flatMap.1 h1
      exact p3 d hd c hc g hx hh
theorem Sat.given {m : Mem} {w : World} {Li : List OB} (s : Sat C m w (Li ++ L)) : Given m w Li :=
  ⟨fun b hb => by
    obtain ⟨h1, h2⟩ := s.own b (List.mem_append.2 (.inl hb))
    exact ⟨h1, fun g hg => ⟨(h2 g hg).1, (h2 g hg).2.2⟩⟩, (List.pairwise_append.1 s.apart).1⟩

/-- A call of a function by its contract. -/
theorem WP.call {ops : Array Oper} {rest : List Oper} {d : Tmp} {f : FuncId} {xs : List Operand} {tys : Array TypeId} {ty : TypeId} {pos : String} {after : Array Edge} {g : Option (Nat × Bool)}
    {pre : List VP} {Li : List OB} {post : VP → List OB → Prop}
    (hr : Run ops ρ ⟨some d, .call ⟨.value (.func f), xs.toArray, tys⟩, ty, pos, after, g⟩) (hf : FnOk C.P f) (ha : evs ρ xs pre) (hc : Con C.P f pre Li post)
    (h : ∀ p Lo, post p Lo → WP C ops Q rest ((d, p) :: ρ) (Lo ++ L)) (hd : Nat.blt d C.N = true := by rfl) :
    WP C ops Q (⟨some d, .call ⟨.value (.func f), xs.toArray, tys⟩, ty, pos, after, g⟩ :: rest) ρ (Li ++ L) := fun m w a s t => by
  obtain ⟨fn, f1, f2, f3⟩ := hf
  unfold wpList
  rw [if_pos (hr _ m a t)]
  refine .inl ?_
  unfold Oper.wp
  have hrun : (execOp a.eval ⟨some d, .call ⟨.value (.func f), xs.toArray, tys⟩, ty, pos, after, g⟩).run C.P w = .ok (.enter f (xs.map a.eval).toArray) w := by
    have f2' : ¬ (fn.name = "runtime.NumGoroutine") := by simpa using f2
    have f3' : ¬ (fn.body = none) := by cases hb : fn.body <;> simp_all
    have hev : a.eval (.func f) = .func (.func f) #[] #[] := rfl
    have hp : ∀ w, (program).run C.P w = .ok C.P w := fun _ => rfl
    simp [execOp, resolve, Deferred.ofValue, invoke, callFunc, hp, hev, f1, f2', f3']
  rw [hrun]
  refine (hc m w _ s.fits (evs.args t ha) s.given).mono ?_
  rintro e w' ⟨m', v, p, Lo, rfl, s', hp, hpost⟩
  exact h p Lo hpost m' w' _ (s.after s') ((t.up s'.le).put hp hd)
/-- A plain call. -/
theorem WP.f {ops : Array Oper} {rest : List Oper} {d : Tmp} {f : FuncId} {xs : List Operand} {tys : Array TypeId} {ty : TypeId} {pos : String} {after : Array Edge} {g : Option (Nat × Bool)}
    {pre : List VP} {res : VP}
    (hr : Run ops ρ ⟨some d, .call ⟨.value (.func f), xs.toArray, tys⟩, ty, pos, after, g⟩) (hf : FnOk C.P f) (ha : evs ρ xs pre) (hc : Fn C.P f pre res)
    (h : WP C ops Q rest ((d, res) :: ρ) L) (hd : Nat.blt d C.N = true := by rfl) :
    WP C ops Q (⟨some d, .call ⟨.value (.func f), xs.toArray, tys⟩, ty, pos, after, g⟩ :: rest) ρ L :=
  WP.call (Li := []) (L := L) hr hf ha hc (fun p Lo hp => by obtain ⟨rfl, rfl⟩ := hp; exact h) hd

/-! ### Entering and leaving -/
def env0 : Nat → List VP → Env
  | _, [] => []
  | n, p :: ps => (n, p) :: env0 (n + 1) ps
theorem env0_get : ∀ (ps : List VP) (n i : Nat) (p : VP), (env0 n ps).get i = some p → n ≤ i ∧ ps[i - n]? = some p
  | [], n, i, p, h => by cases h
  | q :: ps, n, i, p, h => by
    simp only [env0, Env.get] at h
    cases hb : Nat.beq n i with
    | true =>
      have := Nat.eq_of_beq_eq_true hb
      subst this
      simp only [hb, cond_true, Option.some.injEq] at h
      subst h
      simp
    | false =>
      simp only [hb, cond_false] at h
      obtain ⟨h1, h2⟩ := env0_get ps (n + 1) i p h
      refine ⟨by omega, ?_⟩
      rw [show i - n = i - (n + 1) + 1 from by omega, List.getElem?_cons_succ]
      exact h2
theorem Args.get {m : Mem} : ∀ {vs : List Value} {ps : List VP}, Args m vs ps → ∀ (i : Nat) (p : VP), ps[i]? = some p → ∃ v, vs[i]? = some v ∧ p.p m v
  | [], [], _, i, p, h => by simp at h
  | v :: vs, q :: ps, ⟨h1, h2⟩, 0, p, h => by simp at h; subst h; exact ⟨v, by simp, h1⟩
  | v :: vs, q :: ps, ⟨h1, h2⟩, i + 1, p, h => by simpa using Args.get h2 i p (by simpa using h)
theorem Args.length {m : Mem} : ∀ {vs : List Value} {ps : List VP}, Args m vs ps → vs.length = ps.length
  | [], [], _ => rfl
  | _ :: _, _ :: _, ⟨_, h⟩ => by simp [Args.length h]

theorem Con.enter {P : Program} {f : FuncId} {fn : Func} {c : Code} {pre : List VP} {Li : List OB} {post : VP → List OB → Prop} (hf : P.funcs[f]? = some fn) (hb : fn.body = some c) (hn : Nat.ble pre.length fn.ntmps = true)
    (h : ∀ m w, CW ⟨P, fn.ntmps, m, w, idsOf Li⟩ (bodyPost P fn (Out P m w Li post)) c (env0 0 pre) Li) : Con P f pre Li post := fun m w vs hfit ha hg => by
  have hl := ha.length
  have hn' : pre.length ≤ fn.ntmps := by simpa using hn
  refine calls_of_wp hf hb (h m w m w _ ⟨Mem.le_refl m, hfit, Grow.refl _ w, fun _ _ _ h => h, fun b hb => ?_, hg.2⟩ ⟨rfl, ?_, fun i p e => ?_⟩)
  · obtain ⟨h1, h2⟩ := hg.1 b hb
    exact ⟨h1, fun g hg => ⟨(h2 g hg).1, .inr (List.mem_flatMap.2 ⟨b, hb, hg⟩), (h2 g hg).2⟩⟩
  · simp [hl]; omega
  · obtain ⟨h1, h2⟩ := env0_get pre 0 i p e
    obtain ⟨v, h3, h4⟩ := ha.get i p (by simpa using h2)
    have hi : i < vs.length := (List.getElem?_eq_some_iff.1 h3).1
    have hv : (vs.toArray ++ Array.replicate (fn.ntmps - vs.toArray.size) undef).getD i undef = v := by
      rw [Array.getD_eq_getD_getElem?, Array.getElem?_append_left (by simpa using hi)]
      simp [h3]
    rw [hv]
    exact h4

/-- The type of a variable: an aggregate or not, its cells. -/
def TyOk (P : Program) (ty : TypeId) (agg : Bool) (sz : Nat) : Prop := ∃ d, P.underlying ty = some d ∧ (match d with | .struct _ | .array _ _ => true | _ => false) = agg ∧ (P.info? ty).map (·.size) = some sz

theorem run_isAgg {P : Program} {ty : TypeId} {agg : Bool} {sz : Nat} (h : TyOk P ty agg sz) (w : World) : (isAgg ty).run P w = .ok agg w := by
  obtain ⟨d, h1, h2, h3⟩ := h
  cases d <;> simp_all [isAgg, run_underlying h1]
theorem run_sizeOf {P : Program} {ty : TypeId} {agg : Bool} {sz : Nat} (h : TyOk P ty agg sz) (w : World) : (Go.sizeOf ty).run P w = .ok sz w := by
  obtain ⟨d, h1, h2, h3⟩ := h
  cases hi : P.info? ty with
  | none => simp [hi] at h3
  | some i => simp [hi] at h3; simp [Go.sizeOf, typeInfo, hi, h3]
/-- A variable at a place whose cells are known. -/
theorem run_loadVar {P : Program} {ty : TypeId} {α : Type} {k : Kd α} {m : Mem} {cs : List Value} {x : α} (h : TyOk P ty k.agg k.sz) (w : World) (g o : Nat) (hk : k.at' m cs x) (hc : ∀ j v, cs[j]? = some v → w.cell? ⟨g, o + j, none⟩ = some v) : (loadVar ty ⟨g, o, none⟩).run P w = .ok (k.val cs) w := by
  have hl := k.len hk
  have hc' : ∀ j v, cs[j]? = some v → w.cell? ((⟨g, o, none⟩ : Addr).add j) = some v := fun j v hj => by rw [Addr.add_lit]; exact hc j v hj
  have hr := run_loadCells_list (P := P) w ⟨g, o, none⟩ cs hc'
  rw [hl] at hr
  unfold loadVar Kd.val
  cases ha : k.agg with
  | true =>
    rw [ha] at h
    simp [run_isAgg h, run_sizeOf h, hr]
  | false =>
    rw [ha] at h
    have h1 := k.one ha
    match cs, hl with
    | [c], _ =>
      have := hc 0 c (by simp)
      simp at this
      simp [run_isAgg h, load, Sem.run, this]
    | [], hl => simp at hl; omega
    | a :: b :: r, hl => simp at hl; omega
theorem run_storeVar {P : Program} {ty : TypeId} {agg : Bool} {α : Type} {k : Kd α} {m : Mem} {cs : List Value} {x : α} (h : TyOk P ty agg k.sz) (w : World) (g o : Nat) (e : TypeId) (A : Array Value) (hg : w.heap[g]? = some (.cells A e (0, 0))) (hk : k.at' m cs x) (ho : o + k.sz ≤ A.size) :
    (storeVar ty ⟨g, o, none⟩ (k.val cs)).run P w = .ok () (w.setRow g (A.toList.take o ++ cs ++ A.toList.drop (o + k.sz)).toArray) := by
  have hl := k.len hk
  have hst := run_storeCells_at P g o e cs 0 A w hg (by simpa [hl] using ho) (k.flat hk)
  simp only [Nat.add_zero, hl] at hst
  simp [storeVar, run_sizeOf h, k.cells_val hk, hl, hst]

/-- The results read so. -/
def ResOk (C : Ctx) (ρ : Env) (L : List OB) : List ResultVar → List VP → Prop
  | [], [] => True
  | .tmp t :: r, p :: ps => (∃ q, ρ.get t = some q ∧ VP.le q p) ∧ ResOk C ρ L r ps
  | .cell t ty :: r, p :: ps => (∃ (α : Type) (k : Kd α) (x : α) (g : Nat) (e : TypeId), ρ.get t = some (VP.ex (.pointer (some ⟨g, 0, none⟩))) ∧ OB.box g e k x ∈ L ∧ TyOk C.P ty k.agg k.sz ∧ VP.le (k.is x) p) ∧ ResOk C ρ L r ps
  | _, _ => False
theorem ResOk.nil : ResOk C ρ L [] [] := trivial
theorem ResOk.t {t : Tmp} {r : List ResultVar} {p : VP} {ps : List VP} (h : ρ.get t = some p) (k : ResOk C ρ L r ps) : ResOk C ρ L (.tmp t :: r) (p :: ps) := ⟨⟨p, h, VP.le_refl p⟩, k⟩
theorem ResOk.tl {t : Tmp} {r : List ResultVar} {p q : VP} {ps : List VP} (h : ρ.get t = some q) (l : VP.le q p) (k : ResOk C ρ L r ps) : ResOk C ρ L (.tmp t :: r) (p :: ps) := ⟨⟨q, h, l⟩, k⟩
theorem ResOk.c {t : Tmp} {ty : TypeId} {r : List ResultVar} {ps : List VP} {α : Type} {k : Kd α} {x : α} {g : Nat} {e : TypeId} (h : ρ.get t = some (VP.ex (.pointer (some ⟨g, 0, none⟩)))) (hj : OB.box g e k x ∈ L) (ht : TyOk C.P ty k.agg k.sz) (rk : ResOk C ρ L r ps) : ResOk C ρ L (.cell t ty :: r) (k.is x :: ps) :=
  ⟨⟨α, k, x, g, e, h, hj, ht, VP.le_refl _⟩, rk⟩
theorem ResOk.cl {t : Tmp} {ty : TypeId} {r : List ResultVar} {p : VP} {ps : List VP} {α : Type} {k : Kd α} {x : α} {g : Nat} {e : TypeId} (h : ρ.get t = some (VP.ex (.pointer (some ⟨g, 0, none⟩)))) (hj : OB.box g e k x ∈ L) (ht : TyOk C.P ty k.agg k.sz) (hl : VP.le (k.is x) p) (rk : ResOk C ρ L r ps) : ResOk C ρ L (.cell t ty :: r) (p :: ps) :=
  ⟨⟨α, k, x, g, e, h, hj, ht, hl⟩, rk⟩

def resultOf (tmps : Array Value) : ResultVar → Sem Value
  | .tmp t => pure (tmps.getD t undef)
  | .cell a t => do loadVar t (← asAddr (tmps.getD a undef))
theorem ResOk.run {m : Mem} {w : World} {a : Act} (s : Sat C m w L) (t : Has C.N m a ρ) : ∀ {rs : List ResultVar} {ps : List VP}, ResOk C ρ L rs ps → ∃ vs, (rs.mapM (resultOf a.tmps)).run C.P w = .ok vs w ∧ Args m vs ps
  | [], [], _ => ⟨[], rfl, trivial⟩
  | .tmp u :: r, p :: ps, ⟨⟨q, h, l⟩, k⟩ => by
    obtain ⟨vs, h1, h2⟩ := ResOk.run s t k
    exact ⟨_ :: vs, by simp only [List.mapM_cons, resultOf]; simp [h1], l _ _ (t.get u q h), h2⟩
  | .cell u ty :: r, p :: ps, ⟨⟨α, k, x, g, e, h, hL, ht, hl⟩, rk⟩ => by
    obtain ⟨vs, h1, h2⟩ := ResOk.run s t rk
    obtain ⟨A, hA, hk⟩ := (s.own _ hL).1
    have hp : a.tmps.getD u undef = .pointer (some ⟨g, 0, none⟩) := t.get u _ h
    have hload := run_loadVar (P := C.P) ht w g 0 hk (fun j v hj => by rw [Nat.zero_add, World.cell?, hA]; simpa using hj)
    have hr : (resultOf a.tmps (.cell u ty)).run C.P w = .ok (k.val A.toList) w := by
      simp only [resultOf, hp]
      simp [asAddr, hload]
    exact ⟨_ :: vs, by simp only [List.mapM_cons]; simp [hr, h1], hl _ _ ⟨_, rfl, hk⟩, h2⟩
def oneOr : List Value → Value
  | [v] => v
  | vs => .tuple vs.toArray
theorem run_results {P : Program} {fn : Func} {rs : List ResultVar} (h : fn.results = rs.toArray) (tmps : Array Value) {w : World} {vs : List Value} (hr : (rs.mapM (resultOf tmps)).run P w = .ok vs w) : (results fn tmps).run P w = .ok (oneOr vs) w := by
  have h0 : (results fn tmps) = (do let vs ← rs.toArray.mapM (resultOf tmps); pure (if h : vs.size = 1 then vs[0] else .tuple vs)) := by
    unfold results
    rw [h]
    rfl
  rw [h0, List.mapM_toArray]
  simp only [bind_map_left, Sem.run_bind, hr, Result.andThen_ok]
  match vs with
  | [] => rfl
  | [v] => rfl
  | v :: u :: r => simp [oneOr]

/-- Several results. -/
def VP.tup (ps : List VP) : VP := ⟨fun m v => ∃ vs : List Value, v = .tuple vs.toArray ∧ Args m vs ps, by rintro m m' v hm ⟨vs, e, h⟩; exact ⟨vs, e, h.up hm⟩⟩
def resVP : List VP → VP
  | [p] => p
  | ps => VP.tup ps
theorem QE.done {P : Program} {fn : Func} {m0 : Mem} {w0 : World} {N : Nat} {Li Lo : List OB} {post : VP → List OB → Prop} {rs : List ResultVar} {ps : List VP} {e : Exit} (he : e = .ret ∨ e = .normal) (h : fn.results = rs.toArray) (hr : ResOk ⟨P, N, m0, w0, idsOf Li⟩ ρ L rs ps) (ho : OImp ⟨P, N, m0, w0, idsOf Li⟩ L Lo) (hp : post (resVP ps) Lo) :
    QE ⟨P, N, m0, w0, idsOf Li⟩ (bodyPost P fn (Out P m0 w0 Li post)) e ρ L := fun m w a s t => by
  obtain ⟨vs, h1, h2⟩ := hr.run s t
  have h3 := run_results h a.tmps h1
  have s' := ho m w s
  have hout : Out P m0 w0 Li post (.returned (oneOr vs)) w := by
    refine ⟨m, _, resVP ps, Lo, rfl, ⟨s'.le, s'.fits, s'.grow, s'.fresh, s'.own, s'.apart⟩, ?_, hp⟩
    match vs, ps, h2 with
    | [], [], h2 => exact ⟨[], rfl, trivial⟩
    | [v], [p], h2 => exact h2.1
    | v :: u :: r, p :: q :: l, h2 => exact ⟨_, rfl, h2⟩
  rcases he with rfl | rfl
  · exact ⟨t.defers, _, h3, hout⟩
  · exact ⟨t.defers, _, h3, hout⟩
end
end Fw
