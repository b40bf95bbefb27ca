/- Frame, facts and contracts for QuadClasses. -/
import Derived.Test.YtgbafijcklgajaaCQuadClassesA
import Derived.Test.YtgbafijcklgajaaProg
import Derived.Test.YtgbafijcklgajaaRows
import Derived.ProofKit
import Derived.OpenShut
import Derived.JoinedCond
import Derived.Carry
/- The frame of the walks: variables that are only read from now on; function values. -/
set_option linter.unusedVariables false
set_option linter.unusedSimpArgs false
namespace Fw
open Go

section
variable {C : Ctx} {Q : Exit → Act → World → Prop} {ρ ρ' : Env} {L L' : List OB} {ops : Array Oper} {rest : List Oper}
  {dst : Option Tmp} {ty : TypeId} {pos : String} {after : Array Edge} {g : Option (Nat × Bool)}
/-- A variable is told as read-only from now on. -/
theorem ST.freezeb {α : Type} {K : Act → World → Prop} {k : Kd α} {x : α} {b : Nat} {e : TypeId} (j : Nat) (hj : L[j]? = some (OB.box b e k x)) (hi : FImp (.pointer (some ⟨b, 0, none⟩)) (VP.pim k x) ρ ρ') (h : ST C K ρ' (L.eraseIdx j)) : ST C K ρ L := fun m w a s t => by
  obtain ⟨A, hA, hk⟩ := box_cells s (List.mem_of_getElem? hj)
  have hsplit : A.toList = A.toList ++ [] := by simp
  obtain ⟨h1, h2⟩ := s.free hj (i := b) (by simp [OB.box]) hA hsplit
  refine h _ w a h2 (hi _ _ a ⟨b, 0, A.toList, A.toList, rfl, by simp [Mem.add], ⟨[], [], by simp, rfl⟩, k.mono h1 hk⟩ (t.up h1))
/-- x[:h] of an array that is only read. -/
theorem O.slA {α : Type} {k : Kd α} {xs : List α} {x y : Operand} {kj : IntKind} {n' : Int} {T e : TypeId} {n : Nat} {agg : Bool} (h : Nat) (hx : ev ρ x = some (VP.pim (kArr n k) xs)) (hy : ev ρ y = some ((kInt kj).is n')) (hu : C.P.underlying T = some (.array n e)) (ht : TyOk C.P e agg k.sz) (hn : n' = h) (hle : h ≤ n) (hbig : n ≤ 1099511627776) : OpOk C ⟨dst, .slice T x none (some y) none, ty, pos, after, g⟩ ρ L ((kSl k).is (xs.take h)) L := OpOk.val fun m w f s t => by
  subst hn
  obtain ⟨b, o, c, cells, e1, e2, e3, hl, e4⟩ := t.evl hx
  have hb : (Instr.sliceBounds false n n none (some (.int kj (h : Int))) none).run C.P w = .ok (0, h, n) w := by
    simp [Instr.sliceBounds, run_bound (P := C.P) w kj h n _ hle]
  have := sl_cut (k := k) (m := m) (a := some ⟨b, o, none⟩) (cap := n) (l := 0) (h := h) (mx := n) (xs := xs) (by omega) (by omega) (.inr ⟨b, o, c, cells, rfl, e2, e3, e4⟩) (Nat.zero_le _) (by omega) (by omega)
  rw [List.drop_zero] at this
  have hv : (if n = 0 then (some ⟨b, o, none⟩ : Option Addr) else (some ⟨b, o, none⟩ : Option Addr).map (·.add (0 * k.sz))) = some (if n = 0 then ⟨b, o, none⟩ else (⟨b, o, none⟩ : Addr).add (0 * k.sz)) := by split <;> rfl
  rw [hv] at this
  refine ⟨_, ?_, this⟩
  have hs := run_sizeOf ht w
  simp only [execOp, e1, t.int hy, Instr.sliceAt, Sem.run_bind, run_underlying hu, Option.map_some, Option.map_none, Instr.sureAddr, Sem.run_pure, Result.andThen_ok, hb, hs]
end

/-! ### Orders that come to the same -/
section
variable {C : Ctx} {Q : Exit → Act → World → Prop} {ρ ρ' : Env} {L L' : List OB}
def JoinAt (C : Ctx) (ρ' : Env) (L' : List OB) (a : Act) (w : World) : Prop := ∃ m, Sat C m w L' ∧ Has C.N m a ρ'
theorem CW.join {c : Code} (ρ' : Env) (L' : List OB) (h : CW C (Kx (JoinAt C ρ' L') Q) c ρ L) (k : QE C Q .normal ρ' L') : CW C Q c ρ L := fun m w a s t =>
  Code.wp_mono (fun e a w he => by
    cases e with
    | normal => obtain ⟨m, s, t⟩ := he; exact k m w a s t
    | _ => exact he) (h m w a s t)
theorem QE.join (hi : Imp ρ ρ') (ho : OImp C L L') : QE C (Kx (JoinAt C ρ' L') Q) .normal ρ L := fun m w a s t => ⟨m, ho m w s, hi _ m a t⟩
end
end Fw

/- The frame of the walks: loops and cuts with seven or eight numbers. -/
set_option linter.unusedVariables false
set_option linter.unusedSimpArgs false
namespace Fw
open Go

section
variable {C : Ctx} {Q : Exit → Act → World → Prop} {ρ : Env} {L : List OB}
def Round7 (C : Ctx) {ι1 ι2 ι3 ι4 ι5 ι6 ι7 : Type} (R : ι1 → ι2 → ι3 → ι4 → ι5 → ι6 → ι7 → Prop) (I : ι1 → ι2 → ι3 → ι4 → ι5 → ι6 → ι7 → Env) (O : ι1 → ι2 → ι3 → ι4 → ι5 → ι6 → ι7 → List OB) (μ : ι1 → ι2 → ι3 → ι4 → ι5 → ι6 → ι7 → Nat) (n : Nat) (a : Act) (w : World) : Prop := ∃ x1 x2 x3 x4 x5 x6 x7 m, μ x1 x2 x3 x4 x5 x6 x7 < n ∧ R x1 x2 x3 x4 x5 x6 x7 ∧ Sat C m w (O x1 x2 x3 x4 x5 x6 x7) ∧ Has C.N m a (I x1 x2 x3 x4 x5 x6 x7)
theorem CW.loop7 {c : Code} {ι1 ι2 ι3 ι4 ι5 ι6 ι7 : Type} (R : ι1 → ι2 → ι3 → ι4 → ι5 → ι6 → ι7 → Prop) (I : ι1 → ι2 → ι3 → ι4 → ι5 → ι6 → ι7 → Env) (O : ι1 → ι2 → ι3 → ι4 → ι5 → ι6 → ι7 → List OB) (μ : ι1 → ι2 → ι3 → ι4 → ι5 → ι6 → ι7 → Nat) (x1 : ι1) (x2 : ι2) (x3 : ι3) (x4 : ι4) (x5 : ι5) (x6 : ι6) (x7 : ι7) (r : R x1 x2 x3 x4 x5 x6 x7) (hi : Imp ρ (I x1 x2 x3 x4 x5 x6 x7)) (ho : OImp C L (O x1 x2 x3 x4 x5 x6 x7))
    (round : ∀ x1 x2 x3 x4 x5 x6 x7, R x1 x2 x3 x4 x5 x6 x7 → CW C (Exit.then (Round7 C R I O μ (μ x1 x2 x3 x4 x5 x6 x7)) Q) c (I x1 x2 x3 x4 x5 x6 x7) (O x1 x2 x3 x4 x5 x6 x7)) : CW C Q (.loop c) ρ L := fun m w a s t =>
  wp_loop_ghost (fun n a w => ∃ x1 x2 x3 x4 x5 x6 x7 m, μ x1 x2 x3 x4 x5 x6 x7 = n ∧ R x1 x2 x3 x4 x5 x6 x7 ∧ Sat C m w (O x1 x2 x3 x4 x5 x6 x7) ∧ Has C.N m a (I x1 x2 x3 x4 x5 x6 x7)) (μ x1 x2 x3 x4 x5 x6 x7) ⟨x1, x2, x3, x4, x5, x6, x7, m, rfl, r, ho m w s, hi _ m a t⟩ fun n a w ⟨x1, x2, x3, x4, x5, x6, x7, m, hn, r, s, t⟩ => by
    subst hn
    refine wp_mono (round x1 x2 x3 x4 x5 x6 x7 r m w a s t) fun e a w q => ?_
    cases e with
    | normal => obtain ⟨x1, x2, x3, x4, x5, x6, x7, m, hlt, r, s, t⟩ := q; exact ⟨μ x1 x2 x3 x4 x5 x6 x7, hlt, x1, x2, x3, x4, x5, x6, x7, m, rfl, r, s, t⟩
    | _ => exact q
theorem QE.round7 {ι1 ι2 ι3 ι4 ι5 ι6 ι7 : Type} {R : ι1 → ι2 → ι3 → ι4 → ι5 → ι6 → ι7 → Prop} {I : ι1 → ι2 → ι3 → ι4 → ι5 → ι6 → ι7 → Env} {O : ι1 → ι2 → ι3 → ι4 → ι5 → ι6 → ι7 → List OB} {μ : ι1 → ι2 → ι3 → ι4 → ι5 → ι6 → ι7 → Nat} {n : Nat} (x1 : ι1) (x2 : ι2) (x3 : ι3) (x4 : ι4) (x5 : ι5) (x6 : ι6) (x7 : ι7) (hlt : μ x1 x2 x3 x4 x5 x6 x7 < n) (r : R x1 x2 x3 x4 x5 x6 x7) (hi : Imp ρ (I x1 x2 x3 x4 x5 x6 x7)) (ho : OImp C L (O x1 x2 x3 x4 x5 x6 x7)) : QE C (Exit.then (Round7 C R I O μ n) Q) .normal ρ L := fun m w a s t => ⟨x1, x2, x3, x4, x5, x6, x7, m, hlt, r, ho m w s, hi _ m a t⟩
def Round8 (C : Ctx) {ι1 ι2 ι3 ι4 ι5 ι6 ι7 ι8 : Type} (R : ι1 → ι2 → ι3 → ι4 → ι5 → ι6 → ι7 → ι8 → Prop) (I : ι1 → ι2 → ι3 → ι4 → ι5 → ι6 → ι7 → ι8 → Env) (O : ι1 → ι2 → ι3 → ι4 → ι5 → ι6 → ι7 → ι8 → List OB) (μ : ι1 → ι2 → ι3 → ι4 → ι5 → ι6 → ι7 → ι8 → Nat) (n : Nat) (a : Act) (w : World) : Prop := ∃ x1 x2 x3 x4 x5 x6 x7 x8 m, μ x1 x2 x3 x4 x5 x6 x7 x8 < n ∧ R x1 x2 x3 x4 x5 x6 x7 x8 ∧ Sat C m w (O x1 x2 x3 x4 x5 x6 x7 x8) ∧ Has C.N m a (I x1 x2 x3 x4 x5 x6 x7 x8)
theorem CW.loop8 {c : Code} {ι1 ι2 ι3 ι4 ι5 ι6 ι7 ι8 : Type} (R : ι1 → ι2 → ι3 → ι4 → ι5 → ι6 → ι7 → ι8 → Prop) (I : ι1 → ι2 → ι3 → ι4 → ι5 → ι6 → ι7 → ι8 → Env) (O : ι1 → ι2 → ι3 → ι4 → ι5 → ι6 → ι7 → ι8 → List OB) (μ : ι1 → ι2 → ι3 → ι4 → ι5 → ι6 → ι7 → ι8 → Nat) (x1 : ι1) (x2 : ι2) (x3 : ι3) (x4 : ι4) (x5 : ι5) (x6 : ι6) (x7 : ι7) (x8 : ι8) (r : R x1 x2 x3 x4 x5 x6 x7 x8) (hi : Imp ρ (I x1 x2 x3 x4 x5 x6 x7 x8)) (ho : OImp C L (O x1 x2 x3 x4 x5 x6 x7 x8))
    (round : ∀ x1 x2 x3 x4 x5 x6 x7 x8, R x1 x2 x3 x4 x5 x6 x7 x8 → CW C (Exit.then (Round8 C R I O μ (μ x1 x2 x3 x4 x5 x6 x7 x8)) Q) c (I x1 x2 x3 x4 x5 x6 x7 x8) (O x1 x2 x3 x4 x5 x6 x7 x8)) : CW C Q (.loop c) ρ L := fun m w a s t =>
  wp_loop_ghost (fun n a w => ∃ x1 x2 x3 x4 x5 x6 x7 x8 m, μ x1 x2 x3 x4 x5 x6 x7 x8 = n ∧ R x1 x2 x3 x4 x5 x6 x7 x8 ∧ Sat C m w (O x1 x2 x3 x4 x5 x6 x7 x8) ∧ Has C.N m a (I x1 x2 x3 x4 x5 x6 x7 x8)) (μ x1 x2 x3 x4 x5 x6 x7 x8) ⟨x1, x2, x3, x4, x5, x6, x7, x8, m, rfl, r, ho m w s, hi _ m a t⟩ fun n a w ⟨x1, x2, x3, x4, x5, x6, x7, x8, m, hn, r, s, t⟩ => by
    subst hn
    refine wp_mono (round x1 x2 x3 x4 x5 x6 x7 x8 r m w a s t) fun e a w q => ?_
    cases e with
    | normal => obtain ⟨x1, x2, x3, x4, x5, x6, x7, x8, m, hlt, r, s, t⟩ := q; exact ⟨μ x1 x2 x3 x4 x5 x6 x7 x8, hlt, x1, x2, x3, x4, x5, x6, x7, x8, m, rfl, r, s, t⟩
    | _ => exact q
theorem QE.round8 {ι1 ι2 ι3 ι4 ι5 ι6 ι7 ι8 : Type} {R : ι1 → ι2 → ι3 → ι4 → ι5 → ι6 → ι7 → ι8 → Prop} {I : ι1 → ι2 → ι3 → ι4 → ι5 → ι6 → ι7 → ι8 → Env} {O : ι1 → ι2 → ι3 → ι4 → ι5 → ι6 → ι7 → ι8 → List OB} {μ : ι1 → ι2 → ι3 → ι4 → ι5 → ι6 → ι7 → ι8 → Nat} {n : Nat} (x1 : ι1) (x2 : ι2) (x3 : ι3) (x4 : ι4) (x5 : ι5) (x6 : ι6) (x7 : ι7) (x8 : ι8) (hlt : μ x1 x2 x3 x4 x5 x6 x7 x8 < n) (r : R x1 x2 x3 x4 x5 x6 x7 x8) (hi : Imp ρ (I x1 x2 x3 x4 x5 x6 x7 x8)) (ho : OImp C L (O x1 x2 x3 x4 x5 x6 x7 x8)) : QE C (Exit.then (Round8 C R I O μ n) Q) .normal ρ L := fun m w a s t => ⟨x1, x2, x3, x4, x5, x6, x7, x8, m, hlt, r, ho m w s, hi _ m a t⟩
end
end Fw

/- The frame of the walks: calls of a function value that is known, calls that only look at an owned slice, equal structs. -/
set_option linter.unusedVariables false
set_option linter.unusedSimpArgs false
namespace Fw
open Go

section
variable {C : Ctx} {Q : Exit → Act → World → Prop} {ρ : Env} {L L' : List OB} {ops : Array Oper} {rest : List Oper}
  {dst : Option Tmp} {ty : TypeId} {pos : String} {after : Array Edge} {g : Option (Nat × Bool)}
theorem run_callv {P : Program} {a : Act} {w : World} {f : FuncId} {x : Operand} {xs : List Operand} {tys : Array TypeId} (hf : FnOk P f) (hx : a.eval x = .func (.func f) #[] #[]) : (execOp a.eval ⟨dst, .call ⟨.value x, xs.toArray, tys⟩, ty, pos, after, g⟩).run P w = .ok (.enter f (xs.map a.eval).toArray) w := by
  obtain ⟨fn, f1, f2, f3⟩ := hf
  have f2' : ¬ (fn.name = "runtime.NumGoroutine") := by simpa using f2
  have f3' : ¬ (fn.body = none) := by cases hb : fn.body <;> simp_all
  have hp : ∀ w, (program).run P w = .ok P w := fun _ => rfl
  simp [execOp, resolve, Deferred.ofValue, invoke, callFunc, hp, hx, f1, f2', f3']
/-- A call of a function value that is known. -/
theorem O.fv {f : FuncId} {x : Operand} {xs : List Operand} {tys : Array TypeId} {pre : List VP} {res : VP} (hx : ev ρ x = some (VP.ex (.func (.func f) #[] #[]))) (hf : FnOk C.P f) (ha : evs ρ xs pre) (hc : Fn C.P f pre res) : OpOk C ⟨dst, .call ⟨.value x, xs.toArray, tys⟩, ty, pos, after, g⟩ ρ L res L := fun m w a s t next Q k => by
  unfold Oper.wp
  rw [run_callv hf (t.ex hx)]
  refine (hc m w _ s.fits (evs.args t ha) (Sat.given (Li := []) (L := L) s)).mono ?_
  rintro e w' ⟨m', v, p, Lo, rfl, s', hp, rfl, rfl⟩
  exact k m' w' v s'.le (Sat.after (Li := []) (Lo := []) s s') hp
/-- A call that looks at one owned block and leaves it as it is. -/
theorem O.fn1 {b : OB} {f : FuncId} {xs : List Operand} {tys : Array TypeId} {pre : List VP} {res : VP} (hb : b ∈ L) (hf : FnOk C.P f) (ha : evs ρ xs pre) (hc : Con C.P f pre [b] (fun p Lo => p = res ∧ Lo = [b] ∧ True)) : OpOk C ⟨dst, .call ⟨.value (.func f), xs.toArray, tys⟩, ty, pos, after, g⟩ ρ L res L := fun m w a s t next Q k => by
  obtain ⟨u, v, rfl⟩ := List.append_of_mem hb
  have hperm : (u ++ b :: v).Perm ([b] ++ (u ++ v)) := List.perm_middle
  have s1 : Sat C m w ([b] ++ (u ++ v)) := s.perm hperm.symm
  unfold Oper.wp
  rw [run_callv hf rfl]
  refine (hc m w _ s.fits (evs.args t ha) s1.given).mono ?_
  rintro e w' ⟨m', x, p, Lo, rfl, s', hp, rfl, rfl, _⟩
  exact k m' w' x s'.le ((Sat.after (L := u ++ v) s1 s').perm hperm) hp
/-- The types of three numbers are compared one by one. -/
def EqT (P : Program) (T : TypeId) : Prop := ∃ f1 f2 f3 : Field, P.underlying T = some (.struct #[f1, f2, f3]) ∧ P.underlying f1.type = some (.int .i64) ∧ P.underlying f2.type = some (.int .i64) ∧ P.underlying f3.type = some (.int .i64) ∧ f1.offset = 0 ∧ f2.offset = 1 ∧ f3.offset = 2 ∧ f1.name ≠ "_" ∧ f2.name ≠ "_" ∧ f3.name ≠ "_" ∧ P.stoodInHeld T = false ∧ P.eqGuardType P.depth T = false
theorem run_isAgg_int {P : Program} {t : TypeId} {k : IntKind} (h : P.underlying t = some (.int k)) (w : World) : (isAgg t).run P w = .ok false w := by
  simp [isAgg, run_underlying h]
theorem run_eq_int {P : Program} {t : TypeId} (h : P.underlying t = some (.int .i64)) (d : Nat) (x y : Int) (w : World) : (Op.equalIn (d + 1) t (.int .i64 x) (.int .i64 y)).run P w = .ok (x == y) w := by
  simp [Op.equalIn, run_underlying h]
theorem run_eqT' {P : Program} {T : TypeId} (h : EqT P T) (d : Nat) (a b c a' b' c' : Int) (w : World) : (Op.equalIn (d + 1 + 1) T (.agg #[.int .i64 a, .int .i64 b, .int .i64 c]) (.agg #[.int .i64 a', .int .i64 b', .int .i64 c'])).run P w = .ok (decide ((a, b, c) = (a', b', c'))) w := by
  obtain ⟨f1, f2, f3, h1, u1, u2, u3, o1, o2, o3, n1, n2, n3, hs, _⟩ := h
  have hp : ∀ w, (program).run P w = .ok P w := fun _ => rfl
  have q1 := fun x y => run_eq_int u1 d x y w
  have q2 := fun x y => run_eq_int u2 d x y w
  have q3 := fun x y => run_eq_int u3 d x y w
  rw [Op.equalIn]
  by_cases ha : a = a'
  · by_cases hb : b = b'
    · by_cases hc : c = c' <;>
        simp [run_underlying h1, hp, hs, n1, n2, n3, o1, o2, o3, part, run_isAgg_int u1, run_isAgg_int u2, run_isAgg_int u3, q1, q2, q3, ha, hb, hc]
    · simp [run_underlying h1, hp, hs, n1, n2, n3, o1, o2, o3, part, run_isAgg_int u1, run_isAgg_int u2, run_isAgg_int u3, q1, q2, q3, ha, hb]
  · simp [run_underlying h1, hp, hs, n1, n2, n3, o1, o2, o3, part, run_isAgg_int u1, run_isAgg_int u2, run_isAgg_int u3, q1, q2, q3, ha]
theorem run_eqT {P : Program} {T : TypeId} (h : EqT P T) (a b c a' b' c' : Int) (w : World) : (Op.equal T (.agg #[.int .i64 a, .int .i64 b, .int .i64 c]) (.agg #[.int .i64 a', .int .i64 b', .int .i64 c'])).run P w = .ok (decide ((a, b, c) = (a', b', c'))) w := run_eqT' h 9998 a b c a' b' c' w
abbrev kT : Kd (Int × Int × Int) := kPair kI64 (kPair kI64 kI64)
theorem kT_val {m : Mem} {v : Value} {x : Int × Int × Int} (h : (kT.is x).p m v) : v = .agg #[.int .i64 x.1, .int .i64 x.2.1, .int .i64 x.2.2] := by
  obtain ⟨cs, rfl, a, b, rfl, ⟨rfl, _⟩, c, d, rfl, ⟨rfl, _⟩, ⟨rfl, _⟩⟩ := h
  rfl
theorem O.eqT {x y : Operand} {T yt : TypeId} {p q : Int × Int × Int} (hx : ev ρ x = some (kT.is p)) (hy : ev ρ y = some (kT.is q)) (h : EqT C.P T) : OpOk C ⟨dst, .binOp .eql T x y yt, ty, pos, after, g⟩ ρ L (kBool.is (decide (p = q))) L := OpOk.val fun m w f s t => by
  refine ⟨.bool (decide (p = q)), ?_, bool_p ..⟩
  have e1 := kT_val (t.evl hx)
  have e2 := kT_val (t.evl hy)
  have hr := run_eqT h p.1 p.2.1 p.2.2 q.1 q.2.1 q.2.2 w
  have hg := h
  obtain ⟨f1, f2, f3, h1, u1, u2, u3, o1, o2, o3, n1, n2, n3, hs, hq⟩ := hg
  have hp : ∀ w, (program).run C.P w = .ok C.P w := fun _ => rfl
  simp only [execOp, e1, e2, eqGuard, binOp]
  have e : decide (p = q) = decide ((p.1, p.2.1, p.2.2) = (q.1, q.2.1, q.2.2)) := rfl
  rw [e]
  simp only [hp, hq, hr, Sem.run_bind, Result.andThen_ok]
  simp [hp, hq, hr]
end
theorem ST.rowlen {C : Ctx} {K : Act → World → Prop} {ρ : Env} {L : List OB} {α : Type} {k : Kd α} {v : Value} {e : TypeId} {xs : List α} (j : Nat) (hj : L[j]? = some (OB.row v e k xs)) (h : xs.length ≤ 1099511627776 → ST C K ρ L) : ST C K ρ L := fun m w a s t => by
  obtain ⟨cells, _, _, h3⟩ := (s.own _ (List.mem_of_getElem? hj)).1
  exact h h3 m w a s t
end Fw

/- Closed facts on types and functions. -/
set_option linter.unusedVariables false
set_option linter.unusedSimpArgs false
set_option exponentiation.threshold 70
namespace Fw
open Go Go.Proofs

theorem info121 : (Try.prog.info? 121).map (fun i => (i.zero, i.size, i.bytes)) = some (some (.int .u32 0), 1, 4) := by kernel_rfl
theorem ty121 : TyOk Try.prog 121 false 1 := ⟨_, Try.underlying121, rfl, by kernel_rfl⟩
theorem el121_limb : ElOk Try.prog 121 kLimb := elOk_of info121 rfl rfl rfl
theorem z121_limb : ZeroOk Try.prog 121 kLimb 0 := zeroOk_of info121 fun m => ⟨rfl, by decide⟩

end Fw


/- Closed facts on types and functions. -/
set_option linter.unusedVariables false
set_option linter.unusedSimpArgs false
set_option exponentiation.threshold 70
namespace Fw
open Go Go.Proofs

theorem info31 : (Try.prog.info? 31).map (fun i => (i.zero, i.size, i.bytes)) = some (some (.agg #[.bool false, .slice none 0 0]), 2, 32) := by kernel_rfl
theorem ty29 : TyOk Try.prog 29 false 1 := ⟨_, Try.underlying29, rfl, by kernel_rfl⟩
theorem ty31 : TyOk Try.prog 31 true 2 := ⟨_, Try.underlying31, rfl, by kernel_rfl⟩
theorem ty4 : TyOk Try.prog 4 false 1 := ⟨_, Try.underlying4, rfl, by kernel_rfl⟩
theorem fld31_0 : FldOk Try.prog 31 0 0 := fld_of (n := 0) (by kernel_rfl)
theorem fld31_1 : FldOk Try.prog 31 1 1 := fld_of (n := 0) (by kernel_rfl)
theorem fn147 : FnOk Try.prog 147 := ⟨_, Try.func147, by kernel_rfl, rfl⟩
theorem lit31_C : LitOk Try.prog 31 kC ([(0, 1), (1, 1)].toArray[·]?) 0 := lit_of info31 (by kernel_rfl) fun m => zero_C m
theorem lit31_I : LitOk Try.prog 31 kI ([(0, 1), (1, 1)].toArray[·]?) (false, []) := lit_of info31 (by kernel_rfl) fun m => zero_I m
theorem z31_C : ZeroOk Try.prog 31 kC 0 := zeroOk_of info31 fun m => zero_C m

end Fw


/- Closed facts on types and functions. -/
set_option linter.unusedVariables false
set_option linter.unusedSimpArgs false
set_option exponentiation.threshold 70
namespace Fw
open Go Go.Proofs

theorem fn152 : FnOk Try.prog 152 := ⟨_, Try.func152, by kernel_rfl, rfl⟩
theorem fn158 : FnOk Try.prog 158 := ⟨_, Try.func158, by kernel_rfl, rfl⟩
end Fw


/- Closed facts on types and functions. -/
set_option linter.unusedVariables false
set_option linter.unusedSimpArgs false
set_option exponentiation.threshold 70
namespace Fw
open Go Go.Proofs

theorem ty3 : TyOk Try.prog 3 false 1 := ⟨_, Try.underlying3, rfl, by kernel_rfl⟩
end Fw


/- Closed facts on types and functions. -/
set_option linter.unusedVariables false
set_option linter.unusedSimpArgs false
set_option exponentiation.threshold 70
namespace Fw
open Go Go.Proofs

theorem fn78 : FnOk Try.prog 78 := ⟨_, Try.func78, by kernel_rfl, rfl⟩
end Fw


/- Closed facts on types and functions. -/
set_option linter.unusedVariables false
set_option linter.unusedSimpArgs false
set_option exponentiation.threshold 70
namespace Fw
open Go Go.Proofs

end Fw


/- Closed facts on types and functions. -/
set_option linter.unusedVariables false
set_option linter.unusedSimpArgs false
set_option exponentiation.threshold 70
namespace Fw
open Go Go.Proofs

end Fw


/- Closed facts on types and functions. -/
set_option linter.unusedVariables false
set_option linter.unusedSimpArgs false
set_option exponentiation.threshold 70
namespace Fw
open Go Go.Proofs

theorem fn74 : FnOk Try.prog 74 := ⟨_, Try.func74, by kernel_rfl, rfl⟩

end Fw


/- Closed facts on types and functions. -/
set_option linter.unusedVariables false
set_option linter.unusedSimpArgs false
set_option exponentiation.threshold 70
namespace Fw
open Go Go.Proofs

end Fw


/- Closed facts on types and functions. -/
set_option linter.unusedVariables false
set_option linter.unusedSimpArgs false
set_option exponentiation.threshold 70
namespace Fw
open Go Go.Proofs

end Fw


/- Closed facts on types and functions. -/
set_option linter.unusedVariables false
set_option linter.unusedSimpArgs false
set_option exponentiation.threshold 70
namespace Fw
open Go Go.Proofs

end Fw


/- Closed facts on types and functions. -/
set_option linter.unusedVariables false
set_option linter.unusedSimpArgs false
set_option exponentiation.threshold 400
namespace Fw
open Go Go.Proofs

theorem info3 : (Try.prog.info? 3).map (fun i => (i.zero, i.size, i.bytes)) = some (some (.int .i64 0), 1, 8) := by kernel_rfl
theorem el3_int : ElOk Try.prog 3 kI64 := elOk_of info3 rfl rfl rfl
end Fw


/- Closed facts on types and functions. -/
set_option linter.unusedVariables false
set_option linter.unusedSimpArgs false
set_option exponentiation.threshold 400
namespace Fw
open Go Go.Proofs

end Fw


/- Closed facts on types and functions. -/
set_option linter.unusedVariables false
set_option linter.unusedSimpArgs false
set_option exponentiation.threshold 400
namespace Fw
open Go Go.Proofs

end Fw


/- Closed facts on types and functions. -/
set_option linter.unusedVariables false
set_option linter.unusedSimpArgs false
set_option exponentiation.threshold 400
namespace Fw
open Go Go.Proofs

end Fw


/- Closed facts on types and functions. -/
set_option linter.unusedVariables false
set_option linter.unusedSimpArgs false
set_option exponentiation.threshold 400
namespace Fw
open Go Go.Proofs

end Fw


/- Closed facts on types and functions. -/
set_option linter.unusedVariables false
set_option linter.unusedSimpArgs false
set_option exponentiation.threshold 400
namespace Fw
open Go Go.Proofs

end Fw


/- Closed facts on types and functions. -/
set_option linter.unusedVariables false
set_option linter.unusedSimpArgs false
set_option exponentiation.threshold 400
namespace Fw
open Go Go.Proofs

theorem info47 : (Try.prog.info? 47).map (fun i => (i.zero, i.size, i.bytes)) = some (some (.agg #[.bool false, .slice none 0 0, .bool false, .slice none 0 0, .bool false, .slice none 0 0]), 6, 96) := by kernel_rfl
theorem ty47 : TyOk Try.prog 47 true 6 := ⟨_, Try.underlying47, rfl, by kernel_rfl⟩
theorem fld47_0 : FldOk Try.prog 47 0 0 := fld_of (n := 1) (by kernel_rfl)
theorem fld47_1 : FldOk Try.prog 47 1 2 := fld_of (n := 1) (by kernel_rfl)
theorem fld47_2 : FldOk Try.prog 47 2 4 := fld_of (n := 1) (by kernel_rfl)
theorem lit47_pr_C_pr_C_C__ : LitOk Try.prog 47 (kPair kC (kPair kC kC)) ([(0, 2), (2, 2), (4, 2)].toArray[·]?) (0, (0, 0)) := lit_of info47 (by kernel_rfl) fun m => ⟨[.bool false, .slice none 0 0], [.bool false, .slice none 0 0, .bool false, .slice none 0 0], rfl, zero_C m, ⟨[.bool false, .slice none 0 0], [.bool false, .slice none 0 0], rfl, zero_C m, zero_C m⟩⟩
end Fw


/- Closed facts on types and functions. -/
set_option linter.unusedVariables false
set_option linter.unusedSimpArgs false
set_option exponentiation.threshold 400
namespace Fw
open Go Go.Proofs

theorem fn29 : FnOk Try.prog 29 := ⟨_, Try.func29, by kernel_rfl, rfl⟩
end Fw


/- Closed facts on types and functions. -/
set_option linter.unusedVariables false
set_option linter.unusedSimpArgs false
set_option exponentiation.threshold 400
namespace Fw
open Go Go.Proofs

theorem ty154 : TyOk Try.prog 154 true 3 := ⟨_, Try.underlying154, rfl, by kernel_rfl⟩
theorem eqT154 : EqT Try.prog 154 := ⟨_, _, _, Try.underlying154, Try.underlying3, Try.underlying3, Try.underlying3, rfl, rfl, rfl, by decide, by decide, by decide, by kernel_rfl, by kernel_rfl⟩
theorem fld154_0 : FldOk Try.prog 154 0 0 := fld_of (n := 0) (by kernel_rfl)
theorem fld154_1 : FldOk Try.prog 154 1 1 := fld_of (n := 0) (by kernel_rfl)
theorem fld154_2 : FldOk Try.prog 154 2 2 := fld_of (n := 0) (by kernel_rfl)
theorem fn129 : FnOk Try.prog 129 := ⟨_, Try.func129, by kernel_rfl, rfl⟩
theorem fn130 : FnOk Try.prog 130 := ⟨_, Try.func130, by kernel_rfl, rfl⟩
theorem fn131 : FnOk Try.prog 131 := ⟨_, Try.func131, by kernel_rfl, rfl⟩
theorem fn179 : FnOk Try.prog 179 := ⟨_, Try.func179, by kernel_rfl, rfl⟩
theorem fn180 : FnOk Try.prog 180 := ⟨_, Try.func180, by kernel_rfl, rfl⟩
theorem fn181 : FnOk Try.prog 181 := ⟨_, Try.func181, by kernel_rfl, rfl⟩
theorem fn182 : FnOk Try.prog 182 := ⟨_, Try.func182, by kernel_rfl, rfl⟩
theorem fn220 : FnOk Try.prog 220 := ⟨_, Try.func220, by kernel_rfl, rfl⟩
theorem fn223 : FnOk Try.prog 223 := ⟨_, Try.func223, by kernel_rfl, rfl⟩
theorem fn225 : FnOk Try.prog 225 := ⟨_, Try.func225, by kernel_rfl, rfl⟩
theorem fn228 : FnOk Try.prog 228 := ⟨_, Try.func228, by kernel_rfl, rfl⟩
theorem fn257 : FnOk Try.prog 257 := ⟨_, Try.func257, by kernel_rfl, rfl⟩
theorem fn258 : FnOk Try.prog 258 := ⟨_, Try.func258, by kernel_rfl, rfl⟩
theorem fn265 : FnOk Try.prog 265 := ⟨_, Try.func265, by kernel_rfl, rfl⟩
theorem z3_i64 : ZeroOk Try.prog 3 (kInt .i64) 0 := zeroOk_of info3 fun m => rfl

end Fw


/- Closed facts on types and functions. -/
set_option linter.unusedVariables false
set_option linter.unusedSimpArgs false
set_option exponentiation.threshold 400
namespace Fw
open Go Go.Proofs

theorem info154 : (Try.prog.info? 154).map (fun i => (i.zero, i.size, i.bytes)) = some (some (.agg #[.int .i64 0, .int .i64 0, .int .i64 0]), 3, 24) := by kernel_rfl
theorem el154_pr_int_pr_int_int__ : ElOk Try.prog 154 (kPair kI64 (kPair kI64 kI64)) := elOk_of info154 rfl rfl rfl
theorem el47_pr_C_pr_C_C__ : ElOk Try.prog 47 (kPair kC (kPair kC kC)) := elOk_of info47 rfl rfl rfl
theorem fn126 : FnOk Try.prog 126 := ⟨_, Try.func126, by kernel_rfl, rfl⟩
theorem fn127 : FnOk Try.prog 127 := ⟨_, Try.func127, by kernel_rfl, rfl⟩
theorem fn128 : FnOk Try.prog 128 := ⟨_, Try.func128, by kernel_rfl, rfl⟩
theorem fn132 : FnOk Try.prog 132 := ⟨_, Try.func132, by kernel_rfl, rfl⟩
theorem fn64 : FnOk Try.prog 64 := ⟨_, Try.func64, by kernel_rfl, rfl⟩
theorem fn65 : FnOk Try.prog 65 := ⟨_, Try.func65, by kernel_rfl, rfl⟩
theorem lit154_pr_int_pr_int_int__ : LitOk Try.prog 154 (kPair kI64 (kPair kI64 kI64)) ([(0, 1), (1, 1), (2, 1)].toArray[·]?) (0, (0, 0)) := lit_of info154 (by kernel_rfl) fun m => ⟨[.int .i64 0], [.int .i64 0, .int .i64 0], rfl, ⟨rfl, by decide, by decide⟩, ⟨[.int .i64 0], [.int .i64 0], rfl, ⟨rfl, by decide, by decide⟩, ⟨rfl, by decide, by decide⟩⟩⟩
theorem z154_pr_int_pr_int_int__ : ZeroOk Try.prog 154 (kPair kI64 (kPair kI64 kI64)) (0, (0, 0)) := zeroOk_of info154 fun m => ⟨[.int .i64 0], [.int .i64 0, .int .i64 0], rfl, ⟨rfl, by decide, by decide⟩, ⟨[.int .i64 0], [.int .i64 0], rfl, ⟨rfl, by decide, by decide⟩, ⟨rfl, by decide, by decide⟩⟩⟩

end Fw


/- How an argument's reading becomes a datum of the walks' frame; how a contract becomes a row's step. -/
set_option linter.unusedVariables false
set_option linter.unusedSimpArgs false
set_option exponentiation.threshold 70
namespace Fw
open Go Go.Proofs Go.ChangeShapes Go.WideShapes Go.RowKit
open Go.Proofs.Ytgbafijcklgajaa.Rows (uptoBulk uptoBulkAll)

def snap (w : World) : Mem := fun g => match w.heap[g]? with
  | some (.cells A _ _) => some A.toList
  | _ => none
theorem snap_fits (w : World) : Fits (snap w) w := fun g c h => by
  unfold snap at h
  split at h
  · rename_i A e f hA
    simp only [Option.some.injEq] at h
    subst h
    exact ⟨A, e, f, [], hA, by simp⟩
  · cases h
theorem snap_cell {w : World} {a : Addr} {v : Value} (h : w.cell? a = some v) : a = ⟨a.block, a.off, none⟩ ∧ ∃ c, snap w a.block = some c ∧ c[a.off]? = some v := by
  unfold World.cell? at h
  split at h
  · rename_i A e f hA
    split at h
    · cases h
    · rename_i hs
      refine ⟨?_, A.toList, by simp [snap, hA], by simpa using h⟩
      cases a with
      | mk b o s => cases s <;> simp_all
  · cases h

theorem bulk_one {H : Type} (d : DataW H) : 1 ≤ uptoBulk d := by
  cases d with
  | lit l => cases l <;> simp [uptoBulk]
  | nil => simp [uptoBulk]
  | ptr d => simp [uptoBulk]
  | slice elems spare => simp [uptoBulk]
  | agg parts => simp [uptoBulk]
  | iface t d => simp [uptoBulk]
  | map entries => simp [uptoBulk]
  | held h => simp [uptoBulk]
theorem bulk_mem {H : Type} {d : DataW H} {l : List (DataW H)} (h : d ∈ l) : uptoBulk d ≤ uptoBulkAll l := by
  induction l with
  | nil => cases h
  | cons x r ih =>
    simp only [uptoBulkAll]
    rcases List.mem_cons.1 h with e | e
    · subst e; omega
    · have := ih e; omega
theorem bulk_len {H : Type} (l : List (DataW H)) : l.length ≤ uptoBulkAll l := by
  induction l with
  | nil => simp [uptoBulkAll]
  | cons x r ih => have := bulk_one x; simp only [uptoBulkAll, List.length_cons]; omega

abbrev uptoN : Nat := 1048576
/-- What reads as a value of the type t reads as a datum of the kind k, and Q holds of it. -/
def Rd (P : Program) (t : TypeId) {α : Type} (k : Kd α) (Q : α → Prop) : Prop :=
  ∀ {H : Type} (enc : TypeId × Value → H) (w : World) (fuel : Nat) (cs : List Value) (d : DataW H) (ps : List MemPlace), DataW.trod enc P w 0 (fun _ => true) true fuel t cs = some (d, ps) → uptoBulk d ≤ uptoN → ∃ x, k.at' (snap w) cs x ∧ Q x

section
variable {P : Program} {t e : TypeId}
theorem Rd.mono {α : Type} {k : Kd α} {Q Q' : α → Prop} (h : Rd P t k Q) (hq : ∀ x, Q x → Q' x) : Rd P t k Q' := fun enc w fuel cs d ps hd hb => by
  obtain ⟨x, h1, h2⟩ := h enc w fuel cs d ps hd hb
  exact ⟨x, h1, hq x h2⟩
theorem rd_int {k : IntKind} (hu : P.underlying t = some (.int k)) : Rd P t (kInt k) (fun n => k.has n) := fun enc w fuel cs d ps hd hb => by
  obtain ⟨n, h1, h2, h3⟩ := DataW.trod_int hu hd
  exact ⟨n, h1, by simpa [Lit.wf, IntKind.has] using h3⟩
theorem rd_i64 (hu : P.underlying t = some (.int .i64)) : Rd P t kI64 (fun _ => True) := fun enc w fuel cs d ps hd hb => by
  obtain ⟨n, h1, h2, h3⟩ := DataW.trod_int hu hd
  have : -9223372036854775808 ≤ n ∧ n ≤ 9223372036854775807 := by simpa [Lit.wf, IntKind.min, IntKind.max, IntKind.signed, IntKind.bits] using h3
  exact ⟨n, ⟨h1, this⟩, trivial⟩
theorem rd_limb (hu : P.underlying t = some (.int .u32)) : Rd P t kLimb (fun _ => True) := fun enc w fuel cs d ps hd hb => by
  obtain ⟨n, h1, h2, h3⟩ := DataW.trod_int hu hd
  have : 0 ≤ n ∧ n ≤ 4294967295 := by simpa [Lit.wf, IntKind.min, IntKind.max, IntKind.signed, IntKind.bits] using h3
  refine ⟨n.toNat, ⟨by rw [h1]; congr 2; omega, by omega⟩, trivial⟩
theorem rd_bool (hu : P.underlying t = some .bool) : Rd P t kBool (fun _ => True) := fun enc w fuel cs d ps hd hb => by
  obtain ⟨b, h1, h2⟩ := DataW.trod_bool hu hd
  exact ⟨b, h1, trivial⟩
theorem rd_sl {α : Type} {k : Kd α} {Q : α → Prop} (hu : P.underlying t = some (.slice e)) (hc : P.cellsOf e = k.sz) (h0 : 0 < k.sz) (h : Rd P e k Q) : Rd P t (kSl k) (fun xs => xs.length ≤ uptoN ∧ ∀ x ∈ xs, Q x) := fun enc w fuel cs d ps hd hb => by
  rcases DataW.trod_slice hu hd with ⟨rfl, hx⟩ | ⟨a, len, cap, elems, rest, n, rfl, rfl, hx, _, hl, hm, hlen, hel, _⟩
  · exact ⟨[], ⟨none, 0, rfl, by simp, by simp, .inl rfl⟩, by simp, by simp⟩
  · simp only [Prod.mk.injEq] at hx
    obtain ⟨rfl, _⟩ := hx
    simp only [uptoBulk] at hb
    have hbl := bulk_len (elems.map (·.1))
    simp only [List.length_map] at hbl
    by_cases h00 : len = 0
    · subst h00
      exact ⟨[], ⟨some a, cap, rfl, by simp, by simp, .inl rfl⟩, by simp, by simp⟩
    -- the cells of element i
    have hcell : ∀ i, i < len → ∃ ci, ci.length = k.sz ∧ (∀ j, j < k.sz → w.cell? (a.add (i * k.sz + j)) = ci[j]?) ∧ ∃ x, k.at' (snap w) ci x ∧ Q x := by
      intro i hi
      have h1 := hel i hi
      rw [hc] at h1
      have hlt : i < elems.length := by omega
      rw [List.getElem?_eq_getElem hlt, Option.bind_eq_some_iff] at h1
      obtain ⟨ci, h2, h3⟩ := h1
      obtain ⟨_, h4, h5⟩ := World.cells?_some h2
      obtain ⟨x, h6, h7⟩ := h enc w n ci elems[i].1 elems[i].2 h3 (by
        have := bulk_mem (H := _) (d := elems[i].1) (l := elems.map (·.1)) (List.mem_map.2 ⟨_, List.getElem_mem hlt, rfl⟩)
        omega)
      refine ⟨ci, h4, fun j hj => ?_, x, h6, h7⟩
      rw [← h5 j hj, Addr.add_add]
    obtain ⟨c0, l0, e0, x0, _⟩ := hcell 0 (by omega)
    have hv0 : ∃ v, c0[0]? = some v := ⟨c0[0], List.getElem?_eq_getElem (by omega)⟩
    obtain ⟨v0, hv0⟩ := hv0
    have h00 := e0 0 h0
    rw [hv0] at h00
    have ha : a = ⟨a.block, a.off, none⟩ := by
      have h01 := (snap_cell h00).1
      cases a with
      | mk b o s =>
        cases s with
        | none => rfl
        | some s => simp [Addr.add] at h01
    obtain ⟨c, hc1, _⟩ := (snap_cell h00).2
    rw [ha] at hc1 hcell ⊢
    simp only [Addr.add_lit] at hc1 hcell
    have hget : ∀ o v, w.cell? ⟨a.block, o, none⟩ = some v → c[o]? = some v := by
      intro o v hv
      obtain ⟨_, c', h1, h2⟩ := snap_cell hv
      simp only at h1 h2
      rw [hc1] at h1
      cases h1
      exact h2
    have key : ∀ m, m ≤ len → a.off + m * k.sz ≤ c.length ∧ ∃ xs : List α, xs.length = m ∧ Rows k (snap w) ((c.drop a.off).take (m * k.sz)) xs ∧ ∀ x ∈ xs, Q x := by
      intro m
      induction m with
      | zero =>
        intro _
        obtain ⟨ci, l1, l2, _⟩ := hcell 0 (by omega)
        have := hget _ _ ((l2 0 h0).trans (List.getElem?_eq_getElem (by omega)))
        have := (List.getElem?_eq_some_iff.1 this).1
        exact ⟨by omega, [], rfl, by simp [Rows], by simp⟩
      | succ m ih =>
        intro hm1
        obtain ⟨ih0, xs, ih1, ih2, ih3⟩ := ih (by omega)
        obtain ⟨ci, l1, l2, x, l3, l4⟩ := hcell m (by omega)
        have hci : ∀ j, j < k.sz → c[a.off + (m * k.sz + j)]? = ci[j]? := by
          intro j hj
          have h1 := l2 j hj
          rw [List.getElem?_eq_getElem (show j < ci.length by omega)] at h1 ⊢
          exact hget _ _ h1
        have hlen' : a.off + (m + 1) * k.sz ≤ c.length := by
          have h1 := hci (k.sz - 1) (by omega)
          rw [List.getElem?_eq_getElem (show k.sz - 1 < ci.length by omega)] at h1
          have := (List.getElem?_eq_some_iff.1 h1).1
          rw [Nat.succ_mul]
          omega
        have hseg : (c.drop (a.off + m * k.sz)).take k.sz = ci := by
          apply List.ext_getElem?
          intro j
          by_cases hj : j < k.sz
          · rw [List.getElem?_take_of_lt hj, List.getElem?_drop, ← hci j hj, Nat.add_assoc]
          · rw [List.getElem?_eq_none (by simp; omega), List.getElem?_eq_none (by omega)]
        have hspl : (c.drop a.off).take ((m + 1) * k.sz) = (c.drop a.off).take (m * k.sz) ++ ci := by
          rw [Nat.succ_mul, List.take_add, List.drop_drop, hseg]
        refine ⟨hlen', xs ++ [x], by simp [ih1], by rw [hspl]; exact ih2.append (Rows.one l3), ?_⟩
        intro y hy
        rcases List.mem_append.1 hy with hy | hy
        · exact ih3 y hy
        · simp at hy; subst hy; exact l4
    obtain ⟨k0, xs, k1, k2, k3⟩ := key len (Nat.le_refl _)
    refine ⟨xs, ⟨some ⟨a.block, a.off, none⟩, cap, by rw [k1], by unfold uptoN at hb; omega, by omega, .inr ⟨a.block, a.off, c, _, rfl, hc1, ⟨c.take a.off, (c.drop a.off).drop (len * k.sz), ?_, by simp; omega⟩, k2⟩⟩, by unfold uptoN at hb ⊢; omega, k3⟩
    rw [List.append_assoc, List.take_append_drop, List.take_append_drop]
/-- The fields of a struct, from one on. -/
def RdF (P : Program) (fs : List Field) (off : Nat) {α : Type} (k : Kd α) (Q : α → Prop) : Prop :=
  ∀ {H : Type} (enc : TypeId × Value → H) (w : World) (n : Nat) (cs : List Value) (xs : List (DataW H × List MemPlace)), xs.length = fs.length →
    (∀ (i : Nat) (f : Field), fs[i]? = some f → DataW.trod enc P w 0 (fun _ => true) true n f.type ((cs.drop f.offset).take (P.cellsOf f.type)) = xs[i]?) → uptoBulkAll (xs.map (·.1)) ≤ uptoN → off + k.sz = cs.length → ∃ x, k.at' (snap w) (cs.drop off) x ∧ Q x
theorem rdf_last {α : Type} {k : Kd α} {Q : α → Prop} {f : Field} {off : Nat} (ho : f.offset = off) (hc : P.cellsOf f.type = k.sz) (h : Rd P f.type k Q) : RdF P [f] off k Q := fun enc w n cs xs hl hx hb hlen => by
  match xs, hl with
  | [y], _ =>
    have h1 := hx 0 f rfl
    rw [ho, hc, List.take_of_length_le (by simp; omega)] at h1
    exact h enc w n _ y.1 y.2 h1 (by simp [uptoBulkAll] at hb; omega)
theorem rdf_cons {α β : Type} {k : Kd α} {l : Kd β} {Q : α → Prop} {R : β → Prop} {f : Field} {fs : List Field} {off off' : Nat} (ho : f.offset = off) (hc : P.cellsOf f.type = k.sz) (h : Rd P f.type k Q) (ho' : off + k.sz = off') (hr : RdF P fs off' l R) : RdF P (f :: fs) off (kPair k l) (fun x => Q x.1 ∧ R x.2) := fun enc w n cs xs hl hx hb hlen => by
  match xs, hl with
  | y :: ys, hl =>
    simp only [List.map_cons, uptoBulkAll] at hb
    have hlen' : off + (k.sz + l.sz) = cs.length := hlen
    have h1 := hx 0 f rfl
    rw [ho, hc] at h1
    obtain ⟨x, h2, h3⟩ := h enc w n _ y.1 y.2 h1 (by omega)
    obtain ⟨z, h4, h5⟩ := hr enc w n cs ys (by simpa using hl) (fun i g hg => by simpa using hx (i + 1) g (by simpa using hg)) (by omega) (by omega)
    refine ⟨(x, z), ⟨_, _, ?_, h2, h4⟩, h3, h5⟩
    rw [← ho', ← List.drop_drop, List.take_append_drop]
theorem rd_struct {α : Type} {k : Kd α} {Q : α → Prop} {fs : List Field} (hu : P.underlying t = some (.struct fs.toArray)) (hc : P.cellsOf t = k.sz) (h : RdF P fs 0 k Q) : Rd P t k Q := fun enc w fuel cs d ps hd hb => by
  obtain ⟨xs, n, _, hx, hl, hlen, hf⟩ := DataW.trod_struct hu hd
  simp only [Prod.mk.injEq] at hx
  obtain ⟨rfl, _⟩ := hx
  simp only [uptoBulk] at hb
  have := h enc w n cs xs (by simpa using hlen) (fun i f hi => hf i f (by simpa using hi)) (by omega) (by omega)
  simpa using this
/-- A number that came in. -/
def ZB (z : Int) : Prop := z.natAbs < 4294967296 ^ uptoN
theorem rd_Z (h : Rd P t kI (fun x => True ∧ x.2.length ≤ uptoN ∧ ∀ y ∈ x.2, True)) : Rd P t kZ ZB := fun enc w fuel cs d ps hd hb => by
  obtain ⟨x, h1, _, h2, _⟩ := h enc w fuel cs d ps hd hb
  have hl : Lims x.2 := by
    obtain ⟨a, b, _, _, _, _, _, _, _, h3⟩ := h1
    rcases h3 with h3 | ⟨_, _, _, _, _, _, _, r⟩
    · intro y hy; rw [h3] at hy; cases hy
    · exact rows_lims r
  have hv : (ival x).natAbs = nval x.2 := by
    unfold ival; split <;> simp
  refine ⟨ival x, ⟨x, h1, rfl, by unfold uptoN at h2; omega⟩, ?_⟩
  unfold ZB
  rw [hv]
  exact Nat.lt_of_lt_of_le (nval_lt hl) (Nat.pow_le_pow_right (by omega) h2)

/-! ### Values -/
theorem arg_sl {α : Type} {k : Kd α} {Q : List α → Prop} (hu : P.underlying t = some (.slice e)) (h : Rd P t (kSl k) Q) {H : Type} {enc : TypeId × Value → H} {w : World} {base : Nat} {v : Value} {d : DataW H} {ps : List MemPlace} (hval : Value.okWide P w .any base t v) (hd : DataW.Trod enc P w 0 (fun _ => true) true t v d ps) (hb : uptoBulk d ≤ uptoN) : ∃ x, ((kSl k).is x).p (snap w) v ∧ Q x := by
  obtain ⟨fuel, hd⟩ := hd
  obtain ⟨x, h1, h2⟩ := h enc w fuel _ d ps hd hb
  refine ⟨x, ⟨_, ?_, h1⟩, h2⟩
  obtain ⟨a, cap, h3, _⟩ := h1
  cases v with
  | slice a n c => rfl
  | agg cs => simp [Value.okWide, hu, Cell.okWide, Cell.ok] at hval
  | _ => simp [Value.cells] at h3
theorem arg_int {k : IntKind} (hu : P.underlying t = some (.int k)) {H : Type} {enc : TypeId × Value → H} {w : World} {base : Nat} {v : Value} {d : DataW H} {ps : List MemPlace} (hval : Value.okWide P w .any base t v) (hd : DataW.Trod enc P w 0 (fun _ => true) true t v d ps) : ∃ x, ((kInt k).is x).p (snap w) v ∧ (Lit.int k x).wf = true := by
  obtain ⟨n, rfl, _, _, hw⟩ := open_int hu hval hd
  exact ⟨n, ⟨_, rfl, rfl⟩, hw⟩
theorem arg_i64 (hu : P.underlying t = some (.int .i64)) {H : Type} {enc : TypeId × Value → H} {w : World} {base : Nat} {v : Value} {d : DataW H} {ps : List MemPlace} (hval : Value.okWide P w .any base t v) (hd : DataW.Trod enc P w 0 (fun _ => true) true t v d ps) : ∃ x, (kI64.is x).p (snap w) v ∧ True := by
  obtain ⟨n, rfl, _, _, hw⟩ := open_int hu hval hd
  have : -9223372036854775808 ≤ n ∧ n ≤ 9223372036854775807 := by simpa [Lit.wf, IntKind.min, IntKind.max, IntKind.signed, IntKind.bits] using hw
  exact ⟨n, ⟨_, rfl, rfl, this⟩, trivial⟩
theorem arg_agg {α : Type} {k : Kd α} {Q : α → Prop} {fs : Array Field} (hu : P.underlying t = some (.struct fs)) (hk : k.agg = true) (h : Rd P t k Q) {H : Type} {enc : TypeId × Value → H} {w : World} {base : Nat} {v : Value} {d : DataW H} {ps : List MemPlace} (hval : Value.okWide P w .any base t v) (hd : DataW.Trod enc P w 0 (fun _ => true) true t v d ps) (hb : uptoBulk d ≤ uptoN) : ∃ x, (k.is x).p (snap w) v ∧ Q x := by
  obtain ⟨fuel, hd⟩ := hd
  obtain ⟨x, h1, h2⟩ := h enc w fuel _ d ps hd hb
  refine ⟨x, ⟨_, ?_, h1⟩, h2⟩
  simp only [Value.okWide, hu] at hval
  obtain ⟨cs, rfl, _⟩ := hval
  simp [Kd.val, hk, Value.cells]
theorem arg_arr {α : Type} {k : Kd α} {Q : α → Prop} {n : Nat} (hu : P.underlying t = some (.array n e)) (hk : k.agg = true) (h : Rd P t k Q) {H : Type} {enc : TypeId × Value → H} {w : World} {base : Nat} {v : Value} {d : DataW H} {ps : List MemPlace} (hval : Value.okWide P w .any base t v) (hd : DataW.Trod enc P w 0 (fun _ => true) true t v d ps) (hb : uptoBulk d ≤ uptoN) : ∃ x, (k.is x).p (snap w) v ∧ Q x := by
  obtain ⟨fuel, hd⟩ := hd
  obtain ⟨x, h1, h2⟩ := h enc w fuel _ d ps hd hb
  refine ⟨x, ⟨_, ?_, h1⟩, h2⟩
  simp only [Value.okWide, hu] at hval
  obtain ⟨cs, rfl, _⟩ := hval
  simp [Kd.val, hk, Value.cells]

/-! ### Behind the call -/
theorem below_all {H : Type} {enc : TypeId × Value → H} (hl : laidOutB P = true) {W W' : World} (hb : Below W.heap.size W W') : ∀ {ts : List TypeId} {vs : List Value} {ds : List (DataW H)} {ps : List MemPlace}, ts.all (fun t => P.readableRec t && decide (t < P.types.size)) = true → DataW.TrodAll enc P W 0 (fun _ => true) true ts vs ds ps → (∀ x ∈ ps, x.block < W.heap.size) → DataW.TrodAll enc P W' 0 (fun b => decide (b < W.heap.size)) true ts vs ds ps
  | [], [], [], _, _, h, _ => h
  | t :: ts, v :: vs, d :: ds, _, hr, ⟨p, q, h1, h2, rfl⟩, hlt => by
    simp only [List.all_cons, Bool.and_eq_true, decide_eq_true_eq] at hr
    exact ⟨p, q, Below.trod hl hr.1.1 hr.1.2 h1 hb (fun x hx => hlt x (List.mem_append.2 (.inl hx))), below_all hl hb (by simpa using hr.2) h2 (fun x hx => hlt x (List.mem_append.2 (.inr hx))), rfl⟩
/-- What a contract with plain arguments gives of the call. -/
theorem Fn.calls {f : FuncId} {pre : List VP} {b : Bool} (h : Fn P f pre (kBool.is b)) {W : World} {vs : List Value} (ha : Args (snap W) vs pre) : Calls P f vs.toArray W fun e W' => e = .returned (.bool b) ∧ Below W.heap.size W W' := by
  refine (h (snap W) W vs (snap_fits W) ha ⟨fun b hb => (by cases hb), List.Pairwise.nil⟩).mono ?_
  rintro e w' ⟨m', v, p, Lo, rfl, s, hp, rfl, rfl⟩
  obtain ⟨cs, rfl, rfl⟩ := hp
  exact ⟨rfl, s.grow.below⟩
end
theorem ZB_gen {z : Int} {k : Nat} (h : z.natAbs < 4294967296 ^ k) : z.natAbs < 2 ^ (32 * k) := by
  rw [show (4294967296 : Nat) = 2 ^ 32 from rfl, ← Nat.pow_mul] at h
  exact h
theorem ZB_lt {z : Int} (h : ZB z) : ∃ n, n ≤ 33554432 ∧ z.natAbs < 2 ^ n := ⟨32 * uptoN, by unfold uptoN; omega, ZB_gen h⟩
end Fw

/- Plain facts on limbs: what the functions of layer 1 rest on. -/
set_option linter.unusedVariables false
set_option linter.unusedSimpArgs false
set_option exponentiation.threshold 70
namespace Fw

theorem take_succ' {l : List Nat} {i : Nat} (hi : i < l.length) : l.take (i + 1) = l.take i ++ [l.getD i 0] := by
  rw [List.take_add_one, List.getElem?_eq_getElem hi]
  simp [List.getElem?_eq_getElem hi]
theorem take_pred {l : List Nat} {i : Nat} (hi : i ≤ l.length) (h0 : 0 < i) : l.take i = l.take (i - 1) ++ [l.getD (i - 1) 0] := by
  obtain ⟨j, rfl⟩ : ∃ j, i = j + 1 := ⟨i - 1, by omega⟩
  exact take_succ' (by omega)
theorem getD_take {l : List Nat} {i j : Nat} (h : j < i) : (l.take i).getD j 0 = l.getD j 0 := by
  simp [List.getElem?_take, h]
theorem getD_lt {l : List Nat} (hl : Lims l) (i : Nat) : l.getD i 0 < 4294967296 := by
  rw [List.getD_eq_getElem?_getD]
  cases h : l[i]? with
  | none => simp
  | some x => exact hl x (List.mem_of_getElem? h)
theorem Lims.take {l : List Nat} (h : Lims l) (i : Nat) : Lims (l.take i) := fun x hx => h x (List.mem_of_mem_take hx)
theorem Lims.drop {l : List Nat} (h : Lims l) (i : Nat) : Lims (l.drop i) := fun x hx => h x (List.mem_of_mem_drop hx)
theorem trim_down {l : List Nat} {i : Nat} (hi : i ≤ l.length) (h0 : 0 < i) (h : ((l.take i).getD (i - 1) 0 : Int) = 0) : nval (l.take (i - 1)) = nval (l.take i) := by
  rw [getD_take (by omega)] at h
  rw [take_pred hi h0, nval_append, nval, nval, show l.getD (i - 1) 0 = 0 from by omega]
  simp
theorem trim_stop {l : List Nat} {i : Nat} (hl : Lims l) (hi : i ≤ l.length) (h0 : 0 < i) (h : ¬ ((l.take i).getD (i - 1) 0 : Int) = 0) (hr : nval (l.take i) = nval l) : l.take i = limbs (nval l) := by
  rw [getD_take (by omega)] at h
  rw [← hr]
  exact (limbs_nval (hl.take i) (.inr ⟨_, _, take_pred hi h0, by omega⟩)).symm
theorem trim_stop0 {l : List Nat} {i : Nat} (hr : nval (l.take i) = nval l) (h0 : i = 0) : l.take i = limbs (nval l) := by
  subst h0
  rw [← hr]
  simp [nval, limbs_zero]
/-! ### Comparing -/
/-! ### Machine words -/
open Go (IntKind)
theorem wr32 {n : Int} {s : Nat} (h : n = s) : IntKind.u32.wrap n = ((s % 4294967296 : Nat) : Int) := by
  subst h; simp [IntKind.wrap, IntKind.signed, IntKind.bits]
theorem wrs32 {n : Int} {s : Nat} (h : n = s ∧ s < 4294967296) : IntKind.u32.wrap n = (s : Int) := by
  rw [wr32 h.1, Nat.mod_eq_of_lt h.2]
theorem wr8 {n : Int} {s : Nat} (h : n = s ∧ s < 256) : IntKind.u8.wrap n = (s : Int) := by
  obtain ⟨rfl, h⟩ := h
  simp [IntKind.wrap, IntKind.signed, IntKind.bits]; omega
theorem shrN (j : Nat) {n b : Int} {s w : Nat} (h : n = s) (hb : b = j) (hj : j ≤ w) : n.fdiv (2 ^ (min b.toNat w)) = ((s / 2 ^ j : Nat) : Int) := by
  subst h hb
  rw [Int.toNat_natCast, Nat.min_eq_left hj, Int.fdiv_eq_ediv_of_nonneg _ (by have := Int.pow_nonneg (n := 2) (m := j) (by omega : (0 : Int) ≤ 2); exact this)]
  norm_cast
/-! ### How many binary digits -/
def bitlen (n : Nat) : Nat := if n = 0 then 0 else n.log2 + 1
theorem bitlen_eq {n k : Nat} (h1 : 2 ^ k ≤ n) (h2 : n < 2 ^ (k + 1)) : bitlen n = k + 1 := by
  have h0 : n ≠ 0 := by
    intro h; subst h
    have := Nat.two_pow_pos k; omega
  have h3 : n.log2 < k + 1 := (Nat.log2_lt h0).2 h2
  have h4 : ¬ n.log2 < k := fun h => by
    have := (Nat.log2_lt h0).1 h; omega
  simp [bitlen, h0]; omega
theorem bitlen_spec {n : Nat} (h : n ≠ 0) : ∃ k, bitlen n = k + 1 ∧ 2 ^ k ≤ n ∧ n < 2 ^ (k + 1) :=
  ⟨n.log2, by simp [bitlen, h], Nat.log2_self_le h, Nat.lt_log2_self⟩
theorem bitlen_shift {n : Nat} (j : Nat) (h : 2 ^ j ≤ n) : bitlen n = j + bitlen (n / 2 ^ j) := by
  have hp := Nat.two_pow_pos j
  have h0 : n / 2 ^ j ≠ 0 := by
    have := Nat.div_pos h hp; omega
  obtain ⟨k, h1, h2, h3⟩ := bitlen_spec h0
  rw [h1]
  have h4 : 2 ^ (j + k) ≤ n := by
    rw [Nat.pow_add, Nat.mul_comm]
    exact (Nat.le_div_iff_mul_le hp).1 h2
  have h5 : n < 2 ^ (j + k + 1) := by
    rw [Nat.add_assoc, Nat.pow_add, Nat.mul_comm]
    exact (Nat.div_lt_iff_lt_mul hp).1 h3
  rw [bitlen_eq h4 h5]; omega
theorem bitlen_le {n k : Nat} (h : n < 2 ^ k) : bitlen n ≤ k := by
  by_cases h0 : n = 0
  · subst h0; simp [bitlen]
  · have := (Nat.log2_lt h0).2 h
    simp [bitlen, h0]; omega
theorem len8 : ([0, 1, 2, 2, 3, 3, 3, 3, 4, 4, 4, 4, 4, 4, 4, 4] ++ List.replicate 16 5 ++ List.replicate 32 6 ++ List.replicate 64 7 ++ List.replicate 128 8 : List Nat) = (List.range 256).map bitlen := by decide +kernel
/-! ### Digits laid one by one -/
end Fw


/- What the functions of layer 1 answer: trim, Norm, Cmp. -/
set_option linter.unusedVariables false
set_option linter.unusedSimpArgs false
set_option exponentiation.threshold 70
namespace Fw
open Go Go.Proofs

end Fw


/- Plain facts on whole numbers: what the functions of layer 2 rest on. -/
set_option linter.unusedVariables false
set_option linter.unusedSimpArgs false
set_option exponentiation.threshold 70
namespace Fw

theorem ival_neg {b : Bool} {l : List Nat} (h : b = true) : ival (b, l) = -(nval l : Int) := by simp [ival, h]
theorem ival_pos {b : Bool} {l : List Nat} (h : b = false) : ival (b, l) = (nval l : Int) := by simp [ival, h]
theorem ival0 {y : Bool × List Nat} (h : nval y.2 = 0) : ival y = 0 := by
  unfold ival; split <;> simp [h]
theorem bitlen_0 {n : Nat} : bitlen n = 0 ↔ n = 0 := by
  constructor
  · intro h
    by_cases h0 : n = 0
    · exact h0
    · simp [bitlen, h0] at h
  · intro h; subst h; rfl
theorem made_zero {b : Bool} {l : List Nat} (h : nval l = 0) : (0 : Int) = ival (b, l) := (ival0 (y := (b, l)) h).symm
theorem canon_of {b : Bool} {l : List Nat} (h : nval l ≠ 0) : (b, limbs (nval l)) = canon (ival (b, l)) := by
  cases b with
  | true =>
    rw [ival_neg rfl]
    simp only [canon, Int.natAbs_neg, Int.natAbs_natCast, Prod.mk.injEq, and_true]
    rw [eq_comm, decide_eq_true_iff]
    omega
  | false =>
    rw [ival_pos rfl]
    simp only [canon, Int.natAbs_natCast, Prod.mk.injEq, and_true]
    rw [eq_comm, decide_eq_false_iff_not]
    omega
theorem canon_of' {b : Bool} {l : List Nat} : (b && decide (0 < ((limbs (nval l)).length : Int)), limbs (nval l)) = canon (ival (b, l)) := by
  by_cases h : nval l = 0
  · rw [h, ival0 (y := (b, l)) h]; simp [limbs_zero, canon]
  · rw [← canon_of h]
    rw [limbs_pos h]; simp
theorem copy_take {l : List Nat} {i : Nat} (h : i ≤ l.length) : l.take (min l.length (List.replicate i 0).length) ++ (List.replicate i 0).drop (min l.length (List.replicate i 0).length) = l.take i := by
  rw [List.length_replicate, Nat.min_eq_right h, List.drop_of_length_le (by simp), List.append_nil]
theorem copy_len (i : Nat) : (List.replicate i 0).length = i := List.length_replicate
theorem made_nz {l : List Nat} {i : Nat} (hlim : l.take i = limbs (nval l)) (hi : i ≤ l.length) (h : i ≠ 0) : nval l ≠ 0 := fun h0 => by
  rw [h0, limbs_zero] at hlim
  have := congrArg List.length hlim
  rw [List.length_take, List.length_nil] at this
  omega
end Fw


/- What the functions of layer 2 answer: Sign, Bits, Add and what they rest on. -/
set_option linter.unusedVariables false
set_option linter.unusedSimpArgs false
set_option exponentiation.threshold 70
namespace Fw
open Go Go.Proofs

set_option maxRecDepth 20000 in
set_option maxHeartbeats 1000000 in
theorem c_zint_made (b : Bool) (l : List Nat) : Fn Try.prog 147 [kBool.is b, kN.is l] (kC.is (ival (b, l))) := by
  refine Con.enter Try.func147 rfl rfl fun m w => ?_
  refine ST.fact (i := 1) rfl sl_len fun hB => ?_
  refine ST.fact (i := 1) rfl kN_lims fun hL => ?_
  refine CW.seq ?_
  refine CW.region ?_
  refine WP.al .n z31_C fun b1 => ?_
  refine WP.nil ?_
  refine QE.next ?_
  refine CW.seq ?_
  refine CW.region ?_
  refine WP.s .n (O.mv rfl) ?_
  refine WP.s .n (O.lenS rfl Try.underlying29) ?_
  refine WP.s .n (O.asg rfl) ?_
  refine WP.nil ?_
  refine QE.next ?_
  refine CW.seq ?_
  refine CW.block ?_
  refine CW.loop (fun (i : Nat) => i ≤ l.length ∧ nval (l.take i) = nval l) (fun (i : Nat) => [(0, kBool.is b), (1, kN.is l), (4, VP.ex (.pointer (some ⟨b1, 0, none⟩))), (5, (kInt .i64).is (i : Int))]) (fun (i : Nat) => [OB.box b1 31 kC 0]) (fun (i : Nat) => i) l.length ⟨Nat.le_refl _, by rw [List.take_length]⟩ (Imp.cons rfl (Imp.cons rfl (Imp.cons rfl (Imp.consLe rfl (is_eq (y := ((l.length : Nat) : Int)) (by omega)) Imp.nil)))) (OImp.refl _) ?_
  intro i ⟨hi, hr⟩
  refine CW.seq ?_
  refine CW.seq ?_
  refine CW.region ?_
  refine WP.s .n (O.mv rfl) ?_
  refine WP.s .n (O.gt rfl rfl) ?_
  refine WP.s .n (O.mv rfl) ?_
  refine WP.splitD 11 rfl (fun h_t11 => ?_) (fun h_t11 => ?_)
  · have h_t11' : 0 < i := by omega
    refine WP.s (.g rfl rfl) (O.mv rfl) ?_
    refine WP.s (.g rfl rfl) (O.mv rfl) ?_
    refine WP.s (.g rfl rfl) (O.sub rfl rfl (c := ((i : Int) - 1)) (w64 (by omega))) ?_
    refine WP.s (.g rfl rfl) (O.ix (i - 1) rfl rfl Try.underlying29 ty121 (by omega) (v := (l.getD (i - 1) 0)) (gd 0 (by omega))) ?_
    refine WP.s (.g rfl rfl) (OpOk.le (O.ldP rfl ty121) (limb_le _)) ?_
    refine WP.s (.g rfl rfl) (O.eq rfl rfl) ?_
    refine WP.s .n (O.pickT rfl rfl) ?_
    refine WP.nil ?_
    refine QE.next ?_
    refine CW.condD rfl (fun h_t18 => ?_) (fun h_t18 => ?_)
    · refine CW.skip ?_
      refine QE.next ?_
      refine CW.block ?_
      refine CW.region ?_
      refine WP.s .n (O.mv rfl) ?_
      refine WP.s .n (O.sub rfl rfl (c := ((i : Int) - 1)) (w64 (by omega))) ?_
      refine WP.s .n (O.asg rfl) ?_
      refine WP.nil ?_
      refine QE.blkN ?_
      exact QE.round (i - 1) (by omega) ⟨by omega, (trim_down hi h_t11' (by rw [getD_take (by omega)]; exact h_t18)).trans hr⟩ (Imp.cons rfl (Imp.cons rfl (Imp.cons rfl (Imp.consLe rfl (is_eq (y := (((i - 1) : Nat) : Int)) (by omega)) Imp.nil)))) (OImp.refl _)
    · refine CW.exit ?_
      refine QE.thenE ?_
      refine QE.thenE ?_
      refine QE.blkH ?_
      refine QE.next ?_
      refine CW.seq ?_
      refine CW.seq ?_
      have hlim : l.take i = limbs (nval l) := trim_stop hL hi h_t11' (by rw [getD_take (by omega)]; exact h_t18) hr
      refine CW.region ?_
      refine WP.s .n (O.mv rfl) ?_
      refine WP.s .n (O.eq rfl rfl) ?_
      refine WP.nil ?_
      refine QE.next ?_
      refine CW.condD rfl (fun h_t22 => ?_) (fun h_t22 => ?_)
      · refine CW.seq ?_
        have hz : nval l = 0 := by rw [← hr, show i = 0 from by omega]; rfl
        refine CW.region ?_
        refine WP.s .n (O.bld lit31_C rfl evp.n (.nil _)) ?_
        refine WP.t .n (O.stW (l := kC) (u := 0) 0 rfl rfl rfl ty31 rfl (VP.le_refl _)) ?_
        refine WP.nil ?_
        refine QE.next ?_
        refine CW.ret ?_
        refine QE.thenR ?_
        refine ST.obtold 0 rfl (OB.box_eq (y := (ival (b, l))) (made_zero hz)) ?_
        exact QE.done (.inl rfl) rfl (ResOk.c rfl (mem_at 0 rfl) ty31 ResOk.nil) (OImp.sub (List.nil_sublist _)) ⟨rfl, rfl⟩
      · refine CW.skip ?_
        refine QE.next ?_
        refine CW.seq ?_
        have hz : nval l ≠ 0 := made_nz hlim hi (by omega)
        have hcl := copy_len i
        refine CW.region ?_
        refine WP.s .n (O.mv rfl) ?_
        refine WP.mk i .n rfl rfl rfl (by omega) Try.underlying29 el121_limb z121_limb fun v2 => ?_
        refine WP.s .n (O.asg rfl) ?_
        refine WP.nil ?_
        refine QE.next ?_
        refine CW.seq ?_
        refine CW.region ?_
        refine WP.s .n (O.mv rfl) ?_
        refine WP.s .n (O.mv rfl) ?_
        refine WP.s .n (O.cp 0 rfl rfl rfl (VP.le_refl _) Try.underlying29 el121_limb) ?_
        refine WP.nil ?_
        refine QE.next ?_
        refine CW.seq ?_
        refine ST.obtold 0 rfl (OB.row_eq (ys := (l.take i)) (copy_take hi)) ?_
        refine ST.freeze 0 rfl (.keep (i := 0) rfl (.keep (i := 1) rfl (.keep (i := 4) rfl (.keep (i := 5) rfl (.hit (i := 6) rfl (.keep (i := 9) rfl (.keep (i := 10) rfl (.keep (i := 11) rfl (.keep (i := 12) rfl (.keep (i := 13) rfl (.keep (i := 14) rfl (.keep (i := 15) rfl (.keep (i := 16) rfl (.keep (i := 17) rfl (.keep (i := 18) rfl (.keep (i := 21) rfl (.keep (i := 22) rfl (.keep (i := 24) rfl (.hit (i := 25) rfl (.hit (i := 26) rfl (.keep (i := 27) rfl (.keep (i := 28) rfl .nil)))))))))))))))))))))) ?_
        refine CW.region ?_
        refine WP.s .n (O.mv rfl) ?_
        refine WP.s .n (O.mv rfl) ?_
        refine WP.s .n (O.bld lit31_I rfl (evp.c rfl (evp.c rfl evp.n)) (.cons rfl (Lens.fst (Lens.id _)) (.cons rfl (Lens.snd (Lens.id _)) (.nil _)))) ?_
        refine WP.t .n (O.stW (l := kI) (u := (b, (l.take i))) 0 rfl rfl rfl ty31 rfl (VP.le_refl _)) ?_
        refine WP.nil ?_
        refine QE.next ?_
        refine CW.ret ?_
        refine ST.obtold (b' := OB.box b1 31 kC (ival (b, l))) 0 rfl (OB.I_C (by rw [hlim]; exact canon_of hz)) ?_
        exact QE.done (.inl rfl) rfl (ResOk.c rfl (mem_at 0 rfl) ty31 ResOk.nil) (OImp.sub (List.nil_sublist _)) ⟨rfl, rfl⟩
  · refine WP.k (b := false) rfl rfl ?_
    refine WP.k (b := false) rfl rfl ?_
    refine WP.k (b := false) rfl rfl ?_
    refine WP.k (b := false) rfl rfl ?_
    refine WP.k (b := false) rfl rfl ?_
    refine WP.k (b := false) rfl rfl ?_
    refine WP.s .n (O.pickF rfl rfl) ?_
    refine WP.nil ?_
    refine QE.next ?_
    refine CW.condF rfl ?_
    refine CW.exit ?_
    refine QE.thenE ?_
    refine QE.thenE ?_
    refine QE.blkH ?_
    refine QE.next ?_
    refine CW.seq ?_
    refine CW.seq ?_
    have hlim : l.take i = limbs (nval l) := trim_stop0 hr (by omega)
    refine CW.region ?_
    refine WP.s .n (O.mv rfl) ?_
    refine WP.s .n (O.eq rfl rfl) ?_
    refine WP.nil ?_
    refine QE.next ?_
    refine CW.condD rfl (fun h_t22 => ?_) (fun h_t22 => ?_)
    · refine CW.seq ?_
      have hz : nval l = 0 := by rw [← hr, show i = 0 from by omega]; rfl
      refine CW.region ?_
      refine WP.s .n (O.bld lit31_C rfl evp.n (.nil _)) ?_
      refine WP.t .n (O.stW (l := kC) (u := 0) 0 rfl rfl rfl ty31 rfl (VP.le_refl _)) ?_
      refine WP.nil ?_
      refine QE.next ?_
      refine CW.ret ?_
      refine QE.thenR ?_
      refine ST.obtold 0 rfl (OB.box_eq (y := (ival (b, l))) (made_zero hz)) ?_
      exact QE.done (.inl rfl) rfl (ResOk.c rfl (mem_at 0 rfl) ty31 ResOk.nil) (OImp.sub (List.nil_sublist _)) ⟨rfl, rfl⟩
    · refine CW.skip ?_
      refine QE.next ?_
      refine CW.seq ?_
      have hz : nval l ≠ 0 := made_nz hlim hi (by omega)
      have hcl := copy_len i
      refine CW.region ?_
      refine WP.s .n (O.mv rfl) ?_
      refine WP.mk i .n rfl rfl rfl (by omega) Try.underlying29 el121_limb z121_limb fun v3 => ?_
      refine WP.s .n (O.asg rfl) ?_
      refine WP.nil ?_
      refine QE.next ?_
      refine CW.seq ?_
      refine CW.region ?_
      refine WP.s .n (O.mv rfl) ?_
      refine WP.s .n (O.mv rfl) ?_
      refine WP.s .n (O.cp 0 rfl rfl rfl (VP.le_refl _) Try.underlying29 el121_limb) ?_
      refine WP.nil ?_
      refine QE.next ?_
      refine CW.seq ?_
      refine ST.obtold 0 rfl (OB.row_eq (ys := (l.take i)) (copy_take hi)) ?_
      refine ST.freeze 0 rfl (.keep (i := 0) rfl (.keep (i := 1) rfl (.keep (i := 4) rfl (.keep (i := 5) rfl (.hit (i := 6) rfl (.keep (i := 9) rfl (.keep (i := 10) rfl (.keep (i := 11) rfl (.keep (i := 12) rfl (.keep (i := 13) rfl (.keep (i := 14) rfl (.keep (i := 15) rfl (.keep (i := 16) rfl (.keep (i := 17) rfl (.keep (i := 18) rfl (.keep (i := 21) rfl (.keep (i := 22) rfl (.keep (i := 24) rfl (.hit (i := 25) rfl (.hit (i := 26) rfl (.keep (i := 27) rfl (.keep (i := 28) rfl .nil)))))))))))))))))))))) ?_
      refine CW.region ?_
      refine WP.s .n (O.mv rfl) ?_
      refine WP.s .n (O.mv rfl) ?_
      refine WP.s .n (O.bld lit31_I rfl (evp.c rfl (evp.c rfl evp.n)) (.cons rfl (Lens.fst (Lens.id _)) (.cons rfl (Lens.snd (Lens.id _)) (.nil _)))) ?_
      refine WP.t .n (O.stW (l := kI) (u := (b, (l.take i))) 0 rfl rfl rfl ty31 rfl (VP.le_refl _)) ?_
      refine WP.nil ?_
      refine QE.next ?_
      refine CW.ret ?_
      refine ST.obtold (b' := OB.box b1 31 kC (ival (b, l))) 0 rfl (OB.I_C (by rw [hlim]; exact canon_of hz)) ?_
      exact QE.done (.inl rfl) rfl (ResOk.c rfl (mem_at 0 rfl) ty31 ResOk.nil) (OImp.sub (List.nil_sublist _)) ⟨rfl, rfl⟩

end Fw


/- Plain facts on limbs and whole numbers: what the document's functions of layers 1 and 2 rest on. -/
set_option linter.unusedVariables false
set_option linter.unusedSimpArgs false
set_option exponentiation.threshold 70
namespace Fw
open Go (IntKind)

theorem take_app1 {l : List Nat} {j : Nat} (h : j < l.length) : l.take j ++ [l.getD j 0] = l.take (j + 1) := (take_succ' h).symm
theorem of_neg {n : Int} (h : n < 0) (h2 : -9223372036854775808 ≤ n) : IntKind.u64.wrap (0 - IntKind.u64.wrap n) = ((n.natAbs : Nat) : Int) := by
  simp [IntKind.wrap, IntKind.signed, IntKind.bits]; omega
theorem of_pos {n : Int} (h : ¬ n < 0) (h2 : n ≤ 9223372036854775807) : IntKind.u64.wrap n = ((n.natAbs : Nat) : Int) := by
  simp [IntKind.wrap, IntKind.signed, IntKind.bits]; omega
theorem of_val {n : Int} : ival (decide (n < 0), [n.natAbs % 4294967296, n.natAbs / 2 ^ 32]) = n := by
  have : nval [n.natAbs % 4294967296, n.natAbs / 2 ^ 32] = n.natAbs := by simp only [nval]; omega
  by_cases h : n < 0
  · rw [ival_neg (by simp [h]), this]; omega
  · rw [ival_pos (by simp [h]), this]; omega
theorem eq_take {α : Type} {a b : List α} {i : Nat} {d : α} (hl : a.length = b.length) (hi : i < a.length) (h : a.take i = b.take i) (hx : a.getD i d = b.getD i d) : a.take (i + 1) = b.take (i + 1) := by
  rw [List.take_add_one, List.take_add_one, h]
  congr 1
  rw [List.getElem?_eq_getElem hi, List.getElem?_eq_getElem (by omega)]
  simp only [List.getD_eq_getElem?_getD, List.getElem?_eq_getElem hi, List.getElem?_eq_getElem (show i < b.length by omega), Option.getD_some] at hx
  rw [hx]
theorem eq_full {α : Type} {a b : List α} {i : Nat} (hl : a.length = b.length) (hi : a.length ≤ i) (h : a.take i = b.take i) : a = b := by
  rwa [List.take_of_length_le hi, List.take_of_length_le (by omega)] at h
theorem take_app {α : Type} {l : List α} {j : Nat} {d : α} (h : j < l.length) : l.take j ++ [l.getD j d] = l.take (j + 1) := by
  rw [List.take_add_one, List.getD_eq_getElem?_getD, List.getElem?_eq_getElem h]; rfl
end Fw


/- What the document's functions of layers 1 and 2 answer. -/
set_option linter.unusedVariables false
set_option linter.unusedSimpArgs false
set_option exponentiation.threshold 70
namespace Fw
open Go Go.Proofs

set_option maxRecDepth 20000 in
set_option maxHeartbeats 1000000 in
theorem c_ref01_Norm (l : List Nat) : Fn Try.prog 158 [kN.is l] (kN.is (limbs (nval l))) := by
  refine Con.enter Try.func158 rfl rfl fun m w => ?_
  refine ST.fact (i := 0) rfl sl_len fun hB => ?_
  refine ST.fact (i := 0) rfl kN_lims fun hL => ?_
  refine CW.seq ?_
  refine CW.region ?_
  refine WP.s .n (O.asg rfl) ?_
  refine WP.nil ?_
  refine QE.next ?_
  refine CW.seq ?_
  refine CW.region ?_
  refine WP.s .n (O.mv rfl) ?_
  refine WP.s .n (O.lenS rfl Try.underlying29) ?_
  refine WP.s .n (O.asg rfl) ?_
  refine WP.nil ?_
  refine QE.next ?_
  refine CW.seq ?_
  refine CW.block ?_
  refine CW.loop (fun (i : Nat) => i ≤ l.length ∧ nval (l.take i) = nval l) (fun (i : Nat) => [(0, kN.is l), (3, (kInt .i64).is (i : Int))]) (fun (i : Nat) => []) (fun (i : Nat) => i) l.length ⟨Nat.le_refl _, by rw [List.take_length]⟩ (Imp.cons rfl (Imp.consLe rfl (is_eq (y := ((l.length : Nat) : Int)) (by first | omega | simp)) Imp.nil)) (OImp.refl _) ?_
  intro i ⟨hi, hr⟩
  refine CW.seq ?_
  refine CW.seq ?_
  refine CW.region ?_
  refine WP.s .n (O.mv rfl) ?_
  refine WP.s .n (O.gt rfl rfl) ?_
  refine WP.s .n (O.mv rfl) ?_
  refine WP.splitD 10 rfl (fun h_t10 => ?_) (fun h_t10 => ?_)
  · have h_t10' : 0 < i := by omega
    refine WP.s (.g rfl rfl) (O.mv rfl) ?_
    refine WP.s (.g rfl rfl) (O.mv rfl) ?_
    refine WP.s (.g rfl rfl) (O.sub rfl rfl (c := ((i : Int) - 1)) (w64 (by omega))) ?_
    refine WP.s (.g rfl rfl) (O.ix (i - 1) rfl rfl Try.underlying29 ty121 (by omega) (v := (l.getD (i - 1) 0)) (gd 0 (by omega))) ?_
    refine WP.s (.g rfl rfl) (OpOk.le (O.ldP rfl ty121) (limb_le _)) ?_
    refine WP.s (.g rfl rfl) (O.eq rfl rfl) ?_
    refine WP.s .n (O.pickT rfl rfl) ?_
    refine WP.nil ?_
    refine QE.next ?_
    refine CW.condD rfl (fun h_t17 => ?_) (fun h_t17 => ?_)
    · refine CW.skip ?_
      refine QE.next ?_
      refine CW.block ?_
      refine CW.region ?_
      refine WP.s .n (O.mv rfl) ?_
      refine WP.s .n (O.sub rfl rfl (c := ((i : Int) - 1)) (w64 (by omega))) ?_
      refine WP.s .n (O.asg rfl) ?_
      refine WP.nil ?_
      refine QE.blkN ?_
      exact QE.round (i - 1) (by omega) ⟨by omega, (trim_down hi h_t10' (by rw [getD_take (by omega)]; exact h_t17)).trans hr⟩ (Imp.cons rfl (Imp.consLe rfl (is_eq (y := (((i - 1) : Nat) : Int)) (by first | omega | simp)) Imp.nil)) (OImp.refl _)
    · refine CW.exit ?_
      refine QE.thenE ?_
      refine QE.thenE ?_
      refine QE.blkH ?_
      refine QE.next ?_
      refine CW.seq ?_
      refine CW.region ?_
      refine WP.s .n (O.asg rfl) ?_
      refine WP.nil ?_
      refine QE.next ?_
      refine CW.seq ?_
      refine CW.seq ?_
      refine CW.region ?_
      refine WP.s .n (O.asg rfl) ?_
      refine WP.nil ?_
      refine QE.next ?_
      refine CW.block ?_
      have hlim : l.take i = limbs (nval l) := trim_stop hL hi h_t10' (by rw [getD_take (by omega)]; exact h_t17) hr
      refine ST.nilrow 121 kLimb ?_
      refine CW.loop2 (fun (j : Nat) (v : Value) => j ≤ i) (fun (j : Nat) (v : Value) => [(0, kN.is l), (3, (kInt .i64).is (i : Int)), (4, VP.ex v), (5, (kInt .i64).is (j : Int))]) (fun (j : Nat) (v : Value) => [OB.row v 121 kLimb (l.take j)]) (fun (j : Nat) (v : Value) => i - j) 0 (.slice none 0 0) (by omega) (Imp.cons rfl (Imp.cons rfl (Imp.cons rfl (Imp.consLe rfl (is_eq (y := (0 : Int)) (by first | omega | simp)) Imp.nil)))) (OImp.os (OS.keepLe (OB.row_eq (by first | omega | simp)) OS.nil)) ?_
      intro j v hj
      have hx := getD_lt hL j
      have htl : (l.take j).length = j := by simp; omega
      refine CW.seq ?_
      refine CW.seq ?_
      refine CW.region ?_
      refine WP.s .n (O.mv rfl) ?_
      refine WP.s .n (O.mv rfl) ?_
      refine WP.s .n (O.lt rfl rfl) ?_
      refine WP.nil ?_
      refine QE.next ?_
      refine CW.condD rfl (fun h_t22 => ?_) (fun h_t22 => ?_)
      · refine CW.skip ?_
        refine QE.next ?_
        refine CW.seq ?_
        refine CW.block ?_
        refine CW.region ?_
        refine WP.s .n (O.mv rfl) ?_
        refine WP.s .n (O.mv rfl) ?_
        refine WP.s .n (O.mv rfl) ?_
        refine WP.s .n (O.ix j rfl rfl Try.underlying29 ty121 rfl (v := (l.getD j 0)) (gd 0 (by omega))) ?_
        refine WP.s .n (OpOk.le (O.ldP rfl ty121) (limb_le _)) ?_
        refine WP.s .n (O.bs Try.underlying29 el121_limb (evl.l rfl (u32_limb (x := (l.getD j 0)) (by omega)) evl.n) rfl (by decide)) ?_
        refine WP.ap 0 .n rfl rfl rfl (VP.le_refl _) Try.underlying29 el121_limb (by simp; omega) fun v1 => ?_
        refine WP.s .n (O.asg rfl) ?_
        refine WP.nil ?_
        refine QE.blkN ?_
        refine QE.next ?_
        refine CW.region ?_
        refine WP.s .n (O.mv rfl) ?_
        refine WP.s .n (O.add rfl rfl (c := ((j : Int) + 1)) (w64 (by omega))) ?_
        refine WP.s .n (O.asg rfl) ?_
        refine WP.nil ?_
        refine ST.obtold 0 rfl (OB.row_eq (ys := (l.take (j + 1))) (take_app1 (by omega))) ?_
        exact QE.round2 (j + 1) v1 (by omega) (by omega) (Imp.cons rfl (Imp.cons rfl (Imp.cons rfl (Imp.consLe rfl (is_eq (y := (((j + 1) : Nat) : Int)) (by first | omega | simp)) Imp.nil)))) (OImp.refl _)
      · refine CW.exit ?_
        refine QE.thenE ?_
        refine QE.thenE ?_
        refine QE.blkH ?_
        refine QE.next ?_
        refine CW.seq ?_
        refine CW.region ?_
        refine WP.s .n (O.mv rfl) ?_
        refine WP.s .n (O.asg rfl) ?_
        refine WP.nil ?_
        refine QE.next ?_
        refine CW.ret ?_
        refine ST.freeze 0 rfl (.keep (i := 0) rfl (.hit (i := 2) rfl (.keep (i := 3) rfl (.hit (i := 4) rfl (.keep (i := 5) rfl (.keep (i := 20) rfl (.keep (i := 21) rfl (.keep (i := 22) rfl (.hit (i := 32) rfl .nil))))))))) ?_
        refine ST.told 2 rfl (is_eq (y := (limbs (nval l))) (by rw [← hlim, show j = i from by omega])) ?_
        exact QE.done (.inl rfl) rfl (ResOk.t rfl ResOk.nil) (OImp.sub (List.nil_sublist _)) ⟨rfl, rfl⟩
  · refine WP.k (b := false) rfl rfl ?_
    refine WP.k (b := false) rfl rfl ?_
    refine WP.k (b := false) rfl rfl ?_
    refine WP.k (b := false) rfl rfl ?_
    refine WP.k (b := false) rfl rfl ?_
    refine WP.k (b := false) rfl rfl ?_
    refine WP.s .n (O.pickF rfl rfl) ?_
    refine WP.nil ?_
    refine QE.next ?_
    refine CW.condF rfl ?_
    refine CW.exit ?_
    refine QE.thenE ?_
    refine QE.thenE ?_
    refine QE.blkH ?_
    refine QE.next ?_
    refine CW.seq ?_
    refine CW.region ?_
    refine WP.s .n (O.asg rfl) ?_
    refine WP.nil ?_
    refine QE.next ?_
    refine CW.seq ?_
    refine CW.seq ?_
    refine CW.region ?_
    refine WP.s .n (O.asg rfl) ?_
    refine WP.nil ?_
    refine QE.next ?_
    refine CW.block ?_
    have hlim : l.take i = limbs (nval l) := trim_stop0 hr (by omega)
    refine ST.nilrow 121 kLimb ?_
    refine CW.loop2 (fun (j : Nat) (v : Value) => j ≤ i) (fun (j : Nat) (v : Value) => [(0, kN.is l), (3, (kInt .i64).is (i : Int)), (4, VP.ex v), (5, (kInt .i64).is (j : Int))]) (fun (j : Nat) (v : Value) => [OB.row v 121 kLimb (l.take j)]) (fun (j : Nat) (v : Value) => i - j) 0 (.slice none 0 0) (by omega) (Imp.cons rfl (Imp.cons rfl (Imp.cons rfl (Imp.consLe rfl (is_eq (y := (0 : Int)) (by first | omega | simp)) Imp.nil)))) (OImp.os (OS.keepLe (OB.row_eq (by first | omega | simp)) OS.nil)) ?_
    intro j v hj
    have hx := getD_lt hL j
    have htl : (l.take j).length = j := by simp; omega
    refine CW.seq ?_
    refine CW.seq ?_
    refine CW.region ?_
    refine WP.s .n (O.mv rfl) ?_
    refine WP.s .n (O.mv rfl) ?_
    refine WP.s .n (O.lt rfl rfl) ?_
    refine WP.nil ?_
    refine QE.next ?_
    refine CW.condD rfl (fun h_t22 => ?_) (fun h_t22 => ?_)
    · refine CW.skip ?_
      refine QE.next ?_
      refine CW.seq ?_
      refine CW.block ?_
      refine CW.region ?_
      refine WP.s .n (O.mv rfl) ?_
      refine WP.s .n (O.mv rfl) ?_
      refine WP.s .n (O.mv rfl) ?_
      refine WP.s .n (O.ix j rfl rfl Try.underlying29 ty121 rfl (v := (l.getD j 0)) (gd 0 (by omega))) ?_
      refine WP.s .n (OpOk.le (O.ldP rfl ty121) (limb_le _)) ?_
      refine WP.s .n (O.bs Try.underlying29 el121_limb (evl.l rfl (u32_limb (x := (l.getD j 0)) (by omega)) evl.n) rfl (by decide)) ?_
      refine WP.ap 0 .n rfl rfl rfl (VP.le_refl _) Try.underlying29 el121_limb (by simp; omega) fun v2 => ?_
      refine WP.s .n (O.asg rfl) ?_
      refine WP.nil ?_
      refine QE.blkN ?_
      refine QE.next ?_
      refine CW.region ?_
      refine WP.s .n (O.mv rfl) ?_
      refine WP.s .n (O.add rfl rfl (c := ((j : Int) + 1)) (w64 (by omega))) ?_
      refine WP.s .n (O.asg rfl) ?_
      refine WP.nil ?_
      refine ST.obtold 0 rfl (OB.row_eq (ys := (l.take (j + 1))) (take_app1 (by omega))) ?_
      exact QE.round2 (j + 1) v2 (by omega) (by omega) (Imp.cons rfl (Imp.cons rfl (Imp.cons rfl (Imp.consLe rfl (is_eq (y := (((j + 1) : Nat) : Int)) (by first | omega | simp)) Imp.nil)))) (OImp.refl _)
    · refine CW.exit ?_
      refine QE.thenE ?_
      refine QE.thenE ?_
      refine QE.blkH ?_
      refine QE.next ?_
      refine CW.seq ?_
      refine CW.region ?_
      refine WP.s .n (O.mv rfl) ?_
      refine WP.s .n (O.asg rfl) ?_
      refine WP.nil ?_
      refine QE.next ?_
      refine CW.ret ?_
      refine ST.freeze 0 rfl (.keep (i := 0) rfl (.hit (i := 2) rfl (.keep (i := 3) rfl (.hit (i := 4) rfl (.keep (i := 5) rfl (.keep (i := 20) rfl (.keep (i := 21) rfl (.keep (i := 22) rfl (.hit (i := 32) rfl .nil))))))))) ?_
      refine ST.told 2 rfl (is_eq (y := (limbs (nval l))) (by rw [← hlim, show j = i from by omega])) ?_
      exact QE.done (.inl rfl) rfl (ResOk.t rfl ResOk.nil) (OImp.sub (List.nil_sublist _)) ⟨rfl, rfl⟩

set_option maxRecDepth 20000 in
set_option maxHeartbeats 1000000 in
theorem c_ref02_made (b : Bool) (l : List Nat) : Fn Try.prog 152 [kBool.is b, kN.is l] (kC.is (ival (b, l))) := by
  refine Con.enter Try.func152 rfl rfl fun m w => ?_
  refine CW.seq ?_
  refine CW.region ?_
  refine WP.al .n z31_C fun b1 => ?_
  refine WP.nil ?_
  refine QE.next ?_
  refine CW.seq ?_
  refine CW.region ?_
  refine WP.s .n (O.mv rfl) ?_
  refine WP.s .n (O.fn fn158 (evs.c rfl evs.nil) (c_ref01_Norm l)) ?_
  refine WP.s .n (O.asg rfl) ?_
  refine WP.nil ?_
  refine QE.next ?_
  refine CW.seq ?_
  refine CW.region ?_
  refine WP.s .n (O.mv rfl) ?_
  refine WP.s .n (O.mv rfl) ?_
  refine WP.split 9 rfl (fun h_t9 => ?_) (fun h_t9 => ?_)
  · refine WP.s (.g rfl rfl) (O.mv rfl) ?_
    refine WP.s (.g rfl rfl) (O.lenS rfl Try.underlying29) ?_
    refine WP.s (.g rfl rfl) (O.gt rfl rfl) ?_
    refine WP.s .n (O.pickT rfl rfl) ?_
    refine WP.s .n (O.mv rfl) ?_
    refine WP.s .n (O.bld lit31_I rfl (evp.c rfl (evp.c rfl evp.n)) (.cons rfl (Lens.fst (Lens.id _)) (.cons rfl (Lens.snd (Lens.id _)) (.nil _)))) ?_
    refine WP.t .n (O.stW (l := kI) (u := (decide (0 < ((limbs (nval l)).length : Int)), limbs (nval l))) 0 rfl rfl rfl ty31 rfl (VP.le_refl _)) ?_
    refine WP.nil ?_
    refine QE.next ?_
    refine CW.ret ?_
    refine ST.obtold (b' := OB.box b1 31 kC (ival (b, l))) 0 rfl (OB.I_C (by have := @canon_of' b l; simp_all)) ?_
    exact QE.done (.inl rfl) rfl (ResOk.c rfl (mem_at 0 rfl) ty31 ResOk.nil) (OImp.sub (List.nil_sublist _)) ⟨rfl, rfl⟩
  · refine WP.k (b := false) rfl rfl ?_
    refine WP.k (b := false) rfl rfl ?_
    refine WP.k (b := false) rfl rfl ?_
    refine WP.s .n (O.pickF rfl rfl) ?_
    refine WP.s .n (O.mv rfl) ?_
    refine WP.s .n (O.bld lit31_I rfl (evp.c rfl (evp.c rfl evp.n)) (.cons rfl (Lens.fst (Lens.id _)) (.cons rfl (Lens.snd (Lens.id _)) (.nil _)))) ?_
    refine WP.t .n (O.stW (l := kI) (u := (false, limbs (nval l))) 0 rfl rfl rfl ty31 rfl (VP.le_refl _)) ?_
    refine WP.nil ?_
    refine QE.next ?_
    refine CW.ret ?_
    refine ST.obtold (b' := OB.box b1 31 kC (ival (b, l))) 0 rfl (OB.I_C (by have := @canon_of' b l; simp_all)) ?_
    exact QE.done (.inl rfl) rfl (ResOk.c rfl (mem_at 0 rfl) ty31 ResOk.nil) (OImp.sub (List.nil_sublist _)) ⟨rfl, rfl⟩

set_option maxRecDepth 20000 in
set_option maxHeartbeats 1000000 in
theorem c_ref02_Of (n : Int) : Fn Try.prog 78 [kI64.is n] (kC.is n) := by
  refine Con.enter Try.func78 rfl rfl fun m w => ?_
  refine ST.fact (i := 0) rfl int_rng fun hn => ?_
  refine ST.told (q := (kInt .i64).is n) 0 rfl (i64_le _) ?_
  refine CW.seq ?_
  refine CW.region ?_
  refine WP.al .n z31_C fun b1 => ?_
  refine WP.nil ?_
  refine QE.next ?_
  refine CW.seq ?_
  refine CW.region ?_
  refine WP.s .n (O.mv rfl) ?_
  refine WP.s .n (O.cvt rfl Try.underlying2 Try.underlying173 rfl) ?_
  refine WP.s .n (O.asg rfl) ?_
  refine WP.nil ?_
  refine QE.next ?_
  refine CW.seq ?_
  refine CW.seq ?_
  refine CW.region ?_
  refine WP.s .n (O.mv rfl) ?_
  refine WP.s .n (O.lt rfl rfl) ?_
  refine WP.nil ?_
  refine QE.next ?_
  refine CW.condD rfl (fun h_t7 => ?_) (fun h_t7 => ?_)
  · refine CW.region ?_
    refine WP.s .n (O.mv rfl) ?_
    refine WP.s .n (O.neg rfl (c := ((n.natAbs : Nat) : Int)) (of_neg h_t7 hn.1)) ?_
    refine WP.s .n (O.asg rfl) ?_
    refine WP.nil ?_
    refine QE.next ?_
    refine CW.seq ?_
    refine CW.region ?_
    refine WP.s .n (O.mv rfl) ?_
    refine WP.s .n (O.lt rfl rfl) ?_
    refine WP.s .n (O.mv rfl) ?_
    refine WP.s .n (O.cvt rfl Try.underlying173 Try.underlying121 (c := ((n.natAbs % 4294967296 : Nat) : Int)) (wr32 rfl)) ?_
    refine WP.s .n (O.mv rfl) ?_
    refine WP.s .n (O.shr rfl rfl (by omega) (c := ((n.natAbs / 2 ^ 32 : Nat) : Int)) (shrN 32 rfl rfl (by decide))) ?_
    refine WP.s .n (O.cvt rfl Try.underlying173 Try.underlying121 (c := ((n.natAbs / 2 ^ 32 : Nat) : Int)) (wrs32 (by omega))) ?_
    refine WP.s .n (O.bs Try.underlying29 el121_limb (evl.l rfl (u32_limb (x := (n.natAbs % 4294967296 : Nat)) (by omega)) (evl.l rfl (u32_limb (x := (n.natAbs / 2 ^ 32 : Nat)) (by omega)) evl.n)) rfl (by decide)) ?_
    refine WP.s .n (O.fn fn152 (evs.c rfl (evs.c rfl evs.nil)) (c_ref02_made (decide (n < 0)) [(n.natAbs % 4294967296 : Nat), (n.natAbs / 2 ^ 32 : Nat)])) ?_
    refine WP.t .n (O.stW (l := kC) (u := ival ((decide (n < 0)), [(n.natAbs % 4294967296 : Nat), (n.natAbs / 2 ^ 32 : Nat)])) 0 rfl rfl rfl ty31 rfl (VP.le_refl _)) ?_
    refine WP.nil ?_
    refine QE.next ?_
    refine CW.ret ?_
    refine ST.obtold 0 rfl (OB.box_eq (y := n) of_val) ?_
    exact QE.done (.inl rfl) rfl (ResOk.c rfl (mem_at 0 rfl) ty31 ResOk.nil) (OImp.sub (List.nil_sublist _)) ⟨rfl, rfl⟩
  · refine ST.told 3 rfl (is_eq (y := ((n.natAbs : Nat) : Int)) (of_pos h_t7 hn.2)) ?_
    refine CW.skip ?_
    refine QE.next ?_
    refine CW.seq ?_
    refine CW.region ?_
    refine WP.s .n (O.mv rfl) ?_
    refine WP.s .n (O.lt rfl rfl) ?_
    refine WP.s .n (O.mv rfl) ?_
    refine WP.s .n (O.cvt rfl Try.underlying173 Try.underlying121 (c := ((n.natAbs % 4294967296 : Nat) : Int)) (wr32 rfl)) ?_
    refine WP.s .n (O.mv rfl) ?_
    refine WP.s .n (O.shr rfl rfl (by omega) (c := ((n.natAbs / 2 ^ 32 : Nat) : Int)) (shrN 32 rfl rfl (by decide))) ?_
    refine WP.s .n (O.cvt rfl Try.underlying173 Try.underlying121 (c := ((n.natAbs / 2 ^ 32 : Nat) : Int)) (wrs32 (by omega))) ?_
    refine WP.s .n (O.bs Try.underlying29 el121_limb (evl.l rfl (u32_limb (x := (n.natAbs % 4294967296 : Nat)) (by omega)) (evl.l rfl (u32_limb (x := (n.natAbs / 2 ^ 32 : Nat)) (by omega)) evl.n)) rfl (by decide)) ?_
    refine WP.s .n (O.fn fn152 (evs.c rfl (evs.c rfl evs.nil)) (c_ref02_made (decide (n < 0)) [(n.natAbs % 4294967296 : Nat), (n.natAbs / 2 ^ 32 : Nat)])) ?_
    refine WP.t .n (O.stW (l := kC) (u := ival ((decide (n < 0)), [(n.natAbs % 4294967296 : Nat), (n.natAbs / 2 ^ 32 : Nat)])) 0 rfl rfl rfl ty31 rfl (VP.le_refl _)) ?_
    refine WP.nil ?_
    refine QE.next ?_
    refine CW.ret ?_
    refine ST.obtold 0 rfl (OB.box_eq (y := n) of_val) ?_
    exact QE.done (.inl rfl) rfl (ResOk.c rfl (mem_at 0 rfl) ty31 ResOk.nil) (OImp.sub (List.nil_sublist _)) ⟨rfl, rfl⟩

end Fw


/- What the helpers of the statements on layer 24 answer. -/
set_option linter.unusedVariables false
set_option linter.unusedSimpArgs false
set_option exponentiation.threshold 70
namespace Fw
open Go Go.Proofs

end Fw


/- Plain facts on weights and blocks. -/
set_option linter.unusedVariables false
set_option linter.unusedSimpArgs false
set_option exponentiation.threshold 600
namespace Fw

end Fw


/- Which weights may be; the sum of a block. -/
set_option linter.unusedVariables false
set_option linter.unusedSimpArgs false
set_option exponentiation.threshold 70
namespace Fw
open Go Go.Proofs

end Fw


/- Plain facts on limbs: products, quotients by one limb, shifts. -/
set_option linter.unusedVariables false
set_option linter.unusedSimpArgs false
set_option exponentiation.threshold 70
namespace Fw
open Go (IntKind)

theorem Lims.set {l : List Nat} {k d : Nat} (h : Lims l) (hd : d < 4294967296) : Lims (l.set k d) := fun x hx => by
  rcases List.mem_or_eq_of_mem_set hx with hx | rfl
  · exact h x hx
  · exact hd
/-! ### By one limb -/
end Fw


/- Plain facts on whole numbers: more of layer 2. -/
set_option linter.unusedVariables false
set_option linter.unusedSimpArgs false
set_option exponentiation.threshold 70
namespace Fw

end Fw


/- Plain facts on whole numbers: the floor of a quotient. -/
set_option linter.unusedVariables false
set_option linter.unusedSimpArgs false
set_option exponentiation.threshold 70
namespace Fw
end Fw


/- What more of the document's functions of layers 1 and 2 answer. -/
set_option linter.unusedVariables false
set_option linter.unusedSimpArgs false
set_option exponentiation.threshold 70
namespace Fw
open Go Go.Proofs

end Fw


/- Plain facts: weights that climb, all choices with a sum, the greedy block. -/
set_option linter.unusedVariables false
set_option linter.unusedSimpArgs false
set_option exponentiation.threshold 400
namespace Fw
open Go

/-! ### The greedy block -/
/-! ### All choices -/
/-! ### Steps -/
end Fw


/- What Mul and short of layer 1 answer. -/
set_option linter.unusedVariables false
set_option linter.unusedSimpArgs false
set_option exponentiation.threshold 70
namespace Fw
open Go Go.Proofs

end Fw


/- Plain facts on limbs: shifts, digits of a quotient. -/
set_option linter.unusedVariables false
set_option linter.unusedSimpArgs false
set_option exponentiation.threshold 70
namespace Fw
open Go (IntKind)
/-! ### A window -/
end Fw


/- Plain facts on limbs: shifts by less than a limb; a long quotient. -/
set_option linter.unusedVariables false
set_option linter.unusedSimpArgs false
set_option exponentiation.threshold 70
namespace Fw
open Go (IntKind)
/-! ### shr -/
end Fw


/- What shl, shr, digit and Div of layer 1 answer. -/
set_option linter.unusedVariables false
set_option linter.unusedSimpArgs false
set_option exponentiation.threshold 70
namespace Fw
open Go Go.Proofs

end Fw


/- Plain facts on limbs: a long quotient. -/
set_option linter.unusedVariables false
set_option linter.unusedSimpArgs false
set_option exponentiation.threshold 70
namespace Fw
open Go (IntKind)
end Fw


/- What Div and Gcd of layer 1 answer. -/
set_option linter.unusedVariables false
set_option linter.unusedSimpArgs false
set_option exponentiation.threshold 70
namespace Fw
open Go Go.Proofs

end Fw


/- What more functions of layer 2 answer. -/
set_option linter.unusedVariables false
set_option linter.unusedSimpArgs false
set_option exponentiation.threshold 70
namespace Fw
open Go Go.Proofs

set_option maxRecDepth 20000 in
set_option maxHeartbeats 1000000 in
theorem c_zint_Of (n : Int) : Fn Try.prog 74 [kI64.is n] (kC.is n) := by
  refine Con.enter Try.func74 rfl rfl fun m w => ?_
  refine ST.fact (i := 0) rfl int_rng fun hn => ?_
  refine ST.told (q := (kInt .i64).is n) 0 rfl (i64_le _) ?_
  refine CW.seq ?_
  refine CW.region ?_
  refine WP.al .n z31_C fun b1 => ?_
  refine WP.nil ?_
  refine QE.next ?_
  refine CW.seq ?_
  refine CW.region ?_
  refine WP.s .n (O.mv rfl) ?_
  refine WP.s .n (O.cvt rfl Try.underlying2 Try.underlying173 rfl) ?_
  refine WP.s .n (O.asg rfl) ?_
  refine WP.nil ?_
  refine QE.next ?_
  refine CW.seq ?_
  refine CW.seq ?_
  refine CW.region ?_
  refine WP.s .n (O.mv rfl) ?_
  refine WP.s .n (O.lt rfl rfl) ?_
  refine WP.nil ?_
  refine QE.next ?_
  refine CW.condD rfl (fun h_t7 => ?_) (fun h_t7 => ?_)
  · refine CW.region ?_
    refine WP.s .n (O.mv rfl) ?_
    refine WP.s .n (O.neg rfl (c := ((n.natAbs : Nat) : Int)) (of_neg h_t7 hn.1)) ?_
    refine WP.s .n (O.asg rfl) ?_
    refine WP.nil ?_
    refine QE.next ?_
    refine CW.seq ?_
    refine CW.region ?_
    refine WP.s .n (O.mv rfl) ?_
    refine WP.s .n (O.lt rfl rfl) ?_
    refine WP.s .n (O.mv rfl) ?_
    refine WP.s .n (O.cvt rfl Try.underlying173 Try.underlying121 (c := ((n.natAbs % 4294967296 : Nat) : Int)) (wr32 rfl)) ?_
    refine WP.s .n (O.mv rfl) ?_
    refine WP.s .n (O.shr rfl rfl (by omega) (c := ((n.natAbs / 2 ^ 32 : Nat) : Int)) (shrN 32 rfl rfl (by decide))) ?_
    refine WP.s .n (O.cvt rfl Try.underlying173 Try.underlying121 (c := ((n.natAbs / 2 ^ 32 : Nat) : Int)) (wrs32 (by omega))) ?_
    refine WP.s .n (O.bs Try.underlying29 el121_limb (evl.l rfl (u32_limb (x := (n.natAbs % 4294967296 : Nat)) (by omega)) (evl.l rfl (u32_limb (x := (n.natAbs / 2 ^ 32 : Nat)) (by omega)) evl.n)) rfl (by decide)) ?_
    refine WP.s .n (O.fn fn147 (evs.c rfl (evs.c rfl evs.nil)) (c_zint_made (decide (n < 0)) [(n.natAbs % 4294967296 : Nat), (n.natAbs / 2 ^ 32 : Nat)])) ?_
    refine WP.t .n (O.stW (l := kC) (u := ival ((decide (n < 0)), [(n.natAbs % 4294967296 : Nat), (n.natAbs / 2 ^ 32 : Nat)])) 0 rfl rfl rfl ty31 rfl (VP.le_refl _)) ?_
    refine WP.nil ?_
    refine QE.next ?_
    refine CW.ret ?_
    refine ST.obtold 0 rfl (OB.box_eq (y := n) of_val) ?_
    exact QE.done (.inl rfl) rfl (ResOk.c rfl (mem_at 0 rfl) ty31 ResOk.nil) (OImp.sub (List.nil_sublist _)) ⟨rfl, rfl⟩
  · refine ST.told 3 rfl (is_eq (y := ((n.natAbs : Nat) : Int)) (of_pos h_t7 hn.2)) ?_
    refine CW.skip ?_
    refine QE.next ?_
    refine CW.seq ?_
    refine CW.region ?_
    refine WP.s .n (O.mv rfl) ?_
    refine WP.s .n (O.lt rfl rfl) ?_
    refine WP.s .n (O.mv rfl) ?_
    refine WP.s .n (O.cvt rfl Try.underlying173 Try.underlying121 (c := ((n.natAbs % 4294967296 : Nat) : Int)) (wr32 rfl)) ?_
    refine WP.s .n (O.mv rfl) ?_
    refine WP.s .n (O.shr rfl rfl (by omega) (c := ((n.natAbs / 2 ^ 32 : Nat) : Int)) (shrN 32 rfl rfl (by decide))) ?_
    refine WP.s .n (O.cvt rfl Try.underlying173 Try.underlying121 (c := ((n.natAbs / 2 ^ 32 : Nat) : Int)) (wrs32 (by omega))) ?_
    refine WP.s .n (O.bs Try.underlying29 el121_limb (evl.l rfl (u32_limb (x := (n.natAbs % 4294967296 : Nat)) (by omega)) (evl.l rfl (u32_limb (x := (n.natAbs / 2 ^ 32 : Nat)) (by omega)) evl.n)) rfl (by decide)) ?_
    refine WP.s .n (O.fn fn147 (evs.c rfl (evs.c rfl evs.nil)) (c_zint_made (decide (n < 0)) [(n.natAbs % 4294967296 : Nat), (n.natAbs / 2 ^ 32 : Nat)])) ?_
    refine WP.t .n (O.stW (l := kC) (u := ival ((decide (n < 0)), [(n.natAbs % 4294967296 : Nat), (n.natAbs / 2 ^ 32 : Nat)])) 0 rfl rfl rfl ty31 rfl (VP.le_refl _)) ?_
    refine WP.nil ?_
    refine QE.next ?_
    refine CW.ret ?_
    refine ST.obtold 0 rfl (OB.box_eq (y := n) of_val) ?_
    exact QE.done (.inl rfl) rfl (ResOk.c rfl (mem_at 0 rfl) ty31 ResOk.nil) (OImp.sub (List.nil_sublist _)) ⟨rfl, rfl⟩

end Fw


/- Weights that climb, choices and the greedy block: what the functions answer. -/
set_option linter.unusedVariables false
set_option linter.unusedSimpArgs false
set_option exponentiation.threshold 400
namespace Fw
open Go Go.Proofs

end Fw


/- Plain facts on limbs: the document's quotient. -/
set_option linter.unusedVariables false
set_option linter.unusedSimpArgs false
set_option exponentiation.threshold 70
namespace Fw
open Go (IntKind)
end Fw


/- What the document's functions on quotients of limbs answer. -/
set_option linter.unusedVariables false
set_option linter.unusedSimpArgs false
set_option exponentiation.threshold 70
namespace Fw
open Go Go.Proofs

end Fw


/- What Floor of layer 2 answers. -/
set_option linter.unusedVariables false
set_option linter.unusedSimpArgs false
set_option exponentiation.threshold 70
namespace Fw
open Go Go.Proofs

end Fw


/- What Exact of layer 2 answers. -/
set_option linter.unusedVariables false
set_option linter.unusedSimpArgs false
set_option exponentiation.threshold 70
namespace Fw
open Go Go.Proofs

end Fw


/- Plain facts: rationals in lowest terms, bits of vectors and matrices, the rows of a sum. -/
set_option linter.unusedVariables false
set_option linter.unusedSimpArgs false
set_option exponentiation.threshold 400
namespace Fw
open Go

/-! ### Sizes -/
/-- Of at most n bits. -/
def Sz (n : Nat) (z : Int) : Prop := z.natAbs < 2 ^ n
theorem Sz.up {n m : Nat} {z : Int} (h : Sz n z) (hm : n ≤ m) : Sz m z := Nat.lt_of_lt_of_le h (Nat.pow_le_pow_right (by decide) hm)
theorem Sz.neg {n : Nat} {z : Int} (h : Sz n z) : Sz n (-z) := by unfold Sz at *; rwa [Int.natAbs_neg]
theorem Sz.add {n m : Nat} {x y : Int} (h : Sz n x) (k : Sz m y) : Sz (n + m + 1) (x + y) := by
  unfold Sz at *
  have h1 : (x + y).natAbs ≤ x.natAbs + y.natAbs := Int.natAbs_add_le x y
  have h2 : 2 ^ n ≤ 2 ^ (n + m) := Nat.pow_le_pow_right (by decide) (by omega)
  have h3 : 2 ^ m ≤ 2 ^ (n + m) := Nat.pow_le_pow_right (by decide) (by omega)
  rw [Nat.pow_succ]
  omega
theorem Sz.max {n m : Nat} {x y : Int} (h : Sz n x) (k : Sz m y) : Sz (Nat.max n m + 1) (x + y) := by
  have h' := Sz.up h (Nat.le_max_left n m)
  have k' := Sz.up k (Nat.le_max_right n m)
  unfold Sz at *
  have h1 : (x + y).natAbs ≤ x.natAbs + y.natAbs := Int.natAbs_add_le x y
  have e : Max.max n m = Nat.max n m := rfl
  rw [e] at h' k'
  rw [Nat.pow_succ]
  omega
theorem Sz.sub {n m : Nat} {x y : Int} (h : Sz n x) (k : Sz m y) : Sz (n + m + 1) (x - y) := by
  rw [Int.sub_eq_add_neg]; exact h.add k.neg
theorem Sz.mul {n m : Nat} {x y : Int} (h : Sz n x) (k : Sz m y) : Sz (n + m) (x * y) := by
  unfold Sz at *
  rw [Int.natAbs_mul, Nat.pow_add]
  exact Nat.mul_lt_mul'' h k
theorem Sz.le {n : Nat} {x y : Int} (h : Sz n x) (hl : y.natAbs ≤ x.natAbs) : Sz n y := Nat.lt_of_le_of_lt hl h
theorem Sz.zero (n : Nat) : Sz n 0 := Nat.two_pow_pos n

/-! ### Rationals -/
/-! ### Bits -/
/-! ### Density, sums, rows -/
end Fw


/- Rationals in lowest terms; the document's floor. -/
set_option linter.unusedVariables false
set_option linter.unusedSimpArgs false
set_option exponentiation.threshold 400
namespace Fw
open Go Go.Proofs

end Fw


/- Plain facts: Gauss's steps on binary forms. -/
set_option linter.unusedVariables false
set_option linter.unusedSimpArgs false
set_option exponentiation.threshold 400
namespace Fw
open Go

def posF (A B C : Int) : Prop := 0 < A ∧ B * B < 4 * (A * C)
instance (A B C : Int) : Decidable (posF A B C) := by unfold posF; infer_instance
def kF (A B : Int) : Int := (A - B).fdiv (A + A)
def sB (A B : Int) : Int := B + (A * kF A B + A * kF A B)
def sC (A B C : Int) : Int := (A * kF A B + B) * kF A B + C
def redF (A B C : Int) : Prop := A < C ∨ (A = C ∧ 0 ≤ B)
instance (A B C : Int) : Decidable (redF A B C) := by unfold redF; infer_instance
def gFlag (A B : Int) : Nat := if 0 ≤ B ∧ B ≤ A then 0 else 1
theorem sq_nn (x : Int) : 0 ≤ x * x := by
  rcases Int.le_total 0 x with h | h
  · exact Int.mul_nonneg h h
  · exact Int.mul_nonneg_of_nonpos_of_nonpos h h
theorem kF_rng {A B : Int} (hA : 0 < A) : A * kF A B + A * kF A B ≤ A - B ∧ A - B < A * kF A B + A * kF A B + (A + A) := by
  have h1 := Int.fmod_nonneg_of_pos (A - B) (show 0 < A + A by omega)
  have h2 := Int.fmod_lt_of_pos (A - B) (show 0 < A + A by omega)
  have h3 := Int.mul_fdiv_add_fmod (A - B) (A + A)
  have h4 : (A + A) * (A - B).fdiv (A + A) = A * kF A B + A * kF A B := by unfold kF; rw [Int.add_mul]
  omega
theorem sB_rng {A B : Int} (hA : 0 < A) : -A < sB A B ∧ sB A B ≤ A := by
  have := kF_rng (B := B) hA
  unfold sB; omega
theorem disc_s (A B C : Int) : sB A B * sB A B - 4 * (A * sC A B C) = B * B - 4 * (A * C) := by
  unfold sB sC
  generalize kF A B = k
  grind
theorem pos_s {A B C : Int} (h : posF A B C) : sB A B * sB A B < 4 * (A * sC A B C) ∧ 0 < sC A B C := by
  have h1 := disc_s A B C
  have h2 : sB A B * sB A B < 4 * (A * sC A B C) := by have := h.2; omega
  refine ⟨h2, ?_⟩
  have h3 := sq_nn (sB A B)
  rcases Int.lt_or_le 0 (sC A B C) with h4 | h4
  · exact h4
  · have := Int.mul_nonpos_of_nonneg_of_nonpos (Int.le_of_lt h.1) h4
    omega
theorem kF_0 {A B : Int} (hA : 0 < A) (h : 0 ≤ B ∧ B ≤ A) : kF A B = 0 := by
  unfold kF
  rw [Int.fdiv_eq_ediv_of_nonneg _ (by omega)]
  exact Int.ediv_eq_zero_of_lt (by omega) (by omega)
theorem g_dec {A B C : Int} (h : posF A B C ∧ ¬ redF A (sB A B) (sC A B C)) : 2 * (sC A B C).toNat + gFlag (sC A B C) (-(sB A B)) < 2 * A.toNat + gFlag A B := by
  obtain ⟨hp, hr⟩ := h
  obtain ⟨h1, h2⟩ := pos_s hp
  have hA := hp.1
  have h3 := sB_rng (B := B) hA
  unfold redF at hr
  by_cases hc : sC A B C < A
  · have h4 : gFlag (sC A B C) (-(sB A B)) ≤ 1 := by unfold gFlag; split <;> omega
    omega
  · have h5 : A = sC A B C := by omega
    have h6 : sB A B < 0 := by omega
    have h7 : gFlag (sC A B C) (-(sB A B)) = 0 := by unfold gFlag; rw [if_pos (by omega)]
    have h8 : gFlag A B = 1 := by
      unfold gFlag
      rw [if_neg]
      intro h9
      have := kF_0 hA h9
      have h10 : sB A B = B := by unfold sB; rw [this]; omega
      omega
    omega
/-- Gauss's steps, with what they change. -/
def gs (A B C x y z t : Int) : (Int × Int × Int) × List Int :=
  if h : posF A B C ∧ ¬ redF A (sB A B) (sC A B C) then gs (sC A B C) (-(sB A B)) A (y + x * kF A B) (-x) (t + z * kF A B) (-z)
  else ((A, sB A B, sC A B C), [x, y + x * kF A B, z, t + z * kF A B])
termination_by 2 * A.toNat + gFlag A B
decreasing_by exact g_dec h
/-- The reduced form alone. -/
def g1 (A B C : Int) : Int × Int × Int := (gs A B C 1 0 0 1).1
/-! ### What the change makes -/
/-! ### The steps' numbers -/
end Fw


/- Plain facts: what the functions on binary forms answer. -/
set_option linter.unusedVariables false
set_option linter.unusedSimpArgs false
set_option exponentiation.threshold 400
namespace Fw
open Go

end Fw


/- Gauss on binary forms: what the functions answer. -/
set_option linter.unusedVariables false
set_option linter.unusedSimpArgs false
set_option exponentiation.threshold 400
namespace Fw
open Go Go.Proofs

set_option maxRecDepth 20000 in
set_option maxHeartbeats 1000000 in
theorem c_law22_eq (x y : Bool × List Nat) : Fn Try.prog 29 [kI.is x, kI.is y] (kBool.is (decide (x = y))) := by
  refine Con.enter Try.func29 rfl rfl fun m w => ?_
  refine CW.seq ?_
  refine CW.region ?_
  refine WP.bx .n rfl fun b1 => ?_
  refine WP.bx .n rfl fun b2 => ?_
  refine WP.s .n (O.asg rfl) ?_
  refine WP.nil ?_
  refine QE.next ?_
  refine CW.seq ?_
  refine CW.seq ?_
  refine CW.region ?_
  refine WP.s .n (O.fa rfl fld31_0 rfl) ?_
  refine WP.s .n (O.ld rfl (mem_at 1 rfl) (Lens.fst (Lens.id _)) ty4 rfl) ?_
  refine WP.s .n (O.fa rfl fld31_0 rfl) ?_
  refine WP.s .n (O.ld rfl (mem_at 0 rfl) (Lens.fst (Lens.id _)) ty4 rfl) ?_
  refine WP.s .n (O.neB rfl rfl Try.underlying4) ?_
  refine WP.s .n (O.mv rfl) ?_
  refine WP.splitD 11 rfl (fun h_t11 => ?_) (fun h_t11 => ?_)
  · refine WP.ku (b := true) rfl rfl ?_
    refine WP.ku (b := true) rfl rfl ?_
    refine WP.ku (b := true) rfl rfl ?_
    refine WP.ku (b := true) rfl rfl ?_
    refine WP.ku (b := true) rfl rfl ?_
    refine WP.ku (b := true) rfl rfl ?_
    refine WP.ku (b := true) rfl rfl ?_
    refine WP.s .n (O.pickT rfl rfl) ?_
    refine WP.nil ?_
    refine QE.next ?_
    refine CW.condT rfl ?_
    refine CW.seq ?_
    refine CW.region ?_
    refine WP.s .n (O.asg rfl) ?_
    refine WP.nil ?_
    refine QE.next ?_
    refine CW.ret ?_
    refine QE.thenR ?_
    refine ST.told 4 rfl (is_eq (y := (decide (x = y))) (by rw [eq_comm, decide_eq_false_iff_not]; intro e; exact h_t11 (by rw [e]))) ?_
    exact QE.done (.inl rfl) rfl (ResOk.t rfl ResOk.nil) (OImp.sub (List.nil_sublist _)) ⟨rfl, rfl⟩
  · refine WP.s (.g rfl rfl) (O.fa rfl fld31_1 rfl) ?_
    refine WP.s (.g rfl rfl) (O.ld rfl (mem_at 1 rfl) (Lens.snd (Lens.id _)) ty29 rfl) ?_
    refine WP.s (.g rfl rfl) (O.lenS rfl Try.underlying29) ?_
    refine WP.s (.g rfl rfl) (O.fa rfl fld31_1 rfl) ?_
    refine WP.s (.g rfl rfl) (O.ld rfl (mem_at 0 rfl) (Lens.snd (Lens.id _)) ty29 rfl) ?_
    refine WP.s (.g rfl rfl) (O.lenS rfl Try.underlying29) ?_
    refine WP.s (.g rfl rfl) (O.ne rfl rfl) ?_
    refine WP.s .n (O.pickF rfl rfl) ?_
    refine WP.nil ?_
    refine QE.next ?_
    refine CW.condD rfl (fun h_t19 => ?_) (fun h_t19 => ?_)
    · refine CW.seq ?_
      refine CW.region ?_
      refine WP.s .n (O.asg rfl) ?_
      refine WP.nil ?_
      refine QE.next ?_
      refine CW.ret ?_
      refine QE.thenR ?_
      refine ST.told 4 rfl (is_eq (y := (decide (x = y))) (by rw [eq_comm, decide_eq_false_iff_not]; intro e; exact h_t19 (by rw [e]))) ?_
      exact QE.done (.inl rfl) rfl (ResOk.t rfl ResOk.nil) (OImp.sub (List.nil_sublist _)) ⟨rfl, rfl⟩
    · refine CW.skip ?_
      refine QE.next ?_
      refine CW.seq ?_
      refine CW.seq ?_
      refine ST.fact (i := 13) rfl sl_len fun hB => ?_
      refine CW.region ?_
      refine WP.s .n (O.asg rfl) ?_
      refine WP.nil ?_
      refine QE.next ?_
      refine CW.block ?_
      refine CW.loop (fun (i : Nat) => i ≤ x.2.length ∧ x.2.take i = y.2.take i) (fun (i : Nat) => [(2, VP.ex (.pointer (some ⟨b1, 0, none⟩))), (3, VP.ex (.pointer (some ⟨b2, 0, none⟩))), (5, (kInt .i64).is (i : Int))]) (fun (i : Nat) => [OB.box b2 31 kI y, OB.box b1 31 kI x]) (fun (i : Nat) => x.2.length - i) 0 ⟨Nat.zero_le _, rfl⟩ (Imp.cons rfl (Imp.cons rfl (Imp.consLe rfl (is_eq (y := (0 : Int)) (by omega)) Imp.nil))) (OImp.refl _) ?_
      intro i ⟨hi, ht⟩
      refine CW.seq ?_
      refine CW.seq ?_
      refine CW.region ?_
      refine WP.s .n (O.mv rfl) ?_
      refine WP.s .n (O.fa rfl fld31_1 rfl) ?_
      refine WP.s .n (O.ld rfl (mem_at 1 rfl) (Lens.snd (Lens.id _)) ty29 rfl) ?_
      refine WP.s .n (O.lenS rfl Try.underlying29) ?_
      refine WP.s .n (O.lt rfl rfl) ?_
      refine WP.nil ?_
      refine QE.next ?_
      refine CW.condD rfl (fun h_t24 => ?_) (fun h_t24 => ?_)
      · refine CW.skip ?_
        refine QE.next ?_
        refine CW.seq ?_
        refine CW.block ?_
        refine CW.seq ?_
        refine CW.draw (Γ := [.fr (VP.ex (.pointer (some ⟨b1, 1, none⟩))), .fr (kN.is x.2), .fr ((kInt .i64).is (i : Int)), .fr (VP.pim kLimb (x.2.getD i 0)), .fr ((kInt .u32).is ((x.2.getD i 0) : Int)), .fr (VP.ex (.pointer (some ⟨b2, 1, none⟩))), .fr (kN.is y.2), .fr ((kInt .i64).is (i : Int)), .fr (VP.pim kLimb (y.2.getD i 0)), .fr ((kInt .u32).is ((y.2.getD i 0) : Int)), .fr (kBool.is (decide (((x.2.getD i 0) : Int) ≠ ((y.2.getD i 0) : Int))))]) (lates := [false, false, false, false, false, false, false, false, false, false, false]) (by kernel_rfl) (Chk.of rfl (by kernel_rfl) rfl) (fun _ _ _ _ _ h => h) (fun q_ x_ h_ => ?_) (fun σ1 => ?_)
        · match q_, h_ with
          | 0, h_ => cases h_; exact Ob.f rfl .n fun N => (O.fa rfl fld31_1 rfl)
          | 1, h_ => cases h_; exact Ob.f rfl .n fun N => (O.ld rfl (mem_app N (mem_at 1 rfl)) (Lens.snd (Lens.id _)) ty29 rfl)
          | 2, h_ => cases h_; exact Ob.f rfl .n fun N => (O.mv rfl)
          | 3, h_ => cases h_; exact Ob.f rfl .n fun N => (O.ix i rfl rfl Try.underlying29 ty121 rfl (v := (x.2.getD i 0)) (gd 0 (by omega)))
          | 4, h_ => cases h_; exact Ob.f rfl .n fun N => (OpOk.le (O.ldP rfl ty121) (limb_le _))
          | 5, h_ => cases h_; exact Ob.f rfl .n fun N => (O.fa rfl fld31_1 rfl)
          | 6, h_ => cases h_; exact Ob.f rfl .n fun N => (O.ld rfl (mem_app N (mem_at 0 rfl)) (Lens.snd (Lens.id _)) ty29 rfl)
          | 7, h_ => cases h_; exact Ob.f rfl .n fun N => (O.mv rfl)
          | 8, h_ => cases h_; exact Ob.f rfl .n fun N => (O.ix i rfl rfl Try.underlying29 ty121 rfl (v := (y.2.getD i 0)) (gd 0 (by omega)))
          | 9, h_ => cases h_; exact Ob.f rfl .n fun N => (OpOk.le (O.ldP rfl ty121) (limb_le _))
          | 10, h_ => cases h_; exact Ob.f rfl .n fun N => (O.ne rfl rfl)
          | n_ + 11, h_ => simp at h_
        refine WP.nil ?_
        refine QE.next ?_
        refine CW.condD rfl (fun h_t37 => ?_) (fun h_t37 => ?_)
        · refine CW.seq ?_
          refine CW.region ?_
          refine WP.s .n (O.asg rfl) ?_
          refine WP.nil ?_
          refine QE.next ?_
          refine CW.ret ?_
          refine QE.blkR ?_
          refine QE.thenR ?_
          refine QE.thenR ?_
          refine QE.blkR ?_
          refine QE.thenR ?_
          refine ST.told 4 rfl (is_eq (y := (decide (x = y))) (by rw [eq_comm, decide_eq_false_iff_not]; intro e; exact h_t37 (by rw [e]))) ?_
          exact QE.done (.inl rfl) rfl (ResOk.t rfl ResOk.nil) (OImp.sub (List.nil_sublist _)) ⟨rfl, rfl⟩
        · refine CW.skip ?_
          refine QE.blkN ?_
          refine QE.next ?_
          refine CW.region ?_
          refine WP.s .n (O.mv rfl) ?_
          refine WP.s .n (O.add rfl rfl (c := ((i : Int) + 1)) (w64 (by omega))) ?_
          refine WP.s .n (O.asg rfl) ?_
          refine WP.nil ?_
          exact QE.round (i + 1) (by omega) ⟨by omega, eq_take (d := 0) (by omega) (by omega) ht (by omega)⟩ (Imp.cons rfl (Imp.cons rfl (Imp.consLe rfl (is_eq (y := (((i + 1) : Nat) : Int)) (by omega)) Imp.nil))) (OImp.refl _)
      · refine CW.exit ?_
        refine QE.thenE ?_
        refine QE.thenE ?_
        refine QE.blkH ?_
        refine QE.next ?_
        refine CW.seq ?_
        refine CW.region ?_
        refine WP.s .n (O.asg rfl) ?_
        refine WP.nil ?_
        refine QE.next ?_
        refine CW.ret ?_
        refine ST.told 4 rfl (is_eq (y := (decide (x = y))) (by rw [eq_comm, decide_eq_true_iff]; exact Prod.ext (by simpa using h_t11) (eq_full (i := i) (by omega) (by omega) ht))) ?_
        exact QE.done (.inl rfl) rfl (ResOk.t rfl ResOk.nil) (OImp.sub (List.nil_sublist _)) ⟨rfl, rfl⟩

end Fw


/- Which forms are one; the document on binary forms; the statement QuadBinaries. -/
set_option linter.unusedVariables false
set_option linter.unusedSimpArgs false
set_option exponentiation.threshold 400
namespace Fw
open Go Go.Proofs

end Fw


/- Plain facts: all reduced forms of a discriminant, one by one; rising lists. -/
set_option linter.unusedVariables false
set_option linter.unusedSimpArgs false
namespace Fw
open Go

/-! ### The numbers' divisor -/
theorem gcd_tmod (a b : Int) : Int.gcd b (a.tmod b) = Int.gcd a b := by
  have h : a.tmod b = a + b * (-(a.tdiv b)) := by
    have := Int.mul_tdiv_add_tmod a b
    rw [Int.mul_neg]; omega
  rw [h, Int.gcd_comm a b, Int.gcd_add_mul_left_right]
theorem tmod_abs {a b : Int} (hb : b ≠ 0) : (a.tmod b).natAbs < b.natAbs := by
  rw [Int.natAbs_tmod]
  exact Nat.mod_lt _ (by omega)
theorem gcd_end (a : Int) : max a (0 - a) = (Int.gcd a 0 : Int) := by rw [Int.gcd_zero]; omega

/-! ### Lists of triples -/
abbrev T3 := Int × Int × Int
def cT (d a b : Int) : Int := (b * b - d).tdiv (4 * a)
def condT (d a b : Int) : Prop := (b * b - d).tmod (4 * a) = 0 ∧ ¬ cT d a b < a ∧ ¬ (cT d a b = a ∧ b < 0) ∧ ((Int.gcd (Int.gcd a b : Int) (cT d a b) : Nat) : Int) = 1
instance (d a b : Int) : Decidable (condT d a b) := by unfold condT; infer_instance
def rowT (d a : Int) : Nat → List T3
  | 0 => []
  | j + 1 => rowT d a j ++ (if condT d a (1 - a + j) then [(a, 1 - a + j, cT d a (1 - a + j))] else [])
def allT (d : Int) : Nat → Int → List T3
  | 0, _ => []
  | f + 1, a => if 3 * a * a ≤ -d then rowT d a (2 * a).toNat ++ allT d f (a + 1) else []
def listT (d : Int) : List T3 := allT d 99 1
theorem rowT_s {d a b : Int} (h : 1 - a ≤ b) : rowT d a (b + 1 - (1 - a)).toNat = rowT d a (b - (1 - a)).toNat ++ (if condT d a b then [(a, b, cT d a b)] else []) := by
  have e : (b + 1 - (1 - a)).toNat = (b - (1 - a)).toNat + 1 := by omega
  rw [e]
  simp only [rowT]
  rw [show 1 - a + (((b - (1 - a)).toNat : Nat) : Int) = b from by omega]
theorem rowT_len (d a : Int) : ∀ j, (rowT d a j).length ≤ j
  | 0 => by simp [rowT]
  | j + 1 => by have := rowT_len d a j; simp only [rowT, List.length_append]; split <;> simp <;> omega
theorem rowT_mem {d a : Int} : ∀ {j : Nat} {x : T3}, x ∈ rowT d a j → x.1 = a ∧ 1 - a ≤ x.2.1 ∧ x.2.1 < 1 - a + j ∧ x.2.2 = cT d a x.2.1
  | 0, x, h => by simp [rowT] at h
  | j + 1, x, h => by
    simp only [rowT, List.mem_append] at h
    rcases h with h | h
    · obtain ⟨h1, h2, h3, h4⟩ := rowT_mem h
      exact ⟨h1, h2, by omega, h4⟩
    · split at h
      · simp at h; subst h; exact ⟨rfl, by show 1 - a ≤ 1 - a + (j : Int); omega, by show 1 - a + (j : Int) < 1 - a + ((j + 1 : Nat) : Int); omega, rfl⟩
      · cases h
def tlt (x y : T3) : Prop := x.1 < y.1 ∨ (x.1 = y.1 ∧ x.2.1 < y.2.1)
theorem rowT_rise (d a : Int) : ∀ j, (rowT d a j).Pairwise tlt
  | 0 => List.Pairwise.nil
  | j + 1 => by
    simp only [rowT]
    refine List.pairwise_append.2 ⟨rowT_rise d a j, ?_, fun x hx y hy => ?_⟩
    · split <;> simp
    · obtain ⟨h1, h2, h3, h4⟩ := rowT_mem hx
      split at hy
      · simp at hy; subst hy; exact .inr ⟨h1, h3⟩
      · cases hy
theorem allT_mem {d : Int} : ∀ {f : Nat} {a : Int} {x : T3}, x ∈ allT d f a → a ≤ x.1 ∧ 3 * x.1 * x.1 ≤ -d ∧ 1 - x.1 ≤ x.2.1 ∧ x.2.1 < 1 - x.1 + (2 * x.1).toNat ∧ x.2.2 = cT d x.1 x.2.1
  | 0, a, x, h => by simp [allT] at h
  | f + 1, a, x, h => by
    simp only [allT] at h
    split at h
    · rename_i hc
      rcases List.mem_append.1 h with h | h
      · obtain ⟨h1, h2, h3, h4⟩ := rowT_mem h
        rw [h1]
        exact ⟨Int.le_refl _, hc, h2, h3, h4⟩
      · obtain ⟨h1, h2⟩ := allT_mem h
        exact ⟨by omega, h2⟩
    · cases h
theorem allT_rise (d : Int) : ∀ (f : Nat) (a : Int), (allT d f a).Pairwise tlt
  | 0, a => List.Pairwise.nil
  | f + 1, a => by
    simp only [allT]
    split
    · refine List.pairwise_append.2 ⟨rowT_rise d a _, allT_rise d f (a + 1), fun x hx y hy => ?_⟩
      have h1 := (rowT_mem hx).1
      have h2 := (allT_mem hy).1
      exact .inl (by omega)
    · exact List.Pairwise.nil
theorem allT_go {d a : Int} (h1 : 1 ≤ a) (h2 : a ≤ 98) (h : 3 * a * a ≤ -d) : rowT d a (2 * a).toNat ++ allT d (100 - (a + 1)).toNat (a + 1) = allT d (100 - a).toNat a := by
  rw [show (100 - a).toNat = (100 - (a + 1)).toNat + 1 from by omega]
  simp only [allT]
  rw [if_pos h]
theorem allT_end {d a : Int} (h2 : a ≤ 98) (h : ¬ 3 * a * a ≤ -d) : allT d (100 - a).toNat a = [] := by
  rw [show (100 - a).toNat = (100 - (a + 1)).toNat + 1 from by omega]
  simp only [allT]
  rw [if_neg h]
/-! ### Bounds -/
theorem a_bd {d a : Int} (hd : -20000 ≤ d) (h1 : 1 ≤ a) (h : 3 * a * a ≤ -d) : a ≤ 81 := by
  rcases Int.lt_or_le 81 a with h2 | h2
  · have h3 : 82 * 82 ≤ a * a := Int.mul_le_mul h2 h2 (by decide) (by omega)
    rw [Int.mul_assoc] at h
    omega
  · exact h2
theorem sq_bd {b : Int} (h1 : -100 ≤ b) (h2 : b ≤ 100) : 0 ≤ b * b ∧ b * b ≤ 10000 := by
  have h3 : b.natAbs * b.natAbs ≤ 100 * 100 := Nat.mul_le_mul (by omega) (by omega)
  have h4 : (b.natAbs * b.natAbs : Int) = b * b := Int.natAbs_mul_self
  constructor
  · have : (0 : Int) ≤ (b.natAbs : Int) * b.natAbs := by exact_mod_cast Nat.zero_le _
    omega
  · have : ((b.natAbs * b.natAbs : Nat) : Int) ≤ 10000 := Int.ofNat_le.2 h3
    rw [Int.natCast_mul] at this
    omega
theorem aa_bd {a : Int} (h1 : 0 ≤ a) (h2 : a ≤ 100) : 0 ≤ 3 * a * a ∧ 3 * a * a ≤ 30000 := by
  have := sq_bd (b := a) (by omega) h2
  rw [Int.mul_assoc]; omega
theorem cT_bd {d a b : Int} (hd : -20000 ≤ d) (hd2 : d < 0) (h1 : 1 ≤ a) (h2 : -100 ≤ b) (h3 : b ≤ 100) : 0 ≤ cT d a b ∧ cT d a b ≤ 30000 := by
  have h4 := sq_bd h2 h3
  unfold cT
  have h5 : 0 ≤ b * b - d := by omega
  rw [Int.tdiv_eq_ediv_of_nonneg h5]
  have h6 := Int.ediv_nonneg h5 (show (0 : Int) ≤ 4 * a by omega)
  have h7 := Int.ediv_le_self (4 * a) h5
  omega
/-- What was listed so far. -/
structure ClR (d a : Int) (out : List T3) : Prop where
  e : out ++ allT d (100 - a).toNat a = listT d
  lo : 1 ≤ a
  hi : a ≤ 82
  len : (out.length : Int) ≤ 200 * (a - 1)
  mem : ∀ x ∈ out, x.1 < a
theorem clR_0 (d : Int) : ClR d 1 [] := ⟨by have e : (100 - 1 : Int).toNat = 99 := by decide
                                            unfold listT; rw [List.nil_append, e], by omega, by omega, by simp, fun x h => by cases h⟩
theorem clR_s {d a b : Int} {out : List T3} (hd : -20000 ≤ d) (h : ClR d a out) (h3 : 3 * a * a ≤ -d) (hb : b = a + 1) : ClR d (a + 1) (out ++ rowT d a (b - (1 - a)).toNat) := by
  have h1 := h.lo
  have h2 := a_bd hd h.lo h3
  have e : (b - (1 - a)).toNat = (2 * a).toNat := by omega
  rw [e]
  have hl := rowT_len d a (2 * a).toNat
  have hl2 := h.len
  refine ⟨?_, by omega, by omega, ?_, fun x hx => ?_⟩
  · rw [List.append_assoc, allT_go h.lo (by omega) h3]; exact h.e
  · rw [List.length_append]; omega
  · rcases List.mem_append.1 hx with hx | hx
    · have := h.mem x hx; omega
    · have := (rowT_mem hx).1; omega
theorem clR_end {d a : Int} {out : List T3} (h : ClR d a out) (h3 : ¬ 3 * a * a ≤ -d) : out = listT d := by
  have h1 := h.hi
  have := h.e
  rw [allT_end (by omega) h3, List.append_nil] at this
  exact this
theorem clR_not {d a b c : Int} {out : List T3} (h : ClR d a out) (hb : 1 - a ≤ b) : decide ((a, b, c) ∈ out ++ rowT d a (b - (1 - a)).toNat) = false := by
  rw [decide_eq_false_iff_not]
  intro hx
  rcases List.mem_append.1 hx with hx | hx
  · have := h.mem _ hx; simp at this
  · have := (rowT_mem hx).2.2.1
    simp only at this
    omega
theorem listT_len {d a : Int} {out : List T3} (h : ClR d a out) : out.length ≤ 16400 := by
  have h1 := h.len
  have h2 := h.hi
  omega
theorem rowT_no {d a b : Int} {out : List T3} (h : 1 - a ≤ b) (hc : ¬ condT d a b) : out ++ rowT d a (b - (1 - a)).toNat = out ++ rowT d a (b + 1 - (1 - a)).toNat := by
  rw [rowT_s h, if_neg hc, List.append_nil]
theorem rowT_yes {d a b : Int} {out : List T3} (h : 1 - a ≤ b) (hc : condT d a b) : out ++ rowT d a (b - (1 - a)).toNat ++ [(a, b, cT d a b)] = out ++ rowT d a (b + 1 - (1 - a)).toNat := by
  rw [rowT_s h, if_pos hc, List.append_assoc]

/-! ### Rising lists -/
def cmpT (p q : T3) : Int := if (p.1 - q.1).sign ≠ 0 then (p.1 - q.1).sign else if (p.2.1 - q.2.1).sign ≠ 0 then (p.2.1 - q.2.1).sign else (p.2.2 - q.2.2).sign
def rise (xs : List T3) : Prop := xs.Pairwise tlt
theorem rise_get {xs : List T3} (h : rise xs) {i j : Nat} (hij : i < j) (hj : j < xs.length) : tlt (xs.getD i (0, 0, 0)) (xs.getD j (0, 0, 0)) := by
  rw [List.getD_eq_getElem?_getD, List.getD_eq_getElem?_getD, List.getElem?_eq_getElem (by omega), List.getElem?_eq_getElem hj]
  exact (List.pairwise_iff_getElem.1 h) i j (by omega) hj hij
theorem cmpT_gt {p q : T3} (h : tlt q p) : ¬ cmpT p q < 0 := by
  unfold cmpT
  rcases h with h | ⟨h1, h2⟩
  · rw [Int.sign_eq_one_of_pos (show 0 < p.1 - q.1 by omega)]; simp
  · rw [if_neg (by rw [h1, Int.sub_self]; decide), Int.sign_eq_one_of_pos (show 0 < p.2.1 - q.2.1 by omega)]; simp
theorem rise_cmp {xs : List T3} (h : rise xs) {i j : Nat} (hij : i < j) (hj : j < xs.length) : ¬ cmpT (xs.getD j (0, 0, 0)) (xs.getD i (0, 0, 0)) < 0 := cmpT_gt (rise_get h hij hj)
/-- The first that is not nought. -/
def orV : List Int → Int
  | [] => 0
  | x :: r => if x ≠ 0 then x else orV r
theorem orV_drop {l : List Int} {i : Nat} (hi : i < l.length) (h : l.getD i 0 = 0) : orV (l.drop i) = orV (l.drop (i + 1)) := by
  rw [List.drop_eq_getElem_cons hi]
  have : l[i] = 0 := by rwa [List.getD_eq_getElem?_getD, List.getElem?_eq_getElem hi] at h
  simp only [orV]
  rw [this, if_neg (by decide)]
theorem orV_hit {l : List Int} {i : Nat} (hi : i < l.length) (h : l.getD i 0 ≠ 0) : l.getD i 0 = orV (l.drop i) := by
  rw [List.drop_eq_getElem_cons hi]
  have e : l.getD i 0 = l[i] := by rw [List.getD_eq_getElem?_getD, List.getElem?_eq_getElem hi]; rfl
  simp only [orV]
  rw [← e, if_pos h]
theorem orV_end {l : List Int} {i : Nat} (hi : l.length ≤ i) : 0 = orV (l.drop i) := by rw [List.drop_of_length_le hi]; rfl
theorem cmpT_or (p q : T3) : orV [(p.1 - q.1).sign, (p.2.1 - q.2.1).sign, (p.2.2 - q.2.2).sign] = cmpT p q := by
  unfold cmpT orV orV orV orV
  split
  · rfl
  · split
    · rfl
    · split
      · rfl
      · rename_i h; exact (Decidable.not_not.1 h).symm
theorem sg_lt' {x y : Int} (h : x < y) : (-1) = (x - y).sign := (Int.sign_eq_neg_one_of_neg (by omega)).symm
theorem sg_gt' {x y : Int} (h : y < x) : 1 = (x - y).sign := (Int.sign_eq_one_of_pos (by omega)).symm
theorem sg_eq' {x y : Int} (h : ¬ x < y) (h2 : ¬ y < x) : 0 = (x - y).sign := by rw [show x - y = 0 from by omega]; rfl
theorem getD_mem {α : Type} {xs : List α} {i : Nat} {d : α} (h : i < xs.length) : xs.getD i d ∈ xs := by
  rw [List.getD_eq_getElem?_getD, List.getElem?_eq_getElem h]; exact List.getElem_mem h
theorem sgn_rng (x : Int) : -1 ≤ x.sign ∧ x.sign ≤ 1 := by
  rcases Int.lt_trichotomy x 0 with h | h | h
  · rw [Int.sign_eq_neg_one_of_neg h]; decide
  · subst h; decide
  · rw [Int.sign_eq_one_of_pos h]; decide
theorem quo4 {n : Int} {k : Nat} (h : n = (k : Int) ∧ k ≤ 1099511627776) : IntKind.i64.wrap (n.tdiv 4) = ((k / 4 : Nat) : Int) := by
  obtain ⟨rfl, h⟩ := h
  have e : ((k : Int)).tdiv 4 = ((k / 4 : Nat) : Int) := by
    rw [Int.tdiv_eq_ediv_of_nonneg (by omega)]; exact (Int.natCast_ediv _ _).symm
  rw [e]
  exact w64 (by omega)
theorem bl_ne {n : Nat} (h : 0 < n) : (bitlen n : Int) ≠ 0 := fun h0 => by
  have h1 : bitlen n = 0 := by omega
  have := bitlen_0.1 h1
  omega
theorem gcdb (a b : Int) : ((Int.gcd a b : Nat) : Int).natAbs ≤ a.natAbs + b.natAbs := by
  rw [Int.natAbs_natCast]
  by_cases h : b = 0
  · subst h; rw [Int.gcd_zero]; omega
  · exact Nat.le_trans (Nat.le_of_dvd (by omega) (Nat.gcd_dvd_right _ _)) (by omega)
theorem tmod4 (d : Int) : -3 ≤ d.tmod 4 ∧ d.tmod 4 ≤ 3 := by
  have := tmod_abs (a := d) (b := 4) (by decide)
  omega
theorem cTw {d a b : Int} (h : 0 ≤ cT d a b ∧ cT d a b ≤ 30000) : IntKind.i64.wrap ((b * b - d).tdiv (4 * a)) = cT d a b := by
  unfold cT at *
  exact w64 (by omega)
def clV (d : Int) : List T3 × Int := if 0 ≤ d ∨ d < -20000 ∨ 1 < (d.tmod 4 + 4).tmod 4 then ([], 1) else (listT d, 0)
theorem clV_1 {d : Int} (h : 0 ≤ d ∨ d < -20000 ∨ 1 < (d.tmod 4 + 4).tmod 4) : clV d = ([], 1) := by unfold clV; rw [if_pos h]
theorem clV_2 {d : Int} (h : ¬ (0 ≤ d ∨ d < -20000 ∨ 1 < (d.tmod 4 + 4).tmod 4)) : clV d = (listT d, 0) := by unfold clV; rw [if_neg h]
theorem listT_bd {d : Int} (hd : -20000 ≤ d) (hd2 : d < 0) {x : T3} (hx : x ∈ listT d) : 1 ≤ x.1 ∧ x.1 ≤ 81 ∧ -100 ≤ x.2.1 ∧ x.2.1 ≤ 100 ∧ 0 ≤ x.2.2 ∧ x.2.2 ≤ 30000 := by
  obtain ⟨h1, h2, h3, h4, h5⟩ := allT_mem hx
  have h6 := a_bd hd h1 h2
  have h7 := cT_bd (d := d) (a := x.1) (b := x.2.1) hd hd2 h1 (by omega) (by omega)
  rw [← h5] at h7
  omega
theorem listT_rise (d : Int) : rise (listT d) := allT_rise d 99 1
end Fw


/- What the library answers of lists that rise: sorting leaves them. -/
set_option linter.unusedVariables false
set_option linter.unusedSimpArgs false
set_option exponentiation.threshold 400
namespace Fw
open Go Go.Proofs

set_option maxRecDepth 20000 in
set_option maxHeartbeats 1000000 in
theorem c_quad_gcd (a b : Int) (ha : a.natAbs ≤ 1000000000) (hb : b.natAbs ≤ 1000000000) : Fn Try.prog 126 [(kInt .i64).is a, (kInt .i64).is b] ((kInt .i64).is (Int.gcd a b : Int)) := by
  refine Con.enter Try.func126 rfl rfl fun m w => ?_
  refine CW.seq ?_
  refine CW.region ?_
  refine WP.s .n (O.asg rfl) ?_
  refine WP.nil ?_
  refine QE.next ?_
  refine CW.seq ?_
  refine CW.block ?_
  refine CW.loop2 (fun (x : Int) (y : Int) => Int.gcd x y = Int.gcd a b ∧ x.natAbs ≤ 1000000000 ∧ y.natAbs ≤ 1000000000) (fun (x : Int) (y : Int) => [(0, (kInt .i64).is x), (1, (kInt .i64).is y)]) (fun (x : Int) (y : Int) => []) (fun (x : Int) (y : Int) => y.natAbs) a b ⟨rfl, ha, hb⟩ (Imp.cons rfl (Imp.cons rfl Imp.nil)) (OImp.refl _) ?_
  intro x y ⟨hg, hx, hy⟩
  refine CW.seq ?_
  refine CW.seq ?_
  refine CW.region ?_
  refine WP.s .n (O.mv rfl) ?_
  refine WP.s .n (O.ne rfl rfl) ?_
  refine WP.nil ?_
  refine QE.next ?_
  refine CW.condD rfl (fun h_t6 => ?_) (fun h_t6 => ?_)
  · refine CW.skip ?_
    refine QE.next ?_
    refine CW.block ?_
    refine CW.join [(0, (kInt .i64).is y), (1, (kInt .i64).is (x.tmod y)), (5, (kInt .i64).is y), (6, kBool.is (decide (y ≠ 0))), (7, (kInt .i64).is y), (8, (kInt .i64).is x), (9, (kInt .i64).is y), (10, (kInt .i64).is (x.tmod y))] [] ?_ ?_
    · refine CW.any (by kernel_rfl) ?_
      refine DA.first 0 rfl (by kernel_rfl) (by kernel_rfl) (by kernel_rfl) (fun _ _ _ _ _ h => h) .n (OV.mv rfl) ?_
      refine DA.first 1 rfl (by kernel_rfl) (by kernel_rfl) (by kernel_rfl) (fun _ _ _ _ _ h => h) .n (OV.mv rfl) ?_
      refine DA.first 2 rfl (by kernel_rfl) (by kernel_rfl) (by kernel_rfl) (fun _ _ _ _ _ h => h) .n (OV.mv rfl) ?_
      refine DA.go 3 [4] (by kernel_rfl) ⟨?_, ⟨?_, trivial⟩⟩
      · refine DO.w rfl ?_
        refine WP.s .n (O.rem rfl rfl (by omega) (c := (x.tmod y)) rfl) ?_
        refine WP.nil ?_
        refine DO.nx ?_
        refine DA.go 4 [] (by kernel_rfl) ⟨?_, trivial⟩
        refine DO.w rfl ?_
        refine WP.s .n (O.asg rfl) ?_
        refine WP.nil ?_
        refine DO.nx ?_
        refine DA.go 5 [] (by kernel_rfl) ⟨?_, trivial⟩
        refine DO.w rfl ?_
        refine WP.s .n (O.asg rfl) ?_
        refine WP.nil ?_
        refine DO.nx ?_
        refine DA.nil (by kernel_rfl) ?_
        exact QE.join (Imp.cons rfl (Imp.cons rfl (Imp.cons rfl (Imp.cons rfl (Imp.cons rfl (Imp.cons rfl (Imp.cons rfl (Imp.cons rfl Imp.nil)))))))) (OImp.refl _)
      · refine DO.w rfl ?_
        refine WP.s .n (O.asg rfl) ?_
        refine WP.nil ?_
        refine DO.nx ?_
        refine DA.go 3 [] (by kernel_rfl) ⟨?_, trivial⟩
        refine DO.w rfl ?_
        refine WP.s .n (O.rem rfl rfl (by omega) (c := (x.tmod y)) rfl) ?_
        refine WP.nil ?_
        refine DO.nx ?_
        refine DA.go 5 [] (by kernel_rfl) ⟨?_, trivial⟩
        refine DO.w rfl ?_
        refine WP.s .n (O.asg rfl) ?_
        refine WP.nil ?_
        refine DO.nx ?_
        refine DA.nil (by kernel_rfl) ?_
        exact QE.join (Imp.cons rfl (Imp.cons rfl (Imp.cons rfl (Imp.cons rfl (Imp.cons rfl (Imp.cons rfl (Imp.cons rfl (Imp.cons rfl Imp.nil)))))))) (OImp.refl _)
    refine QE.blkN ?_
    exact QE.round2 y (x.tmod y) (by exact tmod_abs h_t6) ⟨(gcd_tmod x y).trans hg, hy, by have := tmod_abs (a := x) h_t6; omega⟩ (Imp.cons rfl (Imp.cons rfl Imp.nil)) (OImp.refl _)
  · refine CW.exit ?_
    refine QE.thenE ?_
    refine QE.thenE ?_
    refine QE.blkH ?_
    refine QE.next ?_
    refine CW.seq ?_
    have hy0 : y = 0 := by omega
    refine CW.region ?_
    refine WP.s .n (O.mv rfl) ?_
    refine WP.s .n (O.mv rfl) ?_
    refine WP.s .n (O.neg rfl (c := (0 - x)) (w64 (by omega))) ?_
    refine WP.s .n (O.mx rfl rfl) ?_
    refine WP.s .n (O.asg rfl) ?_
    refine WP.nil ?_
    refine QE.next ?_
    refine CW.ret ?_
    refine ST.told 4 rfl (is_eq (y := ((Int.gcd a b : Nat) : Int)) (by rw [← hg, hy0]; exact gcd_end x)) ?_
    exact QE.done (.inl rfl) rfl (ResOk.tl rfl (is_eq (y := (Int.gcd a b : Int)) (by first | rfl | omega)) ResOk.nil) (OImp.sub (List.nil_sublist _)) ⟨rfl, rfl⟩

set_option maxRecDepth 20000 in
set_option maxHeartbeats 1000000 in
theorem c_ref22_gcd (a b : Int) (ha : a.natAbs ≤ 1000000000) (hb : b.natAbs ≤ 1000000000) : Fn Try.prog 132 [(kInt .i64).is a, (kInt .i64).is b] ((kInt .i64).is (Int.gcd a b : Int)) := by
  refine Con.enter Try.func132 rfl rfl fun m w => ?_
  refine CW.seq ?_
  refine CW.region ?_
  refine WP.s .n (O.asg rfl) ?_
  refine WP.nil ?_
  refine QE.next ?_
  refine CW.seq ?_
  refine CW.block ?_
  refine CW.loop2 (fun (x : Int) (y : Int) => Int.gcd x y = Int.gcd a b ∧ x.natAbs ≤ 1000000000 ∧ y.natAbs ≤ 1000000000) (fun (x : Int) (y : Int) => [(0, (kInt .i64).is x), (1, (kInt .i64).is y)]) (fun (x : Int) (y : Int) => []) (fun (x : Int) (y : Int) => y.natAbs) a b ⟨rfl, ha, hb⟩ (Imp.cons rfl (Imp.cons rfl Imp.nil)) (OImp.refl _) ?_
  intro x y ⟨hg, hx, hy⟩
  refine CW.seq ?_
  refine CW.seq ?_
  refine CW.region ?_
  refine WP.s .n (O.mv rfl) ?_
  refine WP.s .n (O.ne rfl rfl) ?_
  refine WP.nil ?_
  refine QE.next ?_
  refine CW.condD rfl (fun h_t6 => ?_) (fun h_t6 => ?_)
  · refine CW.skip ?_
    refine QE.next ?_
    refine CW.block ?_
    refine CW.join [(0, (kInt .i64).is y), (1, (kInt .i64).is (x.tmod y)), (5, (kInt .i64).is y), (6, kBool.is (decide (y ≠ 0))), (7, (kInt .i64).is y), (8, (kInt .i64).is x), (9, (kInt .i64).is y), (10, (kInt .i64).is (x.tmod y))] [] ?_ ?_
    · refine CW.any (by kernel_rfl) ?_
      refine DA.first 0 rfl (by kernel_rfl) (by kernel_rfl) (by kernel_rfl) (fun _ _ _ _ _ h => h) .n (OV.mv rfl) ?_
      refine DA.first 1 rfl (by kernel_rfl) (by kernel_rfl) (by kernel_rfl) (fun _ _ _ _ _ h => h) .n (OV.mv rfl) ?_
      refine DA.first 2 rfl (by kernel_rfl) (by kernel_rfl) (by kernel_rfl) (fun _ _ _ _ _ h => h) .n (OV.mv rfl) ?_
      refine DA.go 3 [4] (by kernel_rfl) ⟨?_, ⟨?_, trivial⟩⟩
      · refine DO.w rfl ?_
        refine WP.s .n (O.rem rfl rfl (by omega) (c := (x.tmod y)) rfl) ?_
        refine WP.nil ?_
        refine DO.nx ?_
        refine DA.go 4 [] (by kernel_rfl) ⟨?_, trivial⟩
        refine DO.w rfl ?_
        refine WP.s .n (O.asg rfl) ?_
        refine WP.nil ?_
        refine DO.nx ?_
        refine DA.go 5 [] (by kernel_rfl) ⟨?_, trivial⟩
        refine DO.w rfl ?_
        refine WP.s .n (O.asg rfl) ?_
        refine WP.nil ?_
        refine DO.nx ?_
        refine DA.nil (by kernel_rfl) ?_
        exact QE.join (Imp.cons rfl (Imp.cons rfl (Imp.cons rfl (Imp.cons rfl (Imp.cons rfl (Imp.cons rfl (Imp.cons rfl (Imp.cons rfl Imp.nil)))))))) (OImp.refl _)
      · refine DO.w rfl ?_
        refine WP.s .n (O.asg rfl) ?_
        refine WP.nil ?_
        refine DO.nx ?_
        refine DA.go 3 [] (by kernel_rfl) ⟨?_, trivial⟩
        refine DO.w rfl ?_
        refine WP.s .n (O.rem rfl rfl (by omega) (c := (x.tmod y)) rfl) ?_
        refine WP.nil ?_
        refine DO.nx ?_
        refine DA.go 5 [] (by kernel_rfl) ⟨?_, trivial⟩
        refine DO.w rfl ?_
        refine WP.s .n (O.asg rfl) ?_
        refine WP.nil ?_
        refine DO.nx ?_
        refine DA.nil (by kernel_rfl) ?_
        exact QE.join (Imp.cons rfl (Imp.cons rfl (Imp.cons rfl (Imp.cons rfl (Imp.cons rfl (Imp.cons rfl (Imp.cons rfl (Imp.cons rfl Imp.nil)))))))) (OImp.refl _)
    refine QE.blkN ?_
    exact QE.round2 y (x.tmod y) (by exact tmod_abs h_t6) ⟨(gcd_tmod x y).trans hg, hy, by have := tmod_abs (a := x) h_t6; omega⟩ (Imp.cons rfl (Imp.cons rfl Imp.nil)) (OImp.refl _)
  · refine CW.exit ?_
    refine QE.thenE ?_
    refine QE.thenE ?_
    refine QE.blkH ?_
    refine QE.next ?_
    refine CW.seq ?_
    have hy0 : y = 0 := by omega
    refine CW.region ?_
    refine WP.s .n (O.mv rfl) ?_
    refine WP.s .n (O.mv rfl) ?_
    refine WP.s .n (O.neg rfl (c := (0 - x)) (w64 (by omega))) ?_
    refine WP.s .n (O.mx rfl rfl) ?_
    refine WP.s .n (O.asg rfl) ?_
    refine WP.nil ?_
    refine QE.next ?_
    refine CW.ret ?_
    refine ST.told 4 rfl (is_eq (y := ((Int.gcd a b : Nat) : Int)) (by rw [← hg, hy0]; exact gcd_end x)) ?_
    exact QE.done (.inl rfl) rfl (ResOk.tl rfl (is_eq (y := (Int.gcd a b : Int)) (by first | rfl | omega)) ResOk.nil) (OImp.sub (List.nil_sublist _)) ⟨rfl, rfl⟩

set_option maxRecDepth 20000 in
set_option maxHeartbeats 1000000 in
theorem c_sl_Index (v : Value) (xs : List T3) (p : T3) (hn : p ∉ xs) : Con Try.prog 179 [VP.ex v, (kPair kI64 (kPair kI64 kI64)).is p] [OB.row v 154 (kPair kI64 (kPair kI64 kI64)) xs] (fun p Lo => p = (kInt .i64).is (-1) ∧ Lo = [OB.row v 154 (kPair kI64 (kPair kI64 kI64)) xs] ∧ True) := by
  refine Con.enter Try.func179 rfl rfl fun m w => ?_
  refine ST.rowlen 0 rfl fun hB => ?_
  refine CW.seq ?_
  refine CW.region ?_
  refine WP.bx .n rfl fun b1 => ?_
  refine WP.s .n (O.asg rfl) ?_
  refine WP.nil ?_
  refine QE.next ?_
  refine CW.seq ?_
  refine CW.seq ?_
  refine CW.region ?_
  refine WP.s .n (O.mv rfl) ?_
  refine WP.s .n (O.lenR rfl (mem_at 1 rfl) Try.underlying152) ?_
  refine WP.s .n (O.mv rfl) ?_
  refine WP.nil ?_
  refine QE.next ?_
  refine CW.block ?_
  refine CW.loop (fun (i : Nat) => i ≤ xs.length) (fun (i : Nat) => [(0, VP.ex v), (3, VP.ex (.pointer (some ⟨b1, 0, none⟩))), (6, VP.ex v), (7, (kInt .i64).is (xs.length : Int)), (8, (kInt .i64).is (i : Int))]) (fun (i : Nat) => [OB.box b1 154 (kPair kI64 (kPair kI64 kI64)) p, OB.row v 154 (kPair kI64 (kPair kI64 kI64)) xs]) (fun (i : Nat) => xs.length - i) 0 (by omega) (Imp.cons rfl (Imp.cons rfl (Imp.cons rfl (Imp.cons rfl (Imp.consLe rfl (is_eq (y := (0 : Int)) (by first | rfl | omega)) Imp.nil))))) (OImp.refl _) ?_
  intro i hi
  refine CW.seq ?_
  refine CW.region ?_
  refine WP.s .n (O.lt rfl rfl) ?_
  refine WP.nil ?_
  refine QE.next ?_
  refine CW.seq ?_
  refine CW.condD rfl (fun h_t9 => ?_) (fun h_t9 => ?_)
  · refine CW.skip ?_
    refine QE.next ?_
    refine CW.seq ?_
    refine CW.block ?_
    refine CW.seq ?_
    refine CW.region ?_
    refine WP.s .n (O.mv rfl) ?_
    refine WP.s .n (O.asg rfl) ?_
    refine WP.nil ?_
    refine QE.next ?_
    refine CW.seq ?_
    refine CW.draw (Γ := [.fr ((kPair kI64 (kPair kI64 kI64)).is p), .fr (VP.ex v), .fr ((kInt .i64).is (i : Int)), .fr (VP.pel v (i * 3)), .fr ((kPair kI64 (kPair kI64 kI64)).is (xs.getD i (0, (0, 0)))), .fr (kBool.is (decide (p = (xs.getD i (0, (0, 0))))))]) (lates := [false, false, false, false, false, false]) (by kernel_rfl) (Chk.of rfl (by kernel_rfl) rfl) (fun _ _ _ _ _ h => h) (fun q_ x_ h_ => ?_) (fun σ1 => ?_)
    · match q_, h_ with
      | 0, h_ => cases h_; exact Ob.f rfl .n fun N => (O.ld rfl (mem_app N (mem_at 0 rfl)) (Lens.id _) ty154 rfl)
      | 1, h_ => cases h_; exact Ob.f rfl .n fun N => (O.mv rfl)
      | 2, h_ => cases h_; exact Ob.f rfl .n fun N => (O.mv rfl)
      | 3, h_ => cases h_; exact Ob.f rfl .n fun N => (O.ixR (k := (kPair kI64 (kPair kI64 kI64))) (xs := xs) (n := (i : Int)) i rfl rfl (mem_app N (mem_at 1 rfl)) Try.underlying152 ty154 rfl (by omega))
      | 4, h_ => cases h_; exact Ob.f rfl .n fun N => (O.ldR i rfl (mem_app N (mem_at 1 rfl)) (Lens.id _) rfl (y := (xs.getD i (0, (0, 0)))) (gd (0, (0, 0)) (by omega)) ty154 rfl)
      | 5, h_ => cases h_; exact Ob.f rfl .n fun N => (O.eqT rfl rfl eqT154)
      | n_ + 6, h_ => simp at h_
    refine WP.nil ?_
    refine QE.next ?_
    refine CW.condD rfl (fun h => absurd h (fun h => hn (h ▸ getD_mem (by omega)))) (fun h_t16 => ?_)
    refine CW.skip ?_
    refine QE.blkN ?_
    refine QE.next ?_
    refine CW.region ?_
    refine WP.s .n (O.add rfl rfl (c := ((i : Int) + 1)) (w64 (by omega))) ?_
    refine WP.s .n (O.mv rfl) ?_
    refine WP.nil ?_
    exact QE.round (i + 1) (by omega) (by omega) (Imp.cons rfl (Imp.cons rfl (Imp.cons rfl (Imp.cons rfl (Imp.consLe rfl (is_eq (y := (((i + 1) : Nat) : Int)) (by first | rfl | omega)) Imp.nil))))) (OImp.refl _)
  · refine CW.exit ?_
    refine QE.thenE ?_
    refine QE.thenE ?_
    refine QE.blkH ?_
    refine QE.next ?_
    refine CW.seq ?_
    refine CW.region ?_
    refine WP.s .n (O.asg rfl) ?_
    refine WP.nil ?_
    refine QE.next ?_
    refine CW.ret ?_
    exact QE.done (.inl rfl) rfl (ResOk.t rfl ResOk.nil) (OImp.os (OS.skip (OS.keep OS.nil))) ⟨rfl, rfl, trivial⟩

set_option maxRecDepth 20000 in
set_option maxHeartbeats 1000000 in
theorem c_sl_Contains (v : Value) (xs : List T3) (p : T3) (hn : p ∉ xs) : Con Try.prog 127 [VP.ex v, (kPair kI64 (kPair kI64 kI64)).is p] [OB.row v 154 (kPair kI64 (kPair kI64 kI64)) xs] (fun p Lo => p = kBool.is false ∧ Lo = [OB.row v 154 (kPair kI64 (kPair kI64 kI64)) xs] ∧ True) := by
  refine Con.enter Try.func127 rfl rfl fun m w => ?_
  refine CW.seq ?_
  refine CW.region ?_
  refine WP.bx .n rfl fun b1 => ?_
  refine WP.s .n (O.asg rfl) ?_
  refine WP.nil ?_
  refine QE.next ?_
  refine CW.seq ?_
  refine CW.region ?_
  refine WP.s .n (O.mv rfl) ?_
  refine WP.s .n (O.ld rfl (mem_at 0 rfl) (Lens.id _) ty154 rfl) ?_
  refine WP.s .n (O.fn1 (b := OB.row v 154 (kPair kI64 (kPair kI64 kI64)) xs) (mem_at 1 rfl) fn179 (evs.c rfl (evs.c rfl evs.nil)) (c_sl_Index v xs p (by assumption))) ?_
  refine WP.s .n (O.ge rfl rfl) ?_
  refine WP.s .n (O.asg rfl) ?_
  refine WP.nil ?_
  refine QE.next ?_
  refine CW.ret ?_
  exact QE.done (.inl rfl) rfl (ResOk.tl rfl (is_eq (y := false) (by rfl)) ResOk.nil) (OImp.os (OS.skip (OS.keep OS.nil))) ⟨rfl, rfl, trivial⟩

set_option maxRecDepth 20000 in
set_option maxHeartbeats 1000000 in
theorem c_cmp_isNaN (x : Int) : Fn Try.prog 182 [(kInt .i64).is x] (kBool.is false) := by
  refine Con.enter Try.func182 rfl rfl fun m w => ?_
  refine CW.seq ?_
  refine CW.region ?_
  refine WP.s .n (O.asg rfl) ?_
  refine WP.nil ?_
  refine QE.next ?_
  refine CW.seq ?_
  refine CW.region ?_
  refine WP.s .n (O.mv rfl) ?_
  refine WP.s .n (O.mv rfl) ?_
  refine WP.s .n (O.ne rfl rfl) ?_
  refine WP.s .n (O.asg rfl) ?_
  refine WP.nil ?_
  refine QE.next ?_
  refine CW.ret ?_
  refine ST.told 2 rfl (is_eq (y := false) (by simp)) ?_
  exact QE.done (.inl rfl) rfl (ResOk.t rfl ResOk.nil) (OImp.sub (List.nil_sublist _)) ⟨rfl, rfl⟩

set_option maxRecDepth 20000 in
set_option maxHeartbeats 1000000 in
theorem c_cmp_Compare (x y : Int) : Fn Try.prog 131 [(kInt .i64).is x, (kInt .i64).is y] ((kInt .i64).is ((x - y).sign)) := by
  refine Con.enter Try.func131 rfl rfl fun m w => ?_
  refine CW.seq ?_
  refine CW.region ?_
  refine WP.s .n (O.asg rfl) ?_
  refine WP.nil ?_
  refine QE.next ?_
  refine CW.seq ?_
  refine CW.region ?_
  refine WP.s .n (O.mv rfl) ?_
  refine WP.s .n (O.fn fn182 (evs.c rfl evs.nil) (c_cmp_isNaN x)) ?_
  refine WP.s .n (O.asg rfl) ?_
  refine WP.nil ?_
  refine QE.next ?_
  refine CW.seq ?_
  refine CW.region ?_
  refine WP.s .n (O.mv rfl) ?_
  refine WP.s .n (O.fn fn182 (evs.c rfl evs.nil) (c_cmp_isNaN y)) ?_
  refine WP.s .n (O.asg rfl) ?_
  refine WP.nil ?_
  refine QE.next ?_
  refine CW.seq ?_
  refine CW.seq ?_
  refine CW.region ?_
  refine WP.s .n (O.mv rfl) ?_
  refine WP.nil ?_
  refine QE.next ?_
  refine CW.condF rfl ?_
  refine CW.skip ?_
  refine QE.next ?_
  refine CW.seq ?_
  refine CW.seq ?_
  refine CW.region ?_
  refine WP.s .n (O.mv rfl) ?_
  refine WP.nil ?_
  refine QE.next ?_
  refine CW.condF rfl ?_
  refine CW.skip ?_
  refine QE.next ?_
  refine CW.seq ?_
  refine CW.seq ?_
  refine CW.region ?_
  refine WP.s .n (O.mv rfl) ?_
  refine WP.s .n (O.mv rfl) ?_
  refine WP.s .n (O.lt rfl rfl) ?_
  refine WP.nil ?_
  refine QE.next ?_
  refine CW.condD rfl (fun h_t16 => ?_) (fun h_t16 => ?_)
  · refine CW.seq ?_
    refine CW.region ?_
    refine WP.s .n (O.asg rfl) ?_
    refine WP.nil ?_
    refine QE.next ?_
    refine CW.ret ?_
    refine QE.thenR ?_
    refine ST.told 4 rfl (is_eq (y := (x - y).sign) (sg_lt' h_t16)) ?_
    exact QE.done (.inl rfl) rfl (ResOk.t rfl ResOk.nil) (OImp.sub (List.nil_sublist _)) ⟨rfl, rfl⟩
  · refine CW.skip ?_
    refine QE.next ?_
    refine CW.seq ?_
    refine CW.seq ?_
    refine CW.region ?_
    refine WP.s .n (O.mv rfl) ?_
    refine WP.s .n (O.mv rfl) ?_
    refine WP.s .n (O.gt rfl rfl) ?_
    refine WP.nil ?_
    refine QE.next ?_
    refine CW.condD rfl (fun h_t19 => ?_) (fun h_t19 => ?_)
    · refine CW.seq ?_
      refine CW.region ?_
      refine WP.s .n (O.asg rfl) ?_
      refine WP.nil ?_
      refine QE.next ?_
      refine CW.ret ?_
      refine QE.thenR ?_
      refine ST.told 4 rfl (is_eq (y := (x - y).sign) (sg_gt' h_t19)) ?_
      exact QE.done (.inl rfl) rfl (ResOk.t rfl ResOk.nil) (OImp.sub (List.nil_sublist _)) ⟨rfl, rfl⟩
    · refine CW.skip ?_
      refine QE.next ?_
      refine CW.seq ?_
      refine CW.region ?_
      refine WP.s .n (O.asg rfl) ?_
      refine WP.nil ?_
      refine QE.next ?_
      refine CW.ret ?_
      refine ST.told 4 rfl (is_eq (y := (x - y).sign) (sg_eq' h_t16 h_t19)) ?_
      exact QE.done (.inl rfl) rfl (ResOk.t rfl ResOk.nil) (OImp.sub (List.nil_sublist _)) ⟨rfl, rfl⟩

set_option maxRecDepth 20000 in
set_option maxHeartbeats 1000000 in
theorem c_cmp_Or (l : List Int) : Fn Try.prog 130 [(kSl kI64).is l] ((kInt .i64).is (orV l)) := by
  refine Con.enter Try.func130 rfl rfl fun m w => ?_
  refine ST.fact (i := 0) rfl sl_len fun hB => ?_
  refine CW.seq ?_
  refine CW.region ?_
  refine WP.s .n (O.asg rfl) ?_
  refine WP.nil ?_
  refine QE.next ?_
  refine CW.seq ?_
  refine CW.region ?_
  refine WP.s .n (O.asg rfl) ?_
  refine WP.nil ?_
  refine QE.next ?_
  refine CW.seq ?_
  refine CW.seq ?_
  refine CW.region ?_
  refine WP.s .n (O.mv rfl) ?_
  refine WP.s .n (O.lenS rfl Try.underlying28) ?_
  refine WP.s .n (O.mv rfl) ?_
  refine WP.nil ?_
  refine QE.next ?_
  refine CW.block ?_
  refine CW.loop (fun (i : Nat) => i ≤ l.length ∧ orV (l.drop i) = orV l) (fun (i : Nat) => [(0, (kSl kI64).is l), (3, (kInt .i64).is 0), (6, (kSl kI64).is l), (7, (kInt .i64).is (l.length : Int)), (8, (kInt .i64).is (i : Int))]) (fun (i : Nat) => []) (fun (i : Nat) => l.length - i) 0 ⟨Nat.zero_le _, rfl⟩ (Imp.cons rfl (Imp.cons rfl (Imp.cons rfl (Imp.cons rfl (Imp.consLe rfl (is_eq (y := (0 : Int)) (by first | rfl | omega)) Imp.nil))))) (OImp.refl _) ?_
  intro i ⟨hi, ho⟩
  refine CW.seq ?_
  refine CW.region ?_
  refine WP.s .n (O.lt rfl rfl) ?_
  refine WP.nil ?_
  refine QE.next ?_
  refine CW.seq ?_
  refine CW.condD rfl (fun h_t9 => ?_) (fun h_t9 => ?_)
  · refine CW.skip ?_
    refine QE.next ?_
    refine CW.seq ?_
    refine CW.block ?_
    refine CW.seq ?_
    refine CW.region ?_
    refine WP.s .n (O.ix i rfl rfl Try.underlying28 ty3 rfl (v := (l.getD i 0)) (gd 0 (by omega))) ?_
    refine WP.s .n (OpOk.le (O.ldP rfl ty3) (i64_le _)) ?_
    refine WP.s .n (O.asg rfl) ?_
    refine WP.nil ?_
    refine QE.next ?_
    refine CW.seq ?_
    refine CW.region ?_
    refine WP.s .n (O.mv rfl) ?_
    refine WP.s .n (O.mv rfl) ?_
    refine WP.s .n (O.ne rfl rfl) ?_
    refine WP.nil ?_
    refine QE.next ?_
    refine CW.condD rfl (fun h_t14 => ?_) (fun h_t14 => ?_)
    · refine CW.seq ?_
      refine CW.region ?_
      refine WP.s .n (O.mv rfl) ?_
      refine WP.s .n (O.asg rfl) ?_
      refine WP.nil ?_
      refine QE.next ?_
      refine CW.ret ?_
      refine QE.blkR ?_
      refine QE.thenR ?_
      refine QE.thenR ?_
      refine QE.blkR ?_
      refine QE.thenR ?_
      refine ST.told 2 rfl (is_eq (y := (orV l)) (by rw [← ho]; exact orV_hit (by omega) h_t14)) ?_
      exact QE.done (.inl rfl) rfl (ResOk.t rfl ResOk.nil) (OImp.sub (List.nil_sublist _)) ⟨rfl, rfl⟩
    · refine CW.skip ?_
      refine QE.blkN ?_
      refine QE.next ?_
      refine CW.region ?_
      refine WP.s .n (O.add rfl rfl (c := ((i : Int) + 1)) (w64 (by omega))) ?_
      refine WP.s .n (O.mv rfl) ?_
      refine WP.nil ?_
      exact QE.round (i + 1) (by omega) ⟨by omega, by rw [← orV_drop (by omega) (by omega)]; exact ho⟩ (Imp.cons rfl (Imp.cons rfl (Imp.cons rfl (Imp.cons rfl (Imp.consLe rfl (is_eq (y := (((i + 1) : Nat) : Int)) (by first | rfl | omega)) Imp.nil))))) (OImp.refl _)
  · refine CW.exit ?_
    refine QE.thenE ?_
    refine QE.thenE ?_
    refine QE.blkH ?_
    refine QE.next ?_
    refine CW.seq ?_
    refine CW.region ?_
    refine WP.s .n (O.mv rfl) ?_
    refine WP.s .n (O.asg rfl) ?_
    refine WP.nil ?_
    refine QE.next ?_
    refine CW.ret ?_
    refine ST.told 2 rfl (is_eq (y := (orV l)) (by rw [← ho]; exact orV_end (by omega))) ?_
    exact QE.done (.inl rfl) rfl (ResOk.t rfl ResOk.nil) (OImp.sub (List.nil_sublist _)) ⟨rfl, rfl⟩

set_option maxRecDepth 20000 in
set_option maxHeartbeats 1000000 in
theorem c_quad_Classes1 (p q : T3) : Fn Try.prog 129 [(kPair kI64 (kPair kI64 kI64)).is p, (kPair kI64 (kPair kI64 kI64)).is q] ((kInt .i64).is (cmpT p q)) := by
  refine Con.enter Try.func129 rfl rfl fun m w => ?_
  have h1 := sgn_rng (p.1 - q.1)
  have h2 := sgn_rng (p.2.1 - q.2.1)
  have h3 := sgn_rng (p.2.2 - q.2.2)
  refine CW.seq ?_
  refine CW.region ?_
  refine WP.bx .n rfl fun b1 => ?_
  refine WP.bx .n rfl fun b2 => ?_
  refine WP.s .n (O.asg rfl) ?_
  refine WP.nil ?_
  refine QE.next ?_
  refine CW.seq ?_
  refine CW.draw (Γ := [.fr (VP.ex (.pointer (some ⟨b1, 0, none⟩))), .fr ((kInt .i64).is p.1), .fr (VP.ex (.pointer (some ⟨b2, 0, none⟩))), .fr ((kInt .i64).is q.1), .fr ((kInt .i64).is ((p.1 - q.1).sign)), .fr (VP.ex (.pointer (some ⟨b1, 1, none⟩))), .fr ((kInt .i64).is p.2.1), .fr (VP.ex (.pointer (some ⟨b2, 1, none⟩))), .fr ((kInt .i64).is q.2.1), .fr ((kInt .i64).is ((p.2.1 - q.2.1).sign)), .fr (VP.ex (.pointer (some ⟨b1, 2, none⟩))), .fr ((kInt .i64).is p.2.2), .fr (VP.ex (.pointer (some ⟨b2, 2, none⟩))), .fr ((kInt .i64).is q.2.2), .fr ((kInt .i64).is ((p.2.2 - q.2.2).sign)), .fr ((kSl kI64).is [(p.1 - q.1).sign, (p.2.1 - q.2.1).sign, (p.2.2 - q.2.2).sign]), .fr ((kInt .i64).is (orV [(p.1 - q.1).sign, (p.2.1 - q.2.1).sign, (p.2.2 - q.2.2).sign]))]) (lates := [false, false, false, false, false, false, false, false, false, false, false, false, false, false, false, false, false]) (by kernel_rfl) (Chk.of rfl (by kernel_rfl) rfl) (fun _ _ _ _ _ h => h) (fun q_ x_ h_ => ?_) (fun σ1 => ?_)
  · match q_, h_ with
    | 0, h_ => cases h_; exact Ob.f rfl .n fun N => (O.fa rfl fld154_0 rfl)
    | 1, h_ => cases h_; exact Ob.f rfl .n fun N => (OpOk.le (O.ld rfl (mem_app N (mem_at 1 rfl)) (Lens.fst (Lens.id _)) ty3 rfl) (i64_le _))
    | 2, h_ => cases h_; exact Ob.f rfl .n fun N => (O.fa rfl fld154_0 rfl)
    | 3, h_ => cases h_; exact Ob.f rfl .n fun N => (OpOk.le (O.ld rfl (mem_app N (mem_at 0 rfl)) (Lens.fst (Lens.id _)) ty3 rfl) (i64_le _))
    | 4, h_ => cases h_; exact Ob.f rfl .n fun N => (O.fn fn131 (evs.c rfl (evs.c rfl evs.nil)) (c_cmp_Compare p.1 q.1))
    | 5, h_ => cases h_; exact Ob.f rfl .n fun N => (O.fa rfl fld154_1 rfl)
    | 6, h_ => cases h_; exact Ob.f rfl .n fun N => (OpOk.le (O.ld rfl (mem_app N (mem_at 1 rfl)) (Lens.snd (Lens.fst (Lens.id _))) ty3 rfl) (i64_le _))
    | 7, h_ => cases h_; exact Ob.f rfl .n fun N => (O.fa rfl fld154_1 rfl)
    | 8, h_ => cases h_; exact Ob.f rfl .n fun N => (OpOk.le (O.ld rfl (mem_app N (mem_at 0 rfl)) (Lens.snd (Lens.fst (Lens.id _))) ty3 rfl) (i64_le _))
    | 9, h_ => cases h_; exact Ob.f rfl .n fun N => (O.fn fn131 (evs.c rfl (evs.c rfl evs.nil)) (c_cmp_Compare p.2.1 q.2.1))
    | 10, h_ => cases h_; exact Ob.f rfl .n fun N => (O.fa rfl fld154_2 rfl)
    | 11, h_ => cases h_; exact Ob.f rfl .n fun N => (OpOk.le (O.ld rfl (mem_app N (mem_at 1 rfl)) (Lens.snd (Lens.snd (Lens.id _))) ty3 rfl) (i64_le _))
    | 12, h_ => cases h_; exact Ob.f rfl .n fun N => (O.fa rfl fld154_2 rfl)
    | 13, h_ => cases h_; exact Ob.f rfl .n fun N => (OpOk.le (O.ld rfl (mem_app N (mem_at 0 rfl)) (Lens.snd (Lens.snd (Lens.id _))) ty3 rfl) (i64_le _))
    | 14, h_ => cases h_; exact Ob.f rfl .n fun N => (O.fn fn131 (evs.c rfl (evs.c rfl evs.nil)) (c_cmp_Compare p.2.2 q.2.2))
    | 15, h_ => cases h_; exact Ob.f rfl .n fun N => (O.bs Try.underlying28 el3_int (evl.l rfl (i64_int (by omega)) (evl.l rfl (i64_int (by omega)) (evl.l rfl (i64_int (by omega)) evl.n))) rfl (by decide))
    | 16, h_ => cases h_; exact Ob.f rfl .n fun N => (O.fn fn130 (evs.c rfl evs.nil) (c_cmp_Or [(p.1 - q.1).sign, (p.2.1 - q.2.1).sign, (p.2.2 - q.2.2).sign]))
    | n_ + 17, h_ => simp at h_
  refine WP.s .n (O.asg rfl) ?_
  refine WP.nil ?_
  refine QE.next ?_
  refine CW.ret ?_
  refine ST.told 4 rfl (is_eq (y := (cmpT p q)) (cmpT_or p q)) ?_
  exact QE.done (.inl rfl) rfl (ResOk.t rfl ResOk.nil) (OImp.sub (List.nil_sublist _)) ⟨rfl, rfl⟩

set_option maxRecDepth 20000 in
set_option maxHeartbeats 1000000 in
theorem c_sl_order2 (xs : List T3) (hr : rise xs) (a b : Nat) (v : Value) (hab : a < b) (hb : b < xs.length) : Fn Try.prog 265 [(kSl (kPair kI64 (kPair kI64 kI64))).is xs, (kInt .i64).is (a : Int), (kInt .i64).is (b : Int), VP.ex v, VP.ex (.func (.func 129) #[] #[])] (VP.tup [(kInt .i64).is (a : Int), (kInt .i64).is (b : Int)]) := by
  refine Con.enter Try.func265 rfl rfl fun m w => ?_
  refine ST.fact (i := 0) rfl sl_len fun hB => ?_
  refine CW.seq ?_
  refine CW.region ?_
  refine WP.s .n (O.asg rfl) ?_
  refine WP.s .n (O.asg rfl) ?_
  refine WP.nil ?_
  refine QE.next ?_
  refine CW.seq ?_
  refine CW.seq ?_
  refine CW.draw (Γ := [.fr (VP.ex (.func (.func 129) #[] #[])), .fr ((kSl (kPair kI64 (kPair kI64 kI64))).is xs), .fr ((kInt .i64).is (b : Int)), .fr (VP.pim (kPair kI64 (kPair kI64 kI64)) (xs.getD b (0, (0, 0)))), .fr ((kPair kI64 (kPair kI64 kI64)).is (xs.getD b (0, (0, 0)))), .fr ((kSl (kPair kI64 (kPair kI64 kI64))).is xs), .fr ((kInt .i64).is (a : Int)), .fr (VP.pim (kPair kI64 (kPair kI64 kI64)) (xs.getD a (0, (0, 0)))), .fr ((kPair kI64 (kPair kI64 kI64)).is (xs.getD a (0, (0, 0)))), .fr ((kInt .i64).is (cmpT (xs.getD b (0, (0, 0))) (xs.getD a (0, (0, 0))))), .fr (kBool.is (decide ((cmpT (xs.getD b (0, (0, 0))) (xs.getD a (0, (0, 0)))) < 0)))]) (lates := [false, false, false, false, false, false, false, false, false, false, false]) (by kernel_rfl) (Chk.of rfl (by kernel_rfl) rfl) (fun _ _ _ _ _ h => h) (fun q_ x_ h_ => ?_) (fun σ1 => ?_)
  · match q_, h_ with
    | 0, h_ => cases h_; exact Ob.f rfl .n fun N => (O.mv rfl)
    | 1, h_ => cases h_; exact Ob.f rfl .n fun N => (O.mv rfl)
    | 2, h_ => cases h_; exact Ob.f rfl .n fun N => (O.mv rfl)
    | 3, h_ => cases h_; exact Ob.f rfl .n fun N => (O.ix b rfl rfl Try.underlying152 ty154 rfl (v := (xs.getD b (0, (0, 0)))) (gd (0, (0, 0)) (by omega)))
    | 4, h_ => cases h_; exact Ob.f rfl .n fun N => (O.ldP rfl ty154)
    | 5, h_ => cases h_; exact Ob.f rfl .n fun N => (O.mv rfl)
    | 6, h_ => cases h_; exact Ob.f rfl .n fun N => (O.mv rfl)
    | 7, h_ => cases h_; exact Ob.f rfl .n fun N => (O.ix a rfl rfl Try.underlying152 ty154 rfl (v := (xs.getD a (0, (0, 0)))) (gd (0, (0, 0)) (by omega)))
    | 8, h_ => cases h_; exact Ob.f rfl .n fun N => (O.ldP rfl ty154)
    | 9, h_ => cases h_; exact Ob.f rfl .n fun N => (O.fv rfl fn129 (evs.c rfl (evs.c rfl evs.nil)) (c_quad_Classes1 (xs.getD b (0, (0, 0))) (xs.getD a (0, (0, 0)))))
    | 10, h_ => cases h_; exact Ob.f rfl .n fun N => (O.lt rfl rfl)
    | n_ + 11, h_ => simp at h_
  refine WP.nil ?_
  refine QE.next ?_
  refine CW.condD rfl (fun h => absurd h (rise_cmp hr hab hb)) (fun h_t22 => ?_)
  refine CW.skip ?_
  refine QE.next ?_
  refine CW.seq ?_
  refine CW.region ?_
  refine WP.s .n (O.mv rfl) ?_
  refine WP.s .n (O.mv rfl) ?_
  refine WP.s .n (O.asg rfl) ?_
  refine WP.s .n (O.asg rfl) ?_
  refine WP.nil ?_
  refine QE.next ?_
  refine CW.ret ?_
  exact QE.done (.inl rfl) rfl (ResOk.t rfl (ResOk.t rfl ResOk.nil)) (OImp.sub (List.nil_sublist _)) ⟨rfl, rfl⟩

set_option maxRecDepth 20000 in
set_option maxHeartbeats 1000000 in
theorem c_sl_median (xs : List T3) (hr : rise xs) (a b c : Nat) (v : Value) (hab : a < b) (hbc : b < c) (hc : c < xs.length) : Fn Try.prog 258 [(kSl (kPair kI64 (kPair kI64 kI64))).is xs, (kInt .i64).is (a : Int), (kInt .i64).is (b : Int), (kInt .i64).is (c : Int), VP.ex v, VP.ex (.func (.func 129) #[] #[])] ((kInt .i64).is (b : Int)) := by
  refine Con.enter Try.func258 rfl rfl fun m w => ?_
  refine CW.seq ?_
  refine CW.region ?_
  refine WP.s .n (O.asg rfl) ?_
  refine WP.nil ?_
  refine QE.next ?_
  refine CW.seq ?_
  refine CW.region ?_
  refine WP.s .n (O.mv rfl) ?_
  refine WP.s .n (O.mv rfl) ?_
  refine WP.s .n (O.mv rfl) ?_
  refine WP.s .n (O.mv rfl) ?_
  refine WP.s .n (O.mv rfl) ?_
  refine WP.s .n (O.fn fn265 (evs.c rfl (evs.c rfl (evs.c rfl (evs.c rfl (evs.c rfl evs.nil))))) (c_sl_order2 xs (by first | assumption | omega) a b v (by first | assumption | omega) (by first | assumption | omega))) ?_
  refine WP.s .n (O.mv rfl) ?_
  refine WP.s .n (O.ext rfl rfl) ?_
  refine WP.s .n (O.ext rfl rfl) ?_
  refine WP.s .n (O.asg rfl) ?_
  refine WP.s .n (O.asg rfl) ?_
  refine WP.nil ?_
  refine QE.next ?_
  refine CW.seq ?_
  refine CW.region ?_
  refine WP.s .n (O.mv rfl) ?_
  refine WP.s .n (O.mv rfl) ?_
  refine WP.s .n (O.mv rfl) ?_
  refine WP.s .n (O.mv rfl) ?_
  refine WP.s .n (O.mv rfl) ?_
  refine WP.s .n (O.fn fn265 (evs.c rfl (evs.c rfl (evs.c rfl (evs.c rfl (evs.c rfl evs.nil))))) (c_sl_order2 xs (by first | assumption | omega) b c v (by first | assumption | omega) (by first | assumption | omega))) ?_
  refine WP.s .n (O.mv rfl) ?_
  refine WP.s .n (O.ext rfl rfl) ?_
  refine WP.s .n (O.ext rfl rfl) ?_
  refine WP.s .n (O.asg rfl) ?_
  refine WP.s .n (O.asg rfl) ?_
  refine WP.nil ?_
  refine QE.next ?_
  refine CW.seq ?_
  refine CW.region ?_
  refine WP.s .n (O.mv rfl) ?_
  refine WP.s .n (O.mv rfl) ?_
  refine WP.s .n (O.mv rfl) ?_
  refine WP.s .n (O.mv rfl) ?_
  refine WP.s .n (O.mv rfl) ?_
  refine WP.s .n (O.fn fn265 (evs.c rfl (evs.c rfl (evs.c rfl (evs.c rfl (evs.c rfl evs.nil))))) (c_sl_order2 xs (by first | assumption | omega) a b v (by first | assumption | omega) (by first | assumption | omega))) ?_
  refine WP.s .n (O.mv rfl) ?_
  refine WP.s .n (O.ext rfl rfl) ?_
  refine WP.s .n (O.ext rfl rfl) ?_
  refine WP.s .n (O.asg rfl) ?_
  refine WP.s .n (O.asg rfl) ?_
  refine WP.nil ?_
  refine QE.next ?_
  refine CW.seq ?_
  refine CW.region ?_
  refine WP.s .n (O.mv rfl) ?_
  refine WP.s .n (O.asg rfl) ?_
  refine WP.nil ?_
  refine QE.next ?_
  refine CW.ret ?_
  exact QE.done (.inl rfl) rfl (ResOk.t rfl ResOk.nil) (OImp.sub (List.nil_sublist _)) ⟨rfl, rfl⟩

set_option maxRecDepth 20000 in
set_option maxHeartbeats 1000000 in
theorem c_sl_medianAdj (xs : List T3) (hr : rise xs) (a : Nat) (v : Value) (ha : 1 ≤ a) (hb : a + 1 < xs.length) : Fn Try.prog 257 [(kSl (kPair kI64 (kPair kI64 kI64))).is xs, (kInt .i64).is (a : Int), VP.ex v, VP.ex (.func (.func 129) #[] #[])] ((kInt .i64).is (a : Int)) := by
  refine Con.enter Try.func257 rfl rfl fun m w => ?_
  refine ST.fact (i := 0) rfl sl_len fun hB => ?_
  refine CW.seq ?_
  refine CW.region ?_
  refine WP.s .n (O.asg rfl) ?_
  refine WP.nil ?_
  refine QE.next ?_
  refine CW.seq ?_
  refine CW.region ?_
  refine WP.s .n (O.mv rfl) ?_
  refine WP.s .n (O.mv rfl) ?_
  refine WP.s .n (O.sub rfl rfl (c := ((a : Int) - 1)) (w64 (by omega))) ?_
  refine WP.s .n (O.mv rfl) ?_
  refine WP.s .n (O.mv rfl) ?_
  refine WP.s .n (O.add rfl rfl (c := ((a : Int) + 1)) (w64 (by omega))) ?_
  refine WP.s .n (O.mv rfl) ?_
  refine WP.s .n (O.mv rfl) ?_
  refine WP.s .n (O.fn fn258 (evs.c rfl (evs.l rfl (is_eq (y := (((a - 1) : Nat) : Int)) (by first | rfl | omega)) (evs.c rfl (evs.l rfl (is_eq (y := (((a + 1) : Nat) : Int)) (by first | rfl | omega)) (evs.c rfl (evs.c rfl evs.nil)))))) (c_sl_median xs (by first | assumption | omega) (a - 1) a (a + 1) v (by first | assumption | omega) (by first | assumption | omega) (by first | assumption | omega))) ?_
  refine WP.s .n (O.asg rfl) ?_
  refine WP.nil ?_
  refine QE.next ?_
  refine CW.ret ?_
  exact QE.done (.inl rfl) rfl (ResOk.t rfl ResOk.nil) (OImp.sub (List.nil_sublist _)) ⟨rfl, rfl⟩

set_option maxRecDepth 20000 in
set_option maxHeartbeats 1000000 in
theorem c_sl_pivot (xs : List T3) (hr : rise xs) (h13 : 13 ≤ xs.length) : Fn Try.prog 223 [(kSl (kPair kI64 (kPair kI64 kI64))).is xs, (kInt .i64).is 0, (kInt .i64).is (xs.length : Int), VP.ex (.func (.func 129) #[] #[])] (VP.tup [(kInt .i64).is ((xs.length / 4 * 2 : Nat) : Int), (kInt .i64).is 1]) := by
  refine Con.enter Try.func223 rfl rfl fun m w => ?_
  refine ST.fact (i := 0) rfl sl_len fun hB => ?_
  refine CW.seq ?_
  refine CW.region ?_
  refine WP.s .n (O.asg rfl) ?_
  refine WP.s .n (O.asg rfl) ?_
  refine WP.nil ?_
  refine QE.next ?_
  refine CW.seq ?_
  refine CW.region ?_
  refine WP.s .n (O.mv rfl) ?_
  refine WP.s .n (O.mv rfl) ?_
  refine WP.s .n (O.sub rfl rfl (c := ((xs.length : Int) - 0)) (w64 (by omega))) ?_
  refine WP.s .n (O.asg rfl) ?_
  refine WP.nil ?_
  refine QE.next ?_
  refine CW.seq ?_
  refine CW.region ?_
  refine WP.al .n z3_i64 fun b1 => ?_
  refine WP.nil ?_
  refine QE.next ?_
  refine CW.seq ?_
  refine CW.region ?_
  refine WP.s .n (O.mv rfl) ?_
  refine WP.s .n (O.mv rfl) ?_
  refine WP.s .n (O.quo rfl rfl (by omega) (c := ((xs.length / 4 : Nat) : Int)) (quo4 (by omega))) ?_
  refine WP.s .n (O.mul rfl rfl (c := (((xs.length / 4 : Nat) : Int) * 1)) (w64 (by omega))) ?_
  refine WP.s .n (O.add rfl rfl (c := (0 + (((xs.length / 4 : Nat) : Int) * 1))) (w64 (by omega))) ?_
  refine WP.s .n (O.asg rfl) ?_
  refine WP.nil ?_
  refine QE.next ?_
  refine CW.seq ?_
  refine CW.region ?_
  refine WP.s .n (O.mv rfl) ?_
  refine WP.s .n (O.mv rfl) ?_
  refine WP.s .n (O.quo rfl rfl (by omega) (c := ((xs.length / 4 : Nat) : Int)) (quo4 (by omega))) ?_
  refine WP.s .n (O.mul rfl rfl (c := (((xs.length / 4 : Nat) : Int) * 2)) (w64 (by omega))) ?_
  refine WP.s .n (O.add rfl rfl (c := (0 + (((xs.length / 4 : Nat) : Int) * 2))) (w64 (by omega))) ?_
  refine WP.s .n (O.asg rfl) ?_
  refine WP.nil ?_
  refine QE.next ?_
  refine CW.seq ?_
  refine CW.region ?_
  refine WP.s .n (O.mv rfl) ?_
  refine WP.s .n (O.mv rfl) ?_
  refine WP.s .n (O.quo rfl rfl (by omega) (c := ((xs.length / 4 : Nat) : Int)) (quo4 (by omega))) ?_
  refine WP.s .n (O.mul rfl rfl (c := (((xs.length / 4 : Nat) : Int) * 3)) (w64 (by omega))) ?_
  refine WP.s .n (O.add rfl rfl (c := (0 + (((xs.length / 4 : Nat) : Int) * 3))) (w64 (by omega))) ?_
  refine WP.s .n (O.asg rfl) ?_
  refine WP.nil ?_
  refine QE.next ?_
  refine CW.seq ?_
  refine CW.seq ?_
  refine CW.region ?_
  refine WP.s .n (O.mv rfl) ?_
  refine WP.s .n (O.ge rfl rfl) ?_
  refine WP.nil ?_
  refine QE.next ?_
  refine CW.condD rfl (fun h_t34 => ?_) (fun h => absurd (by omega) h)
  refine CW.seq ?_
  refine CW.seq ?_
  refine CW.region ?_
  refine WP.s .n (O.mv rfl) ?_
  refine WP.s .n (O.ge rfl rfl) ?_
  refine WP.nil ?_
  refine QE.next ?_
  refine CW.condD rfl (fun h_t36 => ?_) (fun h_t36 => ?_)
  · refine CW.seq ?_
    refine CW.region ?_
    refine WP.s .n (O.mv rfl) ?_
    refine WP.s .n (O.mv rfl) ?_
    refine WP.s .n (O.mv rfl) ?_
    refine WP.s .n (O.fn fn257 (evs.c rfl (evs.l rfl (is_eq (y := (((xs.length / 4) : Nat) : Int)) (by first | rfl | omega)) (evs.c rfl (evs.c rfl evs.nil)))) (c_sl_medianAdj xs (by first | assumption | omega) (xs.length / 4) (.pointer (some ⟨b1, 0, none⟩)) (by first | assumption | omega) (by first | assumption | omega))) ?_
    refine WP.s .n (O.asg rfl) ?_
    refine WP.nil ?_
    refine QE.next ?_
    refine CW.seq ?_
    refine CW.region ?_
    refine WP.s .n (O.mv rfl) ?_
    refine WP.s .n (O.mv rfl) ?_
    refine WP.s .n (O.mv rfl) ?_
    refine WP.s .n (O.fn fn257 (evs.c rfl (evs.l rfl (is_eq (y := (((xs.length / 4 * 2) : Nat) : Int)) (by first | rfl | omega)) (evs.c rfl (evs.c rfl evs.nil)))) (c_sl_medianAdj xs (by first | assumption | omega) (xs.length / 4 * 2) (.pointer (some ⟨b1, 0, none⟩)) (by first | assumption | omega) (by first | assumption | omega))) ?_
    refine WP.s .n (O.asg rfl) ?_
    refine WP.nil ?_
    refine QE.next ?_
    refine CW.region ?_
    refine WP.s .n (O.mv rfl) ?_
    refine WP.s .n (O.mv rfl) ?_
    refine WP.s .n (O.mv rfl) ?_
    refine WP.s .n (O.fn fn257 (evs.c rfl (evs.l rfl (is_eq (y := (((xs.length / 4 * 3) : Nat) : Int)) (by first | rfl | omega)) (evs.c rfl (evs.c rfl evs.nil)))) (c_sl_medianAdj xs (by first | assumption | omega) (xs.length / 4 * 3) (.pointer (some ⟨b1, 0, none⟩)) (by first | assumption | omega) (by first | assumption | omega))) ?_
    refine WP.s .n (O.asg rfl) ?_
    refine WP.nil ?_
    refine QE.next ?_
    refine CW.region ?_
    refine WP.s .n (O.mv rfl) ?_
    refine WP.s .n (O.mv rfl) ?_
    refine WP.s .n (O.mv rfl) ?_
    refine WP.s .n (O.mv rfl) ?_
    refine WP.s .n (O.mv rfl) ?_
    refine WP.s .n (O.fn fn258 (evs.c rfl (evs.c rfl (evs.c rfl (evs.c rfl (evs.c rfl (evs.c rfl evs.nil)))))) (c_sl_median xs (by first | assumption | omega) (xs.length / 4) (xs.length / 4 * 2) (xs.length / 4 * 3) (.pointer (some ⟨b1, 0, none⟩)) (by first | assumption | omega) (by first | assumption | omega) (by first | assumption | omega))) ?_
    refine WP.s .n (O.asg rfl) ?_
    refine WP.nil ?_
    refine QE.next ?_
    refine CW.seq ?_
    refine CW.region ?_
    refine WP.s .n (O.ld rfl (mem_at 0 rfl) (Lens.id _) ty3 rfl) ?_
    refine WP.nil ?_
    refine QE.next ?_
    refine CW.block ?_
    refine CW.seq ?_
    refine CW.region ?_
    refine WP.s .n (O.eq rfl rfl) ?_
    refine WP.s .n (O.asg rfl) ?_
    refine WP.nil ?_
    refine QE.next ?_
    refine CW.condD rfl (fun h_t57 => ?_) (fun h => absurd rfl h)
    refine CW.seq ?_
    refine CW.region ?_
    refine WP.s .n (O.mv rfl) ?_
    refine WP.s .n (O.asg rfl) ?_
    refine WP.s .n (O.asg rfl) ?_
    refine WP.nil ?_
    refine QE.next ?_
    refine CW.ret ?_
    refine QE.blkR ?_
    exact QE.done (.inl rfl) rfl (ResOk.tl rfl (is_eq (y := ((xs.length / 4 * 2 : Nat) : Int)) (by first | rfl | omega)) (ResOk.t rfl ResOk.nil)) (OImp.sub (List.nil_sublist _)) ⟨rfl, rfl⟩
  · refine CW.skip ?_
    refine QE.next ?_
    refine CW.region ?_
    refine WP.s .n (O.mv rfl) ?_
    refine WP.s .n (O.mv rfl) ?_
    refine WP.s .n (O.mv rfl) ?_
    refine WP.s .n (O.mv rfl) ?_
    refine WP.s .n (O.mv rfl) ?_
    refine WP.s .n (O.fn fn258 (evs.c rfl (evs.l rfl (is_eq (y := (((xs.length / 4) : Nat) : Int)) (by first | rfl | omega)) (evs.l rfl (is_eq (y := (((xs.length / 4 * 2) : Nat) : Int)) (by first | rfl | omega)) (evs.l rfl (is_eq (y := (((xs.length / 4 * 3) : Nat) : Int)) (by first | rfl | omega)) (evs.c rfl (evs.c rfl evs.nil)))))) (c_sl_median xs (by first | assumption | omega) (xs.length / 4) (xs.length / 4 * 2) (xs.length / 4 * 3) (.pointer (some ⟨b1, 0, none⟩)) (by first | assumption | omega) (by first | assumption | omega) (by first | assumption | omega))) ?_
    refine WP.s .n (O.asg rfl) ?_
    refine WP.nil ?_
    refine QE.next ?_
    refine CW.seq ?_
    refine CW.region ?_
    refine WP.s .n (O.ld rfl (mem_at 0 rfl) (Lens.id _) ty3 rfl) ?_
    refine WP.nil ?_
    refine QE.next ?_
    refine CW.block ?_
    refine CW.seq ?_
    refine CW.region ?_
    refine WP.s .n (O.eq rfl rfl) ?_
    refine WP.s .n (O.asg rfl) ?_
    refine WP.nil ?_
    refine QE.next ?_
    refine CW.condD rfl (fun h_t57 => ?_) (fun h => absurd rfl h)
    refine CW.seq ?_
    refine CW.region ?_
    refine WP.s .n (O.mv rfl) ?_
    refine WP.s .n (O.asg rfl) ?_
    refine WP.s .n (O.asg rfl) ?_
    refine WP.nil ?_
    refine QE.next ?_
    refine CW.ret ?_
    refine QE.blkR ?_
    exact QE.done (.inl rfl) rfl (ResOk.tl rfl (is_eq (y := ((xs.length / 4 * 2 : Nat) : Int)) (by first | rfl | omega)) (ResOk.t rfl ResOk.nil)) (OImp.sub (List.nil_sublist _)) ⟨rfl, rfl⟩

set_option maxRecDepth 20000 in
set_option maxHeartbeats 1000000 in
theorem c_sl_insertion (xs : List T3) (hr : rise xs) : Fn Try.prog 220 [(kSl (kPair kI64 (kPair kI64 kI64))).is xs, (kInt .i64).is 0, (kInt .i64).is (xs.length : Int), VP.ex (.func (.func 129) #[] #[])] (VP.tup []) := by
  refine Con.enter Try.func220 rfl rfl fun m w => ?_
  refine ST.fact (i := 0) rfl sl_len fun hB => ?_
  refine CW.seq ?_
  refine CW.region ?_
  refine WP.s .n (O.mv rfl) ?_
  refine WP.s .n (O.add rfl rfl (c := (0 + 1)) (w64 (by omega))) ?_
  refine WP.s .n (O.asg rfl) ?_
  refine WP.nil ?_
  refine QE.next ?_
  refine CW.block ?_
  refine CW.loop (fun (i : Nat) => 1 ≤ i) (fun (i : Nat) => [(0, (kSl (kPair kI64 (kPair kI64 kI64))).is xs), (1, (kInt .i64).is 0), (2, (kInt .i64).is (xs.length : Int)), (3, VP.ex (.func (.func 129) #[] #[])), (8, (kInt .i64).is (i : Int))]) (fun (i : Nat) => []) (fun (i : Nat) => xs.length - i) 1 (by omega) (Imp.cons rfl (Imp.cons rfl (Imp.cons rfl (Imp.cons rfl (Imp.consLe rfl (is_eq (y := (1 : Int)) (by first | rfl | omega)) Imp.nil))))) (OImp.refl _) ?_
  intro i hi
  refine CW.seq ?_
  refine CW.seq ?_
  refine CW.region ?_
  refine WP.s .n (O.mv rfl) ?_
  refine WP.s .n (O.mv rfl) ?_
  refine WP.s .n (O.lt rfl rfl) ?_
  refine WP.nil ?_
  refine QE.next ?_
  refine CW.condD rfl (fun h_t14 => ?_) (fun h_t14 => ?_)
  · refine CW.skip ?_
    refine QE.next ?_
    refine CW.seq ?_
    refine CW.block ?_
    refine CW.seq ?_
    refine CW.region ?_
    refine WP.s .n (O.mv rfl) ?_
    refine WP.s .n (O.asg rfl) ?_
    refine WP.nil ?_
    refine QE.next ?_
    refine CW.block ?_
    refine CW.loop (fun (z : Nat) => True) (fun (z : Nat) => [(0, (kSl (kPair kI64 (kPair kI64 kI64))).is xs), (1, (kInt .i64).is 0), (2, (kInt .i64).is (xs.length : Int)), (3, VP.ex (.func (.func 129) #[] #[])), (8, (kInt .i64).is (i : Int)), (9, (kInt .i64).is (i : Int))]) (fun (z : Nat) => []) (fun (z : Nat) => 0) 0 trivial (Imp.cons rfl (Imp.cons rfl (Imp.cons rfl (Imp.cons rfl (Imp.cons rfl (Imp.cons rfl Imp.nil)))))) (OImp.refl _) ?_
    intro z _hz
    refine CW.seq ?_
    refine CW.seq ?_
    refine CW.draw (Γ := [.fr ((kInt .i64).is (i : Int)), .fr ((kInt .i64).is 0), .fr (kBool.is true), .fr (kBool.is true), .fr (VP.ex (.func (.func 129) #[] #[])), .fr ((kSl (kPair kI64 (kPair kI64 kI64))).is xs), .fr ((kInt .i64).is (i : Int)), .fr (VP.pim (kPair kI64 (kPair kI64 kI64)) (xs.getD i (0, (0, 0)))), .fr ((kPair kI64 (kPair kI64 kI64)).is (xs.getD i (0, (0, 0)))), .fr ((kSl (kPair kI64 (kPair kI64 kI64))).is xs), .fr ((kInt .i64).is (i : Int)), .fr ((kInt .i64).is ((i : Int) - 1)), .fr (VP.pim (kPair kI64 (kPair kI64 kI64)) (xs.getD (i - 1) (0, (0, 0)))), .fr ((kPair kI64 (kPair kI64 kI64)).is (xs.getD (i - 1) (0, (0, 0)))), .fr ((kInt .i64).is (cmpT (xs.getD i (0, (0, 0))) (xs.getD (i - 1) (0, (0, 0))))), .fr (kBool.is false), .fr (kBool.is false)]) (lates := [false, false, false, false, false, false, false, false, false, false, false, false, false, false, false, false, false]) (by kernel_rfl) (Chk.of rfl (by kernel_rfl) rfl) (fun _ _ _ _ _ h => h) (fun q_ x_ h_ => ?_) (fun σ1 => ?_)
    · match q_, h_ with
      | 0, h_ => cases h_; exact Ob.f rfl .n fun N => (O.mv rfl)
      | 1, h_ => cases h_; exact Ob.f rfl .n fun N => (O.mv rfl)
      | 2, h_ => cases h_; exact Ob.f rfl .n fun N => (OpOk.le (O.gt rfl rfl) (is_eq (decide_eq_true (by omega))))
      | 3, h_ => cases h_; exact Ob.f rfl .n fun N => (O.mv rfl)
      | 4, h_ => cases h_; exact Ob.f rfl (.g rfl rfl) fun N => (O.mv rfl)
      | 5, h_ => cases h_; exact Ob.f rfl (.g rfl rfl) fun N => (O.mv rfl)
      | 6, h_ => cases h_; exact Ob.f rfl (.g rfl rfl) fun N => (O.mv rfl)
      | 7, h_ => cases h_; exact Ob.f rfl (.g rfl rfl) fun N => (O.ix i rfl rfl Try.underlying152 ty154 rfl (v := (xs.getD i (0, (0, 0)))) (gd (0, (0, 0)) (by omega)))
      | 8, h_ => cases h_; exact Ob.f rfl (.g rfl rfl) fun N => (O.ldP rfl ty154)
      | 9, h_ => cases h_; exact Ob.f rfl (.g rfl rfl) fun N => (O.mv rfl)
      | 10, h_ => cases h_; exact Ob.f rfl (.g rfl rfl) fun N => (O.mv rfl)
      | 11, h_ => cases h_; exact Ob.f rfl (.g rfl rfl) fun N => (O.sub rfl rfl (c := ((i : Int) - 1)) (w64 (by omega)))
      | 12, h_ => cases h_; exact Ob.f rfl (.g rfl rfl) fun N => (O.ix (i - 1) rfl rfl Try.underlying152 ty154 (by omega) (v := (xs.getD (i - 1) (0, (0, 0)))) (gd (0, (0, 0)) (by omega)))
      | 13, h_ => cases h_; exact Ob.f rfl (.g rfl rfl) fun N => (O.ldP rfl ty154)
      | 14, h_ => cases h_; exact Ob.f rfl (.g rfl rfl) fun N => (O.fv rfl fn129 (evs.c rfl (evs.c rfl evs.nil)) (c_quad_Classes1 (xs.getD i (0, (0, 0))) (xs.getD (i - 1) (0, (0, 0)))))
      | 15, h_ => cases h_; exact Ob.f rfl (.g rfl rfl) fun N => (OpOk.le (O.lt rfl rfl) (is_eq (decide_eq_false (rise_cmp hr (by omega) (by omega)))))
      | 16, h_ => cases h_; exact Ob.f rfl .n fun N => (O.pickT rfl rfl)
      | n_ + 17, h_ => simp at h_
    refine WP.nil ?_
    refine QE.next ?_
    refine CW.condF rfl ?_
    refine CW.exit ?_
    refine QE.thenE ?_
    refine QE.thenE ?_
    refine QE.blkH ?_
    refine QE.blkN ?_
    refine QE.next ?_
    refine CW.region ?_
    refine WP.s .n (O.mv rfl) ?_
    refine WP.s .n (O.add rfl rfl (c := ((i : Int) + 1)) (w64 (by omega))) ?_
    refine WP.s .n (O.asg rfl) ?_
    refine WP.nil ?_
    exact QE.round (i + 1) (by omega) (by omega) (Imp.cons rfl (Imp.cons rfl (Imp.cons rfl (Imp.cons rfl (Imp.consLe rfl (is_eq (y := (((i + 1) : Nat) : Int)) (by first | rfl | omega)) Imp.nil))))) (OImp.refl _)
  · refine CW.exit ?_
    refine QE.thenE ?_
    refine QE.thenE ?_
    refine QE.blkH ?_
    exact QE.done (.inr rfl) rfl ResOk.nil (OImp.sub (List.nil_sublist _)) ⟨rfl, rfl⟩

set_option maxRecDepth 20000 in
set_option maxHeartbeats 1000000 in
theorem c_sl_partial (xs : List T3) (hr : rise xs) (h1 : 1 ≤ xs.length) : Fn Try.prog 225 [(kSl (kPair kI64 (kPair kI64 kI64))).is xs, (kInt .i64).is 0, (kInt .i64).is (xs.length : Int), VP.ex (.func (.func 129) #[] #[])] (kBool.is true) := by
  refine Con.enter Try.func225 rfl rfl fun m w => ?_
  refine ST.fact (i := 0) rfl sl_len fun hB => ?_
  refine CW.seq ?_
  refine CW.region ?_
  refine WP.s .n (O.asg rfl) ?_
  refine WP.nil ?_
  refine QE.next ?_
  refine CW.seq ?_
  refine CW.region ?_
  refine WP.s .n (O.mv rfl) ?_
  refine WP.s .n (O.add rfl rfl (c := (0 + 1)) (w64 (by omega))) ?_
  refine WP.s .n (O.asg rfl) ?_
  refine WP.nil ?_
  refine QE.next ?_
  refine CW.seq ?_
  refine CW.seq ?_
  refine CW.region ?_
  refine WP.s .n (O.asg rfl) ?_
  refine WP.nil ?_
  refine QE.next ?_
  refine CW.block ?_
  refine CW.loop (fun (z : Nat) => True) (fun (z : Nat) => [(0, (kSl (kPair kI64 (kPair kI64 kI64))).is xs), (1, (kInt .i64).is 0), (2, (kInt .i64).is (xs.length : Int)), (3, VP.ex (.func (.func 129) #[] #[])), (9, (kInt .i64).is 1), (10, (kInt .i64).is 0)]) (fun (z : Nat) => []) (fun (z : Nat) => 0) 0 trivial (Imp.cons rfl (Imp.cons rfl (Imp.cons rfl (Imp.cons rfl (Imp.consLe rfl (is_eq (y := 1) (by first | rfl | omega)) (Imp.cons rfl Imp.nil)))))) (OImp.refl _) ?_
  intro z _hz
  refine CW.seq ?_
  refine CW.seq ?_
  refine CW.region ?_
  refine WP.s .n (O.mv rfl) ?_
  refine WP.s .n (O.lt rfl rfl) ?_
  refine WP.nil ?_
  refine QE.next ?_
  refine CW.condD rfl (fun h_t16 => ?_) (fun h => absurd (by decide) h)
  refine CW.skip ?_
  refine QE.next ?_
  refine CW.seq ?_
  refine CW.block ?_
  refine CW.seq ?_
  refine CW.block ?_
  refine CW.loop (fun (i : Nat) => 1 ≤ i ∧ i ≤ xs.length) (fun (i : Nat) => [(0, (kSl (kPair kI64 (kPair kI64 kI64))).is xs), (1, (kInt .i64).is 0), (2, (kInt .i64).is (xs.length : Int)), (3, VP.ex (.func (.func 129) #[] #[])), (9, (kInt .i64).is (i : Int)), (10, (kInt .i64).is 0)]) (fun (i : Nat) => []) (fun (i : Nat) => xs.length - i) 1 (by omega) (Imp.cons rfl (Imp.cons rfl (Imp.cons rfl (Imp.cons rfl (Imp.consLe rfl (is_eq (y := (1 : Int)) (by first | rfl | omega)) (Imp.cons rfl Imp.nil)))))) (OImp.refl _) ?_
  intro i ⟨hi, hin⟩
  refine CW.seq ?_
  refine CW.seq ?_
  by_cases hlt : i < xs.length
  · refine CW.draw (Γ := [.fr ((kInt .i64).is (i : Int)), .fr ((kInt .i64).is (xs.length : Int)), .fr (kBool.is true), .fr (kBool.is true), .fr (VP.ex (.func (.func 129) #[] #[])), .fr ((kSl (kPair kI64 (kPair kI64 kI64))).is xs), .fr ((kInt .i64).is (i : Int)), .fr (VP.pim (kPair kI64 (kPair kI64 kI64)) (xs.getD i (0, (0, 0)))), .fr ((kPair kI64 (kPair kI64 kI64)).is (xs.getD i (0, (0, 0)))), .fr ((kSl (kPair kI64 (kPair kI64 kI64))).is xs), .fr ((kInt .i64).is (i : Int)), .fr ((kInt .i64).is ((i : Int) - 1)), .fr (VP.pim (kPair kI64 (kPair kI64 kI64)) (xs.getD (i - 1) (0, (0, 0)))), .fr ((kPair kI64 (kPair kI64 kI64)).is (xs.getD (i - 1) (0, (0, 0)))), .fr ((kInt .i64).is (cmpT (xs.getD i (0, (0, 0))) (xs.getD (i - 1) (0, (0, 0))))), .fr (kBool.is false), .fr (kBool.is true), .fr (kBool.is true)]) (lates := [false, false, false, false, false, false, false, false, false, false, false, false, false, false, false, false, false, false]) (by kernel_rfl) (Chk.of rfl (by kernel_rfl) rfl) (fun _ _ _ _ _ h => h) (fun q_ x_ h_ => ?_) (fun σ1 => ?_)
    · match q_, h_ with
      | 0, h_ => cases h_; exact Ob.f rfl .n fun N => (O.mv rfl)
      | 1, h_ => cases h_; exact Ob.f rfl .n fun N => (O.mv rfl)
      | 2, h_ => cases h_; exact Ob.f rfl .n fun N => (OpOk.le (O.lt rfl rfl) (is_eq (decide_eq_true (by omega))))
      | 3, h_ => cases h_; exact Ob.f rfl .n fun N => (O.mv rfl)
      | 4, h_ => cases h_; exact Ob.f rfl (.g rfl rfl) fun N => (O.mv rfl)
      | 5, h_ => cases h_; exact Ob.f rfl (.g rfl rfl) fun N => (O.mv rfl)
      | 6, h_ => cases h_; exact Ob.f rfl (.g rfl rfl) fun N => (O.mv rfl)
      | 7, h_ => cases h_; exact Ob.f rfl (.g rfl rfl) fun N => (O.ix i rfl rfl Try.underlying152 ty154 rfl (v := (xs.getD i (0, (0, 0)))) (gd (0, (0, 0)) (by omega)))
      | 8, h_ => cases h_; exact Ob.f rfl (.g rfl rfl) fun N => (O.ldP rfl ty154)
      | 9, h_ => cases h_; exact Ob.f rfl (.g rfl rfl) fun N => (O.mv rfl)
      | 10, h_ => cases h_; exact Ob.f rfl (.g rfl rfl) fun N => (O.mv rfl)
      | 11, h_ => cases h_; exact Ob.f rfl (.g rfl rfl) fun N => (O.sub rfl rfl (c := ((i : Int) - 1)) (w64 (by omega)))
      | 12, h_ => cases h_; exact Ob.f rfl (.g rfl rfl) fun N => (O.ix (i - 1) rfl rfl Try.underlying152 ty154 (by omega) (v := (xs.getD (i - 1) (0, (0, 0)))) (gd (0, (0, 0)) (by omega)))
      | 13, h_ => cases h_; exact Ob.f rfl (.g rfl rfl) fun N => (O.ldP rfl ty154)
      | 14, h_ => cases h_; exact Ob.f rfl (.g rfl rfl) fun N => (O.fv rfl fn129 (evs.c rfl (evs.c rfl evs.nil)) (c_quad_Classes1 (xs.getD i (0, (0, 0))) (xs.getD (i - 1) (0, (0, 0)))))
      | 15, h_ => cases h_; exact Ob.f rfl (.g rfl rfl) fun N => (OpOk.le (O.lt rfl rfl) (is_eq (decide_eq_false (rise_cmp hr (by omega) (by omega)))))
      | 16, h_ => cases h_; exact Ob.f rfl (.g rfl rfl) fun N => (O.not (a := false) rfl)
      | 17, h_ => cases h_; exact Ob.f rfl .n fun N => (O.pickT rfl rfl)
      | n_ + 18, h_ => simp at h_
    refine WP.nil ?_
    refine QE.next ?_
    refine CW.condT rfl ?_
    refine CW.skip ?_
    refine QE.next ?_
    refine CW.block ?_
    refine CW.region ?_
    refine WP.s .n (O.mv rfl) ?_
    refine WP.s .n (O.add rfl rfl (c := ((i : Int) + 1)) (w64 (by omega))) ?_
    refine WP.s .n (O.asg rfl) ?_
    refine WP.nil ?_
    refine QE.blkN ?_
    exact QE.round (i + 1) (by omega) (by omega) (Imp.cons rfl (Imp.cons rfl (Imp.cons rfl (Imp.cons rfl (Imp.consLe rfl (is_eq (y := (((i + 1) : Nat) : Int)) (by first | rfl | omega)) (Imp.cons rfl Imp.nil)))))) (OImp.refl _)
  · refine CW.draw (Γ := [.fr ((kInt .i64).is (i : Int)), .fr ((kInt .i64).is (xs.length : Int)), .fr (kBool.is false), .fr (kBool.is false), .fr (VP.ex undef), .fr (VP.ex undef), .fr (VP.ex undef), .fr (VP.ex undef), .fr (VP.ex undef), .fr (VP.ex undef), .fr (VP.ex undef), .fr (VP.ex undef), .fr (VP.ex undef), .fr (VP.ex undef), .fr (VP.ex undef), .fr (VP.ex undef), .fr (VP.ex undef), .fr (kBool.is false)]) (lates := [false, false, false, false, false, false, false, false, false, false, false, false, false, false, false, false, false, false]) (by kernel_rfl) (Chk.of rfl (by kernel_rfl) rfl) (fun _ _ _ _ _ h => h) (fun q_ x_ h_ => ?_) (fun σ2 => ?_)
    · match q_, h_ with
      | 0, h_ => cases h_; exact Ob.f rfl .n fun N => (O.mv rfl)
      | 1, h_ => cases h_; exact Ob.f rfl .n fun N => (O.mv rfl)
      | 2, h_ => cases h_; exact Ob.f rfl .n fun N => (OpOk.le (O.lt rfl rfl) (is_eq (decide_eq_false (by omega))))
      | 3, h_ => cases h_; exact Ob.f rfl .n fun N => (O.mv rfl)
      | 4, h_ => cases h_; exact Ob.ku (b := false) rfl rfl rfl
      | 5, h_ => cases h_; exact Ob.ku (b := false) rfl rfl rfl
      | 6, h_ => cases h_; exact Ob.ku (b := false) rfl rfl rfl
      | 7, h_ => cases h_; exact Ob.ku (b := false) rfl rfl rfl
      | 8, h_ => cases h_; exact Ob.ku (b := false) rfl rfl rfl
      | 9, h_ => cases h_; exact Ob.ku (b := false) rfl rfl rfl
      | 10, h_ => cases h_; exact Ob.ku (b := false) rfl rfl rfl
      | 11, h_ => cases h_; exact Ob.ku (b := false) rfl rfl rfl
      | 12, h_ => cases h_; exact Ob.ku (b := false) rfl rfl rfl
      | 13, h_ => cases h_; exact Ob.ku (b := false) rfl rfl rfl
      | 14, h_ => cases h_; exact Ob.ku (b := false) rfl rfl rfl
      | 15, h_ => cases h_; exact Ob.ku (b := false) rfl rfl rfl
      | 16, h_ => cases h_; exact Ob.ku (b := false) rfl rfl rfl
      | 17, h_ => cases h_; exact Ob.f rfl .n fun N => (O.pickF rfl rfl)
      | n_ + 18, h_ => simp at h_
    refine WP.nil ?_
    refine QE.next ?_
    refine CW.condF rfl ?_
    refine CW.exit ?_
    refine QE.thenE ?_
    refine QE.thenE ?_
    refine QE.blkH ?_
    refine QE.next ?_
    refine CW.seq ?_
    refine CW.seq ?_
    refine CW.region ?_
    refine WP.s .n (O.mv rfl) ?_
    refine WP.s .n (O.mv rfl) ?_
    refine WP.s .n (O.eq rfl rfl) ?_
    refine WP.nil ?_
    refine QE.next ?_
    refine CW.condD rfl (fun h_t41 => ?_) (fun h => absurd (by omega) h)
    refine CW.seq ?_
    refine CW.region ?_
    refine WP.s .n (O.asg rfl) ?_
    refine WP.nil ?_
    refine QE.next ?_
    refine CW.ret ?_
    refine QE.thenR ?_
    refine QE.blkR ?_
    refine QE.thenR ?_
    refine QE.thenR ?_
    refine QE.blkR ?_
    refine QE.thenR ?_
    exact QE.done (.inl rfl) rfl (ResOk.t rfl ResOk.nil) (OImp.sub (List.nil_sublist _)) ⟨rfl, rfl⟩

set_option maxRecDepth 20000 in
set_option maxHeartbeats 1000000 in
theorem c_bits_Len64 (n : Nat) (hn : n < 65536) : Fn Try.prog 228 [(kInt .u64).is (n : Int)] ((kInt .i64).is (bitlen n : Int)) := by
  refine Con.enter Try.func228 rfl rfl fun m w => ?_
  have e8 := @bitlen_shift n 8
  have l0 := @bitlen_le n 8
  have l2 := @bitlen_le (n / 2 ^ 8) 8
  refine CW.seq ?_
  refine CW.region ?_
  refine WP.s .n (O.asg rfl) ?_
  refine WP.nil ?_
  refine QE.next ?_
  refine CW.seq ?_
  refine CW.seq ?_
  refine CW.region ?_
  refine WP.s .n (O.mv rfl) ?_
  refine WP.s .n (O.ge rfl rfl) ?_
  refine WP.nil ?_
  refine QE.next ?_
  refine CW.condD rfl (fun h => absurd h (by omega)) (fun h_t4 => ?_)
  refine CW.skip ?_
  refine QE.next ?_
  refine CW.seq ?_
  refine CW.seq ?_
  refine CW.region ?_
  refine WP.s .n (O.mv rfl) ?_
  refine WP.s .n (O.ge rfl rfl) ?_
  refine WP.nil ?_
  refine QE.next ?_
  refine CW.condD rfl (fun h => absurd h (by omega)) (fun h_t8 => ?_)
  refine CW.skip ?_
  refine QE.next ?_
  refine CW.seq ?_
  refine CW.seq ?_
  refine CW.region ?_
  refine WP.s .n (O.mv rfl) ?_
  refine WP.s .n (O.ge rfl rfl) ?_
  refine WP.nil ?_
  refine QE.next ?_
  refine CW.condD rfl (fun h_t14 => ?_) (fun h_t14 => ?_)
  · refine CW.seq ?_
    refine CW.region ?_
    refine WP.s .n (O.mv rfl) ?_
    refine WP.s .n (O.shr rfl rfl (by omega) (c := ((n / 2 ^ 8 : Nat) : Int)) (shrN 8 rfl rfl (by decide))) ?_
    refine WP.s .n (O.asg rfl) ?_
    refine WP.nil ?_
    refine QE.next ?_
    refine CW.region ?_
    refine WP.s .n (O.mv rfl) ?_
    refine WP.s .n (O.add rfl rfl (c := (0 + 8)) (w64 (by omega))) ?_
    refine WP.s .n (O.asg rfl) ?_
    refine WP.nil ?_
    refine QE.next ?_
    refine CW.seq ?_
    refine CW.region ?_
    refine WP.s .n (O.mv rfl) ?_
    refine WP.s .n (O.mv rfl) ?_
    refine WP.s .n (O.cvt rfl Try.underlying173 Try.underlying5 (c := ((n / 2 ^ 8 : Nat) : Int)) (wr8 (by omega))) ?_
    refine WP.s .n (O.ixS (N := 256) bitlen (n / 2 ^ 8 : Nat) rfl Try.underlying9 rfl len8 (by omega)) ?_
    refine WP.s .n (O.cvt rfl Try.underlying5 Try.underlying3 (c := (bitlen (n / 2 ^ 8 : Nat) : Int)) (w64 (by omega))) ?_
    refine WP.s .n (O.add rfl rfl (c := ((0 + 8) + (bitlen (n / 2 ^ 8 : Nat) : Int))) (w64 (by omega))) ?_
    refine WP.s .n (O.asg rfl) ?_
    refine WP.nil ?_
    refine QE.next ?_
    refine CW.ret ?_
    exact QE.done (.inl rfl) rfl (ResOk.tl rfl (is_eq (y := (bitlen n : Int)) (by first | rfl | omega)) ResOk.nil) (OImp.sub (List.nil_sublist _)) ⟨rfl, rfl⟩
  · refine CW.skip ?_
    refine QE.next ?_
    refine CW.seq ?_
    refine CW.region ?_
    refine WP.s .n (O.mv rfl) ?_
    refine WP.s .n (O.mv rfl) ?_
    refine WP.s .n (O.cvt rfl Try.underlying173 Try.underlying5 (c := (n : Int)) (wr8 (by omega))) ?_
    refine WP.s .n (O.ixS (N := 256) bitlen n rfl Try.underlying9 rfl len8 (by omega)) ?_
    refine WP.s .n (O.cvt rfl Try.underlying5 Try.underlying3 (c := (bitlen n : Int)) (w64 (by omega))) ?_
    refine WP.s .n (O.add rfl rfl (c := (0 + (bitlen n : Int))) (w64 (by omega))) ?_
    refine WP.s .n (O.asg rfl) ?_
    refine WP.nil ?_
    refine QE.next ?_
    refine CW.ret ?_
    exact QE.done (.inl rfl) rfl (ResOk.tl rfl (is_eq (y := (bitlen n : Int)) (by first | rfl | omega)) ResOk.nil) (OImp.sub (List.nil_sublist _)) ⟨rfl, rfl⟩

set_option maxRecDepth 20000 in
set_option maxHeartbeats 1000000 in
theorem c_bits_Len (n : Nat) (hn : n < 65536) : Fn Try.prog 181 [(kInt .u64).is (n : Int)] ((kInt .i64).is (bitlen n : Int)) := by
  refine Con.enter Try.func181 rfl rfl fun m w => ?_
  refine CW.seq ?_
  refine CW.region ?_
  refine WP.s .n (O.asg rfl) ?_
  refine WP.nil ?_
  refine QE.next ?_
  refine CW.seq ?_
  refine CW.condF rfl ?_
  refine CW.skip ?_
  refine QE.next ?_
  refine CW.seq ?_
  refine CW.region ?_
  refine WP.s .n (O.mv rfl) ?_
  refine WP.s .n (O.fn fn228 (evs.c rfl evs.nil) (c_bits_Len64 n (by assumption))) ?_
  refine WP.s .n (O.asg rfl) ?_
  refine WP.nil ?_
  refine QE.next ?_
  refine CW.ret ?_
  exact QE.done (.inl rfl) rfl (ResOk.t rfl ResOk.nil) (OImp.sub (List.nil_sublist _)) ⟨rfl, rfl⟩

set_option maxRecDepth 20000 in
set_option maxHeartbeats 1000000 in
theorem c_sl_pdq (xs : List T3) (hr : rise xs) (k : Int) (hk : 13 ≤ xs.length → k ≠ 0) : Fn Try.prog 180 [(kSl (kPair kI64 (kPair kI64 kI64))).is xs, (kInt .i64).is 0, (kInt .i64).is (xs.length : Int), (kInt .i64).is k, VP.ex (.func (.func 129) #[] #[])] (VP.tup []) := by
  refine Con.enter Try.func180 rfl rfl fun m w => ?_
  refine ST.fact (i := 0) rfl sl_len fun hB => ?_
  refine CW.seq ?_
  refine CW.region ?_
  refine WP.s .n (O.asg rfl) ?_
  refine WP.nil ?_
  refine QE.next ?_
  refine CW.seq ?_
  refine CW.region ?_
  refine WP.s .n (O.asg rfl) ?_
  refine WP.nil ?_
  refine QE.next ?_
  refine CW.block ?_
  refine CW.loop (fun (z : Nat) => True) (fun (z : Nat) => [(0, (kSl (kPair kI64 (kPair kI64 kI64))).is xs), (1, (kInt .i64).is 0), (2, (kInt .i64).is (xs.length : Int)), (3, (kInt .i64).is k), (4, VP.ex (.func (.func 129) #[] #[])), (10, kBool.is true), (11, kBool.is true)]) (fun (z : Nat) => []) (fun (z : Nat) => 0) 0 trivial (Imp.cons rfl (Imp.cons rfl (Imp.cons rfl (Imp.cons rfl (Imp.cons rfl (Imp.cons rfl (Imp.cons rfl Imp.nil))))))) (OImp.refl _) ?_
  intro z _hz
  refine CW.block ?_
  refine CW.seq ?_
  refine CW.region ?_
  refine WP.s .n (O.mv rfl) ?_
  refine WP.s .n (O.mv rfl) ?_
  refine WP.s .n (O.sub rfl rfl (c := ((xs.length : Int) - 0)) (w64 (by omega))) ?_
  refine WP.s .n (O.asg rfl) ?_
  refine WP.nil ?_
  refine QE.next ?_
  refine CW.seq ?_
  refine CW.seq ?_
  refine CW.region ?_
  refine WP.s .n (O.mv rfl) ?_
  refine WP.s .n (O.le rfl rfl) ?_
  refine WP.nil ?_
  refine QE.next ?_
  refine CW.condD rfl (fun h_t25 => ?_) (fun h_t25 => ?_)
  · refine CW.seq ?_
    refine CW.region ?_
    refine WP.s .n (O.mv rfl) ?_
    refine WP.s .n (O.mv rfl) ?_
    refine WP.s .n (O.mv rfl) ?_
    refine WP.s .n (O.mv rfl) ?_
    refine WP.s .n (O.fn fn220 (evs.c rfl (evs.c rfl (evs.c rfl (evs.c rfl evs.nil)))) (c_sl_insertion xs (by first | assumption | omega))) ?_
    refine WP.nil ?_
    refine QE.next ?_
    refine CW.ret ?_
    refine QE.thenR ?_
    refine QE.blkR ?_
    refine QE.thenR ?_
    refine QE.blkR ?_
    exact QE.done (.inl rfl) rfl ResOk.nil (OImp.sub (List.nil_sublist _)) ⟨rfl, rfl⟩
  · refine CW.skip ?_
    refine QE.next ?_
    refine CW.seq ?_
    refine CW.seq ?_
    refine CW.region ?_
    refine WP.s .n (O.mv rfl) ?_
    refine WP.s .n (O.eq rfl rfl) ?_
    refine WP.nil ?_
    refine QE.next ?_
    refine CW.condD rfl (fun h => absurd h (hk (by omega))) (fun h_t32 => ?_)
    refine CW.skip ?_
    refine QE.next ?_
    refine CW.seq ?_
    refine CW.seq ?_
    refine CW.region ?_
    refine WP.s .n (O.mv rfl) ?_
    refine WP.s .n (O.not (a := true) rfl) ?_
    refine WP.nil ?_
    refine QE.next ?_
    refine CW.condF rfl ?_
    refine CW.skip ?_
    refine QE.next ?_
    refine CW.seq ?_
    refine CW.region ?_
    refine WP.s .n (O.mv rfl) ?_
    refine WP.s .n (O.mv rfl) ?_
    refine WP.s .n (O.mv rfl) ?_
    refine WP.s .n (O.mv rfl) ?_
    refine WP.s .n (O.fn fn223 (evs.c rfl (evs.c rfl (evs.c rfl (evs.c rfl evs.nil)))) (c_sl_pivot xs (by first | assumption | omega) (by first | assumption | omega))) ?_
    refine WP.s .n (O.mv rfl) ?_
    refine WP.s .n (O.ext rfl rfl) ?_
    refine WP.s .n (O.ext rfl rfl) ?_
    refine WP.s .n (O.asg rfl) ?_
    refine WP.s .n (O.asg rfl) ?_
    refine WP.nil ?_
    refine QE.next ?_
    refine CW.seq ?_
    refine CW.seq ?_
    refine CW.region ?_
    refine WP.s .n (O.mv rfl) ?_
    refine WP.s .n (O.eq rfl rfl) ?_
    refine WP.nil ?_
    refine QE.next ?_
    refine CW.condD rfl (fun h => absurd h (by decide)) (fun h_t56 => ?_)
    refine CW.skip ?_
    refine QE.next ?_
    refine CW.seq ?_
    refine CW.seq ?_
    refine CW.region ?_
    refine WP.s .n (O.mv rfl) ?_
    refine WP.s .n (O.mv rfl) ?_
    refine WP.s (.g rfl rfl) (O.mv rfl) ?_
    refine WP.s .n (O.pickT rfl rfl) ?_
    refine WP.s .n (O.mv rfl) ?_
    refine WP.s (.g rfl rfl) (O.mv rfl) ?_
    refine WP.s (.g rfl rfl) (O.eq rfl rfl) ?_
    refine WP.s .n (O.pickT rfl rfl) ?_
    refine WP.nil ?_
    refine QE.next ?_
    refine CW.condD rfl (fun h_t75 => ?_) (fun h => absurd (by decide) h)
    refine CW.seq ?_
    refine CW.region ?_
    refine WP.s .n (O.mv rfl) ?_
    refine WP.s .n (O.mv rfl) ?_
    refine WP.s .n (O.mv rfl) ?_
    refine WP.s .n (O.mv rfl) ?_
    refine WP.s .n (O.fn fn225 (evs.c rfl (evs.c rfl (evs.c rfl (evs.c rfl evs.nil)))) (c_sl_partial xs (by first | assumption | omega) (by first | assumption | omega))) ?_
    refine WP.nil ?_
    refine QE.next ?_
    refine CW.condT rfl ?_
    refine CW.ret ?_
    refine QE.thenR ?_
    refine QE.blkR ?_
    refine QE.thenR ?_
    refine QE.blkR ?_
    exact QE.done (.inl rfl) rfl ResOk.nil (OImp.sub (List.nil_sublist _)) ⟨rfl, rfl⟩

set_option maxRecDepth 20000 in
set_option maxHeartbeats 1000000 in
theorem c_sl_Sort (xs : List T3) (hr : rise xs) (hl : xs.length < 65536) : Fn Try.prog 128 [(kSl (kPair kI64 (kPair kI64 kI64))).is xs, VP.ex (.func (.func 129) #[] #[])] (VP.tup []) := by
  refine Con.enter Try.func128 rfl rfl fun m w => ?_
  refine ST.fact (i := 0) rfl sl_len fun hB => ?_
  refine CW.seq ?_
  refine CW.region ?_
  refine WP.s .n (O.mv rfl) ?_
  refine WP.s .n (O.lenS rfl Try.underlying152) ?_
  refine WP.s .n (O.asg rfl) ?_
  refine WP.nil ?_
  refine QE.next ?_
  refine CW.region ?_
  refine WP.s .n (O.mv rfl) ?_
  refine WP.s .n (O.mv rfl) ?_
  refine WP.s .n (O.mv rfl) ?_
  refine WP.s .n (O.cvt rfl Try.underlying3 Try.underlying172 (c := (xs.length : Int)) (wu64 (by omega))) ?_
  refine WP.s .n (O.fn fn181 (evs.l rfl (is_eq (y := ((xs.length : Nat) : Int)) (by first | rfl | omega)) evs.nil) (c_bits_Len xs.length hl)) ?_
  refine WP.s .n (O.mv rfl) ?_
  refine WP.s .n (O.fn fn180 (evs.c rfl (evs.c rfl (evs.c rfl (evs.c rfl (evs.c rfl evs.nil))))) (c_sl_pdq xs (by omega) (bitlen xs.length : Int) (fun h => bl_ne (by omega)))) ?_
  refine WP.nil ?_
  exact QE.done (.inr rfl) rfl ResOk.nil (OImp.sub (List.nil_sublist _)) ⟨rfl, rfl⟩

end Fw

