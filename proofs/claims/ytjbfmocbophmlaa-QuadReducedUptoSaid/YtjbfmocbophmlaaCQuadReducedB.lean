/- Frame, facts and contracts for QuadReduced. -/
import Derived.Test.YtjbfmocbophmlaaCQuadReducedA
import Derived.Scope
import Derived.Test.YtjbfmocbophmlaaProg
import Derived.Test.YtjbfmocbophmlaaRows
import Derived.ProofKit
import Derived.OpenShut
import Derived.JoinedCond
import Derived.Carry
/- The frame of the walks: variables that are only read from now on; function values. -/
set_option linter.unusedVariables false
set_option linter.unusedSimpArgs false
namespace Fw
open Go

section
variable {C : Ctx} {Q : Exit → Act → World → Prop} {ρ ρ' : Env} {L L' : List OB} {ops : Array Oper} {rest : List Oper}
  {dst : Option Tmp} {ty : TypeId} {pos : String} {after : Array Edge} {g : Option (Nat × Bool)}
/-- A variable is told as read-only from now on. -/
theorem ST.freezeb {α : Type} {K : Act → World → Prop} {k : Kd α} {x : α} {b : Nat} {e : TypeId} (j : Nat) (hj : L[j]? = some (OB.box b e k x)) (hi : FImp (.pointer (some ⟨b, 0, none⟩)) (VP.pim k x) ρ ρ') (h : ST C K ρ' (L.eraseIdx j)) : ST C K ρ L := fun m w a s t => by
  obtain ⟨A, hA, hk⟩ := box_cells s (List.mem_of_getElem? hj)
  have hsplit : A.toList = A.toList ++ [] := by simp
  obtain ⟨h1, h2⟩ := s.free hj (i := b) (by simp [OB.box]) hA hsplit
  refine h _ w a h2 (hi _ _ a ⟨b, 0, A.toList, A.toList, rfl, by simp [Mem.add], ⟨[], [], by simp, rfl⟩, k.mono h1 hk⟩ (t.up h1))
/-- x[:h] of an array that is only read. -/
theorem O.slA {α : Type} {k : Kd α} {xs : List α} {x y : Operand} {kj : IntKind} {n' : Int} {T e : TypeId} {n : Nat} {agg : Bool} (h : Nat) (hx : ev ρ x = some (VP.pim (kArr n k) xs)) (hy : ev ρ y = some ((kInt kj).is n')) (hu : C.P.underlying T = some (.array n e)) (ht : TyOk C.P e agg k.sz) (hn : n' = h) (hle : h ≤ n) (hbig : n ≤ 1099511627776) : OpOk C ⟨dst, .slice T x none (some y) none, ty, pos, after, g⟩ ρ L ((kSl k).is (xs.take h)) L := OpOk.val fun m w f s t => by
  subst hn
  obtain ⟨b, o, c, cells, e1, e2, e3, hl, e4⟩ := t.evl hx
  have hb : (Instr.sliceBounds false n n none (some (.int kj (h : Int))) none).run C.P w = .ok (0, h, n) w := by
    simp [Instr.sliceBounds, run_bound (P := C.P) w kj h n _ hle]
  have := sl_cut (k := k) (m := m) (a := some ⟨b, o, none⟩) (cap := n) (l := 0) (h := h) (mx := n) (xs := xs) (by omega) (by omega) (.inr ⟨b, o, c, cells, rfl, e2, e3, e4⟩) (Nat.zero_le _) (by omega) (by omega)
  rw [List.drop_zero] at this
  have hv : (if n = 0 then (some ⟨b, o, none⟩ : Option Addr) else (some ⟨b, o, none⟩ : Option Addr).map (·.add (0 * k.sz))) = some (if n = 0 then ⟨b, o, none⟩ else (⟨b, o, none⟩ : Addr).add (0 * k.sz)) := by split <;> rfl
  rw [hv] at this
  refine ⟨_, ?_, this⟩
  have hs := run_sizeOf ht w
  simp only [execOp, e1, t.int hy, Instr.sliceAt, Sem.run_bind, run_underlying hu, Option.map_some, Option.map_none, Instr.sureAddr, Sem.run_pure, Result.andThen_ok, hb, hs]
end

/-! ### Orders that come to the same -/
section
variable {C : Ctx} {Q : Exit → Act → World → Prop} {ρ ρ' : Env} {L L' : List OB}
def JoinAt (C : Ctx) (ρ' : Env) (L' : List OB) (a : Act) (w : World) : Prop := ∃ m, Sat C m w L' ∧ Has C.N m a ρ'
theorem CW.join {c : Code} (ρ' : Env) (L' : List OB) (h : CW C (Kx (JoinAt C ρ' L') Q) c ρ L) (k : QE C Q .normal ρ' L') : CW C Q c ρ L := fun m w a s t =>
  Code.wp_mono (fun e a w he => by
    cases e with
    | normal => obtain ⟨m, s, t⟩ := he; exact k m w a s t
    | _ => exact he) (h m w a s t)
theorem QE.join (hi : Imp ρ ρ') (ho : OImp C L L') : QE C (Kx (JoinAt C ρ' L') Q) .normal ρ L := fun m w a s t => ⟨m, ho m w s, hi _ m a t⟩
end
end Fw

/- The frame of the walks: loops and cuts with seven or eight numbers. -/
set_option linter.unusedVariables false
set_option linter.unusedSimpArgs false
namespace Fw
open Go

section
variable {C : Ctx} {Q : Exit → Act → World → Prop} {ρ : Env} {L : List OB}
def Round7 (C : Ctx) {ι1 ι2 ι3 ι4 ι5 ι6 ι7 : Type} (R : ι1 → ι2 → ι3 → ι4 → ι5 → ι6 → ι7 → Prop) (I : ι1 → ι2 → ι3 → ι4 → ι5 → ι6 → ι7 → Env) (O : ι1 → ι2 → ι3 → ι4 → ι5 → ι6 → ι7 → List OB) (μ : ι1 → ι2 → ι3 → ι4 → ι5 → ι6 → ι7 → Nat) (n : Nat) (a : Act) (w : World) : Prop := ∃ x1 x2 x3 x4 x5 x6 x7 m, μ x1 x2 x3 x4 x5 x6 x7 < n ∧ R x1 x2 x3 x4 x5 x6 x7 ∧ Sat C m w (O x1 x2 x3 x4 x5 x6 x7) ∧ Has C.N m a (I x1 x2 x3 x4 x5 x6 x7)
theorem CW.loop7 {c : Code} {ι1 ι2 ι3 ι4 ι5 ι6 ι7 : Type} (R : ι1 → ι2 → ι3 → ι4 → ι5 → ι6 → ι7 → Prop) (I : ι1 → ι2 → ι3 → ι4 → ι5 → ι6 → ι7 → Env) (O : ι1 → ι2 → ι3 → ι4 → ι5 → ι6 → ι7 → List OB) (μ : ι1 → ι2 → ι3 → ι4 → ι5 → ι6 → ι7 → Nat) (x1 : ι1) (x2 : ι2) (x3 : ι3) (x4 : ι4) (x5 : ι5) (x6 : ι6) (x7 : ι7) (r : R x1 x2 x3 x4 x5 x6 x7) (hi : Imp ρ (I x1 x2 x3 x4 x5 x6 x7)) (ho : OImp C L (O x1 x2 x3 x4 x5 x6 x7))
    (round : ∀ x1 x2 x3 x4 x5 x6 x7, R x1 x2 x3 x4 x5 x6 x7 → CW C (Exit.then (Round7 C R I O μ (μ x1 x2 x3 x4 x5 x6 x7)) Q) c (I x1 x2 x3 x4 x5 x6 x7) (O x1 x2 x3 x4 x5 x6 x7)) : CW C Q (.loop c) ρ L := fun m w a s t =>
  wp_loop_ghost (fun n a w => ∃ x1 x2 x3 x4 x5 x6 x7 m, μ x1 x2 x3 x4 x5 x6 x7 = n ∧ R x1 x2 x3 x4 x5 x6 x7 ∧ Sat C m w (O x1 x2 x3 x4 x5 x6 x7) ∧ Has C.N m a (I x1 x2 x3 x4 x5 x6 x7)) (μ x1 x2 x3 x4 x5 x6 x7) ⟨x1, x2, x3, x4, x5, x6, x7, m, rfl, r, ho m w s, hi _ m a t⟩ fun n a w ⟨x1, x2, x3, x4, x5, x6, x7, m, hn, r, s, t⟩ => by
    subst hn
    refine wp_mono (round x1 x2 x3 x4 x5 x6 x7 r m w a s t) fun e a w q => ?_
    cases e with
    | normal => obtain ⟨x1, x2, x3, x4, x5, x6, x7, m, hlt, r, s, t⟩ := q; exact ⟨μ x1 x2 x3 x4 x5 x6 x7, hlt, x1, x2, x3, x4, x5, x6, x7, m, rfl, r, s, t⟩
    | _ => exact q
theorem QE.round7 {ι1 ι2 ι3 ι4 ι5 ι6 ι7 : Type} {R : ι1 → ι2 → ι3 → ι4 → ι5 → ι6 → ι7 → Prop} {I : ι1 → ι2 → ι3 → ι4 → ι5 → ι6 → ι7 → Env} {O : ι1 → ι2 → ι3 → ι4 → ι5 → ι6 → ι7 → List OB} {μ : ι1 → ι2 → ι3 → ι4 → ι5 → ι6 → ι7 → Nat} {n : Nat} (x1 : ι1) (x2 : ι2) (x3 : ι3) (x4 : ι4) (x5 : ι5) (x6 : ι6) (x7 : ι7) (hlt : μ x1 x2 x3 x4 x5 x6 x7 < n) (r : R x1 x2 x3 x4 x5 x6 x7) (hi : Imp ρ (I x1 x2 x3 x4 x5 x6 x7)) (ho : OImp C L (O x1 x2 x3 x4 x5 x6 x7)) : QE C (Exit.then (Round7 C R I O μ n) Q) .normal ρ L := fun m w a s t => ⟨x1, x2, x3, x4, x5, x6, x7, m, hlt, r, ho m w s, hi _ m a t⟩
def Round8 (C : Ctx) {ι1 ι2 ι3 ι4 ι5 ι6 ι7 ι8 : Type} (R : ι1 → ι2 → ι3 → ι4 → ι5 → ι6 → ι7 → ι8 → Prop) (I : ι1 → ι2 → ι3 → ι4 → ι5 → ι6 → ι7 → ι8 → Env) (O : ι1 → ι2 → ι3 → ι4 → ι5 → ι6 → ι7 → ι8 → List OB) (μ : ι1 → ι2 → ι3 → ι4 → ι5 → ι6 → ι7 → ι8 → Nat) (n : Nat) (a : Act) (w : World) : Prop := ∃ x1 x2 x3 x4 x5 x6 x7 x8 m, μ x1 x2 x3 x4 x5 x6 x7 x8 < n ∧ R x1 x2 x3 x4 x5 x6 x7 x8 ∧ Sat C m w (O x1 x2 x3 x4 x5 x6 x7 x8) ∧ Has C.N m a (I x1 x2 x3 x4 x5 x6 x7 x8)
theorem CW.loop8 {c : Code} {ι1 ι2 ι3 ι4 ι5 ι6 ι7 ι8 : Type} (R : ι1 → ι2 → ι3 → ι4 → ι5 → ι6 → ι7 → ι8 → Prop) (I : ι1 → ι2 → ι3 → ι4 → ι5 → ι6 → ι7 → ι8 → Env) (O : ι1 → ι2 → ι3 → ι4 → ι5 → ι6 → ι7 → ι8 → List OB) (μ : ι1 → ι2 → ι3 → ι4 → ι5 → ι6 → ι7 → ι8 → Nat) (x1 : ι1) (x2 : ι2) (x3 : ι3) (x4 : ι4) (x5 : ι5) (x6 : ι6) (x7 : ι7) (x8 : ι8) (r : R x1 x2 x3 x4 x5 x6 x7 x8) (hi : Imp ρ (I x1 x2 x3 x4 x5 x6 x7 x8)) (ho : OImp C L (O x1 x2 x3 x4 x5 x6 x7 x8))
    (round : ∀ x1 x2 x3 x4 x5 x6 x7 x8, R x1 x2 x3 x4 x5 x6 x7 x8 → CW C (Exit.then (Round8 C R I O μ (μ x1 x2 x3 x4 x5 x6 x7 x8)) Q) c (I x1 x2 x3 x4 x5 x6 x7 x8) (O x1 x2 x3 x4 x5 x6 x7 x8)) : CW C Q (.loop c) ρ L := fun m w a s t =>
  wp_loop_ghost (fun n a w => ∃ x1 x2 x3 x4 x5 x6 x7 x8 m, μ x1 x2 x3 x4 x5 x6 x7 x8 = n ∧ R x1 x2 x3 x4 x5 x6 x7 x8 ∧ Sat C m w (O x1 x2 x3 x4 x5 x6 x7 x8) ∧ Has C.N m a (I x1 x2 x3 x4 x5 x6 x7 x8)) (μ x1 x2 x3 x4 x5 x6 x7 x8) ⟨x1, x2, x3, x4, x5, x6, x7, x8, m, rfl, r, ho m w s, hi _ m a t⟩ fun n a w ⟨x1, x2, x3, x4, x5, x6, x7, x8, m, hn, r, s, t⟩ => by
    subst hn
    refine wp_mono (round x1 x2 x3 x4 x5 x6 x7 x8 r m w a s t) fun e a w q => ?_
    cases e with
    | normal => obtain ⟨x1, x2, x3, x4, x5, x6, x7, x8, m, hlt, r, s, t⟩ := q; exact ⟨μ x1 x2 x3 x4 x5 x6 x7 x8, hlt, x1, x2, x3, x4, x5, x6, x7, x8, m, rfl, r, s, t⟩
    | _ => exact q
theorem QE.round8 {ι1 ι2 ι3 ι4 ι5 ι6 ι7 ι8 : Type} {R : ι1 → ι2 → ι3 → ι4 → ι5 → ι6 → ι7 → ι8 → Prop} {I : ι1 → ι2 → ι3 → ι4 → ι5 → ι6 → ι7 → ι8 → Env} {O : ι1 → ι2 → ι3 → ι4 → ι5 → ι6 → ι7 → ι8 → List OB} {μ : ι1 → ι2 → ι3 → ι4 → ι5 → ι6 → ι7 → ι8 → Nat} {n : Nat} (x1 : ι1) (x2 : ι2) (x3 : ι3) (x4 : ι4) (x5 : ι5) (x6 : ι6) (x7 : ι7) (x8 : ι8) (hlt : μ x1 x2 x3 x4 x5 x6 x7 x8 < n) (r : R x1 x2 x3 x4 x5 x6 x7 x8) (hi : Imp ρ (I x1 x2 x3 x4 x5 x6 x7 x8)) (ho : OImp C L (O x1 x2 x3 x4 x5 x6 x7 x8)) : QE C (Exit.then (Round8 C R I O μ n) Q) .normal ρ L := fun m w a s t => ⟨x1, x2, x3, x4, x5, x6, x7, x8, m, hlt, r, ho m w s, hi _ m a t⟩
end
end Fw

/- The frame of the walks: calls of a function value that is known, calls that only look at an owned slice, equal structs. -/
set_option linter.unusedVariables false
set_option linter.unusedSimpArgs false
namespace Fw
open Go

section
variable {C : Ctx} {Q : Exit → Act → World → Prop} {ρ : Env} {L L' : List OB} {ops : Array Oper} {rest : List Oper}
  {dst : Option Tmp} {ty : TypeId} {pos : String} {after : Array Edge} {g : Option (Nat × Bool)}
theorem run_callv {P : Program} {a : Act} {w : World} {f : FuncId} {x : Operand} {xs : List Operand} {tys : Array TypeId} (hf : FnOk P f) (hx : a.eval x = .func (.func f) #[] #[]) : (execOp a.eval ⟨dst, .call ⟨.value x, xs.toArray, tys⟩, ty, pos, after, g⟩).run P w = .ok (.enter f (xs.map a.eval).toArray) w := by
  obtain ⟨fn, f1, f2, f3⟩ := hf
  have f2' : ¬ (fn.name = "runtime.NumGoroutine") := by simpa using f2
  have f3' : ¬ (fn.body = none) := by cases hb : fn.body <;> simp_all
  have hp : ∀ w, (program).run P w = .ok P w := fun _ => rfl
  simp [execOp, resolve, Deferred.ofValue, invoke, callFunc, hp, hx, f1, f2', f3']
/-- A call of a function value that is known. -/
theorem O.fv {f : FuncId} {x : Operand} {xs : List Operand} {tys : Array TypeId} {pre : List VP} {res : VP} (hx : ev ρ x = some (VP.ex (.func (.func f) #[] #[]))) (hf : FnOk C.P f) (ha : evs ρ xs pre) (hc : Fn C.P f pre res) : OpOk C ⟨dst, .call ⟨.value x, xs.toArray, tys⟩, ty, pos, after, g⟩ ρ L res L := fun m w a s t next Q k => by
  unfold Oper.wp
  rw [run_callv hf (t.ex hx)]
  refine (hc m w _ s.fits (evs.args t ha) (Sat.given (Li := []) (L := L) s)).mono ?_
  rintro e w' ⟨m', v, p, Lo, rfl, s', hp, rfl, rfl⟩
  exact k m' w' v s'.le (Sat.after (Li := []) (Lo := []) s s') hp
/-- A call that looks at one owned block and leaves it as it is. -/
theorem O.fn1 {b : OB} {f : FuncId} {xs : List Operand} {tys : Array TypeId} {pre : List VP} {res : VP} (hb : b ∈ L) (hf : FnOk C.P f) (ha : evs ρ xs pre) (hc : Con C.P f pre [b] (fun p Lo => p = res ∧ Lo = [b] ∧ True)) : OpOk C ⟨dst, .call ⟨.value (.func f), xs.toArray, tys⟩, ty, pos, after, g⟩ ρ L res L := fun m w a s t next Q k => by
  obtain ⟨u, v, rfl⟩ := List.append_of_mem hb
  have hperm : (u ++ b :: v).Perm ([b] ++ (u ++ v)) := List.perm_middle
  have s1 : Sat C m w ([b] ++ (u ++ v)) := s.perm hperm.symm
  unfold Oper.wp
  rw [run_callv hf rfl]
  refine (hc m w _ s.fits (evs.args t ha) s1.given).mono ?_
  rintro e w' ⟨m', x, p, Lo, rfl, s', hp, rfl, rfl, _⟩
  exact k m' w' x s'.le ((Sat.after (L := u ++ v) s1 s').perm hperm) hp
/-- The types of three numbers are compared one by one. -/
def EqT (P : Program) (T : TypeId) : Prop := ∃ f1 f2 f3 : Field, P.underlying T = some (.struct #[f1, f2, f3]) ∧ P.underlying f1.type = some (.int .i64) ∧ P.underlying f2.type = some (.int .i64) ∧ P.underlying f3.type = some (.int .i64) ∧ f1.offset = 0 ∧ f2.offset = 1 ∧ f3.offset = 2 ∧ f1.name ≠ "_" ∧ f2.name ≠ "_" ∧ f3.name ≠ "_" ∧ P.stoodInHeld T = false ∧ P.eqGuardType P.depth T = false
theorem run_isAgg_int {P : Program} {t : TypeId} {k : IntKind} (h : P.underlying t = some (.int k)) (w : World) : (isAgg t).run P w = .ok false w := by
  simp [isAgg, run_underlying h]
theorem run_eq_int {P : Program} {t : TypeId} (h : P.underlying t = some (.int .i64)) (d : Nat) (x y : Int) (w : World) : (Op.equalIn (d + 1) t (.int .i64 x) (.int .i64 y)).run P w = .ok (x == y) w := by
  simp [Op.equalIn, run_underlying h]
theorem run_eqT' {P : Program} {T : TypeId} (h : EqT P T) (d : Nat) (a b c a' b' c' : Int) (w : World) : (Op.equalIn (d + 1 + 1) T (.agg #[.int .i64 a, .int .i64 b, .int .i64 c]) (.agg #[.int .i64 a', .int .i64 b', .int .i64 c'])).run P w = .ok (decide ((a, b, c) = (a', b', c'))) w := by
  obtain ⟨f1, f2, f3, h1, u1, u2, u3, o1, o2, o3, n1, n2, n3, hs, _⟩ := h
  have hp : ∀ w, (program).run P w = .ok P w := fun _ => rfl
  have q1 := fun x y => run_eq_int u1 d x y w
  have q2 := fun x y => run_eq_int u2 d x y w
  have q3 := fun x y => run_eq_int u3 d x y w
  rw [Op.equalIn]
  by_cases ha : a = a'
  · by_cases hb : b = b'
    · by_cases hc : c = c' <;>
        simp [run_underlying h1, hp, hs, n1, n2, n3, o1, o2, o3, part, run_isAgg_int u1, run_isAgg_int u2, run_isAgg_int u3, q1, q2, q3, ha, hb, hc]
    · simp [run_underlying h1, hp, hs, n1, n2, n3, o1, o2, o3, part, run_isAgg_int u1, run_isAgg_int u2, run_isAgg_int u3, q1, q2, q3, ha, hb]
  · simp [run_underlying h1, hp, hs, n1, n2, n3, o1, o2, o3, part, run_isAgg_int u1, run_isAgg_int u2, run_isAgg_int u3, q1, q2, q3, ha]
theorem run_eqT {P : Program} {T : TypeId} (h : EqT P T) (a b c a' b' c' : Int) (w : World) : (Op.equal T (.agg #[.int .i64 a, .int .i64 b, .int .i64 c]) (.agg #[.int .i64 a', .int .i64 b', .int .i64 c'])).run P w = .ok (decide ((a, b, c) = (a', b', c'))) w := run_eqT' h 9998 a b c a' b' c' w
abbrev kT : Kd (Int × Int × Int) := kPair kI64 (kPair kI64 kI64)
theorem kT_val {m : Mem} {v : Value} {x : Int × Int × Int} (h : (kT.is x).p m v) : v = .agg #[.int .i64 x.1, .int .i64 x.2.1, .int .i64 x.2.2] := by
  obtain ⟨cs, rfl, a, b, rfl, ⟨rfl, _⟩, c, d, rfl, ⟨rfl, _⟩, ⟨rfl, _⟩⟩ := h
  rfl
theorem O.eqT {x y : Operand} {T yt : TypeId} {p q : Int × Int × Int} (hx : ev ρ x = some (kT.is p)) (hy : ev ρ y = some (kT.is q)) (h : EqT C.P T) : OpOk C ⟨dst, .binOp .eql T x y yt, ty, pos, after, g⟩ ρ L (kBool.is (decide (p = q))) L := OpOk.val fun m w f s t => by
  refine ⟨.bool (decide (p = q)), ?_, bool_p ..⟩
  have e1 := kT_val (t.evl hx)
  have e2 := kT_val (t.evl hy)
  have hr := run_eqT h p.1 p.2.1 p.2.2 q.1 q.2.1 q.2.2 w
  have hg := h
  obtain ⟨f1, f2, f3, h1, u1, u2, u3, o1, o2, o3, n1, n2, n3, hs, hq⟩ := hg
  have hp : ∀ w, (program).run C.P w = .ok C.P w := fun _ => rfl
  simp only [execOp, e1, e2, eqGuard, binOp]
  have e : decide (p = q) = decide ((p.1, p.2.1, p.2.2) = (q.1, q.2.1, q.2.2)) := rfl
  rw [e]
  simp only [hp, hq, hr, Sem.run_bind, Result.andThen_ok]
  simp [hp, hq, hr]
end
theorem ST.rowlen {C : Ctx} {K : Act → World → Prop} {ρ : Env} {L : List OB} {α : Type} {k : Kd α} {v : Value} {e : TypeId} {xs : List α} (j : Nat) (hj : L[j]? = some (OB.row v e k xs)) (h : xs.length ≤ 1099511627776 → ST C K ρ L) : ST C K ρ L := fun m w a s t => by
  obtain ⟨cells, _, _, h3⟩ := (s.own _ (List.mem_of_getElem? hj)).1
  exact h h3 m w a s t
end Fw

/- The frame of the walks: variables whose fields are slices of the call's own; makes with room alone. -/
set_option linter.unusedVariables false
set_option linter.unusedSimpArgs false
namespace Fw
open Go

/-- A cell that is told as it is. -/
def kVal : Kd Value where
  sz := 1
  agg := false
  at' _ cs v := cs = [v] ∧ v.oneCell' = true
  len h := by rw [h.1]; rfl
  mono _ h := h
  flat h c hc := by rw [h.1] at hc; simp at hc; rw [hc]; exact h.2
  one _ := rfl
theorem val_ex (v : Value) : VP.le (kVal.is v) (VP.ex v) := by
  rintro m u ⟨cs, rfl, rfl, h⟩
  rfl
theorem ex_val {v : Value} (h : v.oneCell' = true) : VP.le (VP.ex v) (kVal.is v) := by
  rintro m u rfl
  exact ⟨[u], rfl, rfl, h⟩

section
variable {C : Ctx} {Q : Exit → Act → World → Prop} {ρ ρ' : Env} {L L' : List OB} {ops : Array Oper} {rest : List Oper}
  {dst : Option Tmp} {ty : TypeId} {pos : String} {after : Array Edge} {g : Option (Nat × Bool)}
theorem ST.rowcell {K : Act → World → Prop} {α : Type} {k : Kd α} {v : Value} {e : TypeId} {xs : List α} (j : Nat) (hj : L[j]? = some (OB.row v e k xs)) (h : v.oneCell' = true → ST C K ρ L) : ST C K ρ L := fun m w a s t => by
  obtain ⟨cells, o1, o2, o3⟩ := row_own s (List.mem_of_getElem? hj)
  obtain ⟨ad, cap, rfl, _⟩ := owns_lenEq o1
  exact h rfl m w a s t
theorem Sat.frozen {α : Type} {k : Kd α} {xs : List α} {v : Value} {e : TypeId} {m : Mem} {w : World} {j : Nat} (s : Sat C m w L) (hj : L[j]? = some (OB.row v e k xs)) : ∃ m', Mem.le m m' ∧ Sat C m' w (L.eraseIdx j) ∧ ((kSl k).is xs).p m' v := by
  obtain ⟨cells, o1, o2, o3⟩ := row_own s (List.mem_of_getElem? hj)
  rcases o1.2 with ⟨rfl, hn⟩ | ⟨b, cap, cur, rfl, _, hA, hcap, hm, hsz, hcur⟩
  · have hxs : xs = [] := List.eq_nil_of_length_eq_zero hn
    subst hxs
    exact ⟨m, Mem.le_refl m, s.sub (List.eraseIdx_sublist L j), _, rfl, none, 0, rfl, by simp, by simp, .inl rfl⟩
  · have hsplit : cur.toList = cells ++ cur.toList.drop (xs.length * k.sz) := by rw [← hcur, List.take_append_drop]
    obtain ⟨h1, h2⟩ := s.free hj (i := b) (by simp [OB.row, Value.ownBlock]) hA hsplit
    exact ⟨_, h1, h2, _, rfl, some ⟨b, 0, none⟩, cap, rfl, o3, hcap, .inr ⟨b, 0, cells, cells, rfl, by simp [Mem.add], ⟨[], [], by simp, rfl⟩, o2.mono h1⟩⟩
/-- One owned block is told otherwise: what is known of memory may be used. -/
theorem Sat.rep {m : Mem} {w : World} {b b' : OB} {i : Nat} (s : Sat C m w L) (hi : L[i]? = some b) (hid : b'.ids = b.ids) (hp : b.p m w → b'.p m w) : Sat C m w (L.set i b') := by
  obtain ⟨hlt, he⟩ := List.getElem?_eq_some_iff.1 hi
  have hb : b ∈ L := by rw [← he]; exact List.getElem_mem hlt
  obtain ⟨h1, h2⟩ := s.own b hb
  have hsplit : L = L.take i ++ b :: L.drop (i + 1) := by rw [← he]; simp
  have hset : L.set i b' = L.take i ++ b' :: L.drop (i + 1) := by rw [List.set_eq_take_append_cons_drop, if_pos hlt]
  refine { s with own := fun c hc => ?_, apart := ?_ }
  · rw [hset] at hc
    rcases List.mem_append.1 hc with hc | hc
    · exact s.own c (List.mem_of_mem_take hc)
    · rcases List.mem_cons.1 hc with rfl | hc
      · exact ⟨hp h1, fun x hx => h2 x (by rw [← hid]; exact hx)⟩
      · exact s.own c (List.mem_of_mem_drop hc)
  · have ha := s.apart
    rw [hsplit, List.pairwise_append, List.pairwise_cons] at ha
    rw [hset, List.pairwise_append, List.pairwise_cons]
    obtain ⟨p1, ⟨p2, p3⟩, p4⟩ := ha
    refine ⟨p1, ⟨fun c hc x hx => p2 c hc x (by rw [← hid]; exact hx), p3⟩, fun c hc d hd => ?_⟩
    rcases List.mem_cons.1 hd with rfl | hd
    · intro x hx; rw [hid]; exact p4 c hc b (by simp) x hx
    · exact p4 c hc d (by simp [hd])
/-- A slice of the call's own that stands in a variable is told as read-only from now on, there too. -/
theorem ST.freezeIn {α β γ : Type} {K : Act → World → Prop} {k : Kd α} {xs : List α} {v : Value} {e e' : TypeId} {k1 : Kd β} {x1 : β} {k2 : Kd γ} {b : Nat} (x2 : γ) (j i : Nat) (hj : L[j]? = some (OB.row v e k xs)) (hi : (L.eraseIdx j)[i]? = some (OB.box b e' k1 x1))
    (hk : ∀ m cs, ((kSl k).is xs).p m v → k1.at' m cs x1 → k2.at' m cs x2) (hF : FImp v ((kSl k).is xs) ρ ρ') (h : ST C K ρ' ((L.eraseIdx j).set i (OB.box b e' k2 x2))) : ST C K ρ L := fun m w a s t => by
  obtain ⟨m', h1, h2, h3⟩ := s.frozen hj
  refine h m' w a (h2.rep hi rfl ?_) (hF _ _ _ h3 (t.up h1))
  rintro ⟨A, hA, hx⟩
  exact ⟨A, hA, hk _ _ h3 hx⟩
theorem sl_at {α : Type} {k : Kd α} {xs : List α} {m : Mem} {v : Value} (h : ((kSl k).is xs).p m v) : (kSl k).at' m [v] xs := by
  obtain ⟨cs, rfl, hc⟩ := h
  obtain ⟨a, cap, rfl, r⟩ := hc
  exact ⟨a, cap, rfl, r⟩
theorem fz_fst {α β : Type} {k : Kd α} {xs : List α} {v : Value} {l : Kd β} {y : β} (m : Mem) (cs : List Value) (h : ((kSl k).is xs).p m v) (hc : (kPair kVal l).at' m cs (v, y)) : (kPair (kSl k) l).at' m cs (xs, y) := by
  obtain ⟨a, b, rfl, ⟨h1, _⟩, h2⟩ := hc
  simp only at h1
  subst h1
  exact ⟨_, b, rfl, sl_at h, h2⟩
theorem fz_snd {α β : Type} {k : Kd α} {xs : List α} {v : Value} {l : Kd β} {y : β} (m : Mem) (cs : List Value) (h : ((kSl k).is xs).p m v) (hc : (kPair l kVal).at' m cs (y, v)) : (kPair l (kSl k)).at' m cs (y, xs) := by
  obtain ⟨a, b, rfl, h2, ⟨h1, _⟩⟩ := hc
  simp only at h1
  subst h1
  exact ⟨a, _, rfl, h2, sl_at h⟩
/-- make of no elements, with room. -/
theorem WP.mk0 {α : Type} {k : Kd α} {z : α} {d : Tmp} {T e : TypeId} {x y : Operand} {ki kj : IntKind} {n : Int} (c : Nat) (hr : Run ops ρ ⟨some d, .makeSlice T x y, ty, pos, after, g⟩) (hx : ev ρ x = some ((kInt ki).is 0)) (hy : ev ρ y = some ((kInt kj).is n)) (hn : n = c) (hc : c ≤ 1099511627776)
    (hu : C.P.underlying T = some (.slice e)) (he : ElOk C.P e k) (hz : ZeroOk C.P e k z) (h : ∀ v, WP C ops Q rest ((d, VP.ex v) :: ρ) (OB.row v e k ([] : List α) :: L)) (hd : Nat.blt d C.N = true := by rfl) :
    WP C ops Q (⟨some d, .makeSlice T x y, ty, pos, after, g⟩ :: rest) ρ L := fun m w a s t => by
  subst hn
  obtain ⟨i, v, h1, h2, h3, h4, h5, h6⟩ := he
  unfold wpList
  rw [if_pos (hr _ m a t)]
  refine .inl ?_
  have hrun := run_make (P := C.P) w T e i v hu h1 h2 ki kj (0 : Int) (c : Int) (by omega) (by omega) (by
    have : (i.bytes : Int) * (c : Int) ≤ 128 * 1099511627776 := Int.mul_le_mul (by omega) (by omega) (by omega) (by omega)
    omega) (by omega)
  simp only [Int.toNat_natCast] at hrun
  unfold Oper.wp
  have hrun' : (execOp a.eval ⟨some d, .makeSlice T x y, ty, pos, after, g⟩).run C.P w = .ok (.value (.slice (some ⟨w.heap.size, 0, none⟩) 0 c)) (w.alloc (.cells (madeCells v.cells (c * i.size)) e)) := by
    simp [execOp, t.int hx, t.int hy, hrun]
  rw [hrun']
  have hgrow : Grow [] w (w.alloc (.cells (madeCells v.cells (c * i.size)) e)) := ⟨rfl, rfl, rfl, by simp, fun i hi _ => RowKit.Below.heap_alloc w _ i hi⟩
  have hsz : (madeCells v.cells (c * i.size)).size = c * k.sz := by rw [size_madeCells, h3]
  refine h _ m _ _ (s.new hgrow (OB.row (.slice (some ⟨w.heap.size, 0, none⟩) 0 c) e k ([] : List α)) ⟨[], ⟨?_, .inr ⟨w.heap.size, c, _, ?_, Nat.zero_le _, heap_alloc_new w _, ?_, ?_, hsz, ?_⟩⟩, rfl, by simp⟩ ?_) (t.put rfl hd)
  · simp
  · simp
  · simp
  · unfold maxLen; omega
  · simp
  · intro i hi
    simp [OB.row, Value.ownBlock] at hi
    subst hi
    simp
end
end Fw

/- The frame of the walks: families of slices of the call's own (matrices). -/
set_option linter.unusedVariables false
set_option linter.unusedSimpArgs false
namespace Fw
open Go

abbrev nilV : Value := .slice none 0 0
def famIds (vs : List Value) : List Nat := vs.flatMap (fun v => v.ownBlock.toList)
theorem getD_mem' {α : Type} {l : List α} {i : Nat} (d : α) (h : i < l.length) : l.getD i d ∈ l := by
  rw [List.getD_eq_getElem?_getD, List.getElem?_eq_getElem h]; exact List.getElem_mem h
theorem getD_set_ne {α : Type} {l : List α} {i j : Nat} {x d : α} (h : i ≠ j) : (l.set i x).getD j d = l.getD j d := by
  simp only [List.getD_eq_getElem?_getD, List.getElem?_set_ne h]
theorem getD_set_self {α : Type} {l : List α} {i : Nat} {x d : α} (h : i < l.length) : (l.set i x).getD i d = x := by
  simp [List.getD_eq_getElem?_getD, h]
theorem set_getD_self {α : Type} {l : List α} {i : Nat} {d : α} : l.set i (l.getD i d) = l := by
  apply List.ext_getElem?
  intro j
  rw [List.getElem?_set]
  split
  · rename_i h; subst h
    split
    · rename_i h2; simp [List.getD_eq_getElem?_getD, h2]
    · rename_i h2; simp [List.getElem?_eq_none (Nat.le_of_not_lt h2)]
  · rfl
theorem famIds_mem {vs : List Value} {i : Nat} (h : i < vs.length) {g : Nat} (hg : g ∈ (vs.getD i nilV).ownBlock.toList) : g ∈ famIds vs :=
  List.mem_flatMap.2 ⟨_, getD_mem' nilV h, hg⟩
theorem famIds_split {vs : List Value} {r : Nat} (h : r < vs.length) (v : Value) : famIds (vs.set r v) = famIds (vs.take r) ++ (v.ownBlock.toList ++ famIds (vs.drop (r + 1))) := by
  rw [List.set_eq_take_append_cons_drop, if_pos h]
  simp [famIds]
theorem famIds_self {vs : List Value} {r : Nat} (h : r < vs.length) : famIds vs = famIds (vs.take r) ++ ((vs.getD r nilV).ownBlock.toList ++ famIds (vs.drop (r + 1))) := by
  have := famIds_split h (vs.getD r nilV)
  rwa [set_getD_self] at this
theorem own_nodup (v : Value) : v.ownBlock.toList.Nodup := by
  cases v.ownBlock <;> simp

/-- Slices of the call's own, one by one. -/
def OB.fam {α : Type} (vs : List Value) (e : TypeId) (k : Kd α) (xss : List (List α)) : OB where
  ids := famIds vs
  p m w := vs.length = xss.length ∧ (famIds vs).Nodup ∧ ∀ i, i < vs.length → (OB.row (vs.getD i nilV) e k (xss.getD i [])).p m w
  mono := by
    rintro m m' w w' hm hg ⟨h1, h2, h3⟩
    exact ⟨h1, h2, fun i hi => (OB.row (vs.getD i nilV) e k (xss.getD i [])).mono hm (fun g hgg => hg g (famIds_mem hi hgg)) (h3 i hi)⟩
theorem OB.fam_eq {α : Type} {vs vs' : List Value} {e : TypeId} {k : Kd α} {xss yss : List (List α)} (h1 : vs = vs') (h2 : xss = yss) : OB.le (OB.fam vs e k xss) (OB.fam vs' e k yss) := by
  subst h1 h2; exact ⟨rfl, fun _ _ h => h⟩

section
variable {C : Ctx} {Q : Exit → Act → World → Prop} {ρ ρ' : Env} {L L' L1 L2 : List OB} {ops : Array Oper} {rest : List Oper}
  {dst : Option Tmp} {ty : TypeId} {pos : String} {after : Array Edge} {g : Option (Nat × Bool)} {o : Oper} {p : VP}
theorem OpOk.conv (h1 : OImp C L L1) (h : OpOk C o ρ L1 p L2) (h2 : OImp C L2 L') : OpOk C o ρ L p L' := fun m w a s t next Q k =>
  h m w a (h1 m w s) t next Q fun m' w' v hm s' hp => k m' w' v hm (h2 m' w' s') hp

theorem fam_bor {α : Type} {vs : List Value} {e : TypeId} {k : Kd α} {xss : List (List α)} (j r : Nat) {v : Value} {xs : List α} (hj : L[j]? = some (OB.fam vs e k xss)) (hr : r < vs.length) (hv : vs.getD r nilV = v) (hx : xss.getD r [] = xs) :
    OImp C L (OB.row v e k xs :: L.set j (OB.fam (vs.set r nilV) e k (xss.set r []))) := fun m w s => by
  subst hv hx
  obtain ⟨hlt, he⟩ := List.getElem?_eq_some_iff.1 hj
  have hb : OB.fam vs e k xss ∈ L := by rw [← he]; exact List.getElem_mem hlt
  obtain ⟨⟨f1, f2, f3⟩, f4⟩ := s.own _ hb
  have hsplit : L = L.take j ++ OB.fam vs e k xss :: L.drop (j + 1) := by rw [← he]; simp
  have hset : L.set j (OB.fam (vs.set r nilV) e k (xss.set r [])) = L.take j ++ OB.fam (vs.set r nilV) e k (xss.set r []) :: L.drop (j + 1) := by rw [List.set_eq_take_append_cons_drop, if_pos hlt]
  have hself := famIds_self hr
  have hnew : famIds (vs.set r nilV) = famIds (vs.take r) ++ famIds (vs.drop (r + 1)) := by rw [famIds_split hr]; simp [Value.ownBlock]
  have hsub : ∀ x ∈ famIds (vs.set r nilV), x ∈ famIds vs := by
    intro x hx; rw [hnew] at hx; rw [hself]
    rcases List.mem_append.1 hx with h | h
    · exact List.mem_append.2 (.inl h)
    · exact List.mem_append.2 (.inr (List.mem_append.2 (.inr h)))
  have hrow : ∀ x ∈ (vs.getD r nilV).ownBlock.toList, x ∈ famIds vs := fun x hx => famIds_mem hr hx
  have hnd := f2
  rw [hself] at hnd
  rw [List.nodup_append] at hnd
  obtain ⟨n1, n2, n3⟩ := hnd
  rw [List.nodup_append] at n2
  obtain ⟨n4, n5, n6⟩ := n2
  have hdis : ∀ x ∈ (vs.getD r nilV).ownBlock.toList, x ∉ famIds (vs.set r nilV) := by
    intro x hx hx2
    rw [hnew] at hx2
    rcases List.mem_append.1 hx2 with h | h
    · exact n3 x h x (List.mem_append.2 (.inl hx)) rfl
    · exact n6 x hx x h rfl
  have ha := s.apart
  rw [hsplit, List.pairwise_append, List.pairwise_cons] at ha
  obtain ⟨p1, ⟨p2, p3⟩, p4⟩ := ha
  refine { s with own := fun c hc => ?_, apart := ?_ }
  · rcases List.mem_cons.1 hc with rfl | hc
    · exact ⟨f3 r hr, fun x hx => f4 x (hrow x hx)⟩
    · rw [hset] at hc
      rcases List.mem_append.1 hc with hc | hc
      · exact s.own c (List.mem_of_mem_take hc)
      · rcases List.mem_cons.1 hc with rfl | hc
        · refine ⟨⟨by simp [f1], ?_, fun i hi => ?_⟩, fun x hx => f4 x (hsub x hx)⟩
          · rw [hnew, List.nodup_append]
            exact ⟨n1, n5, fun a ha b hb => n3 a ha b (List.mem_append.2 (.inr hb))⟩
          · rw [List.length_set] at hi
            by_cases e : r = i
            · subst e
              rw [getD_set_self hr, getD_set_self (by omega)]
              exact ⟨[], World.ownsRow_nil .., rfl, by simp⟩
            · rw [getD_set_ne e, getD_set_ne e]; exact f3 i hi
        · exact s.own c (List.mem_of_mem_drop hc)
  · rw [hset]
    refine List.pairwise_cons.2 ⟨fun c hc x hx => ?_, ?_⟩
    · rcases List.mem_append.1 hc with hc | hc
      · exact fun hx2 => p4 c hc (OB.fam vs e k xss) (by simp) x hx2 (hrow x hx)
      · rcases List.mem_cons.1 hc with rfl | hc
        · exact hdis x hx
        · exact p2 c hc x (hrow x hx)
    · rw [List.pairwise_append, List.pairwise_cons]
      refine ⟨p1, ⟨fun c hc x hx => p2 c hc x (hsub x hx), p3⟩, fun c hc d hd => ?_⟩
      rcases List.mem_cons.1 hd with rfl | hd
      · exact fun x hx hx2 => p4 c hc (OB.fam vs e k xss) (by simp) x hx (hsub x hx2)
      · exact p4 c hc d (by simp [hd])
theorem fam_set {α : Type} {vs : List Value} {e : TypeId} {k : Kd α} {xss : List (List α)} (j r : Nat) {v : Value} {xs : List α} (hj : L[j]? = some (OB.fam vs e k xss)) (hr : r < vs.length) :
    OImp C (OB.row v e k xs :: L) (L.set j (OB.fam (vs.set r v) e k (xss.set r xs))) := fun m w s => by
  obtain ⟨hlt, he⟩ := List.getElem?_eq_some_iff.1 hj
  have hb : OB.fam vs e k xss ∈ L := by rw [← he]; exact List.getElem_mem hlt
  obtain ⟨⟨f1, f2, f3⟩, f4⟩ := s.own _ (List.mem_cons_of_mem _ hb)
  obtain ⟨r1, r2⟩ := s.own (OB.row v e k xs) (by simp)
  have hsplit : L = L.take j ++ OB.fam vs e k xss :: L.drop (j + 1) := by rw [← he]; simp
  have hset : L.set j (OB.fam (vs.set r v) e k (xss.set r xs)) = L.take j ++ OB.fam (vs.set r v) e k (xss.set r xs) :: L.drop (j + 1) := by rw [List.set_eq_take_append_cons_drop, if_pos hlt]
  have hself := famIds_self hr
  have hnew := famIds_split hr v
  have hsub : ∀ x ∈ famIds (vs.set r v), x ∈ famIds vs ∨ x ∈ v.ownBlock.toList := by
    intro x hx; rw [hnew] at hx; rw [hself]
    rcases List.mem_append.1 hx with h | h
    · exact .inl (List.mem_append.2 (.inl h))
    · rcases List.mem_append.1 h with h | h
      · exact .inr h
      · exact .inl (List.mem_append.2 (.inr (List.mem_append.2 (.inr h))))
  have hnd := f2
  rw [hself] at hnd
  rw [List.nodup_append] at hnd
  obtain ⟨n1, n2, n3⟩ := hnd
  rw [List.nodup_append] at n2
  obtain ⟨n4, n5, n6⟩ := n2
  have ha := List.pairwise_cons.1 s.apart
  obtain ⟨q1, q2⟩ := ha
  have hrv : ∀ x ∈ v.ownBlock.toList, x ∉ famIds vs := fun x hx => q1 _ hb x hx
  rw [hsplit, List.pairwise_append, List.pairwise_cons] at q2
  obtain ⟨p1, ⟨p2, p3⟩, p4⟩ := q2
  refine { s with own := fun c hc => ?_, apart := ?_ }
  · rw [hset] at hc
    rcases List.mem_append.1 hc with hc | hc
    · exact s.own c (List.mem_cons_of_mem _ (List.mem_of_mem_take hc))
    · rcases List.mem_cons.1 hc with rfl | hc
      · refine ⟨⟨by simp [f1], ?_, fun i hi => ?_⟩, fun x hx => (hsub x hx).elim (f4 x) (r2 x)⟩
        · rw [hnew, List.nodup_append, List.nodup_append]
          refine ⟨n1, ⟨own_nodup v, n5, fun a ha b hb e => ?_⟩, fun a ha b hb e => ?_⟩
          · subst e; exact hrv a ha (by rw [hself]; exact List.mem_append.2 (.inr (List.mem_append.2 (.inr hb))))
          · subst e
            rcases List.mem_append.1 hb with h | h
            · exact hrv a h (by rw [hself]; exact List.mem_append.2 (.inl ha))
            · exact n3 a ha a (List.mem_append.2 (.inr h)) rfl
        · rw [List.length_set] at hi
          by_cases e : r = i
          · subst e
            rw [getD_set_self hr, getD_set_self (by omega)]
            exact r1
          · rw [getD_set_ne e, getD_set_ne e]; exact f3 i hi
      · exact s.own c (List.mem_cons_of_mem _ (List.mem_of_mem_drop hc))
  · rw [hset, List.pairwise_append, List.pairwise_cons]
    refine ⟨p1, ⟨fun c hc x hx => ?_, p3⟩, fun c hc d hd => ?_⟩
    · rcases hsub x hx with h | h
      · exact p2 c hc x h
      · exact q1 c (List.mem_of_mem_drop hc) x h
    · rcases List.mem_cons.1 hd with rfl | hd
      · intro x hx hx2
        rcases hsub x hx2 with h | h
        · exact p4 c hc (OB.fam vs e k xss) (by simp) x hx h
        · exact q1 c (List.mem_of_mem_take hc) x h hx
      · exact p4 c hc d (by simp [hd])
theorem fam_ret {α : Type} {vs : List Value} {e : TypeId} {k : Kd α} {xss : List (List α)} (j r : Nat) {v : Value} {xs : List α} (hlt : j < L.length) (hr : r < vs.length) (hv : vs.getD r nilV = v) :
    OImp C (OB.row v e k xs :: L.set j (OB.fam (vs.set r nilV) e k (xss.set r []))) (L.set j (OB.fam vs e k (xss.set r xs))) := by
  have h := fam_set (C := C) (L := L.set j (OB.fam (vs.set r nilV) e k (xss.set r []))) (vs := vs.set r nilV) (e := e) (k := k) (xss := xss.set r []) j r (v := v) (xs := xs) (by simp [hlt]) (by simpa using hr)
  rw [List.set_set, List.set_set, List.set_set] at h
  rw [show vs.set r v = vs by rw [← hv]; exact set_getD_self] at h
  exact h
theorem ST.famcell {K : Act → World → Prop} {α : Type} {k : Kd α} {vs : List Value} {e : TypeId} {xss : List (List α)} (j r : Nat) (hj : L[j]? = some (OB.fam vs e k xss)) (hr : r < vs.length) (h : (vs.getD r nilV).oneCell' = true → ST C K ρ L) : ST C K ρ L := fun m w a s t => by
  have hb : OB.fam vs e k xss ∈ L := List.mem_of_getElem? hj
  obtain ⟨cells, o1, o2, o3⟩ := ((s.own _ hb).1).2.2 r hr
  obtain ⟨ad, cap, e1, _⟩ := owns_lenEq o1
  exact h (by rw [e1]; rfl) m w a s t
/-- Two slices change places. -/
theorem fam_swap {α : Type} {vs : List Value} {e : TypeId} {k : Kd α} {xss : List (List α)} (j p q : Nat) (hj : L[j]? = some (OB.fam vs e k xss)) (hp : p < vs.length) (hq : q < vs.length) (hpq : p ≠ q) :
    OImp C L (L.set j (OB.fam ((vs.set p (vs.getD q nilV)).set q (vs.getD p nilV)) e k ((xss.set p (xss.getD q [])).set q (xss.getD p [])))) := by
  obtain ⟨hl, he⟩ := List.getElem?_eq_some_iff.1 hj
  have h1 := fam_bor (C := C) j p hj hp rfl rfl
  have h2 := fam_bor (C := C) (L := OB.row (vs.getD p nilV) e k (xss.getD p []) :: L.set j (OB.fam (vs.set p nilV) e k (xss.set p []))) (vs := vs.set p nilV) (e := e) (k := k) (xss := xss.set p []) (j + 1) q (v := vs.getD q nilV) (xs := xss.getD q []) (by simp [hl]) (by simpa using hq) (getD_set_ne hpq) (getD_set_ne hpq)
  rw [List.set_cons_succ, List.set_set] at h2
  have h3 := fam_set (C := C) (L := OB.row (vs.getD p nilV) e k (xss.getD p []) :: L.set j (OB.fam ((vs.set p nilV).set q nilV) e k ((xss.set p []).set q []))) (vs := (vs.set p nilV).set q nilV) (e := e) (k := k) (xss := (xss.set p []).set q []) (j + 1) p (v := vs.getD q nilV) (xs := xss.getD q []) (by simp [hl]) (by simpa using hp)
  rw [List.set_cons_succ, List.set_set] at h3
  have h4 := fam_set (C := C) (L := L.set j (OB.fam (((vs.set p nilV).set q nilV).set p (vs.getD q nilV)) e k (((xss.set p []).set q []).set p (xss.getD q [])))) (vs := ((vs.set p nilV).set q nilV).set p (vs.getD q nilV)) (e := e) (k := k) (xss := ((xss.set p []).set q []).set p (xss.getD q [])) j q (v := vs.getD p nilV) (xs := xss.getD p []) (by simp [hl]) (by simpa using hq)
  rw [List.set_set] at h4
  have hset : ∀ {β : Type} (l : List β) (x y z : β), (((l.set p z).set q z).set p x).set q y = (l.set p x).set q y := by
    intro β l x y z
    rw [List.set_comm z z hpq, List.set_set, List.set_comm z x (Ne.symm hpq), List.set_set]
  rw [hset, hset] at h4
  exact ((h1.trans h2).trans h3).trans h4
/-- A family of no slices. -/
theorem ST.famnil {α : Type} {K : Act → World → Prop} (e : TypeId) (k : Kd α) (h : ST C K ρ (OB.fam [] e k ([] : List (List α)) :: L)) : ST C K ρ L := fun m w a s t =>
  h m w a (s.new (Grow.refl [] w) (OB.fam [] e k []) ⟨rfl, by simp [famIds], fun i hi => by simp at hi⟩ (by intro i hi; simp [OB.fam, famIds] at hi)) t
theorem ST.famnils {α : Type} {K : Act → World → Prop} (n : Nat) (e : TypeId) (k : Kd α) (h : ST C K ρ (OB.fam (List.replicate n nilV) e k (List.replicate n ([] : List α)) :: L)) : ST C K ρ L := fun m w a s t => by
  have hid : famIds (List.replicate n nilV) = [] := by
    unfold famIds
    rw [List.flatMap_eq_nil_iff]
    intro x hx; rw [List.eq_of_mem_replicate hx]; rfl
  refine h m w a (s.new (Grow.refl [] w) (OB.fam (List.replicate n nilV) e k (List.replicate n [])) ⟨by simp, by rw [hid]; simp, fun i hi => ?_⟩ (by intro i hi; simp only [OB.fam] at hi; rw [hid] at hi; cases hi)) t
  have e1 : (List.replicate n nilV).getD i nilV = nilV := by rw [List.getD_eq_getElem?_getD, List.getElem?_replicate]; split <;> rfl
  have e2 : (List.replicate n ([] : List α)).getD i [] = [] := by rw [List.getD_eq_getElem?_getD, List.getElem?_replicate]; split <;> rfl
  rw [e1, e2]
  exact ⟨[], World.ownsRow_nil .., rfl, by simp⟩
/-- One more slice behind the others. -/
theorem fam_push {α : Type} {vs : List Value} {e : TypeId} {k : Kd α} {xss : List (List α)} (j : Nat) {v : Value} {xs : List α} (hj : L[j]? = some (OB.fam vs e k xss)) :
    OImp C (OB.row v e k xs :: L) (L.set j (OB.fam (vs ++ [v]) e k (xss ++ [xs]))) := fun m w s => by
  obtain ⟨hlt, he⟩ := List.getElem?_eq_some_iff.1 hj
  have hb : OB.fam vs e k xss ∈ L := by rw [← he]; exact List.getElem_mem hlt
  obtain ⟨⟨f1, f2, f3⟩, f4⟩ := s.own _ (List.mem_cons_of_mem _ hb)
  have h0 : (OB.fam (vs ++ [nilV]) e k (xss ++ [[]])).ids = (OB.fam vs e k xss).ids := by simp [OB.fam, famIds, Value.ownBlock]
  have s1 : Sat C m w (OB.row v e k xs :: L.set j (OB.fam (vs ++ [nilV]) e k (xss ++ [[]]))) := by
    refine s.rep (i := j + 1) (by simpa using hj) h0 fun _ => ⟨by simp [f1], ?_, fun i hi => ?_⟩
    · have : famIds (vs ++ [nilV]) = famIds vs := by simp [famIds, Value.ownBlock]
      rw [this]; exact f2
    · by_cases e : i < vs.length
      · have e1 : (vs ++ [nilV]).getD i nilV = vs.getD i nilV := by simp [List.getD_eq_getElem?_getD, List.getElem?_append_left e]
        have e2 : (xss ++ [[]]).getD i [] = xss.getD i [] := by simp [List.getD_eq_getElem?_getD, List.getElem?_append_left (show i < xss.length by omega)]
        rw [e1, e2]; exact f3 i e
      · have e0 : i = vs.length := by simp at hi; omega
        have e1 : (vs ++ [nilV]).getD i nilV = nilV := by rw [e0]; simp [List.getD_eq_getElem?_getD]
        have e2 : (xss ++ [[]]).getD i [] = [] := by rw [e0, f1]; simp [List.getD_eq_getElem?_getD]
        rw [e1, e2]; exact ⟨[], World.ownsRow_nil .., rfl, by simp⟩
  have s2 := fam_set (C := C) (L := L.set j (OB.fam (vs ++ [nilV]) e k (xss ++ [[]]))) (vs := vs ++ [nilV]) (e := e) (k := k) (xss := xss ++ [[]]) j vs.length (v := v) (xs := xs) (by simp [hlt]) (by simp) m w s1
  rw [List.set_set] at s2
  have e3 : (vs ++ [nilV]).set vs.length v = vs ++ [v] := by simp [List.set_append]
  have e4 : (xss ++ [[]]).set vs.length xs = xss ++ [xs] := by rw [f1]; simp [List.set_append]
  rwa [e3, e4] at s2

theorem O.ixF {α : Type} {k : Kd α} {vs : List Value} {xss : List (List α)} {v : Value} {x y : Operand} {ki : IntKind} {n : Int} {T e e' : TypeId} {agg : Bool} (r i : Nat) (hx : ev ρ x = some (VP.ex v)) (hy : ev ρ y = some ((kInt ki).is n)) (hj : OB.fam vs e k xss ∈ L) (hv : vs.getD r nilV = v) (hr : r < vs.length) (hu : C.P.underlying T = some (.slice e')) (ht : TyOk C.P e' agg k.sz) (hn : n = i) (hlt : i < (xss.getD r []).length) : OpOk C ⟨dst, .indexAddr T x y, ty, pos, after, g⟩ ρ L (VP.pel v (i * k.sz)) L := by
  obtain ⟨j, hj⟩ := List.getElem?_of_mem hj
  obtain ⟨hl, he⟩ := List.getElem?_eq_some_iff.1 hj
  have h2 := fam_ret (C := C) (L := L) (e := e) (k := k) (xss := xss) j r (xs := xss.getD r []) hl hr hv
  rw [set_getD_self, show L.set j (OB.fam vs e k xss) = L by rw [← he]; simp] at h2
  exact OpOk.conv (fam_bor j r hj hr hv rfl) (O.ixR (n := n) i hx hy List.mem_cons_self hu ht hn hlt) h2
theorem O.ldF {α β : Type} {k : Kd α} {l : Kd β} {gt : α → β} {st : β → α → α} {vs : List Value} {xss : List (List α)} {y : α} {v : Value} {x : Operand} {T e : TypeId} {o f : Nat} (r i : Nat) (hx : ev ρ x = some (VP.pel v o)) (hj : OB.fam vs e k xss ∈ L) (hv : vs.getD r nilV = v) (hr : r < vs.length) (ln : Lens k f l gt st) (ho : o = i * k.sz + f) {p : VP} (hy : (xss.getD r [])[i]? = some y) (ht : TyOk C.P T l.agg l.sz) (hp : l.is (gt y) = p) : OpOk C ⟨dst, .load T x, ty, pos, after, g⟩ ρ L p L := by
  obtain ⟨j, hj⟩ := List.getElem?_of_mem hj
  obtain ⟨hl, he⟩ := List.getElem?_eq_some_iff.1 hj
  have h2 := fam_ret (C := C) (L := L) (e := e) (k := k) (xss := xss) j r (xs := xss.getD r []) hl hr hv
  rw [set_getD_self, show L.set j (OB.fam vs e k xss) = L by rw [← he]; simp] at h2
  exact OpOk.conv (fam_bor j r hj hr hv rfl) (O.ldR (k := k) (xs := xss.getD r []) i hx List.mem_cons_self ln ho hy ht hp) h2
theorem O.stF {α β : Type} {k : Kd α} {l : Kd β} {gt : α → β} {st : β → α → α} {vs : List Value} {xss : List (List α)} {u : β} {y0 : α} {v : Value} {q : VP} {x y : Operand} {T e : TypeId} {agg : Bool} {o f : Nat} (j r i : Nat) (hx : ev ρ x = some (VP.pel v o)) (hj : L[j]? = some (OB.fam vs e k xss)) (hv : vs.getD r nilV = v) (hr : r < vs.length) (ln : Lens k f l gt st) (ho : o = i * k.sz + f) (h0 : (xss.getD r [])[i]? = some y0) (ht : TyOk C.P T agg l.sz) (hy : ev ρ y = some q) (hq : VP.le q (l.is u)) : OpOk C ⟨dst, .store T x y, ty, pos, after, g⟩ ρ L VP.tt (L.set j (OB.fam vs e k (xss.set r ((xss.getD r []).set i (st u y0))))) := by
  obtain ⟨hl, he⟩ := List.getElem?_eq_some_iff.1 hj
  exact OpOk.conv (fam_bor j r hj hr hv rfl) (O.stR 0 i hx rfl ln ho h0 ht hy hq) (fam_ret j r hl hr hv)
theorem O.lenF {α : Type} {k : Kd α} {vs : List Value} {xss : List (List α)} {v : Value} {x : Operand} {T e e' : TypeId} (r : Nat) (hx : ev ρ x = some (VP.ex v)) (hj : OB.fam vs e k xss ∈ L) (hv : vs.getD r nilV = v) (hr : r < vs.length) (hu : C.P.underlying T = some (.slice e')) : OpOk C ⟨dst, .call ⟨.builtin .len, #[x], #[T]⟩, ty, pos, after, g⟩ ρ L ((kInt .i64).is ((xss.getD r []).length : Int)) L := by
  obtain ⟨j, hj⟩ := List.getElem?_of_mem hj
  obtain ⟨hl, he⟩ := List.getElem?_eq_some_iff.1 hj
  have h2 := fam_ret (C := C) (L := L) (e := e) (k := k) (xss := xss) j r (xs := xss.getD r []) hl hr hv
  rw [set_getD_self, show L.set j (OB.fam vs e k xss) = L by rw [← he]; simp] at h2
  exact OpOk.conv (fam_bor j r hj hr hv rfl) (O.lenR (k := k) (xs := xss.getD r []) hx List.mem_cons_self hu) h2
end
end Fw

/- The frame of the walks: function values that have captured variables. -/
set_option linter.unusedVariables false
set_option linter.unusedSimpArgs false
namespace Fw
open Go

theorem Args.app {m : Mem} : ∀ {vs us : List Value} {ps qs : List VP}, Args m vs ps → Args m us qs → Args m (vs ++ us) (ps ++ qs)
  | [], us, [], qs, _, h => h
  | v :: vs, us, p :: ps, qs, ⟨h1, h2⟩, h => ⟨h1, Args.app h2 h⟩
/-- A function value: the function, and what stands in its captured variables. -/
def VP.clo (f : FuncId) (caps : List VP) : VP := ⟨fun m v => ∃ vs : List Value, v = .func (.func f) #[] vs.toArray ∧ Args m vs caps, fun hm ⟨vs, e, h⟩ => ⟨vs, e, h.up hm⟩⟩

section
variable {C : Ctx} {Q : Exit → Act → World → Prop} {ρ : Env} {L L' : List OB} {ops : Array Oper} {rest : List Oper}
  {dst : Option Tmp} {ty : TypeId} {pos : String} {after : Array Edge} {g : Option (Nat × Bool)}
theorem O.mkf {f : FuncId} {xs : List Operand} {caps : List VP} (ha : evs ρ xs caps) : OpOk C ⟨dst, .makeFunc (.func f) #[] xs.toArray, ty, pos, after, g⟩ ρ L (VP.clo f caps) L := OpOk.val fun m w a s t => by
  refine ⟨.func (.func f) #[] (xs.map a.eval).toArray, ?_, _, rfl, evs.args t ha⟩
  simp [execOp, Instr.makeFunc]
theorem clo_fv {f : FuncId} : VP.le (VP.ex (.func (.func f) #[] #[])) (VP.clo f []) := by
  rintro m v rfl
  exact ⟨[], rfl, trivial⟩
theorem run_callc {P : Program} {a : Act} {w : World} {f : FuncId} {x : Operand} {xs : List Operand} {tys : Array TypeId} {cs : List Value} (hf : FnOk P f) (hx : a.eval x = .func (.func f) #[] cs.toArray) : (execOp a.eval ⟨dst, .call ⟨.value x, xs.toArray, tys⟩, ty, pos, after, g⟩).run P w = .ok (.enter f (xs.map a.eval ++ cs).toArray) w := by
  obtain ⟨fn, f1, f2, f3⟩ := hf
  have f2' : ¬ (fn.name = "runtime.NumGoroutine") := by simpa using f2
  have f3' : ¬ (fn.body = none) := by cases hb : fn.body <;> simp_all
  have hp : ∀ w, (program).run P w = .ok P w := fun _ => rfl
  simp [execOp, resolve, Deferred.ofValue, invoke, callFunc, hp, hx, f1, f2', f3']
/-- A call of a function value with its captured variables. -/
theorem O.clo {f : FuncId} {x : Operand} {xs : List Operand} {tys : Array TypeId} {pre caps : List VP} {res : VP} (hx : ev ρ x = some (VP.clo f caps)) (hf : FnOk C.P f) (ha : evs ρ xs pre) (hc : Fn C.P f (pre ++ caps) res) : OpOk C ⟨dst, .call ⟨.value x, xs.toArray, tys⟩, ty, pos, after, g⟩ ρ L res L := fun m w a s t next Q k => by
  obtain ⟨cs, e1, e2⟩ := t.evl hx
  unfold Oper.wp
  rw [run_callc hf e1]
  refine (hc m w _ s.fits (Args.app (evs.args t ha) e2) (Sat.given (Li := []) (L := L) s)).mono ?_
  rintro e w' ⟨m', v, p, Lo, rfl, s', hp, rfl, rfl⟩
  exact k m' w' v s'.le (Sat.after (Li := []) (Lo := []) s s') hp
/-- x[:h] of a slice of the call's own: nothing is told of it. -/
theorem O.slT {α : Type} {k : Kd α} {xs : List α} {v : Value} {x z : Operand} {kj : IntKind} {n' : Int} {T e e' : TypeId} {agg : Bool} (h : Nat) (hj : OB.row v e' k xs ∈ L) (hx : ev ρ x = some (VP.ex v)) (hz : ev ρ z = some ((kInt kj).is n')) (hu : C.P.underlying T = some (.slice e)) (ht : TyOk C.P e agg k.sz) (hn' : n' = h) (hle : h ≤ xs.length) : OpOk C ⟨dst, .slice T x none (some z) none, ty, pos, after, g⟩ ρ L VP.tt L := OpOk.val fun m w f s t => by
  subst hn'
  obtain ⟨cells, o1, o2, o3⟩ := row_own s hj
  rcases o1.2 with ⟨rfl, hxs⟩ | ⟨b, cap, cur, rfl, _, hA, hcap, hm, hsz, hcur⟩
  · have hh : h = 0 := by omega
    have hb : (Instr.sliceBounds true 0 0 none (some (.int kj (h : Int))) none).run C.P w = .ok (0, h, 0) w := by
      simp [Instr.sliceBounds, run_bound (P := C.P) w kj h 0 _ (by omega)]
    have h1 : ∃ u, (execOp f.eval ⟨dst, .slice T x none (some z) none, ty, pos, after, g⟩).run C.P w = .ok (.value u) w := ⟨_, by
      simp only [execOp, t.ex hx, t.int hz, Option.map_some, Option.map_none, Sem.run_bind, run_slice hu ht w none 0 0 0 h 0 _ _ _ hb, Result.andThen_ok]; rfl⟩
    obtain ⟨u, h2⟩ := h1
    exact ⟨u, h2, trivial⟩
  · have hb : (Instr.sliceBounds true xs.length cap none (some (.int kj (h : Int))) none).run C.P w = .ok (0, h, cap) w := by
      simp [Instr.sliceBounds, run_bound (P := C.P) w kj h cap _ (Nat.le_trans hle hcap)]
    have h1 : ∃ u, (execOp f.eval ⟨dst, .slice T x none (some z) none, ty, pos, after, g⟩).run C.P w = .ok (.value u) w := ⟨_, by
      simp only [execOp, t.ex hx, t.int hz, Option.map_some, Option.map_none, Sem.run_bind, run_slice hu ht w _ xs.length cap 0 h cap _ _ _ hb, Result.andThen_ok]; rfl⟩
    obtain ⟨u, h2⟩ := h1
    exact ⟨u, h2, trivial⟩
end
end Fw

/- The frame of the walks: calls of function values that turn owned blocks; matrices told as read-only. -/
set_option linter.unusedVariables false
set_option linter.unusedSimpArgs false
namespace Fw
open Go

section
variable {C : Ctx} {Q : Exit → Act → World → Prop} {ρ ρ' : Env} {L L' : List OB} {ops : Array Oper} {rest : List Oper}
  {dst : Option Tmp} {ty : TypeId} {pos : String} {after : Array Edge} {g : Option (Nat × Bool)}
theorem WP.callc {d : Tmp} {f : FuncId} {x : Operand} {xs : List Operand} {tys : Array TypeId} {pre caps : List VP} {Li : List OB} {post : VP → List OB → Prop}
    (hr : Run ops ρ ⟨some d, .call ⟨.value x, xs.toArray, tys⟩, ty, pos, after, g⟩) (hx : ev ρ x = some (VP.clo f caps)) (hf : FnOk C.P f) (ha : evs ρ xs pre) (hc : Con C.P f (pre ++ caps) Li post)
    (h : ∀ p Lo, post p Lo → WP C ops Q rest ((d, p) :: ρ) (Lo ++ L)) (hd : Nat.blt d C.N = true := by rfl) :
    WP C ops Q (⟨some d, .call ⟨.value x, xs.toArray, tys⟩, ty, pos, after, g⟩ :: rest) ρ (Li ++ L) := fun m w a s t => by
  obtain ⟨cs, e1, e2⟩ := t.evl hx
  unfold wpList
  rw [if_pos (hr _ m a t)]
  refine .inl ?_
  unfold Oper.wp
  rw [run_callc hf e1]
  refine (hc m w _ s.fits (Args.app (evs.args t ha) e2) s.given).mono ?_
  rintro e w' ⟨m', v, p, Lo, rfl, s', hp, hpost⟩
  exact h p Lo hpost m' w' _ (s.after s') ((t.up s'.le).put hp hd)
theorem Sat.frozenM {α : Type} {k : Kd α} {vs : List Value} {e : TypeId} {xss : List (List α)} {m : Mem} {w : World} {j : Nat} (s : Sat C m w L) (hj : L[j]? = some (OB.fam vs e k xss)) :
    ∃ m', Mem.le m m' ∧ Sat C m' w (L.eraseIdx j) ∧ vs.length = xss.length ∧ ∀ i, i < vs.length → ((kSl k).is (xss.getD i [])).p m' (vs.getD i nilV) := by
  obtain ⟨hlt, he⟩ := List.getElem?_eq_some_iff.1 hj
  have hb : OB.fam vs e k xss ∈ L := by rw [← he]; exact List.getElem_mem hlt
  have hlen : vs.length = xss.length := (s.own _ hb).1.1
  have step : ∀ r, r ≤ vs.length → ∃ m' vs' xss', Mem.le m m' ∧ vs'.length = vs.length ∧ xss'.length = xss.length ∧ (∀ i, r ≤ i → vs'.getD i nilV = vs.getD i nilV ∧ xss'.getD i [] = xss.getD i []) ∧ Sat C m' w (L.set j (OB.fam vs' e k xss')) ∧ ∀ i, i < r → ((kSl k).is (xss.getD i [])).p m' (vs.getD i nilV) := by
    intro r
    induction r with
    | zero => intro _; exact ⟨m, vs, xss, Mem.le_refl m, rfl, rfl, fun _ _ => ⟨rfl, rfl⟩, by rw [← he]; simpa using s, fun i hi => absurd hi (by omega)⟩
    | succ r ih =>
      intro hr
      obtain ⟨m1, vs1, xss1, h1, h2, h3, h4, h5, h6⟩ := ih (by omega)
      obtain ⟨e1, e2⟩ := h4 r (Nat.le_refl r)
      have hj1 : (L.set j (OB.fam vs1 e k xss1))[j]? = some (OB.fam vs1 e k xss1) := by simp [hlt]
      have s1 := fam_bor (C := C) j r hj1 (by omega) e1 e2 m1 w h5
      rw [List.set_set] at s1
      obtain ⟨m2, g1, g2, g3⟩ := s1.frozen (j := 0) (by rfl)
      refine ⟨m2, vs1.set r nilV, xss1.set r [], Mem.le_trans h1 g1, by simp [h2], by simp [h3], fun i hi => ?_, g2, fun i hi => ?_⟩
      · rw [getD_set_ne (by omega), getD_set_ne (by omega)]; exact h4 i (by omega)
      · by_cases e3 : i = r
        · subst e3; exact g3
        · exact ((kSl k).is _).mono g1 (h6 i (by omega))
  obtain ⟨m', vs', xss', h1, h2, h3, h4, h5, h6⟩ := step vs.length (Nat.le_refl _)
  refine ⟨m', h1, ?_, hlen, h6⟩
  have := h5.sub (List.eraseIdx_sublist _ j)
  rwa [List.eraseIdx_set_eq] at this
theorem rows_vals {α : Type} {k : Kd α} {m : Mem} : ∀ {vs : List Value} {xss : List (List α)} {cells : List Value}, vs.length = xss.length → (∀ i, i < vs.length → ((kSl k).is (xss.getD i [])).p m (vs.getD i nilV)) → Rows kVal m cells vs → Rows (kSl k) m cells xss
  | [], [], _, _, _, h => h
  | v :: vs, xs :: xss, cells, hl, hf, h => by
    obtain ⟨a, b, rfl, ⟨h1, _⟩, h2⟩ := h
    subst h1
    refine ⟨_, b, rfl, sl_at (hf 0 (by simp)), rows_vals (by simpa using hl) (fun i hi => ?_) h2⟩
    have := hf (i + 1) (by simpa using hi)
    simpa using this
theorem vals_sl {α : Type} {k : Kd α} {m : Mem} {vs : List Value} {xss : List (List α)} {v : Value} (hl : vs.length = xss.length) (hf : ∀ i, i < vs.length → ((kSl k).is (xss.getD i [])).p m (vs.getD i nilV)) (h : ((kSl kVal).is vs).p m v) : ((kSl (kSl k)).is xss).p m v := by
  obtain ⟨a, cap, rfl, h1, h2, h3⟩ := Kd.is_sl h
  refine ⟨[.slice a xss.length cap], by rw [hl]; rfl, a, cap, rfl, by omega, by omega, ?_⟩
  rcases h3 with rfl | ⟨b, o, c, cells, rfl, f1, f2, f3⟩
  · left; exact List.eq_nil_of_length_eq_zero (by simpa using hl.symm)
  · exact .inr ⟨b, o, c, cells, rfl, f1, f2, rows_vals hl hf f3⟩
/-- A matrix of the call's own is told as read-only from now on. -/
theorem ST.freezeM {α : Type} {K : Act → World → Prop} {k : Kd α} {vs : List Value} {xss : List (List α)} {v : Value} {e e1 : TypeId} (jf jr : Nat) (hf : L[jf]? = some (OB.fam vs e k xss)) (hr : (L.eraseIdx jf)[jr]? = some (OB.row v e1 kVal vs))
    (hi : FImp v ((kSl (kSl k)).is xss) ρ ρ') (h : ST C K ρ' ((L.eraseIdx jf).eraseIdx jr)) : ST C K ρ L := fun m w a s t => by
  obtain ⟨m1, a1, a2, a3, a4⟩ := s.frozenM hf
  obtain ⟨m2, b1, b2, b3⟩ := a2.frozen hr
  exact h m2 w a b2 (hi _ _ _ (vals_sl a3 (fun i hi => ((kSl k).is _).mono b1 (a4 i hi)) b3) (t.up (Mem.le_trans a1 b1)))
theorem ST.freezeMIn {α β γ : Type} {K : Act → World → Prop} {k : Kd α} {vs : List Value} {xss : List (List α)} {v : Value} {e e1 e' : TypeId} {k1 : Kd β} {x1 : β} {k2 : Kd γ} {b : Nat} (x2 : γ) (jf jr i : Nat) (hf : L[jf]? = some (OB.fam vs e k xss)) (hr : (L.eraseIdx jf)[jr]? = some (OB.row v e1 kVal vs)) (hb : ((L.eraseIdx jf).eraseIdx jr)[i]? = some (OB.box b e' k1 x1))
    (hk : ∀ m cs, ((kSl (kSl k)).is xss).p m v → k1.at' m cs x1 → k2.at' m cs x2) (hi : FImp v ((kSl (kSl k)).is xss) ρ ρ') (h : ST C K ρ' (((L.eraseIdx jf).eraseIdx jr).set i (OB.box b e' k2 x2))) : ST C K ρ L := fun m w a s t => by
  obtain ⟨m1, a1, a2, a3, a4⟩ := s.frozenM hf
  obtain ⟨m2, b1, b2, b3⟩ := a2.frozen hr
  have hv := vals_sl a3 (fun i hi => ((kSl k).is _).mono b1 (a4 i hi)) b3
  refine h m2 w a (b2.rep hb rfl ?_) (hi _ _ _ hv (t.up (Mem.le_trans a1 b1)))
  rintro ⟨A, hA, hx⟩
  exact ⟨A, hA, hk _ _ hv hx⟩
theorem OV.lenS {α : Type} {k : Kd α} {xs : List α} {x : Operand} {T e : TypeId} (hx : ev ρ x = some ((kSl k).is xs)) (hu : C.P.underlying T = some (.slice e)) : OV C ⟨dst, .call ⟨.builtin .len, #[x], #[T]⟩, ty, pos, after, g⟩ ρ ((kInt .i64).is (xs.length : Int)) := fun m f t => by
  obtain ⟨a, cap, e1, _⟩ := Kd.is_sl (t.evl hx)
  refine ⟨_, fun w => ?_, int_p m _ _⟩
  simp [execOp, resolve, invoke, builtin, Builtin.len_, e1, run_underlying hu, goInt]
end
end Fw

/- The frame of the walks: regions whose operations come in any order, stores into new variables among them. -/
set_option linter.unusedVariables false
set_option linter.unusedSimpArgs false
namespace Fw
open Go

inductive Pm where
  | fr (p : VP)
  | al (tok tok2 : Nat → OB) (s : Nat)
  | st (i : Nat)
def ptrV (b : Nat) : VP := VP.ex (.pointer (some ⟨b, 0, none⟩))
def envS (ops : Array Oper) (σ : Nat → Nat) (Γ : List Pm) : List Nat → Env
  | [] => []
  | j :: js => match Γ[j]? with
    | some (.fr p) => (dstOf ops j, p) :: envS ops σ Γ js
    | some (.al _ _ _) => (dstOf ops j, VP.ex (.pointer (some ⟨σ j, 0, none⟩))) :: envS ops σ Γ js
    | _ => envS ops σ Γ js
def allEnvS (ops : Array Oper) (σ : Nat → Nat) : Nat → List Pm → Env
  | _, [] => []
  | i, .fr p :: r => (dstOf ops i, p) :: allEnvS ops σ (i + 1) r
  | i, .al _ _ _ :: r => (dstOf ops i, VP.ex (.pointer (some ⟨σ i, 0, none⟩))) :: allEnvS ops σ (i + 1) r
  | i, .st _ :: r => allEnvS ops σ (i + 1) r
def allToksS (σ : Nat → Nat) : Nat → List Pm → List OB
  | _, [] => []
  | i, .al _ tok2 _ :: r => tok2 (σ i) :: allToksS σ (i + 1) r
  | i, .fr _ :: r => allToksS σ (i + 1) r
  | i, .st _ :: r => allToksS σ (i + 1) r
def Pm.shape : Pm → Nat × Nat
  | .fr _ => (0, 0)
  | .al _ _ s => (1, s)
  | .st i => (2, i)
def tokAt (σ : Nat → Nat) (Γ : List Pm) (listed : Array Bool) (i : Nat) : Option OB :=
  if listed.getD i false then (match Γ[i]? with | some (.al tok tok2 s) => some (if listed.getD s false then tok2 (σ i) else tok (σ i)) | _ => none) else none

section
variable {C : Ctx} {Q : Exit → Act → World → Prop} {ρ : Env} {L0 : List OB} {ops : Array Oper}
def ObS (C : Ctx) (ops : Array Oper) (Q : Exit → Act → World → Prop) (ρ : Env) (L0 : List OB) (Γ : List Pm) (i : Nat) : Pm → Prop
  | .fr p => ∀ σ N m w a, Sat C m w (N ++ L0) → Has C.N m a (envS ops σ Γ (deps ops i) ++ ρ) → ∀ K : Act → World → Prop, (∀ m' w' v, Mem.le m m' → Sat C m' w' (N ++ L0) → p.p m' v → K (a.put (some (dstOf ops i)) v) w') → wpOp C.P ops Q i K a w
  | .al tok _ _ => ∀ σ N m w a, Sat C m w (N ++ L0) → Has C.N m a (envS ops σ Γ (deps ops i) ++ ρ) → ∀ K : Act → World → Prop, (∀ m' w' b, Mem.le m m' → Sat C m' w' (tok b :: (N ++ L0)) → K (a.put (some (dstOf ops i)) (.pointer (some ⟨b, 0, none⟩))) w') → wpOp C.P ops Q i K a w
  | .st j => ∀ tok tok2 s, Γ[j]? = some (.al tok tok2 s) → ∀ σ N m w a, Sat C m w (tok (σ j) :: (N ++ L0)) → Has C.N m a (envS ops σ Γ (deps ops i) ++ ρ) → ∀ K : Act → World → Prop, (∀ m' w', Mem.le m m' → Sat C m' w' (tok2 (σ j) :: (N ++ L0)) → K a w') → wpOp C.P ops Q i K a w
structure FarS (C : Ctx) (ops : Array Oper) (ρ : Env) (L0 : List OB) (Γ : List Pm) (listed : Array Bool) (m : Mem) (σ : Nat → Nat) (a : Act) (w : World) : Prop where
  sat : Sat C m w ((List.range Γ.length).filterMap (tokAt σ Γ listed) ++ L0)
  defers : a.defers = []
  size : a.tmps.size = C.N
  old : ∀ t p, ρ.get t = some p → p.p m (a.tmps.getD t undef)
  new : ∀ i, listed.getD i false = true → (∀ p, Γ[i]? = some (.fr p) → p.p m (a.tmps.getD (dstOf ops i) undef)) ∧ (∀ tok tok2 s, Γ[i]? = some (.al tok tok2 s) → a.tmps.getD (dstOf ops i) undef = .pointer (some ⟨σ i, 0, none⟩))
  closed : ∀ i, listed.getD i false = true → ∀ j ∈ deps ops i, listed.getD j false = true
  len : listed.size = ops.size
structure ChkS (N : Nat) (ops : Array Oper) (ρ : Env) (Γ : List Pm) : Prop where
  le : Γ.length = ops.size
  dst : ∀ i, i < Γ.length → (∀ j, Γ[i]? ≠ some (Pm.st j)) → dstOf ops i < N ∧ ρ.get (dstOf ops i) = none
  inj : ∀ i j, i < Γ.length → j < Γ.length → (∀ k, Γ[i]? ≠ some (Pm.st k)) → (∀ k, Γ[j]? ≠ some (Pm.st k)) → dstOf ops i = dstOf ops j → i = j
  lt : ∀ i, i < ops.size → ∀ j ∈ deps ops i, j < i
  sto : ∀ (s i : Nat), Γ[s]? = some (Pm.st i) → (∃ tok tok2, Γ[i]? = some (Pm.al tok tok2 s)) ∧ i ∈ deps ops s
  alo : ∀ (i : Nat) (tok tok2 : Nat → OB) (s : Nat), Γ[i]? = some (Pm.al tok tok2 s) → Γ[s]? = some (Pm.st i)
theorem envS_get {σ : Nat → Nat} {Γ : List Pm} : ∀ {js : List Nat} {t : Nat} {p : VP}, (envS ops σ Γ js).get t = some p → ∃ j ∈ js, dstOf ops j = t ∧ (Γ[j]? = some (.fr p) ∨ ((∃ tok tok2 s, Γ[j]? = some (.al tok tok2 s)) ∧ p = VP.ex (.pointer (some ⟨σ j, 0, none⟩))))
  | [], t, p, h => by cases h
  | j :: js, t, p, h => by
    have hrec : (envS ops σ Γ js).get t = some p → ∃ i ∈ j :: js, dstOf ops i = t ∧ (Γ[i]? = some (.fr p) ∨ ((∃ tok tok2 s, Γ[i]? = some (.al tok tok2 s)) ∧ p = VP.ex (.pointer (some ⟨σ i, 0, none⟩)))) := fun h => by
      obtain ⟨i, h1, h2⟩ := envS_get h
      exact ⟨i, List.mem_cons_of_mem _ h1, h2⟩
    have hcons : ∀ q, (Γ[j]? = some (.fr q) ∨ ((∃ tok tok2 s, Γ[j]? = some (.al tok tok2 s)) ∧ q = VP.ex (.pointer (some ⟨σ j, 0, none⟩)))) → Env.get ((dstOf ops j, q) :: envS ops σ Γ js) t = some p → ∃ i ∈ j :: js, dstOf ops i = t ∧ (Γ[i]? = some (.fr p) ∨ ((∃ tok tok2 s, Γ[i]? = some (.al tok tok2 s)) ∧ p = VP.ex (.pointer (some ⟨σ i, 0, none⟩)))) := fun q hq h => by
      simp only [Env.get] at h
      cases hb : Nat.beq (dstOf ops j) t with
      | true =>
        have := Nat.eq_of_beq_eq_true hb
        simp only [hb, cond_true, Option.some.injEq] at h
        subst h
        exact ⟨j, by simp, this, hq⟩
      | false => simp only [hb, cond_false] at h; exact hrec h
    simp only [envS] at h
    cases hg : Γ[j]? with
    | none => simp only [hg] at h; exact hrec h
    | some x =>
      cases x with
      | fr q => simp only [hg] at h; exact hcons q (.inl hg) h
      | al tok tok2 s => simp only [hg] at h; exact hcons _ (.inr ⟨⟨tok, tok2, s, hg⟩, rfl⟩) h
      | st i => simp only [hg] at h; exact hrec h
theorem FarS.has {Γ : List Pm} {listed : Array Bool} {m : Mem} {σ : Nat → Nat} {a : Act} {w : World} (f : FarS C ops ρ L0 Γ listed m σ a w) {js : List Nat} (hj : ∀ j ∈ js, listed.getD j false = true) : Has C.N m a (envS ops σ Γ js ++ ρ) := by
  refine ⟨f.defers, f.size, fun t p h => ?_⟩
  rw [Env.get_append] at h
  cases h1 : (envS ops σ Γ js).get t with
  | some q =>
    rw [h1] at h
    simp only [Option.some_or, Option.some.injEq] at h
    subst h
    obtain ⟨j, h2, h3, h4⟩ := envS_get h1
    rw [← h3]
    rcases h4 with h4 | ⟨⟨tok, tok2, s, h4⟩, rfl⟩
    · exact (f.new j (hj j h2)).1 _ h4
    · exact (f.new j (hj j h2)).2 _ _ _ h4
  | none => rw [h1] at h; exact f.old t p (by simpa using h)
theorem tokAt_ne {σ σ' : Nat → Nat} {Γ : List Pm} {listed : Array Bool} {i k : Nat} (h1 : k ≠ i) (hs : ∀ tok tok2 s, Γ[k]? = some (.al tok tok2 s) → s ≠ i) (hσ : σ' k = σ k) : tokAt σ' Γ (listed.setIfInBounds i true) k = tokAt σ Γ listed k := by
  unfold tokAt
  rw [Go.getD_set_ne false (Ne.symm h1)]
  split
  · cases hg : Γ[k]? with
    | none => rfl
    | some x =>
      cases x with
      | fr p => rfl
      | st j => rfl
      | al tok tok2 s =>
        have := hs tok tok2 s hg
        simp only [Go.getD_set_ne false (Ne.symm this), hσ]
  · rfl
/-- one place of the list of blocks turns -/
theorem fm_turn {n i : Nat} {f g : Nat → Option OB} (hi : i < n) (h : ∀ k, k ≠ i → k < n → g k = f k) : ∃ R, ((List.range n).filterMap f).Perm ((f i).toList ++ R) ∧ ((List.range n).filterMap g).Perm ((g i).toList ++ R) := by
  have hsplit : List.range n = List.range i ++ i :: (List.range' (i + 1) (n - i - 1)) := by
    rw [List.range_eq_range', List.range_eq_range', show n = i + (1 + (n - i - 1)) from by omega, ← List.range'_append, ← List.range'_append]
    simp
  have h1 : (List.range i).filterMap g = (List.range i).filterMap f := fm_congr fun k hk => h k (by have := List.mem_range.1 hk; omega) (by have := List.mem_range.1 hk; omega)
  have h2 : (List.range' (i + 1) (n - i - 1)).filterMap g = (List.range' (i + 1) (n - i - 1)).filterMap f := fm_congr fun k hk => h k (by have := List.mem_range'_1.1 hk; omega) (by have := List.mem_range'_1.1 hk; omega)
  have key : ∀ x : Option OB, ∀ a b : List OB, (a ++ (x.toList ++ b)).Perm (x.toList ++ (a ++ b)) := fun x a b => by
    cases x with
    | none => exact List.Perm.refl _
    | some y => exact List.perm_middle
  refine ⟨(List.range i).filterMap f ++ (List.range' (i + 1) (n - i - 1)).filterMap f, ?_, ?_⟩
  · rw [hsplit, List.filterMap_append]
    have : (i :: List.range' (i + 1) (n - i - 1)).filterMap f = (f i).toList ++ (List.range' (i + 1) (n - i - 1)).filterMap f := by
      rw [List.filterMap_cons]; cases f i <;> rfl
    rw [this]; exact key _ _ _
  · rw [hsplit, List.filterMap_append]
    have : (i :: List.range' (i + 1) (n - i - 1)).filterMap g = (g i).toList ++ (List.range' (i + 1) (n - i - 1)).filterMap g := by
      rw [List.filterMap_cons]; cases g i <;> rfl
    rw [this, h1, h2]; exact key _ _ _
theorem getD_set_eq {listed : Array Bool} {i : Nat} (h : i < listed.size) : (listed.setIfInBounds i true).getD i false = true := by
  simp [Array.getD_eq_getD_getElem?, Array.getElem?_setIfInBounds, h]
theorem not_listed {listed : Array Bool} {i : Nat} (h : i < listed.size) (hn : listed.getD i true = false) : listed.getD i false = false := by
  simp [Array.getD_eq_getD_getElem?, Array.getElem?_eq_getElem h] at hn ⊢; exact hn
theorem closed_set {listed : Array Bool} {i : Nat} (hc : ∀ i, listed.getD i false = true → ∀ j ∈ deps ops i, listed.getD j false = true) (hdep : ∀ j ∈ deps ops i, listed.getD j false = true) : ∀ k, (listed.setIfInBounds i true).getD k false = true → ∀ j ∈ deps ops k, (listed.setIfInBounds i true).getD j false = true := by
  intro k hk l hl
  by_cases hji : i = k
  · subst hji; exact getD_set_true (hdep l hl)
  · rw [Go.getD_set_ne false hji] at hk
    exact getD_set_true (hc k hk l hl)
theorem FarS.fr {Γ : List Pm} (ck : ChkS C.N ops ρ Γ) {listed : Array Bool} {m m' : Mem} {σ : Nat → Nat} {a : Act} {w w' : World} (f : FarS C ops ρ L0 Γ listed m σ a w) {i : Nat} (hi : i < Γ.length) (hn : listed.getD i true = false) (hdep : ∀ j ∈ deps ops i, listed.getD j false = true) {p : VP} (hp : Γ[i]? = some (.fr p)) {v : Value} (hm : Mem.le m m')
    (s : Sat C m' w' ((List.range Γ.length).filterMap (tokAt σ Γ listed) ++ L0)) (hv : p.p m' v) : FarS C ops ρ L0 Γ (listed.setIfInBounds i true) m' σ (a.put (some (dstOf ops i)) v) w' := by
  obtain ⟨hdN, hρ⟩ := ck.dst i hi (fun j h => by rw [hp] at h; cases h)
  have hput := fun t => putD (a := a) (d := dstOf ops i) (t := t) (v := v) f.size hdN
  refine ⟨?_, f.defers, by simp [Act.put, f.size], fun t q hq => ?_, fun j hj => ?_, closed_set f.closed hdep, by simpa using f.len⟩
  · have heq : (List.range Γ.length).filterMap (tokAt σ Γ (listed.setIfInBounds i true)) = (List.range Γ.length).filterMap (tokAt σ Γ listed) := by
      apply fm_congr
      intro k _
      by_cases hki : k = i
      · subst hki; unfold tokAt; simp [hp]
      · refine tokAt_ne hki (fun tok tok2 s hk e => ?_) rfl
        subst e
        have := ck.alo k tok tok2 s hk
        rw [hp] at this; cases this
    rw [heq]; exact s
  · rw [hput, if_neg (fun h => by subst h; rw [hρ] at hq; cases hq)]
    exact q.mono hm (f.old t q hq)
  · by_cases hji : i = j
    · subst hji
      refine ⟨fun q hq => ?_, fun tok tok2 s ht => by rw [hp] at ht; cases ht⟩
      rw [hput, if_pos rfl]
      rw [hp] at hq; cases hq; exact hv
    · rw [Go.getD_set_ne false hji] at hj
      obtain ⟨h2, h3⟩ := f.new j hj
      have hjl : j < Γ.length := by
        rcases Nat.lt_or_ge j Γ.length with h | h
        · exact h
        · have : listed.size ≤ j := by rw [f.len, ← ck.le]; exact h
          simp [Array.getD_eq_getD_getElem?, Array.getElem?_eq_none this] at hj
      refine ⟨fun q hq => ?_, fun tok tok2 s ht => ?_⟩
      · have hne : dstOf ops i ≠ dstOf ops j := fun h => hji (ck.inj i j hi hjl (fun k h => by rw [hp] at h; cases h) (fun k h => by rw [hq] at h; cases h) h)
        rw [hput, if_neg hne]; exact q.mono hm (h2 q hq)
      · have hne : dstOf ops i ≠ dstOf ops j := fun h => hji (ck.inj i j hi hjl (fun k h => by rw [hp] at h; cases h) (fun k h => by rw [ht] at h; cases h) h)
        rw [hput, if_neg hne]; exact h3 tok tok2 s ht
theorem FarS.al {Γ : List Pm} (ck : ChkS C.N ops ρ Γ) {listed : Array Bool} {m m' : Mem} {σ : Nat → Nat} {a : Act} {w w' : World} (f : FarS C ops ρ L0 Γ listed m σ a w) {i : Nat} (hi : i < Γ.length) (hn : listed.getD i true = false) (hdep : ∀ j ∈ deps ops i, listed.getD j false = true) {tok tok2 : Nat → OB} {s0 : Nat} (hp : Γ[i]? = some (.al tok tok2 s0)) {b : Nat} (hm : Mem.le m m')
    (s : Sat C m' w' (tok b :: ((List.range Γ.length).filterMap (tokAt σ Γ listed) ++ L0))) : FarS C ops ρ L0 Γ (listed.setIfInBounds i true) m' (fun j => if j = i then b else σ j) (a.put (some (dstOf ops i)) (.pointer (some ⟨b, 0, none⟩))) w' := by
  obtain ⟨hdN, hρ⟩ := ck.dst i hi (fun j h => by rw [hp] at h; cases h)
  have his : i < listed.size := by rw [f.len, ← ck.le]; exact hi
  have hnf := not_listed his hn
  have hput := fun t => putD (a := a) (d := dstOf ops i) (t := t) (v := .pointer (some ⟨b, 0, none⟩)) f.size hdN
  have hsto := ck.sto s0 i (ck.alo i tok tok2 s0 hp)
  have hs0 : listed.getD s0 false = false := by
    cases hb : listed.getD s0 false with
    | false => rfl
    | true => have := f.closed s0 hb i hsto.2; rw [hnf] at this; cases this
  have hsi : s0 ≠ i := fun e => by
    subst e
    have := ck.alo s0 tok tok2 s0 hp
    rw [hp] at this; cases this
  refine ⟨?_, f.defers, by simp [Act.put, f.size], fun t q hq => ?_, fun j hj => ?_, closed_set f.closed hdep, by simpa using f.len⟩
  · obtain ⟨R, r1, r2⟩ := fm_turn (f := tokAt σ Γ listed) (g := tokAt (fun j => if j = i then b else σ j) Γ (listed.setIfInBounds i true)) hi (fun k hk _ => tokAt_ne hk (fun tok' tok2' s hk' e => by
      subst e
      have := ck.alo k tok' tok2' s hk'
      rw [hp] at this; cases this) (by simp [hk]))
    have e1 : tokAt σ Γ listed i = none := by unfold tokAt; simp [hnf]
    have e2 : tokAt (fun j => if j = i then b else σ j) Γ (listed.setIfInBounds i true) i = some (tok b) := by
      unfold tokAt
      simp [getD_set_eq his, hp, Go.getD_set_ne false (Ne.symm hsi), hs0]
    rw [e1] at r1
    rw [e2] at r2
    refine s.perm ?_
    refine (r2.append_right L0).trans ?_
    rw [← List.cons_append]
    exact List.Perm.append_right L0 (List.Perm.cons _ (by simpa using r1.symm))
  · rw [hput, if_neg (fun h => by subst h; rw [hρ] at hq; cases hq)]
    exact q.mono hm (f.old t q hq)
  · by_cases hji : i = j
    · subst hji
      refine ⟨fun q hq => (by rw [hp] at hq; cases hq), fun tok' tok2' s ht => ?_⟩
      rw [hput, if_pos rfl]; simp
    · rw [Go.getD_set_ne false hji] at hj
      obtain ⟨h2, h3⟩ := f.new j hj
      have hjl : j < Γ.length := by
        rcases Nat.lt_or_ge j Γ.length with h | h
        · exact h
        · have : listed.size ≤ j := by rw [f.len, ← ck.le]; exact h
          simp [Array.getD_eq_getD_getElem?, Array.getElem?_eq_none this] at hj
      refine ⟨fun q hq => ?_, fun tok' tok2' s ht => ?_⟩
      · have hne : dstOf ops i ≠ dstOf ops j := fun h => hji (ck.inj i j hi hjl (fun k h => by rw [hp] at h; cases h) (fun k h => by rw [hq] at h; cases h) h)
        rw [hput, if_neg hne]; exact q.mono hm (h2 q hq)
      · have hne : dstOf ops i ≠ dstOf ops j := fun h => hji (ck.inj i j hi hjl (fun k h => by rw [hp] at h; cases h) (fun k h => by rw [ht] at h; cases h) h)
        rw [hput, if_neg hne, if_neg (fun e => hji e.symm)]; exact h3 tok' tok2' s ht
theorem FarS.st {Γ : List Pm} (ck : ChkS C.N ops ρ Γ) {listed : Array Bool} {m m' : Mem} {σ : Nat → Nat} {a : Act} {w w' : World} (f : FarS C ops ρ L0 Γ listed m σ a w) {i j : Nat} (hi : i < Γ.length) (hn : listed.getD i true = false) (hdep : ∀ j ∈ deps ops i, listed.getD j false = true) (hp : Γ[i]? = some (.st j)) {tok tok2 : Nat → OB} (ha : Γ[j]? = some (.al tok tok2 i)) (hm : Mem.le m m') {R : List OB}
    (hR : ((List.range Γ.length).filterMap (tokAt σ Γ (listed.setIfInBounds i true))).Perm (tok2 (σ j) :: R)) (s : Sat C m' w' (tok2 (σ j) :: (R ++ L0))) : FarS C ops ρ L0 Γ (listed.setIfInBounds i true) m' σ a w' := by
  refine ⟨?_, f.defers, f.size, fun t q hq => q.mono hm (f.old t q hq), fun k hk => ?_, closed_set f.closed hdep, by simpa using f.len⟩
  · refine s.perm ?_
    rw [← List.cons_append]
    exact hR.append_right L0
  · by_cases hki : i = k
    · subst hki
      exact ⟨fun q hq => (by rw [hp] at hq; cases hq), fun tok' tok2' s ht => (by rw [hp] at ht; cases ht)⟩
    · rw [Go.getD_set_ne false hki] at hk
      obtain ⟨h2, h3⟩ := f.new k hk
      exact ⟨fun q hq => q.mono hm (h2 q hq), h3⟩
theorem allEnvS_get {σ : Nat → Nat} : ∀ (Γ : List Pm) (i t : Nat) (p : VP), (allEnvS ops σ i Γ).get t = some p → ∃ j, i ≤ j ∧ j < i + Γ.length ∧ dstOf ops j = t ∧ (Γ[j - i]? = some (.fr p) ∨ (∃ tok tok2 s, Γ[j - i]? = some (.al tok tok2 s)) ∧ p = VP.ex (.pointer (some ⟨σ j, 0, none⟩)))
  | [], i, t, p, h => by cases h
  | x :: Γ, i, t, p, h => by
    have hrec : (allEnvS ops σ (i + 1) Γ).get t = some p → ∃ j, i ≤ j ∧ j < i + (x :: Γ).length ∧ dstOf ops j = t ∧ ((x :: Γ)[j - i]? = some (.fr p) ∨ (∃ tok tok2 s, (x :: Γ)[j - i]? = some (.al tok tok2 s)) ∧ p = VP.ex (.pointer (some ⟨σ j, 0, none⟩))) := fun h => by
      obtain ⟨j, h1, h2, h3, h4⟩ := allEnvS_get Γ (i + 1) t p h
      refine ⟨j, by omega, by simp; omega, h3, ?_⟩
      rw [show j - i = j - (i + 1) + 1 from by omega]
      simpa using h4
    have hcons : ∀ q, (x = .fr q ∨ (∃ tok tok2 s, x = .al tok tok2 s) ∧ q = VP.ex (.pointer (some ⟨σ i, 0, none⟩))) → Env.get ((dstOf ops i, q) :: allEnvS ops σ (i + 1) Γ) t = some p → ∃ j, i ≤ j ∧ j < i + (x :: Γ).length ∧ dstOf ops j = t ∧ ((x :: Γ)[j - i]? = some (.fr p) ∨ (∃ tok tok2 s, (x :: Γ)[j - i]? = some (.al tok tok2 s)) ∧ p = VP.ex (.pointer (some ⟨σ j, 0, none⟩))) := fun q hq h => by
      simp only [Env.get] at h
      cases hb : Nat.beq (dstOf ops i) t with
      | true =>
        have := Nat.eq_of_beq_eq_true hb
        simp only [hb, cond_true, Option.some.injEq] at h
        subst h
        refine ⟨i, Nat.le_refl _, by simp, this, ?_⟩
        simpa using hq
      | false => simp only [hb, cond_false] at h; exact hrec h
    cases x with
    | fr q => exact hcons q (.inl rfl) h
    | al tok tok2 s => exact hcons _ (.inr ⟨⟨tok, tok2, s, rfl⟩, rfl⟩) h
    | st j => exact hrec h
theorem allToksS_eq (σ : Nat → Nat) : ∀ (Γ : List Pm) (i : Nat), allToksS σ i Γ = ((List.range Γ.length).filterMap fun j => match Γ[j]? with | some (Pm.al _ tok2 _) => some (tok2 (σ (i + j))) | _ => none)
  | [], i => rfl
  | x :: Γ, i => by
    have ih := allToksS_eq σ Γ (i + 1)
    rw [List.length_cons, List.range_succ_eq_map, List.filterMap_cons, List.filterMap_map]
    have : (List.range Γ.length).filterMap ((fun j => match (x :: Γ)[j]? with | some (Pm.al _ tok2 _) => some (tok2 (σ (i + j))) | _ => none) ∘ Nat.succ) = allToksS σ (i + 1) Γ := by
      rw [ih]
      apply fm_congr
      intro j _
      simp only [Function.comp, Nat.succ_eq_add_one, List.getElem?_cons_succ, show i + (j + 1) = i + 1 + j from by omega]
    rw [this]
    cases x <;> simp [allToksS]
/-- The region. -/
theorem CW.drawS {id : Nat} {Γ : List Pm} (hm : C.P.follows .mixedOrders = true) (ck : ChkS C.N ops ρ Γ)
    (ob : ∀ i x, Γ[i]? = some x → ObS C ops Q ρ L0 Γ i x)
    (h : ∀ σ, QE C Q .normal (allEnvS ops σ 0 Γ ++ ρ) (allToksS σ 0 Γ ++ L0)) : CW C Q (.region id ops true) ρ L0 := by
  have key : ∀ (fuel : Nat) (listed : Array Bool) (m : Mem) (σ : Nat → Nat) (a : Act) (w : World), FarS C ops ρ L0 Γ listed m σ a w → cnt ops listed + fuel = ops.size → wpAny C.P .any ops Q fuel listed a w := by
    intro fuel
    induction fuel with
    | zero =>
      intro listed m σ a w f hc
      have hall : ∀ i, i < ops.size → listed.getD i false = true := fun i hi => cnt_full f.len (by omega) i hi
      refine ⟨?_, h σ m w a ?_ ?_⟩
      · rw [List.eq_nil_iff_forall_not_mem]
        intro j hj
        obtain ⟨h5, o, h6, _⟩ := mem_ready.1 hj
        have hj' : j < ops.size := (Array.getElem?_eq_some_iff.1 h6).1
        have h7 := hall j hj'
        have h8 : j < listed.size := by rw [f.len]; exact hj'
        simp [Array.getD_eq_getD_getElem?, Array.getElem?_eq_getElem h8] at h5 h7
        rw [h7] at h5; cases h5
      · have : (List.range Γ.length).filterMap (tokAt σ Γ listed) = allToksS σ 0 Γ := by
          rw [allToksS_eq]
          apply fm_congr
          intro i hi
          have hi' := List.mem_range.1 hi
          unfold tokAt
          rw [hall i (by rw [← ck.le]; exact hi')]
          cases hg : Γ[i]? with
          | none => rfl
          | some x =>
            cases x with
            | fr p => rfl
            | st j => rfl
            | al tok tok2 s =>
              have h1 := ck.alo i tok tok2 s hg
              have h2 : s < Γ.length := (List.getElem?_eq_some_iff.1 h1).1
              simp [hall s (by rw [← ck.le]; exact h2)]
        rw [← this]; exact f.sat
      · refine ⟨f.defers, f.size, fun t p hp => ?_⟩
        rw [Env.get_append] at hp
        cases h1 : (allEnvS ops σ 0 Γ).get t with
        | some q =>
          rw [h1] at hp
          simp only [Option.some_or, Option.some.injEq] at hp
          subst hp
          obtain ⟨j, h2, h3, h4, h5⟩ := allEnvS_get Γ 0 t q h1
          simp only [Nat.sub_zero] at h5
          obtain ⟨g2, g3⟩ := f.new j (hall j (by have := ck.le; omega))
          rw [← h4]
          rcases h5 with h5 | ⟨⟨tok, tok2, s, h5⟩, rfl⟩
          · exact g2 _ h5
          · exact g3 tok tok2 s h5
        | none => rw [h1] at hp; exact f.old t p (by simpa using hp)
    | succ fuel ih =>
      intro listed m σ a w f hc
      refine ⟨fun h0 => ?_, fun j hj => ?_⟩
      · exfalso
        have hnall : ¬ ∀ i, i < ops.size → listed.getD i false = true := fun hall => by
          have : cnt ops listed = ops.size := by
            unfold cnt
            rw [List.filter_eq_self.2 (fun i hi => hall i (List.mem_range.1 hi))]; simp
          omega
        obtain ⟨i, hi, hin, hmin⟩ := least_not hnall
        have hil : i < listed.size := by rw [f.len]; exact hi
        have hun : listed.getD i true = false := by
          simp [Array.getD_eq_getD_getElem?, Array.getElem?_eq_getElem hil] at hin ⊢; exact hin
        have := ready_deps hi hun (fun j hj => by
          have := ck.lt i hi j hj
          exact hmin j this (by omega))
        rw [h0] at this; cases this
      · obtain ⟨hjn, o, ho, hall'⟩ := mem_ready.1 hj
        have hdep := deps_ready ho hall'
        have hjs : j < ops.size := (Array.getElem?_eq_some_iff.1 ho).1
        have hjl : j < Γ.length := by rw [ck.le]; exact hjs
        have hx : Γ[j]? = some Γ[j] := by simp [hjl]
        cases hg : Γ[j] with
        | fr p =>
          rw [hg] at hx
          exact ob j _ hx σ _ m w a f.sat (f.has hdep) _ (fun m' w' v hm s hp => ih _ m' σ _ w' (f.fr ck hjl hjn hdep hx hm s hp) (by rw [cnt_set f.len hjs hjn]; omega))
        | al tok tok2 s0 =>
          rw [hg] at hx
          exact ob j _ hx σ _ m w a f.sat (f.has hdep) _ (fun m' w' b hm s => ih _ m' _ _ w' (f.al ck hjl hjn hdep hx hm s) (by rw [cnt_set f.len hjs hjn]; omega))
        | st i =>
          rw [hg] at hx
          obtain ⟨⟨tok, tok2, ha⟩, hid⟩ := ck.sto j i hx
          have hil : i < Γ.length := (List.getElem?_eq_some_iff.1 ha).1
          have hij : i ≠ j := fun e => by subst e; rw [ha] at hx; cases hx
          have hli := hdep i hid
          have hjsz : j < listed.size := by rw [f.len]; exact hjs
          have hnf := not_listed hjsz hjn
          obtain ⟨R, r1, r2⟩ := fm_turn (f := tokAt σ Γ listed) (g := tokAt σ Γ (listed.setIfInBounds j true)) hil (fun k hk _ => by
            by_cases hkj : k = j
            · subst hkj; unfold tokAt; simp [hx]
            · exact tokAt_ne hkj (fun tok' tok2' s hk' e => by
                subst e
                have := ck.alo k tok' tok2' s hk'
                rw [hx] at this; cases this; exact hk rfl) rfl)
          have e1 : tokAt σ Γ listed i = some (tok (σ i)) := by unfold tokAt; simp [hli, ha, hnf]
          have e2 : tokAt σ Γ (listed.setIfInBounds j true) i = some (tok2 (σ i)) := by
            unfold tokAt
            rw [Go.getD_set_ne false (Ne.symm hij), hli]
            simp [ha, getD_set_eq hjsz]
          rw [e1] at r1
          rw [e2] at r2
          have s1 : Sat C m w (tok (σ i) :: (R ++ L0)) := f.sat.perm (by
            rw [← List.cons_append]
            exact List.Perm.append_right L0 (by simpa using r1.symm))
          exact ob j _ hx tok tok2 j ha σ R m w a s1 (f.has hdep) _ (fun m' w' hm s => ih _ m' σ _ w' (f.st ck hjl hjn hdep hx ha hm (by simpa using r2) s) (by rw [cnt_set f.len hjs hjn]; omega))
  intro m w a s t
  refine wp_region_any hm (key ops.size _ m (fun _ => 0) a _ ⟨?_, t.defers, t.size, t.get, fun i hi => ?_, fun i hi => ?_, by simp⟩ ?_)
  · have : (List.range Γ.length).filterMap (tokAt (fun _ => 0) Γ (Array.replicate ops.size false)) = ([] : List OB) := by
      rw [List.filterMap_eq_nil_iff]
      intro i hi
      have h0 : (Array.replicate ops.size false).getD i false = false := by
        simp [Array.getD_eq_getD_getElem?, Array.getElem?_replicate]; split <;> rfl
      unfold tokAt
      simp [h0]
    rw [this, List.nil_append]
    exact s.lift (Mem.le_refl m) s.fits ⟨rfl, rfl, rfl, Nat.le_refl _, fun _ _ _ => rfl⟩ (fun _ _ h => h)
  · simp [Array.getD_eq_getD_getElem?, Array.getElem?_replicate] at hi
    split at hi <;> simp at hi
  · simp [Array.getD_eq_getD_getElem?, Array.getElem?_replicate] at hi
    split at hi <;> simp at hi
  · have : cnt ops (Array.replicate ops.size false) = 0 := by
      unfold cnt
      rw [List.length_eq_zero_iff, List.filter_eq_nil_iff]
      intro i hi
      simp [Array.getD_eq_getD_getElem?, Array.getElem?_replicate]
      split <;> simp
    omega
def dstB (N : Nat) (ops : Array Oper) (i : Nat) : Bool := match ops[i]? with
  | some o => o.dst.isSome && Nat.blt (dstOf ops i) N
  | none => false
def chkSB (N : Nat) (ops : Array Oper) (sh : List (Nat × Nat)) : Bool :=
  Nat.beq sh.length ops.size &&
  (List.range sh.length).all (fun i => match sh.getD i (9, 9) with
    | (2, j) => (match sh.getD j (9, 9) with | (1, s) => Nat.beq s i | _ => false) && (deps ops i).contains j
    | (1, s) => (match sh.getD s (9, 9) with | (2, j) => Nat.beq j i | _ => false) && dstB N ops i
    | (0, _) => dstB N ops i
    | _ => false) &&
  (List.range sh.length).all (fun i => (List.range sh.length).all fun j => Nat.beq i j || Nat.beq (sh.getD i (9, 9)).1 2 || Nat.beq (sh.getD j (9, 9)).1 2 || !Nat.beq (dstOf ops i) (dstOf ops j)) &&
  (List.range ops.size).all (fun i => (deps ops i).all fun j => Nat.blt j i)
theorem shape_get {Γ : List Pm} {sh : List (Nat × Nat)} (h : Γ.map Pm.shape = sh) {i : Nat} {x : Pm} (hx : Γ[i]? = some x) : sh.getD i (9, 9) = x.shape := by
  subst h; simp [List.getD_eq_getElem?_getD, hx]
theorem ChkS.of {N : Nat} {Γ : List Pm} {sh : List (Nat × Nat)} (hl : Γ.map Pm.shape = sh) (h : chkSB N ops sh = true) (hρ : (List.range Γ.length).all (fun i => Nat.beq (sh.getD i (9, 9)).1 2 || (ρ.get (dstOf ops i)).isNone) = true) : ChkS N ops ρ Γ := by
  simp only [chkSB, Bool.and_eq_true, List.all_eq_true, List.mem_range, Nat.blt_eq, Bool.or_eq_true, Bool.not_eq_true', Nat.beq_eq] at h
  obtain ⟨⟨⟨h1, h2⟩, h3⟩, h4⟩ := h
  have hlen : sh.length = Γ.length := by rw [← hl]; simp
  simp only [List.all_eq_true, List.mem_range, Bool.or_eq_true, Nat.beq_eq] at hρ
  have hnot : ∀ i, i < Γ.length → (∀ j, Γ[i]? ≠ some (Pm.st j)) → (sh.getD i (9, 9)).1 ≠ 2 := fun i hi hne => by
    have hx : Γ[i]? = some Γ[i] := by simp [hi]
    rw [shape_get hl hx]
    cases hg : Γ[i] with
    | fr p => simp [Pm.shape]
    | al a b c => simp [Pm.shape]
    | st j => rw [hg] at hx; exact absurd hx (hne j)
  refine ⟨by omega, fun i hi hne => ?_, fun i j hi hj hni hnj hd => ?_, fun i hi j hj => h4 i hi j hj, fun s i hs => ?_, fun i tok tok2 s hi => ?_⟩
  · have hn2 := hnot i hi hne
    have hr := (hρ i hi).resolve_left hn2
    have h5 := h2 i (by omega)
    have hx : Γ[i]? = some Γ[i] := by simp [hi]
    rw [shape_get hl hx] at h5
    have hd : dstB N ops i = true := by
      cases hg : Γ[i] with
      | fr p => rw [hg] at h5; exact h5
      | al a b c => rw [hg] at h5; simp only [Pm.shape, Bool.and_eq_true] at h5; exact h5.2
      | st j => rw [hg] at hx; exact absurd hx (hne j)
    unfold dstB at hd
    cases ho : ops[i]? with
    | none => simp [ho] at hd
    | some o => simp only [ho, Bool.and_eq_true, Nat.blt_eq] at hd; exact ⟨hd.2, by simpa using hr⟩
  · rcases h3 i (by omega) j (by omega) with h5 | h5
    · rcases h5 with h5 | h5
      · rcases h5 with h5 | h5
        · exact h5
        · exact absurd h5 (hnot i hi hni)
      · exact absurd h5 (hnot j hj hnj)
    · rw [hd] at h5; simp at h5
  · have hsl : s < Γ.length := (List.getElem?_eq_some_iff.1 hs).1
    have h5 := h2 s (by omega)
    rw [shape_get hl hs] at h5
    simp only [Pm.shape, Bool.and_eq_true, List.contains_iff_mem] at h5
    refine ⟨?_, h5.2⟩
    have h6 := h5.1
    cases hg : Γ[i]? with
    | none =>
      have : sh.getD i (9, 9) = (9, 9) := by rw [← hl]; simp [List.getD_eq_getElem?_getD, hg]
      rw [this] at h6; simp at h6
    | some x =>
      rw [shape_get hl hg] at h6
      cases x with
      | fr p => simp [Pm.shape] at h6
      | al a b c => simp only [Pm.shape, Nat.beq_eq] at h6; exact ⟨a, b, by rw [h6]⟩
      | st j => simp [Pm.shape] at h6
  · have hil : i < Γ.length := (List.getElem?_eq_some_iff.1 hi).1
    have h5 := h2 i (by omega)
    rw [shape_get hl hi] at h5
    simp only [Pm.shape, Bool.and_eq_true] at h5
    have h6 := h5.1
    cases hg : Γ[s]? with
    | none =>
      have : sh.getD s (9, 9) = (9, 9) := by rw [← hl]; simp [List.getD_eq_getElem?_getD, hg]
      rw [this] at h6; simp at h6
    | some x =>
      rw [shape_get hl hg] at h6
      cases x with
      | fr p => simp [Pm.shape] at h6
      | al a b c => simp [Pm.shape] at h6
      | st j => simp only [Pm.shape, Nat.beq_eq] at h6; rw [h6]
variable {ty : TypeId} {pos : String} {after : Array Edge} {g : Option (Nat × Bool)}
theorem ObS.f {Γ : List Pm} {i : Nat} {d : Tmp} {op : Op} {p : VP} (hi : ops[i]? = some ⟨some d, op, ty, pos, after, g⟩) (hr : ∀ σ, Run ops (envS ops σ Γ (deps ops i) ++ ρ) ⟨some d, op, ty, pos, after, g⟩) (ho : ∀ σ N, OpOk C ⟨some d, op, ty, pos, after, g⟩ (envS ops σ Γ (deps ops i) ++ ρ) (N ++ L0) p (N ++ L0)) : ObS C ops Q ρ L0 Γ i (.fr p) := fun σ N m w a s t K h => by
  have hd : dstOf ops i = d := by simp [dstOf, hi]
  unfold wpOp
  simp only [hi]
  rw [if_pos (hr σ _ m a t)]
  refine .inl (ho σ N m w a s t K Q fun m' w' v hm s' hp => ?_)
  have := h m' w' v hm s' hp
  rwa [hd] at this
theorem ObS.a {α : Type} {k : Kd α} {z : α} {Γ : List Pm} {i : Nat} {d : Tmp} {e : TypeId} {tok2 : Nat → OB} {s0 : Nat} (hi : ops[i]? = some ⟨some d, .alloc e, ty, pos, after, none⟩) (hz : ZeroOk C.P e k z) : ObS C ops Q ρ L0 Γ i (.al (fun b => OB.box b e k z) tok2 s0) := fun σ N m w a s t K h => by
  have hd : dstOf ops i = d := by simp [dstOf, hi]
  obtain ⟨ii, v, h1, h2, h3⟩ := hz
  unfold wpOp
  simp only [hi]
  rw [if_pos (by simp [Region.wanted])]
  refine .inl ?_
  have hrun : (execOp a.eval ⟨some d, .alloc e, ty, pos, after, none⟩).run C.P w = .ok (.value (.pointer (some ⟨w.heap.size, 0, none⟩))) (w.alloc (.cells v.cells.toList.toArray e)) := by
    simp [execOp, Instr.alloc, zeroValue, typeInfo, h1, h2, newVar, newRow]
  unfold Oper.wp
  rw [hrun]
  have := h m _ w.heap.size (Mem.le_refl m) (alloc_box s (h3 m))
  rwa [hd] at this
theorem ObS.s {Γ : List Pm} {i j : Nat} {op : Op} {p : VP} {tok tok2 : Nat → OB} {s0 : Nat} (hj : Γ[j]? = some (.al tok tok2 s0)) (hi : ops[i]? = some ⟨none, op, ty, pos, after, g⟩) (hr : ∀ σ, Run ops (envS ops σ Γ (deps ops i) ++ ρ) ⟨none, op, ty, pos, after, g⟩) (ho : ∀ σ N, OpOk C ⟨none, op, ty, pos, after, g⟩ (envS ops σ Γ (deps ops i) ++ ρ) (tok (σ j) :: (N ++ L0)) p (tok2 (σ j) :: (N ++ L0))) : ObS C ops Q ρ L0 Γ i (.st j) := fun tok' tok2' s' hj' σ N m w a s t K h => by
  rw [hj] at hj'
  cases hj'
  unfold wpOp
  simp only [hi]
  rw [if_pos (hr σ _ m a t)]
  exact .inl (ho σ N m w a s t K Q fun m' w' v hm s' hp => h m' w' hm s')
end
end Fw

/- The frame of the walks: a slice that grows in its own block, and windows of it. -/
set_option linter.unusedVariables false
set_option linter.unusedSimpArgs false
namespace Fw
open Go

/-- a slice from its block's beginning on -/
abbrev sv (b n cap : Nat) : Value := .slice (some ⟨b, 0, none⟩) n cap
/-- a window -/
abbrev wv (b o n : Nat) : Value := .slice (some ⟨b, o, none⟩) n n
section
variable {C : Ctx} {Q : Exit → Act → World → Prop} {ρ ρ' : Env} {L L' : List OB} {ops : Array Oper} {rest : List Oper}
  {dst : Option Tmp} {ty : TypeId} {pos : String} {after : Array Edge} {g : Option (Nat × Bool)}
theorem WP.mkE {α : Type} {k : Kd α} {z : α} {d : Tmp} {T e : TypeId} {x y : Operand} {ki kj : IntKind} {n : Int} (c : Nat) (hr : Run ops ρ ⟨some d, .makeSlice T x y, ty, pos, after, g⟩) (hx : ev ρ x = some ((kInt ki).is 0)) (hy : ev ρ y = some ((kInt kj).is n)) (hn : n = c) (hc : c ≤ 1099511627776)
    (hu : C.P.underlying T = some (.slice e)) (he : ElOk C.P e k) (hz : ZeroOk C.P e k z) (h : ∀ b, WP C ops Q rest ((d, VP.ex (sv b 0 c)) :: ρ) (OB.row (sv b 0 c) e k ([] : List α) :: L)) (hd : Nat.blt d C.N = true := by rfl) :
    WP C ops Q (⟨some d, .makeSlice T x y, ty, pos, after, g⟩ :: rest) ρ L := fun m w a s t => by
  subst hn
  obtain ⟨i, v, h1, h2, h3, h4, h5, h6⟩ := he
  unfold wpList
  rw [if_pos (hr _ m a t)]
  refine .inl ?_
  have hrun := run_make (P := C.P) w T e i v hu h1 h2 ki kj (0 : Int) (c : Int) (by omega) (by omega) (by
    have : (i.bytes : Int) * (c : Int) ≤ 128 * 1099511627776 := Int.mul_le_mul (by omega) (by omega) (by omega) (by omega)
    omega) (by omega)
  simp only [Int.toNat_natCast] at hrun
  unfold Oper.wp
  have hrun' : (execOp a.eval ⟨some d, .makeSlice T x y, ty, pos, after, g⟩).run C.P w = .ok (.value (.slice (some ⟨w.heap.size, 0, none⟩) 0 c)) (w.alloc (.cells (madeCells v.cells (c * i.size)) e)) := by
    simp [execOp, t.int hx, t.int hy, hrun]
  rw [hrun']
  have hgrow : Grow [] w (w.alloc (.cells (madeCells v.cells (c * i.size)) e)) := ⟨rfl, rfl, rfl, by simp, fun i hi _ => RowKit.Below.heap_alloc w _ i hi⟩
  have hsz : (madeCells v.cells (c * i.size)).size = c * k.sz := by rw [size_madeCells, h3]
  refine h w.heap.size m _ _ (s.new hgrow (OB.row (.slice (some ⟨w.heap.size, 0, none⟩) 0 c) e k ([] : List α)) ⟨[], ⟨?_, .inr ⟨w.heap.size, c, _, ?_, Nat.zero_le _, heap_alloc_new w _, ?_, ?_, hsz, ?_⟩⟩, rfl, by simp⟩ ?_) (t.put rfl hd)
  · simp
  · simp
  · simp
  · unfold maxLen; omega
  · simp
  · intro i hi
    simp [OB.row, Value.ownBlock] at hi
    subst hi
    simp
/-- append where there is room: the slice stays where it is. -/
theorem WP.apE {α : Type} {k : Kd α} {xs ys : List α} {b N cap : Nat} {q : VP} {d : Tmp} {T e : TypeId} {x y : Operand} (j M : Nat) (hr : Run ops ρ ⟨some d, .call ⟨.builtin .append, #[x, y], #[T, T]⟩, ty, pos, after, g⟩) (hx : ev ρ x = some (VP.ex (sv b N cap))) (hj : L[j]? = some (OB.row (sv b N cap) e k xs)) (hy : ev ρ y = some q) (hq : VP.le q ((kSl k).is ys))
    (hu : C.P.underlying T = some (.slice e)) (he : ElOk C.P e k) (hl : xs.length + ys.length ≤ 1099511627776) (h0 : 0 < ys.length) (hM : M = xs.length + ys.length) (hroom : M ≤ cap) (h : WP C ops Q rest ((d, VP.ex (sv b M cap)) :: ρ) (L.set j (OB.row (sv b M cap) e k (xs ++ ys)))) (hd : Nat.blt d C.N = true := by rfl) :
    WP C ops Q (⟨some d, .call ⟨.builtin .append, #[x, y], #[T, T]⟩, ty, pos, after, g⟩ :: rest) ρ L := fun m w a s t => by
  subst hM
  obtain ⟨i, z, h1, h2, h3, h4, h5, h6⟩ := he
  obtain ⟨cells, o1, o2, o3⟩ := row_own s (List.mem_of_getElem? hj)
  obtain ⟨ad, capy, e1, e2, e3, e4⟩ := Kd.is_sl (hq _ _ (t.evl hy))
  unfold wpList
  rw [if_pos (hr _ m a t)]
  refine .inl ?_
  have hN : N = xs.length := by
    obtain ⟨_, _, hv, _⟩ := owns_lenEq o1
    injection hv
  subst hN
  rcases e4 with rfl | ⟨b', o, c, news, rfl, f1, f2, f3⟩
  · exact absurd h0 (by simp)
  · obtain ⟨v', w', r1, r2, r3, _, r5⟩ := run_append_own_at (P := C.P) w 0 T ty e i z k.sz i.bytes hu h1 h2 h3 rfl h5 h6 (sv b xs.length cap) xs.length cells o1 ⟨b', o, none⟩ ys.length capy news f3.len (fun j u hj => by rw [Addr.add_lit]; exact f2.cells s.fits f1 j u hj) f3.flat (by unfold maxLen; omega) (by
        have : (xs.length + ys.length) * i.bytes ≤ 1099511627776 * 128 := Nat.mul_le_mul hl h4
        omega) (Nat.zero_le _)
    have hv' : v' = sv b (xs.length + ys.length) cap := by
      rcases o1.2 with ⟨hno, _⟩ | ⟨b2, cap2, cur, hv, _, hA, hcap, hm, hsz, hcur⟩
      · cases hno
      · injection hv with hv1 hv2 hv3
        injection hv1 with hv1
        injection hv1 with hv1
        subst hv1 hv3
        have hns : news.length = ys.length * k.sz := f3.len
        have hbnd : xs.length * k.sz + ys.length * k.sz ≤ cap * k.sz := by rw [← Nat.add_mul]; exact Nat.mul_le_mul_right _ hroom
        have rr := run_append_room_cells (P := C.P) w T ty e i hu h1 b 0 xs.length cap ⟨b', o, none⟩ ys.length capy news (by rw [h3]; exact hns) (fun j u hj => by rw [Addr.add_lit]; exact f2.cells s.fits f1 j u hj) f3.flat hroom
          (fun j hj => by
            rw [h3]
            simp only [World.cell?, hA]
            rw [if_neg (by simp), Array.getElem?_eq_getElem (by omega)]; rfl)
          (fun j hj => by simp [World.frozen?, hA])
        rw [r1] at rr
        injection rr
    subst hv'
    unfold Oper.wp
    have hrun : (execOp a.eval ⟨some d, .call ⟨.builtin .append, #[x, y], #[T, T]⟩, ty, pos, after, g⟩).run C.P w = .ok (.value (sv b (xs.length + ys.length) cap)) w' := by
      simp [execOp, resolve, invoke, builtin, t.ex hx, e1, r1]
    rw [hrun]
    have hlen : (xs ++ ys).length = xs.length + ys.length := by simp
    refine h m _ _ (s.turn j _ _ hj (Grow.of_grownBy r3) ⟨cells ++ news, by rw [hlen]; exact r2, o2.append f3, by rw [hlen]; exact hl⟩ ?_) (t.put rfl hd)
    intro i hi
    left
    simpa [OB.row, Value.ownBlock] using hi
/-- x[l:h:h] of a slice that is known. -/
theorem O.slE {b N cap sz : Nat} {x y z u : Operand} {ki kj kk : IntKind} {n n' n'' : Int} {T e : TypeId} {agg : Bool} (l h : Nat) (hx : ev ρ x = some (VP.ex (sv b N cap))) (hy : ev ρ y = some ((kInt ki).is n)) (hz : ev ρ z = some ((kInt kj).is n')) (hw : ev ρ u = some ((kInt kk).is n'')) (hu : C.P.underlying T = some (.slice e)) (ht : TyOk C.P e agg sz) (hn : n = l) (hn' : n' = h) (hn'' : n'' = h) (hlh : l < h) (hle : h ≤ cap) : OpOk C ⟨dst, .slice T x (some y) (some z) (some u), ty, pos, after, g⟩ ρ L (VP.ex (wv b (l * sz) (h - l))) L := OpOk.val fun m w f s t => by
  subst hn hn' hn''
  have hb : (Instr.sliceBounds true N cap (some (.int ki (l : Int))) (some (.int kj (h : Int))) (some (.int kk (h : Int)))).run C.P w = .ok (l, h, h) w := by
    simp [Instr.sliceBounds, run_bound (P := C.P) w ki l h _ (Nat.le_of_lt hlh), run_bound (P := C.P) w kj h h _ (Nat.le_refl _), run_bound (P := C.P) w kk h cap _ hle]
  refine ⟨_, ?_, rfl⟩
  simp only [execOp, t.ex hx, t.int hy, t.int hz, t.int hw, Option.map_some, Sem.run_bind, run_slice hu ht w _ N cap l h h _ _ _ hb, Result.andThen_ok]
  rw [if_neg (by omega)]
  simp [Addr.add_lit]
/-- The slice and a slice of its windows are told as read-only from now on. -/
theorem ST.freezeW {α : Type} {K : Act → World → Prop} {k : Kd α} {xs : List α} {vs : List Value} {xss : List (List α)} {b N cap : Nat} {v : Value} {e e1 : TypeId} (jf jr : Nat) (hf : L[jf]? = some (OB.row (sv b N cap) e k xs)) (hr : (L.eraseIdx jf)[jr]? = some (OB.row v e1 kVal vs)) (hl : vs.length = xss.length)
    (hw : ∀ i, i < vs.length → ∃ l h, vs.getD i nilV = wv b (l * k.sz) (h - l) ∧ l < h ∧ h ≤ xs.length ∧ xss.getD i [] = (xs.take h).drop l)
    (hi : FImp v ((kSl (kSl k)).is xss) ρ ρ') (h : ST C K ρ' ((L.eraseIdx jf).eraseIdx jr)) : ST C K ρ L := fun m w a s t => by
  obtain ⟨m1, a1, a2, a3⟩ := s.frozen hf
  obtain ⟨m2, b1, b2, b3⟩ := a2.frozen hr
  have hv := vals_sl (xss := xss) hl (fun i hi => by
    obtain ⟨l, h, e1, e2, e3, e4⟩ := hw i hi
    rw [e1, e4]
    obtain ⟨ad, cp, c1, c2, c3, c4⟩ := Kd.is_sl (((kSl k).is xs).mono b1 a3)
    injection c1 with c5 c6 c7
    subst c5 c7
    have := sl_cut (k := k) (m := m2) (l := l) (h := h) (mx := h) c2 c3 c4 (Nat.le_of_lt e2) e3 (Nat.le_refl _)
    rw [if_neg (by omega)] at this
    simpa [Addr.add_lit] using this) b3
  exact h m2 w a b2 (hi _ _ _ hv (t.up (Mem.le_trans a1 b1)))
/-! ### A function that holds a label -/
theorem CW.scope {c : Code} (h : CW C (Exit.noGoto Q) c ρ L) : CW C Q (.scope c) ρ L := fun m w a s t => wp_scope_straight (h m w a s t)
theorem QE.scN (h : QE C Q .normal ρ L) : QE C (Exit.noGoto Q) .normal ρ L := h
theorem QE.scE {id : Nat} (h : QE C Q (.exit id) ρ L) : QE C (Exit.noGoto Q) (.exit id) ρ L := h
theorem QE.scR (h : QE C Q .ret ρ L) : QE C (Exit.noGoto Q) .ret ρ L := h
end
end Fw

/- Closed facts on types and functions. -/
set_option linter.unusedVariables false
set_option linter.unusedSimpArgs false
set_option exponentiation.threshold 70
namespace Fw
open Go Go.Proofs

theorem info50 : (Try.prog.info? 50).map (fun i => (i.zero, i.size, i.bytes)) = some (some (.int .u32 0), 1, 4) := by kernel_rfl
theorem ty50 : TyOk Try.prog 50 false 1 := ⟨_, Try.underlying50, rfl, by kernel_rfl⟩
theorem el50_limb : ElOk Try.prog 50 kLimb := elOk_of info50 rfl rfl rfl
theorem fn35 : FnOk Try.prog 35 := ⟨_, Try.func35, by kernel_rfl, rfl⟩
theorem fn49 : FnOk Try.prog 49 := ⟨_, Try.func49, by kernel_rfl, rfl⟩
theorem fn50 : FnOk Try.prog 50 := ⟨_, Try.func50, by kernel_rfl, rfl⟩
theorem fn70 : FnOk Try.prog 70 := ⟨_, Try.func70, by kernel_rfl, rfl⟩
theorem z50_limb : ZeroOk Try.prog 50 kLimb 0 := zeroOk_of info50 fun m => ⟨rfl, by decide⟩

end Fw


/- Closed facts on types and functions. -/
set_option linter.unusedVariables false
set_option linter.unusedSimpArgs false
set_option exponentiation.threshold 70
namespace Fw
open Go Go.Proofs

theorem info24 : (Try.prog.info? 24).map (fun i => (i.zero, i.size, i.bytes)) = some (some (.agg #[.bool false, .slice none 0 0]), 2, 32) := by kernel_rfl
theorem ty22 : TyOk Try.prog 22 false 1 := ⟨_, Try.underlying22, rfl, by kernel_rfl⟩
theorem ty24 : TyOk Try.prog 24 true 2 := ⟨_, Try.underlying24, rfl, by kernel_rfl⟩
theorem ty4 : TyOk Try.prog 4 false 1 := ⟨_, Try.underlying4, rfl, by kernel_rfl⟩
theorem fld24_0 : FldOk Try.prog 24 0 0 := fld_of (n := 0) (by kernel_rfl)
theorem fld24_1 : FldOk Try.prog 24 1 1 := fld_of (n := 0) (by kernel_rfl)
theorem fn27 : FnOk Try.prog 27 := ⟨_, Try.func27, by kernel_rfl, rfl⟩
theorem fn36 : FnOk Try.prog 36 := ⟨_, Try.func36, by kernel_rfl, rfl⟩
theorem fn47 : FnOk Try.prog 47 := ⟨_, Try.func47, by kernel_rfl, rfl⟩
theorem fn48 : FnOk Try.prog 48 := ⟨_, Try.func48, by kernel_rfl, rfl⟩
theorem lit24_C : LitOk Try.prog 24 kC ([(0, 1), (1, 1)].toArray[·]?) 0 := lit_of info24 (by kernel_rfl) fun m => zero_C m
theorem lit24_I : LitOk Try.prog 24 kI ([(0, 1), (1, 1)].toArray[·]?) (false, []) := lit_of info24 (by kernel_rfl) fun m => zero_I m
theorem z24_C : ZeroOk Try.prog 24 kC 0 := zeroOk_of info24 fun m => zero_C m

end Fw


/- Closed facts on types and functions. -/
set_option linter.unusedVariables false
set_option linter.unusedSimpArgs false
set_option exponentiation.threshold 70
namespace Fw
open Go Go.Proofs

theorem fn64 : FnOk Try.prog 64 := ⟨_, Try.func64, by kernel_rfl, rfl⟩
theorem fn65 : FnOk Try.prog 65 := ⟨_, Try.func65, by kernel_rfl, rfl⟩
theorem fn66 : FnOk Try.prog 66 := ⟨_, Try.func66, by kernel_rfl, rfl⟩
theorem fn67 : FnOk Try.prog 67 := ⟨_, Try.func67, by kernel_rfl, rfl⟩
theorem fn68 : FnOk Try.prog 68 := ⟨_, Try.func68, by kernel_rfl, rfl⟩
theorem fn69 : FnOk Try.prog 69 := ⟨_, Try.func69, by kernel_rfl, rfl⟩

end Fw


/- Closed facts on types and functions. -/
set_option linter.unusedVariables false
set_option linter.unusedSimpArgs false
set_option exponentiation.threshold 70
namespace Fw
open Go Go.Proofs

theorem fn18 : FnOk Try.prog 18 := ⟨_, Try.func18, by kernel_rfl, rfl⟩
theorem fn32 : FnOk Try.prog 32 := ⟨_, Try.func32, by kernel_rfl, rfl⟩
theorem fn34 : FnOk Try.prog 34 := ⟨_, Try.func34, by kernel_rfl, rfl⟩
theorem fn37 : FnOk Try.prog 37 := ⟨_, Try.func37, by kernel_rfl, rfl⟩

end Fw


/- Closed facts on types and functions. -/
set_option linter.unusedVariables false
set_option linter.unusedSimpArgs false
set_option exponentiation.threshold 70
namespace Fw
open Go Go.Proofs

theorem fn11 : FnOk Try.prog 11 := ⟨_, Try.func11, by kernel_rfl, rfl⟩
theorem fn19 : FnOk Try.prog 19 := ⟨_, Try.func19, by kernel_rfl, rfl⟩
theorem fn46 : FnOk Try.prog 46 := ⟨_, Try.func46, by kernel_rfl, rfl⟩

end Fw


/- Closed facts on types and functions. -/
set_option linter.unusedVariables false
set_option linter.unusedSimpArgs false
set_option exponentiation.threshold 400
namespace Fw
open Go Go.Proofs

theorem info26 : (Try.prog.info? 26).map (fun i => (i.zero, i.size, i.bytes)) = some (some (.agg #[.bool false, .slice none 0 0, .bool false, .slice none 0 0, .bool false, .slice none 0 0]), 6, 96) := by kernel_rfl
theorem info28 : (Try.prog.info? 28).map (fun i => (i.zero, i.size, i.bytes)) = some (some (.agg #[.bool false, .slice none 0 0, .bool false, .slice none 0 0, .bool false, .slice none 0 0, .bool false, .slice none 0 0]), 8, 128) := by kernel_rfl
theorem ty26 : TyOk Try.prog 26 true 6 := ⟨_, Try.underlying26, rfl, by kernel_rfl⟩
theorem ty28 : TyOk Try.prog 28 true 8 := ⟨_, Try.underlying28, rfl, by kernel_rfl⟩
theorem fld26_0 : FldOk Try.prog 26 0 0 := fld_of (n := 1) (by kernel_rfl)
theorem fld26_1 : FldOk Try.prog 26 1 2 := fld_of (n := 1) (by kernel_rfl)
theorem fld26_2 : FldOk Try.prog 26 2 4 := fld_of (n := 1) (by kernel_rfl)
theorem fn14 : FnOk Try.prog 14 := ⟨_, Try.func14, by kernel_rfl, rfl⟩
theorem fn15 : FnOk Try.prog 15 := ⟨_, Try.func15, by kernel_rfl, rfl⟩
theorem fn16 : FnOk Try.prog 16 := ⟨_, Try.func16, by kernel_rfl, rfl⟩
theorem fn20 : FnOk Try.prog 20 := ⟨_, Try.func20, by kernel_rfl, rfl⟩
theorem fn30 : FnOk Try.prog 30 := ⟨_, Try.func30, by kernel_rfl, rfl⟩
theorem fn31 : FnOk Try.prog 31 := ⟨_, Try.func31, by kernel_rfl, rfl⟩
theorem fn33 : FnOk Try.prog 33 := ⟨_, Try.func33, by kernel_rfl, rfl⟩
theorem lit26_pr_C_pr_C_C__ : LitOk Try.prog 26 (kPair kC (kPair kC kC)) ([(0, 2), (2, 2), (4, 2)].toArray[·]?) (0, (0, 0)) := lit_of info26 (by kernel_rfl) fun m => ⟨[.bool false, .slice none 0 0], [.bool false, .slice none 0 0, .bool false, .slice none 0 0], rfl, zero_C m, ⟨[.bool false, .slice none 0 0], [.bool false, .slice none 0 0], rfl, zero_C m, zero_C m⟩⟩
theorem lit28_ar4_C : LitOk Try.prog 28 (kArr 4 kC) (fun i => some (i * 2, 2)) (List.replicate 4 0) := litA_of info28 Try.underlying28 info24 fun m => ⟨rfl, ⟨[.bool false, .slice none 0 0], _, rfl, zero_C m, ⟨[.bool false, .slice none 0 0], _, rfl, zero_C m, ⟨[.bool false, .slice none 0 0], _, rfl, zero_C m, ⟨[.bool false, .slice none 0 0], _, rfl, zero_C m, rfl⟩⟩⟩⟩⟩
theorem z26_pr_C_pr_C_C__ : ZeroOk Try.prog 26 (kPair kC (kPair kC kC)) (0, (0, 0)) := zeroOk_of info26 fun m => ⟨[.bool false, .slice none 0 0], [.bool false, .slice none 0 0, .bool false, .slice none 0 0], rfl, zero_C m, ⟨[.bool false, .slice none 0 0], [.bool false, .slice none 0 0], rfl, zero_C m, zero_C m⟩⟩
theorem z28_ar4_C : ZeroOk Try.prog 28 (kArr 4 kC) (List.replicate 4 0) := zeroOk_of info28 fun m => ⟨rfl, ⟨[.bool false, .slice none 0 0], _, rfl, zero_C m, ⟨[.bool false, .slice none 0 0], _, rfl, zero_C m, ⟨[.bool false, .slice none 0 0], _, rfl, zero_C m, ⟨[.bool false, .slice none 0 0], _, rfl, zero_C m, rfl⟩⟩⟩⟩⟩

end Fw


/- Closed facts on types and functions. -/
set_option linter.unusedVariables false
set_option linter.unusedSimpArgs false
set_option exponentiation.threshold 400
namespace Fw
open Go Go.Proofs

theorem info3 : (Try.prog.info? 3).map (fun i => (i.zero, i.size, i.bytes)) = some (some (.int .i64 0), 1, 8) := by kernel_rfl
theorem ty3 : TyOk Try.prog 3 false 1 := ⟨_, Try.underlying3, rfl, by kernel_rfl⟩
theorem ty56 : TyOk Try.prog 56 true 3 := ⟨_, Try.underlying56, rfl, by kernel_rfl⟩
theorem el3_int : ElOk Try.prog 3 kI64 := elOk_of info3 rfl rfl rfl
theorem eqT56 : EqT Try.prog 56 := ⟨_, _, _, Try.underlying56, Try.underlying3, Try.underlying3, Try.underlying3, rfl, rfl, rfl, by decide, by decide, by decide, by kernel_rfl, by kernel_rfl⟩
theorem fld56_0 : FldOk Try.prog 56 0 0 := fld_of (n := 0) (by kernel_rfl)
theorem fld56_1 : FldOk Try.prog 56 1 1 := fld_of (n := 0) (by kernel_rfl)
theorem fld56_2 : FldOk Try.prog 56 2 2 := fld_of (n := 0) (by kernel_rfl)
theorem fn24 : FnOk Try.prog 24 := ⟨_, Try.func24, by kernel_rfl, rfl⟩
theorem fn25 : FnOk Try.prog 25 := ⟨_, Try.func25, by kernel_rfl, rfl⟩
theorem fn26 : FnOk Try.prog 26 := ⟨_, Try.func26, by kernel_rfl, rfl⟩
theorem fn38 : FnOk Try.prog 38 := ⟨_, Try.func38, by kernel_rfl, rfl⟩
theorem fn39 : FnOk Try.prog 39 := ⟨_, Try.func39, by kernel_rfl, rfl⟩
theorem fn40 : FnOk Try.prog 40 := ⟨_, Try.func40, by kernel_rfl, rfl⟩
theorem fn41 : FnOk Try.prog 41 := ⟨_, Try.func41, by kernel_rfl, rfl⟩
theorem fn51 : FnOk Try.prog 51 := ⟨_, Try.func51, by kernel_rfl, rfl⟩
theorem fn54 : FnOk Try.prog 54 := ⟨_, Try.func54, by kernel_rfl, rfl⟩
theorem fn56 : FnOk Try.prog 56 := ⟨_, Try.func56, by kernel_rfl, rfl⟩
theorem fn59 : FnOk Try.prog 59 := ⟨_, Try.func59, by kernel_rfl, rfl⟩
theorem fn74 : FnOk Try.prog 74 := ⟨_, Try.func74, by kernel_rfl, rfl⟩
theorem fn75 : FnOk Try.prog 75 := ⟨_, Try.func75, by kernel_rfl, rfl⟩
theorem fn77 : FnOk Try.prog 77 := ⟨_, Try.func77, by kernel_rfl, rfl⟩
theorem z3_i64 : ZeroOk Try.prog 3 (kInt .i64) 0 := zeroOk_of info3 fun m => rfl

end Fw


/- Closed facts on types and functions. -/
set_option linter.unusedVariables false
set_option linter.unusedSimpArgs false
set_option exponentiation.threshold 400
namespace Fw
open Go Go.Proofs

theorem info56 : (Try.prog.info? 56).map (fun i => (i.zero, i.size, i.bytes)) = some (some (.agg #[.int .i64 0, .int .i64 0, .int .i64 0]), 3, 24) := by kernel_rfl
theorem el26_pr_C_pr_C_C__ : ElOk Try.prog 26 (kPair kC (kPair kC kC)) := elOk_of info26 rfl rfl rfl
theorem el56_pr_int_pr_int_int__ : ElOk Try.prog 56 (kPair kI64 (kPair kI64 kI64)) := elOk_of info56 rfl rfl rfl
theorem fn21 : FnOk Try.prog 21 := ⟨_, Try.func21, by kernel_rfl, rfl⟩
theorem fn22 : FnOk Try.prog 22 := ⟨_, Try.func22, by kernel_rfl, rfl⟩
theorem fn23 : FnOk Try.prog 23 := ⟨_, Try.func23, by kernel_rfl, rfl⟩
theorem lit56_pr_int_pr_int_int__ : LitOk Try.prog 56 (kPair kI64 (kPair kI64 kI64)) ([(0, 1), (1, 1), (2, 1)].toArray[·]?) (0, (0, 0)) := lit_of info56 (by kernel_rfl) fun m => ⟨[.int .i64 0], [.int .i64 0, .int .i64 0], rfl, ⟨rfl, by decide, by decide⟩, ⟨[.int .i64 0], [.int .i64 0], rfl, ⟨rfl, by decide, by decide⟩, ⟨rfl, by decide, by decide⟩⟩⟩
theorem z56_pr_int_pr_int_int__ : ZeroOk Try.prog 56 (kPair kI64 (kPair kI64 kI64)) (0, (0, 0)) := zeroOk_of info56 fun m => ⟨[.int .i64 0], [.int .i64 0, .int .i64 0], rfl, ⟨rfl, by decide, by decide⟩, ⟨[.int .i64 0], [.int .i64 0], rfl, ⟨rfl, by decide, by decide⟩, ⟨rfl, by decide, by decide⟩⟩⟩

end Fw


/- Closed facts on types and functions. -/
set_option linter.unusedVariables false
set_option linter.unusedSimpArgs false
set_option exponentiation.threshold 400
namespace Fw
open Go Go.Proofs

theorem fn63 : FnOk Try.prog 63 := ⟨_, Try.func63, by kernel_rfl, rfl⟩

end Fw


/- Closed facts on types and functions. -/
set_option linter.unusedVariables false
set_option linter.unusedSimpArgs false
set_option exponentiation.threshold 400
namespace Fw
open Go Go.Proofs

theorem ty42 : TyOk Try.prog 42 false 1 := ⟨_, Try.underlying42, rfl, by kernel_rfl⟩
theorem fn76 : FnOk Try.prog 76 := ⟨_, Try.func76, by kernel_rfl, rfl⟩

end Fw


/- Closed facts on types and functions. -/
set_option linter.unusedVariables false
set_option linter.unusedSimpArgs false
set_option exponentiation.threshold 400
namespace Fw
open Go Go.Proofs

theorem el24_C : ElOk Try.prog 24 kC := elOk_of info24 rfl rfl rfl
theorem fn61 : FnOk Try.prog 61 := ⟨_, Try.func61, by kernel_rfl, rfl⟩
theorem fn62 : FnOk Try.prog 62 := ⟨_, Try.func62, by kernel_rfl, rfl⟩

end Fw


/- Closed facts on types and functions. -/
set_option linter.unusedVariables false
set_option linter.unusedSimpArgs false
set_option exponentiation.threshold 400
namespace Fw
open Go Go.Proofs

end Fw


/- Closed facts on types and functions. -/
set_option linter.unusedVariables false
set_option linter.unusedSimpArgs false
set_option exponentiation.threshold 400
namespace Fw
open Go Go.Proofs

end Fw


/- Closed facts on types and functions. -/
set_option linter.unusedVariables false
set_option linter.unusedSimpArgs false
set_option exponentiation.threshold 400
namespace Fw
open Go Go.Proofs

theorem info42 : (Try.prog.info? 42).map (fun i => (i.zero, i.size, i.bytes)) = some (some (.slice none 0 0), 1, 24) := by kernel_rfl
theorem info79 : (Try.prog.info? 79).map (fun i => (i.zero, i.size, i.bytes)) = some (some (.agg #[.slice none 0 0, .slice none 0 0]), 2, 48) := by kernel_rfl
theorem ty45 : TyOk Try.prog 45 false 1 := ⟨_, Try.underlying45, rfl, by kernel_rfl⟩
theorem ty79 : TyOk Try.prog 79 true 2 := ⟨_, Try.underlying79, rfl, by kernel_rfl⟩
theorem el42_sl_C : ElOk Try.prog 42 (kSl kC) := elOk_of info42 rfl rfl rfl
theorem el42_sl_Z : ElOk Try.prog 42 (kSl kZ) := elOk_of info42 rfl rfl rfl
theorem fld79_0 : FldOk Try.prog 79 0 0 := fld_of (n := 0) (by kernel_rfl)
theorem fld79_1 : FldOk Try.prog 79 1 1 := fld_of (n := 0) (by kernel_rfl)
theorem fn42 : FnOk Try.prog 42 := ⟨_, Try.func42, by kernel_rfl, rfl⟩
theorem fn43 : FnOk Try.prog 43 := ⟨_, Try.func43, by kernel_rfl, rfl⟩
theorem fn60 : FnOk Try.prog 60 := ⟨_, Try.func60, by kernel_rfl, rfl⟩
theorem lit79_pr_sl_C_sl_sl_C_ : LitOk Try.prog 79 (kPair (kSl kC) (kSl (kSl kC))) ([(0, 1), (1, 1)].toArray[·]?) ([], []) := lit_of info79 (by kernel_rfl) fun m => ⟨[.slice none 0 0], [.slice none 0 0], rfl, ⟨none, 0, rfl, by decide, by decide, .inl rfl⟩, ⟨none, 0, rfl, by decide, by decide, .inl rfl⟩⟩
theorem lit79_pr_val_val_ : LitOk Try.prog 79 (kPair kVal kVal) ([(0, 1), (1, 1)].toArray[·]?) ((.slice none 0 0), (.slice none 0 0)) := lit_of info79 (by kernel_rfl) fun m => ⟨[.slice none 0 0], [.slice none 0 0], rfl, ⟨rfl, rfl⟩, ⟨rfl, rfl⟩⟩
theorem z79_pr_sl_C_sl_sl_C_ : ZeroOk Try.prog 79 (kPair (kSl kC) (kSl (kSl kC))) ([], []) := zeroOk_of info79 fun m => ⟨[.slice none 0 0], [.slice none 0 0], rfl, ⟨none, 0, rfl, by decide, by decide, .inl rfl⟩, ⟨none, 0, rfl, by decide, by decide, .inl rfl⟩⟩
theorem z79_pr_val_val_ : ZeroOk Try.prog 79 (kPair kVal kVal) ((.slice none 0 0), (.slice none 0 0)) := zeroOk_of info79 fun m => ⟨[.slice none 0 0], [.slice none 0 0], rfl, ⟨rfl, rfl⟩, ⟨rfl, rfl⟩⟩

end Fw


/- Closed facts on types and functions. -/
set_option linter.unusedVariables false
set_option linter.unusedSimpArgs false
set_option exponentiation.threshold 400
namespace Fw
open Go Go.Proofs

theorem fn12 : FnOk Try.prog 12 := ⟨_, Try.func12, by kernel_rfl, rfl⟩
theorem fn13 : FnOk Try.prog 13 := ⟨_, Try.func13, by kernel_rfl, rfl⟩
theorem fn28 : FnOk Try.prog 28 := ⟨_, Try.func28, by kernel_rfl, rfl⟩
theorem fn29 : FnOk Try.prog 29 := ⟨_, Try.func29, by kernel_rfl, rfl⟩
theorem fn44 : FnOk Try.prog 44 := ⟨_, Try.func44, by kernel_rfl, rfl⟩
theorem fn45 : FnOk Try.prog 45 := ⟨_, Try.func45, by kernel_rfl, rfl⟩
theorem fn7 : FnOk Try.prog 7 := ⟨_, Try.func7, by kernel_rfl, rfl⟩

end Fw


/- Closed facts on types and functions. -/
set_option linter.unusedVariables false
set_option linter.unusedSimpArgs false
set_option exponentiation.threshold 400
namespace Fw
open Go Go.Proofs

end Fw


/- Closed facts on types and functions. -/
set_option linter.unusedVariables false
set_option linter.unusedSimpArgs false
set_option exponentiation.threshold 400
namespace Fw
open Go Go.Proofs

end Fw


/- Closed facts on types and functions. -/
set_option linter.unusedVariables false
set_option linter.unusedSimpArgs false
set_option exponentiation.threshold 400
namespace Fw
open Go Go.Proofs

end Fw


/- Closed facts on types and functions. -/
set_option linter.unusedVariables false
set_option linter.unusedSimpArgs false
set_option exponentiation.threshold 400
namespace Fw
open Go Go.Proofs

end Fw


/- Closed facts on types and functions. -/
set_option linter.unusedVariables false
set_option linter.unusedSimpArgs false
set_option exponentiation.threshold 400
namespace Fw
open Go Go.Proofs

end Fw


/- Closed facts on types and functions. -/
set_option linter.unusedVariables false
set_option linter.unusedSimpArgs false
set_option exponentiation.threshold 400
namespace Fw
open Go Go.Proofs

end Fw


/- Closed facts on types and functions. -/
set_option linter.unusedVariables false
set_option linter.unusedSimpArgs false
set_option exponentiation.threshold 400
namespace Fw
open Go Go.Proofs

end Fw


/- Closed facts on types and functions. -/
set_option linter.unusedVariables false
set_option linter.unusedSimpArgs false
set_option exponentiation.threshold 400
namespace Fw
open Go Go.Proofs

end Fw


/- Closed facts on types and functions. -/
set_option linter.unusedVariables false
set_option linter.unusedSimpArgs false
set_option exponentiation.threshold 400
namespace Fw
open Go Go.Proofs

end Fw


/- Closed facts on types and functions. -/
set_option linter.unusedVariables false
set_option linter.unusedSimpArgs false
set_option exponentiation.threshold 400
namespace Fw
open Go Go.Proofs

end Fw


/- Closed facts on types and functions. -/
set_option linter.unusedVariables false
set_option linter.unusedSimpArgs false
set_option exponentiation.threshold 400
namespace Fw
open Go Go.Proofs

end Fw


/- Closed facts on types and functions. -/
set_option linter.unusedVariables false
set_option linter.unusedSimpArgs false
set_option exponentiation.threshold 400
namespace Fw
open Go Go.Proofs

theorem fn10 : FnOk Try.prog 10 := ⟨_, Try.func10, by kernel_rfl, rfl⟩
theorem fn17 : FnOk Try.prog 17 := ⟨_, Try.func17, by kernel_rfl, rfl⟩
theorem fn4 : FnOk Try.prog 4 := ⟨_, Try.func4, by kernel_rfl, rfl⟩
theorem fn5 : FnOk Try.prog 5 := ⟨_, Try.func5, by kernel_rfl, rfl⟩
theorem fn6 : FnOk Try.prog 6 := ⟨_, Try.func6, by kernel_rfl, rfl⟩
theorem fn8 : FnOk Try.prog 8 := ⟨_, Try.func8, by kernel_rfl, rfl⟩
theorem fn9 : FnOk Try.prog 9 := ⟨_, Try.func9, by kernel_rfl, rfl⟩

end Fw


/- How an argument's reading becomes a datum of the walks' frame; how a contract becomes a row's step. -/
set_option linter.unusedVariables false
set_option linter.unusedSimpArgs false
set_option exponentiation.threshold 70
namespace Fw
open Go Go.Proofs Go.ChangeShapes Go.WideShapes Go.RowKit
open Go.Proofs.Ytjbfmocbophmlaa.Rows (uptoBulk uptoBulkAll)

def snap (w : World) : Mem := fun g => match w.heap[g]? with
  | some (.cells A _ _) => some A.toList
  | _ => none
theorem snap_fits (w : World) : Fits (snap w) w := fun g c h => by
  unfold snap at h
  split at h
  · rename_i A e f hA
    simp only [Option.some.injEq] at h
    subst h
    exact ⟨A, e, f, [], hA, by simp⟩
  · cases h
theorem snap_cell {w : World} {a : Addr} {v : Value} (h : w.cell? a = some v) : a = ⟨a.block, a.off, none⟩ ∧ ∃ c, snap w a.block = some c ∧ c[a.off]? = some v := by
  unfold World.cell? at h
  split at h
  · rename_i A e f hA
    split at h
    · cases h
    · rename_i hs
      refine ⟨?_, A.toList, by simp [snap, hA], by simpa using h⟩
      cases a with
      | mk b o s => cases s <;> simp_all
  · cases h

theorem bulk_one {H : Type} (d : DataW H) : 1 ≤ uptoBulk d := by
  cases d with
  | lit l => cases l <;> simp [uptoBulk]
  | nil => simp [uptoBulk]
  | ptr d => simp [uptoBulk]
  | slice elems spare => simp [uptoBulk]
  | agg parts => simp [uptoBulk]
  | iface t d => simp [uptoBulk]
  | map entries => simp [uptoBulk]
  | held h => simp [uptoBulk]
theorem bulk_mem {H : Type} {d : DataW H} {l : List (DataW H)} (h : d ∈ l) : uptoBulk d ≤ uptoBulkAll l := by
  induction l with
  | nil => cases h
  | cons x r ih =>
    simp only [uptoBulkAll]
    rcases List.mem_cons.1 h with e | e
    · subst e; omega
    · have := ih e; omega
theorem bulk_len {H : Type} (l : List (DataW H)) : l.length ≤ uptoBulkAll l := by
  induction l with
  | nil => simp [uptoBulkAll]
  | cons x r ih => have := bulk_one x; simp only [uptoBulkAll, List.length_cons]; omega

abbrev uptoN : Nat := 1048576
/-- What reads as a value of the type t reads as a datum of the kind k, and Q holds of it. -/
def Rd (P : Program) (t : TypeId) {α : Type} (k : Kd α) (Q : α → Prop) : Prop :=
  ∀ {H : Type} (enc : TypeId × Value → H) (w : World) (fuel : Nat) (cs : List Value) (d : DataW H) (ps : List MemPlace), DataW.trod enc P w 0 (fun _ => true) true fuel t cs = some (d, ps) → uptoBulk d ≤ uptoN → ∃ x, k.at' (snap w) cs x ∧ Q x

section
variable {P : Program} {t e : TypeId}
theorem Rd.mono {α : Type} {k : Kd α} {Q Q' : α → Prop} (h : Rd P t k Q) (hq : ∀ x, Q x → Q' x) : Rd P t k Q' := fun enc w fuel cs d ps hd hb => by
  obtain ⟨x, h1, h2⟩ := h enc w fuel cs d ps hd hb
  exact ⟨x, h1, hq x h2⟩
theorem rd_int {k : IntKind} (hu : P.underlying t = some (.int k)) : Rd P t (kInt k) (fun n => k.has n) := fun enc w fuel cs d ps hd hb => by
  obtain ⟨n, h1, h2, h3⟩ := DataW.trod_int hu hd
  exact ⟨n, h1, by simpa [Lit.wf, IntKind.has] using h3⟩
theorem rd_i64 (hu : P.underlying t = some (.int .i64)) : Rd P t kI64 (fun _ => True) := fun enc w fuel cs d ps hd hb => by
  obtain ⟨n, h1, h2, h3⟩ := DataW.trod_int hu hd
  have : -9223372036854775808 ≤ n ∧ n ≤ 9223372036854775807 := by simpa [Lit.wf, IntKind.min, IntKind.max, IntKind.signed, IntKind.bits] using h3
  exact ⟨n, ⟨h1, this⟩, trivial⟩
theorem rd_limb (hu : P.underlying t = some (.int .u32)) : Rd P t kLimb (fun _ => True) := fun enc w fuel cs d ps hd hb => by
  obtain ⟨n, h1, h2, h3⟩ := DataW.trod_int hu hd
  have : 0 ≤ n ∧ n ≤ 4294967295 := by simpa [Lit.wf, IntKind.min, IntKind.max, IntKind.signed, IntKind.bits] using h3
  refine ⟨n.toNat, ⟨by rw [h1]; congr 2; omega, by omega⟩, trivial⟩
theorem rd_bool (hu : P.underlying t = some .bool) : Rd P t kBool (fun _ => True) := fun enc w fuel cs d ps hd hb => by
  obtain ⟨b, h1, h2⟩ := DataW.trod_bool hu hd
  exact ⟨b, h1, trivial⟩
theorem rd_sl {α : Type} {k : Kd α} {Q : α → Prop} (hu : P.underlying t = some (.slice e)) (hc : P.cellsOf e = k.sz) (h0 : 0 < k.sz) (h : Rd P e k Q) : Rd P t (kSl k) (fun xs => xs.length ≤ uptoN ∧ ∀ x ∈ xs, Q x) := fun enc w fuel cs d ps hd hb => by
  rcases DataW.trod_slice hu hd with ⟨rfl, hx⟩ | ⟨a, len, cap, elems, rest, n, rfl, rfl, hx, _, hl, hm, hlen, hel, _⟩
  · exact ⟨[], ⟨none, 0, rfl, by simp, by simp, .inl rfl⟩, by simp, by simp⟩
  · simp only [Prod.mk.injEq] at hx
    obtain ⟨rfl, _⟩ := hx
    simp only [uptoBulk] at hb
    have hbl := bulk_len (elems.map (·.1))
    simp only [List.length_map] at hbl
    by_cases h00 : len = 0
    · subst h00
      exact ⟨[], ⟨some a, cap, rfl, by simp, by simp, .inl rfl⟩, by simp, by simp⟩
    -- the cells of element i
    have hcell : ∀ i, i < len → ∃ ci, ci.length = k.sz ∧ (∀ j, j < k.sz → w.cell? (a.add (i * k.sz + j)) = ci[j]?) ∧ ∃ x, k.at' (snap w) ci x ∧ Q x := by
      intro i hi
      have h1 := hel i hi
      rw [hc] at h1
      have hlt : i < elems.length := by omega
      rw [List.getElem?_eq_getElem hlt, Option.bind_eq_some_iff] at h1
      obtain ⟨ci, h2, h3⟩ := h1
      obtain ⟨_, h4, h5⟩ := World.cells?_some h2
      obtain ⟨x, h6, h7⟩ := h enc w n ci elems[i].1 elems[i].2 h3 (by
        have := bulk_mem (H := _) (d := elems[i].1) (l := elems.map (·.1)) (List.mem_map.2 ⟨_, List.getElem_mem hlt, rfl⟩)
        omega)
      refine ⟨ci, h4, fun j hj => ?_, x, h6, h7⟩
      rw [← h5 j hj, Addr.add_add]
    obtain ⟨c0, l0, e0, x0, _⟩ := hcell 0 (by omega)
    have hv0 : ∃ v, c0[0]? = some v := ⟨c0[0], List.getElem?_eq_getElem (by omega)⟩
    obtain ⟨v0, hv0⟩ := hv0
    have h00 := e0 0 h0
    rw [hv0] at h00
    have ha : a = ⟨a.block, a.off, none⟩ := by
      have h01 := (snap_cell h00).1
      cases a with
      | mk b o s =>
        cases s with
        | none => rfl
        | some s => simp [Addr.add] at h01
    obtain ⟨c, hc1, _⟩ := (snap_cell h00).2
    rw [ha] at hc1 hcell ⊢
    simp only [Addr.add_lit] at hc1 hcell
    have hget : ∀ o v, w.cell? ⟨a.block, o, none⟩ = some v → c[o]? = some v := by
      intro o v hv
      obtain ⟨_, c', h1, h2⟩ := snap_cell hv
      simp only at h1 h2
      rw [hc1] at h1
      cases h1
      exact h2
    have key : ∀ m, m ≤ len → a.off + m * k.sz ≤ c.length ∧ ∃ xs : List α, xs.length = m ∧ Rows k (snap w) ((c.drop a.off).take (m * k.sz)) xs ∧ ∀ x ∈ xs, Q x := by
      intro m
      induction m with
      | zero =>
        intro _
        obtain ⟨ci, l1, l2, _⟩ := hcell 0 (by omega)
        have := hget _ _ ((l2 0 h0).trans (List.getElem?_eq_getElem (by omega)))
        have := (List.getElem?_eq_some_iff.1 this).1
        exact ⟨by omega, [], rfl, by simp [Rows], by simp⟩
      | succ m ih =>
        intro hm1
        obtain ⟨ih0, xs, ih1, ih2, ih3⟩ := ih (by omega)
        obtain ⟨ci, l1, l2, x, l3, l4⟩ := hcell m (by omega)
        have hci : ∀ j, j < k.sz → c[a.off + (m * k.sz + j)]? = ci[j]? := by
          intro j hj
          have h1 := l2 j hj
          rw [List.getElem?_eq_getElem (show j < ci.length by omega)] at h1 ⊢
          exact hget _ _ h1
        have hlen' : a.off + (m + 1) * k.sz ≤ c.length := by
          have h1 := hci (k.sz - 1) (by omega)
          rw [List.getElem?_eq_getElem (show k.sz - 1 < ci.length by omega)] at h1
          have := (List.getElem?_eq_some_iff.1 h1).1
          rw [Nat.succ_mul]
          omega
        have hseg : (c.drop (a.off + m * k.sz)).take k.sz = ci := by
          apply List.ext_getElem?
          intro j
          by_cases hj : j < k.sz
          · rw [List.getElem?_take_of_lt hj, List.getElem?_drop, ← hci j hj, Nat.add_assoc]
          · rw [List.getElem?_eq_none (by simp; omega), List.getElem?_eq_none (by omega)]
        have hspl : (c.drop a.off).take ((m + 1) * k.sz) = (c.drop a.off).take (m * k.sz) ++ ci := by
          rw [Nat.succ_mul, List.take_add, List.drop_drop, hseg]
        refine ⟨hlen', xs ++ [x], by simp [ih1], by rw [hspl]; exact ih2.append (Rows.one l3), ?_⟩
        intro y hy
        rcases List.mem_append.1 hy with hy | hy
        · exact ih3 y hy
        · simp at hy; subst hy; exact l4
    obtain ⟨k0, xs, k1, k2, k3⟩ := key len (Nat.le_refl _)
    refine ⟨xs, ⟨some ⟨a.block, a.off, none⟩, cap, by rw [k1], by unfold uptoN at hb; omega, by omega, .inr ⟨a.block, a.off, c, _, rfl, hc1, ⟨c.take a.off, (c.drop a.off).drop (len * k.sz), ?_, by simp; omega⟩, k2⟩⟩, by unfold uptoN at hb ⊢; omega, k3⟩
    rw [List.append_assoc, List.take_append_drop, List.take_append_drop]
/-- The fields of a struct, from one on. -/
def RdF (P : Program) (fs : List Field) (off : Nat) {α : Type} (k : Kd α) (Q : α → Prop) : Prop :=
  ∀ {H : Type} (enc : TypeId × Value → H) (w : World) (n : Nat) (cs : List Value) (xs : List (DataW H × List MemPlace)), xs.length = fs.length →
    (∀ (i : Nat) (f : Field), fs[i]? = some f → DataW.trod enc P w 0 (fun _ => true) true n f.type ((cs.drop f.offset).take (P.cellsOf f.type)) = xs[i]?) → uptoBulkAll (xs.map (·.1)) ≤ uptoN → off + k.sz = cs.length → ∃ x, k.at' (snap w) (cs.drop off) x ∧ Q x
theorem rdf_last {α : Type} {k : Kd α} {Q : α → Prop} {f : Field} {off : Nat} (ho : f.offset = off) (hc : P.cellsOf f.type = k.sz) (h : Rd P f.type k Q) : RdF P [f] off k Q := fun enc w n cs xs hl hx hb hlen => by
  match xs, hl with
  | [y], _ =>
    have h1 := hx 0 f rfl
    rw [ho, hc, List.take_of_length_le (by simp; omega)] at h1
    exact h enc w n _ y.1 y.2 h1 (by simp [uptoBulkAll] at hb; omega)
theorem rdf_cons {α β : Type} {k : Kd α} {l : Kd β} {Q : α → Prop} {R : β → Prop} {f : Field} {fs : List Field} {off off' : Nat} (ho : f.offset = off) (hc : P.cellsOf f.type = k.sz) (h : Rd P f.type k Q) (ho' : off + k.sz = off') (hr : RdF P fs off' l R) : RdF P (f :: fs) off (kPair k l) (fun x => Q x.1 ∧ R x.2) := fun enc w n cs xs hl hx hb hlen => by
  match xs, hl with
  | y :: ys, hl =>
    simp only [List.map_cons, uptoBulkAll] at hb
    have hlen' : off + (k.sz + l.sz) = cs.length := hlen
    have h1 := hx 0 f rfl
    rw [ho, hc] at h1
    obtain ⟨x, h2, h3⟩ := h enc w n _ y.1 y.2 h1 (by omega)
    obtain ⟨z, h4, h5⟩ := hr enc w n cs ys (by simpa using hl) (fun i g hg => by simpa using hx (i + 1) g (by simpa using hg)) (by omega) (by omega)
    refine ⟨(x, z), ⟨_, _, ?_, h2, h4⟩, h3, h5⟩
    rw [← ho', ← List.drop_drop, List.take_append_drop]
theorem rd_struct {α : Type} {k : Kd α} {Q : α → Prop} {fs : List Field} (hu : P.underlying t = some (.struct fs.toArray)) (hc : P.cellsOf t = k.sz) (h : RdF P fs 0 k Q) : Rd P t k Q := fun enc w fuel cs d ps hd hb => by
  obtain ⟨xs, n, _, hx, hl, hlen, hf⟩ := DataW.trod_struct hu hd
  simp only [Prod.mk.injEq] at hx
  obtain ⟨rfl, _⟩ := hx
  simp only [uptoBulk] at hb
  have := h enc w n cs xs (by simpa using hlen) (fun i f hi => hf i f (by simpa using hi)) (by omega) (by omega)
  simpa using this
/-- A number that came in. -/
def ZB (z : Int) : Prop := z.natAbs < 4294967296 ^ uptoN
theorem rd_Z (h : Rd P t kI (fun x => True ∧ x.2.length ≤ uptoN ∧ ∀ y ∈ x.2, True)) : Rd P t kZ ZB := fun enc w fuel cs d ps hd hb => by
  obtain ⟨x, h1, _, h2, _⟩ := h enc w fuel cs d ps hd hb
  have hl : Lims x.2 := by
    obtain ⟨a, b, _, _, _, _, _, _, _, h3⟩ := h1
    rcases h3 with h3 | ⟨_, _, _, _, _, _, _, r⟩
    · intro y hy; rw [h3] at hy; cases hy
    · exact rows_lims r
  have hv : (ival x).natAbs = nval x.2 := by
    unfold ival; split <;> simp
  refine ⟨ival x, ⟨x, h1, rfl, by unfold uptoN at h2; omega⟩, ?_⟩
  unfold ZB
  rw [hv]
  exact Nat.lt_of_lt_of_le (nval_lt hl) (Nat.pow_le_pow_right (by omega) h2)

/-! ### Values -/
theorem arg_sl {α : Type} {k : Kd α} {Q : List α → Prop} (hu : P.underlying t = some (.slice e)) (h : Rd P t (kSl k) Q) {H : Type} {enc : TypeId × Value → H} {w : World} {base : Nat} {v : Value} {d : DataW H} {ps : List MemPlace} (hval : Value.okWide P w .any base t v) (hd : DataW.Trod enc P w 0 (fun _ => true) true t v d ps) (hb : uptoBulk d ≤ uptoN) : ∃ x, ((kSl k).is x).p (snap w) v ∧ Q x := by
  obtain ⟨fuel, hd⟩ := hd
  obtain ⟨x, h1, h2⟩ := h enc w fuel _ d ps hd hb
  refine ⟨x, ⟨_, ?_, h1⟩, h2⟩
  obtain ⟨a, cap, h3, _⟩ := h1
  cases v with
  | slice a n c => rfl
  | agg cs => simp [Value.okWide, hu, Cell.okWide, Cell.ok] at hval
  | _ => simp [Value.cells] at h3
theorem arg_int {k : IntKind} (hu : P.underlying t = some (.int k)) {H : Type} {enc : TypeId × Value → H} {w : World} {base : Nat} {v : Value} {d : DataW H} {ps : List MemPlace} (hval : Value.okWide P w .any base t v) (hd : DataW.Trod enc P w 0 (fun _ => true) true t v d ps) : ∃ x, ((kInt k).is x).p (snap w) v ∧ (Lit.int k x).wf = true := by
  obtain ⟨n, rfl, _, _, hw⟩ := open_int hu hval hd
  exact ⟨n, ⟨_, rfl, rfl⟩, hw⟩
theorem arg_i64 (hu : P.underlying t = some (.int .i64)) {H : Type} {enc : TypeId × Value → H} {w : World} {base : Nat} {v : Value} {d : DataW H} {ps : List MemPlace} (hval : Value.okWide P w .any base t v) (hd : DataW.Trod enc P w 0 (fun _ => true) true t v d ps) : ∃ x, (kI64.is x).p (snap w) v ∧ True := by
  obtain ⟨n, rfl, _, _, hw⟩ := open_int hu hval hd
  have : -9223372036854775808 ≤ n ∧ n ≤ 9223372036854775807 := by simpa [Lit.wf, IntKind.min, IntKind.max, IntKind.signed, IntKind.bits] using hw
  exact ⟨n, ⟨_, rfl, rfl, this⟩, trivial⟩
theorem arg_agg {α : Type} {k : Kd α} {Q : α → Prop} {fs : Array Field} (hu : P.underlying t = some (.struct fs)) (hk : k.agg = true) (h : Rd P t k Q) {H : Type} {enc : TypeId × Value → H} {w : World} {base : Nat} {v : Value} {d : DataW H} {ps : List MemPlace} (hval : Value.okWide P w .any base t v) (hd : DataW.Trod enc P w 0 (fun _ => true) true t v d ps) (hb : uptoBulk d ≤ uptoN) : ∃ x, (k.is x).p (snap w) v ∧ Q x := by
  obtain ⟨fuel, hd⟩ := hd
  obtain ⟨x, h1, h2⟩ := h enc w fuel _ d ps hd hb
  refine ⟨x, ⟨_, ?_, h1⟩, h2⟩
  simp only [Value.okWide, hu] at hval
  obtain ⟨cs, rfl, _⟩ := hval
  simp [Kd.val, hk, Value.cells]
theorem arg_arr {α : Type} {k : Kd α} {Q : α → Prop} {n : Nat} (hu : P.underlying t = some (.array n e)) (hk : k.agg = true) (h : Rd P t k Q) {H : Type} {enc : TypeId × Value → H} {w : World} {base : Nat} {v : Value} {d : DataW H} {ps : List MemPlace} (hval : Value.okWide P w .any base t v) (hd : DataW.Trod enc P w 0 (fun _ => true) true t v d ps) (hb : uptoBulk d ≤ uptoN) : ∃ x, (k.is x).p (snap w) v ∧ Q x := by
  obtain ⟨fuel, hd⟩ := hd
  obtain ⟨x, h1, h2⟩ := h enc w fuel _ d ps hd hb
  refine ⟨x, ⟨_, ?_, h1⟩, h2⟩
  simp only [Value.okWide, hu] at hval
  obtain ⟨cs, rfl, _⟩ := hval
  simp [Kd.val, hk, Value.cells]

/-! ### Behind the call -/
theorem below_all {H : Type} {enc : TypeId × Value → H} (hl : laidOutB P = true) {W W' : World} (hb : Below W.heap.size W W') : ∀ {ts : List TypeId} {vs : List Value} {ds : List (DataW H)} {ps : List MemPlace}, ts.all (fun t => P.readableRec t && decide (t < P.types.size)) = true → DataW.TrodAll enc P W 0 (fun _ => true) true ts vs ds ps → (∀ x ∈ ps, x.block < W.heap.size) → DataW.TrodAll enc P W' 0 (fun b => decide (b < W.heap.size)) true ts vs ds ps
  | [], [], [], _, _, h, _ => h
  | t :: ts, v :: vs, d :: ds, _, hr, ⟨p, q, h1, h2, rfl⟩, hlt => by
    simp only [List.all_cons, Bool.and_eq_true, decide_eq_true_eq] at hr
    exact ⟨p, q, Below.trod hl hr.1.1 hr.1.2 h1 hb (fun x hx => hlt x (List.mem_append.2 (.inl hx))), below_all hl hb (by simpa using hr.2) h2 (fun x hx => hlt x (List.mem_append.2 (.inr hx))), rfl⟩
/-- What a contract with plain arguments gives of the call. -/
theorem Fn.calls {f : FuncId} {pre : List VP} {b : Bool} (h : Fn P f pre (kBool.is b)) {W : World} {vs : List Value} (ha : Args (snap W) vs pre) : Calls P f vs.toArray W fun e W' => e = .returned (.bool b) ∧ Below W.heap.size W W' := by
  refine (h (snap W) W vs (snap_fits W) ha ⟨fun b hb => (by cases hb), List.Pairwise.nil⟩).mono ?_
  rintro e w' ⟨m', v, p, Lo, rfl, s, hp, rfl, rfl⟩
  obtain ⟨cs, rfl, rfl⟩ := hp
  exact ⟨rfl, s.grow.below⟩
end
theorem ZB_gen {z : Int} {k : Nat} (h : z.natAbs < 4294967296 ^ k) : z.natAbs < 2 ^ (32 * k) := by
  rw [show (4294967296 : Nat) = 2 ^ 32 from rfl, ← Nat.pow_mul] at h
  exact h
theorem ZB_lt {z : Int} (h : ZB z) : ∃ n, n ≤ 33554432 ∧ z.natAbs < 2 ^ n := ⟨32 * uptoN, by unfold uptoN; omega, ZB_gen h⟩
end Fw

/- Plain facts on limbs: what the functions of layer 1 rest on. -/
set_option linter.unusedVariables false
set_option linter.unusedSimpArgs false
set_option exponentiation.threshold 70
namespace Fw

/-- below, the same, above -/
def cmpI (x y : Nat) : Int := if x < y then -1 else if y < x then 1 else 0
theorem take_take1 {l : List Nat} {i : Nat} (hi : i ≤ l.length) : (l.take i).take (i - 1) = l.take (i - 1) := by
  rw [List.take_take, Nat.min_eq_left (by omega)]
theorem take_succ' {l : List Nat} {i : Nat} (hi : i < l.length) : l.take (i + 1) = l.take i ++ [l.getD i 0] := by
  rw [List.take_add_one, List.getElem?_eq_getElem hi]
  simp [List.getElem?_eq_getElem hi]
theorem take_pred {l : List Nat} {i : Nat} (hi : i ≤ l.length) (h0 : 0 < i) : l.take i = l.take (i - 1) ++ [l.getD (i - 1) 0] := by
  obtain ⟨j, rfl⟩ : ∃ j, i = j + 1 := ⟨i - 1, by omega⟩
  exact take_succ' (by omega)
theorem getD_take {l : List Nat} {i j : Nat} (h : j < i) : (l.take i).getD j 0 = l.getD j 0 := by
  simp [List.getElem?_take, h]
theorem getD_lt {l : List Nat} (hl : Lims l) (i : Nat) : l.getD i 0 < 4294967296 := by
  rw [List.getD_eq_getElem?_getD]
  cases h : l[i]? with
  | none => simp
  | some x => exact hl x (List.mem_of_getElem? h)
theorem Lims.take {l : List Nat} (h : Lims l) (i : Nat) : Lims (l.take i) := fun x hx => h x (List.mem_of_mem_take hx)
theorem Lims.drop {l : List Nat} (h : Lims l) (i : Nat) : Lims (l.drop i) := fun x hx => h x (List.mem_of_mem_drop hx)
theorem trim_down {l : List Nat} {i : Nat} (hi : i ≤ l.length) (h0 : 0 < i) (h : ((l.take i).getD (i - 1) 0 : Int) = 0) : nval (l.take (i - 1)) = nval (l.take i) := by
  rw [getD_take (by omega)] at h
  rw [take_pred hi h0, nval_append, nval, nval, show l.getD (i - 1) 0 = 0 from by omega]
  simp
theorem trim_stop {l : List Nat} {i : Nat} (hl : Lims l) (hi : i ≤ l.length) (h0 : 0 < i) (h : ¬ ((l.take i).getD (i - 1) 0 : Int) = 0) (hr : nval (l.take i) = nval l) : l.take i = limbs (nval l) := by
  rw [getD_take (by omega)] at h
  rw [← hr]
  exact (limbs_nval (hl.take i) (.inr ⟨_, _, take_pred hi h0, by omega⟩)).symm
theorem trim_stop0 {l : List Nat} {i : Nat} (hr : nval (l.take i) = nval l) (h0 : i = 0) : l.take i = limbs (nval l) := by
  subst h0
  rw [← hr]
  simp [nval, limbs_zero]
/-! ### Comparing -/
theorem limbs_last {n : Nat} (h : n ≠ 0) : 4294967296 ^ ((limbs n).length - 1) ≤ n := by
  induction n using Nat.strongRecOn with
  | _ n ih =>
    rw [limbs_pos h]
    simp only [List.length_cons, Nat.add_sub_cancel]
    by_cases h1 : n / 4294967296 = 0
    · rw [h1, limbs_zero]; simp; omega
    · have := ih (n / 4294967296) (by omega) h1
      have hl : (limbs (n / 4294967296)).length = (limbs (n / 4294967296)).length - 1 + 1 := by
        rw [limbs_pos h1]; simp
      rw [hl, Nat.pow_succ]
      have := Nat.mul_le_mul_right 4294967296 this
      omega
theorem lt_limbs (n : Nat) : n < 4294967296 ^ (limbs n).length := by
  have := nval_lt (limbs_lims n)
  rwa [nval_limbs] at this
theorem limbs_mono {a b : Nat} (h : a ≤ b) : (limbs a).length ≤ (limbs b).length := limbs_len_lt (Nat.lt_of_le_of_lt h (lt_limbs b))
theorem cmp_len_lt {a b : Nat} (h : (limbs a).length < (limbs b).length) : (-1) = cmpI a b := by
  have : a < b := by
    rcases Nat.lt_or_ge a b with h1 | h1
    · exact h1
    · have := limbs_mono h1; omega
  simp [cmpI, this]
theorem cmp_len_gt {a b : Nat} (h : (limbs b).length < (limbs a).length) : 1 = cmpI a b := by
  have : b < a := by
    rcases Nat.lt_or_ge b a with h1 | h1
    · exact h1
    · have := limbs_mono h1; omega
  simp [cmpI, this, Nat.lt_asymm this]
theorem cmp_drop {a b : List Nat} (h : a.length = b.length) : a.drop a.length = b.drop a.length := by
  rw [List.drop_length, h, List.drop_length]
theorem split_at {l : List Nat} {i : Nat} (hi : i ≤ l.length) (h0 : 0 < i) : nval l = nval (l.take (i - 1)) + 4294967296 ^ (i - 1) * (l.getD (i - 1) 0 + 4294967296 * nval (l.drop i)) := by
  conv => lhs; rw [← List.take_append_drop (i - 1) l, nval_append]
  rw [List.length_take, Nat.min_eq_left (by omega), List.drop_eq_getElem_cons (by omega), nval]
  have e : l.getD (i - 1) 0 = l[i - 1] := by
    rw [List.getD_eq_getElem?_getD, List.getElem?_eq_getElem (by omega)]; rfl
  rw [e, show i - 1 + 1 = i from by omega]
theorem cmp_lt_core {a b : List Nat} {i : Nat} (hi : i ≤ a.length) (hl : a.length = b.length) (h0 : 0 < i) (hd : a.drop i = b.drop i) (la : Lims a) (h : a.getD (i - 1) 0 < b.getD (i - 1) 0) : nval a < nval b := by
  rw [split_at hi h0, split_at (l := b) (by omega) h0, hd]
  have h1 := nval_lt (la.take (i - 1))
  rw [List.length_take, Nat.min_eq_left (by omega)] at h1
  have h2 : 4294967296 ^ (i - 1) * (a.getD (i - 1) 0 + 4294967296 * nval (b.drop i) + 1) ≤ 4294967296 ^ (i - 1) * (b.getD (i - 1) 0 + 4294967296 * nval (b.drop i)) := Nat.mul_le_mul_left _ (by omega)
  rw [Nat.mul_add, Nat.mul_one] at h2
  omega
theorem cmp_at_lt {a b i : Nat} (hi : i ≤ (limbs a).length) (hl : (limbs a).length = (limbs b).length) (hd : (limbs a).drop i = (limbs b).drop i) (h : 0 < i ∧ (limbs a).getD (i - 1) 0 < (limbs b).getD (i - 1) 0) : (-1) = cmpI a b := by
  have := cmp_lt_core hi hl h.1 hd (limbs_lims a) h.2
  rw [nval_limbs, nval_limbs] at this
  simp [cmpI, this]
theorem cmp_at_gt {a b i : Nat} (hi : i ≤ (limbs a).length) (hl : (limbs a).length = (limbs b).length) (hd : (limbs a).drop i = (limbs b).drop i) (h0 : 0 < i) (h : (limbs b).getD (i - 1) 0 < (limbs a).getD (i - 1) 0) : 1 = cmpI a b := by
  have := cmp_lt_core (a := limbs b) (b := limbs a) (by omega) hl.symm h0 hd.symm (limbs_lims b) h
  rw [nval_limbs, nval_limbs] at this
  simp [cmpI, this, Nat.lt_asymm this]
theorem cmp_at_eq {a b i : Nat} (h0 : i = 0) (hd : (limbs a).drop i = (limbs b).drop i) : 0 = cmpI a b := by
  subst h0
  simp only [List.drop_zero] at hd
  have := congrArg nval hd
  rw [nval_limbs, nval_limbs] at this
  simp [cmpI, this]
theorem cmp_down {a b : List Nat} {i : Nat} (hl : a.length = b.length) (hi : i ≤ a.length) (h0 : 0 < i) (hd : a.drop i = b.drop i) (h : a.getD (i - 1) 0 = b.getD (i - 1) 0) : a.drop (i - 1) = b.drop (i - 1) := by
  have e : ∀ l : List Nat, i ≤ l.length → l.drop (i - 1) = l.getD (i - 1) 0 :: l.drop i := by
    intro l hl
    rw [List.drop_eq_getElem_cons (by omega), List.getD_eq_getElem?_getD, List.getElem?_eq_getElem (by omega), show i - 1 + 1 = i from by omega]
    rfl
  rw [e a hi, e b (by omega), hd, h]

/-! ### Machine words -/
open Go (IntKind)
theorem wr32 {n : Int} {s : Nat} (h : n = s) : IntKind.u32.wrap n = ((s % 4294967296 : Nat) : Int) := by
  subst h; simp [IntKind.wrap, IntKind.signed, IntKind.bits]
theorem wr64 {n : Int} {s : Nat} (h : n = s) : IntKind.u64.wrap n = ((s % 18446744073709551616 : Nat) : Int) := by
  subst h; simp [IntKind.wrap, IntKind.signed, IntKind.bits]
theorem wrs32 {n : Int} {s : Nat} (h : n = s ∧ s < 4294967296) : IntKind.u32.wrap n = (s : Int) := by
  rw [wr32 h.1, Nat.mod_eq_of_lt h.2]
theorem wr8 {n : Int} {s : Nat} (h : n = s ∧ s < 256) : IntKind.u8.wrap n = (s : Int) := by
  obtain ⟨rfl, h⟩ := h
  simp [IntKind.wrap, IntKind.signed, IntKind.bits]; omega
theorem shrN (j : Nat) {n b : Int} {s w : Nat} (h : n = s) (hb : b = j) (hj : j ≤ w) : n.fdiv (2 ^ (min b.toNat w)) = ((s / 2 ^ j : Nat) : Int) := by
  subst h hb
  rw [Int.toNat_natCast, Nat.min_eq_left hj, Int.fdiv_eq_ediv_of_nonneg _ (by have := Int.pow_nonneg (n := 2) (m := j) (by omega : (0 : Int) ≤ 2); exact this)]
  norm_cast
theorem shlN (j : Nat) {n b : Int} {s : Nat} (h : n = s) (hb : b = j) (hj : j ≤ 64) (hs : s * 2 ^ j < 18446744073709551616) : IntKind.u64.wrap (n * 2 ^ (min b.toNat IntKind.u64.bits)) = ((s * 2 ^ j : Nat) : Int) := by
  subst h hb
  show IntKind.u64.wrap (_ * 2 ^ (min _ 64)) = _
  rw [Int.toNat_natCast, Nat.min_eq_left hj, wr64 (s := s * 2 ^ j) (by norm_cast), Nat.mod_eq_of_lt hs]
theorem orN (j : Nat) {a b : Int} {s t : Nat} (ha : a = ((s * 2 ^ j : Nat) : Int)) (hb : b = t) (ht : t < 2 ^ j) (hs : s * 2 ^ j + t < 18446744073709551616) : IntKind.u64.wrap ((BitVec.ofInt IntKind.u64.bits a ||| BitVec.ofInt IntKind.u64.bits b).toNat) = ((s * 2 ^ j + t : Nat) : Int) := by
  subst ha hb
  have h1 : (BitVec.ofInt IntKind.u64.bits ((s * 2 ^ j : Nat) : Int)).toNat = s * 2 ^ j := by
    rw [BitVec.ofInt_natCast, BitVec.toNat_ofNat]
    exact Nat.mod_eq_of_lt (Nat.lt_of_le_of_lt (Nat.le_add_right _ t) hs)
  have h2 : (BitVec.ofInt IntKind.u64.bits (t : Int)).toNat = t := by
    rw [BitVec.ofInt_natCast, BitVec.toNat_ofNat]
    exact Nat.mod_eq_of_lt (Nat.lt_of_le_of_lt (Nat.le_add_left t _) hs)
  rw [BitVec.toNat_or, h1, h2, Nat.mul_comm s, ← Nat.two_pow_add_eq_or_of_lt ht, Nat.mul_comm, wr64 rfl, Nat.mod_eq_of_lt hs]
/-! ### How many binary digits -/
def bitlen (n : Nat) : Nat := if n = 0 then 0 else n.log2 + 1
theorem bitlen_eq {n k : Nat} (h1 : 2 ^ k ≤ n) (h2 : n < 2 ^ (k + 1)) : bitlen n = k + 1 := by
  have h0 : n ≠ 0 := by
    intro h; subst h
    have := Nat.two_pow_pos k; omega
  have h3 : n.log2 < k + 1 := (Nat.log2_lt h0).2 h2
  have h4 : ¬ n.log2 < k := fun h => by
    have := (Nat.log2_lt h0).1 h; omega
  simp [bitlen, h0]; omega
theorem bitlen_spec {n : Nat} (h : n ≠ 0) : ∃ k, bitlen n = k + 1 ∧ 2 ^ k ≤ n ∧ n < 2 ^ (k + 1) :=
  ⟨n.log2, by simp [bitlen, h], Nat.log2_self_le h, Nat.lt_log2_self⟩
theorem bitlen_shift {n : Nat} (j : Nat) (h : 2 ^ j ≤ n) : bitlen n = j + bitlen (n / 2 ^ j) := by
  have hp := Nat.two_pow_pos j
  have h0 : n / 2 ^ j ≠ 0 := by
    have := Nat.div_pos h hp; omega
  obtain ⟨k, h1, h2, h3⟩ := bitlen_spec h0
  rw [h1]
  have h4 : 2 ^ (j + k) ≤ n := by
    rw [Nat.pow_add, Nat.mul_comm]
    exact (Nat.le_div_iff_mul_le hp).1 h2
  have h5 : n < 2 ^ (j + k + 1) := by
    rw [Nat.add_assoc, Nat.pow_add, Nat.mul_comm]
    exact (Nat.div_lt_iff_lt_mul hp).1 h3
  rw [bitlen_eq h4 h5]; omega
theorem bitlen_le {n k : Nat} (h : n < 2 ^ k) : bitlen n ≤ k := by
  by_cases h0 : n = 0
  · subst h0; simp [bitlen]
  · have := (Nat.log2_lt h0).2 h
    simp [bitlen, h0]; omega
theorem lt_bitlen (n : Nat) : n < 2 ^ bitlen n := by
  by_cases h0 : n = 0
  · subst h0; simp [bitlen]
  · simp [bitlen, h0]; exact Nat.lt_log2_self
theorem len8 : ([0, 1, 2, 2, 3, 3, 3, 3, 4, 4, 4, 4, 4, 4, 4, 4] ++ List.replicate 16 5 ++ List.replicate 32 6 ++ List.replicate 64 7 ++ List.replicate 128 8 : List Nat) = (List.range 256).map bitlen := by decide +kernel
theorem bits_limbs {n : Nat} (h : n ≠ 0) : bitlen n = 32 * ((limbs n).length - 1) + bitlen ((limbs n).getD ((limbs n).length - 1) 0) := by
  have h1 : 0 < (limbs n).length := by rw [limbs_pos h]; simp
  have h2 := split_at (l := limbs n) (Nat.le_refl _) h1
  rw [List.drop_length, nval_limbs, nval, Nat.mul_zero, Nat.add_zero] at h2
  have h3 := nval_lt ((limbs_lims n).take ((limbs n).length - 1))
  rw [List.length_take, Nat.min_eq_left (by omega)] at h3
  have h4 := limbs_last h
  have e : (4294967296 : Nat) ^ ((limbs n).length - 1) = 2 ^ (32 * ((limbs n).length - 1)) := by
    rw [show (4294967296 : Nat) = 2 ^ 32 from rfl, ← Nat.pow_mul]
  rw [e] at h2 h3 h4
  rw [bitlen_shift _ h4]
  congr 2
  have hp := Nat.two_pow_pos (32 * ((limbs n).length - 1))
  generalize (limbs n).length - 1 = q at h2 h3 hp ⊢
  generalize nval ((limbs n).take q) = u at h2 h3
  generalize (limbs n).getD q 0 = v at h2 ⊢
  rw [h2, Nat.add_mul_div_left _ _ hp, Nat.div_eq_of_lt h3, Nat.zero_add]
/-! ### Digits laid one by one -/
def fil (n : Nat) (r : List Nat) : List Nat := r ++ List.replicate (n - r.length) 0
theorem fil_nil (n : Nat) : List.replicate n 0 = fil n [] := by simp [fil]
theorem fil_len {n : Nat} {r : List Nat} (h : r.length ≤ n) : (fil n r).length = n := by simp [fil]; omega
theorem fil_set {n : Nat} {r : List Nat} {d : Nat} (h : r.length < n) : (fil n r).set r.length d = fil n (r ++ [d]) := by
  obtain ⟨k, hk⟩ : ∃ k, n - r.length = k + 1 := ⟨n - r.length - 1, by omega⟩
  have h2 : n - (r ++ [d]).length = k := by simp; omega
  simp only [fil, hk, h2, List.replicate_succ, List.append_assoc]
  rw [List.set_append_right _ _ (by omega)]
  simp
theorem fil_full {n : Nat} {r : List Nat} (h : r.length = n) : fil n r = r := by simp [fil, h]
theorem fil_set_end {n : Nat} {r : List Nat} {d : Nat} (h : n = r.length + 1) : (fil n r).set r.length d = r ++ [d] := by
  rw [fil_set (by omega), fil_full (by simp [h])]
theorem nval_concat (r : List Nat) (d : Nat) : nval (r ++ [d]) = nval r + 4294967296 ^ r.length * d := by
  rw [nval_append]; simp [nval]
theorem Lims.concat {r : List Nat} {d : Nat} (h : Lims r) (hd : d < 4294967296) : Lims (r ++ [d]) := fun x hx => by
  rcases List.mem_append.1 hx with hx | hx
  · exact h x hx
  · simp at hx; omega
theorem nval_take_succ (l : List Nat) (i : Nat) : nval (l.take (i + 1)) = nval (l.take i) + 4294967296 ^ i * l.getD i 0 := by
  by_cases h : i < l.length
  · rw [take_succ' h, nval_concat, List.length_take, Nat.min_eq_left (by omega)]
  · rw [List.take_of_length_le (by omega), List.take_of_length_le (by omega), List.getD_eq_getElem?_getD, List.getElem?_eq_none (by omega)]
    simp
theorem getD_out {l : List Nat} {i : Nat} (h : l.length ≤ i) : l.getD i 0 = 0 := by
  rw [List.getD_eq_getElem?_getD, List.getElem?_eq_none h]; rfl
def AddR (x y r : List Nat) (c : Nat) : Prop := Lims r ∧ c ≤ 1 ∧ nval r + 4294967296 ^ r.length * c = nval (x.take r.length) + nval (y.take r.length)
theorem addR_0 (x y : List Nat) : AddR x y [] 0 := ⟨fun x h => (by cases h), by omega, by simp [nval]⟩
theorem addR_s {x y r : List Nat} {c : Nat} (hx : Lims x) (hy : Lims y) (h : AddR x y r c) : AddR x y (r ++ [(c + x.getD r.length 0 + y.getD r.length 0) % 4294967296]) ((c + x.getD r.length 0 + y.getD r.length 0) / 4294967296) := by
  obtain ⟨h1, h2, h3⟩ := h
  have a1 := getD_lt hx r.length
  have a2 := getD_lt hy r.length
  refine ⟨h1.concat (by omega), by omega, ?_⟩
  rw [List.length_append, List.length_singleton, nval_take_succ, nval_take_succ, nval_concat]
  generalize hs : c + x.getD r.length 0 + y.getD r.length 0 = s
  rw [Nat.pow_succ, Nat.mul_assoc, Nat.add_assoc, ← Nat.mul_add, Nat.add_comm (s % 4294967296), Nat.div_add_mod, ← hs, Nat.mul_add, Nat.mul_add]
  omega
theorem addR_end {x y r : List Nat} {c : Nat} (h : AddR x y r c) (hr : r.length = x.length) (hy : y.length ≤ x.length) : nval (r ++ [c]) = nval x + nval y := by
  obtain ⟨h1, h2, h3⟩ := h
  rw [nval_concat, h3, hr, List.take_length, List.take_of_length_le hy]
/-- the difference, limb by limb -/
def LessR (x y r : List Nat) (c : Nat) : Prop := Lims r ∧ c ≤ 1 ∧ nval r + nval (y.take r.length) = nval (x.take r.length) + 4294967296 ^ r.length * c
def lessV (c x y : Nat) : Nat := if x < c + y then x + 18446744073709551616 - c - y else x - c - y
theorem lessR_0 (x y : List Nat) : LessR x y [] 0 := ⟨fun x h => (by cases h), by omega, by simp [nval]⟩
theorem lessR_s {x y r : List Nat} {c : Nat} (hx : Lims x) (hy : Lims y) (h : LessR x y r c) : LessR x y (r ++ [lessV c (x.getD r.length 0) (y.getD r.length 0) % 4294967296]) (lessV c (x.getD r.length 0) (y.getD r.length 0) / 2 ^ 63) := by
  obtain ⟨h1, h2, h3⟩ := h
  have a1 := getD_lt hx r.length
  have a2 := getD_lt hy r.length
  have hv : lessV c (x.getD r.length 0) (y.getD r.length 0) % 4294967296 + (c + y.getD r.length 0) = x.getD r.length 0 + 4294967296 * (lessV c (x.getD r.length 0) (y.getD r.length 0) / 2 ^ 63) ∧ lessV c (x.getD r.length 0) (y.getD r.length 0) / 2 ^ 63 ≤ 1 := by
    unfold lessV; split <;> omega
  generalize lessV c (x.getD r.length 0) (y.getD r.length 0) = v at hv ⊢
  obtain ⟨hv, hv1⟩ := hv
  refine ⟨h1.concat (by omega), hv1, ?_⟩
  rw [List.length_append, List.length_singleton, nval_take_succ, nval_take_succ, nval_concat, Nat.pow_succ, Nat.mul_assoc]
  have := congrArg (4294967296 ^ r.length * ·) hv
  simp only [Nat.mul_add] at this
  omega
theorem lessR_end {x y r : List Nat} {c : Nat} (h : LessR x y r c) (hr : r.length = x.length) (hy : y.length ≤ x.length) (hle : nval y ≤ nval x) : nval r = nval x - nval y := by
  obtain ⟨h1, h2, h3⟩ := h
  have h4 := nval_lt h1
  rw [hr, List.take_length, List.take_of_length_le hy] at h3
  rw [hr] at h4
  have : c = 0 := by
    rcases Nat.lt_or_ge c 1 with h | h
    · omega
    · have hc : c = 1 := by omega
      subst hc
      omega
  subst this
  omega
theorem less_sub1 {c x : Nat} (hc : c ≤ 1) (hx : x < 4294967296) : IntKind.u64.wrap ((x : Int) - (c : Int)) = ((lessV c x 0 : Nat) : Int) := by
  unfold lessV
  simp [IntKind.wrap, IntKind.signed, IntKind.bits]
  split <;> omega
theorem less_sub2 {c x y : Nat} (hc : c ≤ 1) (hx : x < 4294967296) (hy : y < 4294967296) : IntKind.u64.wrap (((lessV c x 0 : Nat) : Int) - (y : Int)) = ((lessV c x y : Nat) : Int) := by
  unfold lessV
  simp [IntKind.wrap, IntKind.signed, IntKind.bits]
  split <;> split <;> omega
theorem bitlen0 {n : Nat} (h : (limbs n).length = 0) : bitlen n = 0 := by
  by_cases h0 : n = 0
  · subst h0; rfl
  · rw [limbs_pos h0] at h; simp at h
theorem cmpI_lt {a b : Nat} (h : cmpI a b < 0) : a < b := by
  unfold cmpI at h; split at h
  · assumption
  · split at h <;> omega
theorem cmpI_ge {a b : Nat} (h : ¬ cmpI a b < 0) : b ≤ a := by
  unfold cmpI at h; split at h
  · omega
  · omega
end Fw


/- What the functions of layer 1 answer: trim, Norm, Cmp. -/
set_option linter.unusedVariables false
set_option linter.unusedSimpArgs false
set_option exponentiation.threshold 70
namespace Fw
open Go Go.Proofs

set_option maxRecDepth 20000 in
set_option maxHeartbeats 1000000 in
theorem c_nat_trim (l : List Nat) : Fn Try.prog 49 [kN.is l] (kN.is (limbs (nval l))) := by
  refine Con.enter Try.func49 rfl rfl fun m w => ?_
  refine ST.fact (i := 0) rfl sl_len fun hB => ?_
  refine ST.fact (i := 0) rfl kN_lims fun hL => ?_
  refine CW.seq ?_
  refine CW.region ?_
  refine WP.s .n (O.asg rfl) ?_
  refine WP.nil ?_
  refine QE.next ?_
  refine CW.seq ?_
  refine CW.block ?_
  refine ST.told 0 rfl (is_eq (y := (l.take l.length)) (by rw [List.take_length])) ?_
  refine CW.loop (fun (i : Nat) => i ≤ l.length ∧ nval (l.take i) = nval l) (fun (i : Nat) => [(0, kN.is (l.take i))]) (fun (i : Nat) => []) (fun (i : Nat) => i) l.length ⟨Nat.le_refl _, by rw [List.take_length]⟩ (Imp.cons rfl Imp.nil) (OImp.refl _) ?_
  intro i ⟨hi, hr⟩
  have hlen : (l.take i).length = i := by simp; omega
  refine CW.seq ?_
  refine CW.seq ?_
  refine CW.region ?_
  refine WP.s .n (O.mv rfl) ?_
  refine WP.s .n (O.lenS rfl Try.underlying22) ?_
  refine WP.s .n (O.gt rfl rfl) ?_
  refine WP.s .n (O.mv rfl) ?_
  refine WP.splitD 6 rfl (fun h_t6 => ?_) (fun h_t6 => ?_)
  · have h_t6' : 0 < i := by omega
    refine WP.s (.g rfl rfl) (O.mv rfl) ?_
    refine WP.s (.g rfl rfl) (O.mv rfl) ?_
    refine WP.s (.g rfl rfl) (O.lenS rfl Try.underlying22) ?_
    refine WP.s (.g rfl rfl) (O.sub rfl rfl (c := (((l.take i).length : Int) - 1)) (w64 (by omega))) ?_
    refine WP.s (.g rfl rfl) (O.ix (i - 1) rfl rfl Try.underlying22 ty50 (by omega) (v := ((l.take i).getD (i - 1) 0)) (gd 0 (by omega))) ?_
    refine WP.s (.g rfl rfl) (OpOk.le (O.ldP rfl ty50) (limb_le _)) ?_
    refine WP.s (.g rfl rfl) (O.eq rfl rfl) ?_
    refine WP.s .n (O.pickT rfl rfl) ?_
    refine WP.nil ?_
    refine QE.next ?_
    refine CW.condD rfl (fun h_t14 => ?_) (fun h_t14 => ?_)
    · refine CW.skip ?_
      refine QE.next ?_
      refine CW.block ?_
      refine CW.region ?_
      refine WP.s .n (O.mv rfl) ?_
      refine WP.s .n (O.mv rfl) ?_
      refine WP.s .n (O.lenS rfl Try.underlying22) ?_
      refine WP.s .n (O.sub rfl rfl (c := (((l.take i).length : Int) - 1)) (w64 (by omega))) ?_
      refine WP.s .n (O.slH (i - 1) rfl rfl Try.underlying22 ty50 (by omega) (by omega)) ?_
      refine WP.s .n (O.asg rfl) ?_
      refine WP.nil ?_
      refine QE.blkN ?_
      refine ST.told 0 rfl (is_eq (y := (l.take (i - 1))) (take_take1 hi)) ?_
      exact QE.round (i - 1) (by omega) ⟨by omega, (trim_down hi h_t6' h_t14).trans hr⟩ (Imp.cons rfl Imp.nil) (OImp.refl _)
    · refine CW.exit ?_
      refine QE.thenE ?_
      refine QE.thenE ?_
      refine QE.blkH ?_
      refine QE.next ?_
      refine CW.seq ?_
      refine CW.region ?_
      refine WP.s .n (O.mv rfl) ?_
      refine WP.s .n (O.asg rfl) ?_
      refine WP.nil ?_
      refine QE.next ?_
      refine CW.ret ?_
      refine ST.told 2 rfl (is_eq (y := (limbs (nval l))) (trim_stop hL hi h_t6' h_t14 hr)) ?_
      exact QE.done (.inl rfl) rfl (ResOk.t rfl ResOk.nil) (OImp.sub (List.nil_sublist _)) ⟨rfl, rfl⟩
  · refine WP.k (b := false) rfl rfl ?_
    refine WP.k (b := false) rfl rfl ?_
    refine WP.k (b := false) rfl rfl ?_
    refine WP.k (b := false) rfl rfl ?_
    refine WP.k (b := false) rfl rfl ?_
    refine WP.k (b := false) rfl rfl ?_
    refine WP.k (b := false) rfl rfl ?_
    refine WP.s .n (O.pickF rfl rfl) ?_
    refine WP.nil ?_
    refine QE.next ?_
    refine CW.condF rfl ?_
    refine CW.exit ?_
    refine QE.thenE ?_
    refine QE.thenE ?_
    refine QE.blkH ?_
    refine QE.next ?_
    refine CW.seq ?_
    refine CW.region ?_
    refine WP.s .n (O.mv rfl) ?_
    refine WP.s .n (O.asg rfl) ?_
    refine WP.nil ?_
    refine QE.next ?_
    refine CW.ret ?_
    refine ST.told 2 rfl (is_eq (y := (limbs (nval l))) (trim_stop0 hr (by omega))) ?_
    exact QE.done (.inl rfl) rfl (ResOk.t rfl ResOk.nil) (OImp.sub (List.nil_sublist _)) ⟨rfl, rfl⟩

set_option maxRecDepth 20000 in
set_option maxHeartbeats 1000000 in
theorem c_nat_Norm (l : List Nat) : Fn Try.prog 64 [kN.is l] (kN.is (limbs (nval l))) := by
  refine Con.enter Try.func64 rfl rfl fun m w => ?_
  refine ST.fact (i := 0) rfl sl_len fun hB => ?_
  refine ST.fact (i := 0) rfl kN_lims fun hL => ?_
  refine CW.seq ?_
  refine CW.region ?_
  refine WP.s .n (O.asg rfl) ?_
  refine WP.nil ?_
  refine QE.next ?_
  refine CW.seq ?_
  refine CW.region ?_
  refine WP.s .n (O.mv rfl) ?_
  refine WP.s .n (O.fn fn49 (evs.c rfl evs.nil) (c_nat_trim l)) ?_
  refine ST.nilrow 50 kLimb ?_
  refine WP.ap 0 .n rfl rfl rfl (VP.le_refl _) Try.underlying22 el50_limb (by have := limbs_len_le hL; simp; omega) fun v1 => ?_
  refine WP.s .n (O.asg rfl) ?_
  refine WP.nil ?_
  refine QE.next ?_
  refine CW.ret ?_
  refine ST.freeze 0 rfl (.keep (i := 0) rfl (.hit (i := 2) rfl (.keep (i := 3) rfl (.keep (i := 4) rfl (.hit (i := 5) rfl .nil))))) ?_
  exact QE.done (.inl rfl) rfl (ResOk.t rfl ResOk.nil) (OImp.sub (List.nil_sublist _)) ⟨rfl, rfl⟩

set_option maxRecDepth 20000 in
set_option maxHeartbeats 1000000 in
theorem c_nat_Cmp (a b : List Nat) : Fn Try.prog 35 [kN.is a, kN.is b] ((kInt .i64).is (cmpI (nval a) (nval b))) := by
  refine Con.enter Try.func35 rfl rfl fun m w => ?_
  refine CW.seq ?_
  refine CW.region ?_
  refine WP.s .n (O.asg rfl) ?_
  refine WP.nil ?_
  refine QE.next ?_
  refine CW.seq ?_
  refine CW.region ?_
  refine WP.s .n (O.mv rfl) ?_
  refine WP.s .n (O.fn fn49 (evs.c rfl evs.nil) (c_nat_trim a)) ?_
  refine WP.s .n (O.mv rfl) ?_
  refine WP.s .n (O.fn fn49 (evs.c rfl evs.nil) (c_nat_trim b)) ?_
  refine WP.s .n (O.asg rfl) ?_
  refine WP.s .n (O.asg rfl) ?_
  refine WP.nil ?_
  refine QE.next ?_
  refine CW.seq ?_
  refine CW.seq ?_
  refine ST.fact (i := 0) rfl sl_len fun hA => ?_
  refine ST.fact (i := 1) rfl sl_len fun hB => ?_
  refine ST.fact (i := 0) rfl kN_lims fun lA => ?_
  refine ST.fact (i := 1) rfl kN_lims fun lB => ?_
  refine CW.region ?_
  refine WP.s .n (O.mv rfl) ?_
  refine WP.s .n (O.lenS rfl Try.underlying22) ?_
  refine WP.s .n (O.mv rfl) ?_
  refine WP.s .n (O.lenS rfl Try.underlying22) ?_
  refine WP.s .n (O.ne rfl rfl) ?_
  refine WP.nil ?_
  refine QE.next ?_
  refine CW.condD rfl (fun h_t14 => ?_) (fun h_t14 => ?_)
  · refine CW.seq ?_
    refine CW.seq ?_
    refine CW.region ?_
    refine WP.s .n (O.mv rfl) ?_
    refine WP.s .n (O.lenS rfl Try.underlying22) ?_
    refine WP.s .n (O.mv rfl) ?_
    refine WP.s .n (O.lenS rfl Try.underlying22) ?_
    refine WP.s .n (O.lt rfl rfl) ?_
    refine WP.nil ?_
    refine QE.next ?_
    refine CW.condD rfl (fun h_t19 => ?_) (fun h_t19 => ?_)
    · refine CW.seq ?_
      refine CW.region ?_
      refine WP.s .n (O.asg rfl) ?_
      refine WP.nil ?_
      refine QE.next ?_
      refine CW.ret ?_
      refine QE.thenR ?_
      refine QE.thenR ?_
      refine ST.told 4 rfl (is_eq (y := (cmpI (nval a) (nval b))) (cmp_len_lt (by omega))) ?_
      exact QE.done (.inl rfl) rfl (ResOk.t rfl ResOk.nil) (OImp.sub (List.nil_sublist _)) ⟨rfl, rfl⟩
    · refine CW.skip ?_
      refine QE.next ?_
      refine CW.seq ?_
      refine CW.region ?_
      refine WP.s .n (O.asg rfl) ?_
      refine WP.nil ?_
      refine QE.next ?_
      refine CW.ret ?_
      refine QE.thenR ?_
      refine ST.told 4 rfl (is_eq (y := (cmpI (nval a) (nval b))) (cmp_len_gt (by omega))) ?_
      exact QE.done (.inl rfl) rfl (ResOk.t rfl ResOk.nil) (OImp.sub (List.nil_sublist _)) ⟨rfl, rfl⟩
  · refine CW.skip ?_
    refine QE.next ?_
    refine CW.seq ?_
    refine CW.seq ?_
    refine CW.region ?_
    refine WP.s .n (O.mv rfl) ?_
    refine WP.s .n (O.lenS rfl Try.underlying22) ?_
    refine WP.s .n (O.sub rfl rfl (c := (((limbs (nval a)).length : Int) - 1)) (w64 (by omega))) ?_
    refine WP.s .n (O.asg rfl) ?_
    refine WP.nil ?_
    refine QE.next ?_
    refine CW.block ?_
    refine CW.loop (fun (i : Nat) => i ≤ (limbs (nval a)).length ∧ (limbs (nval a)).drop i = (limbs (nval b)).drop i) (fun (i : Nat) => [(0, kN.is (limbs (nval a))), (1, kN.is (limbs (nval b))), (5, (kInt .i64).is ((i : Int) - 1))]) (fun (i : Nat) => []) (fun (i : Nat) => i) ((limbs (nval a)).length) ⟨Nat.le_refl _, cmp_drop (by omega)⟩ (Imp.cons rfl (Imp.cons rfl (Imp.consLe rfl (is_eq (y := ((((limbs (nval a)).length) : Nat) : Int) - 1) (by omega)) Imp.nil))) (OImp.refl _) ?_
    intro i ⟨hi, hd⟩
    refine CW.seq ?_
    refine CW.seq ?_
    refine CW.region ?_
    refine WP.s .n (O.mv rfl) ?_
    refine WP.s .n (O.ge rfl rfl) ?_
    refine WP.nil ?_
    refine QE.next ?_
    refine CW.condD rfl (fun h_t24 => ?_) (fun h_t24 => ?_)
    · refine CW.skip ?_
      refine QE.next ?_
      refine CW.seq ?_
      refine CW.block ?_
      refine CW.seq ?_
      refine CW.draw (Γ := [.fr (kN.is (limbs (nval a))), .fr ((kInt .i64).is ((i : Int) - 1)), .fr (VP.pim kLimb ((limbs (nval a)).getD (i - 1) 0)), .fr ((kInt .u32).is (((limbs (nval a)).getD (i - 1) 0) : Int)), .fr (kN.is (limbs (nval b))), .fr ((kInt .i64).is ((i : Int) - 1)), .fr (VP.pim kLimb ((limbs (nval b)).getD (i - 1) 0)), .fr ((kInt .u32).is (((limbs (nval b)).getD (i - 1) 0) : Int)), .fr (kBool.is (decide ((((limbs (nval a)).getD (i - 1) 0) : Int) ≠ (((limbs (nval b)).getD (i - 1) 0) : Int))))]) (lates := [false, false, false, false, false, false, false, false, false]) (by kernel_rfl) (Chk.of rfl (by kernel_rfl) rfl) (fun _ _ _ _ _ h => h) (fun q_ x_ h_ => ?_) (fun σ => ?_)
      · match q_, h_ with
        | 0, h_ => cases h_; exact Ob.f rfl .n fun N => (O.mv rfl)
        | 1, h_ => cases h_; exact Ob.f rfl .n fun N => (O.mv rfl)
        | 2, h_ => cases h_; exact Ob.f rfl .n fun N => (O.ix (i - 1) rfl rfl Try.underlying22 ty50 (by omega) (v := ((limbs (nval a)).getD (i - 1) 0)) (gd 0 (by omega)))
        | 3, h_ => cases h_; exact Ob.f rfl .n fun N => (OpOk.le (O.ldP rfl ty50) (limb_le _))
        | 4, h_ => cases h_; exact Ob.f rfl .n fun N => (O.mv rfl)
        | 5, h_ => cases h_; exact Ob.f rfl .n fun N => (O.mv rfl)
        | 6, h_ => cases h_; exact Ob.f rfl .n fun N => (O.ix (i - 1) rfl rfl Try.underlying22 ty50 (by omega) (v := ((limbs (nval b)).getD (i - 1) 0)) (gd 0 (by omega)))
        | 7, h_ => cases h_; exact Ob.f rfl .n fun N => (OpOk.le (O.ldP rfl ty50) (limb_le _))
        | 8, h_ => cases h_; exact Ob.f rfl .n fun N => (O.ne rfl rfl)
        | n_ + 9, h_ => simp at h_
      refine WP.nil ?_
      refine QE.next ?_
      refine CW.condD rfl (fun h_t35 => ?_) (fun h_t35 => ?_)
      · refine CW.seq ?_
        refine CW.seq ?_
        refine CW.draw (Γ := [.fr (kN.is (limbs (nval a))), .fr ((kInt .i64).is ((i : Int) - 1)), .fr (VP.pim kLimb ((limbs (nval a)).getD (i - 1) 0)), .fr ((kInt .u32).is (((limbs (nval a)).getD (i - 1) 0) : Int)), .fr (kN.is (limbs (nval b))), .fr ((kInt .i64).is ((i : Int) - 1)), .fr (VP.pim kLimb ((limbs (nval b)).getD (i - 1) 0)), .fr ((kInt .u32).is (((limbs (nval b)).getD (i - 1) 0) : Int)), .fr (kBool.is (decide ((((limbs (nval a)).getD (i - 1) 0) : Int) < (((limbs (nval b)).getD (i - 1) 0) : Int))))]) (lates := [false, false, false, false, false, false, false, false, false]) (by kernel_rfl) (Chk.of rfl (by kernel_rfl) rfl) (fun _ _ _ _ _ h => h) (fun q_ x_ h_ => ?_) (fun σ => ?_)
        · match q_, h_ with
          | 0, h_ => cases h_; exact Ob.f rfl .n fun N => (O.mv rfl)
          | 1, h_ => cases h_; exact Ob.f rfl .n fun N => (O.mv rfl)
          | 2, h_ => cases h_; exact Ob.f rfl .n fun N => (O.ix (i - 1) rfl rfl Try.underlying22 ty50 (by omega) (v := ((limbs (nval a)).getD (i - 1) 0)) (gd 0 (by omega)))
          | 3, h_ => cases h_; exact Ob.f rfl .n fun N => (OpOk.le (O.ldP rfl ty50) (limb_le _))
          | 4, h_ => cases h_; exact Ob.f rfl .n fun N => (O.mv rfl)
          | 5, h_ => cases h_; exact Ob.f rfl .n fun N => (O.mv rfl)
          | 6, h_ => cases h_; exact Ob.f rfl .n fun N => (O.ix (i - 1) rfl rfl Try.underlying22 ty50 (by omega) (v := ((limbs (nval b)).getD (i - 1) 0)) (gd 0 (by omega)))
          | 7, h_ => cases h_; exact Ob.f rfl .n fun N => (OpOk.le (O.ldP rfl ty50) (limb_le _))
          | 8, h_ => cases h_; exact Ob.f rfl .n fun N => (O.lt rfl rfl)
          | n_ + 9, h_ => simp at h_
        refine WP.nil ?_
        refine QE.next ?_
        refine CW.condD rfl (fun h_t44 => ?_) (fun h_t44 => ?_)
        · refine CW.seq ?_
          refine CW.region ?_
          refine WP.s .n (O.asg rfl) ?_
          refine WP.nil ?_
          refine QE.next ?_
          refine CW.ret ?_
          refine QE.thenR ?_
          refine QE.blkR ?_
          refine QE.thenR ?_
          refine QE.thenR ?_
          refine QE.blkR ?_
          refine QE.thenR ?_
          refine ST.told 4 rfl (is_eq (y := (cmpI (nval a) (nval b))) (cmp_at_lt (by omega) (by omega) hd (by omega))) ?_
          exact QE.done (.inl rfl) rfl (ResOk.t rfl ResOk.nil) (OImp.sub (List.nil_sublist _)) ⟨rfl, rfl⟩
        · refine CW.skip ?_
          refine QE.next ?_
          refine CW.seq ?_
          refine CW.region ?_
          refine WP.s .n (O.asg rfl) ?_
          refine WP.nil ?_
          refine QE.next ?_
          refine CW.ret ?_
          refine QE.blkR ?_
          refine QE.thenR ?_
          refine QE.thenR ?_
          refine QE.blkR ?_
          refine QE.thenR ?_
          refine ST.told 4 rfl (is_eq (y := (cmpI (nval a) (nval b))) (cmp_at_gt (by omega) (by omega) hd (by omega) (by omega))) ?_
          exact QE.done (.inl rfl) rfl (ResOk.t rfl ResOk.nil) (OImp.sub (List.nil_sublist _)) ⟨rfl, rfl⟩
      · refine CW.skip ?_
        refine QE.blkN ?_
        refine QE.next ?_
        refine CW.region ?_
        refine WP.s .n (O.mv rfl) ?_
        refine WP.s .n (O.sub rfl rfl (c := (((i : Int) - 1) - 1)) (w64 (by omega))) ?_
        refine WP.s .n (O.asg rfl) ?_
        refine WP.nil ?_
        exact QE.round (i - 1) (by omega) ⟨by omega, cmp_down (by omega) hi (by omega) hd (by omega)⟩ (Imp.cons rfl (Imp.cons rfl (Imp.consLe rfl (is_eq (y := (((i - 1) : Nat) : Int) - 1) (by omega)) Imp.nil))) (OImp.refl _)
    · refine CW.exit ?_
      refine QE.thenE ?_
      refine QE.thenE ?_
      refine QE.blkH ?_
      refine QE.next ?_
      refine CW.seq ?_
      refine CW.region ?_
      refine WP.s .n (O.asg rfl) ?_
      refine WP.nil ?_
      refine QE.next ?_
      refine CW.ret ?_
      refine ST.told 4 rfl (is_eq (y := (cmpI (nval a) (nval b))) (cmp_at_eq (i := i) (by omega) hd)) ?_
      exact QE.done (.inl rfl) rfl (ResOk.t rfl ResOk.nil) (OImp.sub (List.nil_sublist _)) ⟨rfl, rfl⟩

set_option maxRecDepth 20000 in
set_option maxHeartbeats 1000000 in
theorem c_bits_Len32 (n : Nat) : Fn Try.prog 50 [kLimb.is n] ((kInt .i64).is (bitlen n : Int)) := by
  refine Con.enter Try.func50 rfl rfl fun m w => ?_
  refine ST.fact (i := 0) rfl limb_lt fun hn => ?_
  refine ST.told (q := (kInt .u32).is (n : Int)) 0 rfl (limb_le _) ?_
  refine CW.seq ?_
  refine CW.region ?_
  refine WP.s .n (O.asg rfl) ?_
  refine WP.nil ?_
  refine QE.next ?_
  refine CW.seq ?_
  refine CW.seq ?_
  refine CW.region ?_
  refine WP.s .n (O.mv rfl) ?_
  refine WP.s .n (O.ge rfl rfl) ?_
  refine WP.nil ?_
  refine QE.next ?_
  refine CW.condD rfl (fun h_t4 => ?_) (fun h_t4 => ?_)
  · refine CW.seq ?_
    refine CW.region ?_
    refine WP.s .n (O.mv rfl) ?_
    refine WP.s .n (O.shr rfl rfl (by omega) (c := ((n / 2 ^ 16 : Nat) : Int)) (shrN 16 rfl rfl (by decide))) ?_
    refine WP.s .n (O.asg rfl) ?_
    refine WP.nil ?_
    refine QE.next ?_
    refine CW.region ?_
    refine WP.s .n (O.asg rfl) ?_
    refine WP.nil ?_
    refine QE.next ?_
    refine CW.seq ?_
    refine CW.seq ?_
    refine CW.region ?_
    refine WP.s .n (O.mv rfl) ?_
    refine WP.s .n (O.ge rfl rfl) ?_
    refine WP.nil ?_
    refine QE.next ?_
    refine CW.condD rfl (fun h_t8 => ?_) (fun h_t8 => ?_)
    · refine CW.seq ?_
      refine CW.region ?_
      refine WP.s .n (O.mv rfl) ?_
      refine WP.s .n (O.shr rfl rfl (by omega) (c := ((n / 2 ^ 16 / 2 ^ 8 : Nat) : Int)) (shrN 8 rfl rfl (by decide))) ?_
      refine WP.s .n (O.asg rfl) ?_
      refine WP.nil ?_
      refine QE.next ?_
      refine CW.region ?_
      refine WP.s .n (O.mv rfl) ?_
      refine WP.s .n (O.add rfl rfl (c := (16 + 8)) (w64 (by omega))) ?_
      refine WP.s .n (O.asg rfl) ?_
      refine WP.nil ?_
      refine QE.next ?_
      refine CW.seq ?_
      have e16 := @bitlen_shift n 16
      have e8 := @bitlen_shift n 8
      have e24 := @bitlen_shift (n / 2 ^ 16) 8
      have l0 := @bitlen_le n 8
      have l1 := @bitlen_le (n / 2 ^ 16) 8
      have l2 := @bitlen_le (n / 2 ^ 8) 8
      have l3 := @bitlen_le (n / 2 ^ 16 / 2 ^ 8) 8
      refine CW.region ?_
      refine WP.s .n (O.mv rfl) ?_
      refine WP.s .n (O.mv rfl) ?_
      refine WP.s .n (O.cvt rfl Try.underlying50 Try.underlying5 (c := ((n / 2 ^ 16 / 2 ^ 8 : Nat) : Int)) (wr8 (by omega))) ?_
      refine WP.s .n (O.ixS (N := 256) bitlen (n / 2 ^ 16 / 2 ^ 8 : Nat) rfl Try.underlying9 rfl len8 (by omega)) ?_
      refine WP.s .n (O.cvt rfl Try.underlying5 Try.underlying3 (c := (bitlen (n / 2 ^ 16 / 2 ^ 8 : Nat) : Int)) (w64 (by omega))) ?_
      refine WP.s .n (O.add rfl rfl (c := ((16 + 8) + (bitlen (n / 2 ^ 16 / 2 ^ 8 : Nat) : Int))) (w64 (by omega))) ?_
      refine WP.s .n (O.asg rfl) ?_
      refine WP.nil ?_
      refine QE.next ?_
      refine CW.ret ?_
      exact QE.done (.inl rfl) rfl (ResOk.tl rfl (is_eq (y := (bitlen n : Int)) (by omega)) ResOk.nil) (OImp.sub (List.nil_sublist _)) ⟨rfl, rfl⟩
    · refine CW.skip ?_
      refine QE.next ?_
      refine CW.seq ?_
      have e16 := @bitlen_shift n 16
      have e8 := @bitlen_shift n 8
      have e24 := @bitlen_shift (n / 2 ^ 16) 8
      have l0 := @bitlen_le n 8
      have l1 := @bitlen_le (n / 2 ^ 16) 8
      have l2 := @bitlen_le (n / 2 ^ 8) 8
      have l3 := @bitlen_le (n / 2 ^ 16 / 2 ^ 8) 8
      refine CW.region ?_
      refine WP.s .n (O.mv rfl) ?_
      refine WP.s .n (O.mv rfl) ?_
      refine WP.s .n (O.cvt rfl Try.underlying50 Try.underlying5 (c := ((n / 2 ^ 16 : Nat) : Int)) (wr8 (by omega))) ?_
      refine WP.s .n (O.ixS (N := 256) bitlen (n / 2 ^ 16 : Nat) rfl Try.underlying9 rfl len8 (by omega)) ?_
      refine WP.s .n (O.cvt rfl Try.underlying5 Try.underlying3 (c := (bitlen (n / 2 ^ 16 : Nat) : Int)) (w64 (by omega))) ?_
      refine WP.s .n (O.add rfl rfl (c := (16 + (bitlen (n / 2 ^ 16 : Nat) : Int))) (w64 (by omega))) ?_
      refine WP.s .n (O.asg rfl) ?_
      refine WP.nil ?_
      refine QE.next ?_
      refine CW.ret ?_
      exact QE.done (.inl rfl) rfl (ResOk.tl rfl (is_eq (y := (bitlen n : Int)) (by omega)) ResOk.nil) (OImp.sub (List.nil_sublist _)) ⟨rfl, rfl⟩
  · refine CW.skip ?_
    refine QE.next ?_
    refine CW.seq ?_
    refine CW.seq ?_
    refine CW.region ?_
    refine WP.s .n (O.mv rfl) ?_
    refine WP.s .n (O.ge rfl rfl) ?_
    refine WP.nil ?_
    refine QE.next ?_
    refine CW.condD rfl (fun h_t8 => ?_) (fun h_t8 => ?_)
    · refine CW.seq ?_
      refine CW.region ?_
      refine WP.s .n (O.mv rfl) ?_
      refine WP.s .n (O.shr rfl rfl (by omega) (c := ((n / 2 ^ 8 : Nat) : Int)) (shrN 8 rfl rfl (by decide))) ?_
      refine WP.s .n (O.asg rfl) ?_
      refine WP.nil ?_
      refine QE.next ?_
      refine CW.region ?_
      refine WP.s .n (O.mv rfl) ?_
      refine WP.s .n (O.add rfl rfl (c := (0 + 8)) (w64 (by omega))) ?_
      refine WP.s .n (O.asg rfl) ?_
      refine WP.nil ?_
      refine QE.next ?_
      refine CW.seq ?_
      have e16 := @bitlen_shift n 16
      have e8 := @bitlen_shift n 8
      have e24 := @bitlen_shift (n / 2 ^ 16) 8
      have l0 := @bitlen_le n 8
      have l1 := @bitlen_le (n / 2 ^ 16) 8
      have l2 := @bitlen_le (n / 2 ^ 8) 8
      have l3 := @bitlen_le (n / 2 ^ 16 / 2 ^ 8) 8
      refine CW.region ?_
      refine WP.s .n (O.mv rfl) ?_
      refine WP.s .n (O.mv rfl) ?_
      refine WP.s .n (O.cvt rfl Try.underlying50 Try.underlying5 (c := ((n / 2 ^ 8 : Nat) : Int)) (wr8 (by omega))) ?_
      refine WP.s .n (O.ixS (N := 256) bitlen (n / 2 ^ 8 : Nat) rfl Try.underlying9 rfl len8 (by omega)) ?_
      refine WP.s .n (O.cvt rfl Try.underlying5 Try.underlying3 (c := (bitlen (n / 2 ^ 8 : Nat) : Int)) (w64 (by omega))) ?_
      refine WP.s .n (O.add rfl rfl (c := ((0 + 8) + (bitlen (n / 2 ^ 8 : Nat) : Int))) (w64 (by omega))) ?_
      refine WP.s .n (O.asg rfl) ?_
      refine WP.nil ?_
      refine QE.next ?_
      refine CW.ret ?_
      exact QE.done (.inl rfl) rfl (ResOk.tl rfl (is_eq (y := (bitlen n : Int)) (by omega)) ResOk.nil) (OImp.sub (List.nil_sublist _)) ⟨rfl, rfl⟩
    · refine CW.skip ?_
      refine QE.next ?_
      refine CW.seq ?_
      have e16 := @bitlen_shift n 16
      have e8 := @bitlen_shift n 8
      have e24 := @bitlen_shift (n / 2 ^ 16) 8
      have l0 := @bitlen_le n 8
      have l1 := @bitlen_le (n / 2 ^ 16) 8
      have l2 := @bitlen_le (n / 2 ^ 8) 8
      have l3 := @bitlen_le (n / 2 ^ 16 / 2 ^ 8) 8
      refine CW.region ?_
      refine WP.s .n (O.mv rfl) ?_
      refine WP.s .n (O.mv rfl) ?_
      refine WP.s .n (O.cvt rfl Try.underlying50 Try.underlying5 (c := (n : Int)) (wr8 (by omega))) ?_
      refine WP.s .n (O.ixS (N := 256) bitlen n rfl Try.underlying9 rfl len8 (by omega)) ?_
      refine WP.s .n (O.cvt rfl Try.underlying5 Try.underlying3 (c := (bitlen n : Int)) (w64 (by omega))) ?_
      refine WP.s .n (O.add rfl rfl (c := (0 + (bitlen n : Int))) (w64 (by omega))) ?_
      refine WP.s .n (O.asg rfl) ?_
      refine WP.nil ?_
      refine QE.next ?_
      refine CW.ret ?_
      exact QE.done (.inl rfl) rfl (ResOk.tl rfl (is_eq (y := (bitlen n : Int)) (by omega)) ResOk.nil) (OImp.sub (List.nil_sublist _)) ⟨rfl, rfl⟩

set_option maxRecDepth 20000 in
set_option maxHeartbeats 1000000 in
theorem c_bits_LeadingZeros32 (n : Nat) : Fn Try.prog 66 [kLimb.is n] ((kInt .i64).is (32 - (bitlen n : Int))) := by
  refine Con.enter Try.func66 rfl rfl fun m w => ?_
  refine ST.fact (i := 0) rfl limb_lt fun hn => ?_
  have hb := @bitlen_le n 32 hn
  refine CW.seq ?_
  refine CW.region ?_
  refine WP.s .n (O.asg rfl) ?_
  refine WP.nil ?_
  refine QE.next ?_
  refine CW.seq ?_
  refine CW.region ?_
  refine WP.s .n (O.mv rfl) ?_
  refine WP.s .n (O.fn fn50 (evs.c rfl evs.nil) (c_bits_Len32 n)) ?_
  refine WP.s .n (O.sub rfl rfl (c := (32 - (bitlen n : Int))) (w64 (by omega))) ?_
  refine WP.s .n (O.asg rfl) ?_
  refine WP.nil ?_
  refine QE.next ?_
  refine CW.ret ?_
  exact QE.done (.inl rfl) rfl (ResOk.t rfl ResOk.nil) (OImp.sub (List.nil_sublist _)) ⟨rfl, rfl⟩

set_option maxRecDepth 20000 in
set_option maxHeartbeats 1000000 in
theorem c_nat_Bits (l : List Nat) : Fn Try.prog 36 [kN.is l] ((kInt .i64).is (bitlen (nval l) : Int)) := by
  refine Con.enter Try.func36 rfl rfl fun m w => ?_
  refine CW.seq ?_
  refine CW.region ?_
  refine WP.s .n (O.asg rfl) ?_
  refine WP.nil ?_
  refine QE.next ?_
  refine CW.seq ?_
  refine CW.region ?_
  refine WP.s .n (O.mv rfl) ?_
  refine WP.s .n (O.fn fn49 (evs.c rfl evs.nil) (c_nat_trim l)) ?_
  refine WP.s .n (O.asg rfl) ?_
  refine WP.nil ?_
  refine QE.next ?_
  refine CW.seq ?_
  refine CW.seq ?_
  refine ST.fact (i := 0) rfl sl_len fun hB => ?_
  refine ST.fact (i := 0) rfl kN_lims fun hL => ?_
  refine CW.region ?_
  refine WP.s .n (O.mv rfl) ?_
  refine WP.s .n (O.lenS rfl Try.underlying22) ?_
  refine WP.s .n (O.eq rfl rfl) ?_
  refine WP.nil ?_
  refine QE.next ?_
  refine CW.condD rfl (fun h_t7 => ?_) (fun h_t7 => ?_)
  · refine CW.seq ?_
    refine CW.region ?_
    refine WP.s .n (O.asg rfl) ?_
    refine WP.nil ?_
    refine QE.next ?_
    refine CW.ret ?_
    refine QE.thenR ?_
    refine ST.told 2 rfl (is_eq (y := (bitlen (nval l) : Int)) (by rw [bitlen0 (by omega)]; rfl)) ?_
    exact QE.done (.inl rfl) rfl (ResOk.t rfl ResOk.nil) (OImp.sub (List.nil_sublist _)) ⟨rfl, rfl⟩
  · refine CW.skip ?_
    refine QE.next ?_
    refine CW.seq ?_
    have hx := getD_lt hL ((limbs (nval l)).length - 1)
    have hb := @bitlen_le ((limbs (nval l)).getD ((limbs (nval l)).length - 1) 0) 32 hx
    have hbits := @bits_limbs (nval l) (by intro h; rw [h, limbs_zero] at h_t7; simp at h_t7)
    refine CW.region ?_
    refine WP.s .n (O.mv rfl) ?_
    refine WP.s .n (O.lenS rfl Try.underlying22) ?_
    refine WP.s .n (O.sub rfl rfl (c := (((limbs (nval l)).length : Int) - 1)) (w64 (by omega))) ?_
    refine WP.s .n (O.mul rfl rfl (c := (32 * (((limbs (nval l)).length : Int) - 1))) (w64 (by omega))) ?_
    refine WP.s .n (O.mv rfl) ?_
    refine WP.s .n (O.mv rfl) ?_
    refine WP.s .n (O.lenS rfl Try.underlying22) ?_
    refine WP.s .n (O.sub rfl rfl (c := (((limbs (nval l)).length : Int) - 1)) (w64 (by omega))) ?_
    refine WP.s .n (O.ix ((limbs (nval l)).length - 1) rfl rfl Try.underlying22 ty50 (by omega) (v := ((limbs (nval l)).getD ((limbs (nval l)).length - 1) 0)) (gd 0 (by omega))) ?_
    refine WP.s .n (OpOk.le (O.ldP rfl ty50) (limb_le _)) ?_
    refine WP.s .n (O.fn fn50 (evs.l rfl (u32_limb (x := ((limbs (nval l)).getD ((limbs (nval l)).length - 1) 0)) (by omega)) evs.nil) (c_bits_Len32 ((limbs (nval l)).getD ((limbs (nval l)).length - 1) 0))) ?_
    refine WP.s .n (O.add rfl rfl (c := ((32 * (((limbs (nval l)).length : Int) - 1)) + (bitlen ((limbs (nval l)).getD ((limbs (nval l)).length - 1) 0) : Int))) (w64 (by omega))) ?_
    refine WP.s .n (O.asg rfl) ?_
    refine WP.nil ?_
    refine QE.next ?_
    refine CW.ret ?_
    exact QE.done (.inl rfl) rfl (ResOk.tl rfl (is_eq (y := (bitlen (nval l) : Int)) (by omega)) ResOk.nil) (OImp.sub (List.nil_sublist _)) ⟨rfl, rfl⟩

set_option maxRecDepth 20000 in
set_option maxHeartbeats 1000000 in
theorem c_nat_Add (a b : List Nat) (hA : a.length < 1099511627776) (hB : b.length < 1099511627776) : Fn Try.prog 47 [kN.is a, kN.is b] (kN.is (limbs (nval a + nval b))) := by
  refine Con.enter Try.func47 rfl rfl fun m w => ?_
  refine ST.fact (i := 0) rfl kN_lims fun lA => ?_
  refine ST.fact (i := 1) rfl kN_lims fun lB => ?_
  refine CW.seq ?_
  refine CW.region ?_
  refine WP.s .n (O.asg rfl) ?_
  refine WP.nil ?_
  refine QE.next ?_
  refine CW.cut2 (fun (x : List Nat) (y : List Nat) => y.length ≤ x.length ∧ x.length < 1099511627776 ∧ Lims x ∧ Lims y ∧ nval x + nval y = nval a + nval b) (fun (x : List Nat) (y : List Nat) => [(0, kN.is x), (1, kN.is y)]) (fun (x : List Nat) (y : List Nat) => []) ?_ ?_
  · refine CW.seq ?_
    refine CW.region ?_
    refine WP.s .n (O.mv rfl) ?_
    refine WP.s .n (O.lenS rfl Try.underlying22) ?_
    refine WP.s .n (O.mv rfl) ?_
    refine WP.s .n (O.lenS rfl Try.underlying22) ?_
    refine WP.s .n (O.lt rfl rfl) ?_
    refine WP.nil ?_
    refine QE.next ?_
    refine CW.condD rfl (fun h_t12 => ?_) (fun h_t12 => ?_)
    · refine CW.region ?_
      refine WP.s .n (O.mv rfl) ?_
      refine WP.s .n (O.mv rfl) ?_
      refine WP.s .n (O.asg rfl) ?_
      refine WP.s .n (O.asg rfl) ?_
      refine WP.nil ?_
      exact QE.mid2 b a ⟨by omega, hB, lB, lA, Nat.add_comm _ _⟩ (Imp.cons rfl (Imp.cons rfl Imp.nil)) (OImp.refl _)
    · refine CW.skip ?_
      exact QE.mid2 a b ⟨by omega, hA, lA, lB, rfl⟩ (Imp.cons rfl (Imp.cons rfl Imp.nil)) (OImp.refl _)
  intro x y ⟨hlen, hlt, l1, l2, hsum⟩
  refine CW.seq ?_
  refine CW.region ?_
  refine WP.s .n (O.mv rfl) ?_
  refine WP.s .n (O.lenS rfl Try.underlying22) ?_
  refine WP.s .n (O.add rfl rfl (c := ((x.length : Int) + 1)) (w64 (by omega))) ?_
  refine WP.mk ((((x.length : Int) + 1)).toNat) .n rfl rfl (by omega) (by omega) Try.underlying22 el50_limb z50_limb fun v1 => ?_
  refine WP.s .n (O.asg rfl) ?_
  refine WP.nil ?_
  refine QE.next ?_
  refine CW.seq ?_
  refine CW.region ?_
  refine WP.s .n (O.asg rfl) ?_
  refine WP.nil ?_
  refine QE.next ?_
  refine CW.seq ?_
  refine CW.seq ?_
  refine CW.region ?_
  refine WP.s .n (O.mv rfl) ?_
  refine WP.s .n (O.lenS rfl Try.underlying22) ?_
  refine WP.s .n (O.mv rfl) ?_
  refine WP.nil ?_
  refine QE.next ?_
  refine CW.block ?_
  refine CW.loop3 (fun (r : List Nat) (c : Nat) (v : Value) => r.length ≤ x.length ∧ AddR x y r c) (fun (r : List Nat) (c : Nat) (v : Value) => [(0, kN.is x), (1, kN.is y), (5, VP.ex v), (6, (kInt .u64).is (c : Int)), (20, (kInt .i64).is (x.length : Int)), (21, (kInt .i64).is (r.length : Int))]) (fun (r : List Nat) (c : Nat) (v : Value) => [OB.row v 50 kLimb (fil (x.length + 1) r)]) (fun (r : List Nat) (c : Nat) (v : Value) => x.length - r.length) [] 0 v1 ⟨Nat.zero_le _, addR_0 x y⟩ (Imp.cons rfl (Imp.cons rfl (Imp.cons rfl (Imp.consLe rfl (is_eq (y := (0 : Int)) (by first | omega | simp)) (Imp.cons rfl (Imp.consLe rfl (is_eq (y := ([].length : Int)) (by first | omega | simp)) Imp.nil)))))) (OImp.os (.keepLe (OB.row_eq (fil_nil _)) .nil)) ?_
  intro r c v ⟨hr, hS⟩
  have hc := hS.2.1
  have hx := getD_lt l1 r.length
  have hy := getD_lt l2 r.length
  have hfl := fil_len (n := x.length + 1) (r := r) (by omega)
  refine CW.seq ?_
  refine CW.region ?_
  refine WP.s .n (O.lt rfl rfl) ?_
  refine WP.nil ?_
  refine QE.next ?_
  refine CW.seq ?_
  refine CW.condD rfl (fun h_t22 => ?_) (fun h_t22 => ?_)
  · refine CW.skip ?_
    refine QE.next ?_
    refine CW.seq ?_
    refine CW.block ?_
    refine CW.seq ?_
    refine CW.region ?_
    refine WP.s .n (O.mv rfl) ?_
    refine WP.s .n (O.asg rfl) ?_
    refine WP.nil ?_
    refine QE.next ?_
    refine CW.seq ?_
    refine CW.region ?_
    refine WP.s .n (O.mv rfl) ?_
    refine WP.s .n (O.mv rfl) ?_
    refine WP.s .n (O.mv rfl) ?_
    refine WP.s .n (O.ix r.length rfl rfl Try.underlying22 ty50 rfl (v := (x.getD r.length 0)) (gd 0 (by omega))) ?_
    refine WP.s .n (OpOk.le (O.ldP rfl ty50) (limb_le _)) ?_
    refine WP.s .n (O.cvt rfl Try.underlying50 Try.underlying62 (c := ((x.getD r.length 0) : Int)) (wu64 (by omega))) ?_
    refine WP.s .n (O.add rfl rfl (c := ((c : Int) + ((x.getD r.length 0) : Int))) (wu64 (by omega))) ?_
    refine WP.s .n (O.asg rfl) ?_
    refine WP.nil ?_
    refine QE.next ?_
    refine CW.seq ?_
    refine CW.seq ?_
    refine CW.region ?_
    refine WP.s .n (O.mv rfl) ?_
    refine WP.s .n (O.mv rfl) ?_
    refine WP.s .n (O.lenS rfl Try.underlying22) ?_
    refine WP.s .n (O.lt rfl rfl) ?_
    refine WP.nil ?_
    refine QE.next ?_
    refine CW.condD rfl (fun h_t34 => ?_) (fun h_t34 => ?_)
    · refine CW.region ?_
      refine WP.s .n (O.mv rfl) ?_
      refine WP.s .n (O.mv rfl) ?_
      refine WP.s .n (O.mv rfl) ?_
      refine WP.s .n (O.ix r.length rfl rfl Try.underlying22 ty50 rfl (v := (y.getD r.length 0)) (gd 0 (by omega))) ?_
      refine WP.s .n (OpOk.le (O.ldP rfl ty50) (limb_le _)) ?_
      refine WP.s .n (O.cvt rfl Try.underlying50 Try.underlying62 (c := ((y.getD r.length 0) : Int)) (wu64 (by omega))) ?_
      refine WP.s .n (O.add rfl rfl (c := (((c : Int) + ((x.getD r.length 0) : Int)) + ((y.getD r.length 0) : Int))) (wu64 (by omega))) ?_
      refine WP.s .n (O.asg rfl) ?_
      refine WP.nil ?_
      refine QE.next ?_
      refine CW.seq ?_
      refine CW.region ?_
      refine WP.s .n (O.mv rfl) ?_
      refine WP.s .n (O.mv rfl) ?_
      refine WP.s .n (O.mv rfl) ?_
      refine WP.s .n (O.cvt rfl Try.underlying62 Try.underlying50 (c := (((c + x.getD r.length 0 + y.getD r.length 0) % 4294967296 : Nat) : Int)) (wr32 (by omega))) ?_
      refine WP.s .n (O.ixR (k := kLimb) (xs := fil (x.length + 1) r) (n := (r.length : Int)) r.length rfl rfl (mem_at 0 rfl) Try.underlying22 ty50 rfl (by omega)) ?_
      refine WP.t .n (O.stR 0 r.length rfl rfl (Lens.id _) rfl (y0 := ((fil (x.length + 1) r).getD r.length 0)) (gd 0 (by omega)) ty50 rfl (u32_limb (x := ((c + x.getD r.length 0 + y.getD r.length 0) % 4294967296 : Nat)) (by omega))) ?_
      refine WP.nil ?_
      refine QE.next ?_
      refine CW.region ?_
      refine WP.s .n (O.mv rfl) ?_
      refine WP.s .n (O.shr rfl rfl (by omega) (c := (((c + x.getD r.length 0 + y.getD r.length 0) / 2 ^ 32 : Nat) : Int)) (shrN 32 (by omega) rfl (by decide))) ?_
      refine WP.s .n (O.asg rfl) ?_
      refine WP.nil ?_
      refine QE.blkN ?_
      refine QE.next ?_
      refine CW.region ?_
      refine WP.s .n (O.add rfl rfl (c := ((r.length : Int) + 1)) (w64 (by omega))) ?_
      refine WP.s .n (O.mv rfl) ?_
      refine WP.nil ?_
      exact QE.round3 (r ++ [(c + x.getD r.length 0 + y.getD r.length 0) % 4294967296]) ((c + x.getD r.length 0 + y.getD r.length 0) / 2 ^ 32) v (by simp; omega) ⟨by simp; omega, addR_s l1 l2 hS⟩ (Imp.cons rfl (Imp.cons rfl (Imp.cons rfl (Imp.consLe rfl (is_eq (y := ((((c + x.getD r.length 0 + y.getD r.length 0) / 2 ^ 32) : Nat) : Int)) (by first | omega | simp)) (Imp.cons rfl (Imp.consLe rfl (is_eq (y := ((r ++ [(c + x.getD r.length 0 + y.getD r.length 0) % 4294967296]).length : Int)) (by first | omega | simp)) Imp.nil)))))) (OImp.os (.keepLe (OB.row_eq (fil_set (by omega))) .nil))
    · have hy0 := getD_out (l := y) (i := r.length) (by omega)
      refine CW.skip ?_
      refine QE.next ?_
      refine CW.seq ?_
      refine CW.region ?_
      refine WP.s .n (O.mv rfl) ?_
      refine WP.s .n (O.mv rfl) ?_
      refine WP.s .n (O.mv rfl) ?_
      refine WP.s .n (O.cvt rfl Try.underlying62 Try.underlying50 (c := (((c + x.getD r.length 0 + y.getD r.length 0) % 4294967296 : Nat) : Int)) (wr32 (by omega))) ?_
      refine WP.s .n (O.ixR (k := kLimb) (xs := fil (x.length + 1) r) (n := (r.length : Int)) r.length rfl rfl (mem_at 0 rfl) Try.underlying22 ty50 rfl (by omega)) ?_
      refine WP.t .n (O.stR 0 r.length rfl rfl (Lens.id _) rfl (y0 := ((fil (x.length + 1) r).getD r.length 0)) (gd 0 (by omega)) ty50 rfl (u32_limb (x := ((c + x.getD r.length 0 + y.getD r.length 0) % 4294967296 : Nat)) (by omega))) ?_
      refine WP.nil ?_
      refine QE.next ?_
      refine CW.region ?_
      refine WP.s .n (O.mv rfl) ?_
      refine WP.s .n (O.shr rfl rfl (by omega) (c := (((c + x.getD r.length 0 + y.getD r.length 0) / 2 ^ 32 : Nat) : Int)) (shrN 32 (by omega) rfl (by decide))) ?_
      refine WP.s .n (O.asg rfl) ?_
      refine WP.nil ?_
      refine QE.blkN ?_
      refine QE.next ?_
      refine CW.region ?_
      refine WP.s .n (O.add rfl rfl (c := ((r.length : Int) + 1)) (w64 (by omega))) ?_
      refine WP.s .n (O.mv rfl) ?_
      refine WP.nil ?_
      exact QE.round3 (r ++ [(c + x.getD r.length 0 + y.getD r.length 0) % 4294967296]) ((c + x.getD r.length 0 + y.getD r.length 0) / 2 ^ 32) v (by simp; omega) ⟨by simp; omega, addR_s l1 l2 hS⟩ (Imp.cons rfl (Imp.cons rfl (Imp.cons rfl (Imp.consLe rfl (is_eq (y := ((((c + x.getD r.length 0 + y.getD r.length 0) / 2 ^ 32) : Nat) : Int)) (by first | omega | simp)) (Imp.cons rfl (Imp.consLe rfl (is_eq (y := ((r ++ [(c + x.getD r.length 0 + y.getD r.length 0) % 4294967296]).length : Int)) (by first | omega | simp)) Imp.nil)))))) (OImp.os (.keepLe (OB.row_eq (fil_set (by omega))) .nil))
  · refine CW.exit ?_
    refine QE.thenE ?_
    refine QE.thenE ?_
    refine QE.blkH ?_
    refine QE.next ?_
    refine CW.seq ?_
    have hrx : r.length = x.length := by omega
    refine CW.region ?_
    refine WP.s .n (O.mv rfl) ?_
    refine WP.s .n (O.mv rfl) ?_
    refine WP.s .n (O.lenS rfl Try.underlying22) ?_
    refine WP.s .n (O.mv rfl) ?_
    refine WP.s .n (O.cvt rfl Try.underlying62 Try.underlying50 (c := (c : Int)) (wrs32 (by omega))) ?_
    refine WP.s .n (O.ixR (k := kLimb) (xs := fil (x.length + 1) r) (n := (x.length : Int)) x.length rfl rfl (mem_at 0 rfl) Try.underlying22 ty50 rfl (by omega)) ?_
    refine WP.t .n (O.stR 0 x.length rfl rfl (Lens.id _) rfl (y0 := ((fil (x.length + 1) r).getD x.length 0)) (gd 0 (by omega)) ty50 rfl (u32_limb (x := c) (by omega))) ?_
    refine WP.nil ?_
    refine QE.next ?_
    refine CW.seq ?_
    refine ST.obtold (b' := OB.row v 50 kLimb (r ++ [c])) 0 rfl (OB.row_eq (by rw [← hrx]; exact fil_set_end (by omega))) ?_
    refine CW.region ?_
    refine WP.s .n (O.mv rfl) ?_
    refine ST.freeze 0 rfl (.keep (i := 0) rfl (.keep (i := 1) rfl (.hit (i := 5) rfl (.keep (i := 6) rfl (.keep (i := 20) rfl (.keep (i := 21) rfl (.keep (i := 22) rfl (.hit (i := 50) rfl (.keep (i := 51) rfl (.keep (i := 52) rfl (.keep (i := 53) rfl (.keep (i := 54) rfl (.keep (i := 55) rfl (.hit (i := 56) rfl .nil)))))))))))))) ?_
    refine WP.s .n (O.fn fn49 (evs.c rfl evs.nil) (c_nat_trim (r ++ [c]))) ?_
    refine WP.s .n (O.asg rfl) ?_
    refine WP.nil ?_
    refine QE.next ?_
    refine CW.ret ?_
    refine ST.told 4 rfl (is_eq (y := (limbs (nval a + nval b))) (by rw [addR_end hS hrx hlen, hsum])) ?_
    exact QE.done (.inl rfl) rfl (ResOk.t rfl ResOk.nil) (OImp.sub (List.nil_sublist _)) ⟨rfl, rfl⟩

set_option maxRecDepth 20000 in
set_option maxHeartbeats 1000000 in
theorem c_nat_less (x y : List Nat) (hl : y.length ≤ x.length) (hle : nval y ≤ nval x) : Fn Try.prog 70 [kN.is x, kN.is y] (kN.is (limbs (nval x - nval y))) := by
  refine Con.enter Try.func70 rfl rfl fun m w => ?_
  refine ST.fact (i := 0) rfl kN_lims fun l1 => ?_
  refine ST.fact (i := 1) rfl kN_lims fun l2 => ?_
  refine ST.fact (i := 0) rfl sl_len fun hB => ?_
  refine CW.seq ?_
  refine CW.region ?_
  refine WP.s .n (O.asg rfl) ?_
  refine WP.nil ?_
  refine QE.next ?_
  refine CW.seq ?_
  refine CW.region ?_
  refine WP.s .n (O.mv rfl) ?_
  refine WP.s .n (O.lenS rfl Try.underlying22) ?_
  refine WP.mk x.length .n rfl rfl rfl (by omega) Try.underlying22 el50_limb z50_limb fun v1 => ?_
  refine WP.s .n (O.asg rfl) ?_
  refine WP.nil ?_
  refine QE.next ?_
  refine CW.seq ?_
  refine CW.region ?_
  refine WP.s .n (O.asg rfl) ?_
  refine WP.nil ?_
  refine QE.next ?_
  refine CW.seq ?_
  refine CW.seq ?_
  refine CW.region ?_
  refine WP.s .n (O.mv rfl) ?_
  refine WP.s .n (O.lenS rfl Try.underlying22) ?_
  refine WP.s .n (O.mv rfl) ?_
  refine WP.nil ?_
  refine QE.next ?_
  refine CW.block ?_
  refine CW.loop3 (fun (r : List Nat) (c : Nat) (v : Value) => r.length ≤ x.length ∧ LessR x y r c) (fun (r : List Nat) (c : Nat) (v : Value) => [(0, kN.is x), (1, kN.is y), (5, VP.ex v), (6, (kInt .u64).is (c : Int)), (13, (kInt .i64).is (x.length : Int)), (14, (kInt .i64).is (r.length : Int))]) (fun (r : List Nat) (c : Nat) (v : Value) => [OB.row v 50 kLimb (fil x.length r)]) (fun (r : List Nat) (c : Nat) (v : Value) => x.length - r.length) [] 0 v1 ⟨Nat.zero_le _, lessR_0 x y⟩ (Imp.cons rfl (Imp.cons rfl (Imp.cons rfl (Imp.consLe rfl (is_eq (y := (0 : Int)) (by first | omega | simp)) (Imp.cons rfl (Imp.consLe rfl (is_eq (y := ([].length : Int)) (by first | omega | simp)) Imp.nil)))))) (OImp.os (.keepLe (OB.row_eq (fil_nil _)) .nil)) ?_
  intro r c v ⟨hr, hA⟩
  have hc := hA.2.1
  have hx := getD_lt l1 r.length
  have hy := getD_lt l2 r.length
  have hfl := fil_len (n := x.length) (r := r) (by omega)
  refine CW.seq ?_
  refine CW.region ?_
  refine WP.s .n (O.lt rfl rfl) ?_
  refine WP.nil ?_
  refine QE.next ?_
  refine CW.seq ?_
  refine CW.condD rfl (fun h_t15 => ?_) (fun h_t15 => ?_)
  · refine CW.skip ?_
    refine QE.next ?_
    refine CW.seq ?_
    refine CW.block ?_
    refine CW.seq ?_
    refine CW.region ?_
    refine WP.s .n (O.mv rfl) ?_
    refine WP.s .n (O.asg rfl) ?_
    refine WP.nil ?_
    refine QE.next ?_
    refine CW.seq ?_
    refine CW.region ?_
    refine WP.s .n (O.mv rfl) ?_
    refine WP.s .n (O.mv rfl) ?_
    refine WP.s .n (O.ix r.length rfl rfl Try.underlying22 ty50 rfl (v := (x.getD r.length 0)) (gd 0 (by omega))) ?_
    refine WP.s .n (OpOk.le (O.ldP rfl ty50) (limb_le _)) ?_
    refine WP.s .n (O.cvt rfl Try.underlying50 Try.underlying62 (c := ((x.getD r.length 0) : Int)) (wu64 (by omega))) ?_
    refine WP.s .n (O.mv rfl) ?_
    refine WP.s .n (O.sub rfl rfl (c := ((lessV c (x.getD r.length 0) 0 : Nat) : Int)) (less_sub1 hc hx)) ?_
    refine WP.s .n (O.asg rfl) ?_
    refine WP.nil ?_
    refine QE.next ?_
    refine CW.seq ?_
    refine CW.seq ?_
    refine CW.region ?_
    refine WP.s .n (O.mv rfl) ?_
    refine WP.s .n (O.mv rfl) ?_
    refine WP.s .n (O.lenS rfl Try.underlying22) ?_
    refine WP.s .n (O.lt rfl rfl) ?_
    refine WP.nil ?_
    refine QE.next ?_
    refine CW.condD rfl (fun h_t27 => ?_) (fun h_t27 => ?_)
    · refine CW.region ?_
      refine WP.s .n (O.mv rfl) ?_
      refine WP.s .n (O.mv rfl) ?_
      refine WP.s .n (O.mv rfl) ?_
      refine WP.s .n (O.ix r.length rfl rfl Try.underlying22 ty50 rfl (v := (y.getD r.length 0)) (gd 0 (by omega))) ?_
      refine WP.s .n (OpOk.le (O.ldP rfl ty50) (limb_le _)) ?_
      refine WP.s .n (O.cvt rfl Try.underlying50 Try.underlying62 (c := ((y.getD r.length 0) : Int)) (wu64 (by omega))) ?_
      refine WP.s .n (O.sub rfl rfl (c := ((lessV c (x.getD r.length 0) (y.getD r.length 0) : Nat) : Int)) (less_sub2 hc hx hy)) ?_
      refine WP.s .n (O.asg rfl) ?_
      refine WP.nil ?_
      refine QE.next ?_
      refine CW.seq ?_
      refine CW.region ?_
      refine WP.s .n (O.mv rfl) ?_
      refine WP.s .n (O.mv rfl) ?_
      refine WP.s .n (O.mv rfl) ?_
      refine WP.s .n (O.cvt rfl Try.underlying62 Try.underlying50 (c := ((lessV c (x.getD r.length 0) (y.getD r.length 0) % 4294967296 : Nat) : Int)) (wr32 rfl)) ?_
      refine WP.s .n (O.ixR (k := kLimb) (xs := fil x.length r) (n := (r.length : Int)) r.length rfl rfl (mem_at 0 rfl) Try.underlying22 ty50 rfl (by omega)) ?_
      refine WP.t .n (O.stR 0 r.length rfl rfl (Lens.id _) rfl (y0 := ((fil x.length r).getD r.length 0)) (gd 0 (by omega)) ty50 rfl (u32_limb (x := (lessV c (x.getD r.length 0) (y.getD r.length 0) % 4294967296 : Nat)) (by omega))) ?_
      refine WP.nil ?_
      refine QE.next ?_
      refine CW.region ?_
      refine WP.s .n (O.mv rfl) ?_
      refine WP.s .n (O.shr rfl rfl (by omega) (c := ((lessV c (x.getD r.length 0) (y.getD r.length 0) / 2 ^ 63 : Nat) : Int)) (shrN 63 rfl rfl (by decide))) ?_
      refine WP.s .n (O.asg rfl) ?_
      refine WP.nil ?_
      refine QE.blkN ?_
      refine QE.next ?_
      refine CW.region ?_
      refine WP.s .n (O.add rfl rfl (c := ((r.length : Int) + 1)) (w64 (by omega))) ?_
      refine WP.s .n (O.mv rfl) ?_
      refine WP.nil ?_
      exact QE.round3 (r ++ [lessV c (x.getD r.length 0) (y.getD r.length 0) % 4294967296]) (lessV c (x.getD r.length 0) (y.getD r.length 0) / 2 ^ 63) v (by simp; omega) ⟨by simp; omega, lessR_s l1 l2 hA⟩ (Imp.cons rfl (Imp.cons rfl (Imp.cons rfl (Imp.consLe rfl (is_eq (y := (((lessV c (x.getD r.length 0) (y.getD r.length 0) / 2 ^ 63) : Nat) : Int)) (by first | omega | simp)) (Imp.cons rfl (Imp.consLe rfl (is_eq (y := ((r ++ [lessV c (x.getD r.length 0) (y.getD r.length 0) % 4294967296]).length : Int)) (by first | omega | simp)) Imp.nil)))))) (OImp.os (.keepLe (OB.row_eq (fil_set (by omega))) .nil))
    · have hy0 := getD_out (l := y) (i := r.length) (by omega)
      refine ST.told 8 rfl (is_eq (y := ((lessV c (x.getD r.length 0) (y.getD r.length 0) : Nat) : Int)) (by rw [hy0])) ?_
      refine CW.skip ?_
      refine QE.next ?_
      refine CW.seq ?_
      refine CW.region ?_
      refine WP.s .n (O.mv rfl) ?_
      refine WP.s .n (O.mv rfl) ?_
      refine WP.s .n (O.mv rfl) ?_
      refine WP.s .n (O.cvt rfl Try.underlying62 Try.underlying50 (c := ((lessV c (x.getD r.length 0) (y.getD r.length 0) % 4294967296 : Nat) : Int)) (wr32 rfl)) ?_
      refine WP.s .n (O.ixR (k := kLimb) (xs := fil x.length r) (n := (r.length : Int)) r.length rfl rfl (mem_at 0 rfl) Try.underlying22 ty50 rfl (by omega)) ?_
      refine WP.t .n (O.stR 0 r.length rfl rfl (Lens.id _) rfl (y0 := ((fil x.length r).getD r.length 0)) (gd 0 (by omega)) ty50 rfl (u32_limb (x := (lessV c (x.getD r.length 0) (y.getD r.length 0) % 4294967296 : Nat)) (by omega))) ?_
      refine WP.nil ?_
      refine QE.next ?_
      refine CW.region ?_
      refine WP.s .n (O.mv rfl) ?_
      refine WP.s .n (O.shr rfl rfl (by omega) (c := ((lessV c (x.getD r.length 0) (y.getD r.length 0) / 2 ^ 63 : Nat) : Int)) (shrN 63 rfl rfl (by decide))) ?_
      refine WP.s .n (O.asg rfl) ?_
      refine WP.nil ?_
      refine QE.blkN ?_
      refine QE.next ?_
      refine CW.region ?_
      refine WP.s .n (O.add rfl rfl (c := ((r.length : Int) + 1)) (w64 (by omega))) ?_
      refine WP.s .n (O.mv rfl) ?_
      refine WP.nil ?_
      exact QE.round3 (r ++ [lessV c (x.getD r.length 0) (y.getD r.length 0) % 4294967296]) (lessV c (x.getD r.length 0) (y.getD r.length 0) / 2 ^ 63) v (by simp; omega) ⟨by simp; omega, lessR_s l1 l2 hA⟩ (Imp.cons rfl (Imp.cons rfl (Imp.cons rfl (Imp.consLe rfl (is_eq (y := (((lessV c (x.getD r.length 0) (y.getD r.length 0) / 2 ^ 63) : Nat) : Int)) (by first | omega | simp)) (Imp.cons rfl (Imp.consLe rfl (is_eq (y := ((r ++ [lessV c (x.getD r.length 0) (y.getD r.length 0) % 4294967296]).length : Int)) (by first | omega | simp)) Imp.nil)))))) (OImp.os (.keepLe (OB.row_eq (fil_set (by omega))) .nil))
  · refine CW.exit ?_
    refine QE.thenE ?_
    refine QE.thenE ?_
    refine QE.blkH ?_
    refine QE.next ?_
    refine CW.seq ?_
    have hrx : r.length = x.length := by omega
    refine ST.obtold (b' := OB.row v 50 kLimb r) 0 rfl (OB.row_eq (fil_full hrx)) ?_
    refine CW.region ?_
    refine WP.s .n (O.mv rfl) ?_
    refine ST.freeze 0 rfl (.keep (i := 0) rfl (.keep (i := 1) rfl (.hit (i := 5) rfl (.keep (i := 6) rfl (.keep (i := 13) rfl (.keep (i := 14) rfl (.keep (i := 15) rfl (.hit (i := 43) rfl .nil)))))))) ?_
    refine WP.s .n (O.fn fn49 (evs.c rfl evs.nil) (c_nat_trim r)) ?_
    refine WP.s .n (O.asg rfl) ?_
    refine WP.nil ?_
    refine QE.next ?_
    refine CW.ret ?_
    refine ST.told 4 rfl (is_eq (y := (limbs (nval x - nval y))) (by rw [lessR_end hA hrx hl hle])) ?_
    exact QE.done (.inl rfl) rfl (ResOk.t rfl ResOk.nil) (OImp.sub (List.nil_sublist _)) ⟨rfl, rfl⟩

set_option maxRecDepth 20000 in
set_option maxHeartbeats 1000000 in
theorem c_nat_Sub (a b : List Nat) : Fn Try.prog 48 [kN.is a, kN.is b] (VP.tup [kN.is (if nval a < nval b then [] else limbs (nval a - nval b)), (kInt .i64).is (if nval a < nval b then 10 else 0)]) := by
  refine Con.enter Try.func48 rfl rfl fun m w => ?_
  refine CW.seq ?_
  refine CW.region ?_
  refine WP.s .n (O.asg rfl) ?_
  refine WP.s .n (O.asg rfl) ?_
  refine WP.nil ?_
  refine QE.next ?_
  refine CW.seq ?_
  refine CW.seq ?_
  refine CW.region ?_
  refine WP.s .n (O.mv rfl) ?_
  refine WP.s .n (O.mv rfl) ?_
  refine WP.s .n (O.fn fn35 (evs.c rfl (evs.c rfl evs.nil)) (c_nat_Cmp a b)) ?_
  refine WP.s .n (O.lt rfl rfl) ?_
  refine WP.nil ?_
  refine QE.next ?_
  refine CW.condD rfl (fun h_t9 => ?_) (fun h_t9 => ?_)
  · refine CW.seq ?_
    refine CW.region ?_
    refine WP.s .n (O.asg rfl) ?_
    refine WP.s .n (O.asg rfl) ?_
    refine WP.nil ?_
    refine QE.next ?_
    refine CW.ret ?_
    refine QE.thenR ?_
    refine ST.told (q := kN.is ([] : List Nat)) 4 rfl (nil_le _) ?_
    refine ST.told 4 rfl (is_eq (y := (if nval a < nval b then [] else limbs (nval a - nval b))) (by rw [if_pos (cmpI_lt h_t9)])) ?_
    refine ST.told 5 rfl (is_eq (y := (if nval a < nval b then 10 else 0)) (by rw [if_pos (cmpI_lt h_t9)])) ?_
    exact QE.done (.inl rfl) rfl (ResOk.t rfl (ResOk.t rfl ResOk.nil)) (OImp.sub (List.nil_sublist _)) ⟨rfl, rfl⟩
  · refine CW.skip ?_
    refine QE.next ?_
    refine CW.seq ?_
    refine CW.region ?_
    refine WP.s .n (O.mv rfl) ?_
    refine WP.s .n (O.fn fn49 (evs.c rfl evs.nil) (c_nat_trim a)) ?_
    refine WP.s .n (O.mv rfl) ?_
    refine WP.s .n (O.fn fn49 (evs.c rfl evs.nil) (c_nat_trim b)) ?_
    refine WP.s .n (O.fn fn70 (evs.c rfl (evs.c rfl evs.nil)) (c_nat_less (limbs (nval a)) (limbs (nval b)) (limbs_mono (by have := cmpI_ge h_t9; omega)) (by rw [nval_limbs, nval_limbs]; exact cmpI_ge h_t9))) ?_
    refine WP.s .n (O.asg rfl) ?_
    refine WP.s .n (O.asg rfl) ?_
    refine WP.nil ?_
    refine QE.next ?_
    refine CW.ret ?_
    refine ST.told 4 rfl (is_eq (y := (if nval a < nval b then [] else limbs (nval a - nval b))) (by rw [if_neg (Nat.not_lt.2 (cmpI_ge h_t9)), nval_limbs, nval_limbs])) ?_
    refine ST.told 5 rfl (is_eq (y := (if nval a < nval b then 10 else 0)) (by rw [if_neg (Nat.not_lt.2 (cmpI_ge h_t9))])) ?_
    exact QE.done (.inl rfl) rfl (ResOk.t rfl (ResOk.t rfl ResOk.nil)) (OImp.sub (List.nil_sublist _)) ⟨rfl, rfl⟩

end Fw


/- Plain facts on whole numbers: what the functions of layer 2 rest on. -/
set_option linter.unusedVariables false
set_option linter.unusedSimpArgs false
set_option exponentiation.threshold 70
namespace Fw

theorem ival_neg {b : Bool} {l : List Nat} (h : b = true) : ival (b, l) = -(nval l : Int) := by simp [ival, h]
theorem ival_pos {b : Bool} {l : List Nat} (h : b = false) : ival (b, l) = (nval l : Int) := by simp [ival, h]
theorem ival_abs (y : Bool × List Nat) : (ival y).natAbs = nval y.2 := by
  unfold ival; split <;> simp
theorem ival0 {y : Bool × List Nat} (h : nval y.2 = 0) : ival y = 0 := by
  unfold ival; split <;> simp [h]
theorem bitlen_0 {n : Nat} : bitlen n = 0 ↔ n = 0 := by
  constructor
  · intro h
    by_cases h0 : n = 0
    · exact h0
    · simp [bitlen, h0] at h
  · intro h; subst h; rfl
theorem sign_0 {y : Bool × List Nat} (h : (bitlen (nval y.2) : Int) = 0) : 0 = (ival y).sign := by
  rw [ival0 (bitlen_0.1 (by omega))]; rfl
theorem sign_neg {y : Bool × List Nat} (h : ¬ (bitlen (nval y.2) : Int) = 0) (hb : y.1 = true) : (-1) = (ival y).sign := by
  have : nval y.2 ≠ 0 := fun h0 => h (by rw [bitlen_0.2 h0]; rfl)
  unfold ival; rw [if_pos hb]
  rw [Int.sign_neg, Int.sign_eq_one_of_pos (by omega)]
theorem sign_pos {y : Bool × List Nat} (h : ¬ (bitlen (nval y.2) : Int) = 0) (hb : y.1 = false) : 1 = (ival y).sign := by
  have : nval y.2 ≠ 0 := fun h0 => h (by rw [bitlen_0.2 h0]; rfl)
  unfold ival; rw [if_neg (by simp [hb])]
  rw [Int.sign_eq_one_of_pos (by omega)]
theorem limbs0 {n : Nat} (h : (limbs n).length = 0) : n = 0 := by
  by_cases h0 : n = 0
  · exact h0
  · rw [limbs_pos h0] at h; simp at h
theorem made_zero {b : Bool} {l : List Nat} (h : nval l = 0) : (0 : Int) = ival (b, l) := (ival0 (y := (b, l)) h).symm
theorem canon_of {b : Bool} {l : List Nat} (h : nval l ≠ 0) : (b, limbs (nval l)) = canon (ival (b, l)) := by
  cases b with
  | true =>
    rw [ival_neg rfl]
    simp only [canon, Int.natAbs_neg, Int.natAbs_natCast, Prod.mk.injEq, and_true]
    rw [eq_comm, decide_eq_true_iff]
    omega
  | false =>
    rw [ival_pos rfl]
    simp only [canon, Int.natAbs_natCast, Prod.mk.injEq, and_true]
    rw [eq_comm, decide_eq_false_iff_not]
    omega
theorem copy_take {l : List Nat} {i : Nat} (h : i ≤ l.length) : l.take (min l.length (List.replicate i 0).length) ++ (List.replicate i 0).drop (min l.length (List.replicate i 0).length) = l.take i := by
  rw [List.length_replicate, Nat.min_eq_right h, List.drop_of_length_le (by simp), List.append_nil]
theorem add_same {p q : Bool × List Nat} (h : p.1 = q.1) : ival (p.1, limbs (nval p.2 + nval q.2)) = ival p + ival q := by
  unfold ival
  simp only [nval_limbs, ← h]
  split <;> omega
theorem add_ge {p q : Bool × List Nat} (h : p.1 ≠ q.1) (hc : ¬ cmpI (nval p.2) (nval q.2) < 0) : ival (p.1, if nval p.2 < nval q.2 then [] else limbs (nval p.2 - nval q.2)) = ival p + ival q := by
  have := cmpI_ge hc
  rw [if_neg (by omega)]
  unfold ival
  simp only [nval_limbs]
  cases hp : p.1 <;> cases hq : q.1 <;> simp_all <;> omega
theorem add_lt {p q : Bool × List Nat} (h : p.1 ≠ q.1) (hc : cmpI (nval p.2) (nval q.2) < 0) : ival (q.1, if nval q.2 < nval p.2 then [] else limbs (nval q.2 - nval p.2)) = ival p + ival q := by
  have := cmpI_lt hc
  rw [if_neg (by omega)]
  unfold ival
  simp only [nval_limbs]
  cases hp : p.1 <;> cases hq : q.1 <;> simp_all <;> omega
theorem copy_len (i : Nat) : (List.replicate i 0).length = i := List.length_replicate
theorem made_nz {l : List Nat} {i : Nat} (hlim : l.take i = limbs (nval l)) (hi : i ≤ l.length) (h : i ≠ 0) : nval l ≠ 0 := fun h0 => by
  rw [h0, limbs_zero] at hlim
  have := congrArg List.length hlim
  rw [List.length_take, List.length_nil] at this
  omega
end Fw


/- What the functions of layer 2 answer: Sign, Bits, Add and what they rest on. -/
set_option linter.unusedVariables false
set_option linter.unusedSimpArgs false
set_option exponentiation.threshold 70
namespace Fw
open Go Go.Proofs

set_option maxRecDepth 20000 in
set_option maxHeartbeats 1000000 in
theorem c_zint_Sign (z : Int) : Fn Try.prog 18 [kZ.is z] ((kInt .i64).is z.sign) := by
  refine Con.enter Try.func18 rfl rfl fun m w => ?_
  refine ST.z 0 rfl fun y y_v y_n y_l => ?_
  refine CW.seq ?_
  refine CW.region ?_
  refine WP.bx .n rfl fun b1 => ?_
  refine WP.s .n (O.asg rfl) ?_
  refine WP.nil ?_
  refine QE.next ?_
  refine CW.seq ?_
  refine CW.block ?_
  refine CW.seq ?_
  refine CW.region ?_
  refine WP.s .n (O.fa rfl fld24_1 rfl) ?_
  refine WP.s .n (O.ld rfl (mem_at 0 rfl) (Lens.snd (Lens.id _)) ty22 rfl) ?_
  refine WP.s .n (O.fn fn36 (evs.c rfl evs.nil) (c_nat_Bits y.2)) ?_
  refine WP.s .n (O.eq rfl rfl) ?_
  refine WP.s .n (O.asg rfl) ?_
  refine WP.nil ?_
  refine QE.next ?_
  refine CW.condD rfl (fun h_t3 => ?_) (fun h_t3 => ?_)
  · refine CW.seq ?_
    refine CW.region ?_
    refine WP.s .n (O.asg rfl) ?_
    refine WP.nil ?_
    refine QE.next ?_
    refine CW.ret ?_
    refine QE.blkR ?_
    refine QE.thenR ?_
    refine ST.told 2 rfl (is_eq (y := z.sign) (by rw [← y_v]; exact sign_0 h_t3)) ?_
    exact QE.done (.inl rfl) rfl (ResOk.t rfl ResOk.nil) (OImp.sub (List.nil_sublist _)) ⟨rfl, rfl⟩
  · refine CW.seq ?_
    refine CW.region ?_
    refine WP.s .n (O.fa rfl fld24_0 rfl) ?_
    refine WP.s .n (O.ld rfl (mem_at 0 rfl) (Lens.fst (Lens.id _)) ty4 rfl) ?_
    refine WP.s .n (O.asg rfl) ?_
    refine WP.nil ?_
    refine QE.next ?_
    refine CW.cond rfl (fun h_t8 => ?_) (fun h_t8 => ?_)
    · refine CW.seq ?_
      refine CW.region ?_
      refine WP.s .n (O.asg rfl) ?_
      refine WP.nil ?_
      refine QE.next ?_
      refine CW.ret ?_
      refine QE.blkR ?_
      refine QE.thenR ?_
      refine ST.told 2 rfl (is_eq (y := z.sign) (by rw [← y_v]; exact sign_neg h_t3 h_t8)) ?_
      exact QE.done (.inl rfl) rfl (ResOk.t rfl ResOk.nil) (OImp.sub (List.nil_sublist _)) ⟨rfl, rfl⟩
    · refine CW.skip ?_
      refine QE.blkN ?_
      refine QE.next ?_
      refine CW.seq ?_
      refine CW.region ?_
      refine WP.s .n (O.asg rfl) ?_
      refine WP.nil ?_
      refine QE.next ?_
      refine CW.ret ?_
      refine ST.told 2 rfl (is_eq (y := z.sign) (by rw [← y_v]; exact sign_pos h_t3 h_t8)) ?_
      exact QE.done (.inl rfl) rfl (ResOk.t rfl ResOk.nil) (OImp.sub (List.nil_sublist _)) ⟨rfl, rfl⟩

set_option maxRecDepth 20000 in
set_option maxHeartbeats 1000000 in
theorem c_zint_Bits (z : Int) : Fn Try.prog 76 [kZ.is z] ((kInt .i64).is (bitlen z.natAbs : Int)) := by
  refine Con.enter Try.func76 rfl rfl fun m w => ?_
  refine ST.z 0 rfl fun y y_v y_n y_l => ?_
  refine CW.seq ?_
  refine CW.region ?_
  refine WP.bx .n rfl fun b1 => ?_
  refine WP.s .n (O.asg rfl) ?_
  refine WP.nil ?_
  refine QE.next ?_
  refine CW.seq ?_
  refine CW.region ?_
  refine WP.s .n (O.fa rfl fld24_1 rfl) ?_
  refine WP.s .n (O.ld rfl (mem_at 0 rfl) (Lens.snd (Lens.id _)) ty22 rfl) ?_
  refine WP.s .n (O.fn fn36 (evs.c rfl evs.nil) (c_nat_Bits y.2)) ?_
  refine WP.s .n (O.asg rfl) ?_
  refine WP.nil ?_
  refine QE.next ?_
  refine CW.ret ?_
  refine ST.told 2 rfl (is_eq (y := (bitlen z.natAbs : Int)) (by rw [← y_v, ival_abs])) ?_
  exact QE.done (.inl rfl) rfl (ResOk.t rfl ResOk.nil) (OImp.sub (List.nil_sublist _)) ⟨rfl, rfl⟩

set_option maxRecDepth 20000 in
set_option maxHeartbeats 1000000 in
theorem c_zint_made (b : Bool) (l : List Nat) : Fn Try.prog 27 [kBool.is b, kN.is l] (kC.is (ival (b, l))) := by
  refine Con.enter Try.func27 rfl rfl fun m w => ?_
  refine ST.fact (i := 1) rfl sl_len fun hB => ?_
  refine ST.fact (i := 1) rfl kN_lims fun hL => ?_
  refine CW.seq ?_
  refine CW.region ?_
  refine WP.al .n z24_C fun b1 => ?_
  refine WP.nil ?_
  refine QE.next ?_
  refine CW.seq ?_
  refine CW.region ?_
  refine WP.s .n (O.mv rfl) ?_
  refine WP.s .n (O.lenS rfl Try.underlying22) ?_
  refine WP.s .n (O.asg rfl) ?_
  refine WP.nil ?_
  refine QE.next ?_
  refine CW.seq ?_
  refine CW.block ?_
  refine CW.loop (fun (i : Nat) => i ≤ l.length ∧ nval (l.take i) = nval l) (fun (i : Nat) => [(0, kBool.is b), (1, kN.is l), (4, VP.ex (.pointer (some ⟨b1, 0, none⟩))), (5, (kInt .i64).is (i : Int))]) (fun (i : Nat) => [OB.box b1 24 kC 0]) (fun (i : Nat) => i) l.length ⟨Nat.le_refl _, by rw [List.take_length]⟩ (Imp.cons rfl (Imp.cons rfl (Imp.cons rfl (Imp.consLe rfl (is_eq (y := ((l.length : Nat) : Int)) (by omega)) Imp.nil)))) (OImp.refl _) ?_
  intro i ⟨hi, hr⟩
  refine CW.seq ?_
  refine CW.seq ?_
  refine CW.region ?_
  refine WP.s .n (O.mv rfl) ?_
  refine WP.s .n (O.gt rfl rfl) ?_
  refine WP.s .n (O.mv rfl) ?_
  refine WP.splitD 11 rfl (fun h_t11 => ?_) (fun h_t11 => ?_)
  · have h_t11' : 0 < i := by omega
    refine WP.s (.g rfl rfl) (O.mv rfl) ?_
    refine WP.s (.g rfl rfl) (O.mv rfl) ?_
    refine WP.s (.g rfl rfl) (O.sub rfl rfl (c := ((i : Int) - 1)) (w64 (by omega))) ?_
    refine WP.s (.g rfl rfl) (O.ix (i - 1) rfl rfl Try.underlying22 ty50 (by omega) (v := (l.getD (i - 1) 0)) (gd 0 (by omega))) ?_
    refine WP.s (.g rfl rfl) (OpOk.le (O.ldP rfl ty50) (limb_le _)) ?_
    refine WP.s (.g rfl rfl) (O.eq rfl rfl) ?_
    refine WP.s .n (O.pickT rfl rfl) ?_
    refine WP.nil ?_
    refine QE.next ?_
    refine CW.condD rfl (fun h_t18 => ?_) (fun h_t18 => ?_)
    · refine CW.skip ?_
      refine QE.next ?_
      refine CW.block ?_
      refine CW.region ?_
      refine WP.s .n (O.mv rfl) ?_
      refine WP.s .n (O.sub rfl rfl (c := ((i : Int) - 1)) (w64 (by omega))) ?_
      refine WP.s .n (O.asg rfl) ?_
      refine WP.nil ?_
      refine QE.blkN ?_
      exact QE.round (i - 1) (by omega) ⟨by omega, (trim_down hi h_t11' (by rw [getD_take (by omega)]; exact h_t18)).trans hr⟩ (Imp.cons rfl (Imp.cons rfl (Imp.cons rfl (Imp.consLe rfl (is_eq (y := (((i - 1) : Nat) : Int)) (by omega)) Imp.nil)))) (OImp.refl _)
    · refine CW.exit ?_
      refine QE.thenE ?_
      refine QE.thenE ?_
      refine QE.blkH ?_
      refine QE.next ?_
      refine CW.seq ?_
      refine CW.seq ?_
      have hlim : l.take i = limbs (nval l) := trim_stop hL hi h_t11' (by rw [getD_take (by omega)]; exact h_t18) hr
      refine CW.region ?_
      refine WP.s .n (O.mv rfl) ?_
      refine WP.s .n (O.eq rfl rfl) ?_
      refine WP.nil ?_
      refine QE.next ?_
      refine CW.condD rfl (fun h_t22 => ?_) (fun h_t22 => ?_)
      · refine CW.seq ?_
        have hz : nval l = 0 := by rw [← hr, show i = 0 from by omega]; rfl
        refine CW.region ?_
        refine WP.s .n (O.bld lit24_C rfl evp.n (.nil _)) ?_
        refine WP.t .n (O.stW (l := kC) (u := 0) 0 rfl rfl rfl ty24 rfl (VP.le_refl _)) ?_
        refine WP.nil ?_
        refine QE.next ?_
        refine CW.ret ?_
        refine QE.thenR ?_
        refine ST.obtold 0 rfl (OB.box_eq (y := (ival (b, l))) (made_zero hz)) ?_
        exact QE.done (.inl rfl) rfl (ResOk.c rfl (mem_at 0 rfl) ty24 ResOk.nil) (OImp.sub (List.nil_sublist _)) ⟨rfl, rfl⟩
      · refine CW.skip ?_
        refine QE.next ?_
        refine CW.seq ?_
        have hz : nval l ≠ 0 := made_nz hlim hi (by omega)
        have hcl := copy_len i
        refine CW.region ?_
        refine WP.s .n (O.mv rfl) ?_
        refine WP.mk i .n rfl rfl rfl (by omega) Try.underlying22 el50_limb z50_limb fun v2 => ?_
        refine WP.s .n (O.asg rfl) ?_
        refine WP.nil ?_
        refine QE.next ?_
        refine CW.seq ?_
        refine CW.region ?_
        refine WP.s .n (O.mv rfl) ?_
        refine WP.s .n (O.mv rfl) ?_
        refine WP.s .n (O.cp 0 rfl rfl rfl (VP.le_refl _) Try.underlying22 el50_limb) ?_
        refine WP.nil ?_
        refine QE.next ?_
        refine CW.seq ?_
        refine ST.obtold 0 rfl (OB.row_eq (ys := (l.take i)) (copy_take hi)) ?_
        refine ST.freeze 0 rfl (.keep (i := 0) rfl (.keep (i := 1) rfl (.keep (i := 4) rfl (.keep (i := 5) rfl (.hit (i := 6) rfl (.keep (i := 9) rfl (.keep (i := 10) rfl (.keep (i := 11) rfl (.keep (i := 12) rfl (.keep (i := 13) rfl (.keep (i := 14) rfl (.keep (i := 15) rfl (.keep (i := 16) rfl (.keep (i := 17) rfl (.keep (i := 18) rfl (.keep (i := 21) rfl (.keep (i := 22) rfl (.keep (i := 24) rfl (.hit (i := 25) rfl (.hit (i := 26) rfl (.keep (i := 27) rfl (.keep (i := 28) rfl .nil)))))))))))))))))))))) ?_
        refine CW.region ?_
        refine WP.s .n (O.mv rfl) ?_
        refine WP.s .n (O.mv rfl) ?_
        refine WP.s .n (O.bld lit24_I rfl (evp.c rfl (evp.c rfl evp.n)) (.cons rfl (Lens.fst (Lens.id _)) (.cons rfl (Lens.snd (Lens.id _)) (.nil _)))) ?_
        refine WP.t .n (O.stW (l := kI) (u := (b, (l.take i))) 0 rfl rfl rfl ty24 rfl (VP.le_refl _)) ?_
        refine WP.nil ?_
        refine QE.next ?_
        refine CW.ret ?_
        refine ST.obtold (b' := OB.box b1 24 kC (ival (b, l))) 0 rfl (OB.I_C (by rw [hlim]; exact canon_of hz)) ?_
        exact QE.done (.inl rfl) rfl (ResOk.c rfl (mem_at 0 rfl) ty24 ResOk.nil) (OImp.sub (List.nil_sublist _)) ⟨rfl, rfl⟩
  · refine WP.k (b := false) rfl rfl ?_
    refine WP.k (b := false) rfl rfl ?_
    refine WP.k (b := false) rfl rfl ?_
    refine WP.k (b := false) rfl rfl ?_
    refine WP.k (b := false) rfl rfl ?_
    refine WP.k (b := false) rfl rfl ?_
    refine WP.s .n (O.pickF rfl rfl) ?_
    refine WP.nil ?_
    refine QE.next ?_
    refine CW.condF rfl ?_
    refine CW.exit ?_
    refine QE.thenE ?_
    refine QE.thenE ?_
    refine QE.blkH ?_
    refine QE.next ?_
    refine CW.seq ?_
    refine CW.seq ?_
    have hlim : l.take i = limbs (nval l) := trim_stop0 hr (by omega)
    refine CW.region ?_
    refine WP.s .n (O.mv rfl) ?_
    refine WP.s .n (O.eq rfl rfl) ?_
    refine WP.nil ?_
    refine QE.next ?_
    refine CW.condD rfl (fun h_t22 => ?_) (fun h_t22 => ?_)
    · refine CW.seq ?_
      have hz : nval l = 0 := by rw [← hr, show i = 0 from by omega]; rfl
      refine CW.region ?_
      refine WP.s .n (O.bld lit24_C rfl evp.n (.nil _)) ?_
      refine WP.t .n (O.stW (l := kC) (u := 0) 0 rfl rfl rfl ty24 rfl (VP.le_refl _)) ?_
      refine WP.nil ?_
      refine QE.next ?_
      refine CW.ret ?_
      refine QE.thenR ?_
      refine ST.obtold 0 rfl (OB.box_eq (y := (ival (b, l))) (made_zero hz)) ?_
      exact QE.done (.inl rfl) rfl (ResOk.c rfl (mem_at 0 rfl) ty24 ResOk.nil) (OImp.sub (List.nil_sublist _)) ⟨rfl, rfl⟩
    · refine CW.skip ?_
      refine QE.next ?_
      refine CW.seq ?_
      have hz : nval l ≠ 0 := made_nz hlim hi (by omega)
      have hcl := copy_len i
      refine CW.region ?_
      refine WP.s .n (O.mv rfl) ?_
      refine WP.mk i .n rfl rfl rfl (by omega) Try.underlying22 el50_limb z50_limb fun v3 => ?_
      refine WP.s .n (O.asg rfl) ?_
      refine WP.nil ?_
      refine QE.next ?_
      refine CW.seq ?_
      refine CW.region ?_
      refine WP.s .n (O.mv rfl) ?_
      refine WP.s .n (O.mv rfl) ?_
      refine WP.s .n (O.cp 0 rfl rfl rfl (VP.le_refl _) Try.underlying22 el50_limb) ?_
      refine WP.nil ?_
      refine QE.next ?_
      refine CW.seq ?_
      refine ST.obtold 0 rfl (OB.row_eq (ys := (l.take i)) (copy_take hi)) ?_
      refine ST.freeze 0 rfl (.keep (i := 0) rfl (.keep (i := 1) rfl (.keep (i := 4) rfl (.keep (i := 5) rfl (.hit (i := 6) rfl (.keep (i := 9) rfl (.keep (i := 10) rfl (.keep (i := 11) rfl (.keep (i := 12) rfl (.keep (i := 13) rfl (.keep (i := 14) rfl (.keep (i := 15) rfl (.keep (i := 16) rfl (.keep (i := 17) rfl (.keep (i := 18) rfl (.keep (i := 21) rfl (.keep (i := 22) rfl (.keep (i := 24) rfl (.hit (i := 25) rfl (.hit (i := 26) rfl (.keep (i := 27) rfl (.keep (i := 28) rfl .nil)))))))))))))))))))))) ?_
      refine CW.region ?_
      refine WP.s .n (O.mv rfl) ?_
      refine WP.s .n (O.mv rfl) ?_
      refine WP.s .n (O.bld lit24_I rfl (evp.c rfl (evp.c rfl evp.n)) (.cons rfl (Lens.fst (Lens.id _)) (.cons rfl (Lens.snd (Lens.id _)) (.nil _)))) ?_
      refine WP.t .n (O.stW (l := kI) (u := (b, (l.take i))) 0 rfl rfl rfl ty24 rfl (VP.le_refl _)) ?_
      refine WP.nil ?_
      refine QE.next ?_
      refine CW.ret ?_
      refine ST.obtold (b' := OB.box b1 24 kC (ival (b, l))) 0 rfl (OB.I_C (by rw [hlim]; exact canon_of hz)) ?_
      exact QE.done (.inl rfl) rfl (ResOk.c rfl (mem_at 0 rfl) ty24 ResOk.nil) (OImp.sub (List.nil_sublist _)) ⟨rfl, rfl⟩

set_option maxRecDepth 20000 in
set_option maxHeartbeats 1000000 in
theorem c_zint_Add (x y : Int) : Fn Try.prog 32 [kZ.is x, kZ.is y] (kC.is (x + y)) := by
  refine Con.enter Try.func32 rfl rfl fun m w => ?_
  refine ST.z 0 rfl fun p p_v p_n p_l => ?_
  refine ST.z 1 rfl fun q q_v q_n q_l => ?_
  refine CW.seq ?_
  refine CW.region ?_
  refine WP.bx .n rfl fun b1 => ?_
  refine WP.bx .n rfl fun b2 => ?_
  refine WP.al .n z24_C fun b3 => ?_
  refine WP.nil ?_
  refine QE.next ?_
  refine CW.seq ?_
  refine CW.seq ?_
  refine CW.region ?_
  refine WP.s .n (O.fa rfl fld24_0 rfl) ?_
  refine WP.s .n (O.ld rfl (mem_at 2 rfl) (Lens.fst (Lens.id _)) ty4 rfl) ?_
  refine WP.s .n (O.fa rfl fld24_0 rfl) ?_
  refine WP.s .n (O.ld rfl (mem_at 1 rfl) (Lens.fst (Lens.id _)) ty4 rfl) ?_
  refine WP.s .n (O.eqB rfl rfl Try.underlying4) ?_
  refine WP.nil ?_
  refine QE.next ?_
  refine CW.condD rfl (fun h_t11 => ?_) (fun h_t11 => ?_)
  · refine CW.seq ?_
    refine CW.draw (Γ := [.fr (VP.ex (.pointer (some ⟨b1, 0, none⟩))), .fr (kBool.is p.1), .fr (VP.ex (.pointer (some ⟨b1, 1, none⟩))), .fr (kN.is p.2), .fr (VP.ex (.pointer (some ⟨b2, 1, none⟩))), .fr (kN.is q.2), .fr (kN.is (limbs (nval p.2 + nval q.2))), .fr (kC.is (ival (p.1, (limbs (nval p.2 + nval q.2)))))]) (lates := [false, false, false, false, false, false, false, false]) (by kernel_rfl) (Chk.of rfl (by kernel_rfl) rfl) (fun _ _ _ _ _ h => h) (fun q_ x_ h_ => ?_) (fun σ => ?_)
    · match q_, h_ with
      | 0, h_ => cases h_; exact Ob.f rfl .n fun N => (O.fa rfl fld24_0 rfl)
      | 1, h_ => cases h_; exact Ob.f rfl .n fun N => (O.ld rfl (mem_app N (mem_at 2 rfl)) (Lens.fst (Lens.id _)) ty4 rfl)
      | 2, h_ => cases h_; exact Ob.f rfl .n fun N => (O.fa rfl fld24_1 rfl)
      | 3, h_ => cases h_; exact Ob.f rfl .n fun N => (O.ld rfl (mem_app N (mem_at 2 rfl)) (Lens.snd (Lens.id _)) ty22 rfl)
      | 4, h_ => cases h_; exact Ob.f rfl .n fun N => (O.fa rfl fld24_1 rfl)
      | 5, h_ => cases h_; exact Ob.f rfl .n fun N => (O.ld rfl (mem_app N (mem_at 1 rfl)) (Lens.snd (Lens.id _)) ty22 rfl)
      | 6, h_ => cases h_; exact Ob.f rfl .n fun N => (O.fn fn47 (evs.c rfl (evs.c rfl evs.nil)) (c_nat_Add p.2 q.2 (by omega) (by omega)))
      | 7, h_ => cases h_; exact Ob.f rfl .n fun N => (O.fn fn27 (evs.c rfl (evs.c rfl evs.nil)) (c_zint_made p.1 (limbs (nval p.2 + nval q.2))))
      | n_ + 8, h_ => simp at h_
    refine WP.t .n (O.stW (l := kC) (u := ival (p.1, (limbs (nval p.2 + nval q.2)))) 0 rfl rfl rfl ty24 rfl (VP.le_refl _)) ?_
    refine WP.nil ?_
    refine QE.next ?_
    refine CW.ret ?_
    refine QE.thenR ?_
    exact QE.done (.inl rfl) rfl (ResOk.cl rfl (mem_at 0 rfl) ty24 (is_eq (y := x + y) (by first | omega | assumption | (rw [← p_v, ← q_v]; first | exact add_same h_t11 | exact add_ge h_t11 h_t25 | exact add_lt h_t11 h_t25))) ResOk.nil) (OImp.sub (List.nil_sublist _)) ⟨rfl, rfl⟩
  · refine CW.skip ?_
    refine QE.next ?_
    refine CW.seq ?_
    refine CW.seq ?_
    refine CW.region ?_
    refine WP.s .n (O.fa rfl fld24_1 rfl) ?_
    refine WP.s .n (O.ld rfl (mem_at 2 rfl) (Lens.snd (Lens.id _)) ty22 rfl) ?_
    refine WP.s .n (O.fa rfl fld24_1 rfl) ?_
    refine WP.s .n (O.ld rfl (mem_at 1 rfl) (Lens.snd (Lens.id _)) ty22 rfl) ?_
    refine WP.s .n (O.fn fn35 (evs.c rfl (evs.c rfl evs.nil)) (c_nat_Cmp p.2 q.2)) ?_
    refine WP.s .n (O.lt rfl rfl) ?_
    refine WP.nil ?_
    refine QE.next ?_
    refine CW.condD rfl (fun h_t25 => ?_) (fun h_t25 => ?_)
    · refine CW.region ?_
      refine WP.s .n (O.ld rfl (mem_at 1 rfl) (Lens.id _) ty24 rfl) ?_
      refine WP.s .n (O.ld rfl (mem_at 2 rfl) (Lens.id _) ty24 rfl) ?_
      refine WP.t .n (O.stW (l := kI) (u := (q.1, q.2)) 2 rfl rfl rfl ty24 rfl (VP.le_refl _)) ?_
      refine WP.t .n (O.stW (l := kI) (u := (p.1, p.2)) 1 rfl rfl rfl ty24 rfl (VP.le_refl _)) ?_
      refine WP.nil ?_
      refine QE.next ?_
      refine CW.seq ?_
      refine CW.region ?_
      refine WP.s .n (O.fa rfl fld24_1 rfl) ?_
      refine WP.s .n (O.ld rfl (mem_at 2 rfl) (Lens.snd (Lens.id _)) ty22 rfl) ?_
      refine WP.s .n (O.fa rfl fld24_1 rfl) ?_
      refine WP.s .n (O.ld rfl (mem_at 1 rfl) (Lens.snd (Lens.id _)) ty22 rfl) ?_
      refine WP.s .n (O.fn fn48 (evs.c rfl (evs.c rfl evs.nil)) (c_nat_Sub q.2 p.2)) ?_
      refine WP.s .n (O.mv rfl) ?_
      refine WP.s .n (O.ext rfl rfl) ?_
      refine WP.s .n (O.ext rfl rfl) ?_
      refine WP.s .n (O.asg rfl) ?_
      refine WP.s .n (O.asg rfl) ?_
      refine WP.nil ?_
      refine QE.next ?_
      refine CW.seq ?_
      refine CW.region ?_
      refine WP.s .n (O.fa rfl fld24_0 rfl) ?_
      refine WP.s .n (O.ld rfl (mem_at 2 rfl) (Lens.fst (Lens.id _)) ty4 rfl) ?_
      refine WP.s .n (O.mv rfl) ?_
      refine WP.s .n (O.fn fn27 (evs.c rfl (evs.c rfl evs.nil)) (c_zint_made q.1 (if nval q.2 < nval p.2 then [] else limbs (nval q.2 - nval p.2)))) ?_
      refine WP.t .n (O.stW (l := kC) (u := ival (q.1, (if nval q.2 < nval p.2 then [] else limbs (nval q.2 - nval p.2)))) 0 rfl rfl rfl ty24 rfl (VP.le_refl _)) ?_
      refine WP.nil ?_
      refine QE.next ?_
      refine CW.ret ?_
      exact QE.done (.inl rfl) rfl (ResOk.cl rfl (mem_at 0 rfl) ty24 (is_eq (y := x + y) (by first | omega | assumption | (rw [← p_v, ← q_v]; first | exact add_same h_t11 | exact add_ge h_t11 h_t25 | exact add_lt h_t11 h_t25))) ResOk.nil) (OImp.sub (List.nil_sublist _)) ⟨rfl, rfl⟩
    · refine CW.skip ?_
      refine QE.next ?_
      refine CW.seq ?_
      refine CW.region ?_
      refine WP.s .n (O.fa rfl fld24_1 rfl) ?_
      refine WP.s .n (O.ld rfl (mem_at 2 rfl) (Lens.snd (Lens.id _)) ty22 rfl) ?_
      refine WP.s .n (O.fa rfl fld24_1 rfl) ?_
      refine WP.s .n (O.ld rfl (mem_at 1 rfl) (Lens.snd (Lens.id _)) ty22 rfl) ?_
      refine WP.s .n (O.fn fn48 (evs.c rfl (evs.c rfl evs.nil)) (c_nat_Sub p.2 q.2)) ?_
      refine WP.s .n (O.mv rfl) ?_
      refine WP.s .n (O.ext rfl rfl) ?_
      refine WP.s .n (O.ext rfl rfl) ?_
      refine WP.s .n (O.asg rfl) ?_
      refine WP.s .n (O.asg rfl) ?_
      refine WP.nil ?_
      refine QE.next ?_
      refine CW.seq ?_
      refine CW.region ?_
      refine WP.s .n (O.fa rfl fld24_0 rfl) ?_
      refine WP.s .n (O.ld rfl (mem_at 2 rfl) (Lens.fst (Lens.id _)) ty4 rfl) ?_
      refine WP.s .n (O.mv rfl) ?_
      refine WP.s .n (O.fn fn27 (evs.c rfl (evs.c rfl evs.nil)) (c_zint_made p.1 (if nval p.2 < nval q.2 then [] else limbs (nval p.2 - nval q.2)))) ?_
      refine WP.t .n (O.stW (l := kC) (u := ival (p.1, (if nval p.2 < nval q.2 then [] else limbs (nval p.2 - nval q.2)))) 0 rfl rfl rfl ty24 rfl (VP.le_refl _)) ?_
      refine WP.nil ?_
      refine QE.next ?_
      refine CW.ret ?_
      exact QE.done (.inl rfl) rfl (ResOk.cl rfl (mem_at 0 rfl) ty24 (is_eq (y := x + y) (by first | omega | assumption | (rw [← p_v, ← q_v]; first | exact add_same h_t11 | exact add_ge h_t11 h_t25 | exact add_lt h_t11 h_t25))) ResOk.nil) (OImp.sub (List.nil_sublist _)) ⟨rfl, rfl⟩

end Fw


/- Plain facts on limbs and whole numbers: what the document's functions of layers 1 and 2 rest on. -/
set_option linter.unusedVariables false
set_option linter.unusedSimpArgs false
set_option exponentiation.threshold 70
namespace Fw
open Go (IntKind)

theorem nval_split (l : List Nat) (i : Nat) : nval l = nval (l.take i) + 4294967296 ^ i * nval (l.drop i) := by
  by_cases h : i ≤ l.length
  · conv => lhs; rw [← List.take_append_drop i l, nval_append, List.length_take, Nat.min_eq_left h]
  · rw [List.take_of_length_le (by omega), List.drop_of_length_le (by omega)]; simp [nval]
theorem nval_drop (l : List Nat) (i : Nat) : nval (l.drop i) = l.getD i 0 + 4294967296 * nval (l.drop (i + 1)) := by
  by_cases h : i < l.length
  · rw [List.drop_eq_getElem_cons h, nval, List.getD_eq_getElem?_getD, List.getElem?_eq_getElem h]; rfl
  · rw [List.drop_of_length_le (by omega), List.drop_of_length_le (by omega), getD_out (by omega)]; rfl
theorem nval_lt' {l : List Nat} (h : Lims l) (i : Nat) : nval (l.take i) < 4294967296 ^ i := by
  have h1 := nval_lt (h.take i)
  refine Nat.lt_of_lt_of_le h1 (Nat.pow_le_pow_right (by omega) ?_)
  rw [List.length_take]; omega
theorem tmodN {n b : Int} {s : Nat} (k : Nat) (h : n = s) (hb : b = k) : n.tmod b = ((s % k : Nat) : Int) := by
  subst h hb; rfl
theorem quoN {n b : Int} {s : Nat} (k : Nat) (h : n = s) (hb : b = k) (hs : s < 18446744073709551616) : IntKind.u64.wrap (n.tdiv b) = ((s / k : Nat) : Int) := by
  subst h hb
  have e : (s : Int).tdiv (k : Int) = ((s / k : Nat) : Int) := rfl
  rw [e, wr64 rfl, Nat.mod_eq_of_lt (Nat.lt_of_le_of_lt (Nat.div_le_self _ _) hs)]
theorem of_neg {n : Int} (h : n < 0) (h2 : -9223372036854775808 ≤ n) : IntKind.u64.wrap (0 - IntKind.u64.wrap n) = ((n.natAbs : Nat) : Int) := by
  simp [IntKind.wrap, IntKind.signed, IntKind.bits]; omega
theorem of_pos {n : Int} (h : ¬ n < 0) (h2 : n ≤ 9223372036854775807) : IntKind.u64.wrap n = ((n.natAbs : Nat) : Int) := by
  simp [IntKind.wrap, IntKind.signed, IntKind.bits]; omega
theorem of_val {n : Int} : ival (decide (n < 0), [n.natAbs % 4294967296, n.natAbs / 2 ^ 32]) = n := by
  have : nval [n.natAbs % 4294967296, n.natAbs / 2 ^ 32] = n.natAbs := by simp only [nval]; omega
  by_cases h : n < 0
  · rw [ival_neg (by simp [h]), this]; omega
  · rw [ival_pos (by simp [h]), this]; omega
theorem eq_take {α : Type} {a b : List α} {i : Nat} {d : α} (hl : a.length = b.length) (hi : i < a.length) (h : a.take i = b.take i) (hx : a.getD i d = b.getD i d) : a.take (i + 1) = b.take (i + 1) := by
  rw [List.take_add_one, List.take_add_one, h]
  congr 1
  rw [List.getElem?_eq_getElem hi, List.getElem?_eq_getElem (by omega)]
  simp only [List.getD_eq_getElem?_getD, List.getElem?_eq_getElem hi, List.getElem?_eq_getElem (show i < b.length by omega), Option.getD_some] at hx
  rw [hx]
theorem eq_full {α : Type} {a b : List α} {i : Nat} (hl : a.length = b.length) (hi : a.length ≤ i) (h : a.take i = b.take i) : a = b := by
  rwa [List.take_of_length_le hi, List.take_of_length_le (by omega)] at h
theorem take_app {α : Type} {l : List α} {j : Nat} {d : α} (h : j < l.length) : l.take j ++ [l.getD j d] = l.take (j + 1) := by
  rw [List.take_add_one, List.getD_eq_getElem?_getD, List.getElem?_eq_getElem h]; rfl
end Fw


/- What the document's functions of layers 1 and 2 answer. -/
set_option linter.unusedVariables false
set_option linter.unusedSimpArgs false
set_option exponentiation.threshold 70
namespace Fw
open Go Go.Proofs

end Fw


/- What the helpers of the statements on layer 24 answer. -/
set_option linter.unusedVariables false
set_option linter.unusedSimpArgs false
set_option exponentiation.threshold 70
namespace Fw
open Go Go.Proofs

end Fw


/- Plain facts on weights and blocks. -/
set_option linter.unusedVariables false
set_option linter.unusedSimpArgs false
set_option exponentiation.threshold 600
namespace Fw

end Fw


/- Which weights may be; the sum of a block. -/
set_option linter.unusedVariables false
set_option linter.unusedSimpArgs false
set_option exponentiation.threshold 70
namespace Fw
open Go Go.Proofs

end Fw


/- Plain facts on limbs: products, quotients by one limb, shifts. -/
set_option linter.unusedVariables false
set_option linter.unusedSimpArgs false
set_option exponentiation.threshold 70
namespace Fw
open Go (IntKind)

theorem nval_set {l : List Nat} {k d : Nat} (h : k < l.length) : nval (l.set k d) + 4294967296 ^ k * l.getD k 0 = nval l + 4294967296 ^ k * d := by
  have h1 := split_at (l := l) (i := k + 1) (by omega) (by omega)
  have h2 := split_at (l := l.set k d) (i := k + 1) (by simp; omega) (by omega)
  simp only [Nat.add_sub_cancel] at h1 h2
  rw [List.take_set_of_le (by omega), List.drop_set_of_lt (by omega)] at h2
  have h3 : (l.set k d).getD k 0 = d := by
    rw [List.getD_eq_getElem?_getD, List.getElem?_set_self h]; rfl
  rw [h3] at h2
  rw [h1, h2, Nat.mul_add, Nat.mul_add]
  omega
theorem getD_set_ne' {l : List Nat} {k j d : Nat} (h : k ≠ j) : (l.set k d).getD j 0 = l.getD j 0 := by
  rw [List.getD_eq_getElem?_getD, List.getElem?_set_ne h, ← List.getD_eq_getElem?_getD]
theorem Lims.set {l : List Nat} {k d : Nat} (h : Lims l) (hd : d < 4294967296) : Lims (l.set k d) := fun x hx => by
  rcases List.mem_or_eq_of_mem_set hx with hx | rfl
  · exact h x hx
  · exact hd
theorem mul_bd {a b : Nat} (ha : a < 4294967296) (hb : b < 4294967296) : a * b ≤ 18446744065119617025 := by
  have : a * b ≤ 4294967295 * 4294967295 := Nat.mul_le_mul (by omega) (by omega)
  omega
def MulO (A B row : List Nat) (i : Nat) : Prop := Lims row ∧ row.length = A.length + B.length ∧ nval row = nval (A.take i) * nval B ∧ ∀ p, i + B.length ≤ p → row.getD p 0 = 0
def MulI (A B row : List Nat) (i j c : Nat) : Prop := Lims row ∧ row.length = A.length + B.length ∧ c < 4294967296 ∧ nval row + 4294967296 ^ (i + j) * c = nval (A.take i) * nval B + 4294967296 ^ i * (A.getD i 0 * nval (B.take j)) ∧ ∀ p, i + B.length ≤ p → row.getD p 0 = 0
theorem mulO_0 (A B : List Nat) : MulO A B (List.replicate (A.length + B.length) 0) 0 := by
  refine ⟨fun x hx => ?_, by simp, by simp [nval_replicate0, nval], fun p hp => ?_⟩
  · have := (List.mem_replicate.1 hx).2; omega
  · rw [List.getD_eq_getElem?_getD, List.getElem?_replicate]; split <;> rfl
theorem mulI_0 {A B row : List Nat} {i : Nat} (h : MulO A B row i) : MulI A B row i 0 0 := by
  obtain ⟨h1, h2, h3, h4⟩ := h
  exact ⟨h1, h2, by omega, by simp [nval, h3], h4⟩
theorem mulI_s {A B row : List Nat} {i j c : Nat} (lA : Lims A) (lB : Lims B) (hi : i < A.length) (hj : j < B.length) (h : MulI A B row i j c) : MulI A B (row.set (i + j) ((c + (A.getD i 0 * B.getD j 0 + row.getD (i + j) 0)) % 4294967296)) i (j + 1) ((c + (A.getD i 0 * B.getD j 0 + row.getD (i + j) 0)) / 2 ^ 32) := by
  obtain ⟨h1, h2, h3, h4, h5⟩ := h
  have a1 := getD_lt h1 (i + j)
  have a2 := mul_bd (getD_lt lA i) (getD_lt lB j)
  generalize hs : c + (A.getD i 0 * B.getD j 0 + row.getD (i + j) 0) = s
  have hset := nval_set (l := row) (k := i + j) (d := s % 4294967296) (by omega)
  refine ⟨h1.set (by omega), by simpa using h2, by omega, ?_, fun p hp => ?_⟩
  · rw [nval_take_succ, ← Nat.add_assoc, Nat.pow_succ, Nat.mul_assoc]
    have e1 : 4294967296 ^ (i + j) * (4294967296 * (s / 2 ^ 32)) + 4294967296 ^ (i + j) * (s % 4294967296) = 4294967296 ^ (i + j) * s := by
      rw [← Nat.mul_add]; congr 1; omega
    have e2 : 4294967296 ^ (i + j) * s = 4294967296 ^ (i + j) * c + (4294967296 ^ (i + j) * (A.getD i 0 * B.getD j 0) + 4294967296 ^ (i + j) * row.getD (i + j) 0) := by
      rw [← hs, Nat.mul_add, Nat.mul_add]
    have e3 : 4294967296 ^ i * (A.getD i 0 * (nval (B.take j) + 4294967296 ^ j * B.getD j 0)) = 4294967296 ^ i * (A.getD i 0 * nval (B.take j)) + 4294967296 ^ (i + j) * (A.getD i 0 * B.getD j 0) := by
      rw [Nat.mul_add, Nat.mul_add, Nat.pow_add]
      congr 1
      rw [Nat.mul_assoc]
      congr 1
      rw [← Nat.mul_assoc, ← Nat.mul_assoc, Nat.mul_comm (A.getD i 0)]
    rw [e3]
    omega
  · rw [getD_set_ne' (by omega)]; exact h5 p hp
theorem mulI_end {A B row : List Nat} {i c : Nat} (hi : i < A.length) (h : MulI A B row i B.length c) : MulO A B (row.set (i + B.length) c) (i + 1) := by
  obtain ⟨h1, h2, h3, h4, h5⟩ := h
  have hset := nval_set (l := row) (k := i + B.length) (d := c) (by omega)
  rw [h5 _ (Nat.le_refl _), Nat.mul_zero, Nat.add_zero, h4, List.take_length] at hset
  refine ⟨h1.set h3, by simpa using h2, ?_, fun p hp => ?_⟩
  · rw [hset, nval_take_succ, Nat.add_mul, Nat.mul_assoc]
  · rw [getD_set_ne' (by omega)]; exact h5 p (by omega)
theorem mulO_end {A B row : List Nat} {i : Nat} (hi : i = A.length) (h : MulO A B row i) : nval row = nval A * nval B := by
  obtain ⟨h1, h2, h3, h4⟩ := h
  rw [h3, hi, List.take_length]
/-! ### By one limb -/
def ShortR (l row : List Nat) (d i r : Nat) : Prop := Lims row ∧ row.length = l.length ∧ r < d ∧ nval (l.drop i) = nval (row.drop i) * d + r
theorem drop_set {l : List Nat} {i d : Nat} (h : i < l.length) : (l.set i d).drop i = d :: l.drop (i + 1) := by
  rw [List.drop_eq_getElem_cons (by simpa using h), List.getElem_set_self, List.drop_set_of_lt (by omega)]
theorem shortR_0 {l : List Nat} {d : Nat} (hd : d ≠ 0) : ShortR l (List.replicate l.length 0) d l.length 0 := by
  refine ⟨fun x hx => ?_, by simp, by omega, ?_⟩
  · have := (List.mem_replicate.1 hx).2; omega
  · rw [List.drop_length, List.drop_of_length_le (by simp)]; simp [nval]
theorem shortR_s {l row : List Nat} {d i r : Nat} (lL : Lims l) (hd : d < 4294967296) (hi : i ≤ l.length) (h0 : 0 < i) (h : ShortR l row d i r) : ShortR l (row.set (i - 1) ((r * 2 ^ 32 + l.getD (i - 1) 0) / d)) d (i - 1) ((r * 2 ^ 32 + l.getD (i - 1) 0) % d) := by
  obtain ⟨h1, h2, h3, h4⟩ := h
  have hx := getD_lt lL (i - 1)
  generalize hs : r * 2 ^ 32 + l.getD (i - 1) 0 = s
  have hq : s / d < 4294967296 := by
    rw [Nat.div_lt_iff_lt_mul (by omega)]
    have : (r + 1) * 4294967296 ≤ d * 4294967296 := Nat.mul_le_mul_right _ h3
    rw [Nat.mul_comm 4294967296 d]
    omega
  refine ⟨h1.set hq, by simpa using h2, Nat.mod_lt _ (by omega), ?_⟩
  rw [nval_drop, show i - 1 + 1 = i from by omega, h4, drop_set (by omega), nval, show i - 1 + 1 = i from by omega]
  have e1 := Nat.div_add_mod s d
  have e2 : (s / d + 4294967296 * nval (row.drop i)) * d = d * (s / d) + 4294967296 * (nval (row.drop i) * d) := by
    rw [Nat.add_mul, Nat.mul_comm (s / d), Nat.mul_assoc]
  rw [e2]
  omega
theorem short_q {r x d : Nat} (h3 : r < d) (hx : x < 4294967296) : (r * 2 ^ 32 + x) / d < 4294967296 := by
  rw [Nat.div_lt_iff_lt_mul (by omega)]
  have : (r + 1) * 4294967296 ≤ d * 4294967296 := Nat.mul_le_mul_right _ h3
  rw [Nat.mul_comm 4294967296 d]
  omega
theorem shortR_end {l row : List Nat} {d i r : Nat} (hi : i = 0) (h : ShortR l row d i r) : nval row = nval l / d ∧ r = nval l % d := by
  obtain ⟨h1, h2, h3, h4⟩ := h
  subst hi
  simp only [List.drop_zero] at h4
  rw [h4]
  constructor
  · rw [Nat.mul_comm, Nat.mul_add_div (by omega), Nat.div_eq_of_lt h3, Nat.add_zero]
  · rw [Nat.mul_comm, Nat.mul_add_mod, Nat.mod_eq_of_lt h3]
end Fw


/- Plain facts on whole numbers: more of layer 2. -/
set_option linter.unusedVariables false
set_option linter.unusedSimpArgs false
set_option exponentiation.threshold 70
namespace Fw

theorem lt_gen {n k x : Nat} (h : n ≤ k) (hx : x < 4294967296 ^ n) : x < 4294967296 ^ k := Nat.lt_of_lt_of_le hx (Nat.pow_le_pow_right (by decide) h)
theorem kZ_sm {z : Int} (m : Mem) (v : Go.Value) (h : (kZ.is z).p m v) : Sm z := by
  obtain ⟨cs, _, y, h1, rfl, h2⟩ := h
  have hl : Lims y.2 := by
    obtain ⟨a, b, _, _, _, _, _, _, _, h3⟩ := h1
    rcases h3 with h3 | ⟨_, _, _, _, _, _, _, r⟩
    · intro x hx; rw [h3] at hx; cases hx
    · exact rows_lims r
  unfold Sm
  rw [ival_abs]
  have h5 := lt_gen h2 (nval_lt hl)
  exact h5
theorem Sm_mono {x y : Int} (h : Sm x) (hl : y.natAbs ≤ x.natAbs) : Sm y := Nat.lt_of_le_of_lt hl h
theorem Sm_neg {z : Int} (h : Sm z) : Sm (-z) := Sm_mono h (Nat.le_of_eq (Int.natAbs_neg z))
theorem ival_not {y : Bool × List Nat} : ival (!y.1, y.2) = -ival y := by
  unfold ival
  cases y.1 <;> simp
theorem ival_mul {p q : Bool × List Nat} : ival (decide (p.1 ≠ q.1), limbs (nval p.2 * nval q.2)) = ival p * ival q := by
  unfold ival
  simp only [nval_limbs]
  cases hp : p.1 <;> cases hq : q.1 <;> simp [Int.neg_mul, Int.mul_neg]
theorem zcmp_lt {p q : Bool × List Nat} {x y : Int} (hp : ival p = x) (hq : ival q = y) (h : (ival p).sign < (ival q).sign) : (-1) = (x - y).sign := by
  subst hp hq
  have : ival p < ival q := by
    rcases Int.lt_trichotomy (ival p) 0 with h1 | h1 | h1 <;> rcases Int.lt_trichotomy (ival q) 0 with h2 | h2 | h2 <;>
      simp_all [Int.sign_eq_one_of_pos, Int.sign_eq_neg_one_of_neg] <;> omega
  rw [Int.sign_eq_neg_one_of_neg (by omega)]
theorem zcmp_gt {p q : Bool × List Nat} {x y : Int} (hp : ival p = x) (hq : ival q = y) (h : (ival q).sign < (ival p).sign) : 1 = (x - y).sign := by
  subst hp hq
  have : ival q < ival p := by
    rcases Int.lt_trichotomy (ival p) 0 with h1 | h1 | h1 <;> rcases Int.lt_trichotomy (ival q) 0 with h2 | h2 | h2 <;>
      simp_all [Int.sign_eq_one_of_pos, Int.sign_eq_neg_one_of_neg] <;> omega
  rw [Int.sign_eq_one_of_pos (by omega)]
theorem cmpI_sign (a b : Nat) : cmpI a b = ((a : Int) - b).sign := by
  unfold cmpI
  rcases Nat.lt_trichotomy a b with h | h | h
  · rw [if_pos h, Int.sign_eq_neg_one_of_neg (by omega)]
  · subst h; simp
  · rw [if_neg (by omega), if_pos h, Int.sign_eq_one_of_pos (by omega)]
theorem zcmp_same {p q : Bool × List Nat} {x y : Int} (hp : ival p = x) (hq : ival q = y) (h1 : ¬ (ival p).sign < (ival q).sign) (h2 : ¬ (ival q).sign < (ival p).sign) : Go.IntKind.i64.wrap ((ival p).sign * cmpI (nval p.2) (nval q.2)) = (x - y).sign := by
  subst hp hq
  have hs : (ival p).sign = (ival q).sign := by omega
  have key : (ival p).sign * cmpI (nval p.2) (nval q.2) = (ival p - ival q).sign := by
    rcases Int.lt_trichotomy (ival p) 0 with h1 | h1 | h1
    · have hq : ival q < 0 := by
        rw [Int.sign_eq_neg_one_of_neg h1] at hs
        exact Int.sign_eq_neg_one_iff_neg.1 hs.symm
      have e1 : ival p = -(nval p.2 : Int) := by
        unfold ival at h1 ⊢; split <;> simp_all <;> omega
      have e2 : ival q = -(nval q.2 : Int) := by
        unfold ival at hq ⊢; split <;> simp_all <;> omega
      rw [Int.sign_eq_neg_one_of_neg h1, cmpI_sign, e1, e2, show (-(nval p.2 : Int) - -(nval q.2 : Int)) = -((nval p.2 : Int) - (nval q.2 : Int)) by omega, Int.sign_neg]
      omega
    · have hq : ival q = 0 := by
        rw [h1] at hs
        exact Int.sign_eq_zero_iff_zero.1 hs.symm
      rw [h1, hq]; simp
    · have hq : 0 < ival q := by
        rw [Int.sign_eq_one_of_pos h1] at hs
        exact Int.sign_eq_one_iff_pos.1 hs.symm
      have e1 : ival p = (nval p.2 : Int) := by
        unfold ival at h1 ⊢; split <;> simp_all <;> omega
      have e2 : ival q = (nval q.2 : Int) := by
        unfold ival at hq ⊢; split <;> simp_all <;> omega
      rw [Int.sign_eq_one_of_pos h1, cmpI_sign, e1, e2, Int.one_mul]
  rw [key]
  rcases Int.lt_trichotomy (ival p - ival q) 0 with h | h | h
  · rw [Int.sign_eq_neg_one_of_neg h]; rfl
  · rw [h]; rfl
  · rw [Int.sign_eq_one_of_pos h]; rfl
end Fw


/- Plain facts on whole numbers: the floor of a quotient. -/
set_option linter.unusedVariables false
set_option linter.unusedSimpArgs false
set_option exponentiation.threshold 70
namespace Fw
theorem fdiv_unique {x y q r : Int} (h : x = q * y + r) (hr : (0 ≤ r ∧ r < y) ∨ (y < r ∧ r ≤ 0)) : q = x.fdiv y ∧ r = x.fmod y := by
  have key : q = x.fdiv y := by
    rcases hr with ⟨h1, h2⟩ | ⟨h1, h2⟩
    · rw [Int.fdiv_eq_ediv_of_nonneg _ (by omega), h, Int.add_comm, Int.add_mul_ediv_right _ _ (by omega), Int.ediv_eq_zero_of_lt h1 h2]; omega
    · rw [← Int.neg_fdiv_neg, Int.fdiv_eq_ediv_of_nonneg _ (by omega), h, show -(q * y + r) = -r + q * -y by rw [Int.mul_neg]; omega, Int.add_mul_ediv_right _ _ (by omega), Int.ediv_eq_zero_of_lt (by omega) (by omega)]; omega
  refine ⟨key, ?_⟩
  rw [Int.fmod_def, ← key, h, Int.mul_comm y q]; omega
theorem div_split {p q : Bool × List Nat} (hq : nval q.2 ≠ 0) : ival p = ival (decide (p.1 ≠ q.1), limbs (nval p.2 / nval q.2)) * ival q + ival (p.1, if nval q.2 = 0 then [] else limbs (nval p.2 % nval q.2)) := by
  have h := Nat.div_add_mod (nval p.2) (nval q.2)
  rw [if_neg hq]
  unfold ival
  simp only [nval_limbs]
  have h' : (nval p.2 : Int) = (nval q.2 : Int) * ((nval p.2 / nval q.2 : Nat) : Int) + ((nval p.2 % nval q.2 : Nat) : Int) := by
    rw [← Int.natCast_mul, ← Int.natCast_add, h]
  rw [Int.mul_comm] at h'
  generalize ((nval p.2 / nval q.2 : Nat) : Int) = d at *
  generalize ((nval p.2 % nval q.2 : Nat) : Int) = r at *
  rw [h']
  cases hp : p.1 <;> cases hq : q.1 <;> simp [Int.neg_mul, Int.mul_neg] <;> omega
theorem rem_lt {p q : Bool × List Nat} (hq : nval q.2 ≠ 0) : (ival (p.1, if nval q.2 = 0 then [] else limbs (nval p.2 % nval q.2))).natAbs < (ival q).natAbs := by
  rw [ival_abs, ival_abs, if_neg hq, nval_limbs]
  exact Nat.mod_lt _ (by omega)
theorem floor_0 {x y M R : Int} (h : x = M * y + R) (hl : R.natAbs < y.natAbs) (h0 : ¬ R.sign ≠ 0) : M = x.fdiv y ∧ R = x.fmod y := by
  have : R = 0 := Int.sign_eq_zero_iff_zero.1 (by omega)
  exact fdiv_unique h (by omega)
theorem floor_1 {x y M R : Int} (h : x = M * y + R) (hl : R.natAbs < y.natAbs) (h0 : R.sign ≠ 0) (h1 : ¬ R.sign ≠ y.sign) : M = x.fdiv y ∧ R = x.fmod y := by
  refine fdiv_unique h ?_
  have h2 : R.sign = y.sign := by omega
  rcases Int.lt_trichotomy R 0 with h3 | h3 | h3
  · rw [Int.sign_eq_neg_one_of_neg h3] at h2
    have := Int.sign_eq_neg_one_iff_neg.1 h2.symm
    omega
  · rw [h3] at h0; simp at h0
  · rw [Int.sign_eq_one_of_pos h3] at h2
    have := Int.sign_eq_one_iff_pos.1 h2.symm
    omega
theorem floor_2 {x y M R : Int} (h : x = M * y + R) (hl : R.natAbs < y.natAbs) (h0 : R.sign ≠ 0) (h1 : R.sign ≠ y.sign) : M - 1 = x.fdiv y ∧ R + y = x.fmod y := by
  refine fdiv_unique (by rw [h, Int.sub_mul, Int.one_mul]; omega) ?_
  rcases Int.lt_trichotomy R 0 with h3 | h3 | h3
  · rw [Int.sign_eq_neg_one_of_neg h3] at h1
    have : ¬ y < 0 := fun hy => h1 (by rw [Int.sign_eq_neg_one_of_neg hy])
    omega
  · rw [h3] at h0; simp at h0
  · rw [Int.sign_eq_one_of_pos h3] at h1
    have : ¬ 0 < y := fun hy => h1 (by rw [Int.sign_eq_one_of_pos hy])
    omega
theorem Sm_le {x y : Int} (h : Sm x) (hl : y.natAbs ≤ x.natAbs) : Sm y := Nat.lt_of_le_of_lt hl h
theorem Sm_lit {n : Int} (h : n.natAbs < 2 ^ 64) : Sm n := Sm_of (n := 64) h (by decide)
end Fw


/- What more of the document's functions of layers 1 and 2 answer. -/
set_option linter.unusedVariables false
set_option linter.unusedSimpArgs false
set_option exponentiation.threshold 70
namespace Fw
open Go Go.Proofs

end Fw


/- Plain facts: weights that climb, all choices with a sum, the greedy block. -/
set_option linter.unusedVariables false
set_option linter.unusedSimpArgs false
set_option exponentiation.threshold 400
namespace Fw
open Go

/-! ### The greedy block -/
/-! ### All choices -/
/-! ### Steps -/
theorem sgn_lt0 {a : Int} (h : a.sign < 0) : a < 0 := by
  rcases Int.lt_trichotomy a 0 with h1 | h1 | h1
  · exact h1
  · subst h1; simp at h
  · rw [Int.sign_eq_one_of_pos h1] at h; omega
theorem sgn_eq {a b : Int} (h : (a - b).sign = 0) : a = b := by have := Int.sign_eq_zero_iff_zero.1 h; omega
end Fw

