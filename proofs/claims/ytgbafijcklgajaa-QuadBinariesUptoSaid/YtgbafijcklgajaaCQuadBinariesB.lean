/- Frame, facts and contracts for QuadBinaries. -/
import Derived.Test.YtgbafijcklgajaaCQuadBinariesA
import Derived.Test.YtgbafijcklgajaaProg
import Derived.Test.YtgbafijcklgajaaRows
import Derived.ProofKit
import Derived.OpenShut
import Derived.JoinedCond
import Derived.Carry
/- The frame of the walks: variables that are only read from now on; function values. -/
set_option linter.unusedVariables false
set_option linter.unusedSimpArgs false
namespace Fw
open Go

section
variable {C : Ctx} {Q : Exit → Act → World → Prop} {ρ ρ' : Env} {L L' : List OB} {ops : Array Oper} {rest : List Oper}
  {dst : Option Tmp} {ty : TypeId} {pos : String} {after : Array Edge} {g : Option (Nat × Bool)}
/-- A variable is told as read-only from now on. -/
theorem ST.freezeb {α : Type} {K : Act → World → Prop} {k : Kd α} {x : α} {b : Nat} {e : TypeId} (j : Nat) (hj : L[j]? = some (OB.box b e k x)) (hi : FImp (.pointer (some ⟨b, 0, none⟩)) (VP.pim k x) ρ ρ') (h : ST C K ρ' (L.eraseIdx j)) : ST C K ρ L := fun m w a s t => by
  obtain ⟨A, hA, hk⟩ := box_cells s (List.mem_of_getElem? hj)
  have hsplit : A.toList = A.toList ++ [] := by simp
  obtain ⟨h1, h2⟩ := s.free hj (i := b) (by simp [OB.box]) hA hsplit
  refine h _ w a h2 (hi _ _ a ⟨b, 0, A.toList, A.toList, rfl, by simp [Mem.add], ⟨[], [], by simp, rfl⟩, k.mono h1 hk⟩ (t.up h1))
/-- x[:h] of an array that is only read. -/
theorem O.slA {α : Type} {k : Kd α} {xs : List α} {x y : Operand} {kj : IntKind} {n' : Int} {T e : TypeId} {n : Nat} {agg : Bool} (h : Nat) (hx : ev ρ x = some (VP.pim (kArr n k) xs)) (hy : ev ρ y = some ((kInt kj).is n')) (hu : C.P.underlying T = some (.array n e)) (ht : TyOk C.P e agg k.sz) (hn : n' = h) (hle : h ≤ n) (hbig : n ≤ 1099511627776) : OpOk C ⟨dst, .slice T x none (some y) none, ty, pos, after, g⟩ ρ L ((kSl k).is (xs.take h)) L := OpOk.val fun m w f s t => by
  subst hn
  obtain ⟨b, o, c, cells, e1, e2, e3, hl, e4⟩ := t.evl hx
  have hb : (Instr.sliceBounds false n n none (some (.int kj (h : Int))) none).run C.P w = .ok (0, h, n) w := by
    simp [Instr.sliceBounds, run_bound (P := C.P) w kj h n _ hle]
  have := sl_cut (k := k) (m := m) (a := some ⟨b, o, none⟩) (cap := n) (l := 0) (h := h) (mx := n) (xs := xs) (by omega) (by omega) (.inr ⟨b, o, c, cells, rfl, e2, e3, e4⟩) (Nat.zero_le _) (by omega) (by omega)
  rw [List.drop_zero] at this
  have hv : (if n = 0 then (some ⟨b, o, none⟩ : Option Addr) else (some ⟨b, o, none⟩ : Option Addr).map (·.add (0 * k.sz))) = some (if n = 0 then ⟨b, o, none⟩ else (⟨b, o, none⟩ : Addr).add (0 * k.sz)) := by split <;> rfl
  rw [hv] at this
  refine ⟨_, ?_, this⟩
  have hs := run_sizeOf ht w
  simp only [execOp, e1, t.int hy, Instr.sliceAt, Sem.run_bind, run_underlying hu, Option.map_some, Option.map_none, Instr.sureAddr, Sem.run_pure, Result.andThen_ok, hb, hs]
end

/-! ### Orders that come to the same -/
section
variable {C : Ctx} {Q : Exit → Act → World → Prop} {ρ ρ' : Env} {L L' : List OB}
def JoinAt (C : Ctx) (ρ' : Env) (L' : List OB) (a : Act) (w : World) : Prop := ∃ m, Sat C m w L' ∧ Has C.N m a ρ'
theorem CW.join {c : Code} (ρ' : Env) (L' : List OB) (h : CW C (Kx (JoinAt C ρ' L') Q) c ρ L) (k : QE C Q .normal ρ' L') : CW C Q c ρ L := fun m w a s t =>
  Code.wp_mono (fun e a w he => by
    cases e with
    | normal => obtain ⟨m, s, t⟩ := he; exact k m w a s t
    | _ => exact he) (h m w a s t)
theorem QE.join (hi : Imp ρ ρ') (ho : OImp C L L') : QE C (Kx (JoinAt C ρ' L') Q) .normal ρ L := fun m w a s t => ⟨m, ho m w s, hi _ m a t⟩
end
end Fw

/- The frame of the walks: loops and cuts with seven or eight numbers. -/
set_option linter.unusedVariables false
set_option linter.unusedSimpArgs false
namespace Fw
open Go

section
variable {C : Ctx} {Q : Exit → Act → World → Prop} {ρ : Env} {L : List OB}
def Round7 (C : Ctx) {ι1 ι2 ι3 ι4 ι5 ι6 ι7 : Type} (R : ι1 → ι2 → ι3 → ι4 → ι5 → ι6 → ι7 → Prop) (I : ι1 → ι2 → ι3 → ι4 → ι5 → ι6 → ι7 → Env) (O : ι1 → ι2 → ι3 → ι4 → ι5 → ι6 → ι7 → List OB) (μ : ι1 → ι2 → ι3 → ι4 → ι5 → ι6 → ι7 → Nat) (n : Nat) (a : Act) (w : World) : Prop := ∃ x1 x2 x3 x4 x5 x6 x7 m, μ x1 x2 x3 x4 x5 x6 x7 < n ∧ R x1 x2 x3 x4 x5 x6 x7 ∧ Sat C m w (O x1 x2 x3 x4 x5 x6 x7) ∧ Has C.N m a (I x1 x2 x3 x4 x5 x6 x7)
theorem CW.loop7 {c : Code} {ι1 ι2 ι3 ι4 ι5 ι6 ι7 : Type} (R : ι1 → ι2 → ι3 → ι4 → ι5 → ι6 → ι7 → Prop) (I : ι1 → ι2 → ι3 → ι4 → ι5 → ι6 → ι7 → Env) (O : ι1 → ι2 → ι3 → ι4 → ι5 → ι6 → ι7 → List OB) (μ : ι1 → ι2 → ι3 → ι4 → ι5 → ι6 → ι7 → Nat) (x1 : ι1) (x2 : ι2) (x3 : ι3) (x4 : ι4) (x5 : ι5) (x6 : ι6) (x7 : ι7) (r : R x1 x2 x3 x4 x5 x6 x7) (hi : Imp ρ (I x1 x2 x3 x4 x5 x6 x7)) (ho : OImp C L (O x1 x2 x3 x4 x5 x6 x7))
    (round : ∀ x1 x2 x3 x4 x5 x6 x7, R x1 x2 x3 x4 x5 x6 x7 → CW C (Exit.then (Round7 C R I O μ (μ x1 x2 x3 x4 x5 x6 x7)) Q) c (I x1 x2 x3 x4 x5 x6 x7) (O x1 x2 x3 x4 x5 x6 x7)) : CW C Q (.loop c) ρ L := fun m w a s t =>
  wp_loop_ghost (fun n a w => ∃ x1 x2 x3 x4 x5 x6 x7 m, μ x1 x2 x3 x4 x5 x6 x7 = n ∧ R x1 x2 x3 x4 x5 x6 x7 ∧ Sat C m w (O x1 x2 x3 x4 x5 x6 x7) ∧ Has C.N m a (I x1 x2 x3 x4 x5 x6 x7)) (μ x1 x2 x3 x4 x5 x6 x7) ⟨x1, x2, x3, x4, x5, x6, x7, m, rfl, r, ho m w s, hi _ m a t⟩ fun n a w ⟨x1, x2, x3, x4, x5, x6, x7, m, hn, r, s, t⟩ => by
    subst hn
    refine wp_mono (round x1 x2 x3 x4 x5 x6 x7 r m w a s t) fun e a w q => ?_
    cases e with
    | normal => obtain ⟨x1, x2, x3, x4, x5, x6, x7, m, hlt, r, s, t⟩ := q; exact ⟨μ x1 x2 x3 x4 x5 x6 x7, hlt, x1, x2, x3, x4, x5, x6, x7, m, rfl, r, s, t⟩
    | _ => exact q
theorem QE.round7 {ι1 ι2 ι3 ι4 ι5 ι6 ι7 : Type} {R : ι1 → ι2 → ι3 → ι4 → ι5 → ι6 → ι7 → Prop} {I : ι1 → ι2 → ι3 → ι4 → ι5 → ι6 → ι7 → Env} {O : ι1 → ι2 → ι3 → ι4 → ι5 → ι6 → ι7 → List OB} {μ : ι1 → ι2 → ι3 → ι4 → ι5 → ι6 → ι7 → Nat} {n : Nat} (x1 : ι1) (x2 : ι2) (x3 : ι3) (x4 : ι4) (x5 : ι5) (x6 : ι6) (x7 : ι7) (hlt : μ x1 x2 x3 x4 x5 x6 x7 < n) (r : R x1 x2 x3 x4 x5 x6 x7) (hi : Imp ρ (I x1 x2 x3 x4 x5 x6 x7)) (ho : OImp C L (O x1 x2 x3 x4 x5 x6 x7)) : QE C (Exit.then (Round7 C R I O μ n) Q) .normal ρ L := fun m w a s t => ⟨x1, x2, x3, x4, x5, x6, x7, m, hlt, r, ho m w s, hi _ m a t⟩
def Round8 (C : Ctx) {ι1 ι2 ι3 ι4 ι5 ι6 ι7 ι8 : Type} (R : ι1 → ι2 → ι3 → ι4 → ι5 → ι6 → ι7 → ι8 → Prop) (I : ι1 → ι2 → ι3 → ι4 → ι5 → ι6 → ι7 → ι8 → Env) (O : ι1 → ι2 → ι3 → ι4 → ι5 → ι6 → ι7 → ι8 → List OB) (μ : ι1 → ι2 → ι3 → ι4 → ι5 → ι6 → ι7 → ι8 → Nat) (n : Nat) (a : Act) (w : World) : Prop := ∃ x1 x2 x3 x4 x5 x6 x7 x8 m, μ x1 x2 x3 x4 x5 x6 x7 x8 < n ∧ R x1 x2 x3 x4 x5 x6 x7 x8 ∧ Sat C m w (O x1 x2 x3 x4 x5 x6 x7 x8) ∧ Has C.N m a (I x1 x2 x3 x4 x5 x6 x7 x8)
theorem CW.loop8 {c : Code} {ι1 ι2 ι3 ι4 ι5 ι6 ι7 ι8 : Type} (R : ι1 → ι2 → ι3 → ι4 → ι5 → ι6 → ι7 → ι8 → Prop) (I : ι1 → ι2 → ι3 → ι4 → ι5 → ι6 → ι7 → ι8 → Env) (O : ι1 → ι2 → ι3 → ι4 → ι5 → ι6 → ι7 → ι8 → List OB) (μ : ι1 → ι2 → ι3 → ι4 → ι5 → ι6 → ι7 → ι8 → Nat) (x1 : ι1) (x2 : ι2) (x3 : ι3) (x4 : ι4) (x5 : ι5) (x6 : ι6) (x7 : ι7) (x8 : ι8) (r : R x1 x2 x3 x4 x5 x6 x7 x8) (hi : Imp ρ (I x1 x2 x3 x4 x5 x6 x7 x8)) (ho : OImp C L (O x1 x2 x3 x4 x5 x6 x7 x8))
    (round : ∀ x1 x2 x3 x4 x5 x6 x7 x8, R x1 x2 x3 x4 x5 x6 x7 x8 → CW C (Exit.then (Round8 C R I O μ (μ x1 x2 x3 x4 x5 x6 x7 x8)) Q) c (I x1 x2 x3 x4 x5 x6 x7 x8) (O x1 x2 x3 x4 x5 x6 x7 x8)) : CW C Q (.loop c) ρ L := fun m w a s t =>
  wp_loop_ghost (fun n a w => ∃ x1 x2 x3 x4 x5 x6 x7 x8 m, μ x1 x2 x3 x4 x5 x6 x7 x8 = n ∧ R x1 x2 x3 x4 x5 x6 x7 x8 ∧ Sat C m w (O x1 x2 x3 x4 x5 x6 x7 x8) ∧ Has C.N m a (I x1 x2 x3 x4 x5 x6 x7 x8)) (μ x1 x2 x3 x4 x5 x6 x7 x8) ⟨x1, x2, x3, x4, x5, x6, x7, x8, m, rfl, r, ho m w s, hi _ m a t⟩ fun n a w ⟨x1, x2, x3, x4, x5, x6, x7, x8, m, hn, r, s, t⟩ => by
    subst hn
    refine wp_mono (round x1 x2 x3 x4 x5 x6 x7 x8 r m w a s t) fun e a w q => ?_
    cases e with
    | normal => obtain ⟨x1, x2, x3, x4, x5, x6, x7, x8, m, hlt, r, s, t⟩ := q; exact ⟨μ x1 x2 x3 x4 x5 x6 x7 x8, hlt, x1, x2, x3, x4, x5, x6, x7, x8, m, rfl, r, s, t⟩
    | _ => exact q
theorem QE.round8 {ι1 ι2 ι3 ι4 ι5 ι6 ι7 ι8 : Type} {R : ι1 → ι2 → ι3 → ι4 → ι5 → ι6 → ι7 → ι8 → Prop} {I : ι1 → ι2 → ι3 → ι4 → ι5 → ι6 → ι7 → ι8 → Env} {O : ι1 → ι2 → ι3 → ι4 → ι5 → ι6 → ι7 → ι8 → List OB} {μ : ι1 → ι2 → ι3 → ι4 → ι5 → ι6 → ι7 → ι8 → Nat} {n : Nat} (x1 : ι1) (x2 : ι2) (x3 : ι3) (x4 : ι4) (x5 : ι5) (x6 : ι6) (x7 : ι7) (x8 : ι8) (hlt : μ x1 x2 x3 x4 x5 x6 x7 x8 < n) (r : R x1 x2 x3 x4 x5 x6 x7 x8) (hi : Imp ρ (I x1 x2 x3 x4 x5 x6 x7 x8)) (ho : OImp C L (O x1 x2 x3 x4 x5 x6 x7 x8)) : QE C (Exit.then (Round8 C R I O μ n) Q) .normal ρ L := fun m w a s t => ⟨x1, x2, x3, x4, x5, x6, x7, x8, m, hlt, r, ho m w s, hi _ m a t⟩
end
end Fw

/- Closed facts on types and functions. -/
set_option linter.unusedVariables false
set_option linter.unusedSimpArgs false
set_option exponentiation.threshold 70
namespace Fw
open Go Go.Proofs

theorem info121 : (Try.prog.info? 121).map (fun i => (i.zero, i.size, i.bytes)) = some (some (.int .u32 0), 1, 4) := by kernel_rfl
theorem ty121 : TyOk Try.prog 121 false 1 := ⟨_, Try.underlying121, rfl, by kernel_rfl⟩
theorem el121_limb : ElOk Try.prog 121 kLimb := elOk_of info121 rfl rfl rfl
theorem fn148 : FnOk Try.prog 148 := ⟨_, Try.func148, by kernel_rfl, rfl⟩
theorem fn197 : FnOk Try.prog 197 := ⟨_, Try.func197, by kernel_rfl, rfl⟩
theorem fn198 : FnOk Try.prog 198 := ⟨_, Try.func198, by kernel_rfl, rfl⟩
theorem fn202 : FnOk Try.prog 202 := ⟨_, Try.func202, by kernel_rfl, rfl⟩
theorem z121_limb : ZeroOk Try.prog 121 kLimb 0 := zeroOk_of info121 fun m => ⟨rfl, by decide⟩

end Fw


/- Closed facts on types and functions. -/
set_option linter.unusedVariables false
set_option linter.unusedSimpArgs false
set_option exponentiation.threshold 70
namespace Fw
open Go Go.Proofs

theorem info31 : (Try.prog.info? 31).map (fun i => (i.zero, i.size, i.bytes)) = some (some (.agg #[.bool false, .slice none 0 0]), 2, 32) := by kernel_rfl
theorem ty29 : TyOk Try.prog 29 false 1 := ⟨_, Try.underlying29, rfl, by kernel_rfl⟩
theorem ty31 : TyOk Try.prog 31 true 2 := ⟨_, Try.underlying31, rfl, by kernel_rfl⟩
theorem ty4 : TyOk Try.prog 4 false 1 := ⟨_, Try.underlying4, rfl, by kernel_rfl⟩
theorem fld31_0 : FldOk Try.prog 31 0 0 := fld_of (n := 0) (by kernel_rfl)
theorem fld31_1 : FldOk Try.prog 31 1 1 := fld_of (n := 0) (by kernel_rfl)
theorem fn147 : FnOk Try.prog 147 := ⟨_, Try.func147, by kernel_rfl, rfl⟩
theorem fn150 : FnOk Try.prog 150 := ⟨_, Try.func150, by kernel_rfl, rfl⟩
theorem fn151 : FnOk Try.prog 151 := ⟨_, Try.func151, by kernel_rfl, rfl⟩
theorem fn156 : FnOk Try.prog 156 := ⟨_, Try.func156, by kernel_rfl, rfl⟩
theorem lit31_C : LitOk Try.prog 31 kC ([(0, 1), (1, 1)].toArray[·]?) 0 := lit_of info31 (by kernel_rfl) fun m => zero_C m
theorem lit31_I : LitOk Try.prog 31 kI ([(0, 1), (1, 1)].toArray[·]?) (false, []) := lit_of info31 (by kernel_rfl) fun m => zero_I m
theorem z31_C : ZeroOk Try.prog 31 kC 0 := zeroOk_of info31 fun m => zero_C m

end Fw


/- Closed facts on types and functions. -/
set_option linter.unusedVariables false
set_option linter.unusedSimpArgs false
set_option exponentiation.threshold 70
namespace Fw
open Go Go.Proofs

theorem fn152 : FnOk Try.prog 152 := ⟨_, Try.func152, by kernel_rfl, rfl⟩
theorem fn153 : FnOk Try.prog 153 := ⟨_, Try.func153, by kernel_rfl, rfl⟩
theorem fn154 : FnOk Try.prog 154 := ⟨_, Try.func154, by kernel_rfl, rfl⟩
theorem fn155 : FnOk Try.prog 155 := ⟨_, Try.func155, by kernel_rfl, rfl⟩
theorem fn158 : FnOk Try.prog 158 := ⟨_, Try.func158, by kernel_rfl, rfl⟩
theorem fn164 : FnOk Try.prog 164 := ⟨_, Try.func164, by kernel_rfl, rfl⟩
theorem fn199 : FnOk Try.prog 199 := ⟨_, Try.func199, by kernel_rfl, rfl⟩
theorem fn200 : FnOk Try.prog 200 := ⟨_, Try.func200, by kernel_rfl, rfl⟩
theorem fn201 : FnOk Try.prog 201 := ⟨_, Try.func201, by kernel_rfl, rfl⟩

end Fw


/- Closed facts on types and functions. -/
set_option linter.unusedVariables false
set_option linter.unusedSimpArgs false
set_option exponentiation.threshold 70
namespace Fw
open Go Go.Proofs

end Fw


/- Closed facts on types and functions. -/
set_option linter.unusedVariables false
set_option linter.unusedSimpArgs false
set_option exponentiation.threshold 70
namespace Fw
open Go Go.Proofs

theorem fn77 : FnOk Try.prog 77 := ⟨_, Try.func77, by kernel_rfl, rfl⟩
theorem fn78 : FnOk Try.prog 78 := ⟨_, Try.func78, by kernel_rfl, rfl⟩
theorem fn79 : FnOk Try.prog 79 := ⟨_, Try.func79, by kernel_rfl, rfl⟩
theorem fn80 : FnOk Try.prog 80 := ⟨_, Try.func80, by kernel_rfl, rfl⟩
theorem fn83 : FnOk Try.prog 83 := ⟨_, Try.func83, by kernel_rfl, rfl⟩
end Fw


/- Closed facts on types and functions. -/
set_option linter.unusedVariables false
set_option linter.unusedSimpArgs false
set_option exponentiation.threshold 70
namespace Fw
open Go Go.Proofs

theorem fn169 : FnOk Try.prog 169 := ⟨_, Try.func169, by kernel_rfl, rfl⟩
theorem fn208 : FnOk Try.prog 208 := ⟨_, Try.func208, by kernel_rfl, rfl⟩
theorem fn209 : FnOk Try.prog 209 := ⟨_, Try.func209, by kernel_rfl, rfl⟩
theorem fn210 : FnOk Try.prog 210 := ⟨_, Try.func210, by kernel_rfl, rfl⟩
theorem fn211 : FnOk Try.prog 211 := ⟨_, Try.func211, by kernel_rfl, rfl⟩
theorem fn212 : FnOk Try.prog 212 := ⟨_, Try.func212, by kernel_rfl, rfl⟩
theorem fn213 : FnOk Try.prog 213 := ⟨_, Try.func213, by kernel_rfl, rfl⟩

end Fw


/- Closed facts on types and functions. -/
set_option linter.unusedVariables false
set_option linter.unusedSimpArgs false
set_option exponentiation.threshold 70
namespace Fw
open Go Go.Proofs

theorem fn149 : FnOk Try.prog 149 := ⟨_, Try.func149, by kernel_rfl, rfl⟩
theorem fn161 : FnOk Try.prog 161 := ⟨_, Try.func161, by kernel_rfl, rfl⟩
end Fw


/- Closed facts on types and functions. -/
set_option linter.unusedVariables false
set_option linter.unusedSimpArgs false
set_option exponentiation.threshold 70
namespace Fw
open Go Go.Proofs

theorem fn157 : FnOk Try.prog 157 := ⟨_, Try.func157, by kernel_rfl, rfl⟩
theorem fn74 : FnOk Try.prog 74 := ⟨_, Try.func74, by kernel_rfl, rfl⟩

end Fw


/- Closed facts on types and functions. -/
set_option linter.unusedVariables false
set_option linter.unusedSimpArgs false
set_option exponentiation.threshold 70
namespace Fw
open Go Go.Proofs

theorem fn163 : FnOk Try.prog 163 := ⟨_, Try.func163, by kernel_rfl, rfl⟩
theorem fn90 : FnOk Try.prog 90 := ⟨_, Try.func90, by kernel_rfl, rfl⟩
theorem fn93 : FnOk Try.prog 93 := ⟨_, Try.func93, by kernel_rfl, rfl⟩

end Fw


/- Closed facts on types and functions. -/
set_option linter.unusedVariables false
set_option linter.unusedSimpArgs false
set_option exponentiation.threshold 70
namespace Fw
open Go Go.Proofs

theorem fn105 : FnOk Try.prog 105 := ⟨_, Try.func105, by kernel_rfl, rfl⟩

end Fw


/- Closed facts on types and functions. -/
set_option linter.unusedVariables false
set_option linter.unusedSimpArgs false
set_option exponentiation.threshold 70
namespace Fw
open Go Go.Proofs

theorem fn162 : FnOk Try.prog 162 := ⟨_, Try.func162, by kernel_rfl, rfl⟩
theorem fn203 : FnOk Try.prog 203 := ⟨_, Try.func203, by kernel_rfl, rfl⟩
theorem fn204 : FnOk Try.prog 204 := ⟨_, Try.func204, by kernel_rfl, rfl⟩
theorem fn205 : FnOk Try.prog 205 := ⟨_, Try.func205, by kernel_rfl, rfl⟩

end Fw


/- Closed facts on types and functions. -/
set_option linter.unusedVariables false
set_option linter.unusedSimpArgs false
set_option exponentiation.threshold 400
namespace Fw
open Go Go.Proofs

theorem fn75 : FnOk Try.prog 75 := ⟨_, Try.func75, by kernel_rfl, rfl⟩
theorem fn88 : FnOk Try.prog 88 := ⟨_, Try.func88, by kernel_rfl, rfl⟩
end Fw


/- Closed facts on types and functions. -/
set_option linter.unusedVariables false
set_option linter.unusedSimpArgs false
set_option exponentiation.threshold 400
namespace Fw
open Go Go.Proofs

theorem fn91 : FnOk Try.prog 91 := ⟨_, Try.func91, by kernel_rfl, rfl⟩
theorem fn92 : FnOk Try.prog 92 := ⟨_, Try.func92, by kernel_rfl, rfl⟩
end Fw


/- Closed facts on types and functions. -/
set_option linter.unusedVariables false
set_option linter.unusedSimpArgs false
set_option exponentiation.threshold 400
namespace Fw
open Go Go.Proofs

theorem fn76 : FnOk Try.prog 76 := ⟨_, Try.func76, by kernel_rfl, rfl⟩
end Fw


/- Closed facts on types and functions. -/
set_option linter.unusedVariables false
set_option linter.unusedSimpArgs false
set_option exponentiation.threshold 400
namespace Fw
open Go Go.Proofs

theorem fn146 : FnOk Try.prog 146 := ⟨_, Try.func146, by kernel_rfl, rfl⟩
theorem fn89 : FnOk Try.prog 89 := ⟨_, Try.func89, by kernel_rfl, rfl⟩

end Fw


/- Closed facts on types and functions. -/
set_option linter.unusedVariables false
set_option linter.unusedSimpArgs false
set_option exponentiation.threshold 400
namespace Fw
open Go Go.Proofs

end Fw


/- Closed facts on types and functions. -/
set_option linter.unusedVariables false
set_option linter.unusedSimpArgs false
set_option exponentiation.threshold 400
namespace Fw
open Go Go.Proofs

end Fw


/- Closed facts on types and functions. -/
set_option linter.unusedVariables false
set_option linter.unusedSimpArgs false
set_option exponentiation.threshold 400
namespace Fw
open Go Go.Proofs

theorem info47 : (Try.prog.info? 47).map (fun i => (i.zero, i.size, i.bytes)) = some (some (.agg #[.bool false, .slice none 0 0, .bool false, .slice none 0 0, .bool false, .slice none 0 0]), 6, 96) := by kernel_rfl
theorem info48 : (Try.prog.info? 48).map (fun i => (i.zero, i.size, i.bytes)) = some (some (.agg #[.bool false, .slice none 0 0, .bool false, .slice none 0 0, .bool false, .slice none 0 0, .bool false, .slice none 0 0]), 8, 128) := by kernel_rfl
theorem ty47 : TyOk Try.prog 47 true 6 := ⟨_, Try.underlying47, rfl, by kernel_rfl⟩
theorem ty48 : TyOk Try.prog 48 true 8 := ⟨_, Try.underlying48, rfl, by kernel_rfl⟩
theorem fld47_0 : FldOk Try.prog 47 0 0 := fld_of (n := 1) (by kernel_rfl)
theorem fld47_1 : FldOk Try.prog 47 1 2 := fld_of (n := 1) (by kernel_rfl)
theorem fld47_2 : FldOk Try.prog 47 2 4 := fld_of (n := 1) (by kernel_rfl)
theorem fn160 : FnOk Try.prog 160 := ⟨_, Try.func160, by kernel_rfl, rfl⟩
theorem fn85 : FnOk Try.prog 85 := ⟨_, Try.func85, by kernel_rfl, rfl⟩
theorem fn86 : FnOk Try.prog 86 := ⟨_, Try.func86, by kernel_rfl, rfl⟩
theorem lit47_pr_C_pr_C_C__ : LitOk Try.prog 47 (kPair kC (kPair kC kC)) ([(0, 2), (2, 2), (4, 2)].toArray[·]?) (0, (0, 0)) := lit_of info47 (by kernel_rfl) fun m => ⟨[.bool false, .slice none 0 0], [.bool false, .slice none 0 0, .bool false, .slice none 0 0], rfl, zero_C m, ⟨[.bool false, .slice none 0 0], [.bool false, .slice none 0 0], rfl, zero_C m, zero_C m⟩⟩
theorem lit48_ar4_C : LitOk Try.prog 48 (kArr 4 kC) (fun i => some (i * 2, 2)) (List.replicate 4 0) := litA_of info48 Try.underlying48 info31 fun m => ⟨rfl, ⟨[.bool false, .slice none 0 0], _, rfl, zero_C m, ⟨[.bool false, .slice none 0 0], _, rfl, zero_C m, ⟨[.bool false, .slice none 0 0], _, rfl, zero_C m, ⟨[.bool false, .slice none 0 0], _, rfl, zero_C m, rfl⟩⟩⟩⟩⟩
theorem z47_pr_C_pr_C_C__ : ZeroOk Try.prog 47 (kPair kC (kPair kC kC)) (0, (0, 0)) := zeroOk_of info47 fun m => ⟨[.bool false, .slice none 0 0], [.bool false, .slice none 0 0, .bool false, .slice none 0 0], rfl, zero_C m, ⟨[.bool false, .slice none 0 0], [.bool false, .slice none 0 0], rfl, zero_C m, zero_C m⟩⟩
theorem z48_ar4_C : ZeroOk Try.prog 48 (kArr 4 kC) (List.replicate 4 0) := zeroOk_of info48 fun m => ⟨rfl, ⟨[.bool false, .slice none 0 0], _, rfl, zero_C m, ⟨[.bool false, .slice none 0 0], _, rfl, zero_C m, ⟨[.bool false, .slice none 0 0], _, rfl, zero_C m, ⟨[.bool false, .slice none 0 0], _, rfl, zero_C m, rfl⟩⟩⟩⟩⟩

end Fw


/- Closed facts on types and functions. -/
set_option linter.unusedVariables false
set_option linter.unusedSimpArgs false
set_option exponentiation.threshold 400
namespace Fw
open Go Go.Proofs

theorem fn23 : FnOk Try.prog 23 := ⟨_, Try.func23, by kernel_rfl, rfl⟩
theorem fn24 : FnOk Try.prog 24 := ⟨_, Try.func24, by kernel_rfl, rfl⟩
theorem fn25 : FnOk Try.prog 25 := ⟨_, Try.func25, by kernel_rfl, rfl⟩
theorem fn26 : FnOk Try.prog 26 := ⟨_, Try.func26, by kernel_rfl, rfl⟩
theorem fn27 : FnOk Try.prog 27 := ⟨_, Try.func27, by kernel_rfl, rfl⟩
theorem fn28 : FnOk Try.prog 28 := ⟨_, Try.func28, by kernel_rfl, rfl⟩
theorem fn29 : FnOk Try.prog 29 := ⟨_, Try.func29, by kernel_rfl, rfl⟩
theorem fn30 : FnOk Try.prog 30 := ⟨_, Try.func30, by kernel_rfl, rfl⟩
theorem fn87 : FnOk Try.prog 87 := ⟨_, Try.func87, by kernel_rfl, rfl⟩
theorem fn94 : FnOk Try.prog 94 := ⟨_, Try.func94, by kernel_rfl, rfl⟩
theorem lit47_pr_Z_pr_Z_Z__ : LitOk Try.prog 47 (kPair kZ (kPair kZ kZ)) ([(0, 2), (2, 2), (4, 2)].toArray[·]?) (0, (0, 0)) := lit_of info47 (by kernel_rfl) fun m => ⟨[.bool false, .slice none 0 0], [.bool false, .slice none 0 0, .bool false, .slice none 0 0], rfl, zero_Z m, ⟨[.bool false, .slice none 0 0], [.bool false, .slice none 0 0], rfl, zero_Z m, zero_Z m⟩⟩
theorem z47_pr_Z_pr_Z_Z__ : ZeroOk Try.prog 47 (kPair kZ (kPair kZ kZ)) (0, (0, 0)) := zeroOk_of info47 fun m => ⟨[.bool false, .slice none 0 0], [.bool false, .slice none 0 0, .bool false, .slice none 0 0], rfl, zero_Z m, ⟨[.bool false, .slice none 0 0], [.bool false, .slice none 0 0], rfl, zero_Z m, zero_Z m⟩⟩

end Fw


/- How an argument's reading becomes a datum of the walks' frame; how a contract becomes a row's step. -/
set_option linter.unusedVariables false
set_option linter.unusedSimpArgs false
set_option exponentiation.threshold 70
namespace Fw
open Go Go.Proofs Go.ChangeShapes Go.WideShapes Go.RowKit
open Go.Proofs.Ytgbafijcklgajaa.Rows (uptoBulk uptoBulkAll)

def snap (w : World) : Mem := fun g => match w.heap[g]? with
  | some (.cells A _ _) => some A.toList
  | _ => none
theorem snap_fits (w : World) : Fits (snap w) w := fun g c h => by
  unfold snap at h
  split at h
  · rename_i A e f hA
    simp only [Option.some.injEq] at h
    subst h
    exact ⟨A, e, f, [], hA, by simp⟩
  · cases h
theorem snap_cell {w : World} {a : Addr} {v : Value} (h : w.cell? a = some v) : a = ⟨a.block, a.off, none⟩ ∧ ∃ c, snap w a.block = some c ∧ c[a.off]? = some v := by
  unfold World.cell? at h
  split at h
  · rename_i A e f hA
    split at h
    · cases h
    · rename_i hs
      refine ⟨?_, A.toList, by simp [snap, hA], by simpa using h⟩
      cases a with
      | mk b o s => cases s <;> simp_all
  · cases h

theorem bulk_one {H : Type} (d : DataW H) : 1 ≤ uptoBulk d := by
  cases d with
  | lit l => cases l <;> simp [uptoBulk]
  | nil => simp [uptoBulk]
  | ptr d => simp [uptoBulk]
  | slice elems spare => simp [uptoBulk]
  | agg parts => simp [uptoBulk]
  | iface t d => simp [uptoBulk]
  | map entries => simp [uptoBulk]
  | held h => simp [uptoBulk]
theorem bulk_mem {H : Type} {d : DataW H} {l : List (DataW H)} (h : d ∈ l) : uptoBulk d ≤ uptoBulkAll l := by
  induction l with
  | nil => cases h
  | cons x r ih =>
    simp only [uptoBulkAll]
    rcases List.mem_cons.1 h with e | e
    · subst e; omega
    · have := ih e; omega
theorem bulk_len {H : Type} (l : List (DataW H)) : l.length ≤ uptoBulkAll l := by
  induction l with
  | nil => simp [uptoBulkAll]
  | cons x r ih => have := bulk_one x; simp only [uptoBulkAll, List.length_cons]; omega

abbrev uptoN : Nat := 1048576
/-- What reads as a value of the type t reads as a datum of the kind k, and Q holds of it. -/
def Rd (P : Program) (t : TypeId) {α : Type} (k : Kd α) (Q : α → Prop) : Prop :=
  ∀ {H : Type} (enc : TypeId × Value → H) (w : World) (fuel : Nat) (cs : List Value) (d : DataW H) (ps : List MemPlace), DataW.trod enc P w 0 (fun _ => true) true fuel t cs = some (d, ps) → uptoBulk d ≤ uptoN → ∃ x, k.at' (snap w) cs x ∧ Q x

section
variable {P : Program} {t e : TypeId}
theorem Rd.mono {α : Type} {k : Kd α} {Q Q' : α → Prop} (h : Rd P t k Q) (hq : ∀ x, Q x → Q' x) : Rd P t k Q' := fun enc w fuel cs d ps hd hb => by
  obtain ⟨x, h1, h2⟩ := h enc w fuel cs d ps hd hb
  exact ⟨x, h1, hq x h2⟩
theorem rd_int {k : IntKind} (hu : P.underlying t = some (.int k)) : Rd P t (kInt k) (fun n => k.has n) := fun enc w fuel cs d ps hd hb => by
  obtain ⟨n, h1, h2, h3⟩ := DataW.trod_int hu hd
  exact ⟨n, h1, by simpa [Lit.wf, IntKind.has] using h3⟩
theorem rd_i64 (hu : P.underlying t = some (.int .i64)) : Rd P t kI64 (fun _ => True) := fun enc w fuel cs d ps hd hb => by
  obtain ⟨n, h1, h2, h3⟩ := DataW.trod_int hu hd
  have : -9223372036854775808 ≤ n ∧ n ≤ 9223372036854775807 := by simpa [Lit.wf, IntKind.min, IntKind.max, IntKind.signed, IntKind.bits] using h3
  exact ⟨n, ⟨h1, this⟩, trivial⟩
theorem rd_limb (hu : P.underlying t = some (.int .u32)) : Rd P t kLimb (fun _ => True) := fun enc w fuel cs d ps hd hb => by
  obtain ⟨n, h1, h2, h3⟩ := DataW.trod_int hu hd
  have : 0 ≤ n ∧ n ≤ 4294967295 := by simpa [Lit.wf, IntKind.min, IntKind.max, IntKind.signed, IntKind.bits] using h3
  refine ⟨n.toNat, ⟨by rw [h1]; congr 2; omega, by omega⟩, trivial⟩
theorem rd_bool (hu : P.underlying t = some .bool) : Rd P t kBool (fun _ => True) := fun enc w fuel cs d ps hd hb => by
  obtain ⟨b, h1, h2⟩ := DataW.trod_bool hu hd
  exact ⟨b, h1, trivial⟩
theorem rd_sl {α : Type} {k : Kd α} {Q : α → Prop} (hu : P.underlying t = some (.slice e)) (hc : P.cellsOf e = k.sz) (h0 : 0 < k.sz) (h : Rd P e k Q) : Rd P t (kSl k) (fun xs => xs.length ≤ uptoN ∧ ∀ x ∈ xs, Q x) := fun enc w fuel cs d ps hd hb => by
  rcases DataW.trod_slice hu hd with ⟨rfl, hx⟩ | ⟨a, len, cap, elems, rest, n, rfl, rfl, hx, _, hl, hm, hlen, hel, _⟩
  · exact ⟨[], ⟨none, 0, rfl, by simp, by simp, .inl rfl⟩, by simp, by simp⟩
  · simp only [Prod.mk.injEq] at hx
    obtain ⟨rfl, _⟩ := hx
    simp only [uptoBulk] at hb
    have hbl := bulk_len (elems.map (·.1))
    simp only [List.length_map] at hbl
    by_cases h00 : len = 0
    · subst h00
      exact ⟨[], ⟨some a, cap, rfl, by simp, by simp, .inl rfl⟩, by simp, by simp⟩
    -- the cells of element i
    have hcell : ∀ i, i < len → ∃ ci, ci.length = k.sz ∧ (∀ j, j < k.sz → w.cell? (a.add (i * k.sz + j)) = ci[j]?) ∧ ∃ x, k.at' (snap w) ci x ∧ Q x := by
      intro i hi
      have h1 := hel i hi
      rw [hc] at h1
      have hlt : i < elems.length := by omega
      rw [List.getElem?_eq_getElem hlt, Option.bind_eq_some_iff] at h1
      obtain ⟨ci, h2, h3⟩ := h1
      obtain ⟨_, h4, h5⟩ := World.cells?_some h2
      obtain ⟨x, h6, h7⟩ := h enc w n ci elems[i].1 elems[i].2 h3 (by
        have := bulk_mem (H := _) (d := elems[i].1) (l := elems.map (·.1)) (List.mem_map.2 ⟨_, List.getElem_mem hlt, rfl⟩)
        omega)
      refine ⟨ci, h4, fun j hj => ?_, x, h6, h7⟩
      rw [← h5 j hj, Addr.add_add]
    obtain ⟨c0, l0, e0, x0, _⟩ := hcell 0 (by omega)
    have hv0 : ∃ v, c0[0]? = some v := ⟨c0[0], List.getElem?_eq_getElem (by omega)⟩
    obtain ⟨v0, hv0⟩ := hv0
    have h00 := e0 0 h0
    rw [hv0] at h00
    have ha : a = ⟨a.block, a.off, none⟩ := by
      have h01 := (snap_cell h00).1
      cases a with
      | mk b o s =>
        cases s with
        | none => rfl
        | some s => simp [Addr.add] at h01
    obtain ⟨c, hc1, _⟩ := (snap_cell h00).2
    rw [ha] at hc1 hcell ⊢
    simp only [Addr.add_lit] at hc1 hcell
    have hget : ∀ o v, w.cell? ⟨a.block, o, none⟩ = some v → c[o]? = some v := by
      intro o v hv
      obtain ⟨_, c', h1, h2⟩ := snap_cell hv
      simp only at h1 h2
      rw [hc1] at h1
      cases h1
      exact h2
    have key : ∀ m, m ≤ len → a.off + m * k.sz ≤ c.length ∧ ∃ xs : List α, xs.length = m ∧ Rows k (snap w) ((c.drop a.off).take (m * k.sz)) xs ∧ ∀ x ∈ xs, Q x := by
      intro m
      induction m with
      | zero =>
        intro _
        obtain ⟨ci, l1, l2, _⟩ := hcell 0 (by omega)
        have := hget _ _ ((l2 0 h0).trans (List.getElem?_eq_getElem (by omega)))
        have := (List.getElem?_eq_some_iff.1 this).1
        exact ⟨by omega, [], rfl, by simp [Rows], by simp⟩
      | succ m ih =>
        intro hm1
        obtain ⟨ih0, xs, ih1, ih2, ih3⟩ := ih (by omega)
        obtain ⟨ci, l1, l2, x, l3, l4⟩ := hcell m (by omega)
        have hci : ∀ j, j < k.sz → c[a.off + (m * k.sz + j)]? = ci[j]? := by
          intro j hj
          have h1 := l2 j hj
          rw [List.getElem?_eq_getElem (show j < ci.length by omega)] at h1 ⊢
          exact hget _ _ h1
        have hlen' : a.off + (m + 1) * k.sz ≤ c.length := by
          have h1 := hci (k.sz - 1) (by omega)
          rw [List.getElem?_eq_getElem (show k.sz - 1 < ci.length by omega)] at h1
          have := (List.getElem?_eq_some_iff.1 h1).1
          rw [Nat.succ_mul]
          omega
        have hseg : (c.drop (a.off + m * k.sz)).take k.sz = ci := by
          apply List.ext_getElem?
          intro j
          by_cases hj : j < k.sz
          · rw [List.getElem?_take_of_lt hj, List.getElem?_drop, ← hci j hj, Nat.add_assoc]
          · rw [List.getElem?_eq_none (by simp; omega), List.getElem?_eq_none (by omega)]
        have hspl : (c.drop a.off).take ((m + 1) * k.sz) = (c.drop a.off).take (m * k.sz) ++ ci := by
          rw [Nat.succ_mul, List.take_add, List.drop_drop, hseg]
        refine ⟨hlen', xs ++ [x], by simp [ih1], by rw [hspl]; exact ih2.append (Rows.one l3), ?_⟩
        intro y hy
        rcases List.mem_append.1 hy with hy | hy
        · exact ih3 y hy
        · simp at hy; subst hy; exact l4
    obtain ⟨k0, xs, k1, k2, k3⟩ := key len (Nat.le_refl _)
    refine ⟨xs, ⟨some ⟨a.block, a.off, none⟩, cap, by rw [k1], by unfold uptoN at hb; omega, by omega, .inr ⟨a.block, a.off, c, _, rfl, hc1, ⟨c.take a.off, (c.drop a.off).drop (len * k.sz), ?_, by simp; omega⟩, k2⟩⟩, by unfold uptoN at hb ⊢; omega, k3⟩
    rw [List.append_assoc, List.take_append_drop, List.take_append_drop]
/-- The fields of a struct, from one on. -/
def RdF (P : Program) (fs : List Field) (off : Nat) {α : Type} (k : Kd α) (Q : α → Prop) : Prop :=
  ∀ {H : Type} (enc : TypeId × Value → H) (w : World) (n : Nat) (cs : List Value) (xs : List (DataW H × List MemPlace)), xs.length = fs.length →
    (∀ (i : Nat) (f : Field), fs[i]? = some f → DataW.trod enc P w 0 (fun _ => true) true n f.type ((cs.drop f.offset).take (P.cellsOf f.type)) = xs[i]?) → uptoBulkAll (xs.map (·.1)) ≤ uptoN → off + k.sz = cs.length → ∃ x, k.at' (snap w) (cs.drop off) x ∧ Q x
theorem rdf_last {α : Type} {k : Kd α} {Q : α → Prop} {f : Field} {off : Nat} (ho : f.offset = off) (hc : P.cellsOf f.type = k.sz) (h : Rd P f.type k Q) : RdF P [f] off k Q := fun enc w n cs xs hl hx hb hlen => by
  match xs, hl with
  | [y], _ =>
    have h1 := hx 0 f rfl
    rw [ho, hc, List.take_of_length_le (by simp; omega)] at h1
    exact h enc w n _ y.1 y.2 h1 (by simp [uptoBulkAll] at hb; omega)
theorem rdf_cons {α β : Type} {k : Kd α} {l : Kd β} {Q : α → Prop} {R : β → Prop} {f : Field} {fs : List Field} {off off' : Nat} (ho : f.offset = off) (hc : P.cellsOf f.type = k.sz) (h : Rd P f.type k Q) (ho' : off + k.sz = off') (hr : RdF P fs off' l R) : RdF P (f :: fs) off (kPair k l) (fun x => Q x.1 ∧ R x.2) := fun enc w n cs xs hl hx hb hlen => by
  match xs, hl with
  | y :: ys, hl =>
    simp only [List.map_cons, uptoBulkAll] at hb
    have hlen' : off + (k.sz + l.sz) = cs.length := hlen
    have h1 := hx 0 f rfl
    rw [ho, hc] at h1
    obtain ⟨x, h2, h3⟩ := h enc w n _ y.1 y.2 h1 (by omega)
    obtain ⟨z, h4, h5⟩ := hr enc w n cs ys (by simpa using hl) (fun i g hg => by simpa using hx (i + 1) g (by simpa using hg)) (by omega) (by omega)
    refine ⟨(x, z), ⟨_, _, ?_, h2, h4⟩, h3, h5⟩
    rw [← ho', ← List.drop_drop, List.take_append_drop]
theorem rd_struct {α : Type} {k : Kd α} {Q : α → Prop} {fs : List Field} (hu : P.underlying t = some (.struct fs.toArray)) (hc : P.cellsOf t = k.sz) (h : RdF P fs 0 k Q) : Rd P t k Q := fun enc w fuel cs d ps hd hb => by
  obtain ⟨xs, n, _, hx, hl, hlen, hf⟩ := DataW.trod_struct hu hd
  simp only [Prod.mk.injEq] at hx
  obtain ⟨rfl, _⟩ := hx
  simp only [uptoBulk] at hb
  have := h enc w n cs xs (by simpa using hlen) (fun i f hi => hf i f (by simpa using hi)) (by omega) (by omega)
  simpa using this
/-- A number that came in. -/
def ZB (z : Int) : Prop := z.natAbs < 4294967296 ^ uptoN
theorem rd_Z (h : Rd P t kI (fun x => True ∧ x.2.length ≤ uptoN ∧ ∀ y ∈ x.2, True)) : Rd P t kZ ZB := fun enc w fuel cs d ps hd hb => by
  obtain ⟨x, h1, _, h2, _⟩ := h enc w fuel cs d ps hd hb
  have hl : Lims x.2 := by
    obtain ⟨a, b, _, _, _, _, _, _, _, h3⟩ := h1
    rcases h3 with h3 | ⟨_, _, _, _, _, _, _, r⟩
    · intro y hy; rw [h3] at hy; cases hy
    · exact rows_lims r
  have hv : (ival x).natAbs = nval x.2 := by
    unfold ival; split <;> simp
  refine ⟨ival x, ⟨x, h1, rfl, by unfold uptoN at h2; omega⟩, ?_⟩
  unfold ZB
  rw [hv]
  exact Nat.lt_of_lt_of_le (nval_lt hl) (Nat.pow_le_pow_right (by omega) h2)

/-! ### Values -/
theorem arg_sl {α : Type} {k : Kd α} {Q : List α → Prop} (hu : P.underlying t = some (.slice e)) (h : Rd P t (kSl k) Q) {H : Type} {enc : TypeId × Value → H} {w : World} {base : Nat} {v : Value} {d : DataW H} {ps : List MemPlace} (hval : Value.okWide P w .any base t v) (hd : DataW.Trod enc P w 0 (fun _ => true) true t v d ps) (hb : uptoBulk d ≤ uptoN) : ∃ x, ((kSl k).is x).p (snap w) v ∧ Q x := by
  obtain ⟨fuel, hd⟩ := hd
  obtain ⟨x, h1, h2⟩ := h enc w fuel _ d ps hd hb
  refine ⟨x, ⟨_, ?_, h1⟩, h2⟩
  obtain ⟨a, cap, h3, _⟩ := h1
  cases v with
  | slice a n c => rfl
  | agg cs => simp [Value.okWide, hu, Cell.okWide, Cell.ok] at hval
  | _ => simp [Value.cells] at h3
theorem arg_int {k : IntKind} (hu : P.underlying t = some (.int k)) {H : Type} {enc : TypeId × Value → H} {w : World} {base : Nat} {v : Value} {d : DataW H} {ps : List MemPlace} (hval : Value.okWide P w .any base t v) (hd : DataW.Trod enc P w 0 (fun _ => true) true t v d ps) : ∃ x, ((kInt k).is x).p (snap w) v ∧ (Lit.int k x).wf = true := by
  obtain ⟨n, rfl, _, _, hw⟩ := open_int hu hval hd
  exact ⟨n, ⟨_, rfl, rfl⟩, hw⟩
theorem arg_i64 (hu : P.underlying t = some (.int .i64)) {H : Type} {enc : TypeId × Value → H} {w : World} {base : Nat} {v : Value} {d : DataW H} {ps : List MemPlace} (hval : Value.okWide P w .any base t v) (hd : DataW.Trod enc P w 0 (fun _ => true) true t v d ps) : ∃ x, (kI64.is x).p (snap w) v ∧ True := by
  obtain ⟨n, rfl, _, _, hw⟩ := open_int hu hval hd
  have : -9223372036854775808 ≤ n ∧ n ≤ 9223372036854775807 := by simpa [Lit.wf, IntKind.min, IntKind.max, IntKind.signed, IntKind.bits] using hw
  exact ⟨n, ⟨_, rfl, rfl, this⟩, trivial⟩
theorem arg_agg {α : Type} {k : Kd α} {Q : α → Prop} {fs : Array Field} (hu : P.underlying t = some (.struct fs)) (hk : k.agg = true) (h : Rd P t k Q) {H : Type} {enc : TypeId × Value → H} {w : World} {base : Nat} {v : Value} {d : DataW H} {ps : List MemPlace} (hval : Value.okWide P w .any base t v) (hd : DataW.Trod enc P w 0 (fun _ => true) true t v d ps) (hb : uptoBulk d ≤ uptoN) : ∃ x, (k.is x).p (snap w) v ∧ Q x := by
  obtain ⟨fuel, hd⟩ := hd
  obtain ⟨x, h1, h2⟩ := h enc w fuel _ d ps hd hb
  refine ⟨x, ⟨_, ?_, h1⟩, h2⟩
  simp only [Value.okWide, hu] at hval
  obtain ⟨cs, rfl, _⟩ := hval
  simp [Kd.val, hk, Value.cells]
theorem arg_arr {α : Type} {k : Kd α} {Q : α → Prop} {n : Nat} (hu : P.underlying t = some (.array n e)) (hk : k.agg = true) (h : Rd P t k Q) {H : Type} {enc : TypeId × Value → H} {w : World} {base : Nat} {v : Value} {d : DataW H} {ps : List MemPlace} (hval : Value.okWide P w .any base t v) (hd : DataW.Trod enc P w 0 (fun _ => true) true t v d ps) (hb : uptoBulk d ≤ uptoN) : ∃ x, (k.is x).p (snap w) v ∧ Q x := by
  obtain ⟨fuel, hd⟩ := hd
  obtain ⟨x, h1, h2⟩ := h enc w fuel _ d ps hd hb
  refine ⟨x, ⟨_, ?_, h1⟩, h2⟩
  simp only [Value.okWide, hu] at hval
  obtain ⟨cs, rfl, _⟩ := hval
  simp [Kd.val, hk, Value.cells]

/-! ### Behind the call -/
theorem below_all {H : Type} {enc : TypeId × Value → H} (hl : laidOutB P = true) {W W' : World} (hb : Below W.heap.size W W') : ∀ {ts : List TypeId} {vs : List Value} {ds : List (DataW H)} {ps : List MemPlace}, ts.all (fun t => P.readableRec t && decide (t < P.types.size)) = true → DataW.TrodAll enc P W 0 (fun _ => true) true ts vs ds ps → (∀ x ∈ ps, x.block < W.heap.size) → DataW.TrodAll enc P W' 0 (fun b => decide (b < W.heap.size)) true ts vs ds ps
  | [], [], [], _, _, h, _ => h
  | t :: ts, v :: vs, d :: ds, _, hr, ⟨p, q, h1, h2, rfl⟩, hlt => by
    simp only [List.all_cons, Bool.and_eq_true, decide_eq_true_eq] at hr
    exact ⟨p, q, Below.trod hl hr.1.1 hr.1.2 h1 hb (fun x hx => hlt x (List.mem_append.2 (.inl hx))), below_all hl hb (by simpa using hr.2) h2 (fun x hx => hlt x (List.mem_append.2 (.inr hx))), rfl⟩
/-- What a contract with plain arguments gives of the call. -/
theorem Fn.calls {f : FuncId} {pre : List VP} {b : Bool} (h : Fn P f pre (kBool.is b)) {W : World} {vs : List Value} (ha : Args (snap W) vs pre) : Calls P f vs.toArray W fun e W' => e = .returned (.bool b) ∧ Below W.heap.size W W' := by
  refine (h (snap W) W vs (snap_fits W) ha ⟨fun b hb => (by cases hb), List.Pairwise.nil⟩).mono ?_
  rintro e w' ⟨m', v, p, Lo, rfl, s, hp, rfl, rfl⟩
  obtain ⟨cs, rfl, rfl⟩ := hp
  exact ⟨rfl, s.grow.below⟩
end
theorem ZB_gen {z : Int} {k : Nat} (h : z.natAbs < 4294967296 ^ k) : z.natAbs < 2 ^ (32 * k) := by
  rw [show (4294967296 : Nat) = 2 ^ 32 from rfl, ← Nat.pow_mul] at h
  exact h
theorem ZB_lt {z : Int} (h : ZB z) : ∃ n, n ≤ 33554432 ∧ z.natAbs < 2 ^ n := ⟨32 * uptoN, by unfold uptoN; omega, ZB_gen h⟩
end Fw

/- Plain facts on limbs: what the functions of layer 1 rest on. -/
set_option linter.unusedVariables false
set_option linter.unusedSimpArgs false
set_option exponentiation.threshold 70
namespace Fw

/-- below, the same, above -/
def cmpI (x y : Nat) : Int := if x < y then -1 else if y < x then 1 else 0
theorem take_take1 {l : List Nat} {i : Nat} (hi : i ≤ l.length) : (l.take i).take (i - 1) = l.take (i - 1) := by
  rw [List.take_take, Nat.min_eq_left (by omega)]
theorem take_succ' {l : List Nat} {i : Nat} (hi : i < l.length) : l.take (i + 1) = l.take i ++ [l.getD i 0] := by
  rw [List.take_add_one, List.getElem?_eq_getElem hi]
  simp [List.getElem?_eq_getElem hi]
theorem take_pred {l : List Nat} {i : Nat} (hi : i ≤ l.length) (h0 : 0 < i) : l.take i = l.take (i - 1) ++ [l.getD (i - 1) 0] := by
  obtain ⟨j, rfl⟩ : ∃ j, i = j + 1 := ⟨i - 1, by omega⟩
  exact take_succ' (by omega)
theorem getD_take {l : List Nat} {i j : Nat} (h : j < i) : (l.take i).getD j 0 = l.getD j 0 := by
  simp [List.getElem?_take, h]
theorem getD_lt {l : List Nat} (hl : Lims l) (i : Nat) : l.getD i 0 < 4294967296 := by
  rw [List.getD_eq_getElem?_getD]
  cases h : l[i]? with
  | none => simp
  | some x => exact hl x (List.mem_of_getElem? h)
theorem Lims.take {l : List Nat} (h : Lims l) (i : Nat) : Lims (l.take i) := fun x hx => h x (List.mem_of_mem_take hx)
theorem Lims.drop {l : List Nat} (h : Lims l) (i : Nat) : Lims (l.drop i) := fun x hx => h x (List.mem_of_mem_drop hx)
theorem trim_down {l : List Nat} {i : Nat} (hi : i ≤ l.length) (h0 : 0 < i) (h : ((l.take i).getD (i - 1) 0 : Int) = 0) : nval (l.take (i - 1)) = nval (l.take i) := by
  rw [getD_take (by omega)] at h
  rw [take_pred hi h0, nval_append, nval, nval, show l.getD (i - 1) 0 = 0 from by omega]
  simp
theorem trim_stop {l : List Nat} {i : Nat} (hl : Lims l) (hi : i ≤ l.length) (h0 : 0 < i) (h : ¬ ((l.take i).getD (i - 1) 0 : Int) = 0) (hr : nval (l.take i) = nval l) : l.take i = limbs (nval l) := by
  rw [getD_take (by omega)] at h
  rw [← hr]
  exact (limbs_nval (hl.take i) (.inr ⟨_, _, take_pred hi h0, by omega⟩)).symm
theorem trim_stop0 {l : List Nat} {i : Nat} (hr : nval (l.take i) = nval l) (h0 : i = 0) : l.take i = limbs (nval l) := by
  subst h0
  rw [← hr]
  simp [nval, limbs_zero]
/-! ### Comparing -/
theorem limbs_last {n : Nat} (h : n ≠ 0) : 4294967296 ^ ((limbs n).length - 1) ≤ n := by
  induction n using Nat.strongRecOn with
  | _ n ih =>
    rw [limbs_pos h]
    simp only [List.length_cons, Nat.add_sub_cancel]
    by_cases h1 : n / 4294967296 = 0
    · rw [h1, limbs_zero]; simp; omega
    · have := ih (n / 4294967296) (by omega) h1
      have hl : (limbs (n / 4294967296)).length = (limbs (n / 4294967296)).length - 1 + 1 := by
        rw [limbs_pos h1]; simp
      rw [hl, Nat.pow_succ]
      have := Nat.mul_le_mul_right 4294967296 this
      omega
theorem lt_limbs (n : Nat) : n < 4294967296 ^ (limbs n).length := by
  have := nval_lt (limbs_lims n)
  rwa [nval_limbs] at this
theorem limbs_mono {a b : Nat} (h : a ≤ b) : (limbs a).length ≤ (limbs b).length := limbs_len_lt (Nat.lt_of_le_of_lt h (lt_limbs b))
theorem cmp_len_lt {a b : Nat} (h : (limbs a).length < (limbs b).length) : (-1) = cmpI a b := by
  have : a < b := by
    rcases Nat.lt_or_ge a b with h1 | h1
    · exact h1
    · have := limbs_mono h1; omega
  simp [cmpI, this]
theorem cmp_len_gt {a b : Nat} (h : (limbs b).length < (limbs a).length) : 1 = cmpI a b := by
  have : b < a := by
    rcases Nat.lt_or_ge b a with h1 | h1
    · exact h1
    · have := limbs_mono h1; omega
  simp [cmpI, this, Nat.lt_asymm this]
theorem cmp_drop {a b : List Nat} (h : a.length = b.length) : a.drop a.length = b.drop a.length := by
  rw [List.drop_length, h, List.drop_length]
theorem split_at {l : List Nat} {i : Nat} (hi : i ≤ l.length) (h0 : 0 < i) : nval l = nval (l.take (i - 1)) + 4294967296 ^ (i - 1) * (l.getD (i - 1) 0 + 4294967296 * nval (l.drop i)) := by
  conv => lhs; rw [← List.take_append_drop (i - 1) l, nval_append]
  rw [List.length_take, Nat.min_eq_left (by omega), List.drop_eq_getElem_cons (by omega), nval]
  have e : l.getD (i - 1) 0 = l[i - 1] := by
    rw [List.getD_eq_getElem?_getD, List.getElem?_eq_getElem (by omega)]; rfl
  rw [e, show i - 1 + 1 = i from by omega]
theorem cmp_lt_core {a b : List Nat} {i : Nat} (hi : i ≤ a.length) (hl : a.length = b.length) (h0 : 0 < i) (hd : a.drop i = b.drop i) (la : Lims a) (h : a.getD (i - 1) 0 < b.getD (i - 1) 0) : nval a < nval b := by
  rw [split_at hi h0, split_at (l := b) (by omega) h0, hd]
  have h1 := nval_lt (la.take (i - 1))
  rw [List.length_take, Nat.min_eq_left (by omega)] at h1
  have h2 : 4294967296 ^ (i - 1) * (a.getD (i - 1) 0 + 4294967296 * nval (b.drop i) + 1) ≤ 4294967296 ^ (i - 1) * (b.getD (i - 1) 0 + 4294967296 * nval (b.drop i)) := Nat.mul_le_mul_left _ (by omega)
  rw [Nat.mul_add, Nat.mul_one] at h2
  omega
theorem cmp_at_lt {a b i : Nat} (hi : i ≤ (limbs a).length) (hl : (limbs a).length = (limbs b).length) (hd : (limbs a).drop i = (limbs b).drop i) (h : 0 < i ∧ (limbs a).getD (i - 1) 0 < (limbs b).getD (i - 1) 0) : (-1) = cmpI a b := by
  have := cmp_lt_core hi hl h.1 hd (limbs_lims a) h.2
  rw [nval_limbs, nval_limbs] at this
  simp [cmpI, this]
theorem cmp_at_gt {a b i : Nat} (hi : i ≤ (limbs a).length) (hl : (limbs a).length = (limbs b).length) (hd : (limbs a).drop i = (limbs b).drop i) (h0 : 0 < i) (h : (limbs b).getD (i - 1) 0 < (limbs a).getD (i - 1) 0) : 1 = cmpI a b := by
  have := cmp_lt_core (a := limbs b) (b := limbs a) (by omega) hl.symm h0 hd.symm (limbs_lims b) h
  rw [nval_limbs, nval_limbs] at this
  simp [cmpI, this, Nat.lt_asymm this]
theorem cmp_at_eq {a b i : Nat} (h0 : i = 0) (hd : (limbs a).drop i = (limbs b).drop i) : 0 = cmpI a b := by
  subst h0
  simp only [List.drop_zero] at hd
  have := congrArg nval hd
  rw [nval_limbs, nval_limbs] at this
  simp [cmpI, this]
theorem cmp_down {a b : List Nat} {i : Nat} (hl : a.length = b.length) (hi : i ≤ a.length) (h0 : 0 < i) (hd : a.drop i = b.drop i) (h : a.getD (i - 1) 0 = b.getD (i - 1) 0) : a.drop (i - 1) = b.drop (i - 1) := by
  have e : ∀ l : List Nat, i ≤ l.length → l.drop (i - 1) = l.getD (i - 1) 0 :: l.drop i := by
    intro l hl
    rw [List.drop_eq_getElem_cons (by omega), List.getD_eq_getElem?_getD, List.getElem?_eq_getElem (by omega), show i - 1 + 1 = i from by omega]
    rfl
  rw [e a hi, e b (by omega), hd, h]

/-! ### Machine words -/
open Go (IntKind)
theorem wr32 {n : Int} {s : Nat} (h : n = s) : IntKind.u32.wrap n = ((s % 4294967296 : Nat) : Int) := by
  subst h; simp [IntKind.wrap, IntKind.signed, IntKind.bits]
theorem wr64 {n : Int} {s : Nat} (h : n = s) : IntKind.u64.wrap n = ((s % 18446744073709551616 : Nat) : Int) := by
  subst h; simp [IntKind.wrap, IntKind.signed, IntKind.bits]
theorem wrs32 {n : Int} {s : Nat} (h : n = s ∧ s < 4294967296) : IntKind.u32.wrap n = (s : Int) := by
  rw [wr32 h.1, Nat.mod_eq_of_lt h.2]
theorem wr8 {n : Int} {s : Nat} (h : n = s ∧ s < 256) : IntKind.u8.wrap n = (s : Int) := by
  obtain ⟨rfl, h⟩ := h
  simp [IntKind.wrap, IntKind.signed, IntKind.bits]; omega
theorem shrN (j : Nat) {n b : Int} {s w : Nat} (h : n = s) (hb : b = j) (hj : j ≤ w) : n.fdiv (2 ^ (min b.toNat w)) = ((s / 2 ^ j : Nat) : Int) := by
  subst h hb
  rw [Int.toNat_natCast, Nat.min_eq_left hj, Int.fdiv_eq_ediv_of_nonneg _ (by have := Int.pow_nonneg (n := 2) (m := j) (by omega : (0 : Int) ≤ 2); exact this)]
  norm_cast
theorem shlN (j : Nat) {n b : Int} {s : Nat} (h : n = s) (hb : b = j) (hj : j ≤ 64) (hs : s * 2 ^ j < 18446744073709551616) : IntKind.u64.wrap (n * 2 ^ (min b.toNat IntKind.u64.bits)) = ((s * 2 ^ j : Nat) : Int) := by
  subst h hb
  show IntKind.u64.wrap (_ * 2 ^ (min _ 64)) = _
  rw [Int.toNat_natCast, Nat.min_eq_left hj, wr64 (s := s * 2 ^ j) (by norm_cast), Nat.mod_eq_of_lt hs]
theorem orN (j : Nat) {a b : Int} {s t : Nat} (ha : a = ((s * 2 ^ j : Nat) : Int)) (hb : b = t) (ht : t < 2 ^ j) (hs : s * 2 ^ j + t < 18446744073709551616) : IntKind.u64.wrap ((BitVec.ofInt IntKind.u64.bits a ||| BitVec.ofInt IntKind.u64.bits b).toNat) = ((s * 2 ^ j + t : Nat) : Int) := by
  subst ha hb
  have h1 : (BitVec.ofInt IntKind.u64.bits ((s * 2 ^ j : Nat) : Int)).toNat = s * 2 ^ j := by
    rw [BitVec.ofInt_natCast, BitVec.toNat_ofNat]
    exact Nat.mod_eq_of_lt (Nat.lt_of_le_of_lt (Nat.le_add_right _ t) hs)
  have h2 : (BitVec.ofInt IntKind.u64.bits (t : Int)).toNat = t := by
    rw [BitVec.ofInt_natCast, BitVec.toNat_ofNat]
    exact Nat.mod_eq_of_lt (Nat.lt_of_le_of_lt (Nat.le_add_left t _) hs)
  rw [BitVec.toNat_or, h1, h2, Nat.mul_comm s, ← Nat.two_pow_add_eq_or_of_lt ht, Nat.mul_comm, wr64 rfl, Nat.mod_eq_of_lt hs]
/-! ### How many binary digits -/
def bitlen (n : Nat) : Nat := if n = 0 then 0 else n.log2 + 1
theorem bitlen_eq {n k : Nat} (h1 : 2 ^ k ≤ n) (h2 : n < 2 ^ (k + 1)) : bitlen n = k + 1 := by
  have h0 : n ≠ 0 := by
    intro h; subst h
    have := Nat.two_pow_pos k; omega
  have h3 : n.log2 < k + 1 := (Nat.log2_lt h0).2 h2
  have h4 : ¬ n.log2 < k := fun h => by
    have := (Nat.log2_lt h0).1 h; omega
  simp [bitlen, h0]; omega
theorem bitlen_spec {n : Nat} (h : n ≠ 0) : ∃ k, bitlen n = k + 1 ∧ 2 ^ k ≤ n ∧ n < 2 ^ (k + 1) :=
  ⟨n.log2, by simp [bitlen, h], Nat.log2_self_le h, Nat.lt_log2_self⟩
theorem bitlen_shift {n : Nat} (j : Nat) (h : 2 ^ j ≤ n) : bitlen n = j + bitlen (n / 2 ^ j) := by
  have hp := Nat.two_pow_pos j
  have h0 : n / 2 ^ j ≠ 0 := by
    have := Nat.div_pos h hp; omega
  obtain ⟨k, h1, h2, h3⟩ := bitlen_spec h0
  rw [h1]
  have h4 : 2 ^ (j + k) ≤ n := by
    rw [Nat.pow_add, Nat.mul_comm]
    exact (Nat.le_div_iff_mul_le hp).1 h2
  have h5 : n < 2 ^ (j + k + 1) := by
    rw [Nat.add_assoc, Nat.pow_add, Nat.mul_comm]
    exact (Nat.div_lt_iff_lt_mul hp).1 h3
  rw [bitlen_eq h4 h5]; omega
theorem bitlen_le {n k : Nat} (h : n < 2 ^ k) : bitlen n ≤ k := by
  by_cases h0 : n = 0
  · subst h0; simp [bitlen]
  · have := (Nat.log2_lt h0).2 h
    simp [bitlen, h0]; omega
theorem lt_bitlen (n : Nat) : n < 2 ^ bitlen n := by
  by_cases h0 : n = 0
  · subst h0; simp [bitlen]
  · simp [bitlen, h0]; exact Nat.lt_log2_self
theorem len8 : ([0, 1, 2, 2, 3, 3, 3, 3, 4, 4, 4, 4, 4, 4, 4, 4] ++ List.replicate 16 5 ++ List.replicate 32 6 ++ List.replicate 64 7 ++ List.replicate 128 8 : List Nat) = (List.range 256).map bitlen := by decide +kernel
theorem bits_limbs {n : Nat} (h : n ≠ 0) : bitlen n = 32 * ((limbs n).length - 1) + bitlen ((limbs n).getD ((limbs n).length - 1) 0) := by
  have h1 : 0 < (limbs n).length := by rw [limbs_pos h]; simp
  have h2 := split_at (l := limbs n) (Nat.le_refl _) h1
  rw [List.drop_length, nval_limbs, nval, Nat.mul_zero, Nat.add_zero] at h2
  have h3 := nval_lt ((limbs_lims n).take ((limbs n).length - 1))
  rw [List.length_take, Nat.min_eq_left (by omega)] at h3
  have h4 := limbs_last h
  have e : (4294967296 : Nat) ^ ((limbs n).length - 1) = 2 ^ (32 * ((limbs n).length - 1)) := by
    rw [show (4294967296 : Nat) = 2 ^ 32 from rfl, ← Nat.pow_mul]
  rw [e] at h2 h3 h4
  rw [bitlen_shift _ h4]
  congr 2
  have hp := Nat.two_pow_pos (32 * ((limbs n).length - 1))
  generalize (limbs n).length - 1 = q at h2 h3 hp ⊢
  generalize nval ((limbs n).take q) = u at h2 h3
  generalize (limbs n).getD q 0 = v at h2 ⊢
  rw [h2, Nat.add_mul_div_left _ _ hp, Nat.div_eq_of_lt h3, Nat.zero_add]
/-! ### Digits laid one by one -/
def fil (n : Nat) (r : List Nat) : List Nat := r ++ List.replicate (n - r.length) 0
theorem fil_nil (n : Nat) : List.replicate n 0 = fil n [] := by simp [fil]
theorem fil_len {n : Nat} {r : List Nat} (h : r.length ≤ n) : (fil n r).length = n := by simp [fil]; omega
theorem fil_set {n : Nat} {r : List Nat} {d : Nat} (h : r.length < n) : (fil n r).set r.length d = fil n (r ++ [d]) := by
  obtain ⟨k, hk⟩ : ∃ k, n - r.length = k + 1 := ⟨n - r.length - 1, by omega⟩
  have h2 : n - (r ++ [d]).length = k := by simp; omega
  simp only [fil, hk, h2, List.replicate_succ, List.append_assoc]
  rw [List.set_append_right _ _ (by omega)]
  simp
theorem fil_full {n : Nat} {r : List Nat} (h : r.length = n) : fil n r = r := by simp [fil, h]
theorem fil_set_end {n : Nat} {r : List Nat} {d : Nat} (h : n = r.length + 1) : (fil n r).set r.length d = r ++ [d] := by
  rw [fil_set (by omega), fil_full (by simp [h])]
theorem nval_concat (r : List Nat) (d : Nat) : nval (r ++ [d]) = nval r + 4294967296 ^ r.length * d := by
  rw [nval_append]; simp [nval]
theorem Lims.concat {r : List Nat} {d : Nat} (h : Lims r) (hd : d < 4294967296) : Lims (r ++ [d]) := fun x hx => by
  rcases List.mem_append.1 hx with hx | hx
  · exact h x hx
  · simp at hx; omega
theorem nval_take_succ (l : List Nat) (i : Nat) : nval (l.take (i + 1)) = nval (l.take i) + 4294967296 ^ i * l.getD i 0 := by
  by_cases h : i < l.length
  · rw [take_succ' h, nval_concat, List.length_take, Nat.min_eq_left (by omega)]
  · rw [List.take_of_length_le (by omega), List.take_of_length_le (by omega), List.getD_eq_getElem?_getD, List.getElem?_eq_none (by omega)]
    simp
theorem getD_out {l : List Nat} {i : Nat} (h : l.length ≤ i) : l.getD i 0 = 0 := by
  rw [List.getD_eq_getElem?_getD, List.getElem?_eq_none h]; rfl
def AddR (x y r : List Nat) (c : Nat) : Prop := Lims r ∧ c ≤ 1 ∧ nval r + 4294967296 ^ r.length * c = nval (x.take r.length) + nval (y.take r.length)
theorem addR_0 (x y : List Nat) : AddR x y [] 0 := ⟨fun x h => (by cases h), by omega, by simp [nval]⟩
theorem addR_s {x y r : List Nat} {c : Nat} (hx : Lims x) (hy : Lims y) (h : AddR x y r c) : AddR x y (r ++ [(c + x.getD r.length 0 + y.getD r.length 0) % 4294967296]) ((c + x.getD r.length 0 + y.getD r.length 0) / 4294967296) := by
  obtain ⟨h1, h2, h3⟩ := h
  have a1 := getD_lt hx r.length
  have a2 := getD_lt hy r.length
  refine ⟨h1.concat (by omega), by omega, ?_⟩
  rw [List.length_append, List.length_singleton, nval_take_succ, nval_take_succ, nval_concat]
  generalize hs : c + x.getD r.length 0 + y.getD r.length 0 = s
  rw [Nat.pow_succ, Nat.mul_assoc, Nat.add_assoc, ← Nat.mul_add, Nat.add_comm (s % 4294967296), Nat.div_add_mod, ← hs, Nat.mul_add, Nat.mul_add]
  omega
theorem addR_end {x y r : List Nat} {c : Nat} (h : AddR x y r c) (hr : r.length = x.length) (hy : y.length ≤ x.length) : nval (r ++ [c]) = nval x + nval y := by
  obtain ⟨h1, h2, h3⟩ := h
  rw [nval_concat, h3, hr, List.take_length, List.take_of_length_le hy]
/-- the difference, limb by limb -/
def LessR (x y r : List Nat) (c : Nat) : Prop := Lims r ∧ c ≤ 1 ∧ nval r + nval (y.take r.length) = nval (x.take r.length) + 4294967296 ^ r.length * c
def lessV (c x y : Nat) : Nat := if x < c + y then x + 18446744073709551616 - c - y else x - c - y
theorem lessR_0 (x y : List Nat) : LessR x y [] 0 := ⟨fun x h => (by cases h), by omega, by simp [nval]⟩
theorem lessR_s {x y r : List Nat} {c : Nat} (hx : Lims x) (hy : Lims y) (h : LessR x y r c) : LessR x y (r ++ [lessV c (x.getD r.length 0) (y.getD r.length 0) % 4294967296]) (lessV c (x.getD r.length 0) (y.getD r.length 0) / 2 ^ 63) := by
  obtain ⟨h1, h2, h3⟩ := h
  have a1 := getD_lt hx r.length
  have a2 := getD_lt hy r.length
  have hv : lessV c (x.getD r.length 0) (y.getD r.length 0) % 4294967296 + (c + y.getD r.length 0) = x.getD r.length 0 + 4294967296 * (lessV c (x.getD r.length 0) (y.getD r.length 0) / 2 ^ 63) ∧ lessV c (x.getD r.length 0) (y.getD r.length 0) / 2 ^ 63 ≤ 1 := by
    unfold lessV; split <;> omega
  generalize lessV c (x.getD r.length 0) (y.getD r.length 0) = v at hv ⊢
  obtain ⟨hv, hv1⟩ := hv
  refine ⟨h1.concat (by omega), hv1, ?_⟩
  rw [List.length_append, List.length_singleton, nval_take_succ, nval_take_succ, nval_concat, Nat.pow_succ, Nat.mul_assoc]
  have := congrArg (4294967296 ^ r.length * ·) hv
  simp only [Nat.mul_add] at this
  omega
theorem lessR_end {x y r : List Nat} {c : Nat} (h : LessR x y r c) (hr : r.length = x.length) (hy : y.length ≤ x.length) (hle : nval y ≤ nval x) : nval r = nval x - nval y := by
  obtain ⟨h1, h2, h3⟩ := h
  have h4 := nval_lt h1
  rw [hr, List.take_length, List.take_of_length_le hy] at h3
  rw [hr] at h4
  have : c = 0 := by
    rcases Nat.lt_or_ge c 1 with h | h
    · omega
    · have hc : c = 1 := by omega
      subst hc
      omega
  subst this
  omega
theorem less_sub1 {c x : Nat} (hc : c ≤ 1) (hx : x < 4294967296) : IntKind.u64.wrap ((x : Int) - (c : Int)) = ((lessV c x 0 : Nat) : Int) := by
  unfold lessV
  simp [IntKind.wrap, IntKind.signed, IntKind.bits]
  split <;> omega
theorem less_sub2 {c x y : Nat} (hc : c ≤ 1) (hx : x < 4294967296) (hy : y < 4294967296) : IntKind.u64.wrap (((lessV c x 0 : Nat) : Int) - (y : Int)) = ((lessV c x y : Nat) : Int) := by
  unfold lessV
  simp [IntKind.wrap, IntKind.signed, IntKind.bits]
  split <;> split <;> omega
theorem bitlen0 {n : Nat} (h : (limbs n).length = 0) : bitlen n = 0 := by
  by_cases h0 : n = 0
  · subst h0; rfl
  · rw [limbs_pos h0] at h; simp at h
theorem cmpI_lt {a b : Nat} (h : cmpI a b < 0) : a < b := by
  unfold cmpI at h; split at h
  · assumption
  · split at h <;> omega
theorem cmpI_ge {a b : Nat} (h : ¬ cmpI a b < 0) : b ≤ a := by
  unfold cmpI at h; split at h
  · omega
  · omega
end Fw


/- What the functions of layer 1 answer: trim, Norm, Cmp. -/
set_option linter.unusedVariables false
set_option linter.unusedSimpArgs false
set_option exponentiation.threshold 70
namespace Fw
open Go Go.Proofs

set_option maxRecDepth 20000 in
set_option maxHeartbeats 1000000 in
theorem c_nat_trim (l : List Nat) : Fn Try.prog 197 [kN.is l] (kN.is (limbs (nval l))) := by
  refine Con.enter Try.func197 rfl rfl fun m w => ?_
  refine ST.fact (i := 0) rfl sl_len fun hB => ?_
  refine ST.fact (i := 0) rfl kN_lims fun hL => ?_
  refine CW.seq ?_
  refine CW.region ?_
  refine WP.s .n (O.asg rfl) ?_
  refine WP.nil ?_
  refine QE.next ?_
  refine CW.seq ?_
  refine CW.block ?_
  refine ST.told 0 rfl (is_eq (y := (l.take l.length)) (by rw [List.take_length])) ?_
  refine CW.loop (fun (i : Nat) => i ≤ l.length ∧ nval (l.take i) = nval l) (fun (i : Nat) => [(0, kN.is (l.take i))]) (fun (i : Nat) => []) (fun (i : Nat) => i) l.length ⟨Nat.le_refl _, by rw [List.take_length]⟩ (Imp.cons rfl Imp.nil) (OImp.refl _) ?_
  intro i ⟨hi, hr⟩
  have hlen : (l.take i).length = i := by simp; omega
  refine CW.seq ?_
  refine CW.seq ?_
  refine CW.region ?_
  refine WP.s .n (O.mv rfl) ?_
  refine WP.s .n (O.lenS rfl Try.underlying29) ?_
  refine WP.s .n (O.gt rfl rfl) ?_
  refine WP.s .n (O.mv rfl) ?_
  refine WP.splitD 6 rfl (fun h_t6 => ?_) (fun h_t6 => ?_)
  · have h_t6' : 0 < i := by omega
    refine WP.s (.g rfl rfl) (O.mv rfl) ?_
    refine WP.s (.g rfl rfl) (O.mv rfl) ?_
    refine WP.s (.g rfl rfl) (O.lenS rfl Try.underlying29) ?_
    refine WP.s (.g rfl rfl) (O.sub rfl rfl (c := (((l.take i).length : Int) - 1)) (w64 (by omega))) ?_
    refine WP.s (.g rfl rfl) (O.ix (i - 1) rfl rfl Try.underlying29 ty121 (by omega) (v := ((l.take i).getD (i - 1) 0)) (gd 0 (by omega))) ?_
    refine WP.s (.g rfl rfl) (OpOk.le (O.ldP rfl ty121) (limb_le _)) ?_
    refine WP.s (.g rfl rfl) (O.eq rfl rfl) ?_
    refine WP.s .n (O.pickT rfl rfl) ?_
    refine WP.nil ?_
    refine QE.next ?_
    refine CW.condD rfl (fun h_t14 => ?_) (fun h_t14 => ?_)
    · refine CW.skip ?_
      refine QE.next ?_
      refine CW.block ?_
      refine CW.region ?_
      refine WP.s .n (O.mv rfl) ?_
      refine WP.s .n (O.mv rfl) ?_
      refine WP.s .n (O.lenS rfl Try.underlying29) ?_
      refine WP.s .n (O.sub rfl rfl (c := (((l.take i).length : Int) - 1)) (w64 (by omega))) ?_
      refine WP.s .n (O.slH (i - 1) rfl rfl Try.underlying29 ty121 (by omega) (by omega)) ?_
      refine WP.s .n (O.asg rfl) ?_
      refine WP.nil ?_
      refine QE.blkN ?_
      refine ST.told 0 rfl (is_eq (y := (l.take (i - 1))) (take_take1 hi)) ?_
      exact QE.round (i - 1) (by omega) ⟨by omega, (trim_down hi h_t6' h_t14).trans hr⟩ (Imp.cons rfl Imp.nil) (OImp.refl _)
    · refine CW.exit ?_
      refine QE.thenE ?_
      refine QE.thenE ?_
      refine QE.blkH ?_
      refine QE.next ?_
      refine CW.seq ?_
      refine CW.region ?_
      refine WP.s .n (O.mv rfl) ?_
      refine WP.s .n (O.asg rfl) ?_
      refine WP.nil ?_
      refine QE.next ?_
      refine CW.ret ?_
      refine ST.told 2 rfl (is_eq (y := (limbs (nval l))) (trim_stop hL hi h_t6' h_t14 hr)) ?_
      exact QE.done (.inl rfl) rfl (ResOk.t rfl ResOk.nil) (OImp.sub (List.nil_sublist _)) ⟨rfl, rfl⟩
  · refine WP.k (b := false) rfl rfl ?_
    refine WP.k (b := false) rfl rfl ?_
    refine WP.k (b := false) rfl rfl ?_
    refine WP.k (b := false) rfl rfl ?_
    refine WP.k (b := false) rfl rfl ?_
    refine WP.k (b := false) rfl rfl ?_
    refine WP.k (b := false) rfl rfl ?_
    refine WP.s .n (O.pickF rfl rfl) ?_
    refine WP.nil ?_
    refine QE.next ?_
    refine CW.condF rfl ?_
    refine CW.exit ?_
    refine QE.thenE ?_
    refine QE.thenE ?_
    refine QE.blkH ?_
    refine QE.next ?_
    refine CW.seq ?_
    refine CW.region ?_
    refine WP.s .n (O.mv rfl) ?_
    refine WP.s .n (O.asg rfl) ?_
    refine WP.nil ?_
    refine QE.next ?_
    refine CW.ret ?_
    refine ST.told 2 rfl (is_eq (y := (limbs (nval l))) (trim_stop0 hr (by omega))) ?_
    exact QE.done (.inl rfl) rfl (ResOk.t rfl ResOk.nil) (OImp.sub (List.nil_sublist _)) ⟨rfl, rfl⟩

set_option maxRecDepth 20000 in
set_option maxHeartbeats 1000000 in
theorem c_nat_Norm (l : List Nat) : Fn Try.prog 208 [kN.is l] (kN.is (limbs (nval l))) := by
  refine Con.enter Try.func208 rfl rfl fun m w => ?_
  refine ST.fact (i := 0) rfl sl_len fun hB => ?_
  refine ST.fact (i := 0) rfl kN_lims fun hL => ?_
  refine CW.seq ?_
  refine CW.region ?_
  refine WP.s .n (O.asg rfl) ?_
  refine WP.nil ?_
  refine QE.next ?_
  refine CW.seq ?_
  refine CW.region ?_
  refine WP.s .n (O.mv rfl) ?_
  refine WP.s .n (O.fn fn197 (evs.c rfl evs.nil) (c_nat_trim l)) ?_
  refine ST.nilrow 121 kLimb ?_
  refine WP.ap 0 .n rfl rfl rfl (VP.le_refl _) Try.underlying29 el121_limb (by have := limbs_len_le hL; simp; omega) fun v1 => ?_
  refine WP.s .n (O.asg rfl) ?_
  refine WP.nil ?_
  refine QE.next ?_
  refine CW.ret ?_
  refine ST.freeze 0 rfl (.keep (i := 0) rfl (.hit (i := 2) rfl (.keep (i := 3) rfl (.keep (i := 4) rfl (.hit (i := 5) rfl .nil))))) ?_
  exact QE.done (.inl rfl) rfl (ResOk.t rfl ResOk.nil) (OImp.sub (List.nil_sublist _)) ⟨rfl, rfl⟩

set_option maxRecDepth 20000 in
set_option maxHeartbeats 1000000 in
theorem c_nat_Cmp (a b : List Nat) : Fn Try.prog 148 [kN.is a, kN.is b] ((kInt .i64).is (cmpI (nval a) (nval b))) := by
  refine Con.enter Try.func148 rfl rfl fun m w => ?_
  refine CW.seq ?_
  refine CW.region ?_
  refine WP.s .n (O.asg rfl) ?_
  refine WP.nil ?_
  refine QE.next ?_
  refine CW.seq ?_
  refine CW.region ?_
  refine WP.s .n (O.mv rfl) ?_
  refine WP.s .n (O.fn fn197 (evs.c rfl evs.nil) (c_nat_trim a)) ?_
  refine WP.s .n (O.mv rfl) ?_
  refine WP.s .n (O.fn fn197 (evs.c rfl evs.nil) (c_nat_trim b)) ?_
  refine WP.s .n (O.asg rfl) ?_
  refine WP.s .n (O.asg rfl) ?_
  refine WP.nil ?_
  refine QE.next ?_
  refine CW.seq ?_
  refine CW.seq ?_
  refine ST.fact (i := 0) rfl sl_len fun hA => ?_
  refine ST.fact (i := 1) rfl sl_len fun hB => ?_
  refine ST.fact (i := 0) rfl kN_lims fun lA => ?_
  refine ST.fact (i := 1) rfl kN_lims fun lB => ?_
  refine CW.region ?_
  refine WP.s .n (O.mv rfl) ?_
  refine WP.s .n (O.lenS rfl Try.underlying29) ?_
  refine WP.s .n (O.mv rfl) ?_
  refine WP.s .n (O.lenS rfl Try.underlying29) ?_
  refine WP.s .n (O.ne rfl rfl) ?_
  refine WP.nil ?_
  refine QE.next ?_
  refine CW.condD rfl (fun h_t14 => ?_) (fun h_t14 => ?_)
  · refine CW.seq ?_
    refine CW.seq ?_
    refine CW.region ?_
    refine WP.s .n (O.mv rfl) ?_
    refine WP.s .n (O.lenS rfl Try.underlying29) ?_
    refine WP.s .n (O.mv rfl) ?_
    refine WP.s .n (O.lenS rfl Try.underlying29) ?_
    refine WP.s .n (O.lt rfl rfl) ?_
    refine WP.nil ?_
    refine QE.next ?_
    refine CW.condD rfl (fun h_t19 => ?_) (fun h_t19 => ?_)
    · refine CW.seq ?_
      refine CW.region ?_
      refine WP.s .n (O.asg rfl) ?_
      refine WP.nil ?_
      refine QE.next ?_
      refine CW.ret ?_
      refine QE.thenR ?_
      refine QE.thenR ?_
      refine ST.told 4 rfl (is_eq (y := (cmpI (nval a) (nval b))) (cmp_len_lt (by omega))) ?_
      exact QE.done (.inl rfl) rfl (ResOk.t rfl ResOk.nil) (OImp.sub (List.nil_sublist _)) ⟨rfl, rfl⟩
    · refine CW.skip ?_
      refine QE.next ?_
      refine CW.seq ?_
      refine CW.region ?_
      refine WP.s .n (O.asg rfl) ?_
      refine WP.nil ?_
      refine QE.next ?_
      refine CW.ret ?_
      refine QE.thenR ?_
      refine ST.told 4 rfl (is_eq (y := (cmpI (nval a) (nval b))) (cmp_len_gt (by omega))) ?_
      exact QE.done (.inl rfl) rfl (ResOk.t rfl ResOk.nil) (OImp.sub (List.nil_sublist _)) ⟨rfl, rfl⟩
  · refine CW.skip ?_
    refine QE.next ?_
    refine CW.seq ?_
    refine CW.seq ?_
    refine CW.region ?_
    refine WP.s .n (O.mv rfl) ?_
    refine WP.s .n (O.lenS rfl Try.underlying29) ?_
    refine WP.s .n (O.sub rfl rfl (c := (((limbs (nval a)).length : Int) - 1)) (w64 (by omega))) ?_
    refine WP.s .n (O.asg rfl) ?_
    refine WP.nil ?_
    refine QE.next ?_
    refine CW.block ?_
    refine CW.loop (fun (i : Nat) => i ≤ (limbs (nval a)).length ∧ (limbs (nval a)).drop i = (limbs (nval b)).drop i) (fun (i : Nat) => [(0, kN.is (limbs (nval a))), (1, kN.is (limbs (nval b))), (5, (kInt .i64).is ((i : Int) - 1))]) (fun (i : Nat) => []) (fun (i : Nat) => i) ((limbs (nval a)).length) ⟨Nat.le_refl _, cmp_drop (by omega)⟩ (Imp.cons rfl (Imp.cons rfl (Imp.consLe rfl (is_eq (y := ((((limbs (nval a)).length) : Nat) : Int) - 1) (by omega)) Imp.nil))) (OImp.refl _) ?_
    intro i ⟨hi, hd⟩
    refine CW.seq ?_
    refine CW.seq ?_
    refine CW.region ?_
    refine WP.s .n (O.mv rfl) ?_
    refine WP.s .n (O.ge rfl rfl) ?_
    refine WP.nil ?_
    refine QE.next ?_
    refine CW.condD rfl (fun h_t24 => ?_) (fun h_t24 => ?_)
    · refine CW.skip ?_
      refine QE.next ?_
      refine CW.seq ?_
      refine CW.block ?_
      refine CW.seq ?_
      refine CW.draw (Γ := [.fr (kN.is (limbs (nval a))), .fr ((kInt .i64).is ((i : Int) - 1)), .fr (VP.pim kLimb ((limbs (nval a)).getD (i - 1) 0)), .fr ((kInt .u32).is (((limbs (nval a)).getD (i - 1) 0) : Int)), .fr (kN.is (limbs (nval b))), .fr ((kInt .i64).is ((i : Int) - 1)), .fr (VP.pim kLimb ((limbs (nval b)).getD (i - 1) 0)), .fr ((kInt .u32).is (((limbs (nval b)).getD (i - 1) 0) : Int)), .fr (kBool.is (decide ((((limbs (nval a)).getD (i - 1) 0) : Int) ≠ (((limbs (nval b)).getD (i - 1) 0) : Int))))]) (lates := [false, false, false, false, false, false, false, false, false]) (by kernel_rfl) (Chk.of rfl (by kernel_rfl) rfl) (fun _ _ _ _ _ h => h) (fun q_ x_ h_ => ?_) (fun σ => ?_)
      · match q_, h_ with
        | 0, h_ => cases h_; exact Ob.f rfl .n fun N => (O.mv rfl)
        | 1, h_ => cases h_; exact Ob.f rfl .n fun N => (O.mv rfl)
        | 2, h_ => cases h_; exact Ob.f rfl .n fun N => (O.ix (i - 1) rfl rfl Try.underlying29 ty121 (by omega) (v := ((limbs (nval a)).getD (i - 1) 0)) (gd 0 (by omega)))
        | 3, h_ => cases h_; exact Ob.f rfl .n fun N => (OpOk.le (O.ldP rfl ty121) (limb_le _))
        | 4, h_ => cases h_; exact Ob.f rfl .n fun N => (O.mv rfl)
        | 5, h_ => cases h_; exact Ob.f rfl .n fun N => (O.mv rfl)
        | 6, h_ => cases h_; exact Ob.f rfl .n fun N => (O.ix (i - 1) rfl rfl Try.underlying29 ty121 (by omega) (v := ((limbs (nval b)).getD (i - 1) 0)) (gd 0 (by omega)))
        | 7, h_ => cases h_; exact Ob.f rfl .n fun N => (OpOk.le (O.ldP rfl ty121) (limb_le _))
        | 8, h_ => cases h_; exact Ob.f rfl .n fun N => (O.ne rfl rfl)
        | n_ + 9, h_ => simp at h_
      refine WP.nil ?_
      refine QE.next ?_
      refine CW.condD rfl (fun h_t35 => ?_) (fun h_t35 => ?_)
      · refine CW.seq ?_
        refine CW.seq ?_
        refine CW.draw (Γ := [.fr (kN.is (limbs (nval a))), .fr ((kInt .i64).is ((i : Int) - 1)), .fr (VP.pim kLimb ((limbs (nval a)).getD (i - 1) 0)), .fr ((kInt .u32).is (((limbs (nval a)).getD (i - 1) 0) : Int)), .fr (kN.is (limbs (nval b))), .fr ((kInt .i64).is ((i : Int) - 1)), .fr (VP.pim kLimb ((limbs (nval b)).getD (i - 1) 0)), .fr ((kInt .u32).is (((limbs (nval b)).getD (i - 1) 0) : Int)), .fr (kBool.is (decide ((((limbs (nval a)).getD (i - 1) 0) : Int) < (((limbs (nval b)).getD (i - 1) 0) : Int))))]) (lates := [false, false, false, false, false, false, false, false, false]) (by kernel_rfl) (Chk.of rfl (by kernel_rfl) rfl) (fun _ _ _ _ _ h => h) (fun q_ x_ h_ => ?_) (fun σ => ?_)
        · match q_, h_ with
          | 0, h_ => cases h_; exact Ob.f rfl .n fun N => (O.mv rfl)
          | 1, h_ => cases h_; exact Ob.f rfl .n fun N => (O.mv rfl)
          | 2, h_ => cases h_; exact Ob.f rfl .n fun N => (O.ix (i - 1) rfl rfl Try.underlying29 ty121 (by omega) (v := ((limbs (nval a)).getD (i - 1) 0)) (gd 0 (by omega)))
          | 3, h_ => cases h_; exact Ob.f rfl .n fun N => (OpOk.le (O.ldP rfl ty121) (limb_le _))
          | 4, h_ => cases h_; exact Ob.f rfl .n fun N => (O.mv rfl)
          | 5, h_ => cases h_; exact Ob.f rfl .n fun N => (O.mv rfl)
          | 6, h_ => cases h_; exact Ob.f rfl .n fun N => (O.ix (i - 1) rfl rfl Try.underlying29 ty121 (by omega) (v := ((limbs (nval b)).getD (i - 1) 0)) (gd 0 (by omega)))
          | 7, h_ => cases h_; exact Ob.f rfl .n fun N => (OpOk.le (O.ldP rfl ty121) (limb_le _))
          | 8, h_ => cases h_; exact Ob.f rfl .n fun N => (O.lt rfl rfl)
          | n_ + 9, h_ => simp at h_
        refine WP.nil ?_
        refine QE.next ?_
        refine CW.condD rfl (fun h_t44 => ?_) (fun h_t44 => ?_)
        · refine CW.seq ?_
          refine CW.region ?_
          refine WP.s .n (O.asg rfl) ?_
          refine WP.nil ?_
          refine QE.next ?_
          refine CW.ret ?_
          refine QE.thenR ?_
          refine QE.blkR ?_
          refine QE.thenR ?_
          refine QE.thenR ?_
          refine QE.blkR ?_
          refine QE.thenR ?_
          refine ST.told 4 rfl (is_eq (y := (cmpI (nval a) (nval b))) (cmp_at_lt (by omega) (by omega) hd (by omega))) ?_
          exact QE.done (.inl rfl) rfl (ResOk.t rfl ResOk.nil) (OImp.sub (List.nil_sublist _)) ⟨rfl, rfl⟩
        · refine CW.skip ?_
          refine QE.next ?_
          refine CW.seq ?_
          refine CW.region ?_
          refine WP.s .n (O.asg rfl) ?_
          refine WP.nil ?_
          refine QE.next ?_
          refine CW.ret ?_
          refine QE.blkR ?_
          refine QE.thenR ?_
          refine QE.thenR ?_
          refine QE.blkR ?_
          refine QE.thenR ?_
          refine ST.told 4 rfl (is_eq (y := (cmpI (nval a) (nval b))) (cmp_at_gt (by omega) (by omega) hd (by omega) (by omega))) ?_
          exact QE.done (.inl rfl) rfl (ResOk.t rfl ResOk.nil) (OImp.sub (List.nil_sublist _)) ⟨rfl, rfl⟩
      · refine CW.skip ?_
        refine QE.blkN ?_
        refine QE.next ?_
        refine CW.region ?_
        refine WP.s .n (O.mv rfl) ?_
        refine WP.s .n (O.sub rfl rfl (c := (((i : Int) - 1) - 1)) (w64 (by omega))) ?_
        refine WP.s .n (O.asg rfl) ?_
        refine WP.nil ?_
        exact QE.round (i - 1) (by omega) ⟨by omega, cmp_down (by omega) hi (by omega) hd (by omega)⟩ (Imp.cons rfl (Imp.cons rfl (Imp.consLe rfl (is_eq (y := (((i - 1) : Nat) : Int) - 1) (by omega)) Imp.nil))) (OImp.refl _)
    · refine CW.exit ?_
      refine QE.thenE ?_
      refine QE.thenE ?_
      refine QE.blkH ?_
      refine QE.next ?_
      refine CW.seq ?_
      refine CW.region ?_
      refine WP.s .n (O.asg rfl) ?_
      refine WP.nil ?_
      refine QE.next ?_
      refine CW.ret ?_
      refine ST.told 4 rfl (is_eq (y := (cmpI (nval a) (nval b))) (cmp_at_eq (i := i) (by omega) hd)) ?_
      exact QE.done (.inl rfl) rfl (ResOk.t rfl ResOk.nil) (OImp.sub (List.nil_sublist _)) ⟨rfl, rfl⟩

set_option maxRecDepth 20000 in
set_option maxHeartbeats 1000000 in
theorem c_bits_Len32 (n : Nat) : Fn Try.prog 202 [kLimb.is n] ((kInt .i64).is (bitlen n : Int)) := by
  refine Con.enter Try.func202 rfl rfl fun m w => ?_
  refine ST.fact (i := 0) rfl limb_lt fun hn => ?_
  refine ST.told (q := (kInt .u32).is (n : Int)) 0 rfl (limb_le _) ?_
  refine CW.seq ?_
  refine CW.region ?_
  refine WP.s .n (O.asg rfl) ?_
  refine WP.nil ?_
  refine QE.next ?_
  refine CW.seq ?_
  refine CW.seq ?_
  refine CW.region ?_
  refine WP.s .n (O.mv rfl) ?_
  refine WP.s .n (O.ge rfl rfl) ?_
  refine WP.nil ?_
  refine QE.next ?_
  refine CW.condD rfl (fun h_t4 => ?_) (fun h_t4 => ?_)
  · refine CW.seq ?_
    refine CW.region ?_
    refine WP.s .n (O.mv rfl) ?_
    refine WP.s .n (O.shr rfl rfl (by omega) (c := ((n / 2 ^ 16 : Nat) : Int)) (shrN 16 rfl rfl (by decide))) ?_
    refine WP.s .n (O.asg rfl) ?_
    refine WP.nil ?_
    refine QE.next ?_
    refine CW.region ?_
    refine WP.s .n (O.asg rfl) ?_
    refine WP.nil ?_
    refine QE.next ?_
    refine CW.seq ?_
    refine CW.seq ?_
    refine CW.region ?_
    refine WP.s .n (O.mv rfl) ?_
    refine WP.s .n (O.ge rfl rfl) ?_
    refine WP.nil ?_
    refine QE.next ?_
    refine CW.condD rfl (fun h_t8 => ?_) (fun h_t8 => ?_)
    · refine CW.seq ?_
      refine CW.region ?_
      refine WP.s .n (O.mv rfl) ?_
      refine WP.s .n (O.shr rfl rfl (by omega) (c := ((n / 2 ^ 16 / 2 ^ 8 : Nat) : Int)) (shrN 8 rfl rfl (by decide))) ?_
      refine WP.s .n (O.asg rfl) ?_
      refine WP.nil ?_
      refine QE.next ?_
      refine CW.region ?_
      refine WP.s .n (O.mv rfl) ?_
      refine WP.s .n (O.add rfl rfl (c := (16 + 8)) (w64 (by omega))) ?_
      refine WP.s .n (O.asg rfl) ?_
      refine WP.nil ?_
      refine QE.next ?_
      refine CW.seq ?_
      have e16 := @bitlen_shift n 16
      have e8 := @bitlen_shift n 8
      have e24 := @bitlen_shift (n / 2 ^ 16) 8
      have l0 := @bitlen_le n 8
      have l1 := @bitlen_le (n / 2 ^ 16) 8
      have l2 := @bitlen_le (n / 2 ^ 8) 8
      have l3 := @bitlen_le (n / 2 ^ 16 / 2 ^ 8) 8
      refine CW.region ?_
      refine WP.s .n (O.mv rfl) ?_
      refine WP.s .n (O.mv rfl) ?_
      refine WP.s .n (O.cvt rfl Try.underlying121 Try.underlying5 (c := ((n / 2 ^ 16 / 2 ^ 8 : Nat) : Int)) (wr8 (by omega))) ?_
      refine WP.s .n (O.ixS (N := 256) bitlen (n / 2 ^ 16 / 2 ^ 8 : Nat) rfl Try.underlying9 rfl len8 (by omega)) ?_
      refine WP.s .n (O.cvt rfl Try.underlying5 Try.underlying3 (c := (bitlen (n / 2 ^ 16 / 2 ^ 8 : Nat) : Int)) (w64 (by omega))) ?_
      refine WP.s .n (O.add rfl rfl (c := ((16 + 8) + (bitlen (n / 2 ^ 16 / 2 ^ 8 : Nat) : Int))) (w64 (by omega))) ?_
      refine WP.s .n (O.asg rfl) ?_
      refine WP.nil ?_
      refine QE.next ?_
      refine CW.ret ?_
      exact QE.done (.inl rfl) rfl (ResOk.tl rfl (is_eq (y := (bitlen n : Int)) (by omega)) ResOk.nil) (OImp.sub (List.nil_sublist _)) ⟨rfl, rfl⟩
    · refine CW.skip ?_
      refine QE.next ?_
      refine CW.seq ?_
      have e16 := @bitlen_shift n 16
      have e8 := @bitlen_shift n 8
      have e24 := @bitlen_shift (n / 2 ^ 16) 8
      have l0 := @bitlen_le n 8
      have l1 := @bitlen_le (n / 2 ^ 16) 8
      have l2 := @bitlen_le (n / 2 ^ 8) 8
      have l3 := @bitlen_le (n / 2 ^ 16 / 2 ^ 8) 8
      refine CW.region ?_
      refine WP.s .n (O.mv rfl) ?_
      refine WP.s .n (O.mv rfl) ?_
      refine WP.s .n (O.cvt rfl Try.underlying121 Try.underlying5 (c := ((n / 2 ^ 16 : Nat) : Int)) (wr8 (by omega))) ?_
      refine WP.s .n (O.ixS (N := 256) bitlen (n / 2 ^ 16 : Nat) rfl Try.underlying9 rfl len8 (by omega)) ?_
      refine WP.s .n (O.cvt rfl Try.underlying5 Try.underlying3 (c := (bitlen (n / 2 ^ 16 : Nat) : Int)) (w64 (by omega))) ?_
      refine WP.s .n (O.add rfl rfl (c := (16 + (bitlen (n / 2 ^ 16 : Nat) : Int))) (w64 (by omega))) ?_
      refine WP.s .n (O.asg rfl) ?_
      refine WP.nil ?_
      refine QE.next ?_
      refine CW.ret ?_
      exact QE.done (.inl rfl) rfl (ResOk.tl rfl (is_eq (y := (bitlen n : Int)) (by omega)) ResOk.nil) (OImp.sub (List.nil_sublist _)) ⟨rfl, rfl⟩
  · refine CW.skip ?_
    refine QE.next ?_
    refine CW.seq ?_
    refine CW.seq ?_
    refine CW.region ?_
    refine WP.s .n (O.mv rfl) ?_
    refine WP.s .n (O.ge rfl rfl) ?_
    refine WP.nil ?_
    refine QE.next ?_
    refine CW.condD rfl (fun h_t8 => ?_) (fun h_t8 => ?_)
    · refine CW.seq ?_
      refine CW.region ?_
      refine WP.s .n (O.mv rfl) ?_
      refine WP.s .n (O.shr rfl rfl (by omega) (c := ((n / 2 ^ 8 : Nat) : Int)) (shrN 8 rfl rfl (by decide))) ?_
      refine WP.s .n (O.asg rfl) ?_
      refine WP.nil ?_
      refine QE.next ?_
      refine CW.region ?_
      refine WP.s .n (O.mv rfl) ?_
      refine WP.s .n (O.add rfl rfl (c := (0 + 8)) (w64 (by omega))) ?_
      refine WP.s .n (O.asg rfl) ?_
      refine WP.nil ?_
      refine QE.next ?_
      refine CW.seq ?_
      have e16 := @bitlen_shift n 16
      have e8 := @bitlen_shift n 8
      have e24 := @bitlen_shift (n / 2 ^ 16) 8
      have l0 := @bitlen_le n 8
      have l1 := @bitlen_le (n / 2 ^ 16) 8
      have l2 := @bitlen_le (n / 2 ^ 8) 8
      have l3 := @bitlen_le (n / 2 ^ 16 / 2 ^ 8) 8
      refine CW.region ?_
      refine WP.s .n (O.mv rfl) ?_
      refine WP.s .n (O.mv rfl) ?_
      refine WP.s .n (O.cvt rfl Try.underlying121 Try.underlying5 (c := ((n / 2 ^ 8 : Nat) : Int)) (wr8 (by omega))) ?_
      refine WP.s .n (O.ixS (N := 256) bitlen (n / 2 ^ 8 : Nat) rfl Try.underlying9 rfl len8 (by omega)) ?_
      refine WP.s .n (O.cvt rfl Try.underlying5 Try.underlying3 (c := (bitlen (n / 2 ^ 8 : Nat) : Int)) (w64 (by omega))) ?_
      refine WP.s .n (O.add rfl rfl (c := ((0 + 8) + (bitlen (n / 2 ^ 8 : Nat) : Int))) (w64 (by omega))) ?_
      refine WP.s .n (O.asg rfl) ?_
      refine WP.nil ?_
      refine QE.next ?_
      refine CW.ret ?_
      exact QE.done (.inl rfl) rfl (ResOk.tl rfl (is_eq (y := (bitlen n : Int)) (by omega)) ResOk.nil) (OImp.sub (List.nil_sublist _)) ⟨rfl, rfl⟩
    · refine CW.skip ?_
      refine QE.next ?_
      refine CW.seq ?_
      have e16 := @bitlen_shift n 16
      have e8 := @bitlen_shift n 8
      have e24 := @bitlen_shift (n / 2 ^ 16) 8
      have l0 := @bitlen_le n 8
      have l1 := @bitlen_le (n / 2 ^ 16) 8
      have l2 := @bitlen_le (n / 2 ^ 8) 8
      have l3 := @bitlen_le (n / 2 ^ 16 / 2 ^ 8) 8
      refine CW.region ?_
      refine WP.s .n (O.mv rfl) ?_
      refine WP.s .n (O.mv rfl) ?_
      refine WP.s .n (O.cvt rfl Try.underlying121 Try.underlying5 (c := (n : Int)) (wr8 (by omega))) ?_
      refine WP.s .n (O.ixS (N := 256) bitlen n rfl Try.underlying9 rfl len8 (by omega)) ?_
      refine WP.s .n (O.cvt rfl Try.underlying5 Try.underlying3 (c := (bitlen n : Int)) (w64 (by omega))) ?_
      refine WP.s .n (O.add rfl rfl (c := (0 + (bitlen n : Int))) (w64 (by omega))) ?_
      refine WP.s .n (O.asg rfl) ?_
      refine WP.nil ?_
      refine QE.next ?_
      refine CW.ret ?_
      exact QE.done (.inl rfl) rfl (ResOk.tl rfl (is_eq (y := (bitlen n : Int)) (by omega)) ResOk.nil) (OImp.sub (List.nil_sublist _)) ⟨rfl, rfl⟩

set_option maxRecDepth 20000 in
set_option maxHeartbeats 1000000 in
theorem c_bits_LeadingZeros32 (n : Nat) : Fn Try.prog 210 [kLimb.is n] ((kInt .i64).is (32 - (bitlen n : Int))) := by
  refine Con.enter Try.func210 rfl rfl fun m w => ?_
  refine ST.fact (i := 0) rfl limb_lt fun hn => ?_
  have hb := @bitlen_le n 32 hn
  refine CW.seq ?_
  refine CW.region ?_
  refine WP.s .n (O.asg rfl) ?_
  refine WP.nil ?_
  refine QE.next ?_
  refine CW.seq ?_
  refine CW.region ?_
  refine WP.s .n (O.mv rfl) ?_
  refine WP.s .n (O.fn fn202 (evs.c rfl evs.nil) (c_bits_Len32 n)) ?_
  refine WP.s .n (O.sub rfl rfl (c := (32 - (bitlen n : Int))) (w64 (by omega))) ?_
  refine WP.s .n (O.asg rfl) ?_
  refine WP.nil ?_
  refine QE.next ?_
  refine CW.ret ?_
  exact QE.done (.inl rfl) rfl (ResOk.t rfl ResOk.nil) (OImp.sub (List.nil_sublist _)) ⟨rfl, rfl⟩

set_option maxRecDepth 20000 in
set_option maxHeartbeats 1000000 in
theorem c_nat_Bits (l : List Nat) : Fn Try.prog 156 [kN.is l] ((kInt .i64).is (bitlen (nval l) : Int)) := by
  refine Con.enter Try.func156 rfl rfl fun m w => ?_
  refine CW.seq ?_
  refine CW.region ?_
  refine WP.s .n (O.asg rfl) ?_
  refine WP.nil ?_
  refine QE.next ?_
  refine CW.seq ?_
  refine CW.region ?_
  refine WP.s .n (O.mv rfl) ?_
  refine WP.s .n (O.fn fn197 (evs.c rfl evs.nil) (c_nat_trim l)) ?_
  refine WP.s .n (O.asg rfl) ?_
  refine WP.nil ?_
  refine QE.next ?_
  refine CW.seq ?_
  refine CW.seq ?_
  refine ST.fact (i := 0) rfl sl_len fun hB => ?_
  refine ST.fact (i := 0) rfl kN_lims fun hL => ?_
  refine CW.region ?_
  refine WP.s .n (O.mv rfl) ?_
  refine WP.s .n (O.lenS rfl Try.underlying29) ?_
  refine WP.s .n (O.eq rfl rfl) ?_
  refine WP.nil ?_
  refine QE.next ?_
  refine CW.condD rfl (fun h_t7 => ?_) (fun h_t7 => ?_)
  · refine CW.seq ?_
    refine CW.region ?_
    refine WP.s .n (O.asg rfl) ?_
    refine WP.nil ?_
    refine QE.next ?_
    refine CW.ret ?_
    refine QE.thenR ?_
    refine ST.told 2 rfl (is_eq (y := (bitlen (nval l) : Int)) (by rw [bitlen0 (by omega)]; rfl)) ?_
    exact QE.done (.inl rfl) rfl (ResOk.t rfl ResOk.nil) (OImp.sub (List.nil_sublist _)) ⟨rfl, rfl⟩
  · refine CW.skip ?_
    refine QE.next ?_
    refine CW.seq ?_
    have hx := getD_lt hL ((limbs (nval l)).length - 1)
    have hb := @bitlen_le ((limbs (nval l)).getD ((limbs (nval l)).length - 1) 0) 32 hx
    have hbits := @bits_limbs (nval l) (by intro h; rw [h, limbs_zero] at h_t7; simp at h_t7)
    refine CW.region ?_
    refine WP.s .n (O.mv rfl) ?_
    refine WP.s .n (O.lenS rfl Try.underlying29) ?_
    refine WP.s .n (O.sub rfl rfl (c := (((limbs (nval l)).length : Int) - 1)) (w64 (by omega))) ?_
    refine WP.s .n (O.mul rfl rfl (c := (32 * (((limbs (nval l)).length : Int) - 1))) (w64 (by omega))) ?_
    refine WP.s .n (O.mv rfl) ?_
    refine WP.s .n (O.mv rfl) ?_
    refine WP.s .n (O.lenS rfl Try.underlying29) ?_
    refine WP.s .n (O.sub rfl rfl (c := (((limbs (nval l)).length : Int) - 1)) (w64 (by omega))) ?_
    refine WP.s .n (O.ix ((limbs (nval l)).length - 1) rfl rfl Try.underlying29 ty121 (by omega) (v := ((limbs (nval l)).getD ((limbs (nval l)).length - 1) 0)) (gd 0 (by omega))) ?_
    refine WP.s .n (OpOk.le (O.ldP rfl ty121) (limb_le _)) ?_
    refine WP.s .n (O.fn fn202 (evs.l rfl (u32_limb (x := ((limbs (nval l)).getD ((limbs (nval l)).length - 1) 0)) (by omega)) evs.nil) (c_bits_Len32 ((limbs (nval l)).getD ((limbs (nval l)).length - 1) 0))) ?_
    refine WP.s .n (O.add rfl rfl (c := ((32 * (((limbs (nval l)).length : Int) - 1)) + (bitlen ((limbs (nval l)).getD ((limbs (nval l)).length - 1) 0) : Int))) (w64 (by omega))) ?_
    refine WP.s .n (O.asg rfl) ?_
    refine WP.nil ?_
    refine QE.next ?_
    refine CW.ret ?_
    exact QE.done (.inl rfl) rfl (ResOk.tl rfl (is_eq (y := (bitlen (nval l) : Int)) (by omega)) ResOk.nil) (OImp.sub (List.nil_sublist _)) ⟨rfl, rfl⟩

set_option maxRecDepth 20000 in
set_option maxHeartbeats 1000000 in
theorem c_nat_Add (a b : List Nat) (hA : a.length < 1099511627776) (hB : b.length < 1099511627776) : Fn Try.prog 150 [kN.is a, kN.is b] (kN.is (limbs (nval a + nval b))) := by
  refine Con.enter Try.func150 rfl rfl fun m w => ?_
  refine ST.fact (i := 0) rfl kN_lims fun lA => ?_
  refine ST.fact (i := 1) rfl kN_lims fun lB => ?_
  refine CW.seq ?_
  refine CW.region ?_
  refine WP.s .n (O.asg rfl) ?_
  refine WP.nil ?_
  refine QE.next ?_
  refine CW.cut2 (fun (x : List Nat) (y : List Nat) => y.length ≤ x.length ∧ x.length < 1099511627776 ∧ Lims x ∧ Lims y ∧ nval x + nval y = nval a + nval b) (fun (x : List Nat) (y : List Nat) => [(0, kN.is x), (1, kN.is y)]) (fun (x : List Nat) (y : List Nat) => []) ?_ ?_
  · refine CW.seq ?_
    refine CW.region ?_
    refine WP.s .n (O.mv rfl) ?_
    refine WP.s .n (O.lenS rfl Try.underlying29) ?_
    refine WP.s .n (O.mv rfl) ?_
    refine WP.s .n (O.lenS rfl Try.underlying29) ?_
    refine WP.s .n (O.lt rfl rfl) ?_
    refine WP.nil ?_
    refine QE.next ?_
    refine CW.condD rfl (fun h_t12 => ?_) (fun h_t12 => ?_)
    · refine CW.region ?_
      refine WP.s .n (O.mv rfl) ?_
      refine WP.s .n (O.mv rfl) ?_
      refine WP.s .n (O.asg rfl) ?_
      refine WP.s .n (O.asg rfl) ?_
      refine WP.nil ?_
      exact QE.mid2 b a ⟨by omega, hB, lB, lA, Nat.add_comm _ _⟩ (Imp.cons rfl (Imp.cons rfl Imp.nil)) (OImp.refl _)
    · refine CW.skip ?_
      exact QE.mid2 a b ⟨by omega, hA, lA, lB, rfl⟩ (Imp.cons rfl (Imp.cons rfl Imp.nil)) (OImp.refl _)
  intro x y ⟨hlen, hlt, l1, l2, hsum⟩
  refine CW.seq ?_
  refine CW.region ?_
  refine WP.s .n (O.mv rfl) ?_
  refine WP.s .n (O.lenS rfl Try.underlying29) ?_
  refine WP.s .n (O.add rfl rfl (c := ((x.length : Int) + 1)) (w64 (by omega))) ?_
  refine WP.mk ((((x.length : Int) + 1)).toNat) .n rfl rfl (by omega) (by omega) Try.underlying29 el121_limb z121_limb fun v1 => ?_
  refine WP.s .n (O.asg rfl) ?_
  refine WP.nil ?_
  refine QE.next ?_
  refine CW.seq ?_
  refine CW.region ?_
  refine WP.s .n (O.asg rfl) ?_
  refine WP.nil ?_
  refine QE.next ?_
  refine CW.seq ?_
  refine CW.seq ?_
  refine CW.region ?_
  refine WP.s .n (O.mv rfl) ?_
  refine WP.s .n (O.lenS rfl Try.underlying29) ?_
  refine WP.s .n (O.mv rfl) ?_
  refine WP.nil ?_
  refine QE.next ?_
  refine CW.block ?_
  refine CW.loop3 (fun (r : List Nat) (c : Nat) (v : Value) => r.length ≤ x.length ∧ AddR x y r c) (fun (r : List Nat) (c : Nat) (v : Value) => [(0, kN.is x), (1, kN.is y), (5, VP.ex v), (6, (kInt .u64).is (c : Int)), (20, (kInt .i64).is (x.length : Int)), (21, (kInt .i64).is (r.length : Int))]) (fun (r : List Nat) (c : Nat) (v : Value) => [OB.row v 121 kLimb (fil (x.length + 1) r)]) (fun (r : List Nat) (c : Nat) (v : Value) => x.length - r.length) [] 0 v1 ⟨Nat.zero_le _, addR_0 x y⟩ (Imp.cons rfl (Imp.cons rfl (Imp.cons rfl (Imp.consLe rfl (is_eq (y := (0 : Int)) (by first | omega | simp)) (Imp.cons rfl (Imp.consLe rfl (is_eq (y := ([].length : Int)) (by first | omega | simp)) Imp.nil)))))) (OImp.os (.keepLe (OB.row_eq (fil_nil _)) .nil)) ?_
  intro r c v ⟨hr, hS⟩
  have hc := hS.2.1
  have hx := getD_lt l1 r.length
  have hy := getD_lt l2 r.length
  have hfl := fil_len (n := x.length + 1) (r := r) (by omega)
  refine CW.seq ?_
  refine CW.region ?_
  refine WP.s .n (O.lt rfl rfl) ?_
  refine WP.nil ?_
  refine QE.next ?_
  refine CW.seq ?_
  refine CW.condD rfl (fun h_t22 => ?_) (fun h_t22 => ?_)
  · refine CW.skip ?_
    refine QE.next ?_
    refine CW.seq ?_
    refine CW.block ?_
    refine CW.seq ?_
    refine CW.region ?_
    refine WP.s .n (O.mv rfl) ?_
    refine WP.s .n (O.asg rfl) ?_
    refine WP.nil ?_
    refine QE.next ?_
    refine CW.seq ?_
    refine CW.region ?_
    refine WP.s .n (O.mv rfl) ?_
    refine WP.s .n (O.mv rfl) ?_
    refine WP.s .n (O.mv rfl) ?_
    refine WP.s .n (O.ix r.length rfl rfl Try.underlying29 ty121 rfl (v := (x.getD r.length 0)) (gd 0 (by omega))) ?_
    refine WP.s .n (OpOk.le (O.ldP rfl ty121) (limb_le _)) ?_
    refine WP.s .n (O.cvt rfl Try.underlying121 Try.underlying173 (c := ((x.getD r.length 0) : Int)) (wu64 (by omega))) ?_
    refine WP.s .n (O.add rfl rfl (c := ((c : Int) + ((x.getD r.length 0) : Int))) (wu64 (by omega))) ?_
    refine WP.s .n (O.asg rfl) ?_
    refine WP.nil ?_
    refine QE.next ?_
    refine CW.seq ?_
    refine CW.seq ?_
    refine CW.region ?_
    refine WP.s .n (O.mv rfl) ?_
    refine WP.s .n (O.mv rfl) ?_
    refine WP.s .n (O.lenS rfl Try.underlying29) ?_
    refine WP.s .n (O.lt rfl rfl) ?_
    refine WP.nil ?_
    refine QE.next ?_
    refine CW.condD rfl (fun h_t34 => ?_) (fun h_t34 => ?_)
    · refine CW.region ?_
      refine WP.s .n (O.mv rfl) ?_
      refine WP.s .n (O.mv rfl) ?_
      refine WP.s .n (O.mv rfl) ?_
      refine WP.s .n (O.ix r.length rfl rfl Try.underlying29 ty121 rfl (v := (y.getD r.length 0)) (gd 0 (by omega))) ?_
      refine WP.s .n (OpOk.le (O.ldP rfl ty121) (limb_le _)) ?_
      refine WP.s .n (O.cvt rfl Try.underlying121 Try.underlying173 (c := ((y.getD r.length 0) : Int)) (wu64 (by omega))) ?_
      refine WP.s .n (O.add rfl rfl (c := (((c : Int) + ((x.getD r.length 0) : Int)) + ((y.getD r.length 0) : Int))) (wu64 (by omega))) ?_
      refine WP.s .n (O.asg rfl) ?_
      refine WP.nil ?_
      refine QE.next ?_
      refine CW.seq ?_
      refine CW.region ?_
      refine WP.s .n (O.mv rfl) ?_
      refine WP.s .n (O.mv rfl) ?_
      refine WP.s .n (O.mv rfl) ?_
      refine WP.s .n (O.cvt rfl Try.underlying173 Try.underlying121 (c := (((c + x.getD r.length 0 + y.getD r.length 0) % 4294967296 : Nat) : Int)) (wr32 (by omega))) ?_
      refine WP.s .n (O.ixR (k := kLimb) (xs := fil (x.length + 1) r) (n := (r.length : Int)) r.length rfl rfl (mem_at 0 rfl) Try.underlying29 ty121 rfl (by omega)) ?_
      refine WP.t .n (O.stR 0 r.length rfl rfl (Lens.id _) rfl (y0 := ((fil (x.length + 1) r).getD r.length 0)) (gd 0 (by omega)) ty121 rfl (u32_limb (x := ((c + x.getD r.length 0 + y.getD r.length 0) % 4294967296 : Nat)) (by omega))) ?_
      refine WP.nil ?_
      refine QE.next ?_
      refine CW.region ?_
      refine WP.s .n (O.mv rfl) ?_
      refine WP.s .n (O.shr rfl rfl (by omega) (c := (((c + x.getD r.length 0 + y.getD r.length 0) / 2 ^ 32 : Nat) : Int)) (shrN 32 (by omega) rfl (by decide))) ?_
      refine WP.s .n (O.asg rfl) ?_
      refine WP.nil ?_
      refine QE.blkN ?_
      refine QE.next ?_
      refine CW.region ?_
      refine WP.s .n (O.add rfl rfl (c := ((r.length : Int) + 1)) (w64 (by omega))) ?_
      refine WP.s .n (O.mv rfl) ?_
      refine WP.nil ?_
      exact QE.round3 (r ++ [(c + x.getD r.length 0 + y.getD r.length 0) % 4294967296]) ((c + x.getD r.length 0 + y.getD r.length 0) / 2 ^ 32) v (by simp; omega) ⟨by simp; omega, addR_s l1 l2 hS⟩ (Imp.cons rfl (Imp.cons rfl (Imp.cons rfl (Imp.consLe rfl (is_eq (y := ((((c + x.getD r.length 0 + y.getD r.length 0) / 2 ^ 32) : Nat) : Int)) (by first | omega | simp)) (Imp.cons rfl (Imp.consLe rfl (is_eq (y := ((r ++ [(c + x.getD r.length 0 + y.getD r.length 0) % 4294967296]).length : Int)) (by first | omega | simp)) Imp.nil)))))) (OImp.os (.keepLe (OB.row_eq (fil_set (by omega))) .nil))
    · have hy0 := getD_out (l := y) (i := r.length) (by omega)
      refine CW.skip ?_
      refine QE.next ?_
      refine CW.seq ?_
      refine CW.region ?_
      refine WP.s .n (O.mv rfl) ?_
      refine WP.s .n (O.mv rfl) ?_
      refine WP.s .n (O.mv rfl) ?_
      refine WP.s .n (O.cvt rfl Try.underlying173 Try.underlying121 (c := (((c + x.getD r.length 0 + y.getD r.length 0) % 4294967296 : Nat) : Int)) (wr32 (by omega))) ?_
      refine WP.s .n (O.ixR (k := kLimb) (xs := fil (x.length + 1) r) (n := (r.length : Int)) r.length rfl rfl (mem_at 0 rfl) Try.underlying29 ty121 rfl (by omega)) ?_
      refine WP.t .n (O.stR 0 r.length rfl rfl (Lens.id _) rfl (y0 := ((fil (x.length + 1) r).getD r.length 0)) (gd 0 (by omega)) ty121 rfl (u32_limb (x := ((c + x.getD r.length 0 + y.getD r.length 0) % 4294967296 : Nat)) (by omega))) ?_
      refine WP.nil ?_
      refine QE.next ?_
      refine CW.region ?_
      refine WP.s .n (O.mv rfl) ?_
      refine WP.s .n (O.shr rfl rfl (by omega) (c := (((c + x.getD r.length 0 + y.getD r.length 0) / 2 ^ 32 : Nat) : Int)) (shrN 32 (by omega) rfl (by decide))) ?_
      refine WP.s .n (O.asg rfl) ?_
      refine WP.nil ?_
      refine QE.blkN ?_
      refine QE.next ?_
      refine CW.region ?_
      refine WP.s .n (O.add rfl rfl (c := ((r.length : Int) + 1)) (w64 (by omega))) ?_
      refine WP.s .n (O.mv rfl) ?_
      refine WP.nil ?_
      exact QE.round3 (r ++ [(c + x.getD r.length 0 + y.getD r.length 0) % 4294967296]) ((c + x.getD r.length 0 + y.getD r.length 0) / 2 ^ 32) v (by simp; omega) ⟨by simp; omega, addR_s l1 l2 hS⟩ (Imp.cons rfl (Imp.cons rfl (Imp.cons rfl (Imp.consLe rfl (is_eq (y := ((((c + x.getD r.length 0 + y.getD r.length 0) / 2 ^ 32) : Nat) : Int)) (by first | omega | simp)) (Imp.cons rfl (Imp.consLe rfl (is_eq (y := ((r ++ [(c + x.getD r.length 0 + y.getD r.length 0) % 4294967296]).length : Int)) (by first | omega | simp)) Imp.nil)))))) (OImp.os (.keepLe (OB.row_eq (fil_set (by omega))) .nil))
  · refine CW.exit ?_
    refine QE.thenE ?_
    refine QE.thenE ?_
    refine QE.blkH ?_
    refine QE.next ?_
    refine CW.seq ?_
    have hrx : r.length = x.length := by omega
    refine CW.region ?_
    refine WP.s .n (O.mv rfl) ?_
    refine WP.s .n (O.mv rfl) ?_
    refine WP.s .n (O.lenS rfl Try.underlying29) ?_
    refine WP.s .n (O.mv rfl) ?_
    refine WP.s .n (O.cvt rfl Try.underlying173 Try.underlying121 (c := (c : Int)) (wrs32 (by omega))) ?_
    refine WP.s .n (O.ixR (k := kLimb) (xs := fil (x.length + 1) r) (n := (x.length : Int)) x.length rfl rfl (mem_at 0 rfl) Try.underlying29 ty121 rfl (by omega)) ?_
    refine WP.t .n (O.stR 0 x.length rfl rfl (Lens.id _) rfl (y0 := ((fil (x.length + 1) r).getD x.length 0)) (gd 0 (by omega)) ty121 rfl (u32_limb (x := c) (by omega))) ?_
    refine WP.nil ?_
    refine QE.next ?_
    refine CW.seq ?_
    refine ST.obtold (b' := OB.row v 121 kLimb (r ++ [c])) 0 rfl (OB.row_eq (by rw [← hrx]; exact fil_set_end (by omega))) ?_
    refine CW.region ?_
    refine WP.s .n (O.mv rfl) ?_
    refine ST.freeze 0 rfl (.keep (i := 0) rfl (.keep (i := 1) rfl (.hit (i := 5) rfl (.keep (i := 6) rfl (.keep (i := 20) rfl (.keep (i := 21) rfl (.keep (i := 22) rfl (.hit (i := 50) rfl (.keep (i := 51) rfl (.keep (i := 52) rfl (.keep (i := 53) rfl (.keep (i := 54) rfl (.keep (i := 55) rfl (.hit (i := 56) rfl .nil)))))))))))))) ?_
    refine WP.s .n (O.fn fn197 (evs.c rfl evs.nil) (c_nat_trim (r ++ [c]))) ?_
    refine WP.s .n (O.asg rfl) ?_
    refine WP.nil ?_
    refine QE.next ?_
    refine CW.ret ?_
    refine ST.told 4 rfl (is_eq (y := (limbs (nval a + nval b))) (by rw [addR_end hS hrx hlen, hsum])) ?_
    exact QE.done (.inl rfl) rfl (ResOk.t rfl ResOk.nil) (OImp.sub (List.nil_sublist _)) ⟨rfl, rfl⟩

set_option maxRecDepth 20000 in
set_option maxHeartbeats 1000000 in
theorem c_nat_less (x y : List Nat) (hl : y.length ≤ x.length) (hle : nval y ≤ nval x) : Fn Try.prog 198 [kN.is x, kN.is y] (kN.is (limbs (nval x - nval y))) := by
  refine Con.enter Try.func198 rfl rfl fun m w => ?_
  refine ST.fact (i := 0) rfl kN_lims fun l1 => ?_
  refine ST.fact (i := 1) rfl kN_lims fun l2 => ?_
  refine ST.fact (i := 0) rfl sl_len fun hB => ?_
  refine CW.seq ?_
  refine CW.region ?_
  refine WP.s .n (O.asg rfl) ?_
  refine WP.nil ?_
  refine QE.next ?_
  refine CW.seq ?_
  refine CW.region ?_
  refine WP.s .n (O.mv rfl) ?_
  refine WP.s .n (O.lenS rfl Try.underlying29) ?_
  refine WP.mk x.length .n rfl rfl rfl (by omega) Try.underlying29 el121_limb z121_limb fun v1 => ?_
  refine WP.s .n (O.asg rfl) ?_
  refine WP.nil ?_
  refine QE.next ?_
  refine CW.seq ?_
  refine CW.region ?_
  refine WP.s .n (O.asg rfl) ?_
  refine WP.nil ?_
  refine QE.next ?_
  refine CW.seq ?_
  refine CW.seq ?_
  refine CW.region ?_
  refine WP.s .n (O.mv rfl) ?_
  refine WP.s .n (O.lenS rfl Try.underlying29) ?_
  refine WP.s .n (O.mv rfl) ?_
  refine WP.nil ?_
  refine QE.next ?_
  refine CW.block ?_
  refine CW.loop3 (fun (r : List Nat) (c : Nat) (v : Value) => r.length ≤ x.length ∧ LessR x y r c) (fun (r : List Nat) (c : Nat) (v : Value) => [(0, kN.is x), (1, kN.is y), (5, VP.ex v), (6, (kInt .u64).is (c : Int)), (13, (kInt .i64).is (x.length : Int)), (14, (kInt .i64).is (r.length : Int))]) (fun (r : List Nat) (c : Nat) (v : Value) => [OB.row v 121 kLimb (fil x.length r)]) (fun (r : List Nat) (c : Nat) (v : Value) => x.length - r.length) [] 0 v1 ⟨Nat.zero_le _, lessR_0 x y⟩ (Imp.cons rfl (Imp.cons rfl (Imp.cons rfl (Imp.consLe rfl (is_eq (y := (0 : Int)) (by first | omega | simp)) (Imp.cons rfl (Imp.consLe rfl (is_eq (y := ([].length : Int)) (by first | omega | simp)) Imp.nil)))))) (OImp.os (.keepLe (OB.row_eq (fil_nil _)) .nil)) ?_
  intro r c v ⟨hr, hA⟩
  have hc := hA.2.1
  have hx := getD_lt l1 r.length
  have hy := getD_lt l2 r.length
  have hfl := fil_len (n := x.length) (r := r) (by omega)
  refine CW.seq ?_
  refine CW.region ?_
  refine WP.s .n (O.lt rfl rfl) ?_
  refine WP.nil ?_
  refine QE.next ?_
  refine CW.seq ?_
  refine CW.condD rfl (fun h_t15 => ?_) (fun h_t15 => ?_)
  · refine CW.skip ?_
    refine QE.next ?_
    refine CW.seq ?_
    refine CW.block ?_
    refine CW.seq ?_
    refine CW.region ?_
    refine WP.s .n (O.mv rfl) ?_
    refine WP.s .n (O.asg rfl) ?_
    refine WP.nil ?_
    refine QE.next ?_
    refine CW.seq ?_
    refine CW.region ?_
    refine WP.s .n (O.mv rfl) ?_
    refine WP.s .n (O.mv rfl) ?_
    refine WP.s .n (O.ix r.length rfl rfl Try.underlying29 ty121 rfl (v := (x.getD r.length 0)) (gd 0 (by omega))) ?_
    refine WP.s .n (OpOk.le (O.ldP rfl ty121) (limb_le _)) ?_
    refine WP.s .n (O.cvt rfl Try.underlying121 Try.underlying173 (c := ((x.getD r.length 0) : Int)) (wu64 (by omega))) ?_
    refine WP.s .n (O.mv rfl) ?_
    refine WP.s .n (O.sub rfl rfl (c := ((lessV c (x.getD r.length 0) 0 : Nat) : Int)) (less_sub1 hc hx)) ?_
    refine WP.s .n (O.asg rfl) ?_
    refine WP.nil ?_
    refine QE.next ?_
    refine CW.seq ?_
    refine CW.seq ?_
    refine CW.region ?_
    refine WP.s .n (O.mv rfl) ?_
    refine WP.s .n (O.mv rfl) ?_
    refine WP.s .n (O.lenS rfl Try.underlying29) ?_
    refine WP.s .n (O.lt rfl rfl) ?_
    refine WP.nil ?_
    refine QE.next ?_
    refine CW.condD rfl (fun h_t27 => ?_) (fun h_t27 => ?_)
    · refine CW.region ?_
      refine WP.s .n (O.mv rfl) ?_
      refine WP.s .n (O.mv rfl) ?_
      refine WP.s .n (O.mv rfl) ?_
      refine WP.s .n (O.ix r.length rfl rfl Try.underlying29 ty121 rfl (v := (y.getD r.length 0)) (gd 0 (by omega))) ?_
      refine WP.s .n (OpOk.le (O.ldP rfl ty121) (limb_le _)) ?_
      refine WP.s .n (O.cvt rfl Try.underlying121 Try.underlying173 (c := ((y.getD r.length 0) : Int)) (wu64 (by omega))) ?_
      refine WP.s .n (O.sub rfl rfl (c := ((lessV c (x.getD r.length 0) (y.getD r.length 0) : Nat) : Int)) (less_sub2 hc hx hy)) ?_
      refine WP.s .n (O.asg rfl) ?_
      refine WP.nil ?_
      refine QE.next ?_
      refine CW.seq ?_
      refine CW.region ?_
      refine WP.s .n (O.mv rfl) ?_
      refine WP.s .n (O.mv rfl) ?_
      refine WP.s .n (O.mv rfl) ?_
      refine WP.s .n (O.cvt rfl Try.underlying173 Try.underlying121 (c := ((lessV c (x.getD r.length 0) (y.getD r.length 0) % 4294967296 : Nat) : Int)) (wr32 rfl)) ?_
      refine WP.s .n (O.ixR (k := kLimb) (xs := fil x.length r) (n := (r.length : Int)) r.length rfl rfl (mem_at 0 rfl) Try.underlying29 ty121 rfl (by omega)) ?_
      refine WP.t .n (O.stR 0 r.length rfl rfl (Lens.id _) rfl (y0 := ((fil x.length r).getD r.length 0)) (gd 0 (by omega)) ty121 rfl (u32_limb (x := (lessV c (x.getD r.length 0) (y.getD r.length 0) % 4294967296 : Nat)) (by omega))) ?_
      refine WP.nil ?_
      refine QE.next ?_
      refine CW.region ?_
      refine WP.s .n (O.mv rfl) ?_
      refine WP.s .n (O.shr rfl rfl (by omega) (c := ((lessV c (x.getD r.length 0) (y.getD r.length 0) / 2 ^ 63 : Nat) : Int)) (shrN 63 rfl rfl (by decide))) ?_
      refine WP.s .n (O.asg rfl) ?_
      refine WP.nil ?_
      refine QE.blkN ?_
      refine QE.next ?_
      refine CW.region ?_
      refine WP.s .n (O.add rfl rfl (c := ((r.length : Int) + 1)) (w64 (by omega))) ?_
      refine WP.s .n (O.mv rfl) ?_
      refine WP.nil ?_
      exact QE.round3 (r ++ [lessV c (x.getD r.length 0) (y.getD r.length 0) % 4294967296]) (lessV c (x.getD r.length 0) (y.getD r.length 0) / 2 ^ 63) v (by simp; omega) ⟨by simp; omega, lessR_s l1 l2 hA⟩ (Imp.cons rfl (Imp.cons rfl (Imp.cons rfl (Imp.consLe rfl (is_eq (y := (((lessV c (x.getD r.length 0) (y.getD r.length 0) / 2 ^ 63) : Nat) : Int)) (by first | omega | simp)) (Imp.cons rfl (Imp.consLe rfl (is_eq (y := ((r ++ [lessV c (x.getD r.length 0) (y.getD r.length 0) % 4294967296]).length : Int)) (by first | omega | simp)) Imp.nil)))))) (OImp.os (.keepLe (OB.row_eq (fil_set (by omega))) .nil))
    · have hy0 := getD_out (l := y) (i := r.length) (by omega)
      refine ST.told 8 rfl (is_eq (y := ((lessV c (x.getD r.length 0) (y.getD r.length 0) : Nat) : Int)) (by rw [hy0])) ?_
      refine CW.skip ?_
      refine QE.next ?_
      refine CW.seq ?_
      refine CW.region ?_
      refine WP.s .n (O.mv rfl) ?_
      refine WP.s .n (O.mv rfl) ?_
      refine WP.s .n (O.mv rfl) ?_
      refine WP.s .n (O.cvt rfl Try.underlying173 Try.underlying121 (c := ((lessV c (x.getD r.length 0) (y.getD r.length 0) % 4294967296 : Nat) : Int)) (wr32 rfl)) ?_
      refine WP.s .n (O.ixR (k := kLimb) (xs := fil x.length r) (n := (r.length : Int)) r.length rfl rfl (mem_at 0 rfl) Try.underlying29 ty121 rfl (by omega)) ?_
      refine WP.t .n (O.stR 0 r.length rfl rfl (Lens.id _) rfl (y0 := ((fil x.length r).getD r.length 0)) (gd 0 (by omega)) ty121 rfl (u32_limb (x := (lessV c (x.getD r.length 0) (y.getD r.length 0) % 4294967296 : Nat)) (by omega))) ?_
      refine WP.nil ?_
      refine QE.next ?_
      refine CW.region ?_
      refine WP.s .n (O.mv rfl) ?_
      refine WP.s .n (O.shr rfl rfl (by omega) (c := ((lessV c (x.getD r.length 0) (y.getD r.length 0) / 2 ^ 63 : Nat) : Int)) (shrN 63 rfl rfl (by decide))) ?_
      refine WP.s .n (O.asg rfl) ?_
      refine WP.nil ?_
      refine QE.blkN ?_
      refine QE.next ?_
      refine CW.region ?_
      refine WP.s .n (O.add rfl rfl (c := ((r.length : Int) + 1)) (w64 (by omega))) ?_
      refine WP.s .n (O.mv rfl) ?_
      refine WP.nil ?_
      exact QE.round3 (r ++ [lessV c (x.getD r.length 0) (y.getD r.length 0) % 4294967296]) (lessV c (x.getD r.length 0) (y.getD r.length 0) / 2 ^ 63) v (by simp; omega) ⟨by simp; omega, lessR_s l1 l2 hA⟩ (Imp.cons rfl (Imp.cons rfl (Imp.cons rfl (Imp.consLe rfl (is_eq (y := (((lessV c (x.getD r.length 0) (y.getD r.length 0) / 2 ^ 63) : Nat) : Int)) (by first | omega | simp)) (Imp.cons rfl (Imp.consLe rfl (is_eq (y := ((r ++ [lessV c (x.getD r.length 0) (y.getD r.length 0) % 4294967296]).length : Int)) (by first | omega | simp)) Imp.nil)))))) (OImp.os (.keepLe (OB.row_eq (fil_set (by omega))) .nil))
  · refine CW.exit ?_
    refine QE.thenE ?_
    refine QE.thenE ?_
    refine QE.blkH ?_
    refine QE.next ?_
    refine CW.seq ?_
    have hrx : r.length = x.length := by omega
    refine ST.obtold (b' := OB.row v 121 kLimb r) 0 rfl (OB.row_eq (fil_full hrx)) ?_
    refine CW.region ?_
    refine WP.s .n (O.mv rfl) ?_
    refine ST.freeze 0 rfl (.keep (i := 0) rfl (.keep (i := 1) rfl (.hit (i := 5) rfl (.keep (i := 6) rfl (.keep (i := 13) rfl (.keep (i := 14) rfl (.keep (i := 15) rfl (.hit (i := 43) rfl .nil)))))))) ?_
    refine WP.s .n (O.fn fn197 (evs.c rfl evs.nil) (c_nat_trim r)) ?_
    refine WP.s .n (O.asg rfl) ?_
    refine WP.nil ?_
    refine QE.next ?_
    refine CW.ret ?_
    refine ST.told 4 rfl (is_eq (y := (limbs (nval x - nval y))) (by rw [lessR_end hA hrx hl hle])) ?_
    exact QE.done (.inl rfl) rfl (ResOk.t rfl ResOk.nil) (OImp.sub (List.nil_sublist _)) ⟨rfl, rfl⟩

set_option maxRecDepth 20000 in
set_option maxHeartbeats 1000000 in
theorem c_nat_Sub (a b : List Nat) : Fn Try.prog 151 [kN.is a, kN.is b] (VP.tup [kN.is (if nval a < nval b then [] else limbs (nval a - nval b)), (kInt .i64).is (if nval a < nval b then 10 else 0)]) := by
  refine Con.enter Try.func151 rfl rfl fun m w => ?_
  refine CW.seq ?_
  refine CW.region ?_
  refine WP.s .n (O.asg rfl) ?_
  refine WP.s .n (O.asg rfl) ?_
  refine WP.nil ?_
  refine QE.next ?_
  refine CW.seq ?_
  refine CW.seq ?_
  refine CW.region ?_
  refine WP.s .n (O.mv rfl) ?_
  refine WP.s .n (O.mv rfl) ?_
  refine WP.s .n (O.fn fn148 (evs.c rfl (evs.c rfl evs.nil)) (c_nat_Cmp a b)) ?_
  refine WP.s .n (O.lt rfl rfl) ?_
  refine WP.nil ?_
  refine QE.next ?_
  refine CW.condD rfl (fun h_t9 => ?_) (fun h_t9 => ?_)
  · refine CW.seq ?_
    refine CW.region ?_
    refine WP.s .n (O.asg rfl) ?_
    refine WP.s .n (O.asg rfl) ?_
    refine WP.nil ?_
    refine QE.next ?_
    refine CW.ret ?_
    refine QE.thenR ?_
    refine ST.told (q := kN.is ([] : List Nat)) 4 rfl (nil_le _) ?_
    refine ST.told 4 rfl (is_eq (y := (if nval a < nval b then [] else limbs (nval a - nval b))) (by rw [if_pos (cmpI_lt h_t9)])) ?_
    refine ST.told 5 rfl (is_eq (y := (if nval a < nval b then 10 else 0)) (by rw [if_pos (cmpI_lt h_t9)])) ?_
    exact QE.done (.inl rfl) rfl (ResOk.t rfl (ResOk.t rfl ResOk.nil)) (OImp.sub (List.nil_sublist _)) ⟨rfl, rfl⟩
  · refine CW.skip ?_
    refine QE.next ?_
    refine CW.seq ?_
    refine CW.region ?_
    refine WP.s .n (O.mv rfl) ?_
    refine WP.s .n (O.fn fn197 (evs.c rfl evs.nil) (c_nat_trim a)) ?_
    refine WP.s .n (O.mv rfl) ?_
    refine WP.s .n (O.fn fn197 (evs.c rfl evs.nil) (c_nat_trim b)) ?_
    refine WP.s .n (O.fn fn198 (evs.c rfl (evs.c rfl evs.nil)) (c_nat_less (limbs (nval a)) (limbs (nval b)) (limbs_mono (by have := cmpI_ge h_t9; omega)) (by rw [nval_limbs, nval_limbs]; exact cmpI_ge h_t9))) ?_
    refine WP.s .n (O.asg rfl) ?_
    refine WP.s .n (O.asg rfl) ?_
    refine WP.nil ?_
    refine QE.next ?_
    refine CW.ret ?_
    refine ST.told 4 rfl (is_eq (y := (if nval a < nval b then [] else limbs (nval a - nval b))) (by rw [if_neg (Nat.not_lt.2 (cmpI_ge h_t9)), nval_limbs, nval_limbs])) ?_
    refine ST.told 5 rfl (is_eq (y := (if nval a < nval b then 10 else 0)) (by rw [if_neg (Nat.not_lt.2 (cmpI_ge h_t9))])) ?_
    exact QE.done (.inl rfl) rfl (ResOk.t rfl (ResOk.t rfl ResOk.nil)) (OImp.sub (List.nil_sublist _)) ⟨rfl, rfl⟩

end Fw


/- Plain facts on whole numbers: what the functions of layer 2 rest on. -/
set_option linter.unusedVariables false
set_option linter.unusedSimpArgs false
set_option exponentiation.threshold 70
namespace Fw

theorem ival_neg {b : Bool} {l : List Nat} (h : b = true) : ival (b, l) = -(nval l : Int) := by simp [ival, h]
theorem ival_pos {b : Bool} {l : List Nat} (h : b = false) : ival (b, l) = (nval l : Int) := by simp [ival, h]
theorem ival_abs (y : Bool × List Nat) : (ival y).natAbs = nval y.2 := by
  unfold ival; split <;> simp
theorem ival0 {y : Bool × List Nat} (h : nval y.2 = 0) : ival y = 0 := by
  unfold ival; split <;> simp [h]
theorem bitlen_0 {n : Nat} : bitlen n = 0 ↔ n = 0 := by
  constructor
  · intro h
    by_cases h0 : n = 0
    · exact h0
    · simp [bitlen, h0] at h
  · intro h; subst h; rfl
theorem sign_0 {y : Bool × List Nat} (h : (bitlen (nval y.2) : Int) = 0) : 0 = (ival y).sign := by
  rw [ival0 (bitlen_0.1 (by omega))]; rfl
theorem sign_neg {y : Bool × List Nat} (h : ¬ (bitlen (nval y.2) : Int) = 0) (hb : y.1 = true) : (-1) = (ival y).sign := by
  have : nval y.2 ≠ 0 := fun h0 => h (by rw [bitlen_0.2 h0]; rfl)
  unfold ival; rw [if_pos hb]
  rw [Int.sign_neg, Int.sign_eq_one_of_pos (by omega)]
theorem sign_pos {y : Bool × List Nat} (h : ¬ (bitlen (nval y.2) : Int) = 0) (hb : y.1 = false) : 1 = (ival y).sign := by
  have : nval y.2 ≠ 0 := fun h0 => h (by rw [bitlen_0.2 h0]; rfl)
  unfold ival; rw [if_neg (by simp [hb])]
  rw [Int.sign_eq_one_of_pos (by omega)]
theorem limbs0 {n : Nat} (h : (limbs n).length = 0) : n = 0 := by
  by_cases h0 : n = 0
  · exact h0
  · rw [limbs_pos h0] at h; simp at h
theorem made_zero {b : Bool} {l : List Nat} (h : nval l = 0) : (0 : Int) = ival (b, l) := (ival0 (y := (b, l)) h).symm
theorem canon_of {b : Bool} {l : List Nat} (h : nval l ≠ 0) : (b, limbs (nval l)) = canon (ival (b, l)) := by
  cases b with
  | true =>
    rw [ival_neg rfl]
    simp only [canon, Int.natAbs_neg, Int.natAbs_natCast, Prod.mk.injEq, and_true]
    rw [eq_comm, decide_eq_true_iff]
    omega
  | false =>
    rw [ival_pos rfl]
    simp only [canon, Int.natAbs_natCast, Prod.mk.injEq, and_true]
    rw [eq_comm, decide_eq_false_iff_not]
    omega
theorem canon_of' {b : Bool} {l : List Nat} : (b && decide (0 < ((limbs (nval l)).length : Int)), limbs (nval l)) = canon (ival (b, l)) := by
  by_cases h : nval l = 0
  · rw [h, ival0 (y := (b, l)) h]; simp [limbs_zero, canon]
  · rw [← canon_of h]
    rw [limbs_pos h]; simp
theorem copy_take {l : List Nat} {i : Nat} (h : i ≤ l.length) : l.take (min l.length (List.replicate i 0).length) ++ (List.replicate i 0).drop (min l.length (List.replicate i 0).length) = l.take i := by
  rw [List.length_replicate, Nat.min_eq_right h, List.drop_of_length_le (by simp), List.append_nil]
theorem add_same {p q : Bool × List Nat} (h : p.1 = q.1) : ival (p.1, limbs (nval p.2 + nval q.2)) = ival p + ival q := by
  unfold ival
  simp only [nval_limbs, ← h]
  split <;> omega
theorem add_ge {p q : Bool × List Nat} (h : p.1 ≠ q.1) (hc : ¬ cmpI (nval p.2) (nval q.2) < 0) : ival (p.1, if nval p.2 < nval q.2 then [] else limbs (nval p.2 - nval q.2)) = ival p + ival q := by
  have := cmpI_ge hc
  rw [if_neg (by omega)]
  unfold ival
  simp only [nval_limbs]
  cases hp : p.1 <;> cases hq : q.1 <;> simp_all <;> omega
theorem add_lt {p q : Bool × List Nat} (h : p.1 ≠ q.1) (hc : cmpI (nval p.2) (nval q.2) < 0) : ival (q.1, if nval q.2 < nval p.2 then [] else limbs (nval q.2 - nval p.2)) = ival p + ival q := by
  have := cmpI_lt hc
  rw [if_neg (by omega)]
  unfold ival
  simp only [nval_limbs]
  cases hp : p.1 <;> cases hq : q.1 <;> simp_all <;> omega
theorem copy_len (i : Nat) : (List.replicate i 0).length = i := List.length_replicate
theorem own_val {y : Bool × List Nat} {z : Int} {t : List Nat} (h : ival y = z) : ival (y.1, (y.2 ++ t).take y.2.length) = z := by
  rw [List.take_left]; exact h
theorem made_nz {l : List Nat} {i : Nat} (hlim : l.take i = limbs (nval l)) (hi : i ≤ l.length) (h : i ≠ 0) : nval l ≠ 0 := fun h0 => by
  rw [h0, limbs_zero] at hlim
  have := congrArg List.length hlim
  rw [List.length_take, List.length_nil] at this
  omega
end Fw


/- What the functions of layer 2 answer: Sign, Bits, Add and what they rest on. -/
set_option linter.unusedVariables false
set_option linter.unusedSimpArgs false
set_option exponentiation.threshold 70
namespace Fw
open Go Go.Proofs

set_option maxRecDepth 20000 in
set_option maxHeartbeats 1000000 in
theorem c_zint_Sign (z : Int) : Fn Try.prog 80 [kZ.is z] ((kInt .i64).is z.sign) := by
  refine Con.enter Try.func80 rfl rfl fun m w => ?_
  refine ST.z 0 rfl fun y y_v y_n y_l => ?_
  refine CW.seq ?_
  refine CW.region ?_
  refine WP.bx .n rfl fun b1 => ?_
  refine WP.s .n (O.asg rfl) ?_
  refine WP.nil ?_
  refine QE.next ?_
  refine CW.seq ?_
  refine CW.block ?_
  refine CW.seq ?_
  refine CW.region ?_
  refine WP.s .n (O.fa rfl fld31_1 rfl) ?_
  refine WP.s .n (O.ld rfl (mem_at 0 rfl) (Lens.snd (Lens.id _)) ty29 rfl) ?_
  refine WP.s .n (O.fn fn156 (evs.c rfl evs.nil) (c_nat_Bits y.2)) ?_
  refine WP.s .n (O.eq rfl rfl) ?_
  refine WP.s .n (O.asg rfl) ?_
  refine WP.nil ?_
  refine QE.next ?_
  refine CW.condD rfl (fun h_t3 => ?_) (fun h_t3 => ?_)
  · refine CW.seq ?_
    refine CW.region ?_
    refine WP.s .n (O.asg rfl) ?_
    refine WP.nil ?_
    refine QE.next ?_
    refine CW.ret ?_
    refine QE.blkR ?_
    refine QE.thenR ?_
    refine ST.told 2 rfl (is_eq (y := z.sign) (by rw [← y_v]; exact sign_0 h_t3)) ?_
    exact QE.done (.inl rfl) rfl (ResOk.t rfl ResOk.nil) (OImp.sub (List.nil_sublist _)) ⟨rfl, rfl⟩
  · refine CW.seq ?_
    refine CW.region ?_
    refine WP.s .n (O.fa rfl fld31_0 rfl) ?_
    refine WP.s .n (O.ld rfl (mem_at 0 rfl) (Lens.fst (Lens.id _)) ty4 rfl) ?_
    refine WP.s .n (O.asg rfl) ?_
    refine WP.nil ?_
    refine QE.next ?_
    refine CW.cond rfl (fun h_t8 => ?_) (fun h_t8 => ?_)
    · refine CW.seq ?_
      refine CW.region ?_
      refine WP.s .n (O.asg rfl) ?_
      refine WP.nil ?_
      refine QE.next ?_
      refine CW.ret ?_
      refine QE.blkR ?_
      refine QE.thenR ?_
      refine ST.told 2 rfl (is_eq (y := z.sign) (by rw [← y_v]; exact sign_neg h_t3 h_t8)) ?_
      exact QE.done (.inl rfl) rfl (ResOk.t rfl ResOk.nil) (OImp.sub (List.nil_sublist _)) ⟨rfl, rfl⟩
    · refine CW.skip ?_
      refine QE.blkN ?_
      refine QE.next ?_
      refine CW.seq ?_
      refine CW.region ?_
      refine WP.s .n (O.asg rfl) ?_
      refine WP.nil ?_
      refine QE.next ?_
      refine CW.ret ?_
      refine ST.told 2 rfl (is_eq (y := z.sign) (by rw [← y_v]; exact sign_pos h_t3 h_t8)) ?_
      exact QE.done (.inl rfl) rfl (ResOk.t rfl ResOk.nil) (OImp.sub (List.nil_sublist _)) ⟨rfl, rfl⟩

set_option maxRecDepth 20000 in
set_option maxHeartbeats 1000000 in
theorem c_zint_made (b : Bool) (l : List Nat) : Fn Try.prog 147 [kBool.is b, kN.is l] (kC.is (ival (b, l))) := by
  refine Con.enter Try.func147 rfl rfl fun m w => ?_
  refine ST.fact (i := 1) rfl sl_len fun hB => ?_
  refine ST.fact (i := 1) rfl kN_lims fun hL => ?_
  refine CW.seq ?_
  refine CW.region ?_
  refine WP.al .n z31_C fun b1 => ?_
  refine WP.nil ?_
  refine QE.next ?_
  refine CW.seq ?_
  refine CW.region ?_
  refine WP.s .n (O.mv rfl) ?_
  refine WP.s .n (O.lenS rfl Try.underlying29) ?_
  refine WP.s .n (O.asg rfl) ?_
  refine WP.nil ?_
  refine QE.next ?_
  refine CW.seq ?_
  refine CW.block ?_
  refine CW.loop (fun (i : Nat) => i ≤ l.length ∧ nval (l.take i) = nval l) (fun (i : Nat) => [(0, kBool.is b), (1, kN.is l), (4, VP.ex (.pointer (some ⟨b1, 0, none⟩))), (5, (kInt .i64).is (i : Int))]) (fun (i : Nat) => [OB.box b1 31 kC 0]) (fun (i : Nat) => i) l.length ⟨Nat.le_refl _, by rw [List.take_length]⟩ (Imp.cons rfl (Imp.cons rfl (Imp.cons rfl (Imp.consLe rfl (is_eq (y := ((l.length : Nat) : Int)) (by omega)) Imp.nil)))) (OImp.refl _) ?_
  intro i ⟨hi, hr⟩
  refine CW.seq ?_
  refine CW.seq ?_
  refine CW.region ?_
  refine WP.s .n (O.mv rfl) ?_
  refine WP.s .n (O.gt rfl rfl) ?_
  refine WP.s .n (O.mv rfl) ?_
  refine WP.splitD 11 rfl (fun h_t11 => ?_) (fun h_t11 => ?_)
  · have h_t11' : 0 < i := by omega
    refine WP.s (.g rfl rfl) (O.mv rfl) ?_
    refine WP.s (.g rfl rfl) (O.mv rfl) ?_
    refine WP.s (.g rfl rfl) (O.sub rfl rfl (c := ((i : Int) - 1)) (w64 (by omega))) ?_
    refine WP.s (.g rfl rfl) (O.ix (i - 1) rfl rfl Try.underlying29 ty121 (by omega) (v := (l.getD (i - 1) 0)) (gd 0 (by omega))) ?_
    refine WP.s (.g rfl rfl) (OpOk.le (O.ldP rfl ty121) (limb_le _)) ?_
    refine WP.s (.g rfl rfl) (O.eq rfl rfl) ?_
    refine WP.s .n (O.pickT rfl rfl) ?_
    refine WP.nil ?_
    refine QE.next ?_
    refine CW.condD rfl (fun h_t18 => ?_) (fun h_t18 => ?_)
    · refine CW.skip ?_
      refine QE.next ?_
      refine CW.block ?_
      refine CW.region ?_
      refine WP.s .n (O.mv rfl) ?_
      refine WP.s .n (O.sub rfl rfl (c := ((i : Int) - 1)) (w64 (by omega))) ?_
      refine WP.s .n (O.asg rfl) ?_
      refine WP.nil ?_
      refine QE.blkN ?_
      exact QE.round (i - 1) (by omega) ⟨by omega, (trim_down hi h_t11' (by rw [getD_take (by omega)]; exact h_t18)).trans hr⟩ (Imp.cons rfl (Imp.cons rfl (Imp.cons rfl (Imp.consLe rfl (is_eq (y := (((i - 1) : Nat) : Int)) (by omega)) Imp.nil)))) (OImp.refl _)
    · refine CW.exit ?_
      refine QE.thenE ?_
      refine QE.thenE ?_
      refine QE.blkH ?_
      refine QE.next ?_
      refine CW.seq ?_
      refine CW.seq ?_
      have hlim : l.take i = limbs (nval l) := trim_stop hL hi h_t11' (by rw [getD_take (by omega)]; exact h_t18) hr
      refine CW.region ?_
      refine WP.s .n (O.mv rfl) ?_
      refine WP.s .n (O.eq rfl rfl) ?_
      refine WP.nil ?_
      refine QE.next ?_
      refine CW.condD rfl (fun h_t22 => ?_) (fun h_t22 => ?_)
      · refine CW.seq ?_
        have hz : nval l = 0 := by rw [← hr, show i = 0 from by omega]; rfl
        refine CW.region ?_
        refine WP.s .n (O.bld lit31_C rfl evp.n (.nil _)) ?_
        refine WP.t .n (O.stW (l := kC) (u := 0) 0 rfl rfl rfl ty31 rfl (VP.le_refl _)) ?_
        refine WP.nil ?_
        refine QE.next ?_
        refine CW.ret ?_
        refine QE.thenR ?_
        refine ST.obtold 0 rfl (OB.box_eq (y := (ival (b, l))) (made_zero hz)) ?_
        exact QE.done (.inl rfl) rfl (ResOk.c rfl (mem_at 0 rfl) ty31 ResOk.nil) (OImp.sub (List.nil_sublist _)) ⟨rfl, rfl⟩
      · refine CW.skip ?_
        refine QE.next ?_
        refine CW.seq ?_
        have hz : nval l ≠ 0 := made_nz hlim hi (by omega)
        have hcl := copy_len i
        refine CW.region ?_
        refine WP.s .n (O.mv rfl) ?_
        refine WP.mk i .n rfl rfl rfl (by omega) Try.underlying29 el121_limb z121_limb fun v2 => ?_
        refine WP.s .n (O.asg rfl) ?_
        refine WP.nil ?_
        refine QE.next ?_
        refine CW.seq ?_
        refine CW.region ?_
        refine WP.s .n (O.mv rfl) ?_
        refine WP.s .n (O.mv rfl) ?_
        refine WP.s .n (O.cp 0 rfl rfl rfl (VP.le_refl _) Try.underlying29 el121_limb) ?_
        refine WP.nil ?_
        refine QE.next ?_
        refine CW.seq ?_
        refine ST.obtold 0 rfl (OB.row_eq (ys := (l.take i)) (copy_take hi)) ?_
        refine ST.freeze 0 rfl (.keep (i := 0) rfl (.keep (i := 1) rfl (.keep (i := 4) rfl (.keep (i := 5) rfl (.hit (i := 6) rfl (.keep (i := 9) rfl (.keep (i := 10) rfl (.keep (i := 11) rfl (.keep (i := 12) rfl (.keep (i := 13) rfl (.keep (i := 14) rfl (.keep (i := 15) rfl (.keep (i := 16) rfl (.keep (i := 17) rfl (.keep (i := 18) rfl (.keep (i := 21) rfl (.keep (i := 22) rfl (.keep (i := 24) rfl (.hit (i := 25) rfl (.hit (i := 26) rfl (.keep (i := 27) rfl (.keep (i := 28) rfl .nil)))))))))))))))))))))) ?_
        refine CW.region ?_
        refine WP.s .n (O.mv rfl) ?_
        refine WP.s .n (O.mv rfl) ?_
        refine WP.s .n (O.bld lit31_I rfl (evp.c rfl (evp.c rfl evp.n)) (.cons rfl (Lens.fst (Lens.id _)) (.cons rfl (Lens.snd (Lens.id _)) (.nil _)))) ?_
        refine WP.t .n (O.stW (l := kI) (u := (b, (l.take i))) 0 rfl rfl rfl ty31 rfl (VP.le_refl _)) ?_
        refine WP.nil ?_
        refine QE.next ?_
        refine CW.ret ?_
        refine ST.obtold (b' := OB.box b1 31 kC (ival (b, l))) 0 rfl (OB.I_C (by rw [hlim]; exact canon_of hz)) ?_
        exact QE.done (.inl rfl) rfl (ResOk.c rfl (mem_at 0 rfl) ty31 ResOk.nil) (OImp.sub (List.nil_sublist _)) ⟨rfl, rfl⟩
  · refine WP.k (b := false) rfl rfl ?_
    refine WP.k (b := false) rfl rfl ?_
    refine WP.k (b := false) rfl rfl ?_
    refine WP.k (b := false) rfl rfl ?_
    refine WP.k (b := false) rfl rfl ?_
    refine WP.k (b := false) rfl rfl ?_
    refine WP.s .n (O.pickF rfl rfl) ?_
    refine WP.nil ?_
    refine QE.next ?_
    refine CW.condF rfl ?_
    refine CW.exit ?_
    refine QE.thenE ?_
    refine QE.thenE ?_
    refine QE.blkH ?_
    refine QE.next ?_
    refine CW.seq ?_
    refine CW.seq ?_
    have hlim : l.take i = limbs (nval l) := trim_stop0 hr (by omega)
    refine CW.region ?_
    refine WP.s .n (O.mv rfl) ?_
    refine WP.s .n (O.eq rfl rfl) ?_
    refine WP.nil ?_
    refine QE.next ?_
    refine CW.condD rfl (fun h_t22 => ?_) (fun h_t22 => ?_)
    · refine CW.seq ?_
      have hz : nval l = 0 := by rw [← hr, show i = 0 from by omega]; rfl
      refine CW.region ?_
      refine WP.s .n (O.bld lit31_C rfl evp.n (.nil _)) ?_
      refine WP.t .n (O.stW (l := kC) (u := 0) 0 rfl rfl rfl ty31 rfl (VP.le_refl _)) ?_
      refine WP.nil ?_
      refine QE.next ?_
      refine CW.ret ?_
      refine QE.thenR ?_
      refine ST.obtold 0 rfl (OB.box_eq (y := (ival (b, l))) (made_zero hz)) ?_
      exact QE.done (.inl rfl) rfl (ResOk.c rfl (mem_at 0 rfl) ty31 ResOk.nil) (OImp.sub (List.nil_sublist _)) ⟨rfl, rfl⟩
    · refine CW.skip ?_
      refine QE.next ?_
      refine CW.seq ?_
      have hz : nval l ≠ 0 := made_nz hlim hi (by omega)
      have hcl := copy_len i
      refine CW.region ?_
      refine WP.s .n (O.mv rfl) ?_
      refine WP.mk i .n rfl rfl rfl (by omega) Try.underlying29 el121_limb z121_limb fun v3 => ?_
      refine WP.s .n (O.asg rfl) ?_
      refine WP.nil ?_
      refine QE.next ?_
      refine CW.seq ?_
      refine CW.region ?_
      refine WP.s .n (O.mv rfl) ?_
      refine WP.s .n (O.mv rfl) ?_
      refine WP.s .n (O.cp 0 rfl rfl rfl (VP.le_refl _) Try.underlying29 el121_limb) ?_
      refine WP.nil ?_
      refine QE.next ?_
      refine CW.seq ?_
      refine ST.obtold 0 rfl (OB.row_eq (ys := (l.take i)) (copy_take hi)) ?_
      refine ST.freeze 0 rfl (.keep (i := 0) rfl (.keep (i := 1) rfl (.keep (i := 4) rfl (.keep (i := 5) rfl (.hit (i := 6) rfl (.keep (i := 9) rfl (.keep (i := 10) rfl (.keep (i := 11) rfl (.keep (i := 12) rfl (.keep (i := 13) rfl (.keep (i := 14) rfl (.keep (i := 15) rfl (.keep (i := 16) rfl (.keep (i := 17) rfl (.keep (i := 18) rfl (.keep (i := 21) rfl (.keep (i := 22) rfl (.keep (i := 24) rfl (.hit (i := 25) rfl (.hit (i := 26) rfl (.keep (i := 27) rfl (.keep (i := 28) rfl .nil)))))))))))))))))))))) ?_
      refine CW.region ?_
      refine WP.s .n (O.mv rfl) ?_
      refine WP.s .n (O.mv rfl) ?_
      refine WP.s .n (O.bld lit31_I rfl (evp.c rfl (evp.c rfl evp.n)) (.cons rfl (Lens.fst (Lens.id _)) (.cons rfl (Lens.snd (Lens.id _)) (.nil _)))) ?_
      refine WP.t .n (O.stW (l := kI) (u := (b, (l.take i))) 0 rfl rfl rfl ty31 rfl (VP.le_refl _)) ?_
      refine WP.nil ?_
      refine QE.next ?_
      refine CW.ret ?_
      refine ST.obtold (b' := OB.box b1 31 kC (ival (b, l))) 0 rfl (OB.I_C (by rw [hlim]; exact canon_of hz)) ?_
      exact QE.done (.inl rfl) rfl (ResOk.c rfl (mem_at 0 rfl) ty31 ResOk.nil) (OImp.sub (List.nil_sublist _)) ⟨rfl, rfl⟩

set_option maxRecDepth 20000 in
set_option maxHeartbeats 1000000 in
theorem c_zint_Add (x y : Int) : Fn Try.prog 77 [kZ.is x, kZ.is y] (kC.is (x + y)) := by
  refine Con.enter Try.func77 rfl rfl fun m w => ?_
  refine ST.z 0 rfl fun p p_v p_n p_l => ?_
  refine ST.z 1 rfl fun q q_v q_n q_l => ?_
  refine CW.seq ?_
  refine CW.region ?_
  refine WP.bx .n rfl fun b1 => ?_
  refine WP.bx .n rfl fun b2 => ?_
  refine WP.al .n z31_C fun b3 => ?_
  refine WP.nil ?_
  refine QE.next ?_
  refine CW.seq ?_
  refine CW.seq ?_
  refine CW.region ?_
  refine WP.s .n (O.fa rfl fld31_0 rfl) ?_
  refine WP.s .n (O.ld rfl (mem_at 2 rfl) (Lens.fst (Lens.id _)) ty4 rfl) ?_
  refine WP.s .n (O.fa rfl fld31_0 rfl) ?_
  refine WP.s .n (O.ld rfl (mem_at 1 rfl) (Lens.fst (Lens.id _)) ty4 rfl) ?_
  refine WP.s .n (O.eqB rfl rfl Try.underlying4) ?_
  refine WP.nil ?_
  refine QE.next ?_
  refine CW.condD rfl (fun h_t11 => ?_) (fun h_t11 => ?_)
  · refine CW.seq ?_
    refine CW.draw (Γ := [.fr (VP.ex (.pointer (some ⟨b1, 0, none⟩))), .fr (kBool.is p.1), .fr (VP.ex (.pointer (some ⟨b1, 1, none⟩))), .fr (kN.is p.2), .fr (VP.ex (.pointer (some ⟨b2, 1, none⟩))), .fr (kN.is q.2), .fr (kN.is (limbs (nval p.2 + nval q.2))), .fr (kC.is (ival (p.1, (limbs (nval p.2 + nval q.2)))))]) (lates := [false, false, false, false, false, false, false, false]) (by kernel_rfl) (Chk.of rfl (by kernel_rfl) rfl) (fun _ _ _ _ _ h => h) (fun q_ x_ h_ => ?_) (fun σ => ?_)
    · match q_, h_ with
      | 0, h_ => cases h_; exact Ob.f rfl .n fun N => (O.fa rfl fld31_0 rfl)
      | 1, h_ => cases h_; exact Ob.f rfl .n fun N => (O.ld rfl (mem_app N (mem_at 2 rfl)) (Lens.fst (Lens.id _)) ty4 rfl)
      | 2, h_ => cases h_; exact Ob.f rfl .n fun N => (O.fa rfl fld31_1 rfl)
      | 3, h_ => cases h_; exact Ob.f rfl .n fun N => (O.ld rfl (mem_app N (mem_at 2 rfl)) (Lens.snd (Lens.id _)) ty29 rfl)
      | 4, h_ => cases h_; exact Ob.f rfl .n fun N => (O.fa rfl fld31_1 rfl)
      | 5, h_ => cases h_; exact Ob.f rfl .n fun N => (O.ld rfl (mem_app N (mem_at 1 rfl)) (Lens.snd (Lens.id _)) ty29 rfl)
      | 6, h_ => cases h_; exact Ob.f rfl .n fun N => (O.fn fn150 (evs.c rfl (evs.c rfl evs.nil)) (c_nat_Add p.2 q.2 (by omega) (by omega)))
      | 7, h_ => cases h_; exact Ob.f rfl .n fun N => (O.fn fn147 (evs.c rfl (evs.c rfl evs.nil)) (c_zint_made p.1 (limbs (nval p.2 + nval q.2))))
      | n_ + 8, h_ => simp at h_
    refine WP.t .n (O.stW (l := kC) (u := ival (p.1, (limbs (nval p.2 + nval q.2)))) 0 rfl rfl rfl ty31 rfl (VP.le_refl _)) ?_
    refine WP.nil ?_
    refine QE.next ?_
    refine CW.ret ?_
    refine QE.thenR ?_
    exact QE.done (.inl rfl) rfl (ResOk.cl rfl (mem_at 0 rfl) ty31 (is_eq (y := x + y) (by first | omega | assumption | (rw [← p_v, ← q_v]; first | exact add_same h_t11 | exact add_ge h_t11 h_t25 | exact add_lt h_t11 h_t25))) ResOk.nil) (OImp.sub (List.nil_sublist _)) ⟨rfl, rfl⟩
  · refine CW.skip ?_
    refine QE.next ?_
    refine CW.seq ?_
    refine CW.seq ?_
    refine CW.region ?_
    refine WP.s .n (O.fa rfl fld31_1 rfl) ?_
    refine WP.s .n (O.ld rfl (mem_at 2 rfl) (Lens.snd (Lens.id _)) ty29 rfl) ?_
    refine WP.s .n (O.fa rfl fld31_1 rfl) ?_
    refine WP.s .n (O.ld rfl (mem_at 1 rfl) (Lens.snd (Lens.id _)) ty29 rfl) ?_
    refine WP.s .n (O.fn fn148 (evs.c rfl (evs.c rfl evs.nil)) (c_nat_Cmp p.2 q.2)) ?_
    refine WP.s .n (O.lt rfl rfl) ?_
    refine WP.nil ?_
    refine QE.next ?_
    refine CW.condD rfl (fun h_t25 => ?_) (fun h_t25 => ?_)
    · refine CW.region ?_
      refine WP.s .n (O.ld rfl (mem_at 1 rfl) (Lens.id _) ty31 rfl) ?_
      refine WP.s .n (O.ld rfl (mem_at 2 rfl) (Lens.id _) ty31 rfl) ?_
      refine WP.t .n (O.stW (l := kI) (u := (q.1, q.2)) 2 rfl rfl rfl ty31 rfl (VP.le_refl _)) ?_
      refine WP.t .n (O.stW (l := kI) (u := (p.1, p.2)) 1 rfl rfl rfl ty31 rfl (VP.le_refl _)) ?_
      refine WP.nil ?_
      refine QE.next ?_
      refine CW.seq ?_
      refine CW.region ?_
      refine WP.s .n (O.fa rfl fld31_1 rfl) ?_
      refine WP.s .n (O.ld rfl (mem_at 2 rfl) (Lens.snd (Lens.id _)) ty29 rfl) ?_
      refine WP.s .n (O.fa rfl fld31_1 rfl) ?_
      refine WP.s .n (O.ld rfl (mem_at 1 rfl) (Lens.snd (Lens.id _)) ty29 rfl) ?_
      refine WP.s .n (O.fn fn151 (evs.c rfl (evs.c rfl evs.nil)) (c_nat_Sub q.2 p.2)) ?_
      refine WP.s .n (O.mv rfl) ?_
      refine WP.s .n (O.ext rfl rfl) ?_
      refine WP.s .n (O.ext rfl rfl) ?_
      refine WP.s .n (O.asg rfl) ?_
      refine WP.s .n (O.asg rfl) ?_
      refine WP.nil ?_
      refine QE.next ?_
      refine CW.seq ?_
      refine CW.region ?_
      refine WP.s .n (O.fa rfl fld31_0 rfl) ?_
      refine WP.s .n (O.ld rfl (mem_at 2 rfl) (Lens.fst (Lens.id _)) ty4 rfl) ?_
      refine WP.s .n (O.mv rfl) ?_
      refine WP.s .n (O.fn fn147 (evs.c rfl (evs.c rfl evs.nil)) (c_zint_made q.1 (if nval q.2 < nval p.2 then [] else limbs (nval q.2 - nval p.2)))) ?_
      refine WP.t .n (O.stW (l := kC) (u := ival (q.1, (if nval q.2 < nval p.2 then [] else limbs (nval q.2 - nval p.2)))) 0 rfl rfl rfl ty31 rfl (VP.le_refl _)) ?_
      refine WP.nil ?_
      refine QE.next ?_
      refine CW.ret ?_
      exact QE.done (.inl rfl) rfl (ResOk.cl rfl (mem_at 0 rfl) ty31 (is_eq (y := x + y) (by first | omega | assumption | (rw [← p_v, ← q_v]; first | exact add_same h_t11 | exact add_ge h_t11 h_t25 | exact add_lt h_t11 h_t25))) ResOk.nil) (OImp.sub (List.nil_sublist _)) ⟨rfl, rfl⟩
    · refine CW.skip ?_
      refine QE.next ?_
      refine CW.seq ?_
      refine CW.region ?_
      refine WP.s .n (O.fa rfl fld31_1 rfl) ?_
      refine WP.s .n (O.ld rfl (mem_at 2 rfl) (Lens.snd (Lens.id _)) ty29 rfl) ?_
      refine WP.s .n (O.fa rfl fld31_1 rfl) ?_
      refine WP.s .n (O.ld rfl (mem_at 1 rfl) (Lens.snd (Lens.id _)) ty29 rfl) ?_
      refine WP.s .n (O.fn fn151 (evs.c rfl (evs.c rfl evs.nil)) (c_nat_Sub p.2 q.2)) ?_
      refine WP.s .n (O.mv rfl) ?_
      refine WP.s .n (O.ext rfl rfl) ?_
      refine WP.s .n (O.ext rfl rfl) ?_
      refine WP.s .n (O.asg rfl) ?_
      refine WP.s .n (O.asg rfl) ?_
      refine WP.nil ?_
      refine QE.next ?_
      refine CW.seq ?_
      refine CW.region ?_
      refine WP.s .n (O.fa rfl fld31_0 rfl) ?_
      refine WP.s .n (O.ld rfl (mem_at 2 rfl) (Lens.fst (Lens.id _)) ty4 rfl) ?_
      refine WP.s .n (O.mv rfl) ?_
      refine WP.s .n (O.fn fn147 (evs.c rfl (evs.c rfl evs.nil)) (c_zint_made p.1 (if nval p.2 < nval q.2 then [] else limbs (nval p.2 - nval q.2)))) ?_
      refine WP.t .n (O.stW (l := kC) (u := ival (p.1, (if nval p.2 < nval q.2 then [] else limbs (nval p.2 - nval q.2)))) 0 rfl rfl rfl ty31 rfl (VP.le_refl _)) ?_
      refine WP.nil ?_
      refine QE.next ?_
      refine CW.ret ?_
      exact QE.done (.inl rfl) rfl (ResOk.cl rfl (mem_at 0 rfl) ty31 (is_eq (y := x + y) (by first | omega | assumption | (rw [← p_v, ← q_v]; first | exact add_same h_t11 | exact add_ge h_t11 h_t25 | exact add_lt h_t11 h_t25))) ResOk.nil) (OImp.sub (List.nil_sublist _)) ⟨rfl, rfl⟩

end Fw


/- Plain facts on limbs and whole numbers: what the document's functions of layers 1 and 2 rest on. -/
set_option linter.unusedVariables false
set_option linter.unusedSimpArgs false
set_option exponentiation.threshold 70
namespace Fw
open Go (IntKind)

theorem take_app1 {l : List Nat} {j : Nat} (h : j < l.length) : l.take j ++ [l.getD j 0] = l.take (j + 1) := (take_succ' h).symm
theorem nval_split (l : List Nat) (i : Nat) : nval l = nval (l.take i) + 4294967296 ^ i * nval (l.drop i) := by
  by_cases h : i ≤ l.length
  · conv => lhs; rw [← List.take_append_drop i l, nval_append, List.length_take, Nat.min_eq_left h]
  · rw [List.take_of_length_le (by omega), List.drop_of_length_le (by omega)]; simp [nval]
theorem nval_drop (l : List Nat) (i : Nat) : nval (l.drop i) = l.getD i 0 + 4294967296 * nval (l.drop (i + 1)) := by
  by_cases h : i < l.length
  · rw [List.drop_eq_getElem_cons h, nval, List.getD_eq_getElem?_getD, List.getElem?_eq_getElem h]; rfl
  · rw [List.drop_of_length_le (by omega), List.drop_of_length_le (by omega), getD_out (by omega)]; rfl
theorem nval_lt' {l : List Nat} (h : Lims l) (i : Nat) : nval (l.take i) < 4294967296 ^ i := by
  have h1 := nval_lt (h.take i)
  refine Nat.lt_of_lt_of_le h1 (Nat.pow_le_pow_right (by omega) ?_)
  rw [List.length_take]; omega
theorem rcmp_core {a b : List Nat} {i : Nat} (h0 : 0 < i) (hd : nval (a.drop i) = nval (b.drop i)) (la : Lims a) (h : a.getD (i - 1) 0 < b.getD (i - 1) 0) : nval a < nval b := by
  obtain ⟨j, rfl⟩ : ∃ j, i = j + 1 := ⟨i - 1, by omega⟩
  rw [Nat.add_sub_cancel] at h
  rw [nval_split a j, nval_split b j, nval_drop a j, nval_drop b j, hd]
  have h1 := nval_lt' la j
  have h2 : 4294967296 ^ j * (a.getD j 0 + 4294967296 * nval (b.drop (j + 1)) + 1) ≤ 4294967296 ^ j * (b.getD j 0 + 4294967296 * nval (b.drop (j + 1))) := Nat.mul_le_mul_left _ (by omega)
  rw [Nat.mul_add, Nat.mul_one] at h2
  omega
theorem rcmp_lt {a b : List Nat} {i : Nat} (h0 : 0 < i) (hd : nval (a.drop i) = nval (b.drop i)) (la : Lims a) (h : a.getD (i - 1) 0 < b.getD (i - 1) 0) : (-1) = cmpI (nval a) (nval b) := by
  simp [cmpI, rcmp_core h0 hd la h]
theorem rcmp_gt {a b : List Nat} {i : Nat} (h0 : 0 < i) (hd : nval (a.drop i) = nval (b.drop i)) (lb : Lims b) (h : b.getD (i - 1) 0 < a.getD (i - 1) 0) : 1 = cmpI (nval a) (nval b) := by
  have := rcmp_core h0 hd.symm lb h
  simp [cmpI, this, Nat.lt_asymm this]
theorem rcmp_eq {a b : List Nat} {i : Nat} (h0 : i = 0) (hd : nval (a.drop i) = nval (b.drop i)) : 0 = cmpI (nval a) (nval b) := by
  subst h0
  simp only [List.drop_zero] at hd
  simp [cmpI, hd]
theorem rcmp_down {a b : List Nat} {i : Nat} (h0 : 0 < i) (hd : nval (a.drop i) = nval (b.drop i)) (h : a.getD (i - 1) 0 = b.getD (i - 1) 0) : nval (a.drop (i - 1)) = nval (b.drop (i - 1)) := by
  rw [nval_drop a, nval_drop b, show i - 1 + 1 = i from by omega, hd, h]
theorem drop_max {a b : List Nat} {i : Nat} (h : i = max a.length b.length) : nval (a.drop i) = nval (b.drop i) := by
  have h1 : a.length ≤ i := by rw [h]; exact Nat.le_max_left _ _
  have h2 : b.length ≤ i := by rw [h]; exact Nat.le_max_right _ _
  rw [List.drop_of_length_le h1, List.drop_of_length_le h2]
theorem bitlen_half {w : Nat} (h : 0 < w) : bitlen w = bitlen (w / 2) + 1 := by
  by_cases h1 : w = 1
  · subst h1; decide +kernel
  · have := bitlen_shift (n := w) 1 (show 2 ^ 1 ≤ w by omega)
    rw [this, Nat.add_comm]
theorem rbits_end {l : List Nat} {i : Nat} (hl : Lims l) (h0 : 0 < i) (hd : nval (l.drop i) = 0) (hx : l.getD (i - 1) 0 ≠ 0) : bitlen (nval l) = 32 * (i - 1) + bitlen (l.getD (i - 1) 0) := by
  obtain ⟨j, rfl⟩ : ∃ j, i = j + 1 := ⟨i - 1, by omega⟩
  rw [Nat.add_sub_cancel] at hx ⊢
  have h1 := nval_split l j
  rw [nval_drop l j, hd, Nat.mul_zero, Nat.add_zero] at h1
  have h2 := nval_lt' hl j
  have e : (4294967296 : Nat) ^ j = 2 ^ (32 * j) := by
    rw [show (4294967296 : Nat) = 2 ^ 32 from rfl, ← Nat.pow_mul]
  rw [e] at h1 h2
  have hp := Nat.two_pow_pos (32 * j)
  have h3 : 2 ^ (32 * j) ≤ nval l := by
    rw [h1]
    have : 2 ^ (32 * j) * 1 ≤ 2 ^ (32 * j) * l.getD j 0 := Nat.mul_le_mul_left _ (by omega)
    omega
  rw [bitlen_shift _ h3]
  congr 2
  rw [h1, Nat.add_mul_div_left _ _ hp, Nat.div_eq_of_lt h2, Nat.zero_add]
theorem rbits_down {l : List Nat} {i : Nat} (h0 : 0 < i) (hd : nval (l.drop i) = 0) (hx : l.getD (i - 1) 0 = 0) : nval (l.drop (i - 1)) = 0 := by
  rw [nval_drop, show i - 1 + 1 = i from by omega, hd, hx]
theorem rbits_0 {l : List Nat} {i : Nat} (h0 : i = 0) (hd : nval (l.drop i) = 0) : 0 = (bitlen (nval l) : Int) := by
  subst h0
  simp only [List.drop_zero] at hd
  rw [hd]; rfl
theorem tmodN {n b : Int} {s : Nat} (k : Nat) (h : n = s) (hb : b = k) : n.tmod b = ((s % k : Nat) : Int) := by
  subst h hb; rfl
theorem quoN {n b : Int} {s : Nat} (k : Nat) (h : n = s) (hb : b = k) (hs : s < 18446744073709551616) : IntKind.u64.wrap (n.tdiv b) = ((s / k : Nat) : Int) := by
  subst h hb
  have e : (s : Int).tdiv (k : Int) = ((s / k : Nat) : Int) := rfl
  rw [e, wr64 rfl, Nat.mod_eq_of_lt (Nat.lt_of_le_of_lt (Nat.div_le_self _ _) hs)]
theorem quoN32 {n b : Int} {s : Nat} (k : Nat) (h : n = s) (hb : b = k) (hs : s < 4294967296) : IntKind.u32.wrap (n.tdiv b) = ((s / k : Nat) : Int) := by
  subst h hb
  have e : (s : Int).tdiv (k : Int) = ((s / k : Nat) : Int) := rfl
  rw [e, wr32 rfl, Nat.mod_eq_of_lt (Nat.lt_of_le_of_lt (Nat.div_le_self _ _) hs)]
theorem lessR_g {x y r : List Nat} {c d c' : Nat} (h : LessR x y r c) (he : d + (c + y.getD r.length 0) = x.getD r.length 0 + 4294967296 * c') (hd : d < 4294967296) (hc : c' ≤ 1) : LessR x y (r ++ [d]) c' := by
  obtain ⟨h1, h2, h3⟩ := h
  refine ⟨h1.concat hd, hc, ?_⟩
  rw [List.length_append, List.length_singleton, nval_take_succ, nval_take_succ, nval_concat, Nat.pow_succ, Nat.mul_assoc]
  have := congrArg (4294967296 ^ r.length * ·) he
  simp only [Nat.mul_add] at this
  omega
theorem lessR_end' {x y r : List Nat} {c : Nat} (h : LessR x y r c) (hr : r.length = x.length) (hx : Lims x) (hy : Lims y) (hle : nval y ≤ nval x) : nval r = nval x - nval y := by
  obtain ⟨h1, h2, h3⟩ := h
  have h4 := nval_lt h1
  have h5 := nval_lt hx
  have h6 := nval_split y x.length
  rw [hr, List.take_length] at h3
  rw [hr] at h4
  have h7 : nval (y.drop x.length) = 0 := by
    rcases Nat.eq_zero_or_pos (nval (y.drop x.length)) with h | h
    · exact h
    · have : 4294967296 ^ x.length * 1 ≤ 4294967296 ^ x.length * nval (y.drop x.length) := Nat.mul_le_mul_left _ h
      omega
  rw [h7, Nat.mul_zero] at h6
  have : c = 0 := by
    rcases Nat.lt_or_ge c 1 with h | h
    · omega
    · have hc : c = 1 := by omega
      subst hc
      omega
  subst this
  omega
theorem of_neg {n : Int} (h : n < 0) (h2 : -9223372036854775808 ≤ n) : IntKind.u64.wrap (0 - IntKind.u64.wrap n) = ((n.natAbs : Nat) : Int) := by
  simp [IntKind.wrap, IntKind.signed, IntKind.bits]; omega
theorem of_pos {n : Int} (h : ¬ n < 0) (h2 : n ≤ 9223372036854775807) : IntKind.u64.wrap n = ((n.natAbs : Nat) : Int) := by
  simp [IntKind.wrap, IntKind.signed, IntKind.bits]; omega
theorem of_val {n : Int} : ival (decide (n < 0), [n.natAbs % 4294967296, n.natAbs / 2 ^ 32]) = n := by
  have : nval [n.natAbs % 4294967296, n.natAbs / 2 ^ 32] = n.natAbs := by simp only [nval]; omega
  by_cases h : n < 0
  · rw [ival_neg (by simp [h]), this]; omega
  · rw [ival_pos (by simp [h]), this]; omega
theorem radd_ge {p q : Bool × List Nat} (h : p.1 ≠ q.1) (hc : (0 : Int) ≤ cmpI (nval p.2) (nval q.2)) : ival (p.1, if nval p.2 < nval q.2 then [] else limbs (nval p.2 - nval q.2)) = ival p + ival q := add_ge h (by omega)
theorem radd_lt {p q : Bool × List Nat} (h : p.1 ≠ q.1) (hc : ¬ (0 : Int) ≤ cmpI (nval p.2) (nval q.2)) : ival (q.1, if nval q.2 < nval p.2 then [] else limbs (nval q.2 - nval p.2)) = ival p + ival q := add_lt h (by omega)
theorem eq_take {α : Type} {a b : List α} {i : Nat} {d : α} (hl : a.length = b.length) (hi : i < a.length) (h : a.take i = b.take i) (hx : a.getD i d = b.getD i d) : a.take (i + 1) = b.take (i + 1) := by
  rw [List.take_add_one, List.take_add_one, h]
  congr 1
  rw [List.getElem?_eq_getElem hi, List.getElem?_eq_getElem (by omega)]
  simp only [List.getD_eq_getElem?_getD, List.getElem?_eq_getElem hi, List.getElem?_eq_getElem (show i < b.length by omega), Option.getD_some] at hx
  rw [hx]
theorem eq_full {α : Type} {a b : List α} {i : Nat} (hl : a.length = b.length) (hi : a.length ≤ i) (h : a.take i = b.take i) : a = b := by
  rwa [List.take_of_length_le hi, List.take_of_length_le (by omega)] at h
theorem rsign_z {y : Bool × List Nat} (h : (limbs (nval y.2)).length ≠ 0) : ¬ (bitlen (nval y.2) : Int) = 0 := fun h0 => by
  have h1 : nval y.2 = 0 := bitlen_0.1 (by omega)
  rw [h1, limbs_zero] at h
  exact h rfl
theorem rsign_neg {y : Bool × List Nat} (h : (limbs (nval y.2)).length ≠ 0) (hb : y.1 = true) : (-1) = (ival y).sign := sign_neg (rsign_z h) hb
theorem rsign_pos {y : Bool × List Nat} (h : (limbs (nval y.2)).length ≠ 0) (hb : y.1 = false) : 1 = (ival y).sign := sign_pos (rsign_z h) hb
end Fw


/- What the document's functions of layers 1 and 2 answer. -/
set_option linter.unusedVariables false
set_option linter.unusedSimpArgs false
set_option exponentiation.threshold 70
namespace Fw
open Go Go.Proofs

set_option maxRecDepth 20000 in
set_option maxHeartbeats 1000000 in
theorem c_ref01_Norm (l : List Nat) : Fn Try.prog 158 [kN.is l] (kN.is (limbs (nval l))) := by
  refine Con.enter Try.func158 rfl rfl fun m w => ?_
  refine ST.fact (i := 0) rfl sl_len fun hB => ?_
  refine ST.fact (i := 0) rfl kN_lims fun hL => ?_
  refine CW.seq ?_
  refine CW.region ?_
  refine WP.s .n (O.asg rfl) ?_
  refine WP.nil ?_
  refine QE.next ?_
  refine CW.seq ?_
  refine CW.region ?_
  refine WP.s .n (O.mv rfl) ?_
  refine WP.s .n (O.lenS rfl Try.underlying29) ?_
  refine WP.s .n (O.asg rfl) ?_
  refine WP.nil ?_
  refine QE.next ?_
  refine CW.seq ?_
  refine CW.block ?_
  refine CW.loop (fun (i : Nat) => i ≤ l.length ∧ nval (l.take i) = nval l) (fun (i : Nat) => [(0, kN.is l), (3, (kInt .i64).is (i : Int))]) (fun (i : Nat) => []) (fun (i : Nat) => i) l.length ⟨Nat.le_refl _, by rw [List.take_length]⟩ (Imp.cons rfl (Imp.consLe rfl (is_eq (y := ((l.length : Nat) : Int)) (by first | omega | simp)) Imp.nil)) (OImp.refl _) ?_
  intro i ⟨hi, hr⟩
  refine CW.seq ?_
  refine CW.seq ?_
  refine CW.region ?_
  refine WP.s .n (O.mv rfl) ?_
  refine WP.s .n (O.gt rfl rfl) ?_
  refine WP.s .n (O.mv rfl) ?_
  refine WP.splitD 10 rfl (fun h_t10 => ?_) (fun h_t10 => ?_)
  · have h_t10' : 0 < i := by omega
    refine WP.s (.g rfl rfl) (O.mv rfl) ?_
    refine WP.s (.g rfl rfl) (O.mv rfl) ?_
    refine WP.s (.g rfl rfl) (O.sub rfl rfl (c := ((i : Int) - 1)) (w64 (by omega))) ?_
    refine WP.s (.g rfl rfl) (O.ix (i - 1) rfl rfl Try.underlying29 ty121 (by omega) (v := (l.getD (i - 1) 0)) (gd 0 (by omega))) ?_
    refine WP.s (.g rfl rfl) (OpOk.le (O.ldP rfl ty121) (limb_le _)) ?_
    refine WP.s (.g rfl rfl) (O.eq rfl rfl) ?_
    refine WP.s .n (O.pickT rfl rfl) ?_
    refine WP.nil ?_
    refine QE.next ?_
    refine CW.condD rfl (fun h_t17 => ?_) (fun h_t17 => ?_)
    · refine CW.skip ?_
      refine QE.next ?_
      refine CW.block ?_
      refine CW.region ?_
      refine WP.s .n (O.mv rfl) ?_
      refine WP.s .n (O.sub rfl rfl (c := ((i : Int) - 1)) (w64 (by omega))) ?_
      refine WP.s .n (O.asg rfl) ?_
      refine WP.nil ?_
      refine QE.blkN ?_
      exact QE.round (i - 1) (by omega) ⟨by omega, (trim_down hi h_t10' (by rw [getD_take (by omega)]; exact h_t17)).trans hr⟩ (Imp.cons rfl (Imp.consLe rfl (is_eq (y := (((i - 1) : Nat) : Int)) (by first | omega | simp)) Imp.nil)) (OImp.refl _)
    · refine CW.exit ?_
      refine QE.thenE ?_
      refine QE.thenE ?_
      refine QE.blkH ?_
      refine QE.next ?_
      refine CW.seq ?_
      refine CW.region ?_
      refine WP.s .n (O.asg rfl) ?_
      refine WP.nil ?_
      refine QE.next ?_
      refine CW.seq ?_
      refine CW.seq ?_
      refine CW.region ?_
      refine WP.s .n (O.asg rfl) ?_
      refine WP.nil ?_
      refine QE.next ?_
      refine CW.block ?_
      have hlim : l.take i = limbs (nval l) := trim_stop hL hi h_t10' (by rw [getD_take (by omega)]; exact h_t17) hr
      refine ST.nilrow 121 kLimb ?_
      refine CW.loop2 (fun (j : Nat) (v : Value) => j ≤ i) (fun (j : Nat) (v : Value) => [(0, kN.is l), (3, (kInt .i64).is (i : Int)), (4, VP.ex v), (5, (kInt .i64).is (j : Int))]) (fun (j : Nat) (v : Value) => [OB.row v 121 kLimb (l.take j)]) (fun (j : Nat) (v : Value) => i - j) 0 (.slice none 0 0) (by omega) (Imp.cons rfl (Imp.cons rfl (Imp.cons rfl (Imp.consLe rfl (is_eq (y := (0 : Int)) (by first | omega | simp)) Imp.nil)))) (OImp.os (OS.keepLe (OB.row_eq (by first | omega | simp)) OS.nil)) ?_
      intro j v hj
      have hx := getD_lt hL j
      have htl : (l.take j).length = j := by simp; omega
      refine CW.seq ?_
      refine CW.seq ?_
      refine CW.region ?_
      refine WP.s .n (O.mv rfl) ?_
      refine WP.s .n (O.mv rfl) ?_
      refine WP.s .n (O.lt rfl rfl) ?_
      refine WP.nil ?_
      refine QE.next ?_
      refine CW.condD rfl (fun h_t22 => ?_) (fun h_t22 => ?_)
      · refine CW.skip ?_
        refine QE.next ?_
        refine CW.seq ?_
        refine CW.block ?_
        refine CW.region ?_
        refine WP.s .n (O.mv rfl) ?_
        refine WP.s .n (O.mv rfl) ?_
        refine WP.s .n (O.mv rfl) ?_
        refine WP.s .n (O.ix j rfl rfl Try.underlying29 ty121 rfl (v := (l.getD j 0)) (gd 0 (by omega))) ?_
        refine WP.s .n (OpOk.le (O.ldP rfl ty121) (limb_le _)) ?_
        refine WP.s .n (O.bs Try.underlying29 el121_limb (evl.l rfl (u32_limb (x := (l.getD j 0)) (by omega)) evl.n) rfl (by decide)) ?_
        refine WP.ap 0 .n rfl rfl rfl (VP.le_refl _) Try.underlying29 el121_limb (by simp; omega) fun v1 => ?_
        refine WP.s .n (O.asg rfl) ?_
        refine WP.nil ?_
        refine QE.blkN ?_
        refine QE.next ?_
        refine CW.region ?_
        refine WP.s .n (O.mv rfl) ?_
        refine WP.s .n (O.add rfl rfl (c := ((j : Int) + 1)) (w64 (by omega))) ?_
        refine WP.s .n (O.asg rfl) ?_
        refine WP.nil ?_
        refine ST.obtold 0 rfl (OB.row_eq (ys := (l.take (j + 1))) (take_app1 (by omega))) ?_
        exact QE.round2 (j + 1) v1 (by omega) (by omega) (Imp.cons rfl (Imp.cons rfl (Imp.cons rfl (Imp.consLe rfl (is_eq (y := (((j + 1) : Nat) : Int)) (by first | omega | simp)) Imp.nil)))) (OImp.refl _)
      · refine CW.exit ?_
        refine QE.thenE ?_
        refine QE.thenE ?_
        refine QE.blkH ?_
        refine QE.next ?_
        refine CW.seq ?_
        refine CW.region ?_
        refine WP.s .n (O.mv rfl) ?_
        refine WP.s .n (O.asg rfl) ?_
        refine WP.nil ?_
        refine QE.next ?_
        refine CW.ret ?_
        refine ST.freeze 0 rfl (.keep (i := 0) rfl (.hit (i := 2) rfl (.keep (i := 3) rfl (.hit (i := 4) rfl (.keep (i := 5) rfl (.keep (i := 20) rfl (.keep (i := 21) rfl (.keep (i := 22) rfl (.hit (i := 32) rfl .nil))))))))) ?_
        refine ST.told 2 rfl (is_eq (y := (limbs (nval l))) (by rw [← hlim, show j = i from by omega])) ?_
        exact QE.done (.inl rfl) rfl (ResOk.t rfl ResOk.nil) (OImp.sub (List.nil_sublist _)) ⟨rfl, rfl⟩
  · refine WP.k (b := false) rfl rfl ?_
    refine WP.k (b := false) rfl rfl ?_
    refine WP.k (b := false) rfl rfl ?_
    refine WP.k (b := false) rfl rfl ?_
    refine WP.k (b := false) rfl rfl ?_
    refine WP.k (b := false) rfl rfl ?_
    refine WP.s .n (O.pickF rfl rfl) ?_
    refine WP.nil ?_
    refine QE.next ?_
    refine CW.condF rfl ?_
    refine CW.exit ?_
    refine QE.thenE ?_
    refine QE.thenE ?_
    refine QE.blkH ?_
    refine QE.next ?_
    refine CW.seq ?_
    refine CW.region ?_
    refine WP.s .n (O.asg rfl) ?_
    refine WP.nil ?_
    refine QE.next ?_
    refine CW.seq ?_
    refine CW.seq ?_
    refine CW.region ?_
    refine WP.s .n (O.asg rfl) ?_
    refine WP.nil ?_
    refine QE.next ?_
    refine CW.block ?_
    have hlim : l.take i = limbs (nval l) := trim_stop0 hr (by omega)
    refine ST.nilrow 121 kLimb ?_
    refine CW.loop2 (fun (j : Nat) (v : Value) => j ≤ i) (fun (j : Nat) (v : Value) => [(0, kN.is l), (3, (kInt .i64).is (i : Int)), (4, VP.ex v), (5, (kInt .i64).is (j : Int))]) (fun (j : Nat) (v : Value) => [OB.row v 121 kLimb (l.take j)]) (fun (j : Nat) (v : Value) => i - j) 0 (.slice none 0 0) (by omega) (Imp.cons rfl (Imp.cons rfl (Imp.cons rfl (Imp.consLe rfl (is_eq (y := (0 : Int)) (by first | omega | simp)) Imp.nil)))) (OImp.os (OS.keepLe (OB.row_eq (by first | omega | simp)) OS.nil)) ?_
    intro j v hj
    have hx := getD_lt hL j
    have htl : (l.take j).length = j := by simp; omega
    refine CW.seq ?_
    refine CW.seq ?_
    refine CW.region ?_
    refine WP.s .n (O.mv rfl) ?_
    refine WP.s .n (O.mv rfl) ?_
    refine WP.s .n (O.lt rfl rfl) ?_
    refine WP.nil ?_
    refine QE.next ?_
    refine CW.condD rfl (fun h_t22 => ?_) (fun h_t22 => ?_)
    · refine CW.skip ?_
      refine QE.next ?_
      refine CW.seq ?_
      refine CW.block ?_
      refine CW.region ?_
      refine WP.s .n (O.mv rfl) ?_
      refine WP.s .n (O.mv rfl) ?_
      refine WP.s .n (O.mv rfl) ?_
      refine WP.s .n (O.ix j rfl rfl Try.underlying29 ty121 rfl (v := (l.getD j 0)) (gd 0 (by omega))) ?_
      refine WP.s .n (OpOk.le (O.ldP rfl ty121) (limb_le _)) ?_
      refine WP.s .n (O.bs Try.underlying29 el121_limb (evl.l rfl (u32_limb (x := (l.getD j 0)) (by omega)) evl.n) rfl (by decide)) ?_
      refine WP.ap 0 .n rfl rfl rfl (VP.le_refl _) Try.underlying29 el121_limb (by simp; omega) fun v2 => ?_
      refine WP.s .n (O.asg rfl) ?_
      refine WP.nil ?_
      refine QE.blkN ?_
      refine QE.next ?_
      refine CW.region ?_
      refine WP.s .n (O.mv rfl) ?_
      refine WP.s .n (O.add rfl rfl (c := ((j : Int) + 1)) (w64 (by omega))) ?_
      refine WP.s .n (O.asg rfl) ?_
      refine WP.nil ?_
      refine ST.obtold 0 rfl (OB.row_eq (ys := (l.take (j + 1))) (take_app1 (by omega))) ?_
      exact QE.round2 (j + 1) v2 (by omega) (by omega) (Imp.cons rfl (Imp.cons rfl (Imp.cons rfl (Imp.consLe rfl (is_eq (y := (((j + 1) : Nat) : Int)) (by first | omega | simp)) Imp.nil)))) (OImp.refl _)
    · refine CW.exit ?_
      refine QE.thenE ?_
      refine QE.thenE ?_
      refine QE.blkH ?_
      refine QE.next ?_
      refine CW.seq ?_
      refine CW.region ?_
      refine WP.s .n (O.mv rfl) ?_
      refine WP.s .n (O.asg rfl) ?_
      refine WP.nil ?_
      refine QE.next ?_
      refine CW.ret ?_
      refine ST.freeze 0 rfl (.keep (i := 0) rfl (.hit (i := 2) rfl (.keep (i := 3) rfl (.hit (i := 4) rfl (.keep (i := 5) rfl (.keep (i := 20) rfl (.keep (i := 21) rfl (.keep (i := 22) rfl (.hit (i := 32) rfl .nil))))))))) ?_
      refine ST.told 2 rfl (is_eq (y := (limbs (nval l))) (by rw [← hlim, show j = i from by omega])) ?_
      exact QE.done (.inl rfl) rfl (ResOk.t rfl ResOk.nil) (OImp.sub (List.nil_sublist _)) ⟨rfl, rfl⟩

set_option maxRecDepth 20000 in
set_option maxHeartbeats 1000000 in
theorem c_ref01_limb (l : List Nat) (i : Nat) : Fn Try.prog 200 [kN.is l, (kInt .i64).is (i : Int)] ((kInt .u64).is (l.getD i 0 : Int)) := by
  refine Con.enter Try.func200 rfl rfl fun m w => ?_
  refine ST.fact (i := 0) rfl kN_lims fun hL => ?_
  have hx := getD_lt hL i
  refine CW.seq ?_
  refine CW.region ?_
  refine WP.s .n (O.asg rfl) ?_
  refine WP.nil ?_
  refine QE.next ?_
  refine CW.seq ?_
  refine CW.seq ?_
  refine CW.region ?_
  refine WP.s .n (O.mv rfl) ?_
  refine WP.s .n (O.mv rfl) ?_
  refine WP.s .n (O.lenS rfl Try.underlying29) ?_
  refine WP.s .n (O.lt rfl rfl) ?_
  refine WP.nil ?_
  refine QE.next ?_
  refine CW.condD rfl (fun h_t8 => ?_) (fun h_t8 => ?_)
  · refine CW.seq ?_
    refine CW.region ?_
    refine WP.s .n (O.mv rfl) ?_
    refine WP.s .n (O.mv rfl) ?_
    refine WP.s .n (O.ix i rfl rfl Try.underlying29 ty121 rfl (v := (l.getD i 0)) (gd 0 (by omega))) ?_
    refine WP.s .n (OpOk.le (O.ldP rfl ty121) (limb_le _)) ?_
    refine WP.s .n (O.cvt rfl Try.underlying121 Try.underlying173 (c := ((l.getD i 0) : Int)) (wu64 (by omega))) ?_
    refine WP.s .n (O.asg rfl) ?_
    refine WP.nil ?_
    refine QE.next ?_
    refine CW.ret ?_
    refine QE.thenR ?_
    exact QE.done (.inl rfl) rfl (ResOk.tl rfl (is_eq (y := (l.getD i 0 : Int)) (by first | omega | (rw [getD_out (by omega)]; rfl))) ResOk.nil) (OImp.sub (List.nil_sublist _)) ⟨rfl, rfl⟩
  · refine CW.skip ?_
    refine QE.next ?_
    refine CW.seq ?_
    refine CW.region ?_
    refine WP.s .n (O.asg rfl) ?_
    refine WP.nil ?_
    refine QE.next ?_
    refine CW.ret ?_
    exact QE.done (.inl rfl) rfl (ResOk.tl rfl (is_eq (y := (l.getD i 0 : Int)) (by first | omega | (rw [getD_out (by omega)]; rfl))) ResOk.nil) (OImp.sub (List.nil_sublist _)) ⟨rfl, rfl⟩

set_option maxRecDepth 20000 in
set_option maxHeartbeats 1000000 in
theorem c_ref01_most (a b : Int) : Fn Try.prog 199 [(kInt .i64).is a, (kInt .i64).is b] ((kInt .i64).is (max a b)) := by
  refine Con.enter Try.func199 rfl rfl fun m w => ?_
  refine CW.seq ?_
  refine CW.region ?_
  refine WP.s .n (O.asg rfl) ?_
  refine WP.nil ?_
  refine QE.next ?_
  refine CW.seq ?_
  refine CW.seq ?_
  refine CW.region ?_
  refine WP.s .n (O.mv rfl) ?_
  refine WP.s .n (O.mv rfl) ?_
  refine WP.s .n (O.gt rfl rfl) ?_
  refine WP.nil ?_
  refine QE.next ?_
  refine CW.condD rfl (fun h_t7 => ?_) (fun h_t7 => ?_)
  · refine CW.seq ?_
    refine CW.region ?_
    refine WP.s .n (O.mv rfl) ?_
    refine WP.s .n (O.asg rfl) ?_
    refine WP.nil ?_
    refine QE.next ?_
    refine CW.ret ?_
    refine QE.thenR ?_
    exact QE.done (.inl rfl) rfl (ResOk.tl rfl (is_eq (y := max a b) (by omega)) ResOk.nil) (OImp.sub (List.nil_sublist _)) ⟨rfl, rfl⟩
  · refine CW.skip ?_
    refine QE.next ?_
    refine CW.seq ?_
    refine CW.region ?_
    refine WP.s .n (O.mv rfl) ?_
    refine WP.s .n (O.asg rfl) ?_
    refine WP.nil ?_
    refine QE.next ?_
    refine CW.ret ?_
    exact QE.done (.inl rfl) rfl (ResOk.tl rfl (is_eq (y := max a b) (by omega)) ResOk.nil) (OImp.sub (List.nil_sublist _)) ⟨rfl, rfl⟩

set_option maxRecDepth 20000 in
set_option maxHeartbeats 1000000 in
theorem c_ref01_Cmp (a b : List Nat) : Fn Try.prog 154 [kN.is a, kN.is b] ((kInt .i64).is (cmpI (nval a) (nval b))) := by
  refine Con.enter Try.func154 rfl rfl fun m w => ?_
  refine ST.fact (i := 0) rfl sl_len fun hA => ?_
  refine ST.fact (i := 1) rfl sl_len fun hB => ?_
  refine ST.fact (i := 0) rfl kN_lims fun lA => ?_
  refine ST.fact (i := 1) rfl kN_lims fun lB => ?_
  refine CW.seq ?_
  refine CW.region ?_
  refine WP.s .n (O.asg rfl) ?_
  refine WP.nil ?_
  refine QE.next ?_
  refine CW.seq ?_
  refine CW.seq ?_
  refine CW.region ?_
  refine WP.s .n (O.mv rfl) ?_
  refine WP.s .n (O.lenS rfl Try.underlying29) ?_
  refine WP.s .n (O.mv rfl) ?_
  refine WP.s .n (O.lenS rfl Try.underlying29) ?_
  refine WP.s .n (O.fn fn199 (evs.c rfl (evs.c rfl evs.nil)) (c_ref01_most (a.length : Int) (b.length : Int))) ?_
  refine WP.s .n (O.sub rfl rfl (c := ((max (a.length : Int) (b.length : Int)) - 1)) (w64 (by omega))) ?_
  refine WP.s .n (O.asg rfl) ?_
  refine WP.nil ?_
  refine QE.next ?_
  refine CW.block ?_
  refine CW.loop (fun (i : Nat) => i ≤ max a.length b.length ∧ nval (a.drop i) = nval (b.drop i)) (fun (i : Nat) => [(0, kN.is a), (1, kN.is b), (5, (kInt .i64).is ((i : Int) - 1))]) (fun (i : Nat) => []) (fun (i : Nat) => i) (max a.length b.length) ⟨Nat.le_refl _, drop_max rfl⟩ (Imp.cons rfl (Imp.cons rfl (Imp.consLe rfl (is_eq (y := (((max a.length b.length) : Nat) : Int) - 1) (by omega)) Imp.nil))) (OImp.refl _) ?_
  intro i ⟨hi, hd⟩
  refine CW.seq ?_
  refine CW.seq ?_
  refine CW.region ?_
  refine WP.s .n (O.mv rfl) ?_
  refine WP.s .n (O.ge rfl rfl) ?_
  refine WP.nil ?_
  refine QE.next ?_
  refine CW.condD rfl (fun h_t15 => ?_) (fun h_t15 => ?_)
  · refine CW.skip ?_
    refine QE.next ?_
    refine CW.seq ?_
    refine CW.block ?_
    refine CW.seq ?_
    refine CW.region ?_
    refine WP.s .n (O.mv rfl) ?_
    refine WP.s .n (O.mv rfl) ?_
    refine WP.s .n (O.fn fn200 (evs.c rfl (evs.l rfl (is_eq (y := (((i - 1) : Nat) : Int)) (by omega)) evs.nil)) (c_ref01_limb a (i - 1))) ?_
    refine WP.s .n (O.asg rfl) ?_
    refine WP.nil ?_
    refine QE.next ?_
    refine CW.seq ?_
    refine CW.region ?_
    refine WP.s .n (O.mv rfl) ?_
    refine WP.s .n (O.mv rfl) ?_
    refine WP.s .n (O.fn fn200 (evs.c rfl (evs.l rfl (is_eq (y := (((i - 1) : Nat) : Int)) (by omega)) evs.nil)) (c_ref01_limb b (i - 1))) ?_
    refine WP.s .n (O.asg rfl) ?_
    refine WP.nil ?_
    refine QE.next ?_
    refine CW.seq ?_
    refine CW.seq ?_
    refine CW.region ?_
    refine WP.s .n (O.mv rfl) ?_
    refine WP.s .n (O.mv rfl) ?_
    refine WP.s .n (O.lt rfl rfl) ?_
    refine WP.nil ?_
    refine QE.next ?_
    refine CW.condD rfl (fun h_t26 => ?_) (fun h_t26 => ?_)
    · refine CW.seq ?_
      refine CW.region ?_
      refine WP.s .n (O.asg rfl) ?_
      refine WP.nil ?_
      refine QE.next ?_
      refine CW.ret ?_
      refine QE.thenR ?_
      refine QE.blkR ?_
      refine QE.thenR ?_
      refine QE.thenR ?_
      refine QE.blkR ?_
      refine QE.thenR ?_
      refine ST.told 4 rfl (is_eq (y := (cmpI (nval a) (nval b))) (rcmp_lt (i := i) (by omega) hd lA (by omega))) ?_
      exact QE.done (.inl rfl) rfl (ResOk.t rfl ResOk.nil) (OImp.sub (List.nil_sublist _)) ⟨rfl, rfl⟩
    · refine CW.skip ?_
      refine QE.next ?_
      refine CW.seq ?_
      refine CW.region ?_
      refine WP.s .n (O.mv rfl) ?_
      refine WP.s .n (O.mv rfl) ?_
      refine WP.s .n (O.gt rfl rfl) ?_
      refine WP.nil ?_
      refine QE.next ?_
      refine CW.condD rfl (fun h_t29 => ?_) (fun h_t29 => ?_)
      · refine CW.seq ?_
        refine CW.region ?_
        refine WP.s .n (O.asg rfl) ?_
        refine WP.nil ?_
        refine QE.next ?_
        refine CW.ret ?_
        refine QE.blkR ?_
        refine QE.thenR ?_
        refine QE.thenR ?_
        refine QE.blkR ?_
        refine QE.thenR ?_
        refine ST.told 4 rfl (is_eq (y := (cmpI (nval a) (nval b))) (rcmp_gt (i := i) (by omega) hd lB (by omega))) ?_
        exact QE.done (.inl rfl) rfl (ResOk.t rfl ResOk.nil) (OImp.sub (List.nil_sublist _)) ⟨rfl, rfl⟩
      · refine CW.skip ?_
        refine QE.blkN ?_
        refine QE.next ?_
        refine CW.region ?_
        refine WP.s .n (O.mv rfl) ?_
        refine WP.s .n (O.sub rfl rfl (c := (((i : Int) - 1) - 1)) (w64 (by omega))) ?_
        refine WP.s .n (O.asg rfl) ?_
        refine WP.nil ?_
        exact QE.round (i - 1) (by omega) ⟨by omega, rcmp_down (by omega) hd (by omega)⟩ (Imp.cons rfl (Imp.cons rfl (Imp.consLe rfl (is_eq (y := (((i - 1) : Nat) : Int) - 1) (by omega)) Imp.nil))) (OImp.refl _)
  · refine CW.exit ?_
    refine QE.thenE ?_
    refine QE.thenE ?_
    refine QE.blkH ?_
    refine QE.next ?_
    refine CW.seq ?_
    refine CW.region ?_
    refine WP.s .n (O.asg rfl) ?_
    refine WP.nil ?_
    refine QE.next ?_
    refine CW.ret ?_
    refine ST.told 4 rfl (is_eq (y := (cmpI (nval a) (nval b))) (rcmp_eq (i := i) (by omega) hd)) ?_
    exact QE.done (.inl rfl) rfl (ResOk.t rfl ResOk.nil) (OImp.sub (List.nil_sublist _)) ⟨rfl, rfl⟩

set_option maxRecDepth 20000 in
set_option maxHeartbeats 1000000 in
theorem c_ref01_Bits (l : List Nat) : Fn Try.prog 164 [kN.is l] ((kInt .i64).is (bitlen (nval l) : Int)) := by
  refine Con.enter Try.func164 rfl rfl fun m w => ?_
  refine ST.fact (i := 0) rfl sl_len fun hA => ?_
  refine ST.fact (i := 0) rfl kN_lims fun hL => ?_
  refine CW.seq ?_
  refine CW.region ?_
  refine WP.s .n (O.asg rfl) ?_
  refine WP.nil ?_
  refine QE.next ?_
  refine CW.seq ?_
  refine CW.seq ?_
  refine CW.region ?_
  refine WP.s .n (O.mv rfl) ?_
  refine WP.s .n (O.lenS rfl Try.underlying29) ?_
  refine WP.s .n (O.sub rfl rfl (c := ((l.length : Int) - 1)) (w64 (by omega))) ?_
  refine WP.s .n (O.asg rfl) ?_
  refine WP.nil ?_
  refine QE.next ?_
  refine CW.block ?_
  refine CW.loop (fun (i : Nat) => i ≤ l.length ∧ nval (l.drop i) = 0) (fun (i : Nat) => [(0, kN.is l), (3, (kInt .i64).is ((i : Int) - 1))]) (fun (i : Nat) => []) (fun (i : Nat) => i) l.length ⟨Nat.le_refl _, by rw [List.drop_length]; rfl⟩ (Imp.cons rfl (Imp.consLe rfl (is_eq (y := ((l.length : Nat) : Int) - 1) (by omega)) Imp.nil)) (OImp.refl _) ?_
  intro i ⟨hi, hd⟩
  refine CW.seq ?_
  refine CW.seq ?_
  refine CW.region ?_
  refine WP.s .n (O.mv rfl) ?_
  refine WP.s .n (O.ge rfl rfl) ?_
  refine WP.nil ?_
  refine QE.next ?_
  refine CW.condD rfl (fun h_t10 => ?_) (fun h_t10 => ?_)
  · refine CW.skip ?_
    refine QE.next ?_
    refine CW.seq ?_
    refine CW.block ?_
    refine CW.seq ?_
    have hx := getD_lt hL (i - 1)
    have hbl := @bitlen_le (l.getD (i - 1) 0) 32 hx
    refine CW.region ?_
    refine WP.s .n (O.mv rfl) ?_
    refine WP.s .n (O.mv rfl) ?_
    refine WP.s .n (O.ix (i - 1) rfl rfl Try.underlying29 ty121 (by omega) (v := (l.getD (i - 1) 0)) (gd 0 (by omega))) ?_
    refine WP.s .n (OpOk.le (O.ldP rfl ty121) (limb_le _)) ?_
    refine WP.s .n (O.ne rfl rfl) ?_
    refine WP.nil ?_
    refine QE.next ?_
    refine CW.condD rfl (fun h_t17 => ?_) (fun h_t17 => ?_)
    · refine CW.seq ?_
      refine CW.region ?_
      refine WP.s .n (O.mv rfl) ?_
      refine WP.s .n (O.mul rfl rfl (c := (32 * ((i : Int) - 1))) (w64 (by omega))) ?_
      refine WP.s .n (O.asg rfl) ?_
      refine WP.nil ?_
      refine QE.next ?_
      refine CW.seq ?_
      refine CW.seq ?_
      refine CW.region ?_
      refine WP.s .n (O.mv rfl) ?_
      refine WP.s .n (O.mv rfl) ?_
      refine WP.s .n (O.ix (i - 1) rfl rfl Try.underlying29 ty121 (by omega) (v := (l.getD (i - 1) 0)) (gd 0 (by omega))) ?_
      refine WP.s .n (OpOk.le (O.ldP rfl ty121) (limb_le _)) ?_
      refine WP.s .n (O.asg rfl) ?_
      refine WP.nil ?_
      refine QE.next ?_
      refine CW.block ?_
      refine CW.loop2 (fun (n : Nat) (w : Nat) => n + bitlen w = 32 * (i - 1) + bitlen (l.getD (i - 1) 0) ∧ w < 4294967296) (fun (n : Nat) (w : Nat) => [(4, (kInt .i64).is (n : Int)), (5, (kInt .u32).is (w : Int))]) (fun (n : Nat) (w : Nat) => []) (fun (n : Nat) (w : Nat) => w) (32 * (i - 1)) (l.getD (i - 1) 0) ⟨rfl, hx⟩ (Imp.consLe rfl (is_eq (y := (((32 * (i - 1)) : Nat) : Int)) (by omega)) (Imp.consLe rfl (is_eq (y := (((l.getD (i - 1) 0) : Nat) : Int)) (by omega)) Imp.nil)) (OImp.refl _) ?_
      intro n w ⟨hn, hw⟩
      refine CW.seq ?_
      refine CW.seq ?_
      refine CW.region ?_
      refine WP.s .n (O.mv rfl) ?_
      refine WP.s .n (O.gt rfl rfl) ?_
      refine WP.nil ?_
      refine QE.next ?_
      refine CW.condD rfl (fun h_t25 => ?_) (fun h_t25 => ?_)
      · refine CW.skip ?_
        refine QE.next ?_
        refine CW.seq ?_
        refine CW.block ?_
        refine CW.region ?_
        refine WP.s .n (O.mv rfl) ?_
        refine WP.s .n (O.add rfl rfl (c := ((n : Int) + 1)) (w64 (by omega))) ?_
        refine WP.s .n (O.asg rfl) ?_
        refine WP.nil ?_
        refine QE.blkN ?_
        refine QE.next ?_
        refine CW.region ?_
        refine WP.s .n (O.mv rfl) ?_
        refine WP.s .n (O.quo rfl rfl (by omega) (c := ((w / 2 : Nat) : Int)) (quoN32 2 rfl rfl hw)) ?_
        refine WP.s .n (O.asg rfl) ?_
        refine WP.nil ?_
        exact QE.round2 (n + 1) (w / 2) (by omega) ⟨by have := @bitlen_half w (by omega); omega, by omega⟩ (Imp.consLe rfl (is_eq (y := (((n + 1) : Nat) : Int)) (by omega)) (Imp.consLe rfl (is_eq (y := (((w / 2) : Nat) : Int)) (by omega)) Imp.nil)) (OImp.refl _)
      · refine CW.exit ?_
        refine QE.thenE ?_
        refine QE.thenE ?_
        refine QE.blkH ?_
        refine QE.next ?_
        refine CW.seq ?_
        refine CW.region ?_
        refine WP.s .n (O.mv rfl) ?_
        refine WP.s .n (O.asg rfl) ?_
        refine WP.nil ?_
        refine QE.next ?_
        refine CW.ret ?_
        refine QE.blkR ?_
        refine QE.thenR ?_
        refine QE.thenR ?_
        refine QE.blkR ?_
        refine QE.thenR ?_
        have hw0 : bitlen w = 0 := bitlen_0.2 (by omega)
        refine ST.told 2 rfl (is_eq (y := (bitlen (nval l) : Int)) (by have := rbits_end hL (i := i) (by omega) hd (by omega); omega)) ?_
        exact QE.done (.inl rfl) rfl (ResOk.t rfl ResOk.nil) (OImp.sub (List.nil_sublist _)) ⟨rfl, rfl⟩
    · refine CW.skip ?_
      refine QE.blkN ?_
      refine QE.next ?_
      refine CW.region ?_
      refine WP.s .n (O.mv rfl) ?_
      refine WP.s .n (O.sub rfl rfl (c := (((i : Int) - 1) - 1)) (w64 (by omega))) ?_
      refine WP.s .n (O.asg rfl) ?_
      refine WP.nil ?_
      exact QE.round (i - 1) (by omega) ⟨by omega, rbits_down (by omega) hd (by omega)⟩ (Imp.cons rfl (Imp.consLe rfl (is_eq (y := (((i - 1) : Nat) : Int) - 1) (by omega)) Imp.nil)) (OImp.refl _)
  · refine CW.exit ?_
    refine QE.thenE ?_
    refine QE.thenE ?_
    refine QE.blkH ?_
    refine QE.next ?_
    refine CW.seq ?_
    refine CW.region ?_
    refine WP.s .n (O.asg rfl) ?_
    refine WP.nil ?_
    refine QE.next ?_
    refine CW.ret ?_
    refine ST.told 2 rfl (is_eq (y := (bitlen (nval l) : Int)) (rbits_0 (i := i) (by omega) hd)) ?_
    exact QE.done (.inl rfl) rfl (ResOk.t rfl ResOk.nil) (OImp.sub (List.nil_sublist _)) ⟨rfl, rfl⟩

set_option maxRecDepth 20000 in
set_option maxHeartbeats 1000000 in
theorem c_ref01_Add (a b : List Nat) (hA : a.length < 1099511627776) (hB : b.length < 1099511627776) : Fn Try.prog 153 [kN.is a, kN.is b] (kN.is (limbs (nval a + nval b))) := by
  refine Con.enter Try.func153 rfl rfl fun m w => ?_
  refine ST.fact (i := 0) rfl kN_lims fun lA => ?_
  refine ST.fact (i := 1) rfl kN_lims fun lB => ?_
  refine CW.seq ?_
  refine CW.region ?_
  refine WP.s .n (O.asg rfl) ?_
  refine WP.nil ?_
  refine QE.next ?_
  refine CW.seq ?_
  refine CW.region ?_
  refine WP.s .n (O.asg rfl) ?_
  refine WP.nil ?_
  refine QE.next ?_
  refine CW.seq ?_
  refine CW.region ?_
  refine WP.s .n (O.asg rfl) ?_
  refine WP.nil ?_
  refine QE.next ?_
  refine CW.seq ?_
  refine CW.seq ?_
  refine CW.region ?_
  refine WP.s .n (O.asg rfl) ?_
  refine WP.nil ?_
  refine QE.next ?_
  refine CW.block ?_
  refine ST.nilrow 121 kLimb ?_
  refine CW.loop3 (fun (r : List Nat) (c : Nat) (v : Value) => r.length ≤ max a.length b.length ∧ AddR a b r c) (fun (r : List Nat) (c : Nat) (v : Value) => [(0, kN.is a), (1, kN.is b), (5, VP.ex v), (6, (kInt .u64).is (c : Int)), (7, (kInt .i64).is (r.length : Int))]) (fun (r : List Nat) (c : Nat) (v : Value) => [OB.row v 121 kLimb r]) (fun (r : List Nat) (c : Nat) (v : Value) => max a.length b.length - r.length) [] 0 (.slice none 0 0) ⟨Nat.zero_le _, addR_0 a b⟩ (Imp.cons rfl (Imp.cons rfl (Imp.cons rfl (Imp.consLe rfl (is_eq (y := (0 : Int)) (by first | omega | simp)) (Imp.consLe rfl (is_eq (y := ([].length : Int)) (by first | omega | simp)) Imp.nil))))) (OImp.refl _) ?_
  intro r c v ⟨hr, hS⟩
  have hc := hS.2.1
  have hx := getD_lt lA r.length
  have hy := getD_lt lB r.length
  refine CW.seq ?_
  refine CW.seq ?_
  refine CW.region ?_
  refine WP.s .n (O.mv rfl) ?_
  refine WP.s .n (O.mv rfl) ?_
  refine WP.s .n (O.lenS rfl Try.underlying29) ?_
  refine WP.s .n (O.mv rfl) ?_
  refine WP.s .n (O.lenS rfl Try.underlying29) ?_
  refine WP.s .n (O.fn fn199 (evs.c rfl (evs.c rfl evs.nil)) (c_ref01_most (a.length : Int) (b.length : Int))) ?_
  refine WP.s .n (O.lt rfl rfl) ?_
  refine WP.nil ?_
  refine QE.next ?_
  refine CW.condD rfl (fun h_t14 => ?_) (fun h_t14 => ?_)
  · refine CW.skip ?_
    refine QE.next ?_
    refine CW.seq ?_
    refine CW.block ?_
    refine CW.seq ?_
    refine CW.region ?_
    refine WP.s .n (O.mv rfl) ?_
    refine WP.s .n (O.mv rfl) ?_
    refine WP.s .n (O.mv rfl) ?_
    refine WP.s .n (O.fn fn200 (evs.c rfl (evs.l rfl (is_eq (y := ((r.length : Nat) : Int)) (by first | omega | simp)) evs.nil)) (c_ref01_limb a r.length)) ?_
    refine WP.s .n (O.add rfl rfl (c := ((c : Int) + (a.getD r.length 0 : Int))) (wu64 (by omega))) ?_
    refine WP.s .n (O.mv rfl) ?_
    refine WP.s .n (O.mv rfl) ?_
    refine WP.s .n (O.fn fn200 (evs.c rfl (evs.l rfl (is_eq (y := ((r.length : Nat) : Int)) (by first | omega | simp)) evs.nil)) (c_ref01_limb b r.length)) ?_
    refine WP.s .n (O.add rfl rfl (c := (((c : Int) + (a.getD r.length 0 : Int)) + (b.getD r.length 0 : Int))) (wu64 (by omega))) ?_
    refine WP.s .n (O.asg rfl) ?_
    refine WP.nil ?_
    refine QE.next ?_
    refine CW.seq ?_
    refine CW.region ?_
    refine WP.s .n (O.mv rfl) ?_
    refine WP.s .n (O.mv rfl) ?_
    refine WP.s .n (O.rem rfl rfl (by omega) (c := (((c + a.getD r.length 0 + b.getD r.length 0) % 4294967296 : Nat) : Int)) (tmodN 4294967296 (by omega) rfl)) ?_
    refine WP.s .n (O.cvt rfl Try.underlying173 Try.underlying121 (c := (((c + a.getD r.length 0 + b.getD r.length 0) % 4294967296 : Nat) : Int)) (wrs32 (by omega))) ?_
    refine WP.s .n (O.bs Try.underlying29 el121_limb (evl.l rfl (u32_limb (x := ((c + a.getD r.length 0 + b.getD r.length 0) % 4294967296 : Nat)) (by omega)) evl.n) rfl (by decide)) ?_
    refine WP.ap 0 .n rfl rfl rfl (VP.le_refl _) Try.underlying29 el121_limb (by simp; omega) fun v1 => ?_
    refine WP.s .n (O.asg rfl) ?_
    refine WP.nil ?_
    refine QE.next ?_
    refine CW.region ?_
    refine WP.s .n (O.mv rfl) ?_
    refine WP.s .n (O.quo rfl rfl (by omega) (c := (((c + a.getD r.length 0 + b.getD r.length 0) / 4294967296 : Nat) : Int)) (quoN 4294967296 (by omega) rfl (by omega))) ?_
    refine WP.s .n (O.asg rfl) ?_
    refine WP.nil ?_
    refine QE.blkN ?_
    refine QE.next ?_
    refine CW.region ?_
    refine WP.s .n (O.mv rfl) ?_
    refine WP.s .n (O.add rfl rfl (c := ((r.length : Int) + 1)) (w64 (by omega))) ?_
    refine WP.s .n (O.asg rfl) ?_
    refine WP.nil ?_
    exact QE.round3 (r ++ [(c + a.getD r.length 0 + b.getD r.length 0) % 4294967296]) ((c + a.getD r.length 0 + b.getD r.length 0) / 4294967296) v1 (by simp; omega) ⟨by simp; omega, addR_s lA lB hS⟩ (Imp.cons rfl (Imp.cons rfl (Imp.cons rfl (Imp.consLe rfl (is_eq (y := ((((c + a.getD r.length 0 + b.getD r.length 0) / 4294967296) : Nat) : Int)) (by first | omega | simp)) (Imp.consLe rfl (is_eq (y := ((r ++ [(c + a.getD r.length 0 + b.getD r.length 0) % 4294967296]).length : Int)) (by first | omega | simp)) Imp.nil))))) (OImp.os (OS.keepLe (OB.row_eq (by first | omega | simp)) OS.nil))
  · refine CW.exit ?_
    refine QE.thenE ?_
    refine QE.thenE ?_
    refine QE.blkH ?_
    refine QE.next ?_
    refine CW.seq ?_
    refine CW.region ?_
    refine WP.s .n (O.mv rfl) ?_
    refine WP.s .n (O.mv rfl) ?_
    refine WP.s .n (O.cvt rfl Try.underlying173 Try.underlying121 (c := (c : Int)) (wrs32 (by omega))) ?_
    refine WP.s .n (O.bs Try.underlying29 el121_limb (evl.l rfl (u32_limb (x := c) (by omega)) evl.n) rfl (by decide)) ?_
    refine WP.ap 0 .n rfl rfl rfl (VP.le_refl _) Try.underlying29 el121_limb (by simp; omega) fun v2 => ?_
    refine WP.s .n (O.asg rfl) ?_
    refine WP.nil ?_
    refine QE.next ?_
    refine CW.seq ?_
    refine CW.region ?_
    refine WP.s .n (O.mv rfl) ?_
    refine ST.freeze 0 rfl (.keep (i := 0) rfl (.keep (i := 1) rfl (.hit (i := 5) rfl (.keep (i := 6) rfl (.keep (i := 7) rfl (.keep (i := 8) rfl (.keep (i := 9) rfl (.keep (i := 10) rfl (.keep (i := 11) rfl (.keep (i := 12) rfl (.keep (i := 13) rfl (.keep (i := 14) rfl (.keep (i := 34) rfl (.keep (i := 35) rfl (.keep (i := 36) rfl (.keep (i := 37) rfl (.hit (i := 38) rfl (.hit (i := 39) rfl .nil)))))))))))))))))) ?_
    refine WP.s .n (O.fn fn158 (evs.c rfl evs.nil) (c_ref01_Norm (r ++ [c]))) ?_
    refine WP.s .n (O.asg rfl) ?_
    refine WP.nil ?_
    refine QE.next ?_
    refine CW.ret ?_
    refine ST.told 4 rfl (is_eq (y := (limbs (nval a + nval b))) (by rw [nval_concat, hS.2.2, List.take_of_length_le (by omega), List.take_of_length_le (by omega)])) ?_
    exact QE.done (.inl rfl) rfl (ResOk.t rfl ResOk.nil) (OImp.sub (List.nil_sublist _)) ⟨rfl, rfl⟩

set_option maxRecDepth 20000 in
set_option maxHeartbeats 1000000 in
theorem c_ref01_less (x y : List Nat) (hle : nval y ≤ nval x) : Fn Try.prog 201 [kN.is x, kN.is y] (kN.is (limbs (nval x - nval y))) := by
  refine Con.enter Try.func201 rfl rfl fun m w => ?_
  refine ST.fact (i := 0) rfl kN_lims fun l1 => ?_
  refine ST.fact (i := 1) rfl kN_lims fun l2 => ?_
  refine ST.fact (i := 0) rfl sl_len fun hB => ?_
  refine CW.seq ?_
  refine CW.region ?_
  refine WP.s .n (O.asg rfl) ?_
  refine WP.nil ?_
  refine QE.next ?_
  refine CW.seq ?_
  refine CW.region ?_
  refine WP.s .n (O.asg rfl) ?_
  refine WP.nil ?_
  refine QE.next ?_
  refine CW.seq ?_
  refine CW.region ?_
  refine WP.s .n (O.asg rfl) ?_
  refine WP.nil ?_
  refine QE.next ?_
  refine CW.seq ?_
  refine CW.seq ?_
  refine CW.region ?_
  refine WP.s .n (O.asg rfl) ?_
  refine WP.nil ?_
  refine QE.next ?_
  refine CW.block ?_
  refine ST.nilrow 121 kLimb ?_
  refine CW.loop3 (fun (r : List Nat) (c : Nat) (v : Value) => r.length ≤ x.length ∧ LessR x y r c) (fun (r : List Nat) (c : Nat) (v : Value) => [(0, kN.is x), (1, kN.is y), (5, VP.ex v), (6, (kInt .u64).is (c : Int)), (7, (kInt .i64).is (r.length : Int))]) (fun (r : List Nat) (c : Nat) (v : Value) => [OB.row v 121 kLimb r]) (fun (r : List Nat) (c : Nat) (v : Value) => x.length - r.length) [] 0 (.slice none 0 0) ⟨Nat.zero_le _, lessR_0 x y⟩ (Imp.cons rfl (Imp.cons rfl (Imp.cons rfl (Imp.consLe rfl (is_eq (y := (0 : Int)) (by first | omega | simp)) (Imp.consLe rfl (is_eq (y := ([].length : Int)) (by first | omega | simp)) Imp.nil))))) (OImp.refl _) ?_
  intro r c v ⟨hr, hS⟩
  have hc := hS.2.1
  have hx := getD_lt l1 r.length
  have hy := getD_lt l2 r.length
  refine CW.seq ?_
  refine CW.seq ?_
  refine CW.region ?_
  refine WP.s .n (O.mv rfl) ?_
  refine WP.s .n (O.mv rfl) ?_
  refine WP.s .n (O.lenS rfl Try.underlying29) ?_
  refine WP.s .n (O.lt rfl rfl) ?_
  refine WP.nil ?_
  refine QE.next ?_
  refine CW.condD rfl (fun h_t13 => ?_) (fun h_t13 => ?_)
  · refine CW.skip ?_
    refine QE.next ?_
    refine CW.seq ?_
    refine CW.block ?_
    refine CW.seq ?_
    refine CW.region ?_
    refine WP.s .n (O.mv rfl) ?_
    refine WP.s .n (O.mv rfl) ?_
    refine WP.s .n (O.fn fn200 (evs.c rfl (evs.l rfl (is_eq (y := ((r.length : Nat) : Int)) (by first | omega | simp)) evs.nil)) (c_ref01_limb x r.length)) ?_
    refine WP.s .n (O.asg rfl) ?_
    refine WP.nil ?_
    refine QE.next ?_
    refine CW.seq ?_
    refine CW.region ?_
    refine WP.s .n (O.mv rfl) ?_
    refine WP.s .n (O.mv rfl) ?_
    refine WP.s .n (O.fn fn200 (evs.c rfl (evs.l rfl (is_eq (y := ((r.length : Nat) : Int)) (by first | omega | simp)) evs.nil)) (c_ref01_limb y r.length)) ?_
    refine WP.s .n (O.mv rfl) ?_
    refine WP.s .n (O.add rfl rfl (c := ((y.getD r.length 0 : Int) + (c : Int))) (wu64 (by omega))) ?_
    refine WP.s .n (O.asg rfl) ?_
    refine WP.nil ?_
    refine QE.next ?_
    refine CW.seq ?_
    refine CW.region ?_
    refine WP.s .n (O.asg rfl) ?_
    refine WP.nil ?_
    refine QE.next ?_
    refine CW.seq ?_
    refine CW.seq ?_
    refine CW.region ?_
    refine WP.s .n (O.mv rfl) ?_
    refine WP.s .n (O.mv rfl) ?_
    refine WP.s .n (O.lt rfl rfl) ?_
    refine WP.nil ?_
    refine QE.next ?_
    refine CW.condD rfl (fun h_t26 => ?_) (fun h_t26 => ?_)
    · refine CW.seq ?_
      refine CW.region ?_
      refine WP.s .n (O.mv rfl) ?_
      refine WP.s .n (O.add rfl rfl (c := ((x.getD r.length 0 : Int) + 4294967296)) (wu64 (by omega))) ?_
      refine WP.s .n (O.asg rfl) ?_
      refine WP.nil ?_
      refine QE.next ?_
      refine CW.region ?_
      refine WP.s .n (O.asg rfl) ?_
      refine WP.nil ?_
      refine QE.next ?_
      refine CW.region ?_
      refine WP.s .n (O.mv rfl) ?_
      refine WP.s .n (O.mv rfl) ?_
      refine WP.s .n (O.mv rfl) ?_
      refine WP.s .n (O.sub rfl rfl (c := (((x.getD r.length 0 : Int) + 4294967296) - ((y.getD r.length 0 : Int) + (c : Int)))) (wu64 (by omega))) ?_
      refine WP.s .n (O.cvt rfl Try.underlying173 Try.underlying121 (c := ((x.getD r.length 0 + 4294967296 - (c + y.getD r.length 0) : Nat) : Int)) (wrs32 (by omega))) ?_
      refine WP.s .n (O.bs Try.underlying29 el121_limb (evl.l rfl (u32_limb (x := (x.getD r.length 0 + 4294967296 - (c + y.getD r.length 0) : Nat)) (by omega)) evl.n) rfl (by decide)) ?_
      refine WP.ap 0 .n rfl rfl rfl (VP.le_refl _) Try.underlying29 el121_limb (by simp; omega) fun v1 => ?_
      refine WP.s .n (O.asg rfl) ?_
      refine WP.nil ?_
      refine QE.blkN ?_
      refine QE.next ?_
      refine CW.region ?_
      refine WP.s .n (O.mv rfl) ?_
      refine WP.s .n (O.add rfl rfl (c := ((r.length : Int) + 1)) (w64 (by omega))) ?_
      refine WP.s .n (O.asg rfl) ?_
      refine WP.nil ?_
      exact QE.round3 (r ++ [x.getD r.length 0 + 4294967296 - (c + y.getD r.length 0)]) 1 v1 (by simp; omega) ⟨by simp; omega, lessR_g hS (by omega) (by omega) (by omega)⟩ (Imp.cons rfl (Imp.cons rfl (Imp.cons rfl (Imp.consLe rfl (is_eq (y := (1 : Int)) (by first | omega | simp)) (Imp.consLe rfl (is_eq (y := ((r ++ [x.getD r.length 0 + 4294967296 - (c + y.getD r.length 0)]).length : Int)) (by first | omega | simp)) Imp.nil))))) (OImp.os (OS.keepLe (OB.row_eq (by first | omega | simp)) OS.nil))
    · refine CW.skip ?_
      refine QE.next ?_
      refine CW.region ?_
      refine WP.s .n (O.mv rfl) ?_
      refine WP.s .n (O.mv rfl) ?_
      refine WP.s .n (O.mv rfl) ?_
      refine WP.s .n (O.sub rfl rfl (c := ((x.getD r.length 0 : Int) - ((y.getD r.length 0 : Int) + (c : Int)))) (wu64 (by omega))) ?_
      refine WP.s .n (O.cvt rfl Try.underlying173 Try.underlying121 (c := ((x.getD r.length 0 - (c + y.getD r.length 0) : Nat) : Int)) (wrs32 (by omega))) ?_
      refine WP.s .n (O.bs Try.underlying29 el121_limb (evl.l rfl (u32_limb (x := (x.getD r.length 0 - (c + y.getD r.length 0) : Nat)) (by omega)) evl.n) rfl (by decide)) ?_
      refine WP.ap 0 .n rfl rfl rfl (VP.le_refl _) Try.underlying29 el121_limb (by simp; omega) fun v2 => ?_
      refine WP.s .n (O.asg rfl) ?_
      refine WP.nil ?_
      refine QE.blkN ?_
      refine QE.next ?_
      refine CW.region ?_
      refine WP.s .n (O.mv rfl) ?_
      refine WP.s .n (O.add rfl rfl (c := ((r.length : Int) + 1)) (w64 (by omega))) ?_
      refine WP.s .n (O.asg rfl) ?_
      refine WP.nil ?_
      exact QE.round3 (r ++ [x.getD r.length 0 - (c + y.getD r.length 0)]) 0 v2 (by simp; omega) ⟨by simp; omega, lessR_g hS (by omega) (by omega) (by omega)⟩ (Imp.cons rfl (Imp.cons rfl (Imp.cons rfl (Imp.consLe rfl (is_eq (y := (0 : Int)) (by first | omega | simp)) (Imp.consLe rfl (is_eq (y := ((r ++ [x.getD r.length 0 - (c + y.getD r.length 0)]).length : Int)) (by first | omega | simp)) Imp.nil))))) (OImp.os (OS.keepLe (OB.row_eq (by first | omega | simp)) OS.nil))
  · refine CW.exit ?_
    refine QE.thenE ?_
    refine QE.thenE ?_
    refine QE.blkH ?_
    refine QE.next ?_
    refine CW.seq ?_
    refine CW.region ?_
    refine WP.s .n (O.mv rfl) ?_
    refine ST.freeze 0 rfl (.keep (i := 0) rfl (.keep (i := 1) rfl (.hit (i := 5) rfl (.keep (i := 6) rfl (.keep (i := 7) rfl (.keep (i := 10) rfl (.keep (i := 11) rfl (.keep (i := 12) rfl (.keep (i := 13) rfl (.hit (i := 36) rfl .nil)))))))))) ?_
    refine WP.s .n (O.fn fn158 (evs.c rfl evs.nil) (c_ref01_Norm r)) ?_
    refine WP.s .n (O.asg rfl) ?_
    refine WP.nil ?_
    refine QE.next ?_
    refine CW.ret ?_
    have hrx : r.length = x.length := by omega
    refine ST.told 4 rfl (is_eq (y := (limbs (nval x - nval y))) (by rw [lessR_end' hS hrx l1 l2 hle])) ?_
    exact QE.done (.inl rfl) rfl (ResOk.t rfl ResOk.nil) (OImp.sub (List.nil_sublist _)) ⟨rfl, rfl⟩

set_option maxRecDepth 20000 in
set_option maxHeartbeats 1000000 in
theorem c_ref01_Sub (a b : List Nat) : Fn Try.prog 155 [kN.is a, kN.is b] (VP.tup [kN.is (if nval a < nval b then [] else limbs (nval a - nval b)), (kInt .i64).is (if nval a < nval b then 10 else 0)]) := by
  refine Con.enter Try.func155 rfl rfl fun m w => ?_
  refine CW.seq ?_
  refine CW.region ?_
  refine WP.s .n (O.asg rfl) ?_
  refine WP.s .n (O.asg rfl) ?_
  refine WP.nil ?_
  refine QE.next ?_
  refine CW.seq ?_
  refine CW.seq ?_
  refine CW.region ?_
  refine WP.s .n (O.mv rfl) ?_
  refine WP.s .n (O.mv rfl) ?_
  refine WP.s .n (O.fn fn154 (evs.c rfl (evs.c rfl evs.nil)) (c_ref01_Cmp a b)) ?_
  refine WP.s .n (O.lt rfl rfl) ?_
  refine WP.nil ?_
  refine QE.next ?_
  refine CW.condD rfl (fun h_t9 => ?_) (fun h_t9 => ?_)
  · refine CW.seq ?_
    refine CW.region ?_
    refine WP.s .n (O.asg rfl) ?_
    refine WP.s .n (O.asg rfl) ?_
    refine WP.nil ?_
    refine QE.next ?_
    refine CW.ret ?_
    refine QE.thenR ?_
    refine ST.told (q := kN.is ([] : List Nat)) 4 rfl (nil_le _) ?_
    refine ST.told 4 rfl (is_eq (y := (if nval a < nval b then [] else limbs (nval a - nval b))) (by rw [if_pos (cmpI_lt h_t9)])) ?_
    refine ST.told 5 rfl (is_eq (y := (if nval a < nval b then 10 else 0)) (by rw [if_pos (cmpI_lt h_t9)])) ?_
    exact QE.done (.inl rfl) rfl (ResOk.t rfl (ResOk.t rfl ResOk.nil)) (OImp.sub (List.nil_sublist _)) ⟨rfl, rfl⟩
  · refine CW.skip ?_
    refine QE.next ?_
    refine CW.seq ?_
    refine CW.region ?_
    refine WP.s .n (O.mv rfl) ?_
    refine WP.s .n (O.mv rfl) ?_
    refine WP.s .n (O.fn fn201 (evs.c rfl (evs.c rfl evs.nil)) (c_ref01_less a b (cmpI_ge h_t9))) ?_
    refine WP.s .n (O.asg rfl) ?_
    refine WP.s .n (O.asg rfl) ?_
    refine WP.nil ?_
    refine QE.next ?_
    refine CW.ret ?_
    refine ST.told 4 rfl (is_eq (y := (if nval a < nval b then [] else limbs (nval a - nval b))) (by rw [if_neg (Nat.not_lt.2 (cmpI_ge h_t9))])) ?_
    refine ST.told 5 rfl (is_eq (y := (if nval a < nval b then 10 else 0)) (by rw [if_neg (Nat.not_lt.2 (cmpI_ge h_t9))])) ?_
    exact QE.done (.inl rfl) rfl (ResOk.t rfl (ResOk.t rfl ResOk.nil)) (OImp.sub (List.nil_sublist _)) ⟨rfl, rfl⟩

set_option maxRecDepth 20000 in
set_option maxHeartbeats 1000000 in
theorem c_ref02_made (b : Bool) (l : List Nat) : Fn Try.prog 152 [kBool.is b, kN.is l] (kC.is (ival (b, l))) := by
  refine Con.enter Try.func152 rfl rfl fun m w => ?_
  refine CW.seq ?_
  refine CW.region ?_
  refine WP.al .n z31_C fun b1 => ?_
  refine WP.nil ?_
  refine QE.next ?_
  refine CW.seq ?_
  refine CW.region ?_
  refine WP.s .n (O.mv rfl) ?_
  refine WP.s .n (O.fn fn158 (evs.c rfl evs.nil) (c_ref01_Norm l)) ?_
  refine WP.s .n (O.asg rfl) ?_
  refine WP.nil ?_
  refine QE.next ?_
  refine CW.seq ?_
  refine CW.region ?_
  refine WP.s .n (O.mv rfl) ?_
  refine WP.s .n (O.mv rfl) ?_
  refine WP.split 9 rfl (fun h_t9 => ?_) (fun h_t9 => ?_)
  · refine WP.s (.g rfl rfl) (O.mv rfl) ?_
    refine WP.s (.g rfl rfl) (O.lenS rfl Try.underlying29) ?_
    refine WP.s (.g rfl rfl) (O.gt rfl rfl) ?_
    refine WP.s .n (O.pickT rfl rfl) ?_
    refine WP.s .n (O.mv rfl) ?_
    refine WP.s .n (O.bld lit31_I rfl (evp.c rfl (evp.c rfl evp.n)) (.cons rfl (Lens.fst (Lens.id _)) (.cons rfl (Lens.snd (Lens.id _)) (.nil _)))) ?_
    refine WP.t .n (O.stW (l := kI) (u := (decide (0 < ((limbs (nval l)).length : Int)), limbs (nval l))) 0 rfl rfl rfl ty31 rfl (VP.le_refl _)) ?_
    refine WP.nil ?_
    refine QE.next ?_
    refine CW.ret ?_
    refine ST.obtold (b' := OB.box b1 31 kC (ival (b, l))) 0 rfl (OB.I_C (by have := @canon_of' b l; simp_all)) ?_
    exact QE.done (.inl rfl) rfl (ResOk.c rfl (mem_at 0 rfl) ty31 ResOk.nil) (OImp.sub (List.nil_sublist _)) ⟨rfl, rfl⟩
  · refine WP.k (b := false) rfl rfl ?_
    refine WP.k (b := false) rfl rfl ?_
    refine WP.k (b := false) rfl rfl ?_
    refine WP.s .n (O.pickF rfl rfl) ?_
    refine WP.s .n (O.mv rfl) ?_
    refine WP.s .n (O.bld lit31_I rfl (evp.c rfl (evp.c rfl evp.n)) (.cons rfl (Lens.fst (Lens.id _)) (.cons rfl (Lens.snd (Lens.id _)) (.nil _)))) ?_
    refine WP.t .n (O.stW (l := kI) (u := (false, limbs (nval l))) 0 rfl rfl rfl ty31 rfl (VP.le_refl _)) ?_
    refine WP.nil ?_
    refine QE.next ?_
    refine CW.ret ?_
    refine ST.obtold (b' := OB.box b1 31 kC (ival (b, l))) 0 rfl (OB.I_C (by have := @canon_of' b l; simp_all)) ?_
    exact QE.done (.inl rfl) rfl (ResOk.c rfl (mem_at 0 rfl) ty31 ResOk.nil) (OImp.sub (List.nil_sublist _)) ⟨rfl, rfl⟩

set_option maxRecDepth 20000 in
set_option maxHeartbeats 1000000 in
theorem c_ref02_Of (n : Int) : Fn Try.prog 78 [kI64.is n] (kC.is n) := by
  refine Con.enter Try.func78 rfl rfl fun m w => ?_
  refine ST.fact (i := 0) rfl int_rng fun hn => ?_
  refine ST.told (q := (kInt .i64).is n) 0 rfl (i64_le _) ?_
  refine CW.seq ?_
  refine CW.region ?_
  refine WP.al .n z31_C fun b1 => ?_
  refine WP.nil ?_
  refine QE.next ?_
  refine CW.seq ?_
  refine CW.region ?_
  refine WP.s .n (O.mv rfl) ?_
  refine WP.s .n (O.cvt rfl Try.underlying2 Try.underlying173 rfl) ?_
  refine WP.s .n (O.asg rfl) ?_
  refine WP.nil ?_
  refine QE.next ?_
  refine CW.seq ?_
  refine CW.seq ?_
  refine CW.region ?_
  refine WP.s .n (O.mv rfl) ?_
  refine WP.s .n (O.lt rfl rfl) ?_
  refine WP.nil ?_
  refine QE.next ?_
  refine CW.condD rfl (fun h_t7 => ?_) (fun h_t7 => ?_)
  · refine CW.region ?_
    refine WP.s .n (O.mv rfl) ?_
    refine WP.s .n (O.neg rfl (c := ((n.natAbs : Nat) : Int)) (of_neg h_t7 hn.1)) ?_
    refine WP.s .n (O.asg rfl) ?_
    refine WP.nil ?_
    refine QE.next ?_
    refine CW.seq ?_
    refine CW.region ?_
    refine WP.s .n (O.mv rfl) ?_
    refine WP.s .n (O.lt rfl rfl) ?_
    refine WP.s .n (O.mv rfl) ?_
    refine WP.s .n (O.cvt rfl Try.underlying173 Try.underlying121 (c := ((n.natAbs % 4294967296 : Nat) : Int)) (wr32 rfl)) ?_
    refine WP.s .n (O.mv rfl) ?_
    refine WP.s .n (O.shr rfl rfl (by omega) (c := ((n.natAbs / 2 ^ 32 : Nat) : Int)) (shrN 32 rfl rfl (by decide))) ?_
    refine WP.s .n (O.cvt rfl Try.underlying173 Try.underlying121 (c := ((n.natAbs / 2 ^ 32 : Nat) : Int)) (wrs32 (by omega))) ?_
    refine WP.s .n (O.bs Try.underlying29 el121_limb (evl.l rfl (u32_limb (x := (n.natAbs % 4294967296 : Nat)) (by omega)) (evl.l rfl (u32_limb (x := (n.natAbs / 2 ^ 32 : Nat)) (by omega)) evl.n)) rfl (by decide)) ?_
    refine WP.s .n (O.fn fn152 (evs.c rfl (evs.c rfl evs.nil)) (c_ref02_made (decide (n < 0)) [(n.natAbs % 4294967296 : Nat), (n.natAbs / 2 ^ 32 : Nat)])) ?_
    refine WP.t .n (O.stW (l := kC) (u := ival ((decide (n < 0)), [(n.natAbs % 4294967296 : Nat), (n.natAbs / 2 ^ 32 : Nat)])) 0 rfl rfl rfl ty31 rfl (VP.le_refl _)) ?_
    refine WP.nil ?_
    refine QE.next ?_
    refine CW.ret ?_
    refine ST.obtold 0 rfl (OB.box_eq (y := n) of_val) ?_
    exact QE.done (.inl rfl) rfl (ResOk.c rfl (mem_at 0 rfl) ty31 ResOk.nil) (OImp.sub (List.nil_sublist _)) ⟨rfl, rfl⟩
  · refine ST.told 3 rfl (is_eq (y := ((n.natAbs : Nat) : Int)) (of_pos h_t7 hn.2)) ?_
    refine CW.skip ?_
    refine QE.next ?_
    refine CW.seq ?_
    refine CW.region ?_
    refine WP.s .n (O.mv rfl) ?_
    refine WP.s .n (O.lt rfl rfl) ?_
    refine WP.s .n (O.mv rfl) ?_
    refine WP.s .n (O.cvt rfl Try.underlying173 Try.underlying121 (c := ((n.natAbs % 4294967296 : Nat) : Int)) (wr32 rfl)) ?_
    refine WP.s .n (O.mv rfl) ?_
    refine WP.s .n (O.shr rfl rfl (by omega) (c := ((n.natAbs / 2 ^ 32 : Nat) : Int)) (shrN 32 rfl rfl (by decide))) ?_
    refine WP.s .n (O.cvt rfl Try.underlying173 Try.underlying121 (c := ((n.natAbs / 2 ^ 32 : Nat) : Int)) (wrs32 (by omega))) ?_
    refine WP.s .n (O.bs Try.underlying29 el121_limb (evl.l rfl (u32_limb (x := (n.natAbs % 4294967296 : Nat)) (by omega)) (evl.l rfl (u32_limb (x := (n.natAbs / 2 ^ 32 : Nat)) (by omega)) evl.n)) rfl (by decide)) ?_
    refine WP.s .n (O.fn fn152 (evs.c rfl (evs.c rfl evs.nil)) (c_ref02_made (decide (n < 0)) [(n.natAbs % 4294967296 : Nat), (n.natAbs / 2 ^ 32 : Nat)])) ?_
    refine WP.t .n (O.stW (l := kC) (u := ival ((decide (n < 0)), [(n.natAbs % 4294967296 : Nat), (n.natAbs / 2 ^ 32 : Nat)])) 0 rfl rfl rfl ty31 rfl (VP.le_refl _)) ?_
    refine WP.nil ?_
    refine QE.next ?_
    refine CW.ret ?_
    refine ST.obtold 0 rfl (OB.box_eq (y := n) of_val) ?_
    exact QE.done (.inl rfl) rfl (ResOk.c rfl (mem_at 0 rfl) ty31 ResOk.nil) (OImp.sub (List.nil_sublist _)) ⟨rfl, rfl⟩

set_option maxRecDepth 20000 in
set_option maxHeartbeats 1000000 in
theorem c_ref02_Sign (z : Int) : Fn Try.prog 83 [kZ.is z] ((kInt .i64).is z.sign) := by
  refine Con.enter Try.func83 rfl rfl fun m w => ?_
  refine ST.z 0 rfl fun y y_v y_n y_l => ?_
  refine CW.seq ?_
  refine CW.region ?_
  refine WP.bx .n rfl fun b1 => ?_
  refine WP.s .n (O.asg rfl) ?_
  refine WP.nil ?_
  refine QE.next ?_
  refine CW.seq ?_
  refine CW.region ?_
  refine WP.s .n (O.fa rfl fld31_1 rfl) ?_
  refine WP.s .n (O.ld rfl (mem_at 0 rfl) (Lens.snd (Lens.id _)) ty29 rfl) ?_
  refine WP.s .n (O.fn fn158 (evs.c rfl evs.nil) (c_ref01_Norm y.2)) ?_
  refine WP.s .n (O.asg rfl) ?_
  refine WP.nil ?_
  refine QE.next ?_
  refine CW.seq ?_
  refine CW.block ?_
  refine CW.seq ?_
  refine CW.region ?_
  refine WP.s .n (O.mv rfl) ?_
  refine WP.s .n (O.lenS rfl Try.underlying29) ?_
  refine WP.s .n (O.eq rfl rfl) ?_
  refine WP.s .n (O.asg rfl) ?_
  refine WP.nil ?_
  refine QE.next ?_
  refine CW.condD rfl (fun h_t7 => ?_) (fun h_t7 => ?_)
  · refine CW.seq ?_
    refine CW.region ?_
    refine WP.s .n (O.asg rfl) ?_
    refine WP.nil ?_
    refine QE.next ?_
    refine CW.ret ?_
    refine QE.blkR ?_
    refine QE.thenR ?_
    refine ST.told 2 rfl (is_eq (y := z.sign) (by rw [← y_v, ival0 (limbs0 (by omega))]; rfl)) ?_
    exact QE.done (.inl rfl) rfl (ResOk.t rfl ResOk.nil) (OImp.sub (List.nil_sublist _)) ⟨rfl, rfl⟩
  · refine CW.seq ?_
    refine CW.region ?_
    refine WP.s .n (O.fa rfl fld31_0 rfl) ?_
    refine WP.s .n (O.ld rfl (mem_at 0 rfl) (Lens.fst (Lens.id _)) ty4 rfl) ?_
    refine WP.s .n (O.asg rfl) ?_
    refine WP.nil ?_
    refine QE.next ?_
    refine CW.cond rfl (fun h_t11 => ?_) (fun h_t11 => ?_)
    · refine CW.seq ?_
      refine CW.region ?_
      refine WP.s .n (O.asg rfl) ?_
      refine WP.nil ?_
      refine QE.next ?_
      refine CW.ret ?_
      refine QE.blkR ?_
      refine QE.thenR ?_
      refine ST.told 2 rfl (is_eq (y := z.sign) (by rw [← y_v]; exact rsign_neg (by omega) h_t11)) ?_
      exact QE.done (.inl rfl) rfl (ResOk.t rfl ResOk.nil) (OImp.sub (List.nil_sublist _)) ⟨rfl, rfl⟩
    · refine CW.skip ?_
      refine QE.blkN ?_
      refine QE.next ?_
      refine CW.seq ?_
      refine CW.region ?_
      refine WP.s .n (O.asg rfl) ?_
      refine WP.nil ?_
      refine QE.next ?_
      refine CW.ret ?_
      refine ST.told 2 rfl (is_eq (y := z.sign) (by rw [← y_v]; exact rsign_pos (by omega) h_t11)) ?_
      exact QE.done (.inl rfl) rfl (ResOk.t rfl ResOk.nil) (OImp.sub (List.nil_sublist _)) ⟨rfl, rfl⟩

set_option maxRecDepth 20000 in
set_option maxHeartbeats 1000000 in
theorem c_ref02_Add (x y : Int) : Fn Try.prog 79 [kZ.is x, kZ.is y] (kC.is (x + y)) := by
  refine Con.enter Try.func79 rfl rfl fun m w => ?_
  refine ST.z 0 rfl fun p p_v p_n p_l => ?_
  refine ST.z 1 rfl fun q q_v q_n q_l => ?_
  refine CW.seq ?_
  refine CW.region ?_
  refine WP.bx .n rfl fun b1 => ?_
  refine WP.bx .n rfl fun b2 => ?_
  refine WP.al .n z31_C fun b3 => ?_
  refine WP.nil ?_
  refine QE.next ?_
  refine CW.seq ?_
  refine CW.seq ?_
  refine CW.region ?_
  refine WP.s .n (O.fa rfl fld31_0 rfl) ?_
  refine WP.s .n (O.ld rfl (mem_at 2 rfl) (Lens.fst (Lens.id _)) ty4 rfl) ?_
  refine WP.s .n (O.fa rfl fld31_0 rfl) ?_
  refine WP.s .n (O.ld rfl (mem_at 1 rfl) (Lens.fst (Lens.id _)) ty4 rfl) ?_
  refine WP.s .n (O.eqB rfl rfl Try.underlying4) ?_
  refine WP.nil ?_
  refine QE.next ?_
  refine CW.condD rfl (fun h_t13 => ?_) (fun h_t13 => ?_)
  · refine CW.seq ?_
    refine CW.draw (Γ := [.fr (VP.ex (.pointer (some ⟨b1, 0, none⟩))), .fr (kBool.is p.1), .fr (VP.ex (.pointer (some ⟨b1, 1, none⟩))), .fr (kN.is p.2), .fr (VP.ex (.pointer (some ⟨b2, 1, none⟩))), .fr (kN.is q.2), .fr (kN.is (limbs (nval p.2 + nval q.2))), .fr (kC.is (ival (p.1, (limbs (nval p.2 + nval q.2)))))]) (lates := [false, false, false, false, false, false, false, false]) (by kernel_rfl) (Chk.of rfl (by kernel_rfl) rfl) (fun _ _ _ _ _ h => h) (fun q_ x_ h_ => ?_) (fun σ => ?_)
    · match q_, h_ with
      | 0, h_ => cases h_; exact Ob.f rfl .n fun N => (O.fa rfl fld31_0 rfl)
      | 1, h_ => cases h_; exact Ob.f rfl .n fun N => (O.ld rfl (mem_app N (mem_at 2 rfl)) (Lens.fst (Lens.id _)) ty4 rfl)
      | 2, h_ => cases h_; exact Ob.f rfl .n fun N => (O.fa rfl fld31_1 rfl)
      | 3, h_ => cases h_; exact Ob.f rfl .n fun N => (O.ld rfl (mem_app N (mem_at 2 rfl)) (Lens.snd (Lens.id _)) ty29 rfl)
      | 4, h_ => cases h_; exact Ob.f rfl .n fun N => (O.fa rfl fld31_1 rfl)
      | 5, h_ => cases h_; exact Ob.f rfl .n fun N => (O.ld rfl (mem_app N (mem_at 1 rfl)) (Lens.snd (Lens.id _)) ty29 rfl)
      | 6, h_ => cases h_; exact Ob.f rfl .n fun N => (O.fn fn153 (evs.c rfl (evs.c rfl evs.nil)) (c_ref01_Add p.2 q.2 (by omega) (by omega)))
      | 7, h_ => cases h_; exact Ob.f rfl .n fun N => (O.fn fn152 (evs.c rfl (evs.c rfl evs.nil)) (c_ref02_made p.1 (limbs (nval p.2 + nval q.2))))
      | n_ + 8, h_ => simp at h_
    refine WP.t .n (O.stW (l := kC) (u := ival (p.1, (limbs (nval p.2 + nval q.2)))) 0 rfl rfl rfl ty31 rfl (VP.le_refl _)) ?_
    refine WP.nil ?_
    refine QE.next ?_
    refine CW.ret ?_
    refine QE.thenR ?_
    exact QE.done (.inl rfl) rfl (ResOk.cl rfl (mem_at 0 rfl) ty31 (is_eq (y := x + y) (by first | omega | assumption | (rw [← p_v, ← q_v]; first | exact add_same h_t13 | exact radd_ge h_t13 h_t27 | exact radd_lt h_t13 h_t27))) ResOk.nil) (OImp.sub (List.nil_sublist _)) ⟨rfl, rfl⟩
  · refine CW.skip ?_
    refine QE.next ?_
    refine CW.seq ?_
    refine CW.seq ?_
    refine CW.region ?_
    refine WP.s .n (O.fa rfl fld31_1 rfl) ?_
    refine WP.s .n (O.ld rfl (mem_at 2 rfl) (Lens.snd (Lens.id _)) ty29 rfl) ?_
    refine WP.s .n (O.fa rfl fld31_1 rfl) ?_
    refine WP.s .n (O.ld rfl (mem_at 1 rfl) (Lens.snd (Lens.id _)) ty29 rfl) ?_
    refine WP.s .n (O.fn fn154 (evs.c rfl (evs.c rfl evs.nil)) (c_ref01_Cmp p.2 q.2)) ?_
    refine WP.s .n (O.ge rfl rfl) ?_
    refine WP.nil ?_
    refine QE.next ?_
    refine CW.condD rfl (fun h_t27 => ?_) (fun h_t27 => ?_)
    · refine CW.seq ?_
      refine CW.region ?_
      refine WP.s .n (O.fa rfl fld31_1 rfl) ?_
      refine WP.s .n (O.ld rfl (mem_at 2 rfl) (Lens.snd (Lens.id _)) ty29 rfl) ?_
      refine WP.s .n (O.fa rfl fld31_1 rfl) ?_
      refine WP.s .n (O.ld rfl (mem_at 1 rfl) (Lens.snd (Lens.id _)) ty29 rfl) ?_
      refine WP.s .n (O.fn fn155 (evs.c rfl (evs.c rfl evs.nil)) (c_ref01_Sub p.2 q.2)) ?_
      refine WP.s .n (O.mv rfl) ?_
      refine WP.s .n (O.ext rfl rfl) ?_
      refine WP.s .n (O.ext rfl rfl) ?_
      refine WP.s .n (O.asg rfl) ?_
      refine WP.s .n (O.asg rfl) ?_
      refine WP.nil ?_
      refine QE.next ?_
      refine CW.seq ?_
      refine CW.region ?_
      refine WP.s .n (O.fa rfl fld31_0 rfl) ?_
      refine WP.s .n (O.ld rfl (mem_at 2 rfl) (Lens.fst (Lens.id _)) ty4 rfl) ?_
      refine WP.s .n (O.mv rfl) ?_
      refine WP.s .n (O.fn fn152 (evs.c rfl (evs.c rfl evs.nil)) (c_ref02_made p.1 (if nval p.2 < nval q.2 then [] else limbs (nval p.2 - nval q.2)))) ?_
      refine WP.t .n (O.stW (l := kC) (u := ival (p.1, (if nval p.2 < nval q.2 then [] else limbs (nval p.2 - nval q.2)))) 0 rfl rfl rfl ty31 rfl (VP.le_refl _)) ?_
      refine WP.nil ?_
      refine QE.next ?_
      refine CW.ret ?_
      refine QE.thenR ?_
      exact QE.done (.inl rfl) rfl (ResOk.cl rfl (mem_at 0 rfl) ty31 (is_eq (y := x + y) (by first | omega | assumption | (rw [← p_v, ← q_v]; first | exact add_same h_t13 | exact radd_ge h_t13 h_t27 | exact radd_lt h_t13 h_t27))) ResOk.nil) (OImp.sub (List.nil_sublist _)) ⟨rfl, rfl⟩
    · refine CW.skip ?_
      refine QE.next ?_
      refine CW.seq ?_
      refine CW.region ?_
      refine WP.s .n (O.fa rfl fld31_1 rfl) ?_
      refine WP.s .n (O.ld rfl (mem_at 1 rfl) (Lens.snd (Lens.id _)) ty29 rfl) ?_
      refine WP.s .n (O.fa rfl fld31_1 rfl) ?_
      refine WP.s .n (O.ld rfl (mem_at 2 rfl) (Lens.snd (Lens.id _)) ty29 rfl) ?_
      refine WP.s .n (O.fn fn155 (evs.c rfl (evs.c rfl evs.nil)) (c_ref01_Sub q.2 p.2)) ?_
      refine WP.s .n (O.mv rfl) ?_
      refine WP.s .n (O.ext rfl rfl) ?_
      refine WP.s .n (O.ext rfl rfl) ?_
      refine WP.s .n (O.asg rfl) ?_
      refine WP.s .n (O.asg rfl) ?_
      refine WP.nil ?_
      refine QE.next ?_
      refine CW.seq ?_
      refine CW.region ?_
      refine WP.s .n (O.fa rfl fld31_0 rfl) ?_
      refine WP.s .n (O.ld rfl (mem_at 1 rfl) (Lens.fst (Lens.id _)) ty4 rfl) ?_
      refine WP.s .n (O.mv rfl) ?_
      refine WP.s .n (O.fn fn152 (evs.c rfl (evs.c rfl evs.nil)) (c_ref02_made q.1 (if nval q.2 < nval p.2 then [] else limbs (nval q.2 - nval p.2)))) ?_
      refine WP.t .n (O.stW (l := kC) (u := ival (q.1, (if nval q.2 < nval p.2 then [] else limbs (nval q.2 - nval p.2)))) 0 rfl rfl rfl ty31 rfl (VP.le_refl _)) ?_
      refine WP.nil ?_
      refine QE.next ?_
      refine CW.ret ?_
      exact QE.done (.inl rfl) rfl (ResOk.cl rfl (mem_at 0 rfl) ty31 (is_eq (y := x + y) (by first | omega | assumption | (rw [← p_v, ← q_v]; first | exact add_same h_t13 | exact radd_ge h_t13 h_t27 | exact radd_lt h_t13 h_t27))) ResOk.nil) (OImp.sub (List.nil_sublist _)) ⟨rfl, rfl⟩

end Fw


/- What the helpers of the statements on layer 24 answer. -/
set_option linter.unusedVariables false
set_option linter.unusedSimpArgs false
set_option exponentiation.threshold 70
namespace Fw
open Go Go.Proofs

end Fw


/- Plain facts on weights and blocks. -/
set_option linter.unusedVariables false
set_option linter.unusedSimpArgs false
set_option exponentiation.threshold 600
namespace Fw

end Fw


/- Which weights may be; the sum of a block. -/
set_option linter.unusedVariables false
set_option linter.unusedSimpArgs false
set_option exponentiation.threshold 70
namespace Fw
open Go Go.Proofs

end Fw


/- Plain facts on limbs: products, quotients by one limb, shifts. -/
set_option linter.unusedVariables false
set_option linter.unusedSimpArgs false
set_option exponentiation.threshold 70
namespace Fw
open Go (IntKind)

theorem nval_set {l : List Nat} {k d : Nat} (h : k < l.length) : nval (l.set k d) + 4294967296 ^ k * l.getD k 0 = nval l + 4294967296 ^ k * d := by
  have h1 := split_at (l := l) (i := k + 1) (by omega) (by omega)
  have h2 := split_at (l := l.set k d) (i := k + 1) (by simp; omega) (by omega)
  simp only [Nat.add_sub_cancel] at h1 h2
  rw [List.take_set_of_le (by omega), List.drop_set_of_lt (by omega)] at h2
  have h3 : (l.set k d).getD k 0 = d := by
    rw [List.getD_eq_getElem?_getD, List.getElem?_set_self h]; rfl
  rw [h3] at h2
  rw [h1, h2, Nat.mul_add, Nat.mul_add]
  omega
theorem getD_set_ne' {l : List Nat} {k j d : Nat} (h : k ≠ j) : (l.set k d).getD j 0 = l.getD j 0 := by
  rw [List.getD_eq_getElem?_getD, List.getElem?_set_ne h, ← List.getD_eq_getElem?_getD]
theorem Lims.set {l : List Nat} {k d : Nat} (h : Lims l) (hd : d < 4294967296) : Lims (l.set k d) := fun x hx => by
  rcases List.mem_or_eq_of_mem_set hx with hx | rfl
  · exact h x hx
  · exact hd
theorem mul_bd {a b : Nat} (ha : a < 4294967296) (hb : b < 4294967296) : a * b ≤ 18446744065119617025 := by
  have : a * b ≤ 4294967295 * 4294967295 := Nat.mul_le_mul (by omega) (by omega)
  omega
def MulO (A B row : List Nat) (i : Nat) : Prop := Lims row ∧ row.length = A.length + B.length ∧ nval row = nval (A.take i) * nval B ∧ ∀ p, i + B.length ≤ p → row.getD p 0 = 0
def MulI (A B row : List Nat) (i j c : Nat) : Prop := Lims row ∧ row.length = A.length + B.length ∧ c < 4294967296 ∧ nval row + 4294967296 ^ (i + j) * c = nval (A.take i) * nval B + 4294967296 ^ i * (A.getD i 0 * nval (B.take j)) ∧ ∀ p, i + B.length ≤ p → row.getD p 0 = 0
theorem mulO_0 (A B : List Nat) : MulO A B (List.replicate (A.length + B.length) 0) 0 := by
  refine ⟨fun x hx => ?_, by simp, by simp [nval_replicate0, nval], fun p hp => ?_⟩
  · have := (List.mem_replicate.1 hx).2; omega
  · rw [List.getD_eq_getElem?_getD, List.getElem?_replicate]; split <;> rfl
theorem mulI_0 {A B row : List Nat} {i : Nat} (h : MulO A B row i) : MulI A B row i 0 0 := by
  obtain ⟨h1, h2, h3, h4⟩ := h
  exact ⟨h1, h2, by omega, by simp [nval, h3], h4⟩
theorem mulI_s {A B row : List Nat} {i j c : Nat} (lA : Lims A) (lB : Lims B) (hi : i < A.length) (hj : j < B.length) (h : MulI A B row i j c) : MulI A B (row.set (i + j) ((c + (A.getD i 0 * B.getD j 0 + row.getD (i + j) 0)) % 4294967296)) i (j + 1) ((c + (A.getD i 0 * B.getD j 0 + row.getD (i + j) 0)) / 2 ^ 32) := by
  obtain ⟨h1, h2, h3, h4, h5⟩ := h
  have a1 := getD_lt h1 (i + j)
  have a2 := mul_bd (getD_lt lA i) (getD_lt lB j)
  generalize hs : c + (A.getD i 0 * B.getD j 0 + row.getD (i + j) 0) = s
  have hset := nval_set (l := row) (k := i + j) (d := s % 4294967296) (by omega)
  refine ⟨h1.set (by omega), by simpa using h2, by omega, ?_, fun p hp => ?_⟩
  · rw [nval_take_succ, ← Nat.add_assoc, Nat.pow_succ, Nat.mul_assoc]
    have e1 : 4294967296 ^ (i + j) * (4294967296 * (s / 2 ^ 32)) + 4294967296 ^ (i + j) * (s % 4294967296) = 4294967296 ^ (i + j) * s := by
      rw [← Nat.mul_add]; congr 1; omega
    have e2 : 4294967296 ^ (i + j) * s = 4294967296 ^ (i + j) * c + (4294967296 ^ (i + j) * (A.getD i 0 * B.getD j 0) + 4294967296 ^ (i + j) * row.getD (i + j) 0) := by
      rw [← hs, Nat.mul_add, Nat.mul_add]
    have e3 : 4294967296 ^ i * (A.getD i 0 * (nval (B.take j) + 4294967296 ^ j * B.getD j 0)) = 4294967296 ^ i * (A.getD i 0 * nval (B.take j)) + 4294967296 ^ (i + j) * (A.getD i 0 * B.getD j 0) := by
      rw [Nat.mul_add, Nat.mul_add, Nat.pow_add]
      congr 1
      rw [Nat.mul_assoc]
      congr 1
      rw [← Nat.mul_assoc, ← Nat.mul_assoc, Nat.mul_comm (A.getD i 0)]
    rw [e3]
    omega
  · rw [getD_set_ne' (by omega)]; exact h5 p hp
theorem mulI_end {A B row : List Nat} {i c : Nat} (hi : i < A.length) (h : MulI A B row i B.length c) : MulO A B (row.set (i + B.length) c) (i + 1) := by
  obtain ⟨h1, h2, h3, h4, h5⟩ := h
  have hset := nval_set (l := row) (k := i + B.length) (d := c) (by omega)
  rw [h5 _ (Nat.le_refl _), Nat.mul_zero, Nat.add_zero, h4, List.take_length] at hset
  refine ⟨h1.set h3, by simpa using h2, ?_, fun p hp => ?_⟩
  · rw [hset, nval_take_succ, Nat.add_mul, Nat.mul_assoc]
  · rw [getD_set_ne' (by omega)]; exact h5 p (by omega)
theorem mulO_end {A B row : List Nat} {i : Nat} (hi : i = A.length) (h : MulO A B row i) : nval row = nval A * nval B := by
  obtain ⟨h1, h2, h3, h4⟩ := h
  rw [h3, hi, List.take_length]
/-! ### By one limb -/
def ShortR (l row : List Nat) (d i r : Nat) : Prop := Lims row ∧ row.length = l.length ∧ r < d ∧ nval (l.drop i) = nval (row.drop i) * d + r
theorem drop_set {l : List Nat} {i d : Nat} (h : i < l.length) : (l.set i d).drop i = d :: l.drop (i + 1) := by
  rw [List.drop_eq_getElem_cons (by simpa using h), List.getElem_set_self, List.drop_set_of_lt (by omega)]
theorem shortR_0 {l : List Nat} {d : Nat} (hd : d ≠ 0) : ShortR l (List.replicate l.length 0) d l.length 0 := by
  refine ⟨fun x hx => ?_, by simp, by omega, ?_⟩
  · have := (List.mem_replicate.1 hx).2; omega
  · rw [List.drop_length, List.drop_of_length_le (by simp)]; simp [nval]
theorem shortR_s {l row : List Nat} {d i r : Nat} (lL : Lims l) (hd : d < 4294967296) (hi : i ≤ l.length) (h0 : 0 < i) (h : ShortR l row d i r) : ShortR l (row.set (i - 1) ((r * 2 ^ 32 + l.getD (i - 1) 0) / d)) d (i - 1) ((r * 2 ^ 32 + l.getD (i - 1) 0) % d) := by
  obtain ⟨h1, h2, h3, h4⟩ := h
  have hx := getD_lt lL (i - 1)
  generalize hs : r * 2 ^ 32 + l.getD (i - 1) 0 = s
  have hq : s / d < 4294967296 := by
    rw [Nat.div_lt_iff_lt_mul (by omega)]
    have : (r + 1) * 4294967296 ≤ d * 4294967296 := Nat.mul_le_mul_right _ h3
    rw [Nat.mul_comm 4294967296 d]
    omega
  refine ⟨h1.set hq, by simpa using h2, Nat.mod_lt _ (by omega), ?_⟩
  rw [nval_drop, show i - 1 + 1 = i from by omega, h4, drop_set (by omega), nval, show i - 1 + 1 = i from by omega]
  have e1 := Nat.div_add_mod s d
  have e2 : (s / d + 4294967296 * nval (row.drop i)) * d = d * (s / d) + 4294967296 * (nval (row.drop i) * d) := by
    rw [Nat.add_mul, Nat.mul_comm (s / d), Nat.mul_assoc]
  rw [e2]
  omega
theorem short_q {r x d : Nat} (h3 : r < d) (hx : x < 4294967296) : (r * 2 ^ 32 + x) / d < 4294967296 := by
  rw [Nat.div_lt_iff_lt_mul (by omega)]
  have : (r + 1) * 4294967296 ≤ d * 4294967296 := Nat.mul_le_mul_right _ h3
  rw [Nat.mul_comm 4294967296 d]
  omega
theorem shortR_end {l row : List Nat} {d i r : Nat} (hi : i = 0) (h : ShortR l row d i r) : nval row = nval l / d ∧ r = nval l % d := by
  obtain ⟨h1, h2, h3, h4⟩ := h
  subst hi
  simp only [List.drop_zero] at h4
  rw [h4]
  constructor
  · rw [Nat.mul_comm, Nat.mul_add_div (by omega), Nat.div_eq_of_lt h3, Nat.add_zero]
  · rw [Nat.mul_comm, Nat.mul_add_mod, Nat.mod_eq_of_lt h3]
end Fw


/- Plain facts on whole numbers: more of layer 2. -/
set_option linter.unusedVariables false
set_option linter.unusedSimpArgs false
set_option exponentiation.threshold 70
namespace Fw

theorem lt_gen {n k x : Nat} (h : n ≤ k) (hx : x < 4294967296 ^ n) : x < 4294967296 ^ k := Nat.lt_of_lt_of_le hx (Nat.pow_le_pow_right (by decide) h)
theorem kZ_sm {z : Int} (m : Mem) (v : Go.Value) (h : (kZ.is z).p m v) : Sm z := by
  obtain ⟨cs, _, y, h1, rfl, h2⟩ := h
  have hl : Lims y.2 := by
    obtain ⟨a, b, _, _, _, _, _, _, _, h3⟩ := h1
    rcases h3 with h3 | ⟨_, _, _, _, _, _, _, r⟩
    · intro x hx; rw [h3] at hx; cases hx
    · exact rows_lims r
  unfold Sm
  rw [ival_abs]
  have h5 := lt_gen h2 (nval_lt hl)
  exact h5
theorem Sm_mono {x y : Int} (h : Sm x) (hl : y.natAbs ≤ x.natAbs) : Sm y := Nat.lt_of_le_of_lt hl h
theorem Sm_neg {z : Int} (h : Sm z) : Sm (-z) := Sm_mono h (Nat.le_of_eq (Int.natAbs_neg z))
theorem ival_not {y : Bool × List Nat} : ival (!y.1, y.2) = -ival y := by
  unfold ival
  cases y.1 <;> simp
theorem ival_mul {p q : Bool × List Nat} : ival (decide (p.1 ≠ q.1), limbs (nval p.2 * nval q.2)) = ival p * ival q := by
  unfold ival
  simp only [nval_limbs]
  cases hp : p.1 <;> cases hq : q.1 <;> simp [Int.neg_mul, Int.mul_neg]
theorem zcmp_lt {p q : Bool × List Nat} {x y : Int} (hp : ival p = x) (hq : ival q = y) (h : (ival p).sign < (ival q).sign) : (-1) = (x - y).sign := by
  subst hp hq
  have : ival p < ival q := by
    rcases Int.lt_trichotomy (ival p) 0 with h1 | h1 | h1 <;> rcases Int.lt_trichotomy (ival q) 0 with h2 | h2 | h2 <;>
      simp_all [Int.sign_eq_one_of_pos, Int.sign_eq_neg_one_of_neg] <;> omega
  rw [Int.sign_eq_neg_one_of_neg (by omega)]
theorem zcmp_gt {p q : Bool × List Nat} {x y : Int} (hp : ival p = x) (hq : ival q = y) (h : (ival q).sign < (ival p).sign) : 1 = (x - y).sign := by
  subst hp hq
  have : ival q < ival p := by
    rcases Int.lt_trichotomy (ival p) 0 with h1 | h1 | h1 <;> rcases Int.lt_trichotomy (ival q) 0 with h2 | h2 | h2 <;>
      simp_all [Int.sign_eq_one_of_pos, Int.sign_eq_neg_one_of_neg] <;> omega
  rw [Int.sign_eq_one_of_pos (by omega)]
theorem cmpI_sign (a b : Nat) : cmpI a b = ((a : Int) - b).sign := by
  unfold cmpI
  rcases Nat.lt_trichotomy a b with h | h | h
  · rw [if_pos h, Int.sign_eq_neg_one_of_neg (by omega)]
  · subst h; simp
  · rw [if_neg (by omega), if_pos h, Int.sign_eq_one_of_pos (by omega)]
theorem zcmp_same {p q : Bool × List Nat} {x y : Int} (hp : ival p = x) (hq : ival q = y) (h1 : ¬ (ival p).sign < (ival q).sign) (h2 : ¬ (ival q).sign < (ival p).sign) : Go.IntKind.i64.wrap ((ival p).sign * cmpI (nval p.2) (nval q.2)) = (x - y).sign := by
  subst hp hq
  have hs : (ival p).sign = (ival q).sign := by omega
  have key : (ival p).sign * cmpI (nval p.2) (nval q.2) = (ival p - ival q).sign := by
    rcases Int.lt_trichotomy (ival p) 0 with h1 | h1 | h1
    · have hq : ival q < 0 := by
        rw [Int.sign_eq_neg_one_of_neg h1] at hs
        exact Int.sign_eq_neg_one_iff_neg.1 hs.symm
      have e1 : ival p = -(nval p.2 : Int) := by
        unfold ival at h1 ⊢; split <;> simp_all <;> omega
      have e2 : ival q = -(nval q.2 : Int) := by
        unfold ival at hq ⊢; split <;> simp_all <;> omega
      rw [Int.sign_eq_neg_one_of_neg h1, cmpI_sign, e1, e2, show (-(nval p.2 : Int) - -(nval q.2 : Int)) = -((nval p.2 : Int) - (nval q.2 : Int)) by omega, Int.sign_neg]
      omega
    · have hq : ival q = 0 := by
        rw [h1] at hs
        exact Int.sign_eq_zero_iff_zero.1 hs.symm
      rw [h1, hq]; simp
    · have hq : 0 < ival q := by
        rw [Int.sign_eq_one_of_pos h1] at hs
        exact Int.sign_eq_one_iff_pos.1 hs.symm
      have e1 : ival p = (nval p.2 : Int) := by
        unfold ival at h1 ⊢; split <;> simp_all <;> omega
      have e2 : ival q = (nval q.2 : Int) := by
        unfold ival at hq ⊢; split <;> simp_all <;> omega
      rw [Int.sign_eq_one_of_pos h1, cmpI_sign, e1, e2, Int.one_mul]
  rw [key]
  rcases Int.lt_trichotomy (ival p - ival q) 0 with h | h | h
  · rw [Int.sign_eq_neg_one_of_neg h]; rfl
  · rw [h]; rfl
  · rw [Int.sign_eq_one_of_pos h]; rfl
end Fw


/- Plain facts on whole numbers: the floor of a quotient. -/
set_option linter.unusedVariables false
set_option linter.unusedSimpArgs false
set_option exponentiation.threshold 70
namespace Fw
theorem fdiv_unique {x y q r : Int} (h : x = q * y + r) (hr : (0 ≤ r ∧ r < y) ∨ (y < r ∧ r ≤ 0)) : q = x.fdiv y ∧ r = x.fmod y := by
  have key : q = x.fdiv y := by
    rcases hr with ⟨h1, h2⟩ | ⟨h1, h2⟩
    · rw [Int.fdiv_eq_ediv_of_nonneg _ (by omega), h, Int.add_comm, Int.add_mul_ediv_right _ _ (by omega), Int.ediv_eq_zero_of_lt h1 h2]; omega
    · rw [← Int.neg_fdiv_neg, Int.fdiv_eq_ediv_of_nonneg _ (by omega), h, show -(q * y + r) = -r + q * -y by rw [Int.mul_neg]; omega, Int.add_mul_ediv_right _ _ (by omega), Int.ediv_eq_zero_of_lt (by omega) (by omega)]; omega
  refine ⟨key, ?_⟩
  rw [Int.fmod_def, ← key, h, Int.mul_comm y q]; omega
theorem div_split {p q : Bool × List Nat} (hq : nval q.2 ≠ 0) : ival p = ival (decide (p.1 ≠ q.1), limbs (nval p.2 / nval q.2)) * ival q + ival (p.1, if nval q.2 = 0 then [] else limbs (nval p.2 % nval q.2)) := by
  have h := Nat.div_add_mod (nval p.2) (nval q.2)
  rw [if_neg hq]
  unfold ival
  simp only [nval_limbs]
  have h' : (nval p.2 : Int) = (nval q.2 : Int) * ((nval p.2 / nval q.2 : Nat) : Int) + ((nval p.2 % nval q.2 : Nat) : Int) := by
    rw [← Int.natCast_mul, ← Int.natCast_add, h]
  rw [Int.mul_comm] at h'
  generalize ((nval p.2 / nval q.2 : Nat) : Int) = d at *
  generalize ((nval p.2 % nval q.2 : Nat) : Int) = r at *
  rw [h']
  cases hp : p.1 <;> cases hq : q.1 <;> simp [Int.neg_mul, Int.mul_neg] <;> omega
theorem rem_lt {p q : Bool × List Nat} (hq : nval q.2 ≠ 0) : (ival (p.1, if nval q.2 = 0 then [] else limbs (nval p.2 % nval q.2))).natAbs < (ival q).natAbs := by
  rw [ival_abs, ival_abs, if_neg hq, nval_limbs]
  exact Nat.mod_lt _ (by omega)
theorem floor_0 {x y M R : Int} (h : x = M * y + R) (hl : R.natAbs < y.natAbs) (h0 : ¬ R.sign ≠ 0) : M = x.fdiv y ∧ R = x.fmod y := by
  have : R = 0 := Int.sign_eq_zero_iff_zero.1 (by omega)
  exact fdiv_unique h (by omega)
theorem floor_1 {x y M R : Int} (h : x = M * y + R) (hl : R.natAbs < y.natAbs) (h0 : R.sign ≠ 0) (h1 : ¬ R.sign ≠ y.sign) : M = x.fdiv y ∧ R = x.fmod y := by
  refine fdiv_unique h ?_
  have h2 : R.sign = y.sign := by omega
  rcases Int.lt_trichotomy R 0 with h3 | h3 | h3
  · rw [Int.sign_eq_neg_one_of_neg h3] at h2
    have := Int.sign_eq_neg_one_iff_neg.1 h2.symm
    omega
  · rw [h3] at h0; simp at h0
  · rw [Int.sign_eq_one_of_pos h3] at h2
    have := Int.sign_eq_one_iff_pos.1 h2.symm
    omega
theorem floor_2 {x y M R : Int} (h : x = M * y + R) (hl : R.natAbs < y.natAbs) (h0 : R.sign ≠ 0) (h1 : R.sign ≠ y.sign) : M - 1 = x.fdiv y ∧ R + y = x.fmod y := by
  refine fdiv_unique (by rw [h, Int.sub_mul, Int.one_mul]; omega) ?_
  rcases Int.lt_trichotomy R 0 with h3 | h3 | h3
  · rw [Int.sign_eq_neg_one_of_neg h3] at h1
    have : ¬ y < 0 := fun hy => h1 (by rw [Int.sign_eq_neg_one_of_neg hy])
    omega
  · rw [h3] at h0; simp at h0
  · rw [Int.sign_eq_one_of_pos h3] at h1
    have : ¬ 0 < y := fun hy => h1 (by rw [Int.sign_eq_one_of_pos hy])
    omega
theorem Sm_le {x y : Int} (h : Sm x) (hl : y.natAbs ≤ x.natAbs) : Sm y := Nat.lt_of_le_of_lt hl h
theorem Sm_lit {n : Int} (h : n.natAbs < 2 ^ 64) : Sm n := Sm_of (n := 64) h (by decide)
end Fw


/- What more of the document's functions of layers 1 and 2 answer. -/
set_option linter.unusedVariables false
set_option linter.unusedSimpArgs false
set_option exponentiation.threshold 70
namespace Fw
open Go Go.Proofs

set_option maxRecDepth 20000 in
set_option maxHeartbeats 1000000 in
theorem c_ref01_Mul (a b : List Nat) (hAB : a.length + b.length ≤ 1099511627776) : Fn Try.prog 163 [kN.is a, kN.is b] (kN.is (limbs (nval a * nval b))) := by
  refine Con.enter Try.func163 rfl rfl fun m w => ?_
  refine ST.fact (i := 0) rfl kN_lims fun la => ?_
  refine ST.fact (i := 1) rfl kN_lims fun lb => ?_
  refine CW.seq ?_
  refine CW.region ?_
  refine WP.s .n (O.asg rfl) ?_
  refine WP.nil ?_
  refine QE.next ?_
  refine CW.seq ?_
  refine CW.region ?_
  refine WP.s .n (O.mv rfl) ?_
  refine WP.s .n (O.lenS rfl Try.underlying29) ?_
  refine WP.s .n (O.mv rfl) ?_
  refine WP.s .n (O.lenS rfl Try.underlying29) ?_
  refine WP.s .n (O.add rfl rfl (c := ((a.length : Int) + (b.length : Int))) (w64 (by omega))) ?_
  refine WP.mk ((((a.length : Int) + (b.length : Int))).toNat) .n rfl rfl (by omega) (by omega) Try.underlying29 el121_limb z121_limb fun v1 => ?_
  refine WP.s .n (O.asg rfl) ?_
  refine WP.nil ?_
  refine QE.next ?_
  refine CW.seq ?_
  refine CW.seq ?_
  refine CW.region ?_
  refine WP.s .n (O.asg rfl) ?_
  refine WP.nil ?_
  refine QE.next ?_
  refine CW.block ?_
  refine CW.loop2 (fun (row : List Nat) (i : Nat) => i ≤ a.length ∧ MulO a b row i) (fun (row : List Nat) (i : Nat) => [(0, kN.is a), (1, kN.is b), (5, VP.ex v1), (6, (kInt .i64).is (i : Int))]) (fun (row : List Nat) (i : Nat) => [OB.row v1 121 kLimb row]) (fun (row : List Nat) (i : Nat) => a.length - i) (List.replicate (a.length + b.length) 0) 0 ⟨Nat.zero_le _, mulO_0 _ _⟩ (Imp.cons rfl (Imp.cons rfl (Imp.cons rfl (Imp.consLe rfl (is_eq (y := (0 : Int)) (by first | omega | rfl)) Imp.nil)))) (OImp.os (OS.keepLe (OB.row_eq (by first | omega | rfl)) OS.nil)) ?_
  intro row i ⟨hi, hO⟩
  have hrl := hO.2.1
  refine CW.seq ?_
  refine CW.seq ?_
  refine CW.region ?_
  refine WP.s .n (O.mv rfl) ?_
  refine WP.s .n (O.mv rfl) ?_
  refine WP.s .n (O.lenS rfl Try.underlying29) ?_
  refine WP.s .n (O.lt rfl rfl) ?_
  refine WP.nil ?_
  refine QE.next ?_
  refine CW.condD rfl (fun h_t18 => ?_) (fun h_t18 => ?_)
  · refine CW.skip ?_
    refine QE.next ?_
    refine CW.seq ?_
    refine CW.block ?_
    refine CW.seq ?_
    refine CW.region ?_
    refine WP.s .n (O.asg rfl) ?_
    refine WP.nil ?_
    refine QE.next ?_
    refine CW.seq ?_
    refine CW.seq ?_
    refine CW.region ?_
    refine WP.s .n (O.asg rfl) ?_
    refine WP.nil ?_
    refine QE.next ?_
    refine CW.block ?_
    refine CW.loop3 (fun (row : List Nat) (j : Nat) (c : Nat) => j ≤ b.length ∧ MulI a b row i j c) (fun (row : List Nat) (j : Nat) (c : Nat) => [(0, kN.is a), (1, kN.is b), (5, VP.ex v1), (6, (kInt .i64).is (i : Int)), (7, (kInt .u64).is (c : Int)), (8, (kInt .i64).is (j : Int))]) (fun (row : List Nat) (j : Nat) (c : Nat) => [OB.row v1 121 kLimb row]) (fun (row : List Nat) (j : Nat) (c : Nat) => b.length - j) row 0 0 ⟨Nat.zero_le _, mulI_0 hO⟩ (Imp.cons rfl (Imp.cons rfl (Imp.cons rfl (Imp.cons rfl (Imp.consLe rfl (is_eq (y := (0 : Int)) (by first | omega | rfl)) (Imp.consLe rfl (is_eq (y := (0 : Int)) (by first | omega | rfl)) Imp.nil)))))) (OImp.refl _) ?_
    intro row j c ⟨hj, hI⟩
    have hrl := hI.2.1
    have hc := hI.2.2.1
    have hx := getD_lt la i
    have hy := getD_lt lb j
    have hz := getD_lt hI.1 (i + j)
    have hxy := mul_bd hx hy
    refine CW.seq ?_
    refine CW.seq ?_
    refine CW.region ?_
    refine WP.s .n (O.mv rfl) ?_
    refine WP.s .n (O.mv rfl) ?_
    refine WP.s .n (O.lenS rfl Try.underlying29) ?_
    refine WP.s .n (O.lt rfl rfl) ?_
    refine WP.nil ?_
    refine QE.next ?_
    refine CW.condD rfl (fun h_t24 => ?_) (fun h_t24 => ?_)
    · refine CW.skip ?_
      refine QE.next ?_
      refine CW.seq ?_
      refine CW.block ?_
      refine CW.seq ?_
      refine CW.draw (Γ := [.fr ((kInt .u64).is (c : Int)), .fr (VP.ex v1), .fr ((kInt .i64).is (i : Int)), .fr ((kInt .i64).is (j : Int)), .fr ((kInt .i64).is ((i : Int) + (j : Int))), .fr (VP.pel v1 ((i + j) * 1)), .fr ((kInt .u32).is ((row.getD (i + j) 0) : Int)), .fr ((kInt .u64).is ((row.getD (i + j) 0) : Int)), .fr ((kInt .u64).is ((c : Int) + ((row.getD (i + j) 0) : Int))), .fr (kN.is a), .fr ((kInt .i64).is (i : Int)), .fr (VP.pim kLimb (a.getD i 0)), .fr ((kInt .u32).is ((a.getD i 0) : Int)), .fr ((kInt .u64).is ((a.getD i 0) : Int)), .fr (kN.is b), .fr ((kInt .i64).is (j : Int)), .fr (VP.pim kLimb (b.getD j 0)), .fr ((kInt .u32).is ((b.getD j 0) : Int)), .fr ((kInt .u64).is ((b.getD j 0) : Int)), .fr ((kInt .u64).is ((a.getD i 0 * b.getD j 0 : Nat) : Int)), .fr ((kInt .u64).is ((c + (a.getD i 0 * b.getD j 0 + row.getD (i + j) 0) : Nat) : Int))]) (lates := [false, false, false, false, false, false, false, false, false, false, false, false, false, false, false, false, false, false, false, false, false]) (by kernel_rfl) (Chk.of rfl (by kernel_rfl) rfl) (fun _ _ _ _ _ h => h) (fun q_ x_ h_ => ?_) (fun σ => ?_)
      · match q_, h_ with
        | 0, h_ => cases h_; exact Ob.f rfl .n fun N => (O.mv rfl)
        | 1, h_ => cases h_; exact Ob.f rfl .n fun N => (O.mv rfl)
        | 2, h_ => cases h_; exact Ob.f rfl .n fun N => (O.mv rfl)
        | 3, h_ => cases h_; exact Ob.f rfl .n fun N => (O.mv rfl)
        | 4, h_ => cases h_; exact Ob.f rfl .n fun N => (O.add rfl rfl (c := ((i : Int) + (j : Int))) (w64 (by omega)))
        | 5, h_ => cases h_; exact Ob.f rfl .n fun N => (O.ixR (k := kLimb) (xs := row) (n := ((i : Int) + (j : Int))) (i + j) rfl rfl (mem_app N (mem_at 0 rfl)) Try.underlying29 ty121 (by omega) (by omega))
        | 6, h_ => cases h_; exact Ob.f rfl .n fun N => (OpOk.le (O.ldR (i + j) rfl (mem_app N (mem_at 0 rfl)) (Lens.id _) rfl (y := (row.getD (i + j) 0)) (gd 0 (by omega)) ty121 rfl) (limb_le _))
        | 7, h_ => cases h_; exact Ob.f rfl .n fun N => (O.cvt rfl Try.underlying121 Try.underlying173 (c := ((row.getD (i + j) 0) : Int)) (wu64 (by omega)))
        | 8, h_ => cases h_; exact Ob.f rfl .n fun N => (O.add rfl rfl (c := ((c : Int) + ((row.getD (i + j) 0) : Int))) (wu64 (by omega)))
        | 9, h_ => cases h_; exact Ob.f rfl .n fun N => (O.mv rfl)
        | 10, h_ => cases h_; exact Ob.f rfl .n fun N => (O.mv rfl)
        | 11, h_ => cases h_; exact Ob.f rfl .n fun N => (O.ix i rfl rfl Try.underlying29 ty121 rfl (v := (a.getD i 0)) (gd 0 (by omega)))
        | 12, h_ => cases h_; exact Ob.f rfl .n fun N => (OpOk.le (O.ldP rfl ty121) (limb_le _))
        | 13, h_ => cases h_; exact Ob.f rfl .n fun N => (O.cvt rfl Try.underlying121 Try.underlying173 (c := ((a.getD i 0) : Int)) (wu64 (by omega)))
        | 14, h_ => cases h_; exact Ob.f rfl .n fun N => (O.mv rfl)
        | 15, h_ => cases h_; exact Ob.f rfl .n fun N => (O.mv rfl)
        | 16, h_ => cases h_; exact Ob.f rfl .n fun N => (O.ix j rfl rfl Try.underlying29 ty121 rfl (v := (b.getD j 0)) (gd 0 (by omega)))
        | 17, h_ => cases h_; exact Ob.f rfl .n fun N => (OpOk.le (O.ldP rfl ty121) (limb_le _))
        | 18, h_ => cases h_; exact Ob.f rfl .n fun N => (O.cvt rfl Try.underlying121 Try.underlying173 (c := ((b.getD j 0) : Int)) (wu64 (by omega)))
        | 19, h_ => cases h_; exact Ob.f rfl .n fun N => (O.mul rfl rfl (c := ((a.getD i 0 * b.getD j 0 : Nat) : Int)) (wu64 ⟨by norm_cast, by omega, by omega⟩))
        | 20, h_ => cases h_; exact Ob.f rfl .n fun N => (O.add rfl rfl (c := ((c + (a.getD i 0 * b.getD j 0 + row.getD (i + j) 0) : Nat) : Int)) (wu64 (by omega)))
        | n_ + 21, h_ => simp at h_
      refine WP.s .n (O.asg rfl) ?_
      refine WP.nil ?_
      refine QE.next ?_
      refine CW.seq ?_
      refine CW.region ?_
      refine WP.s .n (O.mv rfl) ?_
      refine WP.s .n (O.mv rfl) ?_
      refine WP.s .n (O.mv rfl) ?_
      refine WP.s .n (O.add rfl rfl (c := ((i : Int) + (j : Int))) (w64 (by omega))) ?_
      refine WP.s .n (O.mv rfl) ?_
      refine WP.s .n (O.rem rfl rfl (by omega) (c := (((c + (a.getD i 0 * b.getD j 0 + row.getD (i + j) 0)) % 4294967296 : Nat) : Int)) (tmodN 4294967296 rfl rfl)) ?_
      refine WP.s .n (O.cvt rfl Try.underlying173 Try.underlying121 (c := (((c + (a.getD i 0 * b.getD j 0 + row.getD (i + j) 0)) % 4294967296 : Nat) : Int)) (wrs32 (by omega))) ?_
      refine WP.s .n (O.ixR (k := kLimb) (xs := row) (n := ((i : Int) + (j : Int))) (i + j) rfl rfl (mem_at 0 rfl) Try.underlying29 ty121 (by omega) (by omega)) ?_
      refine WP.t .n (O.stR 0 (i + j) rfl rfl (Lens.id _) rfl (y0 := (row.getD (i + j) 0)) (gd 0 (by omega)) ty121 rfl (u32_limb (x := ((c + (a.getD i 0 * b.getD j 0 + row.getD (i + j) 0)) % 4294967296 : Nat)) (by omega))) ?_
      refine WP.nil ?_
      refine QE.next ?_
      refine CW.region ?_
      refine WP.s .n (O.mv rfl) ?_
      refine WP.s .n (O.quo rfl rfl (by omega) (c := (((c + (a.getD i 0 * b.getD j 0 + row.getD (i + j) 0)) / 2 ^ 32 : Nat) : Int)) (quoN (2 ^ 32) rfl rfl (by omega))) ?_
      refine WP.s .n (O.asg rfl) ?_
      refine WP.nil ?_
      refine QE.blkN ?_
      refine QE.next ?_
      refine CW.region ?_
      refine WP.s .n (O.mv rfl) ?_
      refine WP.s .n (O.add rfl rfl (c := ((j : Int) + 1)) (w64 (by omega))) ?_
      refine WP.s .n (O.asg rfl) ?_
      refine WP.nil ?_
      exact QE.round3 (row.set (i + j) ((c + (a.getD i 0 * b.getD j 0 + row.getD (i + j) 0)) % 4294967296)) (j + 1) ((c + (a.getD i 0 * b.getD j 0 + row.getD (i + j) 0)) / 2 ^ 32) (by omega) ⟨by omega, mulI_s la lb (by omega) (by omega) hI⟩ (Imp.cons rfl (Imp.cons rfl (Imp.cons rfl (Imp.cons rfl (Imp.consLe rfl (is_eq (y := ((((c + (a.getD i 0 * b.getD j 0 + row.getD (i + j) 0)) / 2 ^ 32) : Nat) : Int)) (by first | omega | rfl)) (Imp.consLe rfl (is_eq (y := (((j + 1) : Nat) : Int)) (by first | omega | rfl)) Imp.nil)))))) (OImp.os (OS.keepLe (OB.row_eq (by first | omega | rfl)) OS.nil))
    · refine CW.exit ?_
      refine QE.thenE ?_
      refine QE.thenE ?_
      refine QE.blkH ?_
      refine QE.next ?_
      refine CW.region ?_
      refine WP.s .n (O.mv rfl) ?_
      refine WP.s .n (O.mv rfl) ?_
      refine WP.s .n (O.mv rfl) ?_
      refine WP.s .n (O.lenS rfl Try.underlying29) ?_
      refine WP.s .n (O.add rfl rfl (c := ((i : Int) + (b.length : Int))) (w64 (by omega))) ?_
      refine WP.s .n (O.mv rfl) ?_
      refine WP.s .n (O.cvt rfl Try.underlying173 Try.underlying121 (c := (c : Int)) (wrs32 (by omega))) ?_
      refine WP.s .n (O.ixR (k := kLimb) (xs := row) (n := ((i : Int) + (b.length : Int))) (i + b.length) rfl rfl (mem_at 0 rfl) Try.underlying29 ty121 (by omega) (by omega)) ?_
      refine WP.t .n (O.stR 0 (i + b.length) rfl rfl (Lens.id _) rfl (y0 := (row.getD (i + b.length) 0)) (gd 0 (by omega)) ty121 rfl (u32_limb (x := c) (by omega))) ?_
      refine WP.nil ?_
      refine QE.blkN ?_
      refine QE.next ?_
      refine CW.region ?_
      refine WP.s .n (O.mv rfl) ?_
      refine WP.s .n (O.add rfl rfl (c := ((i : Int) + 1)) (w64 (by omega))) ?_
      refine WP.s .n (O.asg rfl) ?_
      refine WP.nil ?_
      have hjb : j = b.length := by omega
      exact QE.round2 (row.set (i + b.length) c) (i + 1) (by omega) ⟨by omega, mulI_end (by omega) (hjb ▸ hI)⟩ (Imp.cons rfl (Imp.cons rfl (Imp.cons rfl (Imp.consLe rfl (is_eq (y := (((i + 1) : Nat) : Int)) (by first | omega | rfl)) Imp.nil)))) (OImp.refl _)
  · refine CW.exit ?_
    refine QE.thenE ?_
    refine QE.thenE ?_
    refine QE.blkH ?_
    refine QE.next ?_
    refine CW.seq ?_
    refine CW.region ?_
    refine WP.s .n (O.mv rfl) ?_
    refine ST.freeze 0 rfl (.keep (i := 0) rfl (.keep (i := 1) rfl (.hit (i := 5) rfl (.keep (i := 6) rfl (.keep (i := 15) rfl (.keep (i := 16) rfl (.keep (i := 17) rfl (.keep (i := 18) rfl (.hit (i := 66) rfl .nil))))))))) ?_
    refine WP.s .n (O.fn fn158 (evs.c rfl evs.nil) (c_ref01_Norm row)) ?_
    refine WP.s .n (O.asg rfl) ?_
    refine WP.nil ?_
    refine QE.next ?_
    refine CW.ret ?_
    refine ST.told 4 rfl (is_eq (y := (limbs (nval a * nval b))) (by rw [mulO_end (by omega) hO])) ?_
    exact QE.done (.inl rfl) rfl (ResOk.t rfl ResOk.nil) (OImp.sub (List.nil_sublist _)) ⟨rfl, rfl⟩

set_option maxRecDepth 20000 in
set_option maxHeartbeats 1000000 in
theorem c_ref02_Neg (z : Int) : Fn Try.prog 93 [kZ.is z] (kC.is (-z)) := by
  refine Con.enter Try.func93 rfl rfl fun m w => ?_
  refine ST.z 0 rfl fun y y_v y_n y_l => ?_
  refine CW.seq ?_
  refine CW.region ?_
  refine WP.bx .n rfl fun b1 => ?_
  refine WP.al .n z31_C fun b2 => ?_
  refine WP.nil ?_
  refine QE.next ?_
  refine CW.seq ?_
  refine CW.region ?_
  refine WP.s .n (O.fa rfl fld31_0 rfl) ?_
  refine WP.s .n (O.ld rfl (mem_at 1 rfl) (Lens.fst (Lens.id _)) ty4 rfl) ?_
  refine WP.s .n (O.not rfl) ?_
  refine WP.s .n (O.fa rfl fld31_1 rfl) ?_
  refine WP.s .n (O.ld rfl (mem_at 1 rfl) (Lens.snd (Lens.id _)) ty29 rfl) ?_
  refine WP.s .n (O.fn fn152 (evs.c rfl (evs.c rfl evs.nil)) (c_ref02_made (!y.1) y.2)) ?_
  refine WP.t .n (O.stW (l := kC) (u := ival ((!y.1), y.2)) 0 rfl rfl rfl ty31 rfl (VP.le_refl _)) ?_
  refine WP.nil ?_
  refine QE.next ?_
  refine CW.ret ?_
  refine ST.obtold 0 rfl (OB.box_eq (y := (-z)) (by rw [← y_v]; exact ival_not)) ?_
  exact QE.done (.inl rfl) rfl (ResOk.c rfl (mem_at 0 rfl) ty31 ResOk.nil) (OImp.sub (List.nil_sublist _)) ⟨rfl, rfl⟩

set_option maxRecDepth 20000 in
set_option maxHeartbeats 1000000 in
theorem c_ref02_Norm (z : Int) : Fn Try.prog 92 [kZ.is z] (kC.is z) := by
  refine Con.enter Try.func92 rfl rfl fun m w => ?_
  refine ST.z 0 rfl fun y y_v y_n y_l => ?_
  refine CW.seq ?_
  refine CW.region ?_
  refine WP.bx .n rfl fun b1 => ?_
  refine WP.al .n z31_C fun b2 => ?_
  refine WP.nil ?_
  refine QE.next ?_
  refine CW.seq ?_
  refine CW.region ?_
  refine WP.s .n (O.fa rfl fld31_0 rfl) ?_
  refine WP.s .n (O.ld rfl (mem_at 1 rfl) (Lens.fst (Lens.id _)) ty4 rfl) ?_
  refine WP.s .n (O.fa rfl fld31_1 rfl) ?_
  refine WP.s .n (O.ld rfl (mem_at 1 rfl) (Lens.snd (Lens.id _)) ty29 rfl) ?_
  refine WP.s .n (O.fn fn152 (evs.c rfl (evs.c rfl evs.nil)) (c_ref02_made y.1 y.2)) ?_
  refine WP.t .n (O.stW (l := kC) (u := ival (y.1, y.2)) 0 rfl rfl rfl ty31 rfl (VP.le_refl _)) ?_
  refine WP.nil ?_
  refine QE.next ?_
  refine CW.ret ?_
  refine ST.obtold 0 rfl (OB.box_eq (y := z) y_v) ?_
  exact QE.done (.inl rfl) rfl (ResOk.c rfl (mem_at 0 rfl) ty31 ResOk.nil) (OImp.sub (List.nil_sublist _)) ⟨rfl, rfl⟩

set_option maxRecDepth 20000 in
set_option maxHeartbeats 1000000 in
theorem c_ref02_Sub (x y : Int) : Fn Try.prog 90 [kZ.is x, kZ.is y] (kC.is (x - y)) := by
  refine Con.enter Try.func90 rfl rfl fun m w => ?_
  refine ST.fact (i := 1) rfl kZ_sm fun hsy => ?_
  refine CW.seq ?_
  refine CW.region ?_
  refine WP.bx .n rfl fun b1 => ?_
  refine WP.bx .n rfl fun b2 => ?_
  refine WP.al .n z31_C fun b3 => ?_
  refine WP.nil ?_
  refine QE.next ?_
  refine CW.seq ?_
  refine CW.draw (Γ := [.fr (kZ.is x), .fr (kZ.is y), .fr (kC.is (-y)), .fr (kC.is (x + (-y)))]) (lates := [false, false, false, false]) (by kernel_rfl) (Chk.of rfl (by kernel_rfl) rfl) (fun _ _ _ _ _ h => h) (fun q_ x_ h_ => ?_) (fun σ => ?_)
  · match q_, h_ with
    | 0, h_ => cases h_; exact Ob.f rfl .n fun N => (O.ld rfl (mem_app N (mem_at 2 rfl)) (Lens.id _) ty31 rfl)
    | 1, h_ => cases h_; exact Ob.f rfl .n fun N => (O.ld rfl (mem_app N (mem_at 1 rfl)) (Lens.id _) ty31 rfl)
    | 2, h_ => cases h_; exact Ob.f rfl .n fun N => (O.fn fn93 (evs.c rfl evs.nil) (c_ref02_Neg y))
    | 3, h_ => cases h_; exact Ob.f rfl .n fun N => (O.fn fn79 (evs.c rfl (evs.l rfl (kC_Z (by first | assumption | exact Sm_neg (by assumption))) evs.nil)) (c_ref02_Add x (-y)))
    | n_ + 4, h_ => simp at h_
  refine WP.t .n (O.stW (l := kC) (u := x + (-y)) 0 rfl rfl rfl ty31 rfl (VP.le_refl _)) ?_
  refine WP.nil ?_
  refine QE.next ?_
  refine CW.ret ?_
  refine ST.obtold 0 rfl (OB.box_eq (y := (x - y)) (Int.sub_eq_add_neg).symm) ?_
  exact QE.done (.inl rfl) rfl (ResOk.c rfl (mem_at 0 rfl) ty31 ResOk.nil) (OImp.sub (List.nil_sublist _)) ⟨rfl, rfl⟩

set_option maxRecDepth 20000 in
set_option maxHeartbeats 1000000 in
theorem c_ref02_Mul (x y : Int) : Fn Try.prog 91 [kZ.is x, kZ.is y] (kC.is (x * y)) := by
  refine Con.enter Try.func91 rfl rfl fun m w => ?_
  refine ST.z 0 rfl fun p p_v p_n p_l => ?_
  refine ST.z 1 rfl fun q q_v q_n q_l => ?_
  refine CW.seq ?_
  refine CW.region ?_
  refine WP.bx .n rfl fun b1 => ?_
  refine WP.bx .n rfl fun b2 => ?_
  refine WP.al .n z31_C fun b3 => ?_
  refine WP.nil ?_
  refine QE.next ?_
  refine CW.seq ?_
  refine CW.draw (Γ := [.fr (VP.ex (.pointer (some ⟨b1, 0, none⟩))), .fr (kBool.is p.1), .fr (VP.ex (.pointer (some ⟨b2, 0, none⟩))), .fr (kBool.is q.1), .fr (kBool.is (decide (p.1 ≠ q.1))), .fr (VP.ex (.pointer (some ⟨b1, 1, none⟩))), .fr (kN.is p.2), .fr (VP.ex (.pointer (some ⟨b2, 1, none⟩))), .fr (kN.is q.2), .fr (kN.is (limbs (nval p.2 * nval q.2))), .fr (kC.is (ival ((decide (p.1 ≠ q.1)), (limbs (nval p.2 * nval q.2)))))]) (lates := [false, false, false, false, false, false, false, false, false, false, false]) (by kernel_rfl) (Chk.of rfl (by kernel_rfl) rfl) (fun _ _ _ _ _ h => h) (fun q_ x_ h_ => ?_) (fun σ => ?_)
  · match q_, h_ with
    | 0, h_ => cases h_; exact Ob.f rfl .n fun N => (O.fa rfl fld31_0 rfl)
    | 1, h_ => cases h_; exact Ob.f rfl .n fun N => (O.ld rfl (mem_app N (mem_at 2 rfl)) (Lens.fst (Lens.id _)) ty4 rfl)
    | 2, h_ => cases h_; exact Ob.f rfl .n fun N => (O.fa rfl fld31_0 rfl)
    | 3, h_ => cases h_; exact Ob.f rfl .n fun N => (O.ld rfl (mem_app N (mem_at 1 rfl)) (Lens.fst (Lens.id _)) ty4 rfl)
    | 4, h_ => cases h_; exact Ob.f rfl .n fun N => (O.neB rfl rfl Try.underlying4)
    | 5, h_ => cases h_; exact Ob.f rfl .n fun N => (O.fa rfl fld31_1 rfl)
    | 6, h_ => cases h_; exact Ob.f rfl .n fun N => (O.ld rfl (mem_app N (mem_at 2 rfl)) (Lens.snd (Lens.id _)) ty29 rfl)
    | 7, h_ => cases h_; exact Ob.f rfl .n fun N => (O.fa rfl fld31_1 rfl)
    | 8, h_ => cases h_; exact Ob.f rfl .n fun N => (O.ld rfl (mem_app N (mem_at 1 rfl)) (Lens.snd (Lens.id _)) ty29 rfl)
    | 9, h_ => cases h_; exact Ob.f rfl .n fun N => (O.fn fn163 (evs.c rfl (evs.c rfl evs.nil)) (c_ref01_Mul p.2 q.2 (by omega)))
    | 10, h_ => cases h_; exact Ob.f rfl .n fun N => (O.fn fn152 (evs.c rfl (evs.c rfl evs.nil)) (c_ref02_made (decide (p.1 ≠ q.1)) (limbs (nval p.2 * nval q.2))))
    | n_ + 11, h_ => simp at h_
  refine WP.t .n (O.stW (l := kC) (u := ival ((decide (p.1 ≠ q.1)), (limbs (nval p.2 * nval q.2)))) 0 rfl rfl rfl ty31 rfl (VP.le_refl _)) ?_
  refine WP.nil ?_
  refine QE.next ?_
  refine CW.ret ?_
  refine ST.obtold 0 rfl (OB.box_eq (y := (x * y)) (by rw [← p_v, ← q_v]; exact ival_mul)) ?_
  exact QE.done (.inl rfl) rfl (ResOk.c rfl (mem_at 0 rfl) ty31 ResOk.nil) (OImp.sub (List.nil_sublist _)) ⟨rfl, rfl⟩

set_option maxRecDepth 20000 in
set_option maxHeartbeats 1000000 in
theorem c_ref02_Cmp (x y : Int) (hS : Sm (x - y)) : Fn Try.prog 88 [kZ.is x, kZ.is y] ((kInt .i64).is ((x - y).sign)) := by
  refine Con.enter Try.func88 rfl rfl fun m w => ?_
  refine CW.seq ?_
  refine CW.region ?_
  refine WP.bx .n rfl fun b1 => ?_
  refine WP.bx .n rfl fun b2 => ?_
  refine WP.s .n (O.asg rfl) ?_
  refine WP.nil ?_
  refine QE.next ?_
  refine CW.seq ?_
  refine CW.region ?_
  refine WP.s .n (O.ld rfl (mem_at 1 rfl) (Lens.id _) ty31 rfl) ?_
  refine WP.s .n (O.ld rfl (mem_at 0 rfl) (Lens.id _) ty31 rfl) ?_
  refine WP.s .n (O.fn fn90 (evs.c rfl (evs.c rfl evs.nil)) (c_ref02_Sub x y)) ?_
  refine WP.s .n (O.fn fn83 (evs.l rfl (kC_Z (by assumption)) evs.nil) (c_ref02_Sign (x - y))) ?_
  refine WP.s .n (O.asg rfl) ?_
  refine WP.nil ?_
  refine QE.next ?_
  refine CW.ret ?_
  exact QE.done (.inl rfl) rfl (ResOk.t rfl ResOk.nil) (OImp.sub (List.nil_sublist _)) ⟨rfl, rfl⟩

end Fw


/- Plain facts: weights that climb, all choices with a sum, the greedy block. -/
set_option linter.unusedVariables false
set_option linter.unusedSimpArgs false
set_option exponentiation.threshold 400
namespace Fw
open Go

/-! ### The greedy block -/
/-! ### All choices -/
/-! ### Steps -/
theorem sgn_lt0 {a : Int} (h : a.sign < 0) : a < 0 := by
  rcases Int.lt_trichotomy a 0 with h1 | h1 | h1
  · exact h1
  · subst h1; simp at h
  · rw [Int.sign_eq_one_of_pos h1] at h; omega
theorem sgn_eq {a b : Int} (h : (a - b).sign = 0) : a = b := by have := Int.sign_eq_zero_iff_zero.1 h; omega
end Fw

