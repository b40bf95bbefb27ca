/- Closed facts on types and functions. -/
import Derived.Test.YtgbafijcklgajaaQNb
set_option linter.unusedVariables false
set_option linter.unusedSimpArgs false
set_option exponentiation.threshold 70
namespace Fw
open Go Go.Proofs

theorem info31 : (Try.prog.info? 31).map (fun i => (i.zero, i.size, i.bytes)) = some (some (.agg #[.bool false, .slice none 0 0]), 2, 32) := by kernel_rfl
theorem ty29 : TyOk Try.prog 29 false 1 := ⟨_, Try.underlying29, rfl, by kernel_rfl⟩
theorem ty31 : TyOk Try.prog 31 true 2 := ⟨_, Try.underlying31, rfl, by kernel_rfl⟩
theorem ty4 : TyOk Try.prog 4 false 1 := ⟨_, Try.underlying4, rfl, by kernel_rfl⟩
theorem fld31_0 : FldOk Try.prog 31 0 0 := fld_of (n := 0) (by kernel_rfl)
theorem fld31_1 : FldOk Try.prog 31 1 1 := fld_of (n := 0) (by kernel_rfl)
theorem fn147 : FnOk Try.prog 147 := ⟨_, Try.func147, by kernel_rfl, rfl⟩
theorem fn150 : FnOk Try.prog 150 := ⟨_, Try.func150, by kernel_rfl, rfl⟩
theorem fn151 : FnOk Try.prog 151 := ⟨_, Try.func151, by kernel_rfl, rfl⟩
theorem fn156 : FnOk Try.prog 156 := ⟨_, Try.func156, by kernel_rfl, rfl⟩
theorem lit31_C : LitOk Try.prog 31 kC ([(0, 1), (1, 1)].toArray[·]?) 0 := lit_of info31 (by kernel_rfl) fun m => zero_C m
theorem lit31_I : LitOk Try.prog 31 kI ([(0, 1), (1, 1)].toArray[·]?) (false, []) := lit_of info31 (by kernel_rfl) fun m => zero_I m
theorem z31_C : ZeroOk Try.prog 31 kC 0 := zeroOk_of info31 fun m => zero_C m

end Fw
