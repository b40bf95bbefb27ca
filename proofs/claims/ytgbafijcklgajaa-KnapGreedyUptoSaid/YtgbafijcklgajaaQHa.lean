/- Closed facts on types and functions. -/
import Derived.Test.YtgbafijcklgajaaQRb
set_option linter.unusedVariables false
set_option linter.unusedSimpArgs false
set_option exponentiation.threshold 70
namespace Fw
open Go Go.Proofs

theorem ty3 : TyOk Try.prog 3 false 1 := ⟨_, Try.underlying3, rfl, by kernel_rfl⟩
theorem el31_Z : ElOk Try.prog 31 kZ := elOk_of info31 rfl rfl rfl
theorem fn20 : FnOk Try.prog 20 := ⟨_, Try.func20, by kernel_rfl, rfl⟩

end Fw
