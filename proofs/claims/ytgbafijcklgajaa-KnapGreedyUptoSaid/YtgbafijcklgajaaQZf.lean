/- Closed facts on types and functions. -/
import Derived.Test.YtgbafijcklgajaaQZd
set_option linter.unusedVariables false
set_option linter.unusedSimpArgs false
set_option exponentiation.threshold 70
namespace Fw
open Go Go.Proofs

theorem fn157 : FnOk Try.prog 157 := ⟨_, Try.func157, by kernel_rfl, rfl⟩
theorem fn74 : FnOk Try.prog 74 := ⟨_, Try.func74, by kernel_rfl, rfl⟩

end Fw
