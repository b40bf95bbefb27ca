/- Closed facts on types and functions. -/
import Derived.Test.YtgbafijcklgajaaQZf
set_option linter.unusedVariables false
set_option linter.unusedSimpArgs false
set_option exponentiation.threshold 70
namespace Fw
open Go Go.Proofs

theorem fn163 : FnOk Try.prog 163 := ⟨_, Try.func163, by kernel_rfl, rfl⟩
theorem fn90 : FnOk Try.prog 90 := ⟨_, Try.func90, by kernel_rfl, rfl⟩
theorem fn93 : FnOk Try.prog 93 := ⟨_, Try.func93, by kernel_rfl, rfl⟩

end Fw
