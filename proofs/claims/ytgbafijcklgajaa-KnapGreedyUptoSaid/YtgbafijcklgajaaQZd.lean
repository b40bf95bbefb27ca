/- Closed facts on types and functions. -/
import Derived.Test.YtgbafijcklgajaaQNi
set_option linter.unusedVariables false
set_option linter.unusedSimpArgs false
set_option exponentiation.threshold 70
namespace Fw
open Go Go.Proofs

theorem fn149 : FnOk Try.prog 149 := ⟨_, Try.func149, by kernel_rfl, rfl⟩
theorem fn161 : FnOk Try.prog 161 := ⟨_, Try.func161, by kernel_rfl, rfl⟩
theorem fn168 : FnOk Try.prog 168 := ⟨_, Try.func168, by kernel_rfl, rfl⟩
theorem fn207 : FnOk Try.prog 207 := ⟨_, Try.func207, by kernel_rfl, rfl⟩

end Fw
