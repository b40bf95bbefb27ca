/- Closed facts on types and functions. -/
import Derived.Test.YtgbafijcklgajaaQZh
set_option linter.unusedVariables false
set_option linter.unusedSimpArgs false
set_option exponentiation.threshold 70
namespace Fw
open Go Go.Proofs

theorem fn162 : FnOk Try.prog 162 := ⟨_, Try.func162, by kernel_rfl, rfl⟩
theorem fn203 : FnOk Try.prog 203 := ⟨_, Try.func203, by kernel_rfl, rfl⟩
theorem fn204 : FnOk Try.prog 204 := ⟨_, Try.func204, by kernel_rfl, rfl⟩
theorem fn205 : FnOk Try.prog 205 := ⟨_, Try.func205, by kernel_rfl, rfl⟩

end Fw
