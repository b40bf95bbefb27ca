/- Closed facts on types and functions. -/
import Derived.Test.YtgbafijcklgajaaQKb
set_option linter.unusedVariables false
set_option linter.unusedSimpArgs false
set_option exponentiation.threshold 70
namespace Fw
open Go Go.Proofs

theorem fn169 : FnOk Try.prog 169 := ⟨_, Try.func169, by kernel_rfl, rfl⟩
theorem fn208 : FnOk Try.prog 208 := ⟨_, Try.func208, by kernel_rfl, rfl⟩
theorem fn209 : FnOk Try.prog 209 := ⟨_, Try.func209, by kernel_rfl, rfl⟩
theorem fn210 : FnOk Try.prog 210 := ⟨_, Try.func210, by kernel_rfl, rfl⟩
theorem fn211 : FnOk Try.prog 211 := ⟨_, Try.func211, by kernel_rfl, rfl⟩
theorem fn212 : FnOk Try.prog 212 := ⟨_, Try.func212, by kernel_rfl, rfl⟩
theorem fn213 : FnOk Try.prog 213 := ⟨_, Try.func213, by kernel_rfl, rfl⟩

end Fw
