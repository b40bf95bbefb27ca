/- Closed facts on types and functions. -/
import Derived.Test.YtgbafijcklgajaaQZb
set_option linter.unusedVariables false
set_option linter.unusedSimpArgs false
set_option exponentiation.threshold 70
namespace Fw
open Go Go.Proofs

theorem fn152 : FnOk Try.prog 152 := ⟨_, Try.func152, by kernel_rfl, rfl⟩
theorem fn153 : FnOk Try.prog 153 := ⟨_, Try.func153, by kernel_rfl, rfl⟩
theorem fn154 : FnOk Try.prog 154 := ⟨_, Try.func154, by kernel_rfl, rfl⟩
theorem fn155 : FnOk Try.prog 155 := ⟨_, Try.func155, by kernel_rfl, rfl⟩
theorem fn158 : FnOk Try.prog 158 := ⟨_, Try.func158, by kernel_rfl, rfl⟩
theorem fn164 : FnOk Try.prog 164 := ⟨_, Try.func164, by kernel_rfl, rfl⟩
theorem fn199 : FnOk Try.prog 199 := ⟨_, Try.func199, by kernel_rfl, rfl⟩
theorem fn200 : FnOk Try.prog 200 := ⟨_, Try.func200, by kernel_rfl, rfl⟩
theorem fn201 : FnOk Try.prog 201 := ⟨_, Try.func201, by kernel_rfl, rfl⟩

end Fw
