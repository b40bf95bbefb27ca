/- Closed facts on types and functions. -/
import Derived.Test.YtgbafijcklgajaaProg
import Derived.Test.YtgbafijcklgajaaFwL
set_option linter.unusedVariables false
set_option linter.unusedSimpArgs false
set_option exponentiation.threshold 70
namespace Fw
open Go Go.Proofs

theorem info121 : (Try.prog.info? 121).map (fun i => (i.zero, i.size, i.bytes)) = some (some (.int .u32 0), 1, 4) := by kernel_rfl
theorem ty121 : TyOk Try.prog 121 false 1 := ⟨_, Try.underlying121, rfl, by kernel_rfl⟩
theorem el121_limb : ElOk Try.prog 121 kLimb := elOk_of info121 rfl rfl rfl
theorem fn148 : FnOk Try.prog 148 := ⟨_, Try.func148, by kernel_rfl, rfl⟩
theorem fn197 : FnOk Try.prog 197 := ⟨_, Try.func197, by kernel_rfl, rfl⟩
theorem fn198 : FnOk Try.prog 198 := ⟨_, Try.func198, by kernel_rfl, rfl⟩
theorem fn202 : FnOk Try.prog 202 := ⟨_, Try.func202, by kernel_rfl, rfl⟩
theorem z121_limb : ZeroOk Try.prog 121 kLimb 0 := zeroOk_of info121 fun m => ⟨rfl, by decide⟩

end Fw
