/- Closed facts on types and functions. -/
import Derived.Test.YtgbafijcklgajaaQRd
set_option linter.unusedVariables false
set_option linter.unusedSimpArgs false
set_option exponentiation.threshold 70
namespace Fw
open Go Go.Proofs

theorem fn105 : FnOk Try.prog 105 := ⟨_, Try.func105, by kernel_rfl, rfl⟩

end Fw
