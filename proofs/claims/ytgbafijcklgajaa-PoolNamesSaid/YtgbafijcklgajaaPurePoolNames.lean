/- Proved: the answer that the printed walk reads off PoolNames is true at its constants; it has no conditions. -/
import Derived.Test.YtgbafijcklgajaaPPoolNamesx1
namespace Go.Proofs.Ytgbafijcklgajaa.Pure
open Go.RowKit Go.Proofs.Ytgbafijcklgajaa.PPoolNames Go.Proofs.YtgbafijcklgajaaW.PrintWords Go.Proofs.YtgbafijcklgajaaW.PrintLast

/-- YOURS: trammellaw15_PoolNames.f  = some true
What it reaches (each with k first where it has rounds; `.mono`: more rounds tell the same; `.l0`, ..: its loops, with `.mono_l`): pool_Valid.f, trammellaw15_PoolNames.f -/
theorem PoolNames : trammellaw15_PoolNames.Pure := by
  rfl

end Go.Proofs.Ytgbafijcklgajaa.Pure
