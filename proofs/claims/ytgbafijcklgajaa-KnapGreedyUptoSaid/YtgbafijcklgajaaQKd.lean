/- Closed facts on types and functions. -/
import Derived.Test.YtgbafijcklgajaaQRf
set_option linter.unusedVariables false
set_option linter.unusedSimpArgs false
set_option exponentiation.threshold 400
namespace Fw
open Go Go.Proofs

theorem info123 : (Try.prog.info? 123).map (fun i => (i.zero, i.size, i.bytes)) = some (some (.agg #[.int .i64 0, .int .i64 0, .int .i64 0, .int .i64 0, .int .i64 0, .int .i64 0, .int .i64 0, .int .i64 0, .int .i64 0, .int .i64 0]), 10, 80) := by kernel_rfl
theorem info28 : (Try.prog.info? 28).map (fun i => (i.zero, i.size, i.bytes)) = some (some (.slice none 0 0), 1, 24) := by kernel_rfl
theorem info3 : (Try.prog.info? 3).map (fun i => (i.zero, i.size, i.bytes)) = some (some (.int .i64 0), 1, 8) := by kernel_rfl
theorem ty123 : TyOk Try.prog 123 true 10 := ⟨_, Try.underlying123, rfl, by kernel_rfl⟩
theorem ty28 : TyOk Try.prog 28 false 1 := ⟨_, Try.underlying28, rfl, by kernel_rfl⟩
theorem el28_sl_int : ElOk Try.prog 28 (kSl kI64) := elOk_of info28 rfl rfl rfl
theorem el3_int : ElOk Try.prog 3 kI64 := elOk_of info3 rfl rfl rfl
theorem fn101 : FnOk Try.prog 101 := ⟨_, Try.func101, by kernel_rfl, rfl⟩
theorem fn159 : FnOk Try.prog 159 := ⟨_, Try.func159, by kernel_rfl, rfl⟩
theorem fn167 : FnOk Try.prog 167 := ⟨_, Try.func167, by kernel_rfl, rfl⟩
theorem fn19 : FnOk Try.prog 19 := ⟨_, Try.func19, by kernel_rfl, rfl⟩
theorem fn21 : FnOk Try.prog 21 := ⟨_, Try.func21, by kernel_rfl, rfl⟩
theorem fn22 : FnOk Try.prog 22 := ⟨_, Try.func22, by kernel_rfl, rfl⟩
theorem fn36 : FnOk Try.prog 36 := ⟨_, Try.func36, by kernel_rfl, rfl⟩
theorem fn75 : FnOk Try.prog 75 := ⟨_, Try.func75, by kernel_rfl, rfl⟩
theorem fn81 : FnOk Try.prog 81 := ⟨_, Try.func81, by kernel_rfl, rfl⟩
theorem fn82 : FnOk Try.prog 82 := ⟨_, Try.func82, by kernel_rfl, rfl⟩
theorem fn84 : FnOk Try.prog 84 := ⟨_, Try.func84, by kernel_rfl, rfl⟩
theorem fn88 : FnOk Try.prog 88 := ⟨_, Try.func88, by kernel_rfl, rfl⟩
theorem z123_ar10_int : ZeroOk Try.prog 123 (kArr 10 kI64) (List.replicate 10 0) := zeroOk_of info123 fun m => ⟨rfl, ⟨[.int .i64 0], _, rfl, ⟨rfl, by decide, by decide⟩, ⟨[.int .i64 0], _, rfl, ⟨rfl, by decide, by decide⟩, ⟨[.int .i64 0], _, rfl, ⟨rfl, by decide, by decide⟩, ⟨[.int .i64 0], _, rfl, ⟨rfl, by decide, by decide⟩, ⟨[.int .i64 0], _, rfl, ⟨rfl, by decide, by decide⟩, ⟨[.int .i64 0], _, rfl, ⟨rfl, by decide, by decide⟩, ⟨[.int .i64 0], _, rfl, ⟨rfl, by decide, by decide⟩, ⟨[.int .i64 0], _, rfl, ⟨rfl, by decide, by decide⟩, ⟨[.int .i64 0], _, rfl, ⟨rfl, by decide, by decide⟩, ⟨[.int .i64 0], _, rfl, ⟨rfl, by decide, by decide⟩, rfl⟩⟩⟩⟩⟩⟩⟩⟩⟩⟩⟩

end Fw
