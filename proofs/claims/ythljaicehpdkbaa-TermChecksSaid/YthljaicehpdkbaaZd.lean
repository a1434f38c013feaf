/- More arguments: words, names, operations, lists of terms. -/
import Derived.Test.YthljaicehpdkbaaZl
namespace Go.Proofs.Ythljaicehpdkbaa
open Go Go.AE Go.AE.S
theorem agg9 : tyAgg Try.prog 9 = some false := by kernel_rfl
theorem agg23 : tyAgg Try.prog 23 = some false := by kernel_rfl
theorem agg22 : tyAgg Try.prog 22 = some false := by kernel_rfl
theorem agg24 : tyAgg Try.prog 24 = some false := by kernel_rfl
theorem agg5 : tyAgg Try.prog 5 = some false := by kernel_rfl
theorem arg_s (n : ByteArray) : argOf Try.prog 9 [.str n] = .str n := by unfold argOf; rw [agg9]; rfl
theorem arg_U (n : Int) : argOf Try.prog 23 [.int .u64 n] = .int .u64 n := by unfold argOf; rw [agg23]; rfl
theorem arg_O (n : Int) : argOf Try.prog 22 [.int .i64 n] = .int .i64 n := by unfold argOf; rw [agg22]; rfl
theorem arg_l (l : List (List PV)) : argOf Try.prog 24 [.lst l] = .lst l := by unfold argOf; rw [agg24]; rfl
theorem arg_u (n : Int) : argOf Try.prog 5 [.int .u8 n] = .int .u8 n := by unfold argOf; rw [agg5]; rfl
end Go.Proofs.Ythljaicehpdkbaa
