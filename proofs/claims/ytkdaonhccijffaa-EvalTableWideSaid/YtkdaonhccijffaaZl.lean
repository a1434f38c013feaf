/- The program is the evaluator's. -/
import Derived.Test.YtkdaonhccijffaaZs
import Derived.Test.YtkdaonhccijffaaD4
import Derived.Test.YtkdaonhccijffaaZi
import Derived.WalkKit
import Derived.ProofKit
import Derived.OpenShut
namespace Go.Proofs.Ytkdaonhccijffaa
open Go Go.AE Go.AE.S
open Go.ChangeShapes Go.WideShapes Go.ChangeAt Go.RowKit
theorem progOk : ProgOk Try.prog cq P where
  fn f fn h := tbl_ok (f, fn) (lookup_mem h)
  imp f fn h hi := by
    have := List.all_eq_true.1 tbl_imp (f, fn) (lookup_mem h)
    simp only [hi, Bool.not_true, Bool.false_or, Bool.not_eq_true'] at this
    exact this
  prim f g h args σ v σ' hg := by
    unfold P at h
    simp only at h
    split at h
    · rename_i he
      subst he
      cases h
      exact sort_fact hg
    split at h
    · rename_i he
      subst he
      cases h
      exact compare_fact (fn := Try.f72) Try.func72 (by kernel_rfl) (by kernel_rfl) (by kernel_rfl) (by kernel_rfl) hg
    · cases h
  draw := drawn_ok (by kernel_rfl)
theorem own : ownKnob Try.prog.godebug = none := by kernel_rfl
theorem laid : laidOutB Try.prog = true := by kernel_rfl
def L : List TypeId := [5, 22, 4]
theorem read : readOk Try.prog L = true := by kernel_rfl
theorem agg5 : tyAgg Try.prog 5 = some false := by kernel_rfl
theorem agg22 : tyAgg Try.prog 22 = some false := by kernel_rfl
theorem arg_u (n : Int) : argOf Try.prog 5 [.int .u8 n] = .int .u8 n := by unfold argOf; rw [agg5]; rfl
theorem arg_x (n : Int) : argOf Try.prog 22 [.int .u32 n] = .int .u32 n := by unfold argOf; rw [agg22]; rfl
end Go.Proofs.Ytkdaonhccijffaa
