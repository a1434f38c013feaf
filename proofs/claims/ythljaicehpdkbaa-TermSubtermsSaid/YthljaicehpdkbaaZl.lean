/- The program is the evaluator's. -/
import Derived.Test.YthljaicehpdkbaaZs
import Derived.Test.YthljaicehpdkbaaC4
import Derived.WalkKit
import Derived.ProofKit
import Derived.OpenShut
namespace Go.Proofs.Ythljaicehpdkbaa
open Go Go.AE Go.AE.S
open Go.ChangeShapes Go.WideShapes Go.ChangeAt Go.RowKit
theorem progOk : ProgOk Try.prog cq P where
  fn f fn h := tbl_ok (f, fn) (lookup_mem h)
  imp f fn h hi := by
    have := List.all_eq_true.1 tbl_imp (f, fn) (lookup_mem h)
    simp only [hi, Bool.not_true, Bool.false_or, Bool.not_eq_true'] at this
    exact this
  prim f g h args σ v σ' hg := by
    unfold P at h
    simp only at h
    split at h
    · rename_i he
      subst he
      cases h
      exact sort_fact hg
    split at h
    · rename_i he
      subst he
      cases h
      exact compare_fact (fn := Try.f110) Try.func110 (by kernel_rfl) (by kernel_rfl) (by kernel_rfl) (by kernel_rfl) hg
    · cases h
  draw := drawn_ok (by kernel_rfl)
theorem own : ownKnob Try.prog.godebug = none := by kernel_rfl
theorem laid : laidOutB Try.prog = true := by kernel_rfl
noncomputable def fsT : Array Field := match Try.prog.underlying 26 with | some (.struct fs) => fs | _ => #[]
theorem termTy : TermTy Try.prog 26 24 22 3 23 9 fsT := ⟨by kernel_rfl, by kernel_rfl, Try.underlying22, Try.underlying3, Try.underlying23, Try.underlying9, Try.underlying24⟩
def L : List TypeId := [26, 24, 22, 3, 23, 9, 4, 5, 54]
theorem read : readOk Try.prog L = true := by kernel_rfl
theorem agg26 : tyAgg Try.prog 26 = some true := by kernel_rfl
theorem agg4 : tyAgg Try.prog 4 = some false := by kernel_rfl
theorem agg3 : tyAgg Try.prog 3 = some false := by kernel_rfl
theorem arg_T (t : Term) : argOf Try.prog 26 t.row = .agg t.row := by unfold argOf; rw [agg26]; rfl
theorem arg_b (b : Bool) : argOf Try.prog 4 [.bool b] = .bool b := by unfold argOf; rw [agg4]; rfl
theorem arg_i (n : Int) : argOf Try.prog 3 [.int .i64 n] = .int .i64 n := by unfold argOf; rw [agg3]; rfl
def zeroT : Value := .agg #[.int .i64 0, .int .i64 0, .int .u64 0, .string "".toUTF8, .slice none 0 0]
end Go.Proofs.Ythljaicehpdkbaa
