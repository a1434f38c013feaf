/- The program is the evaluator's. -/
import Derived.Test.YtkdaonhccijffaaGreatZs
import Derived.Test.YtkdaonhccijffaaGreatD4
import Derived.Test.YtkdaonhccijffaaGreatZi
import Derived.WalkKit
import Derived.ProofKit
import Derived.OpenShut
namespace Go.Proofs.YtkdaonhccijffaaGreat
open Go Go.AE Go.AE.S
open Go.ChangeShapes Go.WideShapes Go.ChangeAt Go.RowKit
theorem progOk : ProgOk Tryz.prog cq P where
  fn f fn h := tbl_ok (f, fn) (lookup_mem h)
  imp f fn h hi := by
    have := List.all_eq_true.1 tbl_imp (f, fn) (lookup_mem h)
    simp only [hi, Bool.not_true, Bool.false_or, Bool.not_eq_true'] at this
    exact this
  prim f g h args σ v σ' hg := by
    unfold P at h
    simp only at h
    split at h
    · rename_i he
      subst he
      cases h
      exact sort_fact hg
    split at h
    · rename_i he
      subst he
      cases h
      exact compare_fact (fn := Tryz.f157) Tryz.func157 (by kernel_rfl) (by kernel_rfl) (by kernel_rfl) (by kernel_rfl) hg
    · cases h
  draw := drawn_ok (by kernel_rfl)
theorem own : ownKnob Tryz.prog.godebug = none := by kernel_rfl
theorem laid : laidOutB Tryz.prog = true := by kernel_rfl
noncomputable def fsT : Array Field := match Tryz.prog.underlying 26 with | some (.struct fs) => fs | _ => #[]
theorem termTy : TermTy Tryz.prog 26 24 22 3 23 9 fsT := ⟨by kernel_rfl, by kernel_rfl, Tryz.underlying22, Tryz.underlying3, Tryz.underlying23, Tryz.underlying9, Tryz.underlying24⟩
def L : List TypeId := [26, 24, 22, 3, 23, 9, 4, 5, 27, 41, 42, 45, 52, 79]
theorem read : readOk Tryz.prog L = true := by kernel_rfl
theorem agg26 : tyAgg Tryz.prog 26 = some true := by kernel_rfl
theorem arg_T (t : Term) : argOf Tryz.prog 26 t.row = .agg t.row := by unfold argOf; rw [agg26]; rfl
theorem agg5 : tyAgg Tryz.prog 5 = some false := by kernel_rfl
theorem agg42 : tyAgg Tryz.prog 42 = some false := by kernel_rfl
theorem arg_u (n : Int) : argOf Tryz.prog 5 [.int .u8 n] = .int .u8 n := by unfold argOf; rw [agg5]; rfl
theorem arg_V (l : List (List PV)) : argOf Tryz.prog 42 [.lst l] = .lst l := by unfold argOf; rw [agg42]; rfl
noncomputable def fsV : Array Field := match Tryz.prog.underlying 45 with | some (.struct fs) => fs | _ => #[]
theorem in_vars {c : List PV} (h : Ty Tryz.prog 42 c) : ∃ l : List V2, c = [.lst (l.map vrow)] ∧ (∀ v ∈ l, (-9223372036854775808 ≤ v.w ∧ v.w ≤ 9223372036854775807) ∧ v.name.size ≤ 9223372036854775807) ∧ l.length ≤ 9223372036854775807 := by
  obtain ⟨rows, rfl, hl, hr⟩ := inv_slice Tryz.underlying42 h
  obtain ⟨l, rfl, hp⟩ := inv_rows vrow _ rows fun r hx => inv_var (fs := fsV) (tN := 9) (tI := 3) (by kernel_rfl) (by kernel_rfl) Tryz.underlying9 Tryz.underlying3 (hr r hx)
  exact ⟨l, rfl, hp, by rw [List.length_map] at hl; exact hl⟩
def zeroT : Value := .agg #[.int .i64 0, .int .i64 0, .int .u64 0, .string "".toUTF8, .slice none 0 0]
end Go.Proofs.YtkdaonhccijffaaGreat
