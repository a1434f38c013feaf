/- The program is the evaluator's. -/
import Derived.Test.YtkdaonhccijffaaGreatZs
import Derived.Test.YtkdaonhccijffaaGreatD4
import Derived.Test.YtkdaonhccijffaaGreatZi
import Derived.WalkKit
import Derived.ProofKit
import Derived.OpenShut
namespace Go.Proofs.YtkdaonhccijffaaGreat
open Go Go.AE Go.AE.S
open Go.ChangeShapes Go.WideShapes Go.ChangeAt Go.RowKit
theorem progOk : ProgOk Tryz.prog cq P where
  fn f fn h := tbl_ok (f, fn) (lookup_mem h)
  imp f fn h hi := by
    have := List.all_eq_true.1 tbl_imp (f, fn) (lookup_mem h)
    simp only [hi, Bool.not_true, Bool.false_or, Bool.not_eq_true'] at this
    exact this
  prim f g h args σ v σ' hg := by
    unfold P at h
    simp only at h
    split at h
    · rename_i he
      subst he
      cases h
      exact sort_fact hg
    split at h
    · rename_i he
      subst he
      cases h
      exact compare_fact (fn := Tryz.f157) Tryz.func157 (by kernel_rfl) (by kernel_rfl) (by kernel_rfl) (by kernel_rfl) hg
    · cases h
  draw := drawn_ok (by kernel_rfl)
theorem own : ownKnob Tryz.prog.godebug = none := by kernel_rfl
theorem laid : laidOutB Tryz.prog = true := by kernel_rfl
noncomputable def fsT : Array Field := match Tryz.prog.underlying 26 with | some (.struct fs) => fs | _ => #[]
theorem termTy : TermTy Tryz.prog 26 24 22 3 23 9 fsT := ⟨by kernel_rfl, by kernel_rfl, Tryz.underlying22, Tryz.underlying3, Tryz.underlying23, Tryz.underlying9, Tryz.underlying24⟩
def L : List TypeId := [26, 24, 22, 3, 23, 9, 4, 5, 27, 41, 42, 45, 52, 79]
theorem read : readOk Tryz.prog L = true := by kernel_rfl
theorem agg26 : tyAgg Tryz.prog 26 = some true := by kernel_rfl
theorem agg3 : tyAgg Tryz.prog 3 = some false := by kernel_rfl
theorem arg_T (t : Term) : argOf Tryz.prog 26 t.row = .agg t.row := by unfold argOf; rw [agg26]; rfl
theorem arg_i (n : Int) : argOf Tryz.prog 3 [.int .i64 n] = .int .i64 n := by unfold argOf; rw [agg3]; rfl
theorem agg23 : tyAgg Tryz.prog 23 = some false := by kernel_rfl
theorem agg22 : tyAgg Tryz.prog 22 = some false := by kernel_rfl
theorem agg27 : tyAgg Tryz.prog 27 = some false := by kernel_rfl
theorem agg41 : tyAgg Tryz.prog 41 = some true := by kernel_rfl
theorem agg52 : tyAgg Tryz.prog 52 = some false := by kernel_rfl
theorem arg_U (n : Int) : argOf Tryz.prog 23 [.int .u64 n] = .int .u64 n := by unfold argOf; rw [agg23]; rfl
theorem arg_O (n : Int) : argOf Tryz.prog 22 [.int .i64 n] = .int .i64 n := by unfold argOf; rw [agg22]; rfl
theorem arg_B (l : List (List PV)) : argOf Tryz.prog 27 [.lst l] = .lst l := by unfold argOf; rw [agg27]; rfl
theorem arg_w (l : List (List PV)) : argOf Tryz.prog 52 [.lst l] = .lst l := by unfold argOf; rw [agg52]; rfl
theorem arg_A (b : Bd) : argOf Tryz.prog 41 (brow b) = .agg (brow b) := by unfold argOf; rw [agg41]; rfl
noncomputable def fsB : Array Field := match Tryz.prog.underlying 41 with | some (.struct fs) => fs | _ => #[]
noncomputable def fsW : Array Field := match Tryz.prog.underlying 79 with | some (.struct fs) => fs | _ => #[]
theorem in_bind {c : List PV} (h : Ty Tryz.prog 41 c) : ∃ b : Bd, c = brow b ∧ W b.v ∧ b.name.size ≤ 9223372036854775807 := inv_bind (fs := fsB) (tN := 9) (tU := 23) (by kernel_rfl) (by kernel_rfl) Tryz.underlying9 Tryz.underlying23 h
theorem in_binds {c : List PV} (h : Ty Tryz.prog 27 c) : ∃ l : List Bd, c = [.lst (l.map brow)] ∧ (∀ b ∈ l, W b.v ∧ b.name.size ≤ 9223372036854775807) ∧ l.length ≤ 9223372036854775807 := by
  obtain ⟨rows, rfl, hl, hr⟩ := inv_slice Tryz.underlying27 h
  obtain ⟨l, rfl, hp⟩ := inv_rows brow _ rows fun r hx => in_bind (hr r hx)
  exact ⟨l, rfl, hp, by rw [List.length_map] at hl; exact hl⟩
theorem in_words {c : List PV} (h : Ty Tryz.prog 52 c) : ∃ l : List Wd, c = [.lst (l.map wdrow)] ∧ (∀ x ∈ l, (-9223372036854775808 ≤ x.w ∧ x.w ≤ 9223372036854775807) ∧ W x.v) ∧ l.length ≤ 9223372036854775807 := by
  obtain ⟨rows, rfl, hl, hr⟩ := inv_slice Tryz.underlying52 h
  obtain ⟨l, rfl, hp⟩ := inv_rows wdrow _ rows fun r hx => inv_word (fs := fsW) (tI := 3) (tU := 23) (by kernel_rfl) (by kernel_rfl) Tryz.underlying3 Tryz.underlying23 (hr r hx)
  exact ⟨l, rfl, hp, by rw [List.length_map] at hl; exact hl⟩
def zeroT : Value := .agg #[.int .i64 0, .int .i64 0, .int .u64 0, .string "".toUTF8, .slice none 0 0]
end Go.Proofs.YtkdaonhccijffaaGreat
