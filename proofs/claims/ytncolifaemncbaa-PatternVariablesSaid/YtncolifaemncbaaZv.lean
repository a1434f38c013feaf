/- One law's row: the variables of patterns and their order are those that the reference tells. -/
import Derived.Test.YtncolifaemncbaaZl
import Derived.Test.YtncolifaemncbaaB6
namespace Go.Proofs.Ytncolifaemncbaa
open Go Go.AE Go.AE.S
open Go.ChangeShapes Go.WideShapes Go.ChangeAt Go.RowKit
theorem variables_law : ∀ cs, AllTy Try.prog Try.f7.params.toList cs → R P f_law24_PatternVariables (argsOf Try.prog Try.f7.params.toList cs) = some (.bool true) := by
  intro cs h
  have hp : Try.f7.params.toList = [26, 26] := by rw [Try.params7]
  rw [hp] at h ⊢
  match cs, h with
  | [c0, c1], ⟨h0, h1, _⟩ =>
    obtain ⟨t, rfl, ht⟩ := (inv_terms termTy h0).1 rfl
    obtain ⟨q, rfl, hq⟩ := (inv_terms termTy h1).1 rfl
    simp only [argsOf, arg_T]
    exact p_PatternVariables t q ht hq
set_option maxRecDepth 100000 in
theorem variables_lifted (os : Os) (started : os.Started) (H : Type) (enc : TypeId × Value → H) :
    ReturnsInHanded {} Try.checked os 7 .any (Rows.patternVariablesSpec.pre6 enc Try.prog Try.f7 Rows.patternVariablesRow.domain false) (Rows.patternVariablesSpec.post enc Try.prog Try.f7 false true false false) :=
  law_lifted (C := Try.checked) progOk read laid own Try.func7 (by kernel_rfl)
    (fun t ht => by have : Try.f7.params.toList = [26, 26] := by rw [Try.params7]
                    rw [this] at ht; revert t; decide)
    (fun t ht => by have : Try.f7.params.toList = [26, 26] := by rw [Try.params7]
                    rw [this] at ht
                    rcases List.mem_cons.1 ht with rfl | ht
                    · exact ⟨by kernel_rfl, of_decide_eq_true (by kernel_rfl)⟩
                    · rcases List.mem_cons.1 ht with rfl | ht
                      · exact ⟨by kernel_rfl, of_decide_eq_true (by kernel_rfl)⟩
                      · simp at ht)
    (tb := 4) (by kernel_rfl) Try.underlying4 rfl
    (fun H ds hl => by
      have : Try.f7.params.toList = [26, 26] := by rw [Try.params7]
      rw [this] at hl
      match ds, hl with
      | [d1, d2], _ => rfl)
    variables_law started
    (ChangeSpec.witness6 (enc := enc) (C := Try.checked) false ⟨#[], #[zeroT, zeroT], []⟩ 8 (by kernel_rfl) (by kernel_rfl) (by kernel_rfl) (by kernel_rfl))
theorem PatternVariables_holds : Rows.PatternVariablesSaid :=
  OpenClaim.holds_of_wide 7 Try.f7 rfl rfl rfl rfl rfl rfl rfl ⟨rfl, rfl, rfl, rfl, rfl⟩ rfl rfl rfl rfl rfl (by kernel_rfl) Try.func7 (by kernel_rfl)
    (of_decide_eq_true (by kernel_rfl)) (by unfold Func.isWrapper; first | (rw [if_pos (by decide +kernel)]; kernel_rfl) | (rw [if_neg (by decide +kernel)]; exact ⟨rfl, rfl⟩))
    (fun os started H enc _ => variables_lifted os started H enc)
end Go.Proofs.Ytncolifaemncbaa
