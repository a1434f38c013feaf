/- One law's row: a valid pattern at a width is valid and not generic, or stays. -/
import Derived.Test.YtncolifaemncbaaZl
import Derived.Test.YtncolifaemncbaaB8
namespace Go.Proofs.Ytncolifaemncbaa
open Go Go.AE Go.AE.S
open Go.ChangeShapes Go.WideShapes Go.ChangeAt Go.RowKit
theorem patternStays_law : ∀ cs, AllTy Try.prog Try.f5.params.toList cs → R P f_law24_PatternStays (argsOf Try.prog Try.f5.params.toList cs) = some (.bool true) := by
  intro cs h
  have hp : Try.f5.params.toList = [26, 3, 4] := by rw [Try.params5]
  rw [hp] at h ⊢
  match cs, h with
  | [c0, c1, c2], ⟨h0, h1, h2, _⟩ =>
    obtain ⟨x0, rfl, y0⟩ := (inv_terms termTy h0).1 rfl
    obtain ⟨x1, rfl, y1⟩ := inv_int Try.underlying3 h1
    obtain ⟨x2, rfl⟩ := inv_bool Try.underlying4 h2
    simp only [argsOf, arg_T, arg_b, arg_i]
    exact p_PatternStays x0 y0 x1 ⟨y1.1, y1.2⟩ x2
set_option maxRecDepth 100000 in
theorem patternStays_lifted (os : Os) (started : os.Started) (H : Type) (enc : TypeId × Value → H) :
    ReturnsInHanded {} Try.checked os 5 .any (Rows.patternStaysSpec.pre6 enc Try.prog Try.f5 Rows.patternStaysRow.domain false) (Rows.patternStaysSpec.post enc Try.prog Try.f5 false true false false) :=
  law_lifted (C := Try.checked) progOk read laid own Try.func5 (by kernel_rfl)
    (fun t ht => by have : Try.f5.params.toList = [26, 3, 4] := by rw [Try.params5]
                    rw [this] at ht; revert t; decide)
    (fun t ht => by have : Try.f5.params.toList = [26, 3, 4] := by rw [Try.params5]
                    rw [this] at ht
                    rcases List.mem_cons.1 ht with rfl | ht
                    · exact ⟨by kernel_rfl, of_decide_eq_true (by kernel_rfl)⟩
                    · rcases List.mem_cons.1 ht with rfl | ht
                      · exact ⟨by kernel_rfl, of_decide_eq_true (by kernel_rfl)⟩
                      · rcases List.mem_cons.1 ht with rfl | ht
                        · exact ⟨by kernel_rfl, of_decide_eq_true (by kernel_rfl)⟩
                        · simp at ht)
    (tb := 4) (by kernel_rfl) Try.underlying4 rfl
    (fun H ds hl => by
      have : Try.f5.params.toList = [26, 3, 4] := by rw [Try.params5]
      rw [this] at hl
      match ds, hl with
      | [d0, d1, d2], _ => rfl)
    patternStays_law started
    (ChangeSpec.witness6 (enc := enc) (C := Try.checked) false ⟨#[], #[zeroT, .int .i64 0, .bool false], []⟩ 8 (by kernel_rfl) (by kernel_rfl) (by kernel_rfl) (by kernel_rfl))
theorem PatternStays_holds : Rows.PatternStaysSaid :=
  OpenClaim.holds_of_wide 5 Try.f5 rfl rfl rfl rfl rfl rfl rfl ⟨rfl, rfl, rfl, rfl, rfl⟩ rfl rfl rfl rfl rfl (by kernel_rfl) Try.func5 (by kernel_rfl)
    (of_decide_eq_true (by kernel_rfl)) (by unfold Func.isWrapper; first | (rw [if_pos (by decide +kernel)]; kernel_rfl) | (rw [if_neg (by decide +kernel)]; exact ⟨rfl, rfl⟩))
    (fun os started H enc _ => patternStays_lifted os started H enc)
end Go.Proofs.Ytncolifaemncbaa
