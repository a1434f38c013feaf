/- One law's row: the widths that the pattern's nodes have are those that the reference tells. -/
import Derived.Test.YtncolifaemncbaaZl
namespace Go.Proofs.Ytncolifaemncbaa
open Go Go.AE Go.AE.S
open Go.ChangeShapes Go.WideShapes Go.ChangeAt Go.RowKit
theorem widths_law : ∀ cs, AllTy Try.prog Try.f4.params.toList cs → R P f_law24_PatternWidths (argsOf Try.prog Try.f4.params.toList cs) = some (.bool true) := by
  intro cs h
  have hp : Try.f4.params.toList = [26, 3] := by rw [Try.params4]
  rw [hp] at h ⊢
  match cs, h with
  | [c0, c1], ⟨h0, h1, _⟩ =>
    obtain ⟨t, rfl, ht⟩ := (inv_terms termTy h0).1 rfl
    obtain ⟨b, rfl, hb⟩ := inv_int Try.underlying3 h1
    simp only [argsOf, arg_T, arg_i]
    exact p_PatternWidths t ht b ⟨hb.1, hb.2⟩
set_option maxRecDepth 100000 in
theorem widths_lifted (os : Os) (started : os.Started) (H : Type) (enc : TypeId × Value → H) :
    ReturnsInHanded {} Try.checked os 4 .any (Rows.patternWidthsSpec.pre6 enc Try.prog Try.f4 Rows.patternWidthsRow.domain false) (Rows.patternWidthsSpec.post enc Try.prog Try.f4 false true false false) :=
  law_lifted (C := Try.checked) progOk read laid own Try.func4 (by kernel_rfl)
    (fun t ht => by have : Try.f4.params.toList = [26, 3] := by rw [Try.params4]
                    rw [this] at ht; revert t; decide)
    (fun t ht => by have : Try.f4.params.toList = [26, 3] := by rw [Try.params4]
                    rw [this] at ht
                    rcases List.mem_cons.1 ht with rfl | ht
                    · exact ⟨by kernel_rfl, of_decide_eq_true (by kernel_rfl)⟩
                    · rcases List.mem_cons.1 ht with rfl | ht
                      · exact ⟨by kernel_rfl, of_decide_eq_true (by kernel_rfl)⟩
                      · simp at ht)
    (tb := 4) (by kernel_rfl) Try.underlying4 rfl
    (fun H ds hl => by
      have : Try.f4.params.toList = [26, 3] := by rw [Try.params4]
      rw [this] at hl
      match ds, hl with
      | [d1, d2], _ => rfl)
    widths_law started
    (ChangeSpec.witness6 (enc := enc) (C := Try.checked) false ⟨#[], #[zeroT, .int .i64 0], []⟩ 8 (by kernel_rfl) (by kernel_rfl) (by kernel_rfl) (by kernel_rfl))
theorem PatternWidths_holds : Rows.PatternWidthsSaid :=
  OpenClaim.holds_of_wide 4 Try.f4 rfl rfl rfl rfl rfl rfl rfl ⟨rfl, rfl, rfl, rfl, rfl⟩ rfl rfl rfl rfl rfl (by kernel_rfl) Try.func4 (by kernel_rfl)
    (of_decide_eq_true (by kernel_rfl)) (by unfold Func.isWrapper; first | (rw [if_pos (by decide +kernel)]; kernel_rfl) | (rw [if_neg (by decide +kernel)]; exact ⟨rfl, rfl⟩))
    (fun os started H enc _ => widths_lifted os started H enc)
end Go.Proofs.Ytncolifaemncbaa
