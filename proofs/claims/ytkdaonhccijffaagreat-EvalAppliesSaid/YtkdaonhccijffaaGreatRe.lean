/- One law's row: Apply is the reference's. -/
import Derived.Test.YtkdaonhccijffaaGreatZl
import Derived.Test.YtkdaonhccijffaaGreatD7
namespace Go.Proofs.YtkdaonhccijffaaGreat
open Go Go.AE Go.AE.S
open Go.ChangeShapes Go.WideShapes Go.ChangeAt Go.RowKit
theorem evalApplies_law : ∀ cs, AllTy Tryz.prog Tryz.f8.params.toList cs → R P f_law08_EvalApplies (argsOf Tryz.prog Tryz.f8.params.toList cs) = some (.bool true) := by
  intro cs h
  have hp : Tryz.f8.params.toList = [22, 3, 23, 52] := by rw [Tryz.params8]
  rw [hp] at h ⊢
  match cs, h with
  | [c0, c1, c2, c3], ⟨h0, h1, h2, h3, _⟩ =>
    obtain ⟨x0, rfl, y0⟩ := inv_int Tryz.underlying22 h0
    obtain ⟨x1, rfl, y1⟩ := inv_int Tryz.underlying3 h1
    obtain ⟨x2, rfl, y2⟩ := inv_int Tryz.underlying23 h2
    obtain ⟨x3, rfl, y3, z3⟩ := in_words h3
    simp only [argsOf, arg_O, arg_U, arg_i, arg_w]
    exact p_EvalApplies x0 ⟨y0.1, y0.2⟩ x1 ⟨y1.1, y1.2⟩ x2 ⟨y2.1, y2.2⟩ x3 y3 z3
set_option maxRecDepth 100000 in
theorem evalApplies_lifted (os : Os) (started : os.Started) (H : Type) (enc : TypeId × Value → H) :
    ReturnsInHanded {} Tryz.checked os 8 .any (Rows.evalAppliesSpec.pre6 enc Tryz.prog Tryz.f8 Rows.evalAppliesRow.domain false) (Rows.evalAppliesSpec.post enc Tryz.prog Tryz.f8 false true false false) :=
  law_lifted (C := Tryz.checked) progOk read laid own Tryz.func8 (by kernel_rfl)
    (fun t ht => by have : Tryz.f8.params.toList = [22, 3, 23, 52] := by rw [Tryz.params8]
                    rw [this] at ht; revert t; decide)
    (fun t ht => by have : Tryz.f8.params.toList = [22, 3, 23, 52] := by rw [Tryz.params8]
                    rw [this] at ht
                    rcases List.mem_cons.1 ht with rfl | ht
                    · exact ⟨by kernel_rfl, of_decide_eq_true (by kernel_rfl)⟩
                    · rcases List.mem_cons.1 ht with rfl | ht
                      · exact ⟨by kernel_rfl, of_decide_eq_true (by kernel_rfl)⟩
                      · rcases List.mem_cons.1 ht with rfl | ht
                        · exact ⟨by kernel_rfl, of_decide_eq_true (by kernel_rfl)⟩
                        · rcases List.mem_cons.1 ht with rfl | ht
                          · exact ⟨by kernel_rfl, of_decide_eq_true (by kernel_rfl)⟩
                          · simp at ht)
    (tb := 4) (by kernel_rfl) Tryz.underlying4 rfl
    (fun H ds hl => by
      have : Tryz.f8.params.toList = [22, 3, 23, 52] := by rw [Tryz.params8]
      rw [this] at hl
      match ds, hl with
      | [d0, d1, d2, d3], _ => rfl)
    evalApplies_law started
    (ChangeSpec.witness6 (enc := enc) (C := Tryz.checked) false ⟨#[], #[.int .i64 0, .int .i64 0, .int .u64 0, .slice none 0 0], []⟩ 8 (by kernel_rfl) (by kernel_rfl) (by kernel_rfl) (by kernel_rfl))
theorem EvalApplies_holds : Rows.EvalAppliesSaid :=
  OpenClaim.holds_of_wide 8 Tryz.f8 rfl rfl rfl rfl rfl rfl rfl ⟨rfl, rfl, rfl, rfl, rfl⟩ rfl rfl rfl rfl rfl (by kernel_rfl) Tryz.func8 (by kernel_rfl)
    (of_decide_eq_true (by kernel_rfl)) (by unfold Func.isWrapper; first | (rw [if_pos (by decide +kernel)]; kernel_rfl) | (rw [if_neg (by decide +kernel)]; exact ⟨rfl, rfl⟩))
    (fun os started H enc _ => evalApplies_lifted os started H enc)
end Go.Proofs.YtkdaonhccijffaaGreat
