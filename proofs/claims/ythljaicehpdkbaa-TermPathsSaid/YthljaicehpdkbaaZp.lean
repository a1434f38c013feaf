/- One law's row: At and Put are the reference's. -/
import Derived.Test.YthljaicehpdkbaaZe
import Derived.Test.YthljaicehpdkbaaC6
namespace Go.Proofs.Ythljaicehpdkbaa
open Go Go.AE Go.AE.S
open Go.ChangeShapes Go.WideShapes Go.ChangeAt Go.RowKit
theorem termPaths_law : ∀ cs, AllTy Try.prog Try.f8.params.toList cs → R P f_law06_TermPaths (argsOf Try.prog Try.f8.params.toList cs) = some (.bool true) := by
  intro cs h
  have hp : Try.f8.params.toList = [26, 26, 54] := by rw [Try.params8]
  rw [hp] at h ⊢
  match cs, h with
  | [c0, c1, c2], ⟨h0, h1, h2, _⟩ =>
    obtain ⟨x0, rfl, y0⟩ := (inv_terms termTy h0).1 rfl
    obtain ⟨x1, rfl, y1⟩ := (inv_terms termTy h1).1 rfl
    obtain ⟨x2, rfl⟩ := inv_ints Try.underlying54 Try.underlying3 h2
    simp only [argsOf, arg_T, arg_p]
    exact p_TermPaths x0 x1 x2 y0 y1
set_option maxRecDepth 100000 in
theorem termPaths_lifted (os : Os) (started : os.Started) (H : Type) (enc : TypeId × Value → H) :
    ReturnsInHanded {} Try.checked os 8 .any (Rows.termPathsSpec.pre6 enc Try.prog Try.f8 Rows.termPathsRow.domain false) (Rows.termPathsSpec.post enc Try.prog Try.f8 false true false false) :=
  law_lifted (C := Try.checked) progOk read laid own Try.func8 (by kernel_rfl)
    (fun t ht => by have : Try.f8.params.toList = [26, 26, 54] := by rw [Try.params8]
                    rw [this] at ht; revert t; decide)
    (fun t ht => by have : Try.f8.params.toList = [26, 26, 54] := by rw [Try.params8]
                    rw [this] at ht
                    rcases List.mem_cons.1 ht with rfl | ht
                    · exact ⟨by kernel_rfl, of_decide_eq_true (by kernel_rfl)⟩
                    · rcases List.mem_cons.1 ht with rfl | ht
                      · exact ⟨by kernel_rfl, of_decide_eq_true (by kernel_rfl)⟩
                      · rcases List.mem_cons.1 ht with rfl | ht
                        · exact ⟨by kernel_rfl, of_decide_eq_true (by kernel_rfl)⟩
                        · simp at ht)
    (tb := 4) (by kernel_rfl) Try.underlying4 rfl
    (fun H ds hl => by
      have : Try.f8.params.toList = [26, 26, 54] := by rw [Try.params8]
      rw [this] at hl
      match ds, hl with
      | [d0, d1, d2], _ => rfl)
    termPaths_law started
    (ChangeSpec.witness6 (enc := enc) (C := Try.checked) false ⟨#[], #[zeroT, zeroT, .slice none 0 0], []⟩ 8 (by kernel_rfl) (by kernel_rfl) (by kernel_rfl) (by kernel_rfl))
theorem TermPaths_holds : Rows.TermPathsSaid :=
  OpenClaim.holds_of_wide 8 Try.f8 rfl rfl rfl rfl rfl rfl rfl ⟨rfl, rfl, rfl, rfl, rfl⟩ rfl rfl rfl rfl rfl (by kernel_rfl) Try.func8 (by kernel_rfl)
    (of_decide_eq_true (by kernel_rfl)) (by unfold Func.isWrapper; first | (rw [if_pos (by decide +kernel)]; kernel_rfl) | (rw [if_neg (by decide +kernel)]; exact ⟨rfl, rfl⟩))
    (fun os started H enc _ => termPaths_lifted os started H enc)
end Go.Proofs.Ythljaicehpdkbaa
