/- One law's row: a lesser subterm makes a lesser term. -/
import Derived.Test.YthljaicehpdkbaaZe
import Derived.Test.YthljaicehpdkbaaC6
namespace Go.Proofs.Ythljaicehpdkbaa
open Go Go.AE Go.AE.S
open Go.ChangeShapes Go.WideShapes Go.ChangeAt Go.RowKit
theorem termLess_law : ∀ cs, AllTy Try.prog Try.f9.params.toList cs → R P f_law06_TermLess (argsOf Try.prog Try.f9.params.toList cs) = some (.bool true) := by
  intro cs h
  have hp : Try.f9.params.toList = [26, 26, 54] := by rw [Try.params9]
  rw [hp] at h ⊢
  match cs, h with
  | [c0, c1, c2], ⟨h0, h1, h2, _⟩ =>
    obtain ⟨x0, rfl, y0⟩ := (inv_terms termTy h0).1 rfl
    obtain ⟨x1, rfl, y1⟩ := (inv_terms termTy h1).1 rfl
    obtain ⟨x2, rfl⟩ := inv_ints Try.underlying54 Try.underlying3 h2
    simp only [argsOf, arg_T, arg_p]
    exact p_TermLess x0 x1 x2 y0 y1
set_option maxRecDepth 100000 in
theorem termLess_lifted (os : Os) (started : os.Started) (H : Type) (enc : TypeId × Value → H) :
    ReturnsInHanded {} Try.checked os 9 .any (Rows.termLessSpec.pre6 enc Try.prog Try.f9 Rows.termLessRow.domain false) (Rows.termLessSpec.post enc Try.prog Try.f9 false true false false) :=
  law_lifted (C := Try.checked) progOk read laid own Try.func9 (by kernel_rfl)
    (fun t ht => by have : Try.f9.params.toList = [26, 26, 54] := by rw [Try.params9]
                    rw [this] at ht; revert t; decide)
    (fun t ht => by have : Try.f9.params.toList = [26, 26, 54] := by rw [Try.params9]
                    rw [this] at ht
                    rcases List.mem_cons.1 ht with rfl | ht
                    · exact ⟨by kernel_rfl, of_decide_eq_true (by kernel_rfl)⟩
                    · rcases List.mem_cons.1 ht with rfl | ht
                      · exact ⟨by kernel_rfl, of_decide_eq_true (by kernel_rfl)⟩
                      · rcases List.mem_cons.1 ht with rfl | ht
                        · exact ⟨by kernel_rfl, of_decide_eq_true (by kernel_rfl)⟩
                        · simp at ht)
    (tb := 4) (by kernel_rfl) Try.underlying4 rfl
    (fun H ds hl => by
      have : Try.f9.params.toList = [26, 26, 54] := by rw [Try.params9]
      rw [this] at hl
      match ds, hl with
      | [d0, d1, d2], _ => rfl)
    termLess_law started
    (ChangeSpec.witness6 (enc := enc) (C := Try.checked) false ⟨#[], #[zeroT, zeroT, .slice none 0 0], []⟩ 8 (by kernel_rfl) (by kernel_rfl) (by kernel_rfl) (by kernel_rfl))
theorem TermLess_holds : Rows.TermLessSaid :=
  OpenClaim.holds_of_wide 9 Try.f9 rfl rfl rfl rfl rfl rfl rfl ⟨rfl, rfl, rfl, rfl, rfl⟩ rfl rfl rfl rfl rfl (by kernel_rfl) Try.func9 (by kernel_rfl)
    (of_decide_eq_true (by kernel_rfl)) (by unfold Func.isWrapper; first | (rw [if_pos (by decide +kernel)]; kernel_rfl) | (rw [if_neg (by decide +kernel)]; exact ⟨rfl, rfl⟩))
    (fun os started H enc _ => termLess_lifted os started H enc)
end Go.Proofs.Ythljaicehpdkbaa
