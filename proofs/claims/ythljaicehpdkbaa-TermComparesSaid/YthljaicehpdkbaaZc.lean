/- One law's row: the order of terms is the reference's, and an order. -/
import Derived.Test.YthljaicehpdkbaaZl
namespace Go.Proofs.Ythljaicehpdkbaa
open Go Go.AE Go.AE.S
open Go.ChangeShapes Go.WideShapes Go.ChangeAt Go.RowKit
theorem termCompares_law : ∀ cs, AllTy Try.prog Try.f6.params.toList cs → R P f_law06_TermCompares (argsOf Try.prog Try.f6.params.toList cs) = some (.bool true) := by
  intro cs h
  have hp : Try.f6.params.toList = [26, 26, 26] := by rw [Try.params6]
  rw [hp] at h ⊢
  match cs, h with
  | [c0, c1, c2], ⟨h0, h1, h2, _⟩ =>
    obtain ⟨x0, rfl, y0⟩ := (inv_terms termTy h0).1 rfl
    obtain ⟨x1, rfl, y1⟩ := (inv_terms termTy h1).1 rfl
    obtain ⟨x2, rfl, y2⟩ := (inv_terms termTy h2).1 rfl
    simp only [argsOf, arg_T]
    exact p_TermCompares x0 x1 x2 y0 y1 y2
set_option maxRecDepth 100000 in
theorem termCompares_lifted (os : Os) (started : os.Started) (H : Type) (enc : TypeId × Value → H) :
    ReturnsInHanded {} Try.checked os 6 .any (Rows.termComparesSpec.pre6 enc Try.prog Try.f6 Rows.termComparesRow.domain false) (Rows.termComparesSpec.post enc Try.prog Try.f6 false true false false) :=
  law_lifted (C := Try.checked) progOk read laid own Try.func6 (by kernel_rfl)
    (fun t ht => by have : Try.f6.params.toList = [26, 26, 26] := by rw [Try.params6]
                    rw [this] at ht; revert t; decide)
    (fun t ht => by have : Try.f6.params.toList = [26, 26, 26] := by rw [Try.params6]
                    rw [this] at ht
                    rcases List.mem_cons.1 ht with rfl | ht
                    · exact ⟨by kernel_rfl, of_decide_eq_true (by kernel_rfl)⟩
                    · rcases List.mem_cons.1 ht with rfl | ht
                      · exact ⟨by kernel_rfl, of_decide_eq_true (by kernel_rfl)⟩
                      · rcases List.mem_cons.1 ht with rfl | ht
                        · exact ⟨by kernel_rfl, of_decide_eq_true (by kernel_rfl)⟩
                        · simp at ht)
    (tb := 4) (by kernel_rfl) Try.underlying4 rfl
    (fun H ds hl => by
      have : Try.f6.params.toList = [26, 26, 26] := by rw [Try.params6]
      rw [this] at hl
      match ds, hl with
      | [d0, d1, d2], _ => rfl)
    termCompares_law started
    (ChangeSpec.witness6 (enc := enc) (C := Try.checked) false ⟨#[], #[zeroT, zeroT, zeroT], []⟩ 8 (by kernel_rfl) (by kernel_rfl) (by kernel_rfl) (by kernel_rfl))
theorem TermCompares_holds : Rows.TermComparesSaid :=
  OpenClaim.holds_of_wide 6 Try.f6 rfl rfl rfl rfl rfl rfl rfl ⟨rfl, rfl, rfl, rfl, rfl⟩ rfl rfl rfl rfl rfl (by kernel_rfl) Try.func6 (by kernel_rfl)
    (of_decide_eq_true (by kernel_rfl)) (by unfold Func.isWrapper; first | (rw [if_pos (by decide +kernel)]; kernel_rfl) | (rw [if_neg (by decide +kernel)]; exact ⟨rfl, rfl⟩))
    (fun os started H enc _ => termCompares_lifted os started H enc)
end Go.Proofs.Ythljaicehpdkbaa
