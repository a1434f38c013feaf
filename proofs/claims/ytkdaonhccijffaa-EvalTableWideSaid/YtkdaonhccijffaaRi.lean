/- One law's row: tables have an entry for each assignment of up to 16 bits. -/
import Derived.Test.YtkdaonhccijffaaZl
import Derived.Test.YtkdaonhccijffaaDe
namespace Go.Proofs.Ytkdaonhccijffaa
open Go Go.AE Go.AE.S
open Go.ChangeShapes Go.WideShapes Go.ChangeAt Go.RowKit
theorem evalTableWide_law : ∀ cs, AllTy Try.prog Try.f3.params.toList cs → R P f_law08_EvalTableWide (argsOf Try.prog Try.f3.params.toList cs) = some (.bool true) := by
  intro cs h
  have hp : Try.f3.params.toList = [5, 22] := by rw [Try.params3]
  rw [hp] at h ⊢
  match cs, h with
  | [c0, c1], ⟨h0, h1, _⟩ =>
    obtain ⟨x0, rfl, y0⟩ := inv_int Try.underlying5 h0
    obtain ⟨x1, rfl, y1⟩ := inv_int Try.underlying22 h1
    simp only [argsOf, arg_u, arg_x]
    exact p_EvalTableWide x0 ⟨y0.1, y0.2⟩ x1 ⟨y1.1, y1.2⟩
set_option maxRecDepth 100000 in
theorem evalTableWide_lifted (os : Os) (started : os.Started) (H : Type) (enc : TypeId × Value → H) :
    ReturnsInHanded {} Try.checked os 3 .any (Rows.evalTableWideSpec.pre6 enc Try.prog Try.f3 Rows.evalTableWideRow.domain false) (Rows.evalTableWideSpec.post enc Try.prog Try.f3 false true false false) :=
  law_lifted (C := Try.checked) progOk read laid own Try.func3 (by kernel_rfl)
    (fun t ht => by have : Try.f3.params.toList = [5, 22] := by rw [Try.params3]
                    rw [this] at ht; revert t; decide)
    (fun t ht => by have : Try.f3.params.toList = [5, 22] := by rw [Try.params3]
                    rw [this] at ht
                    rcases List.mem_cons.1 ht with rfl | ht
                    · exact ⟨by kernel_rfl, of_decide_eq_true (by kernel_rfl)⟩
                    · rcases List.mem_cons.1 ht with rfl | ht
                      · exact ⟨by kernel_rfl, of_decide_eq_true (by kernel_rfl)⟩
                      · simp at ht)
    (tb := 4) (by kernel_rfl) Try.underlying4 rfl
    (fun H ds hl => by
      have : Try.f3.params.toList = [5, 22] := by rw [Try.params3]
      rw [this] at hl
      match ds, hl with
      | [d0, d1], _ => rfl)
    evalTableWide_law started
    (ChangeSpec.witness6 (enc := enc) (C := Try.checked) false ⟨#[], #[.int .u8 0, .int .u32 0], []⟩ 8 (by kernel_rfl) (by kernel_rfl) (by kernel_rfl) (by kernel_rfl))
theorem EvalTableWide_holds : Rows.EvalTableWideSaid :=
  OpenClaim.holds_of_wide 3 Try.f3 rfl rfl rfl rfl rfl rfl rfl ⟨rfl, rfl, rfl, rfl, rfl⟩ rfl rfl rfl rfl rfl (by kernel_rfl) Try.func3 (by kernel_rfl)
    (of_decide_eq_true (by kernel_rfl)) (by unfold Func.isWrapper; first | (rw [if_pos (by decide +kernel)]; kernel_rfl) | (rw [if_neg (by decide +kernel)]; exact ⟨rfl, rfl⟩))
    (fun os started H enc _ => evalTableWide_lifted os started H enc)
end Go.Proofs.Ytkdaonhccijffaa
