/- One law's row: Check, Name, Size, Depth and Vars are the reference's. -/
import Derived.Test.YthljaicehpdkbaaZd
import Derived.Test.YthljaicehpdkbaaC7
namespace Go.Proofs.Ythljaicehpdkbaa
open Go Go.AE Go.AE.S
open Go.ChangeShapes Go.WideShapes Go.ChangeAt Go.RowKit
theorem termChecks_law : ∀ cs, AllTy Try.prog Try.f3.params.toList cs → R P f_law06_TermChecks (argsOf Try.prog Try.f3.params.toList cs) = some (.bool true) := by
  intro cs h
  have hp : Try.f3.params.toList = [26, 9] := by rw [Try.params3]
  rw [hp] at h ⊢
  match cs, h with
  | [c0, c1], ⟨h0, h1, _⟩ =>
    obtain ⟨x0, rfl, y0⟩ := (inv_terms termTy h0).1 rfl
    obtain ⟨x1, rfl, y1⟩ := inv_str Try.underlying9 h1
    simp only [argsOf, arg_T, arg_s]
    exact p_TermChecks x0 x1 y0
set_option maxRecDepth 100000 in
theorem termChecks_lifted (os : Os) (started : os.Started) (H : Type) (enc : TypeId × Value → H) :
    ReturnsInHanded {} Try.checked os 3 .any (Rows.termChecksSpec.pre6 enc Try.prog Try.f3 Rows.termChecksRow.domain false) (Rows.termChecksSpec.post enc Try.prog Try.f3 false true false false) :=
  law_lifted (C := Try.checked) progOk read laid own Try.func3 (by kernel_rfl)
    (fun t ht => by have : Try.f3.params.toList = [26, 9] := by rw [Try.params3]
                    rw [this] at ht; revert t; decide)
    (fun t ht => by have : Try.f3.params.toList = [26, 9] := by rw [Try.params3]
                    rw [this] at ht
                    rcases List.mem_cons.1 ht with rfl | ht
                    · exact ⟨by kernel_rfl, of_decide_eq_true (by kernel_rfl)⟩
                    · rcases List.mem_cons.1 ht with rfl | ht
                      · exact ⟨by kernel_rfl, of_decide_eq_true (by kernel_rfl)⟩
                      · simp at ht)
    (tb := 4) (by kernel_rfl) Try.underlying4 rfl
    (fun H ds hl => by
      have : Try.f3.params.toList = [26, 9] := by rw [Try.params3]
      rw [this] at hl
      match ds, hl with
      | [d0, d1], _ => rfl)
    termChecks_law started
    (ChangeSpec.witness6 (enc := enc) (C := Try.checked) false ⟨#[], #[zeroT, .string "".toUTF8], []⟩ 8 (by kernel_rfl) (by kernel_rfl) (by kernel_rfl) (by kernel_rfl))
theorem TermChecks_holds : Rows.TermChecksSaid :=
  OpenClaim.holds_of_wide 3 Try.f3 rfl rfl rfl rfl rfl rfl rfl ⟨rfl, rfl, rfl, rfl, rfl⟩ rfl rfl rfl rfl rfl (by kernel_rfl) Try.func3 (by kernel_rfl)
    (of_decide_eq_true (by kernel_rfl)) (by unfold Func.isWrapper; first | (rw [if_pos (by decide +kernel)]; kernel_rfl) | (rw [if_neg (by decide +kernel)]; exact ⟨rfl, rfl⟩))
    (fun os started H enc _ => termChecks_lifted os started H enc)
end Go.Proofs.Ythljaicehpdkbaa
