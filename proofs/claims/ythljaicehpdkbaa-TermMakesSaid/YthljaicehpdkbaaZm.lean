/- One law's row: Var, Const and Make are the reference's. -/
import Derived.Test.YthljaicehpdkbaaZd
import Derived.Test.YthljaicehpdkbaaC5
namespace Go.Proofs.Ythljaicehpdkbaa
open Go Go.AE Go.AE.S
open Go.ChangeShapes Go.WideShapes Go.ChangeAt Go.RowKit
theorem termMakes_law : ∀ cs, AllTy Try.prog Try.f5.params.toList cs → R P f_law06_TermMakes (argsOf Try.prog Try.f5.params.toList cs) = some (.bool true) := by
  intro cs h
  have hp : Try.f5.params.toList = [9, 3, 23, 22, 24] := by rw [Try.params5]
  rw [hp] at h ⊢
  match cs, h with
  | [c0, c1, c2, c3, c4], ⟨h0, h1, h2, h3, h4, _⟩ =>
    obtain ⟨x0, rfl, y0⟩ := inv_str Try.underlying9 h0
    obtain ⟨x1, rfl, y1⟩ := inv_int Try.underlying3 h1
    obtain ⟨x2, rfl, y2⟩ := inv_int Try.underlying23 h2
    obtain ⟨x3, rfl, y3⟩ := inv_int Try.underlying22 h3
    obtain ⟨x4, rfl, y4⟩ := (inv_terms termTy h4).2 rfl
    simp only [argsOf, arg_O, arg_U, arg_i, arg_l, arg_s]
    exact p_TermMakes x0 y0 x1 x2 x3 ⟨y2.1, y2.2⟩ ⟨y3.1, y3.2⟩ x4 y4.2 y4.1
set_option maxRecDepth 100000 in
theorem termMakes_lifted (os : Os) (started : os.Started) (H : Type) (enc : TypeId × Value → H) :
    ReturnsInHanded {} Try.checked os 5 .any (Rows.termMakesSpec.pre6 enc Try.prog Try.f5 Rows.termMakesRow.domain false) (Rows.termMakesSpec.post enc Try.prog Try.f5 false true false false) :=
  law_lifted (C := Try.checked) progOk read laid own Try.func5 (by kernel_rfl)
    (fun t ht => by have : Try.f5.params.toList = [9, 3, 23, 22, 24] := by rw [Try.params5]
                    rw [this] at ht; revert t; decide)
    (fun t ht => by have : Try.f5.params.toList = [9, 3, 23, 22, 24] := by rw [Try.params5]
                    rw [this] at ht
                    rcases List.mem_cons.1 ht with rfl | ht
                    · exact ⟨by kernel_rfl, of_decide_eq_true (by kernel_rfl)⟩
                    · rcases List.mem_cons.1 ht with rfl | ht
                      · exact ⟨by kernel_rfl, of_decide_eq_true (by kernel_rfl)⟩
                      · rcases List.mem_cons.1 ht with rfl | ht
                        · exact ⟨by kernel_rfl, of_decide_eq_true (by kernel_rfl)⟩
                        · rcases List.mem_cons.1 ht with rfl | ht
                          · exact ⟨by kernel_rfl, of_decide_eq_true (by kernel_rfl)⟩
                          · rcases List.mem_cons.1 ht with rfl | ht
                            · exact ⟨by kernel_rfl, of_decide_eq_true (by kernel_rfl)⟩
                            · simp at ht)
    (tb := 4) (by kernel_rfl) Try.underlying4 rfl
    (fun H ds hl => by
      have : Try.f5.params.toList = [9, 3, 23, 22, 24] := by rw [Try.params5]
      rw [this] at hl
      match ds, hl with
      | [d0, d1, d2, d3, d4], _ => rfl)
    termMakes_law started
    (ChangeSpec.witness6 (enc := enc) (C := Try.checked) false ⟨#[], #[.string "".toUTF8, .int .i64 0, .int .u64 0, .int .i64 0, .slice none 0 0], []⟩ 8 (by kernel_rfl) (by kernel_rfl) (by kernel_rfl) (by kernel_rfl))
theorem TermMakes_holds : Rows.TermMakesSaid :=
  OpenClaim.holds_of_wide 5 Try.f5 rfl rfl rfl rfl rfl rfl rfl ⟨rfl, rfl, rfl, rfl, rfl⟩ rfl rfl rfl rfl rfl (by kernel_rfl) Try.func5 (by kernel_rfl)
    (of_decide_eq_true (by kernel_rfl)) (by unfold Func.isWrapper; first | (rw [if_pos (by decide +kernel)]; kernel_rfl) | (rw [if_neg (by decide +kernel)]; exact ⟨rfl, rfl⟩))
    (fun os started H enc _ => termMakes_lifted os started H enc)
end Go.Proofs.Ythljaicehpdkbaa
