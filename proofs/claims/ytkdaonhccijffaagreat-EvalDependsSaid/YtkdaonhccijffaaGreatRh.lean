/- One law's row: the value depends only on the term's variables. -/
import Derived.Test.YtkdaonhccijffaaGreatZl
import Derived.Test.YtkdaonhccijffaaGreatDb
import Derived.Test.YtkdaonhccijffaaGreatA7
namespace Go.Proofs.YtkdaonhccijffaaGreat
open Go Go.AE Go.AE.S
open Go.ChangeShapes Go.WideShapes Go.ChangeAt Go.RowKit
theorem evalDepends_law : ∀ cs, AllTy Tryz.prog Tryz.f6.params.toList cs → AllSz Tryz.prog Tryz.f6.params.toList cs → R P f_law08_EvalDepends (argsOf Tryz.prog Tryz.f6.params.toList cs) = some (.bool true) := by
  intro cs h hs
  have hp : Tryz.f6.params.toList = [26, 27, 41] := by rw [Tryz.params6]
  rw [hp] at h hs ⊢
  match cs, h, hs with
  | [c0, c1, c2], ⟨h0, h1, h2, _⟩, ⟨_, s1, _⟩ =>
    obtain ⟨x0, rfl, y0⟩ := (inv_terms termTy h0).1 rfl
    obtain ⟨x1, rfl, y1, z1⟩ := in_binds h1
    obtain ⟨x2, rfl, y2, z2⟩ := in_bind h2
    have hz := s1 41 _ Tryz.underlying27 rfl
    have hb : Tryz.prog.bytesOf 41 = 24 := by kernel_rfl
    rw [hb, List.length_map] at hz
    simp only [argsOf, arg_A, arg_B, arg_T]
    exact p_EvalDepends x0 y0 x1 (fun b hb => (y1 b hb).1) hz x2 y2
set_option maxRecDepth 100000 in
theorem evalDepends_lifted (os : Os) (started : os.Started) (H : Type) (enc : TypeId × Value → H) :
    ReturnsInHanded {} Tryz.checked os 6 .any (Rows.evalDependsSpec.pre6 enc Tryz.prog Tryz.f6 Rows.evalDependsRow.domain false) (Rows.evalDependsSpec.post enc Tryz.prog Tryz.f6 false true false false) :=
  law_sized (C := Tryz.checked) progOk read laid own Tryz.func6 (by kernel_rfl)
    (fun t ht => by have : Tryz.f6.params.toList = [26, 27, 41] := by rw [Tryz.params6]
                    rw [this] at ht; revert t; decide)
    (fun t ht => by have : Tryz.f6.params.toList = [26, 27, 41] := by rw [Tryz.params6]
                    rw [this] at ht
                    rcases List.mem_cons.1 ht with rfl | ht
                    · exact ⟨by kernel_rfl, of_decide_eq_true (by kernel_rfl)⟩
                    · rcases List.mem_cons.1 ht with rfl | ht
                      · exact ⟨by kernel_rfl, of_decide_eq_true (by kernel_rfl)⟩
                      · rcases List.mem_cons.1 ht with rfl | ht
                        · exact ⟨by kernel_rfl, of_decide_eq_true (by kernel_rfl)⟩
                        · simp at ht)
    (tb := 4) (by kernel_rfl) Tryz.underlying4 rfl
    (fun H ds hl => by
      have : Tryz.f6.params.toList = [26, 27, 41] := by rw [Tryz.params6]
      rw [this] at hl
      match ds, hl with
      | [d0, d1, d2], _ => rfl)
    evalDepends_law started
    (ChangeSpec.witness6 (enc := enc) (C := Tryz.checked) false ⟨#[], #[zeroT, .slice none 0 0, .agg #[.string "".toUTF8, .int .u64 0]], []⟩ 8 (by kernel_rfl) (by kernel_rfl) (by kernel_rfl) (by kernel_rfl))
theorem EvalDepends_holds : Rows.EvalDependsSaid :=
  OpenClaim.holds_of_wide 6 Tryz.f6 rfl rfl rfl rfl rfl rfl rfl ⟨rfl, rfl, rfl, rfl, rfl⟩ rfl rfl rfl rfl rfl (by kernel_rfl) Tryz.func6 (by kernel_rfl)
    (of_decide_eq_true (by kernel_rfl)) (by unfold Func.isWrapper; first | (rw [if_pos (by decide +kernel)]; kernel_rfl) | (rw [if_neg (by decide +kernel)]; exact ⟨rfl, rfl⟩))
    (fun os started H enc _ => evalDepends_lifted os started H enc)
end Go.Proofs.YtkdaonhccijffaaGreat
