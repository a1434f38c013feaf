import Derived.Test.YtiinicliedpmjaaGreatZl
namespace Go.Proofs.YtiinicliedpmjaaGreat
open Go Go.AE Go.AE.S
open Go.ChangeShapes Go.WideShapes Go.ChangeAt Go.RowKit
theorem exhaustCongruent_law:∀ cs,AllTy Tryz.prog Tryz.f9.params.toList cs→R P f_law11_ExhaustCongruent (argsOf Tryz.prog Tryz.f9.params.toList cs)=some (.bool true):=by
  intro cs h
  have hp:Tryz.f9.params.toList=[34,34,50]:=by rw [Tryz.params9]
  rw [hp] at h ⊢
  match cs,h with
  | [c0,c1,c2],⟨h0,h1,h2,_⟩=>
    obtain ⟨x0,rfl,y0⟩:=(inv_terms termTy h0).1 rfl
    obtain ⟨x1,rfl,y1⟩:=(inv_terms termTy h1).1 rfl
    obtain ⟨x2,rfl⟩:=inv_ints Tryz.underlying50 Tryz.underlying3 h2
    simp only [argsOf,arg_T,arg_p]
    exact p_ExhaustCongruent x0 y0 x1 y1 x2
set_option maxRecDepth 100000 in
theorem exhaustCongruent_lifted (os:Os) (started:os.Started) (H:Type) (enc:TypeId×Value→H) :
    ReturnsInHanded {} Tryz.checked os 9 .any (Rows.exhaustCongruentSpec.pre6 enc Tryz.prog Tryz.f9 Rows.exhaustCongruentRow.domain false) (Rows.exhaustCongruentSpec.post enc Tryz.prog Tryz.f9 false true false false) :=
  law_lifted (C:=Tryz.checked) progOk read laid own Tryz.func9 (by kernel_rfl)
    (fun t ht => by have : Tryz.f9.params.toList = [34, 34, 50] := by rw [Tryz.params9]
                    rw [this] at ht;revert t;decide)
    (fun t ht => by have : Tryz.f9.params.toList = [34, 34, 50] := by rw [Tryz.params9]
                    rw [this] at ht
                    rcases List.mem_cons.1 ht with rfl | ht
                    · exact ⟨by kernel_rfl,of_decide_eq_true (by kernel_rfl)⟩
                    · rcases List.mem_cons.1 ht with rfl | ht
                      · exact ⟨by kernel_rfl,of_decide_eq_true (by kernel_rfl)⟩
                      · rcases List.mem_cons.1 ht with rfl | ht
                        · exact ⟨by kernel_rfl,of_decide_eq_true (by kernel_rfl)⟩
                        · simp at ht)
    (tb:=4) (by kernel_rfl) Tryz.underlying4 rfl
    (fun H ds hl=>by
      have:Tryz.f9.params.toList=[34,34,50]:=by rw [Tryz.params9]
      rw [this] at hl
      match ds,hl with
      | [d0,d1,d2],_=>rfl)
    exhaustCongruent_law started
    (ChangeSpec.witness6 (enc:=enc) (C:=Tryz.checked) false ⟨#[],#[zeroT,zeroT,.slice none 0 0],[]⟩ 8 (by kernel_rfl) (by kernel_rfl) (by kernel_rfl) (by kernel_rfl))
theorem ExhaustCongruent_holds:Rows.ExhaustCongruentSaid :=
  OpenClaim.holds_of_wide 9 Tryz.f9 rfl rfl rfl rfl rfl rfl rfl ⟨rfl,rfl,rfl,rfl,rfl⟩ rfl rfl rfl rfl rfl (by kernel_rfl) Tryz.func9 (by kernel_rfl)
    (of_decide_eq_true (by kernel_rfl)) (by unfold Func.isWrapper;first | (rw [if_pos (by decide +kernel)];kernel_rfl) | (rw [if_neg (by decide +kernel)];exact ⟨rfl,rfl⟩))
    (fun os started H enc _=>exhaustCongruent_lifted os started H enc)
end Go.Proofs.YtiinicliedpmjaaGreat
