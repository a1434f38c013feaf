import Derived.Test.YtiinicliedpmjaaGreatZl
namespace Go.Proofs.YtiinicliedpmjaaGreat
open Go Go.AE Go.AE.S
open Go.ChangeShapes Go.WideShapes Go.ChangeAt Go.RowKit
theorem exhaustValids_law:∀ cs,AllTy Tryz.prog Tryz.f5.params.toList cs→R P f_law11_ExhaustValids (argsOf Tryz.prog Tryz.f5.params.toList cs)=some (.bool true):=by
  intro cs h
  have hp:Tryz.f5.params.toList=[22,34,34]:=by rw [Tryz.params5]
  rw [hp] at h ⊢
  match cs,h with
  | [c0,c1,c2],⟨h0,h1,h2,_⟩=>
    obtain ⟨x0,rfl,y0⟩:=(inv_terms termTy h0).2 rfl
    obtain ⟨x1,rfl,y1⟩:=(inv_terms termTy h1).1 rfl
    obtain ⟨x2,rfl,y2⟩:=(inv_terms termTy h2).1 rfl
    simp only [argsOf,arg_T,arg_l]
    exact p_ExhaustValids x0 y0.1 x1 y1 x2 y2
set_option maxRecDepth 100000 in
theorem exhaustValids_lifted (os:Os) (started:os.Started) (H:Type) (enc:TypeId×Value→H) :
    ReturnsInHanded {} Tryz.checked os 5 .any (Rows.exhaustValidsSpec.pre6 enc Tryz.prog Tryz.f5 Rows.exhaustValidsRow.domain false) (Rows.exhaustValidsSpec.post enc Tryz.prog Tryz.f5 false true false false) :=
  law_lifted (C:=Tryz.checked) progOk read laid own Tryz.func5 (by kernel_rfl)
    (fun t ht => by have : Tryz.f5.params.toList = [22, 34, 34] := by rw [Tryz.params5]
                    rw [this] at ht;revert t;decide)
    (fun t ht => by have : Tryz.f5.params.toList = [22, 34, 34] := by rw [Tryz.params5]
                    rw [this] at ht
                    rcases List.mem_cons.1 ht with rfl | ht
                    · exact ⟨by kernel_rfl,of_decide_eq_true (by kernel_rfl)⟩
                    · rcases List.mem_cons.1 ht with rfl | ht
                      · exact ⟨by kernel_rfl,of_decide_eq_true (by kernel_rfl)⟩
                      · rcases List.mem_cons.1 ht with rfl | ht
                        · exact ⟨by kernel_rfl,of_decide_eq_true (by kernel_rfl)⟩
                        · simp at ht)
    (tb:=4) (by kernel_rfl) Tryz.underlying4 rfl
    (fun H ds hl=>by
      have:Tryz.f5.params.toList=[22,34,34]:=by rw [Tryz.params5]
      rw [this] at hl
      match ds,hl with
      | [d0,d1,d2],_=>rfl)
    exhaustValids_law started
    (ChangeSpec.witness6 (enc:=enc) (C:=Tryz.checked) false ⟨#[],#[.slice none 0 0,zeroT,zeroT],[]⟩ 8 (by kernel_rfl) (by kernel_rfl) (by kernel_rfl) (by kernel_rfl))
theorem ExhaustValids_holds:Rows.ExhaustValidsSaid :=
  OpenClaim.holds_of_wide 5 Tryz.f5 rfl rfl rfl rfl rfl rfl rfl ⟨rfl,rfl,rfl,rfl,rfl⟩ rfl rfl rfl rfl rfl (by kernel_rfl) Tryz.func5 (by kernel_rfl)
    (of_decide_eq_true (by kernel_rfl)) (by unfold Func.isWrapper;first | (rw [if_pos (by decide +kernel)];kernel_rfl) | (rw [if_neg (by decide +kernel)];exact ⟨rfl,rfl⟩))
    (fun os started H enc _=>exhaustValids_lifted os started H enc)
end Go.Proofs.YtiinicliedpmjaaGreat
