import Derived.Test.YtiinicliedpmjaaGreatZl
namespace Go.Proofs.YtiinicliedpmjaaGreat
open Go Go.AE Go.AE.S
open Go.ChangeShapes Go.WideShapes Go.ChangeAt Go.RowKit
theorem exhaustSats_law:∀ cs,AllTy Tryz.prog Tryz.f6.params.toList cs→R P f_law11_ExhaustSats (argsOf Tryz.prog Tryz.f6.params.toList cs)=some (.bool true):=by
  intro cs h
  have hp:Tryz.f6.params.toList=[34]:=by rw [Tryz.params6]
  rw [hp] at h ⊢
  match cs,h with
  | [c0],⟨h0,_⟩=>
    obtain ⟨x0,rfl,y0⟩:=(inv_terms termTy h0).1 rfl
    simp only [argsOf,arg_T]
    exact p_ExhaustSats x0 y0
set_option maxRecDepth 100000 in
theorem exhaustSats_lifted (os:Os) (started:os.Started) (H:Type) (enc:TypeId×Value→H) :
    ReturnsInHanded {} Tryz.checked os 6 .any (Rows.exhaustSatsSpec.pre6 enc Tryz.prog Tryz.f6 Rows.exhaustSatsRow.domain false) (Rows.exhaustSatsSpec.post enc Tryz.prog Tryz.f6 false true false false) :=
  law_lifted (C:=Tryz.checked) progOk read laid own Tryz.func6 (by kernel_rfl)
    (fun t ht => by have : Tryz.f6.params.toList = [34] := by rw [Tryz.params6]
                    rw [this] at ht;revert t;decide)
    (fun t ht => by have : Tryz.f6.params.toList = [34] := by rw [Tryz.params6]
                    rw [this] at ht
                    rcases List.mem_cons.1 ht with rfl | ht
                    · exact ⟨by kernel_rfl,of_decide_eq_true (by kernel_rfl)⟩
                    · simp at ht)
    (tb:=4) (by kernel_rfl) Tryz.underlying4 rfl
    (fun H ds hl=>by
      have:Tryz.f6.params.toList=[34]:=by rw [Tryz.params6]
      rw [this] at hl
      match ds,hl with
      | [d0],_=>rfl)
    exhaustSats_law started
    (ChangeSpec.witness6 (enc:=enc) (C:=Tryz.checked) false ⟨#[],#[zeroT],[]⟩ 8 (by kernel_rfl) (by kernel_rfl) (by kernel_rfl) (by kernel_rfl))
theorem ExhaustSats_holds:Rows.ExhaustSatsSaid :=
  OpenClaim.holds_of_wide 6 Tryz.f6 rfl rfl rfl rfl rfl rfl rfl ⟨rfl,rfl,rfl,rfl,rfl⟩ rfl rfl rfl rfl rfl (by kernel_rfl) Tryz.func6 (by kernel_rfl)
    (of_decide_eq_true (by kernel_rfl)) (by unfold Func.isWrapper;first | (rw [if_pos (by decide +kernel)];kernel_rfl) | (rw [if_neg (by decide +kernel)];exact ⟨rfl,rfl⟩))
    (fun os started H enc _=>exhaustSats_lifted os started H enc)
end Go.Proofs.YtiinicliedpmjaaGreat
