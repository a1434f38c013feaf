import Derived.Test.YtiinicliedpmjaaGreatZl
namespace Go.Proofs.YtiinicliedpmjaaGreat
open Go Go.AE Go.AE.S
open Go.ChangeShapes Go.WideShapes Go.ChangeAt Go.RowKit
theorem exhaustEquals_law:∀ cs,AllTy Tryz.prog Tryz.f4.params.toList cs→R P f_law11_ExhaustEquals (argsOf Tryz.prog Tryz.f4.params.toList cs)=some (.bool true):=by
  intro cs h
  have hp:Tryz.f4.params.toList=[34,34]:=by rw [Tryz.params4]
  rw [hp] at h ⊢
  match cs,h with
  | [c0,c1],⟨h0,h1,_⟩=>
    obtain ⟨x0,rfl,y0⟩:=(inv_terms termTy h0).1 rfl
    obtain ⟨x1,rfl,y1⟩:=(inv_terms termTy h1).1 rfl
    simp only [argsOf,arg_T]
    exact p_ExhaustEquals x0 y0 x1 y1
set_option maxRecDepth 100000 in
theorem exhaustEquals_lifted (os:Os) (started:os.Started) (H:Type) (enc:TypeId×Value→H) :
    ReturnsInHanded {} Tryz.checked os 4 .any (Rows.exhaustEqualsSpec.pre6 enc Tryz.prog Tryz.f4 Rows.exhaustEqualsRow.domain false) (Rows.exhaustEqualsSpec.post enc Tryz.prog Tryz.f4 false true false false) :=
  law_lifted (C:=Tryz.checked) progOk read laid own Tryz.func4 (by kernel_rfl)
    (fun t ht => by have : Tryz.f4.params.toList = [34, 34] := by rw [Tryz.params4]
                    rw [this] at ht;revert t;decide)
    (fun t ht => by have : Tryz.f4.params.toList = [34, 34] := by rw [Tryz.params4]
                    rw [this] at ht
                    rcases List.mem_cons.1 ht with rfl | ht
                    · exact ⟨by kernel_rfl,of_decide_eq_true (by kernel_rfl)⟩
                    · rcases List.mem_cons.1 ht with rfl | ht
                      · exact ⟨by kernel_rfl,of_decide_eq_true (by kernel_rfl)⟩
                      · simp at ht)
    (tb:=4) (by kernel_rfl) Tryz.underlying4 rfl
    (fun H ds hl=>by
      have:Tryz.f4.params.toList=[34,34]:=by rw [Tryz.params4]
      rw [this] at hl
      match ds,hl with
      | [d0,d1],_=>rfl)
    exhaustEquals_law started
    (ChangeSpec.witness6 (enc:=enc) (C:=Tryz.checked) false ⟨#[],#[zeroT,zeroT],[]⟩ 8 (by kernel_rfl) (by kernel_rfl) (by kernel_rfl) (by kernel_rfl))
theorem ExhaustEquals_holds:Rows.ExhaustEqualsSaid :=
  OpenClaim.holds_of_wide 4 Tryz.f4 rfl rfl rfl rfl rfl rfl rfl ⟨rfl,rfl,rfl,rfl,rfl⟩ rfl rfl rfl rfl rfl (by kernel_rfl) Tryz.func4 (by kernel_rfl)
    (of_decide_eq_true (by kernel_rfl)) (by unfold Func.isWrapper;first | (rw [if_pos (by decide +kernel)];kernel_rfl) | (rw [if_neg (by decide +kernel)];exact ⟨rfl,rfl⟩))
    (fun os started H enc _=>exhaustEquals_lifted os started H enc)
end Go.Proofs.YtiinicliedpmjaaGreat
