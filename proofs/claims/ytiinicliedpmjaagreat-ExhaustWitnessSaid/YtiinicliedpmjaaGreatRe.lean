import Derived.Test.YtiinicliedpmjaaGreatZl
namespace Go.Proofs.YtiinicliedpmjaaGreat
open Go Go.AE Go.AE.S
open Go.ChangeShapes Go.WideShapes Go.ChangeAt Go.RowKit
theorem exhaustWitness_law:∀ cs,AllTy Tryz.prog Tryz.f7.params.toList cs→R P f_law11_ExhaustWitness (argsOf Tryz.prog Tryz.f7.params.toList cs)=some (.bool true):=by
  intro cs h
  have hp:Tryz.f7.params.toList=[34,34,35]:=by rw [Tryz.params7]
  rw [hp] at h ⊢
  match cs,h with
  | [c0,c1,c2],⟨h0,h1,h2,_⟩=>
    obtain ⟨x0,rfl,y0⟩:=(inv_terms termTy h0).1 rfl
    obtain ⟨x1,rfl,y1⟩:=(inv_terms termTy h1).1 rfl
    obtain ⟨x2,rfl,y2,z2⟩:=in_binds h2
    simp only [argsOf,arg_B,arg_T]
    exact p_ExhaustWitness x0 y0 x1 y1 x2 (fun b hb=>(y2 b hb).1) z2
set_option maxRecDepth 100000 in
theorem exhaustWitness_lifted (os:Os) (started:os.Started) (H:Type) (enc:TypeId×Value→H) :
    ReturnsInHanded {} Tryz.checked os 7 .any (Rows.exhaustWitnessSpec.pre6 enc Tryz.prog Tryz.f7 Rows.exhaustWitnessRow.domain false) (Rows.exhaustWitnessSpec.post enc Tryz.prog Tryz.f7 false true false false) :=
  law_lifted (C:=Tryz.checked) progOk read laid own Tryz.func7 (by kernel_rfl)
    (fun t ht => by have : Tryz.f7.params.toList = [34, 34, 35] := by rw [Tryz.params7]
                    rw [this] at ht;revert t;decide)
    (fun t ht => by have : Tryz.f7.params.toList = [34, 34, 35] := by rw [Tryz.params7]
                    rw [this] at ht
                    rcases List.mem_cons.1 ht with rfl | ht
                    · exact ⟨by kernel_rfl,of_decide_eq_true (by kernel_rfl)⟩
                    · rcases List.mem_cons.1 ht with rfl | ht
                      · exact ⟨by kernel_rfl,of_decide_eq_true (by kernel_rfl)⟩
                      · rcases List.mem_cons.1 ht with rfl | ht
                        · exact ⟨by kernel_rfl,of_decide_eq_true (by kernel_rfl)⟩
                        · simp at ht)
    (tb:=4) (by kernel_rfl) Tryz.underlying4 rfl
    (fun H ds hl=>by
      have:Tryz.f7.params.toList=[34,34,35]:=by rw [Tryz.params7]
      rw [this] at hl
      match ds,hl with
      | [d0,d1,d2],_=>rfl)
    exhaustWitness_law started
    (ChangeSpec.witness6 (enc:=enc) (C:=Tryz.checked) false ⟨#[],#[zeroT,zeroT,.slice none 0 0],[]⟩ 8 (by kernel_rfl) (by kernel_rfl) (by kernel_rfl) (by kernel_rfl))
theorem ExhaustWitness_holds:Rows.ExhaustWitnessSaid :=
  OpenClaim.holds_of_wide 7 Tryz.f7 rfl rfl rfl rfl rfl rfl rfl ⟨rfl,rfl,rfl,rfl,rfl⟩ rfl rfl rfl rfl rfl (by kernel_rfl) Tryz.func7 (by kernel_rfl)
    (of_decide_eq_true (by kernel_rfl)) (by unfold Func.isWrapper;first | (rw [if_pos (by decide +kernel)];kernel_rfl) | (rw [if_neg (by decide +kernel)];exact ⟨rfl,rfl⟩))
    (fun os started H enc _=>exhaustWitness_lifted os started H enc)
end Go.Proofs.YtiinicliedpmjaaGreat
