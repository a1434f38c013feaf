import Derived.Test.YtojhplpninjplaaGreatZl
namespace Go.Proofs.YtojhplpninjplaaGreat
open Go Go.AE Go.AE.S
open Go.ChangeShapes Go.WideShapes Go.ChangeAt Go.RowKit
theorem programAtoms_law:∀ cs,AllTy Tryz.prog Tryz.f3.params.toList cs→R P f_law25_ProgramAtoms (argsOf Tryz.prog Tryz.f3.params.toList cs)=some (.bool true):=by
  intro cs h
  have hp:Tryz.f3.params.toList=[22]:=by rw [Tryz.params3]
  rw [hp] at h ⊢
  match cs,h with
  | [c0],⟨h0,_⟩=>
    obtain ⟨x0,rfl,y0⟩:=in_atoms h0
    simp only [argsOf,arg_a]
    exact p_ProgramAtoms x0 y0
set_option maxRecDepth 100000 in
theorem programAtoms_lifted (os:Os) (started:os.Started) (H:Type) (enc:TypeId×Value→H) :
    ReturnsInHanded {} Tryz.checked os 3 .any (Rows.programAtomsSpec.pre6 enc Tryz.prog Tryz.f3 Rows.programAtomsRow.domain false) (Rows.programAtomsSpec.post enc Tryz.prog Tryz.f3 false true false false) :=
  law_lifted (C:=Tryz.checked) progOk read laid own Tryz.func3 (by kernel_rfl)
    (fun t ht => by have : Tryz.f3.params.toList = [22] := by rw [Tryz.params3]
                    rw [this] at ht;revert t;decide)
    (fun t ht => by have : Tryz.f3.params.toList = [22] := by rw [Tryz.params3]
                    rw [this] at ht
                    rcases List.mem_cons.1 ht with rfl | ht
                    · exact ⟨by kernel_rfl,of_decide_eq_true (by kernel_rfl)⟩
                    · simp at ht)
    (tb:=4) (by kernel_rfl) Tryz.underlying4 rfl
    (fun H ds hl=>by
      have:Tryz.f3.params.toList=[22]:=by rw [Tryz.params3]
      rw [this] at hl
      match ds,hl with
      | [d0],_=>rfl)
    programAtoms_law started
    (ChangeSpec.witness6 (enc:=enc) (C:=Tryz.checked) false ⟨#[],#[.slice none 0 0],[]⟩ 8 (by kernel_rfl) (by kernel_rfl) (by kernel_rfl) (by kernel_rfl))
theorem ProgramAtoms_holds:Rows.ProgramAtomsSaid :=
  OpenClaim.holds_of_wide 3 Tryz.f3 rfl rfl rfl rfl rfl rfl rfl ⟨rfl,rfl,rfl,rfl,rfl⟩ rfl rfl rfl rfl rfl (by kernel_rfl) Tryz.func3 (by kernel_rfl)
    (of_decide_eq_true (by kernel_rfl)) (by unfold Func.isWrapper;first | (rw [if_pos (by decide +kernel)];kernel_rfl) | (rw [if_neg (by decide +kernel)];exact ⟨rfl,rfl⟩))
    (fun os started H enc _=>programAtoms_lifted os started H enc)
end Go.Proofs.YtojhplpninjplaaGreat
