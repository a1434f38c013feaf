/- RuleParts is proved: Generic, Simple, Same, Holes and Nums return what the reference returns. Conditions: none but the statement's own. -/
import Derived.Test.YtpccheodgonkkaaGreatZl
set_option linter.unusedSimpArgs false
set_option linter.unusedVariables false
namespace Go.Proofs.YtpccheodgonkkaaGreat
open Go Go.AE Go.AE.S
open Go.ChangeShapes Go.WideShapes Go.ChangeAt Go.RowKit
theorem NA:∀cs,Xn Tryz.prog Tryz.f9.params.toList cs→R P iN (yo Tryz.prog Tryz.f9.params.toList cs)=some (.bool true):=by
 intro cs h;have hp:Tryz.f9.params.toList=[30,30]:=by rw[Tryz.params9]
 rw[hp]at h ⊢
 match cs,h with
 | [c0,c1],⟨h0,h1,_⟩=>
  obtain⟨x0,rfl,y0⟩:=XU h0;obtain⟨x1,rfl,y1⟩:=XU h1;simp only[yo,amH];exact Ta x0 y0 x1 y1
set_option maxRecDepth 100000 in
theorem GW (os:Os) (started:os.Started) (H:Type) (enc:TypeId×Value→H) :
    ReturnsInHanded {} Tryz.checked os 9 .any (Rows.rulePartsSpec.pre6 enc Tryz.prog Tryz.f9 Rows.rulePartsRow.domain false) (Rows.rulePartsSpec.post enc Tryz.prog Tryz.f9 false true false false) :=
  VX (C:=Tryz.checked) akQ read laid own Tryz.func9 (by kernel_rfl)
    (fun t ht => by have : Tryz.f9.params.toList = [30, 30] := by rw [Tryz.params9]
                    rw [this] at ht;revert t;decide)
    (fun t ht => by have : Tryz.f9.params.toList = [30, 30] := by rw [Tryz.params9]
                    rw [this] at ht;rcases qL.1 ht with rfl | ht
                    · exact ⟨by kernel_rfl,of_decide_eq_true (by kernel_rfl)⟩
                    · rcases qL.1 ht with rfl | ht
                      · exact ⟨by kernel_rfl,of_decide_eq_true (by kernel_rfl)⟩
                      · simp at ht)
    (tb:=4) (by kernel_rfl) Tryz.underlying4 rfl
    (fun H ds hl=>by
      have:Tryz.f9.params.toList=[30,30]:=by rw [Tryz.params9]
      rw [this] at hl
      match ds,hl with
      | [d0,d1],_=>rfl)
    NA started
    (ChangeSpec.witness6 (enc:=enc) (C:=Tryz.checked) false ⟨#[],#[ajw,ajw],[]⟩ 8 (by kernel_rfl) (by kernel_rfl) (by kernel_rfl) (by kernel_rfl))
theorem RuleParts_holds:Rows.RulePartsSaid :=
 OpenClaim.holds_of_wide 9 Tryz.f9 rfl rfl rfl rfl rfl rfl rfl ⟨rfl,rfl,rfl,rfl,rfl⟩ rfl rfl rfl rfl rfl (by kernel_rfl) Tryz.func9 (by kernel_rfl)
  (of_decide_eq_true (by kernel_rfl)) (by unfold Func.isWrapper;first|(rw[if_pos (by decide +kernel)];kernel_rfl)|(rw[if_neg (by decide +kernel)];exact⟨rfl,rfl⟩))
  (fun os started H enc _=>GW os started H enc)
end Go.Proofs.YtpccheodgonkkaaGreat
