/- RuleReverses is proved: Reverse returns what the reference returns, and Reverse of Reverse is the rule itself, if both exist. Conditions: none but the statement's own. -/
import Derived.Test.YtpccheodgonkkaaGreatZl
set_option linter.unusedSimpArgs false
set_option linter.unusedVariables false
namespace Go.Proofs.YtpccheodgonkkaaGreat
open Go Go.AE Go.AE.S
open Go.ChangeShapes Go.WideShapes Go.ChangeAt Go.RowKit
theorem KW:∀cs,SX Tryz.prog Tryz.f10.params.toList cs→R P fU (uY Tryz.prog Tryz.f10.params.toList cs)=some (.bool true):=by
 intro cs h;have hp:Tryz.f10.params.toList=[30]:=by rw[Tryz.params10]
 rw[hp]at h ⊢
 match cs,h with
 | [c0],⟨h0,_⟩=>
  obtain⟨x0,rfl,y0⟩:=Vh h0;simp only[uY,aja];exact PW x0 y0
set_option maxRecDepth 100000 in
theorem Gk (os:Os) (started:os.Started) (H:Type) (enc:TypeId×Value→H) :
    ReturnsInHanded {} Tryz.checked os 10 .any (Rows.ruleReversesSpec.pre6 enc Tryz.prog Tryz.f10 Rows.ruleReversesRow.domain false) (Rows.ruleReversesSpec.post enc Tryz.prog Tryz.f10 false true false false) :=
  Hk (C:=Tryz.checked) aep read laid own Tryz.func10 (by kernel_rfl)
    (fun t ht => by have : Tryz.f10.params.toList = [30] := by rw [Tryz.params10]
                    rw [this] at ht;revert t;decide)
    (fun t ht => by have : Tryz.f10.params.toList = [30] := by rw [Tryz.params10]
                    rw [this] at ht;rcases pU.1 ht with rfl | ht
                    · exact ⟨by kernel_rfl,of_decide_eq_true (by kernel_rfl)⟩
                    · simp at ht)
    (tb:=4) (by kernel_rfl) Tryz.underlying4 rfl
    (fun H ds hl=>by
      have:Tryz.f10.params.toList=[30]:=by rw [Tryz.params10]
      rw [this] at hl
      match ds,hl with
      | [d0],_=>rfl)
    KW started
    (ChangeSpec.witness6 (enc:=enc) (C:=Tryz.checked) false ⟨#[],#[amo],[]⟩ 8 (by kernel_rfl) (by kernel_rfl) (by kernel_rfl) (by kernel_rfl))
theorem RuleReverses_holds:Rows.RuleReversesSaid :=
 OpenClaim.holds_of_wide 10 Tryz.f10 rfl rfl rfl rfl rfl rfl rfl ⟨rfl,rfl,rfl,rfl,rfl⟩ rfl rfl rfl rfl rfl (by kernel_rfl) Tryz.func10 (by kernel_rfl)
  (of_decide_eq_true (by kernel_rfl)) (by unfold Func.isWrapper;first|(rw[if_pos (by decide +kernel)];kernel_rfl)|(rw[if_neg (by decide +kernel)];exact⟨rfl,rfl⟩))
  (fun os started H enc _=>Gk os started H enc)
end Go.Proofs.YtpccheodgonkkaaGreat
