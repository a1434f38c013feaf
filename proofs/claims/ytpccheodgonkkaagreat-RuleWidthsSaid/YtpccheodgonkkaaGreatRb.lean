/- RuleWidths is proved: At of a valid rule returns what the reference returns, valid and not generic. Conditions: none but the statement's own. -/
import Derived.Test.YtpccheodgonkkaaGreatZl
set_option linter.unusedSimpArgs false
set_option linter.unusedVariables false
namespace Go.Proofs.YtpccheodgonkkaaGreat
open Go Go.AE Go.AE.S
open Go.ChangeShapes Go.WideShapes Go.ChangeAt Go.RowKit
theorem Qa:∀cs,aeM Tryz.prog Tryz.f4.params.toList cs→R P iv (AO Tryz.prog Tryz.f4.params.toList cs)=some (.bool true):=by
 intro cs h;have hp:Tryz.f4.params.toList=[30,3]:=by rw[Tryz.params4]
 rw[hp]at h ⊢
 match cs,h with
 | [c0,c1],⟨h0,h1,_⟩=>
  obtain⟨x0,rfl,y0⟩:=amV h0;obtain⟨x1,rfl,y1⟩:=HI Tryz.underlying3 h1;simp only[AO,asD,asE];exact UP x0 y0 x1 ⟨y1.1,y1.2⟩
set_option maxRecDepth 100000 in
theorem IX (os:Os) (started:os.Started) (H:Type) (enc:TypeId×Value→H) :
    ReturnsInHanded {} Tryz.checked os 4 .any (Rows.ruleWidthsSpec.pre6 enc Tryz.prog Tryz.f4 Rows.ruleWidthsRow.domain false) (Rows.ruleWidthsSpec.post enc Tryz.prog Tryz.f4 false true false false) :=
  adj (C:=Tryz.checked) aqI read laid own Tryz.func4 (by kernel_rfl)
    (fun t ht => by have : Tryz.f4.params.toList = [30, 3] := by rw [Tryz.params4]
                    rw [this] at ht;revert t;decide)
    (fun t ht => by have : Tryz.f4.params.toList = [30, 3] := by rw [Tryz.params4]
                    rw [this] at ht;rcases pn.1 ht with rfl | ht
                    · exact ⟨by kernel_rfl,of_decide_eq_true (by kernel_rfl)⟩
                    · rcases pn.1 ht with rfl | ht
                      · exact ⟨by kernel_rfl,of_decide_eq_true (by kernel_rfl)⟩
                      · simp at ht)
    (tb:=4) (by kernel_rfl) Tryz.underlying4 rfl
    (fun H ds hl=>by
      have:Tryz.f4.params.toList=[30,3]:=by rw [Tryz.params4]
      rw [this] at hl
      match ds,hl with
      | [d0,d1],_=>rfl)
    Qa started
    (ChangeSpec.witness6 (enc:=enc) (C:=Tryz.checked) false ⟨#[],#[au8,.int .i64 0],[]⟩ 8 (by kernel_rfl) (by kernel_rfl) (by kernel_rfl) (by kernel_rfl))
theorem RuleWidths_holds:Rows.RuleWidthsSaid :=
 OpenClaim.holds_of_wide 4 Tryz.f4 rfl rfl rfl rfl rfl rfl rfl ⟨rfl,rfl,rfl,rfl,rfl⟩ rfl rfl rfl rfl rfl (by kernel_rfl) Tryz.func4 (by kernel_rfl)
  (of_decide_eq_true (by kernel_rfl)) (by unfold Func.isWrapper;first|(rw[if_pos (by decide +kernel)];kernel_rfl)|(rw[if_neg (by decide +kernel)];exact⟨rfl,rfl⟩))
  (fun os started H enc _=>IX os started H enc)
end Go.Proofs.YtpccheodgonkkaaGreat
