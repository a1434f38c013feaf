/-
  NARROWER THAN 'FOR EVERY INPUT', by the rows' own cells (each row's printed sentence says how): RuleChecks: loops · RuleWidths: loops · RuleEquations: loops · RuleSounds: loops · RuleUpTo: loops · RuleHolds: loops · RuleParts: loops · RuleReverses: loops.
  DERIVED. THE GIVEN ROWS OF THIS SEAT. 8 by the template 'for every input the law returns true; each argument reads behind the call as it read before'; 0 by the template 'total and deterministic' (their statements: YtpccheodgonkkaaGreatTotals.lean).
  GIVEN WITH THE SEED: the statements are not yours to turn. If you find one false, say at which input.
  Laid BY PROGRAM, IN A SANDBOX (cutbox-rows.mjs): the forced cells as the released guide's own fill.sh prints them over the translation 74d333b601fe6293… (all of the seat's roots in one cut). By AI agents, Wed Nov 11 2026. No macro, syntax, notation, axiom, sorry.
-/
import Derived.Test.YtpccheodgonkkaaGreatChecked
import GoSem.Claim
import GoSem.ClaimJoined
import GoSem.ClaimMapViews
import Derived.JoinedTies
import Derived.KernelRfl
namespace Go.Proofs.YtpccheodgonkkaaGreat
/- THE CELL 'sum', in the pinned program and in every row, IS THE sha256 OF THE DUMP (.gsa) THAT YtpccheodgonkkaaGreatProg.lean LOADS. Nothing in Lean hashes anything: it is a label: what it is worth is what the hold of that sum in a sandbox is worth. -/
noncomputable def Tryz.pinned : Pinned := { name := "ytpccheodgonkkaagreat", sum := "74d333b601fe6293e5c267d3eaec88ddc1428b7dbb1005244449047de543de3a", checked := Tryz.checked }
namespace Rows
def none {H : Type} : Left H := { results := [], args := [] }

/-- 'saturatelaw28.RuleChecks': WHATEVER THE INPUT: true; the input reads as it did. -/
def ruleChecksSpec : ChangeSpec := { name := "ruleChecks", fn := fun _ => fun
  | [d] => { results := [.lit (.bool true)], args := [d] }
  | _ => none }
def ruleChecksRow : OpenClaim := { program := "ytpccheodgonkkaagreat", sum := "74d333b601fe6293e5c267d3eaec88ddc1428b7dbb1005244449047de543de3a", func := "saturate/saturatelaw28.RuleChecks", spec := "ruleChecks", inPlace := ["internal/bytealg.abigen_runtime_cmpstring", "slices.overlaps[saturate/api.Var]"], unfollowed := true, recurses := true, loops := true, apart := false }
def RuleChecksSaid : Prop := ruleChecksRow.holds Tryz.pinned (OpenSpec.ofChange ruleChecksSpec)

/-- ITS FALSE NEIGHBOUR: 'it returns false'. Refute it at one input. -/
def ruleChecksWrong : ChangeSpec := { name := "ruleChecks", fn := fun _ => fun
  | [d] => { results := [.lit (.bool false)], args := [d] }
  | _ => none }
def RuleChecksWrongFalsely : Prop := ruleChecksRow.holds Tryz.pinned (OpenSpec.ofChange ruleChecksWrong)

/-- 'saturatelaw28.RuleWidths': WHATEVER THE INPUT: true; the input reads as it did. -/
def ruleWidthsSpec : ChangeSpec := { name := "ruleWidths", fn := fun _ => fun
  | [d1, d2] => { results := [.lit (.bool true)], args := [d1, d2] }
  | _ => none }
def ruleWidthsRow : OpenClaim := { program := "ytpccheodgonkkaagreat", sum := "74d333b601fe6293e5c267d3eaec88ddc1428b7dbb1005244449047de543de3a", func := "saturate/saturatelaw28.RuleWidths", spec := "ruleWidths", inPlace := ["internal/bytealg.abigen_runtime_cmpstring", "slices.overlaps[saturate/api.Var]"], unfollowed := true, recurses := true, loops := true, apart := false }
def RuleWidthsSaid : Prop := ruleWidthsRow.holds Tryz.pinned (OpenSpec.ofChange ruleWidthsSpec)

/-- ITS FALSE NEIGHBOUR: 'it returns false'. Refute it at one input. -/
def ruleWidthsWrong : ChangeSpec := { name := "ruleWidths", fn := fun _ => fun
  | [d1, d2] => { results := [.lit (.bool false)], args := [d1, d2] }
  | _ => none }
def RuleWidthsWrongFalsely : Prop := ruleWidthsRow.holds Tryz.pinned (OpenSpec.ofChange ruleWidthsWrong)

/-- 'saturatelaw28.RuleEquations': WHATEVER THE INPUT: true; the input reads as it did. -/
def ruleEquationsSpec : ChangeSpec := { name := "ruleEquations", fn := fun _ => fun
  | [d] => { results := [.lit (.bool true)], args := [d] }
  | _ => none }
def ruleEquationsRow : OpenClaim := { program := "ytpccheodgonkkaagreat", sum := "74d333b601fe6293e5c267d3eaec88ddc1428b7dbb1005244449047de543de3a", func := "saturate/saturatelaw28.RuleEquations", spec := "ruleEquations", inPlace := ["internal/bytealg.abigen_runtime_cmpstring", "slices.overlaps[saturate/api.Var]"], unfollowed := true, recurses := true, loops := true, apart := false }
def RuleEquationsSaid : Prop := ruleEquationsRow.holds Tryz.pinned (OpenSpec.ofChange ruleEquationsSpec)

/-- ITS FALSE NEIGHBOUR: 'it returns false'. Refute it at one input. -/
def ruleEquationsWrong : ChangeSpec := { name := "ruleEquations", fn := fun _ => fun
  | [d] => { results := [.lit (.bool false)], args := [d] }
  | _ => none }
def RuleEquationsWrongFalsely : Prop := ruleEquationsRow.holds Tryz.pinned (OpenSpec.ofChange ruleEquationsWrong)

/-- 'saturatelaw28.RuleSounds': WHATEVER THE INPUT: true; the input reads as it did. -/
def ruleSoundsSpec : ChangeSpec := { name := "ruleSounds", fn := fun _ => fun
  | [d] => { results := [.lit (.bool true)], args := [d] }
  | _ => none }
def ruleSoundsRow : OpenClaim := { program := "ytpccheodgonkkaagreat", sum := "74d333b601fe6293e5c267d3eaec88ddc1428b7dbb1005244449047de543de3a", func := "saturate/saturatelaw28.RuleSounds", spec := "ruleSounds", inPlace := ["internal/bytealg.abigen_runtime_cmpstring", "slices.overlaps[saturate/api.Var]"], unfollowed := true, recurses := true, loops := true, apart := false }
def RuleSoundsSaid : Prop := ruleSoundsRow.holds Tryz.pinned (OpenSpec.ofChange ruleSoundsSpec)

/-- ITS FALSE NEIGHBOUR: 'it returns false'. Refute it at one input. -/
def ruleSoundsWrong : ChangeSpec := { name := "ruleSounds", fn := fun _ => fun
  | [d] => { results := [.lit (.bool false)], args := [d] }
  | _ => none }
def RuleSoundsWrongFalsely : Prop := ruleSoundsRow.holds Tryz.pinned (OpenSpec.ofChange ruleSoundsWrong)

/-- 'saturatelaw28.RuleUpTo': WHATEVER THE INPUT: true; the input reads as it did. -/
def ruleUpToSpec : ChangeSpec := { name := "ruleUpTo", fn := fun _ => fun
  | [d1, d2] => { results := [.lit (.bool true)], args := [d1, d2] }
  | _ => none }
def ruleUpToRow : OpenClaim := { program := "ytpccheodgonkkaagreat", sum := "74d333b601fe6293e5c267d3eaec88ddc1428b7dbb1005244449047de543de3a", func := "saturate/saturatelaw28.RuleUpTo", spec := "ruleUpTo", inPlace := ["internal/bytealg.abigen_runtime_cmpstring", "slices.overlaps[saturate/api.Var]"], unfollowed := true, recurses := true, loops := true, apart := false }
def RuleUpToSaid : Prop := ruleUpToRow.holds Tryz.pinned (OpenSpec.ofChange ruleUpToSpec)

/-- ITS FALSE NEIGHBOUR: 'it returns false'. Refute it at one input. -/
def ruleUpToWrong : ChangeSpec := { name := "ruleUpTo", fn := fun _ => fun
  | [d1, d2] => { results := [.lit (.bool false)], args := [d1, d2] }
  | _ => none }
def RuleUpToWrongFalsely : Prop := ruleUpToRow.holds Tryz.pinned (OpenSpec.ofChange ruleUpToWrong)

/-- 'saturatelaw28.RuleHolds': WHATEVER THE INPUT: true; the input reads as it did. -/
def ruleHoldsSpec : ChangeSpec := { name := "ruleHolds", fn := fun _ => fun
  | [d1, d2] => { results := [.lit (.bool true)], args := [d1, d2] }
  | _ => none }
def ruleHoldsRow : OpenClaim := { program := "ytpccheodgonkkaagreat", sum := "74d333b601fe6293e5c267d3eaec88ddc1428b7dbb1005244449047de543de3a", func := "saturate/saturatelaw28.RuleHolds", spec := "ruleHolds", inPlace := ["internal/bytealg.abigen_runtime_cmpstring", "slices.overlaps[saturate/api.Var]"], unfollowed := true, recurses := true, loops := true, apart := false }
def RuleHoldsSaid : Prop := ruleHoldsRow.holds Tryz.pinned (OpenSpec.ofChange ruleHoldsSpec)

/-- ITS FALSE NEIGHBOUR: 'it returns false'. Refute it at one input. -/
def ruleHoldsWrong : ChangeSpec := { name := "ruleHolds", fn := fun _ => fun
  | [d1, d2] => { results := [.lit (.bool false)], args := [d1, d2] }
  | _ => none }
def RuleHoldsWrongFalsely : Prop := ruleHoldsRow.holds Tryz.pinned (OpenSpec.ofChange ruleHoldsWrong)

/-- 'saturatelaw28.RuleParts': WHATEVER THE INPUT: true; the input reads as it did. -/
def rulePartsSpec : ChangeSpec := { name := "ruleParts", fn := fun _ => fun
  | [d1, d2] => { results := [.lit (.bool true)], args := [d1, d2] }
  | _ => none }
def rulePartsRow : OpenClaim := { program := "ytpccheodgonkkaagreat", sum := "74d333b601fe6293e5c267d3eaec88ddc1428b7dbb1005244449047de543de3a", func := "saturate/saturatelaw28.RuleParts", spec := "ruleParts", inPlace := ["internal/bytealg.abigen_runtime_cmpstring", "slices.overlaps[saturate/api.Var]"], unfollowed := true, recurses := true, loops := true, apart := false }
def RulePartsSaid : Prop := rulePartsRow.holds Tryz.pinned (OpenSpec.ofChange rulePartsSpec)

/-- ITS FALSE NEIGHBOUR: 'it returns false'. Refute it at one input. -/
def rulePartsWrong : ChangeSpec := { name := "ruleParts", fn := fun _ => fun
  | [d1, d2] => { results := [.lit (.bool false)], args := [d1, d2] }
  | _ => none }
def RulePartsWrongFalsely : Prop := rulePartsRow.holds Tryz.pinned (OpenSpec.ofChange rulePartsWrong)

/-- 'saturatelaw28.RuleReverses': WHATEVER THE INPUT: true; the input reads as it did. -/
def ruleReversesSpec : ChangeSpec := { name := "ruleReverses", fn := fun _ => fun
  | [d] => { results := [.lit (.bool true)], args := [d] }
  | _ => none }
def ruleReversesRow : OpenClaim := { program := "ytpccheodgonkkaagreat", sum := "74d333b601fe6293e5c267d3eaec88ddc1428b7dbb1005244449047de543de3a", func := "saturate/saturatelaw28.RuleReverses", spec := "ruleReverses", inPlace := ["internal/bytealg.abigen_runtime_cmpstring", "slices.overlaps[saturate/api.Var]"], unfollowed := true, recurses := true, loops := true, apart := false }
def RuleReversesSaid : Prop := ruleReversesRow.holds Tryz.pinned (OpenSpec.ofChange ruleReversesSpec)

/-- ITS FALSE NEIGHBOUR: 'it returns false'. Refute it at one input. -/
def ruleReversesWrong : ChangeSpec := { name := "ruleReverses", fn := fun _ => fun
  | [d] => { results := [.lit (.bool false)], args := [d] }
  | _ => none }
def RuleReversesWrongFalsely : Prop := ruleReversesRow.holds Tryz.pinned (OpenSpec.ofChange ruleReversesWrong)

/- THE SECOND FORM. 'bulk': how many values and letters a reading holds, each counted each time it is reached (what is shared counts as often as it is met; a slice's spare places count too). A statement '..UptoSaid' is the law's where the arguments, and the package variables that the reading takes, are together of bulk at most 1048576: NARROWER than '..Said'. Prove '..Said' where nothing that the law and all that it calls make is longer than what came in: it says more and counts as full. Else prove '..UptoSaid'. A law counts once. -/
mutual
def uptoBulk {H : Type} : DataW H → Nat
  | .lit (.string bytes) => bytes.length + 1
  | .lit _ => 1
  | .nil => 1
  | .ptr d => uptoBulk d + 1
  | .slice elems spare => uptoBulkAll elems + uptoBulkAll spare + 1
  | .agg parts => uptoBulkAll parts + 1
  | .iface _ d => uptoBulk d + 1
  | .map entries => uptoBulkEntries entries + 1
  | .held _ => 1
def uptoBulkAll {H : Type} : List (DataW H) → Nat
  | [] => 0
  | d :: r => uptoBulk d + uptoBulkAll r
def uptoBulkEntries {H : Type} : List (Lit × DataW H) → Nat
  | [] => 0
  | x :: r => uptoBulkEntry x + uptoBulkEntries r
def uptoBulkEntry {H : Type} : Lit × DataW H → Nat
  | (.string bytes, d) => bytes.length + uptoBulk d + 1
  | (_, d) => uptoBulk d + 1
 end
def uptoSmall : (H : Type) → List (DataW H) → Bool := fun _ ds => decide (uptoBulkAll ds ≤ 1048576)
def OpenSpec.upto (s : _root_.Go.ChangeSpec) : _root_.Go.OpenSpec := { _root_.Go.OpenSpec.ofChange s with cond := some uptoSmall }

/-- 'saturatelaw28.RuleChecks', WHERE WHAT IT READS IS OF BULK AT MOST 1048576: true; the input reads as it did. -/
def ruleChecksUptoRow : OpenClaim := { program := "ytpccheodgonkkaagreat", sum := "74d333b601fe6293e5c267d3eaec88ddc1428b7dbb1005244449047de543de3a", func := "saturate/saturatelaw28.RuleChecks", spec := "ruleChecks", inPlace := ["internal/bytealg.abigen_runtime_cmpstring", "slices.overlaps[saturate/api.Var]"], unfollowed := true, recurses := true, loops := true, apart := false, narrowed := true }
def RuleChecksUptoSaid : Prop := ruleChecksUptoRow.holds Tryz.pinned (OpenSpec.upto ruleChecksSpec)

/-- 'saturatelaw28.RuleWidths', WHERE WHAT IT READS IS OF BULK AT MOST 1048576: true; the input reads as it did. -/
def ruleWidthsUptoRow : OpenClaim := { program := "ytpccheodgonkkaagreat", sum := "74d333b601fe6293e5c267d3eaec88ddc1428b7dbb1005244449047de543de3a", func := "saturate/saturatelaw28.RuleWidths", spec := "ruleWidths", inPlace := ["internal/bytealg.abigen_runtime_cmpstring", "slices.overlaps[saturate/api.Var]"], unfollowed := true, recurses := true, loops := true, apart := false, narrowed := true }
def RuleWidthsUptoSaid : Prop := ruleWidthsUptoRow.holds Tryz.pinned (OpenSpec.upto ruleWidthsSpec)

/-- 'saturatelaw28.RuleEquations', WHERE WHAT IT READS IS OF BULK AT MOST 1048576: true; the input reads as it did. -/
def ruleEquationsUptoRow : OpenClaim := { program := "ytpccheodgonkkaagreat", sum := "74d333b601fe6293e5c267d3eaec88ddc1428b7dbb1005244449047de543de3a", func := "saturate/saturatelaw28.RuleEquations", spec := "ruleEquations", inPlace := ["internal/bytealg.abigen_runtime_cmpstring", "slices.overlaps[saturate/api.Var]"], unfollowed := true, recurses := true, loops := true, apart := false, narrowed := true }
def RuleEquationsUptoSaid : Prop := ruleEquationsUptoRow.holds Tryz.pinned (OpenSpec.upto ruleEquationsSpec)

/-- 'saturatelaw28.RuleSounds', WHERE WHAT IT READS IS OF BULK AT MOST 1048576: true; the input reads as it did. -/
def ruleSoundsUptoRow : OpenClaim := { program := "ytpccheodgonkkaagreat", sum := "74d333b601fe6293e5c267d3eaec88ddc1428b7dbb1005244449047de543de3a", func := "saturate/saturatelaw28.RuleSounds", spec := "ruleSounds", inPlace := ["internal/bytealg.abigen_runtime_cmpstring", "slices.overlaps[saturate/api.Var]"], unfollowed := true, recurses := true, loops := true, apart := false, narrowed := true }
def RuleSoundsUptoSaid : Prop := ruleSoundsUptoRow.holds Tryz.pinned (OpenSpec.upto ruleSoundsSpec)

/-- 'saturatelaw28.RuleUpTo', WHERE WHAT IT READS IS OF BULK AT MOST 1048576: true; the input reads as it did. -/
def ruleUpToUptoRow : OpenClaim := { program := "ytpccheodgonkkaagreat", sum := "74d333b601fe6293e5c267d3eaec88ddc1428b7dbb1005244449047de543de3a", func := "saturate/saturatelaw28.RuleUpTo", spec := "ruleUpTo", inPlace := ["internal/bytealg.abigen_runtime_cmpstring", "slices.overlaps[saturate/api.Var]"], unfollowed := true, recurses := true, loops := true, apart := false, narrowed := true }
def RuleUpToUptoSaid : Prop := ruleUpToUptoRow.holds Tryz.pinned (OpenSpec.upto ruleUpToSpec)

/-- 'saturatelaw28.RuleHolds', WHERE WHAT IT READS IS OF BULK AT MOST 1048576: true; the input reads as it did. -/
def ruleHoldsUptoRow : OpenClaim := { program := "ytpccheodgonkkaagreat", sum := "74d333b601fe6293e5c267d3eaec88ddc1428b7dbb1005244449047de543de3a", func := "saturate/saturatelaw28.RuleHolds", spec := "ruleHolds", inPlace := ["internal/bytealg.abigen_runtime_cmpstring", "slices.overlaps[saturate/api.Var]"], unfollowed := true, recurses := true, loops := true, apart := false, narrowed := true }
def RuleHoldsUptoSaid : Prop := ruleHoldsUptoRow.holds Tryz.pinned (OpenSpec.upto ruleHoldsSpec)

/-- 'saturatelaw28.RuleParts', WHERE WHAT IT READS IS OF BULK AT MOST 1048576: true; the input reads as it did. -/
def rulePartsUptoRow : OpenClaim := { program := "ytpccheodgonkkaagreat", sum := "74d333b601fe6293e5c267d3eaec88ddc1428b7dbb1005244449047de543de3a", func := "saturate/saturatelaw28.RuleParts", spec := "ruleParts", inPlace := ["internal/bytealg.abigen_runtime_cmpstring", "slices.overlaps[saturate/api.Var]"], unfollowed := true, recurses := true, loops := true, apart := false, narrowed := true }
def RulePartsUptoSaid : Prop := rulePartsUptoRow.holds Tryz.pinned (OpenSpec.upto rulePartsSpec)

/-- 'saturatelaw28.RuleReverses', WHERE WHAT IT READS IS OF BULK AT MOST 1048576: true; the input reads as it did. -/
def ruleReversesUptoRow : OpenClaim := { program := "ytpccheodgonkkaagreat", sum := "74d333b601fe6293e5c267d3eaec88ddc1428b7dbb1005244449047de543de3a", func := "saturate/saturatelaw28.RuleReverses", spec := "ruleReverses", inPlace := ["internal/bytealg.abigen_runtime_cmpstring", "slices.overlaps[saturate/api.Var]"], unfollowed := true, recurses := true, loops := true, apart := false, narrowed := true }
def RuleReversesUptoSaid : Prop := ruleReversesUptoRow.holds Tryz.pinned (OpenSpec.upto ruleReversesSpec)

end Rows
end Go.Proofs.YtpccheodgonkkaaGreat
