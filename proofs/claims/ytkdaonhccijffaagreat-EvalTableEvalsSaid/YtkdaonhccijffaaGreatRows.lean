/-
  NARROWER THAN 'FOR EVERY INPUT', by the rows' own cells (each row's printed sentence says how): EvalEvals: loops · EvalFolds: loops · EvalFoldKeeps: loops · EvalDepends: loops · EvalReduces: loops · EvalTables: loops · EvalTableEvals: loops.
  DERIVED. THE GIVEN ROWS OF THIS SEAT. 8 by the template 'for every input the law returns true; each argument reads behind the call as it read before'; 0 by the template 'total and deterministic' (their statements: YtkdaonhccijffaaGreatTotals.lean).
  GIVEN WITH THE SEED: the statements are not yours to turn. If you find one false, say at which input.
  Laid BY PROGRAM, IN A SANDBOX (cutbox-rows.mjs): the forced cells as the released guide's own fill.sh prints them over the translation a271de127ddec887… (all of the seat's roots in one cut). By AI agents, Wed Nov 11 2026. No macro, syntax, notation, axiom, sorry.
-/
import Derived.Test.YtkdaonhccijffaaGreatChecked
import GoSem.Claim
import GoSem.ClaimJoined
import GoSem.ClaimMapViews
import Derived.JoinedTies
import Derived.KernelRfl
namespace Go.Proofs.YtkdaonhccijffaaGreat
/- THE CELL 'sum', in the pinned program and in every row, IS THE sha256 OF THE DUMP (.gsa) THAT YtkdaonhccijffaaGreatProg.lean LOADS. Nothing in Lean hashes anything: it is a label: what it is worth is what the hold of that sum in a sandbox is worth. -/
noncomputable def Tryz.pinned : Pinned := { name := "ytkdaonhccijffaagreat", sum := "a271de127ddec887d05ffae2d11bfc6ae5319bf2343ac611c7406166a36dd51f", checked := Tryz.checked }
namespace Rows
def none {H : Type} : Left H := { results := [], args := [] }

/-- 'saturatelaw08.EvalEvals': WHATEVER THE INPUT: true; the input reads as it did. -/
def evalEvalsSpec : ChangeSpec := { name := "evalEvals", fn := fun _ => fun
  | [d1, d2] => { results := [.lit (.bool true)], args := [d1, d2] }
  | _ => none }
def evalEvalsRow : OpenClaim := { program := "ytkdaonhccijffaagreat", sum := "a271de127ddec887d05ffae2d11bfc6ae5319bf2343ac611c7406166a36dd51f", func := "saturate/saturatelaw08.EvalEvals", spec := "evalEvals", inPlace := ["internal/bytealg.abigen_runtime_cmpstring"], unfollowed := true, recurses := true, loops := true, apart := false }
def EvalEvalsSaid : Prop := evalEvalsRow.holds Tryz.pinned (OpenSpec.ofChange evalEvalsSpec)

/-- ITS FALSE NEIGHBOUR: 'it returns false'. Refute it at one input. -/
def evalEvalsWrong : ChangeSpec := { name := "evalEvals", fn := fun _ => fun
  | [d1, d2] => { results := [.lit (.bool false)], args := [d1, d2] }
  | _ => none }
def EvalEvalsWrongFalsely : Prop := evalEvalsRow.holds Tryz.pinned (OpenSpec.ofChange evalEvalsWrong)

/-- 'saturatelaw08.EvalFolds': WHATEVER THE INPUT: true; the input reads as it did. -/
def evalFoldsSpec : ChangeSpec := { name := "evalFolds", fn := fun _ => fun
  | [d] => { results := [.lit (.bool true)], args := [d] }
  | _ => none }
def evalFoldsRow : OpenClaim := { program := "ytkdaonhccijffaagreat", sum := "a271de127ddec887d05ffae2d11bfc6ae5319bf2343ac611c7406166a36dd51f", func := "saturate/saturatelaw08.EvalFolds", spec := "evalFolds", inPlace := ["internal/bytealg.abigen_runtime_cmpstring"], unfollowed := true, recurses := true, loops := true, apart := false }
def EvalFoldsSaid : Prop := evalFoldsRow.holds Tryz.pinned (OpenSpec.ofChange evalFoldsSpec)

/-- ITS FALSE NEIGHBOUR: 'it returns false'. Refute it at one input. -/
def evalFoldsWrong : ChangeSpec := { name := "evalFolds", fn := fun _ => fun
  | [d] => { results := [.lit (.bool false)], args := [d] }
  | _ => none }
def EvalFoldsWrongFalsely : Prop := evalFoldsRow.holds Tryz.pinned (OpenSpec.ofChange evalFoldsWrong)

/-- 'saturatelaw08.EvalFoldKeeps': WHATEVER THE INPUT: true; the input reads as it did. -/
def evalFoldKeepsSpec : ChangeSpec := { name := "evalFoldKeeps", fn := fun _ => fun
  | [d1, d2] => { results := [.lit (.bool true)], args := [d1, d2] }
  | _ => none }
def evalFoldKeepsRow : OpenClaim := { program := "ytkdaonhccijffaagreat", sum := "a271de127ddec887d05ffae2d11bfc6ae5319bf2343ac611c7406166a36dd51f", func := "saturate/saturatelaw08.EvalFoldKeeps", spec := "evalFoldKeeps", inPlace := ["internal/bytealg.abigen_runtime_cmpstring"], unfollowed := true, recurses := true, loops := true, apart := false }
def EvalFoldKeepsSaid : Prop := evalFoldKeepsRow.holds Tryz.pinned (OpenSpec.ofChange evalFoldKeepsSpec)

/-- ITS FALSE NEIGHBOUR: 'it returns false'. Refute it at one input. -/
def evalFoldKeepsWrong : ChangeSpec := { name := "evalFoldKeeps", fn := fun _ => fun
  | [d1, d2] => { results := [.lit (.bool false)], args := [d1, d2] }
  | _ => none }
def EvalFoldKeepsWrongFalsely : Prop := evalFoldKeepsRow.holds Tryz.pinned (OpenSpec.ofChange evalFoldKeepsWrong)

/-- 'saturatelaw08.EvalDepends': WHATEVER THE INPUT: true; the input reads as it did. -/
def evalDependsSpec : ChangeSpec := { name := "evalDepends", fn := fun _ => fun
  | [d1, d2, d3] => { results := [.lit (.bool true)], args := [d1, d2, d3] }
  | _ => none }
def evalDependsRow : OpenClaim := { program := "ytkdaonhccijffaagreat", sum := "a271de127ddec887d05ffae2d11bfc6ae5319bf2343ac611c7406166a36dd51f", func := "saturate/saturatelaw08.EvalDepends", spec := "evalDepends", inPlace := ["internal/bytealg.abigen_runtime_cmpstring"], unfollowed := true, recurses := true, loops := true, apart := false }
def EvalDependsSaid : Prop := evalDependsRow.holds Tryz.pinned (OpenSpec.ofChange evalDependsSpec)

/-- ITS FALSE NEIGHBOUR: 'it returns false'. Refute it at one input. -/
def evalDependsWrong : ChangeSpec := { name := "evalDepends", fn := fun _ => fun
  | [d1, d2, d3] => { results := [.lit (.bool false)], args := [d1, d2, d3] }
  | _ => none }
def EvalDependsWrongFalsely : Prop := evalDependsRow.holds Tryz.pinned (OpenSpec.ofChange evalDependsWrong)

/-- 'saturatelaw08.EvalReduces': WHATEVER THE INPUT: true; the input reads as it did. -/
def evalReducesSpec : ChangeSpec := { name := "evalReduces", fn := fun _ => fun
  | [d1, d2, d3] => { results := [.lit (.bool true)], args := [d1, d2, d3] }
  | _ => none }
def evalReducesRow : OpenClaim := { program := "ytkdaonhccijffaagreat", sum := "a271de127ddec887d05ffae2d11bfc6ae5319bf2343ac611c7406166a36dd51f", func := "saturate/saturatelaw08.EvalReduces", spec := "evalReduces", inPlace := ["internal/bytealg.abigen_runtime_cmpstring"], unfollowed := true, recurses := true, loops := true, apart := false }
def EvalReducesSaid : Prop := evalReducesRow.holds Tryz.pinned (OpenSpec.ofChange evalReducesSpec)

/-- ITS FALSE NEIGHBOUR: 'it returns false'. Refute it at one input. -/
def evalReducesWrong : ChangeSpec := { name := "evalReduces", fn := fun _ => fun
  | [d1, d2, d3] => { results := [.lit (.bool false)], args := [d1, d2, d3] }
  | _ => none }
def EvalReducesWrongFalsely : Prop := evalReducesRow.holds Tryz.pinned (OpenSpec.ofChange evalReducesWrong)

/-- 'saturatelaw08.EvalApplies': WHATEVER THE INPUT: true; the input reads as it did. -/
def evalAppliesSpec : ChangeSpec := { name := "evalApplies", fn := fun _ => fun
  | [d1, d2, d3, d4] => { results := [.lit (.bool true)], args := [d1, d2, d3, d4] }
  | _ => none }
def evalAppliesRow : OpenClaim := { program := "ytkdaonhccijffaagreat", sum := "a271de127ddec887d05ffae2d11bfc6ae5319bf2343ac611c7406166a36dd51f", func := "saturate/saturatelaw08.EvalApplies", spec := "evalApplies", inPlace := ["internal/bytealg.abigen_runtime_cmpstring"], unfollowed := true, recurses := true, apart := false }
def EvalAppliesSaid : Prop := evalAppliesRow.holds Tryz.pinned (OpenSpec.ofChange evalAppliesSpec)

/-- ITS FALSE NEIGHBOUR: 'it returns false'. Refute it at one input. -/
def evalAppliesWrong : ChangeSpec := { name := "evalApplies", fn := fun _ => fun
  | [d1, d2, d3, d4] => { results := [.lit (.bool false)], args := [d1, d2, d3, d4] }
  | _ => none }
def EvalAppliesWrongFalsely : Prop := evalAppliesRow.holds Tryz.pinned (OpenSpec.ofChange evalAppliesWrong)

/-- 'saturatelaw08.EvalTables': WHATEVER THE INPUT: true; the input reads as it did. -/
def evalTablesSpec : ChangeSpec := { name := "evalTables", fn := fun _ => fun
  | [d1, d2] => { results := [.lit (.bool true)], args := [d1, d2] }
  | _ => none }
def evalTablesRow : OpenClaim := { program := "ytkdaonhccijffaagreat", sum := "a271de127ddec887d05ffae2d11bfc6ae5319bf2343ac611c7406166a36dd51f", func := "saturate/saturatelaw08.EvalTables", spec := "evalTables", inPlace := ["internal/bytealg.abigen_runtime_cmpstring"], unfollowed := true, recurses := true, loops := true, apart := false }
def EvalTablesSaid : Prop := evalTablesRow.holds Tryz.pinned (OpenSpec.ofChange evalTablesSpec)

/-- ITS FALSE NEIGHBOUR: 'it returns false'. Refute it at one input. -/
def evalTablesWrong : ChangeSpec := { name := "evalTables", fn := fun _ => fun
  | [d1, d2] => { results := [.lit (.bool false)], args := [d1, d2] }
  | _ => none }
def EvalTablesWrongFalsely : Prop := evalTablesRow.holds Tryz.pinned (OpenSpec.ofChange evalTablesWrong)

/-- 'saturatelaw08.EvalTableEvals': WHATEVER THE INPUT: true; the input reads as it did. -/
def evalTableEvalsSpec : ChangeSpec := { name := "evalTableEvals", fn := fun _ => fun
  | [d1, d2, d3] => { results := [.lit (.bool true)], args := [d1, d2, d3] }
  | _ => none }
def evalTableEvalsRow : OpenClaim := { program := "ytkdaonhccijffaagreat", sum := "a271de127ddec887d05ffae2d11bfc6ae5319bf2343ac611c7406166a36dd51f", func := "saturate/saturatelaw08.EvalTableEvals", spec := "evalTableEvals", inPlace := ["internal/bytealg.abigen_runtime_cmpstring"], unfollowed := true, recurses := true, loops := true, apart := false }
def EvalTableEvalsSaid : Prop := evalTableEvalsRow.holds Tryz.pinned (OpenSpec.ofChange evalTableEvalsSpec)

/-- ITS FALSE NEIGHBOUR: 'it returns false'. Refute it at one input. -/
def evalTableEvalsWrong : ChangeSpec := { name := "evalTableEvals", fn := fun _ => fun
  | [d1, d2, d3] => { results := [.lit (.bool false)], args := [d1, d2, d3] }
  | _ => none }
def EvalTableEvalsWrongFalsely : Prop := evalTableEvalsRow.holds Tryz.pinned (OpenSpec.ofChange evalTableEvalsWrong)

/- THE SECOND FORM. 'bulk': how many values and letters a reading holds, each counted each time it is reached (what is shared counts as often as it is met; a slice's spare places count too). A statement '..UptoSaid' is the law's where the arguments, and the package variables that the reading takes, are together of bulk at most 1048576: NARROWER than '..Said'. Prove '..Said' where nothing that the law and all that it calls make is longer than what came in: it says more and counts as full. Else prove '..UptoSaid'. A law counts once. -/
mutual
def uptoBulk {H : Type} : DataW H → Nat
  | .lit (.string bytes) => bytes.length + 1
  | .lit _ => 1
  | .nil => 1
  | .ptr d => uptoBulk d + 1
  | .slice elems spare => uptoBulkAll elems + uptoBulkAll spare + 1
  | .agg parts => uptoBulkAll parts + 1
  | .iface _ d => uptoBulk d + 1
  | .map entries => uptoBulkEntries entries + 1
  | .held _ => 1
def uptoBulkAll {H : Type} : List (DataW H) → Nat
  | [] => 0
  | d :: r => uptoBulk d + uptoBulkAll r
def uptoBulkEntries {H : Type} : List (Lit × DataW H) → Nat
  | [] => 0
  | x :: r => uptoBulkEntry x + uptoBulkEntries r
def uptoBulkEntry {H : Type} : Lit × DataW H → Nat
  | (.string bytes, d) => bytes.length + uptoBulk d + 1
  | (_, d) => uptoBulk d + 1
 end
def uptoSmall : (H : Type) → List (DataW H) → Bool := fun _ ds => decide (uptoBulkAll ds ≤ 1048576)
def OpenSpec.upto (s : _root_.Go.ChangeSpec) : _root_.Go.OpenSpec := { _root_.Go.OpenSpec.ofChange s with cond := some uptoSmall }

/-- 'saturatelaw08.EvalEvals', WHERE WHAT IT READS IS OF BULK AT MOST 1048576: true; the input reads as it did. -/
def evalEvalsUptoRow : OpenClaim := { program := "ytkdaonhccijffaagreat", sum := "a271de127ddec887d05ffae2d11bfc6ae5319bf2343ac611c7406166a36dd51f", func := "saturate/saturatelaw08.EvalEvals", spec := "evalEvals", inPlace := ["internal/bytealg.abigen_runtime_cmpstring"], unfollowed := true, recurses := true, loops := true, apart := false, narrowed := true }
def EvalEvalsUptoSaid : Prop := evalEvalsUptoRow.holds Tryz.pinned (OpenSpec.upto evalEvalsSpec)

/-- 'saturatelaw08.EvalFolds', WHERE WHAT IT READS IS OF BULK AT MOST 1048576: true; the input reads as it did. -/
def evalFoldsUptoRow : OpenClaim := { program := "ytkdaonhccijffaagreat", sum := "a271de127ddec887d05ffae2d11bfc6ae5319bf2343ac611c7406166a36dd51f", func := "saturate/saturatelaw08.EvalFolds", spec := "evalFolds", inPlace := ["internal/bytealg.abigen_runtime_cmpstring"], unfollowed := true, recurses := true, loops := true, apart := false, narrowed := true }
def EvalFoldsUptoSaid : Prop := evalFoldsUptoRow.holds Tryz.pinned (OpenSpec.upto evalFoldsSpec)

/-- 'saturatelaw08.EvalFoldKeeps', WHERE WHAT IT READS IS OF BULK AT MOST 1048576: true; the input reads as it did. -/
def evalFoldKeepsUptoRow : OpenClaim := { program := "ytkdaonhccijffaagreat", sum := "a271de127ddec887d05ffae2d11bfc6ae5319bf2343ac611c7406166a36dd51f", func := "saturate/saturatelaw08.EvalFoldKeeps", spec := "evalFoldKeeps", inPlace := ["internal/bytealg.abigen_runtime_cmpstring"], unfollowed := true, recurses := true, loops := true, apart := false, narrowed := true }
def EvalFoldKeepsUptoSaid : Prop := evalFoldKeepsUptoRow.holds Tryz.pinned (OpenSpec.upto evalFoldKeepsSpec)

/-- 'saturatelaw08.EvalDepends', WHERE WHAT IT READS IS OF BULK AT MOST 1048576: true; the input reads as it did. -/
def evalDependsUptoRow : OpenClaim := { program := "ytkdaonhccijffaagreat", sum := "a271de127ddec887d05ffae2d11bfc6ae5319bf2343ac611c7406166a36dd51f", func := "saturate/saturatelaw08.EvalDepends", spec := "evalDepends", inPlace := ["internal/bytealg.abigen_runtime_cmpstring"], unfollowed := true, recurses := true, loops := true, apart := false, narrowed := true }
def EvalDependsUptoSaid : Prop := evalDependsUptoRow.holds Tryz.pinned (OpenSpec.upto evalDependsSpec)

/-- 'saturatelaw08.EvalReduces', WHERE WHAT IT READS IS OF BULK AT MOST 1048576: true; the input reads as it did. -/
def evalReducesUptoRow : OpenClaim := { program := "ytkdaonhccijffaagreat", sum := "a271de127ddec887d05ffae2d11bfc6ae5319bf2343ac611c7406166a36dd51f", func := "saturate/saturatelaw08.EvalReduces", spec := "evalReduces", inPlace := ["internal/bytealg.abigen_runtime_cmpstring"], unfollowed := true, recurses := true, loops := true, apart := false, narrowed := true }
def EvalReducesUptoSaid : Prop := evalReducesUptoRow.holds Tryz.pinned (OpenSpec.upto evalReducesSpec)

/-- 'saturatelaw08.EvalApplies', WHERE WHAT IT READS IS OF BULK AT MOST 1048576: true; the input reads as it did. -/
def evalAppliesUptoRow : OpenClaim := { program := "ytkdaonhccijffaagreat", sum := "a271de127ddec887d05ffae2d11bfc6ae5319bf2343ac611c7406166a36dd51f", func := "saturate/saturatelaw08.EvalApplies", spec := "evalApplies", inPlace := ["internal/bytealg.abigen_runtime_cmpstring"], unfollowed := true, recurses := true, apart := false, narrowed := true }
def EvalAppliesUptoSaid : Prop := evalAppliesUptoRow.holds Tryz.pinned (OpenSpec.upto evalAppliesSpec)

/-- 'saturatelaw08.EvalTables', WHERE WHAT IT READS IS OF BULK AT MOST 1048576: true; the input reads as it did. -/
def evalTablesUptoRow : OpenClaim := { program := "ytkdaonhccijffaagreat", sum := "a271de127ddec887d05ffae2d11bfc6ae5319bf2343ac611c7406166a36dd51f", func := "saturate/saturatelaw08.EvalTables", spec := "evalTables", inPlace := ["internal/bytealg.abigen_runtime_cmpstring"], unfollowed := true, recurses := true, loops := true, apart := false, narrowed := true }
def EvalTablesUptoSaid : Prop := evalTablesUptoRow.holds Tryz.pinned (OpenSpec.upto evalTablesSpec)

/-- 'saturatelaw08.EvalTableEvals', WHERE WHAT IT READS IS OF BULK AT MOST 1048576: true; the input reads as it did. -/
def evalTableEvalsUptoRow : OpenClaim := { program := "ytkdaonhccijffaagreat", sum := "a271de127ddec887d05ffae2d11bfc6ae5319bf2343ac611c7406166a36dd51f", func := "saturate/saturatelaw08.EvalTableEvals", spec := "evalTableEvals", inPlace := ["internal/bytealg.abigen_runtime_cmpstring"], unfollowed := true, recurses := true, loops := true, apart := false, narrowed := true }
def EvalTableEvalsUptoSaid : Prop := evalTableEvalsUptoRow.holds Tryz.pinned (OpenSpec.upto evalTableEvalsSpec)

end Rows
end Go.Proofs.YtkdaonhccijffaaGreat
