/-
  NARROWER THAN 'FOR EVERY INPUT', by the rows' own cells (each row's printed sentence says how): ExhaustVars: loops · ExhaustEquals: loops · ExhaustValids: loops · ExhaustSats: loops · ExhaustWitness: loops · ExhaustRelation: loops · ExhaustCongruent: loops · ExhaustPlain: loops · ExhaustCounts: loops.
  DERIVED. THE GIVEN ROWS OF THIS SEAT. 9 by the template 'for every input the law returns true; each argument reads behind the call as it read before'; 0 by the template 'total and deterministic' (their statements: YtiinicliedpmjaaGreatTotals.lean).
  GIVEN WITH THE SEED: the statements are not yours to turn. If you find one false, say at which input.
  Laid BY PROGRAM, IN A SANDBOX (cutbox-rows.mjs): the forced cells as the released guide's own fill.sh prints them over the translation 71bff4d1a7b1d8d0… (all of the seat's roots in one cut). By AI agents, Wed Nov 11 2026. No macro, syntax, notation, axiom, sorry.
-/
import Derived.Test.YtiinicliedpmjaaGreatChecked
import GoSem.Claim
import GoSem.ClaimJoined
import GoSem.ClaimMapViews
import Derived.JoinedTies
import Derived.KernelRfl
namespace Go.Proofs.YtiinicliedpmjaaGreat
/- THE CELL 'sum', in the pinned program and in every row, IS THE sha256 OF THE DUMP (.gsa) THAT YtiinicliedpmjaaGreatProg.lean LOADS. Nothing in Lean hashes anything: it is a label: what it is worth is what the hold of that sum in a sandbox is worth. -/
noncomputable def Tryz.pinned : Pinned := { name := "ytiinicliedpmjaagreat", sum := "71bff4d1a7b1d8d0d8833352b4ea50244109e558bc33c27b03c9dfb20d8f9825", checked := Tryz.checked }
namespace Rows
def none {H : Type} : Left H := { results := [], args := [] }

/-- 'saturatelaw11.ExhaustVars': WHATEVER THE INPUT: true; the input reads as it did. -/
def exhaustVarsSpec : ChangeSpec := { name := "exhaustVars", fn := fun _ => fun
  | [d] => { results := [.lit (.bool true)], args := [d] }
  | _ => none }
def exhaustVarsRow : OpenClaim := { program := "ytiinicliedpmjaagreat", sum := "71bff4d1a7b1d8d0d8833352b4ea50244109e558bc33c27b03c9dfb20d8f9825", func := "saturate/saturatelaw11.ExhaustVars", spec := "exhaustVars", inPlace := ["internal/bytealg.abigen_runtime_cmpstring"], unfollowed := true, recurses := true, loops := true, apart := false }
def ExhaustVarsSaid : Prop := exhaustVarsRow.holds Tryz.pinned (OpenSpec.ofChange exhaustVarsSpec)

/-- ITS FALSE NEIGHBOUR: 'it returns false'. Refute it at one input. -/
def exhaustVarsWrong : ChangeSpec := { name := "exhaustVars", fn := fun _ => fun
  | [d] => { results := [.lit (.bool false)], args := [d] }
  | _ => none }
def ExhaustVarsWrongFalsely : Prop := exhaustVarsRow.holds Tryz.pinned (OpenSpec.ofChange exhaustVarsWrong)

/-- 'saturatelaw11.ExhaustEquals': WHATEVER THE INPUT: true; the input reads as it did. -/
def exhaustEqualsSpec : ChangeSpec := { name := "exhaustEquals", fn := fun _ => fun
  | [d1, d2] => { results := [.lit (.bool true)], args := [d1, d2] }
  | _ => none }
def exhaustEqualsRow : OpenClaim := { program := "ytiinicliedpmjaagreat", sum := "71bff4d1a7b1d8d0d8833352b4ea50244109e558bc33c27b03c9dfb20d8f9825", func := "saturate/saturatelaw11.ExhaustEquals", spec := "exhaustEquals", inPlace := ["internal/bytealg.abigen_runtime_cmpstring"], unfollowed := true, recurses := true, loops := true, apart := false }
def ExhaustEqualsSaid : Prop := exhaustEqualsRow.holds Tryz.pinned (OpenSpec.ofChange exhaustEqualsSpec)

/-- ITS FALSE NEIGHBOUR: 'it returns false'. Refute it at one input. -/
def exhaustEqualsWrong : ChangeSpec := { name := "exhaustEquals", fn := fun _ => fun
  | [d1, d2] => { results := [.lit (.bool false)], args := [d1, d2] }
  | _ => none }
def ExhaustEqualsWrongFalsely : Prop := exhaustEqualsRow.holds Tryz.pinned (OpenSpec.ofChange exhaustEqualsWrong)

/-- 'saturatelaw11.ExhaustValids': WHATEVER THE INPUT: true; the input reads as it did. -/
def exhaustValidsSpec : ChangeSpec := { name := "exhaustValids", fn := fun _ => fun
  | [d1, d2, d3] => { results := [.lit (.bool true)], args := [d1, d2, d3] }
  | _ => none }
def exhaustValidsRow : OpenClaim := { program := "ytiinicliedpmjaagreat", sum := "71bff4d1a7b1d8d0d8833352b4ea50244109e558bc33c27b03c9dfb20d8f9825", func := "saturate/saturatelaw11.ExhaustValids", spec := "exhaustValids", inPlace := ["internal/bytealg.abigen_runtime_cmpstring"], unfollowed := true, recurses := true, loops := true, apart := false }
def ExhaustValidsSaid : Prop := exhaustValidsRow.holds Tryz.pinned (OpenSpec.ofChange exhaustValidsSpec)

/-- ITS FALSE NEIGHBOUR: 'it returns false'. Refute it at one input. -/
def exhaustValidsWrong : ChangeSpec := { name := "exhaustValids", fn := fun _ => fun
  | [d1, d2, d3] => { results := [.lit (.bool false)], args := [d1, d2, d3] }
  | _ => none }
def ExhaustValidsWrongFalsely : Prop := exhaustValidsRow.holds Tryz.pinned (OpenSpec.ofChange exhaustValidsWrong)

/-- 'saturatelaw11.ExhaustSats': WHATEVER THE INPUT: true; the input reads as it did. -/
def exhaustSatsSpec : ChangeSpec := { name := "exhaustSats", fn := fun _ => fun
  | [d] => { results := [.lit (.bool true)], args := [d] }
  | _ => none }
def exhaustSatsRow : OpenClaim := { program := "ytiinicliedpmjaagreat", sum := "71bff4d1a7b1d8d0d8833352b4ea50244109e558bc33c27b03c9dfb20d8f9825", func := "saturate/saturatelaw11.ExhaustSats", spec := "exhaustSats", inPlace := ["internal/bytealg.abigen_runtime_cmpstring"], unfollowed := true, recurses := true, loops := true, apart := false }
def ExhaustSatsSaid : Prop := exhaustSatsRow.holds Tryz.pinned (OpenSpec.ofChange exhaustSatsSpec)

/-- ITS FALSE NEIGHBOUR: 'it returns false'. Refute it at one input. -/
def exhaustSatsWrong : ChangeSpec := { name := "exhaustSats", fn := fun _ => fun
  | [d] => { results := [.lit (.bool false)], args := [d] }
  | _ => none }
def ExhaustSatsWrongFalsely : Prop := exhaustSatsRow.holds Tryz.pinned (OpenSpec.ofChange exhaustSatsWrong)

/-- 'saturatelaw11.ExhaustWitness': WHATEVER THE INPUT: true; the input reads as it did. -/
def exhaustWitnessSpec : ChangeSpec := { name := "exhaustWitness", fn := fun _ => fun
  | [d1, d2, d3] => { results := [.lit (.bool true)], args := [d1, d2, d3] }
  | _ => none }
def exhaustWitnessRow : OpenClaim := { program := "ytiinicliedpmjaagreat", sum := "71bff4d1a7b1d8d0d8833352b4ea50244109e558bc33c27b03c9dfb20d8f9825", func := "saturate/saturatelaw11.ExhaustWitness", spec := "exhaustWitness", inPlace := ["internal/bytealg.abigen_runtime_cmpstring"], unfollowed := true, recurses := true, loops := true, apart := false }
def ExhaustWitnessSaid : Prop := exhaustWitnessRow.holds Tryz.pinned (OpenSpec.ofChange exhaustWitnessSpec)

/-- ITS FALSE NEIGHBOUR: 'it returns false'. Refute it at one input. -/
def exhaustWitnessWrong : ChangeSpec := { name := "exhaustWitness", fn := fun _ => fun
  | [d1, d2, d3] => { results := [.lit (.bool false)], args := [d1, d2, d3] }
  | _ => none }
def ExhaustWitnessWrongFalsely : Prop := exhaustWitnessRow.holds Tryz.pinned (OpenSpec.ofChange exhaustWitnessWrong)

/-- 'saturatelaw11.ExhaustRelation': WHATEVER THE INPUT: true; the input reads as it did. -/
def exhaustRelationSpec : ChangeSpec := { name := "exhaustRelation", fn := fun _ => fun
  | [d1, d2, d3] => { results := [.lit (.bool true)], args := [d1, d2, d3] }
  | _ => none }
def exhaustRelationRow : OpenClaim := { program := "ytiinicliedpmjaagreat", sum := "71bff4d1a7b1d8d0d8833352b4ea50244109e558bc33c27b03c9dfb20d8f9825", func := "saturate/saturatelaw11.ExhaustRelation", spec := "exhaustRelation", inPlace := ["internal/bytealg.abigen_runtime_cmpstring"], unfollowed := true, recurses := true, loops := true, apart := false }
def ExhaustRelationSaid : Prop := exhaustRelationRow.holds Tryz.pinned (OpenSpec.ofChange exhaustRelationSpec)

/-- ITS FALSE NEIGHBOUR: 'it returns false'. Refute it at one input. -/
def exhaustRelationWrong : ChangeSpec := { name := "exhaustRelation", fn := fun _ => fun
  | [d1, d2, d3] => { results := [.lit (.bool false)], args := [d1, d2, d3] }
  | _ => none }
def ExhaustRelationWrongFalsely : Prop := exhaustRelationRow.holds Tryz.pinned (OpenSpec.ofChange exhaustRelationWrong)

/-- 'saturatelaw11.ExhaustCongruent': WHATEVER THE INPUT: true; the input reads as it did. -/
def exhaustCongruentSpec : ChangeSpec := { name := "exhaustCongruent", fn := fun _ => fun
  | [d1, d2, d3] => { results := [.lit (.bool true)], args := [d1, d2, d3] }
  | _ => none }
def exhaustCongruentRow : OpenClaim := { program := "ytiinicliedpmjaagreat", sum := "71bff4d1a7b1d8d0d8833352b4ea50244109e558bc33c27b03c9dfb20d8f9825", func := "saturate/saturatelaw11.ExhaustCongruent", spec := "exhaustCongruent", inPlace := ["internal/bytealg.abigen_runtime_cmpstring"], unfollowed := true, recurses := true, loops := true, apart := false }
def ExhaustCongruentSaid : Prop := exhaustCongruentRow.holds Tryz.pinned (OpenSpec.ofChange exhaustCongruentSpec)

/-- ITS FALSE NEIGHBOUR: 'it returns false'. Refute it at one input. -/
def exhaustCongruentWrong : ChangeSpec := { name := "exhaustCongruent", fn := fun _ => fun
  | [d1, d2, d3] => { results := [.lit (.bool false)], args := [d1, d2, d3] }
  | _ => none }
def ExhaustCongruentWrongFalsely : Prop := exhaustCongruentRow.holds Tryz.pinned (OpenSpec.ofChange exhaustCongruentWrong)

/-- 'saturatelaw11.ExhaustPlain': WHATEVER THE INPUT: true; the input reads as it did. -/
def exhaustPlainSpec : ChangeSpec := { name := "exhaustPlain", fn := fun _ => fun
  | [d1, d2] => { results := [.lit (.bool true)], args := [d1, d2] }
  | _ => none }
def exhaustPlainRow : OpenClaim := { program := "ytiinicliedpmjaagreat", sum := "71bff4d1a7b1d8d0d8833352b4ea50244109e558bc33c27b03c9dfb20d8f9825", func := "saturate/saturatelaw11.ExhaustPlain", spec := "exhaustPlain", inPlace := ["internal/bytealg.abigen_runtime_cmpstring"], unfollowed := true, recurses := true, loops := true, apart := false }
def ExhaustPlainSaid : Prop := exhaustPlainRow.holds Tryz.pinned (OpenSpec.ofChange exhaustPlainSpec)

/-- ITS FALSE NEIGHBOUR: 'it returns false'. Refute it at one input. -/
def exhaustPlainWrong : ChangeSpec := { name := "exhaustPlain", fn := fun _ => fun
  | [d1, d2] => { results := [.lit (.bool false)], args := [d1, d2] }
  | _ => none }
def ExhaustPlainWrongFalsely : Prop := exhaustPlainRow.holds Tryz.pinned (OpenSpec.ofChange exhaustPlainWrong)

/-- 'saturatelaw11.ExhaustCounts': WHATEVER THE INPUT: true; the input reads as it did. -/
def exhaustCountsSpec : ChangeSpec := { name := "exhaustCounts", fn := fun _ => fun
  | [d] => { results := [.lit (.bool true)], args := [d] }
  | _ => none }
def exhaustCountsRow : OpenClaim := { program := "ytiinicliedpmjaagreat", sum := "71bff4d1a7b1d8d0d8833352b4ea50244109e558bc33c27b03c9dfb20d8f9825", func := "saturate/saturatelaw11.ExhaustCounts", spec := "exhaustCounts", inPlace := ["internal/bytealg.abigen_runtime_cmpstring"], unfollowed := true, recurses := true, loops := true, apart := false }
def ExhaustCountsSaid : Prop := exhaustCountsRow.holds Tryz.pinned (OpenSpec.ofChange exhaustCountsSpec)

/-- ITS FALSE NEIGHBOUR: 'it returns false'. Refute it at one input. -/
def exhaustCountsWrong : ChangeSpec := { name := "exhaustCounts", fn := fun _ => fun
  | [d] => { results := [.lit (.bool false)], args := [d] }
  | _ => none }
def ExhaustCountsWrongFalsely : Prop := exhaustCountsRow.holds Tryz.pinned (OpenSpec.ofChange exhaustCountsWrong)

/- THE SECOND FORM. 'bulk': how many values and letters a reading holds, each counted each time it is reached (what is shared counts as often as it is met; a slice's spare places count too). A statement '..UptoSaid' is the law's where the arguments, and the package variables that the reading takes, are together of bulk at most 1048576: NARROWER than '..Said'. Prove '..Said' where nothing that the law and all that it calls make is longer than what came in: it says more and counts as full. Else prove '..UptoSaid'. A law counts once. -/
mutual
def uptoBulk {H : Type} : DataW H → Nat
  | .lit (.string bytes) => bytes.length + 1
  | .lit _ => 1
  | .nil => 1
  | .ptr d => uptoBulk d + 1
  | .slice elems spare => uptoBulkAll elems + uptoBulkAll spare + 1
  | .agg parts => uptoBulkAll parts + 1
  | .iface _ d => uptoBulk d + 1
  | .map entries => uptoBulkEntries entries + 1
  | .held _ => 1
def uptoBulkAll {H : Type} : List (DataW H) → Nat
  | [] => 0
  | d :: r => uptoBulk d + uptoBulkAll r
def uptoBulkEntries {H : Type} : List (Lit × DataW H) → Nat
  | [] => 0
  | x :: r => uptoBulkEntry x + uptoBulkEntries r
def uptoBulkEntry {H : Type} : Lit × DataW H → Nat
  | (.string bytes, d) => bytes.length + uptoBulk d + 1
  | (_, d) => uptoBulk d + 1
 end
def uptoSmall : (H : Type) → List (DataW H) → Bool := fun _ ds => decide (uptoBulkAll ds ≤ 1048576)
def OpenSpec.upto (s : _root_.Go.ChangeSpec) : _root_.Go.OpenSpec := { _root_.Go.OpenSpec.ofChange s with cond := some uptoSmall }

/-- 'saturatelaw11.ExhaustVars', WHERE WHAT IT READS IS OF BULK AT MOST 1048576: true; the input reads as it did. -/
def exhaustVarsUptoRow : OpenClaim := { program := "ytiinicliedpmjaagreat", sum := "71bff4d1a7b1d8d0d8833352b4ea50244109e558bc33c27b03c9dfb20d8f9825", func := "saturate/saturatelaw11.ExhaustVars", spec := "exhaustVars", inPlace := ["internal/bytealg.abigen_runtime_cmpstring"], unfollowed := true, recurses := true, loops := true, apart := false, narrowed := true }
def ExhaustVarsUptoSaid : Prop := exhaustVarsUptoRow.holds Tryz.pinned (OpenSpec.upto exhaustVarsSpec)

/-- 'saturatelaw11.ExhaustEquals', WHERE WHAT IT READS IS OF BULK AT MOST 1048576: true; the input reads as it did. -/
def exhaustEqualsUptoRow : OpenClaim := { program := "ytiinicliedpmjaagreat", sum := "71bff4d1a7b1d8d0d8833352b4ea50244109e558bc33c27b03c9dfb20d8f9825", func := "saturate/saturatelaw11.ExhaustEquals", spec := "exhaustEquals", inPlace := ["internal/bytealg.abigen_runtime_cmpstring"], unfollowed := true, recurses := true, loops := true, apart := false, narrowed := true }
def ExhaustEqualsUptoSaid : Prop := exhaustEqualsUptoRow.holds Tryz.pinned (OpenSpec.upto exhaustEqualsSpec)

/-- 'saturatelaw11.ExhaustValids', WHERE WHAT IT READS IS OF BULK AT MOST 1048576: true; the input reads as it did. -/
def exhaustValidsUptoRow : OpenClaim := { program := "ytiinicliedpmjaagreat", sum := "71bff4d1a7b1d8d0d8833352b4ea50244109e558bc33c27b03c9dfb20d8f9825", func := "saturate/saturatelaw11.ExhaustValids", spec := "exhaustValids", inPlace := ["internal/bytealg.abigen_runtime_cmpstring"], unfollowed := true, recurses := true, loops := true, apart := false, narrowed := true }
def ExhaustValidsUptoSaid : Prop := exhaustValidsUptoRow.holds Tryz.pinned (OpenSpec.upto exhaustValidsSpec)

/-- 'saturatelaw11.ExhaustSats', WHERE WHAT IT READS IS OF BULK AT MOST 1048576: true; the input reads as it did. -/
def exhaustSatsUptoRow : OpenClaim := { program := "ytiinicliedpmjaagreat", sum := "71bff4d1a7b1d8d0d8833352b4ea50244109e558bc33c27b03c9dfb20d8f9825", func := "saturate/saturatelaw11.ExhaustSats", spec := "exhaustSats", inPlace := ["internal/bytealg.abigen_runtime_cmpstring"], unfollowed := true, recurses := true, loops := true, apart := false, narrowed := true }
def ExhaustSatsUptoSaid : Prop := exhaustSatsUptoRow.holds Tryz.pinned (OpenSpec.upto exhaustSatsSpec)

/-- 'saturatelaw11.ExhaustWitness', WHERE WHAT IT READS IS OF BULK AT MOST 1048576: true; the input reads as it did. -/
def exhaustWitnessUptoRow : OpenClaim := { program := "ytiinicliedpmjaagreat", sum := "71bff4d1a7b1d8d0d8833352b4ea50244109e558bc33c27b03c9dfb20d8f9825", func := "saturate/saturatelaw11.ExhaustWitness", spec := "exhaustWitness", inPlace := ["internal/bytealg.abigen_runtime_cmpstring"], unfollowed := true, recurses := true, loops := true, apart := false, narrowed := true }
def ExhaustWitnessUptoSaid : Prop := exhaustWitnessUptoRow.holds Tryz.pinned (OpenSpec.upto exhaustWitnessSpec)

/-- 'saturatelaw11.ExhaustRelation', WHERE WHAT IT READS IS OF BULK AT MOST 1048576: true; the input reads as it did. -/
def exhaustRelationUptoRow : OpenClaim := { program := "ytiinicliedpmjaagreat", sum := "71bff4d1a7b1d8d0d8833352b4ea50244109e558bc33c27b03c9dfb20d8f9825", func := "saturate/saturatelaw11.ExhaustRelation", spec := "exhaustRelation", inPlace := ["internal/bytealg.abigen_runtime_cmpstring"], unfollowed := true, recurses := true, loops := true, apart := false, narrowed := true }
def ExhaustRelationUptoSaid : Prop := exhaustRelationUptoRow.holds Tryz.pinned (OpenSpec.upto exhaustRelationSpec)

/-- 'saturatelaw11.ExhaustCongruent', WHERE WHAT IT READS IS OF BULK AT MOST 1048576: true; the input reads as it did. -/
def exhaustCongruentUptoRow : OpenClaim := { program := "ytiinicliedpmjaagreat", sum := "71bff4d1a7b1d8d0d8833352b4ea50244109e558bc33c27b03c9dfb20d8f9825", func := "saturate/saturatelaw11.ExhaustCongruent", spec := "exhaustCongruent", inPlace := ["internal/bytealg.abigen_runtime_cmpstring"], unfollowed := true, recurses := true, loops := true, apart := false, narrowed := true }
def ExhaustCongruentUptoSaid : Prop := exhaustCongruentUptoRow.holds Tryz.pinned (OpenSpec.upto exhaustCongruentSpec)

/-- 'saturatelaw11.ExhaustPlain', WHERE WHAT IT READS IS OF BULK AT MOST 1048576: true; the input reads as it did. -/
def exhaustPlainUptoRow : OpenClaim := { program := "ytiinicliedpmjaagreat", sum := "71bff4d1a7b1d8d0d8833352b4ea50244109e558bc33c27b03c9dfb20d8f9825", func := "saturate/saturatelaw11.ExhaustPlain", spec := "exhaustPlain", inPlace := ["internal/bytealg.abigen_runtime_cmpstring"], unfollowed := true, recurses := true, loops := true, apart := false, narrowed := true }
def ExhaustPlainUptoSaid : Prop := exhaustPlainUptoRow.holds Tryz.pinned (OpenSpec.upto exhaustPlainSpec)

/-- 'saturatelaw11.ExhaustCounts', WHERE WHAT IT READS IS OF BULK AT MOST 1048576: true; the input reads as it did. -/
def exhaustCountsUptoRow : OpenClaim := { program := "ytiinicliedpmjaagreat", sum := "71bff4d1a7b1d8d0d8833352b4ea50244109e558bc33c27b03c9dfb20d8f9825", func := "saturate/saturatelaw11.ExhaustCounts", spec := "exhaustCounts", inPlace := ["internal/bytealg.abigen_runtime_cmpstring"], unfollowed := true, recurses := true, loops := true, apart := false, narrowed := true }
def ExhaustCountsUptoSaid : Prop := exhaustCountsUptoRow.holds Tryz.pinned (OpenSpec.upto exhaustCountsSpec)

end Rows
end Go.Proofs.YtiinicliedpmjaaGreat
