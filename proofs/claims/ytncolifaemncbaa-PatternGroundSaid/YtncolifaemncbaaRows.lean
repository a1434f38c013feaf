/-
  NARROWER THAN 'FOR EVERY INPUT', by the rows' own cells (each row's printed sentence says how): PatternChecks: loops · PatternWidths: loops · PatternStays: loops · PatternNames: loops · PatternVariables: loops · PatternGround: loops.
  DERIVED. THE GIVEN ROWS OF THIS SEAT. 6 by the template 'for every input the law returns true; each argument reads behind the call as it read before'; 0 by the template 'total and deterministic' (their statements: YtncolifaemncbaaTotals.lean).
  GIVEN WITH THE SEED: the statements are not yours to turn. If you find one false, say at which input.
  Laid BY PROGRAM, IN A SANDBOX (cutbox-rows.mjs): the forced cells as the released guide's own fill.sh prints them over the translation cf58f2f0eecf7ee0… (all of the seat's roots in one cut). By AI agents, Wed Nov 11 2026. No macro, syntax, notation, axiom, sorry.
-/
import Derived.Test.YtncolifaemncbaaChecked
import GoSem.Claim
import GoSem.ClaimJoined
import GoSem.ClaimMapViews
import Derived.JoinedTies
import Derived.KernelRfl
namespace Go.Proofs.Ytncolifaemncbaa
/- THE CELL 'sum', in the pinned program and in every row, IS THE sha256 OF THE DUMP (.gsa) THAT YtncolifaemncbaaProg.lean LOADS. Nothing in Lean hashes anything: it is a label: what it is worth is what the hold of that sum in a sandbox is worth. -/
noncomputable def Try.pinned : Pinned := { name := "ytncolifaemncbaa", sum := "cf58f2f0eecf7ee0832b6989a10d72f13d7ec8769c4f1aeb69cbddb84a5a5a09", checked := Try.checked }
namespace Rows
def none {H : Type} : Left H := { results := [], args := [] }

/-- 'saturatelaw24.PatternChecks': WHATEVER THE INPUT: true; the input reads as it did. -/
def patternChecksSpec : ChangeSpec := { name := "patternChecks", fn := fun _ => fun
  | [d1, d2] => { results := [.lit (.bool true)], args := [d1, d2] }
  | _ => none }
def patternChecksRow : OpenClaim := { program := "ytncolifaemncbaa", sum := "cf58f2f0eecf7ee0832b6989a10d72f13d7ec8769c4f1aeb69cbddb84a5a5a09", func := "saturate/saturatelaw24.PatternChecks", spec := "patternChecks", inPlace := ["internal/bytealg.abigen_runtime_cmpstring", "slices.overlaps[saturate/api.Var]"], unfollowed := true, recurses := true, loops := true, apart := false }
def PatternChecksSaid : Prop := patternChecksRow.holds Try.pinned (OpenSpec.ofChange patternChecksSpec)

/-- ITS FALSE NEIGHBOUR: 'it returns false'. Refute it at one input. -/
def patternChecksWrong : ChangeSpec := { name := "patternChecks", fn := fun _ => fun
  | [d1, d2] => { results := [.lit (.bool false)], args := [d1, d2] }
  | _ => none }
def PatternChecksWrongFalsely : Prop := patternChecksRow.holds Try.pinned (OpenSpec.ofChange patternChecksWrong)

/-- 'saturatelaw24.PatternWidths': WHATEVER THE INPUT: true; the input reads as it did. -/
def patternWidthsSpec : ChangeSpec := { name := "patternWidths", fn := fun _ => fun
  | [d1, d2] => { results := [.lit (.bool true)], args := [d1, d2] }
  | _ => none }
def patternWidthsRow : OpenClaim := { program := "ytncolifaemncbaa", sum := "cf58f2f0eecf7ee0832b6989a10d72f13d7ec8769c4f1aeb69cbddb84a5a5a09", func := "saturate/saturatelaw24.PatternWidths", spec := "patternWidths", inPlace := ["internal/bytealg.abigen_runtime_cmpstring", "slices.overlaps[saturate/api.Var]"], unfollowed := true, recurses := true, loops := true, apart := false }
def PatternWidthsSaid : Prop := patternWidthsRow.holds Try.pinned (OpenSpec.ofChange patternWidthsSpec)

/-- ITS FALSE NEIGHBOUR: 'it returns false'. Refute it at one input. -/
def patternWidthsWrong : ChangeSpec := { name := "patternWidths", fn := fun _ => fun
  | [d1, d2] => { results := [.lit (.bool false)], args := [d1, d2] }
  | _ => none }
def PatternWidthsWrongFalsely : Prop := patternWidthsRow.holds Try.pinned (OpenSpec.ofChange patternWidthsWrong)

/-- 'saturatelaw24.PatternStays': WHATEVER THE INPUT: true; the input reads as it did. -/
def patternStaysSpec : ChangeSpec := { name := "patternStays", fn := fun _ => fun
  | [d1, d2, d3] => { results := [.lit (.bool true)], args := [d1, d2, d3] }
  | _ => none }
def patternStaysRow : OpenClaim := { program := "ytncolifaemncbaa", sum := "cf58f2f0eecf7ee0832b6989a10d72f13d7ec8769c4f1aeb69cbddb84a5a5a09", func := "saturate/saturatelaw24.PatternStays", spec := "patternStays", inPlace := ["internal/bytealg.abigen_runtime_cmpstring", "slices.overlaps[saturate/api.Var]"], unfollowed := true, recurses := true, loops := true, apart := false }
def PatternStaysSaid : Prop := patternStaysRow.holds Try.pinned (OpenSpec.ofChange patternStaysSpec)

/-- ITS FALSE NEIGHBOUR: 'it returns false'. Refute it at one input. -/
def patternStaysWrong : ChangeSpec := { name := "patternStays", fn := fun _ => fun
  | [d1, d2, d3] => { results := [.lit (.bool false)], args := [d1, d2, d3] }
  | _ => none }
def PatternStaysWrongFalsely : Prop := patternStaysRow.holds Try.pinned (OpenSpec.ofChange patternStaysWrong)

/-- 'saturatelaw24.PatternNames': WHATEVER THE INPUT: true; the input reads as it did. -/
def patternNamesSpec : ChangeSpec := { name := "patternNames", fn := fun _ => fun
  | [d1, d2] => { results := [.lit (.bool true)], args := [d1, d2] }
  | _ => none }
def patternNamesRow : OpenClaim := { program := "ytncolifaemncbaa", sum := "cf58f2f0eecf7ee0832b6989a10d72f13d7ec8769c4f1aeb69cbddb84a5a5a09", func := "saturate/saturatelaw24.PatternNames", spec := "patternNames", inPlace := ["internal/bytealg.abigen_runtime_cmpstring", "slices.overlaps[saturate/api.Var]"], unfollowed := true, recurses := true, loops := true, apart := false }
def PatternNamesSaid : Prop := patternNamesRow.holds Try.pinned (OpenSpec.ofChange patternNamesSpec)

/-- ITS FALSE NEIGHBOUR: 'it returns false'. Refute it at one input. -/
def patternNamesWrong : ChangeSpec := { name := "patternNames", fn := fun _ => fun
  | [d1, d2] => { results := [.lit (.bool false)], args := [d1, d2] }
  | _ => none }
def PatternNamesWrongFalsely : Prop := patternNamesRow.holds Try.pinned (OpenSpec.ofChange patternNamesWrong)

/-- 'saturatelaw24.PatternVariables': WHATEVER THE INPUT: true; the input reads as it did. -/
def patternVariablesSpec : ChangeSpec := { name := "patternVariables", fn := fun _ => fun
  | [d1, d2] => { results := [.lit (.bool true)], args := [d1, d2] }
  | _ => none }
def patternVariablesRow : OpenClaim := { program := "ytncolifaemncbaa", sum := "cf58f2f0eecf7ee0832b6989a10d72f13d7ec8769c4f1aeb69cbddb84a5a5a09", func := "saturate/saturatelaw24.PatternVariables", spec := "patternVariables", inPlace := ["internal/bytealg.abigen_runtime_cmpstring", "slices.overlaps[saturate/api.Var]"], unfollowed := true, recurses := true, loops := true, apart := false }
def PatternVariablesSaid : Prop := patternVariablesRow.holds Try.pinned (OpenSpec.ofChange patternVariablesSpec)

/-- ITS FALSE NEIGHBOUR: 'it returns false'. Refute it at one input. -/
def patternVariablesWrong : ChangeSpec := { name := "patternVariables", fn := fun _ => fun
  | [d1, d2] => { results := [.lit (.bool false)], args := [d1, d2] }
  | _ => none }
def PatternVariablesWrongFalsely : Prop := patternVariablesRow.holds Try.pinned (OpenSpec.ofChange patternVariablesWrong)

/-- 'saturatelaw24.PatternGround': WHATEVER THE INPUT: true; the input reads as it did. -/
def patternGroundSpec : ChangeSpec := { name := "patternGround", fn := fun _ => fun
  | [d] => { results := [.lit (.bool true)], args := [d] }
  | _ => none }
def patternGroundRow : OpenClaim := { program := "ytncolifaemncbaa", sum := "cf58f2f0eecf7ee0832b6989a10d72f13d7ec8769c4f1aeb69cbddb84a5a5a09", func := "saturate/saturatelaw24.PatternGround", spec := "patternGround", inPlace := ["internal/bytealg.abigen_runtime_cmpstring", "slices.overlaps[saturate/api.Var]"], unfollowed := true, recurses := true, loops := true, apart := false }
def PatternGroundSaid : Prop := patternGroundRow.holds Try.pinned (OpenSpec.ofChange patternGroundSpec)

/-- ITS FALSE NEIGHBOUR: 'it returns false'. Refute it at one input. -/
def patternGroundWrong : ChangeSpec := { name := "patternGround", fn := fun _ => fun
  | [d] => { results := [.lit (.bool false)], args := [d] }
  | _ => none }
def PatternGroundWrongFalsely : Prop := patternGroundRow.holds Try.pinned (OpenSpec.ofChange patternGroundWrong)

/- THE SECOND FORM. 'bulk': how many values and letters a reading holds, each counted each time it is reached (what is shared counts as often as it is met; a slice's spare places count too). A statement '..UptoSaid' is the law's where the arguments, and the package variables that the reading takes, are together of bulk at most 1048576: NARROWER than '..Said'. Prove '..Said' where nothing that the law and all that it calls make is longer than what came in: it says more and counts as full. Else prove '..UptoSaid'. A law counts once. -/
mutual
def uptoBulk {H : Type} : DataW H → Nat
  | .lit (.string bytes) => bytes.length + 1
  | .lit _ => 1
  | .nil => 1
  | .ptr d => uptoBulk d + 1
  | .slice elems spare => uptoBulkAll elems + uptoBulkAll spare + 1
  | .agg parts => uptoBulkAll parts + 1
  | .iface _ d => uptoBulk d + 1
  | .map entries => uptoBulkEntries entries + 1
  | .held _ => 1
def uptoBulkAll {H : Type} : List (DataW H) → Nat
  | [] => 0
  | d :: r => uptoBulk d + uptoBulkAll r
def uptoBulkEntries {H : Type} : List (Lit × DataW H) → Nat
  | [] => 0
  | x :: r => uptoBulkEntry x + uptoBulkEntries r
def uptoBulkEntry {H : Type} : Lit × DataW H → Nat
  | (.string bytes, d) => bytes.length + uptoBulk d + 1
  | (_, d) => uptoBulk d + 1
 end
def uptoSmall : (H : Type) → List (DataW H) → Bool := fun _ ds => decide (uptoBulkAll ds ≤ 1048576)
def OpenSpec.upto (s : _root_.Go.ChangeSpec) : _root_.Go.OpenSpec := { _root_.Go.OpenSpec.ofChange s with cond := some uptoSmall }

/-- 'saturatelaw24.PatternChecks', WHERE WHAT IT READS IS OF BULK AT MOST 1048576: true; the input reads as it did. -/
def patternChecksUptoRow : OpenClaim := { program := "ytncolifaemncbaa", sum := "cf58f2f0eecf7ee0832b6989a10d72f13d7ec8769c4f1aeb69cbddb84a5a5a09", func := "saturate/saturatelaw24.PatternChecks", spec := "patternChecks", inPlace := ["internal/bytealg.abigen_runtime_cmpstring", "slices.overlaps[saturate/api.Var]"], unfollowed := true, recurses := true, loops := true, apart := false, narrowed := true }
def PatternChecksUptoSaid : Prop := patternChecksUptoRow.holds Try.pinned (OpenSpec.upto patternChecksSpec)

/-- 'saturatelaw24.PatternWidths', WHERE WHAT IT READS IS OF BULK AT MOST 1048576: true; the input reads as it did. -/
def patternWidthsUptoRow : OpenClaim := { program := "ytncolifaemncbaa", sum := "cf58f2f0eecf7ee0832b6989a10d72f13d7ec8769c4f1aeb69cbddb84a5a5a09", func := "saturate/saturatelaw24.PatternWidths", spec := "patternWidths", inPlace := ["internal/bytealg.abigen_runtime_cmpstring", "slices.overlaps[saturate/api.Var]"], unfollowed := true, recurses := true, loops := true, apart := false, narrowed := true }
def PatternWidthsUptoSaid : Prop := patternWidthsUptoRow.holds Try.pinned (OpenSpec.upto patternWidthsSpec)

/-- 'saturatelaw24.PatternStays', WHERE WHAT IT READS IS OF BULK AT MOST 1048576: true; the input reads as it did. -/
def patternStaysUptoRow : OpenClaim := { program := "ytncolifaemncbaa", sum := "cf58f2f0eecf7ee0832b6989a10d72f13d7ec8769c4f1aeb69cbddb84a5a5a09", func := "saturate/saturatelaw24.PatternStays", spec := "patternStays", inPlace := ["internal/bytealg.abigen_runtime_cmpstring", "slices.overlaps[saturate/api.Var]"], unfollowed := true, recurses := true, loops := true, apart := false, narrowed := true }
def PatternStaysUptoSaid : Prop := patternStaysUptoRow.holds Try.pinned (OpenSpec.upto patternStaysSpec)

/-- 'saturatelaw24.PatternNames', WHERE WHAT IT READS IS OF BULK AT MOST 1048576: true; the input reads as it did. -/
def patternNamesUptoRow : OpenClaim := { program := "ytncolifaemncbaa", sum := "cf58f2f0eecf7ee0832b6989a10d72f13d7ec8769c4f1aeb69cbddb84a5a5a09", func := "saturate/saturatelaw24.PatternNames", spec := "patternNames", inPlace := ["internal/bytealg.abigen_runtime_cmpstring", "slices.overlaps[saturate/api.Var]"], unfollowed := true, recurses := true, loops := true, apart := false, narrowed := true }
def PatternNamesUptoSaid : Prop := patternNamesUptoRow.holds Try.pinned (OpenSpec.upto patternNamesSpec)

/-- 'saturatelaw24.PatternVariables', WHERE WHAT IT READS IS OF BULK AT MOST 1048576: true; the input reads as it did. -/
def patternVariablesUptoRow : OpenClaim := { program := "ytncolifaemncbaa", sum := "cf58f2f0eecf7ee0832b6989a10d72f13d7ec8769c4f1aeb69cbddb84a5a5a09", func := "saturate/saturatelaw24.PatternVariables", spec := "patternVariables", inPlace := ["internal/bytealg.abigen_runtime_cmpstring", "slices.overlaps[saturate/api.Var]"], unfollowed := true, recurses := true, loops := true, apart := false, narrowed := true }
def PatternVariablesUptoSaid : Prop := patternVariablesUptoRow.holds Try.pinned (OpenSpec.upto patternVariablesSpec)

/-- 'saturatelaw24.PatternGround', WHERE WHAT IT READS IS OF BULK AT MOST 1048576: true; the input reads as it did. -/
def patternGroundUptoRow : OpenClaim := { program := "ytncolifaemncbaa", sum := "cf58f2f0eecf7ee0832b6989a10d72f13d7ec8769c4f1aeb69cbddb84a5a5a09", func := "saturate/saturatelaw24.PatternGround", spec := "patternGround", inPlace := ["internal/bytealg.abigen_runtime_cmpstring", "slices.overlaps[saturate/api.Var]"], unfollowed := true, recurses := true, loops := true, apart := false, narrowed := true }
def PatternGroundUptoSaid : Prop := patternGroundUptoRow.holds Try.pinned (OpenSpec.upto patternGroundSpec)

end Rows
end Go.Proofs.Ytncolifaemncbaa
