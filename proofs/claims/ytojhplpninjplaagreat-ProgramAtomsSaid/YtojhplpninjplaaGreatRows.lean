/-
  NARROWER THAN 'FOR EVERY INPUT', by the rows' own cells (each row's printed sentence says how): ProgramAtoms: loops · ProgramCompiles: loops · ProgramRepeats: loops · ProgramChecks: loops.
  DERIVED. THE GIVEN ROWS OF THIS SEAT. 4 by the template 'for every input the law returns true; each argument reads behind the call as it read before'; 0 by the template 'total and deterministic' (their statements: YtojhplpninjplaaGreatTotals.lean).
  GIVEN WITH THE SEED: the statements are not yours to turn. If you find one false, say at which input.
  Laid BY PROGRAM, IN A SANDBOX (cutbox-rows.mjs): the forced cells as the released guide's own fill.sh prints them over the translation 56e8c722951efd01… (all of the seat's roots in one cut). By AI agents, Wed Nov 11 2026. No macro, syntax, notation, axiom, sorry.
-/
import Derived.Test.YtojhplpninjplaaGreatChecked
import GoSem.Claim
import GoSem.ClaimJoined
import GoSem.ClaimMapViews
import Derived.JoinedTies
import Derived.KernelRfl
namespace Go.Proofs.YtojhplpninjplaaGreat
/- THE CELL 'sum', in the pinned program and in every row, IS THE sha256 OF THE DUMP (.gsa) THAT YtojhplpninjplaaGreatProg.lean LOADS. Nothing in Lean hashes anything: it is a label: what it is worth is what the hold of that sum in a sandbox is worth. -/
noncomputable def Tryz.pinned : Pinned := { name := "ytojhplpninjplaagreat", sum := "56e8c722951efd0136bfe5f357bb5fa9cb18cf90f38e7cc3373f159db95aea42", checked := Tryz.checked }
namespace Rows
def none {H : Type} : Left H := { results := [], args := [] }

/-- 'saturatelaw25.ProgramAtoms': WHATEVER THE INPUT: true; the input reads as it did. -/
def programAtomsSpec : ChangeSpec := { name := "programAtoms", fn := fun _ => fun
  | [d] => { results := [.lit (.bool true)], args := [d] }
  | _ => none }
def programAtomsRow : OpenClaim := { program := "ytojhplpninjplaagreat", sum := "56e8c722951efd0136bfe5f357bb5fa9cb18cf90f38e7cc3373f159db95aea42", func := "saturate/saturatelaw25.ProgramAtoms", spec := "programAtoms", inPlace := ["internal/bytealg.abigen_runtime_cmpstring"], unfollowed := true, recurses := true, loops := true, apart := false }
def ProgramAtomsSaid : Prop := programAtomsRow.holds Tryz.pinned (OpenSpec.ofChange programAtomsSpec)

/-- ITS FALSE NEIGHBOUR: 'it returns false'. Refute it at one input. -/
def programAtomsWrong : ChangeSpec := { name := "programAtoms", fn := fun _ => fun
  | [d] => { results := [.lit (.bool false)], args := [d] }
  | _ => none }
def ProgramAtomsWrongFalsely : Prop := programAtomsRow.holds Tryz.pinned (OpenSpec.ofChange programAtomsWrong)

/-- 'saturatelaw25.ProgramCompiles': WHATEVER THE INPUT: true; the input reads as it did. -/
def programCompilesSpec : ChangeSpec := { name := "programCompiles", fn := fun _ => fun
  | [d] => { results := [.lit (.bool true)], args := [d] }
  | _ => none }
def programCompilesRow : OpenClaim := { program := "ytojhplpninjplaagreat", sum := "56e8c722951efd0136bfe5f357bb5fa9cb18cf90f38e7cc3373f159db95aea42", func := "saturate/saturatelaw25.ProgramCompiles", spec := "programCompiles", inPlace := ["internal/bytealg.abigen_runtime_cmpstring"], unfollowed := true, recurses := true, loops := true, apart := false }
def ProgramCompilesSaid : Prop := programCompilesRow.holds Tryz.pinned (OpenSpec.ofChange programCompilesSpec)

/-- ITS FALSE NEIGHBOUR: 'it returns false'. Refute it at one input. -/
def programCompilesWrong : ChangeSpec := { name := "programCompiles", fn := fun _ => fun
  | [d] => { results := [.lit (.bool false)], args := [d] }
  | _ => none }
def ProgramCompilesWrongFalsely : Prop := programCompilesRow.holds Tryz.pinned (OpenSpec.ofChange programCompilesWrong)

/-- 'saturatelaw25.ProgramRepeats': WHATEVER THE INPUT: true; the input reads as it did. -/
def programRepeatsSpec : ChangeSpec := { name := "programRepeats", fn := fun _ => fun
  | [d] => { results := [.lit (.bool true)], args := [d] }
  | _ => none }
def programRepeatsRow : OpenClaim := { program := "ytojhplpninjplaagreat", sum := "56e8c722951efd0136bfe5f357bb5fa9cb18cf90f38e7cc3373f159db95aea42", func := "saturate/saturatelaw25.ProgramRepeats", spec := "programRepeats", inPlace := ["internal/bytealg.abigen_runtime_cmpstring"], unfollowed := true, recurses := true, loops := true, apart := false }
def ProgramRepeatsSaid : Prop := programRepeatsRow.holds Tryz.pinned (OpenSpec.ofChange programRepeatsSpec)

/-- ITS FALSE NEIGHBOUR: 'it returns false'. Refute it at one input. -/
def programRepeatsWrong : ChangeSpec := { name := "programRepeats", fn := fun _ => fun
  | [d] => { results := [.lit (.bool false)], args := [d] }
  | _ => none }
def ProgramRepeatsWrongFalsely : Prop := programRepeatsRow.holds Tryz.pinned (OpenSpec.ofChange programRepeatsWrong)

/-- 'saturatelaw25.ProgramChecks': WHATEVER THE INPUT: true; the input reads as it did. -/
def programChecksSpec : ChangeSpec := { name := "programChecks", fn := fun _ => fun
  | [d] => { results := [.lit (.bool true)], args := [d] }
  | _ => none }
def programChecksRow : OpenClaim := { program := "ytojhplpninjplaagreat", sum := "56e8c722951efd0136bfe5f357bb5fa9cb18cf90f38e7cc3373f159db95aea42", func := "saturate/saturatelaw25.ProgramChecks", spec := "programChecks", inPlace := ["internal/bytealg.abigen_runtime_cmpstring"], unfollowed := true, recurses := true, loops := true, apart := false }
def ProgramChecksSaid : Prop := programChecksRow.holds Tryz.pinned (OpenSpec.ofChange programChecksSpec)

/-- ITS FALSE NEIGHBOUR: 'it returns false'. Refute it at one input. -/
def programChecksWrong : ChangeSpec := { name := "programChecks", fn := fun _ => fun
  | [d] => { results := [.lit (.bool false)], args := [d] }
  | _ => none }
def ProgramChecksWrongFalsely : Prop := programChecksRow.holds Tryz.pinned (OpenSpec.ofChange programChecksWrong)

/- THE SECOND FORM. 'bulk': how many values and letters a reading holds, each counted each time it is reached (what is shared counts as often as it is met; a slice's spare places count too). A statement '..UptoSaid' is the law's where the arguments, and the package variables that the reading takes, are together of bulk at most 1048576: NARROWER than '..Said'. Prove '..Said' where nothing that the law and all that it calls make is longer than what came in: it says more and counts as full. Else prove '..UptoSaid'. A law counts once. -/
mutual
def uptoBulk {H : Type} : DataW H → Nat
  | .lit (.string bytes) => bytes.length + 1
  | .lit _ => 1
  | .nil => 1
  | .ptr d => uptoBulk d + 1
  | .slice elems spare => uptoBulkAll elems + uptoBulkAll spare + 1
  | .agg parts => uptoBulkAll parts + 1
  | .iface _ d => uptoBulk d + 1
  | .map entries => uptoBulkEntries entries + 1
  | .held _ => 1
def uptoBulkAll {H : Type} : List (DataW H) → Nat
  | [] => 0
  | d :: r => uptoBulk d + uptoBulkAll r
def uptoBulkEntries {H : Type} : List (Lit × DataW H) → Nat
  | [] => 0
  | x :: r => uptoBulkEntry x + uptoBulkEntries r
def uptoBulkEntry {H : Type} : Lit × DataW H → Nat
  | (.string bytes, d) => bytes.length + uptoBulk d + 1
  | (_, d) => uptoBulk d + 1
 end
def uptoSmall : (H : Type) → List (DataW H) → Bool := fun _ ds => decide (uptoBulkAll ds ≤ 1048576)
def OpenSpec.upto (s : _root_.Go.ChangeSpec) : _root_.Go.OpenSpec := { _root_.Go.OpenSpec.ofChange s with cond := some uptoSmall }

/-- 'saturatelaw25.ProgramAtoms', WHERE WHAT IT READS IS OF BULK AT MOST 1048576: true; the input reads as it did. -/
def programAtomsUptoRow : OpenClaim := { program := "ytojhplpninjplaagreat", sum := "56e8c722951efd0136bfe5f357bb5fa9cb18cf90f38e7cc3373f159db95aea42", func := "saturate/saturatelaw25.ProgramAtoms", spec := "programAtoms", inPlace := ["internal/bytealg.abigen_runtime_cmpstring"], unfollowed := true, recurses := true, loops := true, apart := false, narrowed := true }
def ProgramAtomsUptoSaid : Prop := programAtomsUptoRow.holds Tryz.pinned (OpenSpec.upto programAtomsSpec)

/-- 'saturatelaw25.ProgramCompiles', WHERE WHAT IT READS IS OF BULK AT MOST 1048576: true; the input reads as it did. -/
def programCompilesUptoRow : OpenClaim := { program := "ytojhplpninjplaagreat", sum := "56e8c722951efd0136bfe5f357bb5fa9cb18cf90f38e7cc3373f159db95aea42", func := "saturate/saturatelaw25.ProgramCompiles", spec := "programCompiles", inPlace := ["internal/bytealg.abigen_runtime_cmpstring"], unfollowed := true, recurses := true, loops := true, apart := false, narrowed := true }
def ProgramCompilesUptoSaid : Prop := programCompilesUptoRow.holds Tryz.pinned (OpenSpec.upto programCompilesSpec)

/-- 'saturatelaw25.ProgramRepeats', WHERE WHAT IT READS IS OF BULK AT MOST 1048576: true; the input reads as it did. -/
def programRepeatsUptoRow : OpenClaim := { program := "ytojhplpninjplaagreat", sum := "56e8c722951efd0136bfe5f357bb5fa9cb18cf90f38e7cc3373f159db95aea42", func := "saturate/saturatelaw25.ProgramRepeats", spec := "programRepeats", inPlace := ["internal/bytealg.abigen_runtime_cmpstring"], unfollowed := true, recurses := true, loops := true, apart := false, narrowed := true }
def ProgramRepeatsUptoSaid : Prop := programRepeatsUptoRow.holds Tryz.pinned (OpenSpec.upto programRepeatsSpec)

/-- 'saturatelaw25.ProgramChecks', WHERE WHAT IT READS IS OF BULK AT MOST 1048576: true; the input reads as it did. -/
def programChecksUptoRow : OpenClaim := { program := "ytojhplpninjplaagreat", sum := "56e8c722951efd0136bfe5f357bb5fa9cb18cf90f38e7cc3373f159db95aea42", func := "saturate/saturatelaw25.ProgramChecks", spec := "programChecks", inPlace := ["internal/bytealg.abigen_runtime_cmpstring"], unfollowed := true, recurses := true, loops := true, apart := false, narrowed := true }
def ProgramChecksUptoSaid : Prop := programChecksUptoRow.holds Tryz.pinned (OpenSpec.upto programChecksSpec)

end Rows
end Go.Proofs.YtojhplpninjplaaGreat
