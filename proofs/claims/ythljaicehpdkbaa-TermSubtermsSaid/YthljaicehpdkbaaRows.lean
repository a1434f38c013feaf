/-
  NARROWER THAN 'FOR EVERY INPUT', by the rows' own cells (each row's printed sentence says how): TermChecks: loops · TermMakes: loops · TermCompares: loops · TermSubterms: loops · TermPaths: loops · TermLess: loops · TermCopies: loops.
  DERIVED. THE GIVEN ROWS OF THIS SEAT. 8 by the template 'for every input the law returns true; each argument reads behind the call as it read before'; 0 by the template 'total and deterministic' (their statements: YthljaicehpdkbaaTotals.lean).
  GIVEN WITH THE SEED: the statements are not yours to turn. If you find one false, say at which input.
  Laid BY PROGRAM, IN A SANDBOX (cutbox-rows.mjs): the forced cells as the released guide's own fill.sh prints them over the translation 159947689cc6d1b2… (all of the seat's roots in one cut). By AI agents, Wed Nov 11 2026. No macro, syntax, notation, axiom, sorry.
-/
import Derived.Test.YthljaicehpdkbaaChecked
import GoSem.Claim
import GoSem.ClaimJoined
import GoSem.ClaimMapViews
import Derived.JoinedTies
import Derived.KernelRfl
namespace Go.Proofs.Ythljaicehpdkbaa
/- THE CELL 'sum', in the pinned program and in every row, IS THE sha256 OF THE DUMP (.gsa) THAT YthljaicehpdkbaaProg.lean LOADS. Nothing in Lean hashes anything: it is a label: what it is worth is what the hold of that sum in a sandbox is worth. -/
noncomputable def Try.pinned : Pinned := { name := "ythljaicehpdkbaa", sum := "159947689cc6d1b29c67a4bdd43b124e491068f222e8b04eb269c4e6f47d4dac", checked := Try.checked }
namespace Rows
def none {H : Type} : Left H := { results := [], args := [] }

/-- 'saturatelaw06.TermChecks': WHATEVER THE INPUT: true; the input reads as it did. -/
def termChecksSpec : ChangeSpec := { name := "termChecks", fn := fun _ => fun
  | [d1, d2] => { results := [.lit (.bool true)], args := [d1, d2] }
  | _ => none }
def termChecksRow : OpenClaim := { program := "ythljaicehpdkbaa", sum := "159947689cc6d1b29c67a4bdd43b124e491068f222e8b04eb269c4e6f47d4dac", func := "saturate/saturatelaw06.TermChecks", spec := "termChecks", inPlace := ["internal/bytealg.abigen_runtime_cmpstring"], unfollowed := true, recurses := true, loops := true, apart := false }
def TermChecksSaid : Prop := termChecksRow.holds Try.pinned (OpenSpec.ofChange termChecksSpec)

/-- ITS FALSE NEIGHBOUR: 'it returns false'. Refute it at one input. -/
def termChecksWrong : ChangeSpec := { name := "termChecks", fn := fun _ => fun
  | [d1, d2] => { results := [.lit (.bool false)], args := [d1, d2] }
  | _ => none }
def TermChecksWrongFalsely : Prop := termChecksRow.holds Try.pinned (OpenSpec.ofChange termChecksWrong)

/-- 'saturatelaw06.TermLong': WHATEVER THE INPUT: true; the input reads as it did. -/
def termLongSpec : ChangeSpec := { name := "termLong", fn := fun _ => fun
  | [d1, d2] => { results := [.lit (.bool true)], args := [d1, d2] }
  | _ => none }
def termLongRow : OpenClaim := { program := "ythljaicehpdkbaa", sum := "159947689cc6d1b29c67a4bdd43b124e491068f222e8b04eb269c4e6f47d4dac", func := "saturate/saturatelaw06.TermLong", spec := "termLong", inPlace := ["internal/bytealg.abigen_runtime_cmpstring"], unfollowed := true, recurses := true, apart := false }
def TermLongSaid : Prop := termLongRow.holds Try.pinned (OpenSpec.ofChange termLongSpec)

/-- ITS FALSE NEIGHBOUR: 'it returns false'. Refute it at one input. -/
def termLongWrong : ChangeSpec := { name := "termLong", fn := fun _ => fun
  | [d1, d2] => { results := [.lit (.bool false)], args := [d1, d2] }
  | _ => none }
def TermLongWrongFalsely : Prop := termLongRow.holds Try.pinned (OpenSpec.ofChange termLongWrong)

/-- 'saturatelaw06.TermMakes': WHATEVER THE INPUT: true; the input reads as it did. -/
def termMakesSpec : ChangeSpec := { name := "termMakes", fn := fun _ => fun
  | [d1, d2, d3, d4, d5] => { results := [.lit (.bool true)], args := [d1, d2, d3, d4, d5] }
  | _ => none }
def termMakesRow : OpenClaim := { program := "ythljaicehpdkbaa", sum := "159947689cc6d1b29c67a4bdd43b124e491068f222e8b04eb269c4e6f47d4dac", func := "saturate/saturatelaw06.TermMakes", spec := "termMakes", inPlace := ["internal/bytealg.abigen_runtime_cmpstring"], unfollowed := true, recurses := true, loops := true, apart := false }
def TermMakesSaid : Prop := termMakesRow.holds Try.pinned (OpenSpec.ofChange termMakesSpec)

/-- ITS FALSE NEIGHBOUR: 'it returns false'. Refute it at one input. -/
def termMakesWrong : ChangeSpec := { name := "termMakes", fn := fun _ => fun
  | [d1, d2, d3, d4, d5] => { results := [.lit (.bool false)], args := [d1, d2, d3, d4, d5] }
  | _ => none }
def TermMakesWrongFalsely : Prop := termMakesRow.holds Try.pinned (OpenSpec.ofChange termMakesWrong)

/-- 'saturatelaw06.TermCompares': WHATEVER THE INPUT: true; the input reads as it did. -/
def termComparesSpec : ChangeSpec := { name := "termCompares", fn := fun _ => fun
  | [d1, d2, d3] => { results := [.lit (.bool true)], args := [d1, d2, d3] }
  | _ => none }
def termComparesRow : OpenClaim := { program := "ythljaicehpdkbaa", sum := "159947689cc6d1b29c67a4bdd43b124e491068f222e8b04eb269c4e6f47d4dac", func := "saturate/saturatelaw06.TermCompares", spec := "termCompares", inPlace := ["internal/bytealg.abigen_runtime_cmpstring"], unfollowed := true, recurses := true, loops := true, apart := false }
def TermComparesSaid : Prop := termComparesRow.holds Try.pinned (OpenSpec.ofChange termComparesSpec)

/-- ITS FALSE NEIGHBOUR: 'it returns false'. Refute it at one input. -/
def termComparesWrong : ChangeSpec := { name := "termCompares", fn := fun _ => fun
  | [d1, d2, d3] => { results := [.lit (.bool false)], args := [d1, d2, d3] }
  | _ => none }
def TermComparesWrongFalsely : Prop := termComparesRow.holds Try.pinned (OpenSpec.ofChange termComparesWrong)

/-- 'saturatelaw06.TermSubterms': WHATEVER THE INPUT: true; the input reads as it did. -/
def termSubtermsSpec : ChangeSpec := { name := "termSubterms", fn := fun _ => fun
  | [d] => { results := [.lit (.bool true)], args := [d] }
  | _ => none }
def termSubtermsRow : OpenClaim := { program := "ythljaicehpdkbaa", sum := "159947689cc6d1b29c67a4bdd43b124e491068f222e8b04eb269c4e6f47d4dac", func := "saturate/saturatelaw06.TermSubterms", spec := "termSubterms", inPlace := ["internal/bytealg.abigen_runtime_cmpstring"], unfollowed := true, recurses := true, loops := true, apart := false }
def TermSubtermsSaid : Prop := termSubtermsRow.holds Try.pinned (OpenSpec.ofChange termSubtermsSpec)

/-- ITS FALSE NEIGHBOUR: 'it returns false'. Refute it at one input. -/
def termSubtermsWrong : ChangeSpec := { name := "termSubterms", fn := fun _ => fun
  | [d] => { results := [.lit (.bool false)], args := [d] }
  | _ => none }
def TermSubtermsWrongFalsely : Prop := termSubtermsRow.holds Try.pinned (OpenSpec.ofChange termSubtermsWrong)

/-- 'saturatelaw06.TermPaths': WHATEVER THE INPUT: true; the input reads as it did. -/
def termPathsSpec : ChangeSpec := { name := "termPaths", fn := fun _ => fun
  | [d1, d2, d3] => { results := [.lit (.bool true)], args := [d1, d2, d3] }
  | _ => none }
def termPathsRow : OpenClaim := { program := "ythljaicehpdkbaa", sum := "159947689cc6d1b29c67a4bdd43b124e491068f222e8b04eb269c4e6f47d4dac", func := "saturate/saturatelaw06.TermPaths", spec := "termPaths", inPlace := ["internal/bytealg.abigen_runtime_cmpstring"], unfollowed := true, recurses := true, loops := true, apart := false }
def TermPathsSaid : Prop := termPathsRow.holds Try.pinned (OpenSpec.ofChange termPathsSpec)

/-- ITS FALSE NEIGHBOUR: 'it returns false'. Refute it at one input. -/
def termPathsWrong : ChangeSpec := { name := "termPaths", fn := fun _ => fun
  | [d1, d2, d3] => { results := [.lit (.bool false)], args := [d1, d2, d3] }
  | _ => none }
def TermPathsWrongFalsely : Prop := termPathsRow.holds Try.pinned (OpenSpec.ofChange termPathsWrong)

/-- 'saturatelaw06.TermLess': WHATEVER THE INPUT: true; the input reads as it did. -/
def termLessSpec : ChangeSpec := { name := "termLess", fn := fun _ => fun
  | [d1, d2, d3] => { results := [.lit (.bool true)], args := [d1, d2, d3] }
  | _ => none }
def termLessRow : OpenClaim := { program := "ythljaicehpdkbaa", sum := "159947689cc6d1b29c67a4bdd43b124e491068f222e8b04eb269c4e6f47d4dac", func := "saturate/saturatelaw06.TermLess", spec := "termLess", inPlace := ["internal/bytealg.abigen_runtime_cmpstring"], unfollowed := true, recurses := true, loops := true, apart := false }
def TermLessSaid : Prop := termLessRow.holds Try.pinned (OpenSpec.ofChange termLessSpec)

/-- ITS FALSE NEIGHBOUR: 'it returns false'. Refute it at one input. -/
def termLessWrong : ChangeSpec := { name := "termLess", fn := fun _ => fun
  | [d1, d2, d3] => { results := [.lit (.bool false)], args := [d1, d2, d3] }
  | _ => none }
def TermLessWrongFalsely : Prop := termLessRow.holds Try.pinned (OpenSpec.ofChange termLessWrong)

/-- 'saturatelaw06.TermCopies': WHATEVER THE INPUT: true; the input reads as it did. -/
def termCopiesSpec : ChangeSpec := { name := "termCopies", fn := fun _ => fun
  | [d] => { results := [.lit (.bool true)], args := [d] }
  | _ => none }
def termCopiesRow : OpenClaim := { program := "ythljaicehpdkbaa", sum := "159947689cc6d1b29c67a4bdd43b124e491068f222e8b04eb269c4e6f47d4dac", func := "saturate/saturatelaw06.TermCopies", spec := "termCopies", inPlace := ["internal/bytealg.abigen_runtime_cmpstring"], unfollowed := true, recurses := true, loops := true, apart := false }
def TermCopiesSaid : Prop := termCopiesRow.holds Try.pinned (OpenSpec.ofChange termCopiesSpec)

/-- ITS FALSE NEIGHBOUR: 'it returns false'. Refute it at one input. -/
def termCopiesWrong : ChangeSpec := { name := "termCopies", fn := fun _ => fun
  | [d] => { results := [.lit (.bool false)], args := [d] }
  | _ => none }
def TermCopiesWrongFalsely : Prop := termCopiesRow.holds Try.pinned (OpenSpec.ofChange termCopiesWrong)

/- THE SECOND FORM. 'bulk': how many values and letters a reading holds, each counted each time it is reached (what is shared counts as often as it is met; a slice's spare places count too). A statement '..UptoSaid' is the law's where the arguments, and the package variables that the reading takes, are together of bulk at most 1048576: NARROWER than '..Said'. Prove '..Said' where nothing that the law and all that it calls make is longer than what came in: it says more and counts as full. Else prove '..UptoSaid'. A law counts once. -/
mutual
def uptoBulk {H : Type} : DataW H → Nat
  | .lit (.string bytes) => bytes.length + 1
  | .lit _ => 1
  | .nil => 1
  | .ptr d => uptoBulk d + 1
  | .slice elems spare => uptoBulkAll elems + uptoBulkAll spare + 1
  | .agg parts => uptoBulkAll parts + 1
  | .iface _ d => uptoBulk d + 1
  | .map entries => uptoBulkEntries entries + 1
  | .held _ => 1
def uptoBulkAll {H : Type} : List (DataW H) → Nat
  | [] => 0
  | d :: r => uptoBulk d + uptoBulkAll r
def uptoBulkEntries {H : Type} : List (Lit × DataW H) → Nat
  | [] => 0
  | x :: r => uptoBulkEntry x + uptoBulkEntries r
def uptoBulkEntry {H : Type} : Lit × DataW H → Nat
  | (.string bytes, d) => bytes.length + uptoBulk d + 1
  | (_, d) => uptoBulk d + 1
 end
def uptoSmall : (H : Type) → List (DataW H) → Bool := fun _ ds => decide (uptoBulkAll ds ≤ 1048576)
def OpenSpec.upto (s : _root_.Go.ChangeSpec) : _root_.Go.OpenSpec := { _root_.Go.OpenSpec.ofChange s with cond := some uptoSmall }

/-- 'saturatelaw06.TermChecks', WHERE WHAT IT READS IS OF BULK AT MOST 1048576: true; the input reads as it did. -/
def termChecksUptoRow : OpenClaim := { program := "ythljaicehpdkbaa", sum := "159947689cc6d1b29c67a4bdd43b124e491068f222e8b04eb269c4e6f47d4dac", func := "saturate/saturatelaw06.TermChecks", spec := "termChecks", inPlace := ["internal/bytealg.abigen_runtime_cmpstring"], unfollowed := true, recurses := true, loops := true, apart := false, narrowed := true }
def TermChecksUptoSaid : Prop := termChecksUptoRow.holds Try.pinned (OpenSpec.upto termChecksSpec)

/-- 'saturatelaw06.TermLong', WHERE WHAT IT READS IS OF BULK AT MOST 1048576: true; the input reads as it did. -/
def termLongUptoRow : OpenClaim := { program := "ythljaicehpdkbaa", sum := "159947689cc6d1b29c67a4bdd43b124e491068f222e8b04eb269c4e6f47d4dac", func := "saturate/saturatelaw06.TermLong", spec := "termLong", inPlace := ["internal/bytealg.abigen_runtime_cmpstring"], unfollowed := true, recurses := true, apart := false, narrowed := true }
def TermLongUptoSaid : Prop := termLongUptoRow.holds Try.pinned (OpenSpec.upto termLongSpec)

/-- 'saturatelaw06.TermMakes', WHERE WHAT IT READS IS OF BULK AT MOST 1048576: true; the input reads as it did. -/
def termMakesUptoRow : OpenClaim := { program := "ythljaicehpdkbaa", sum := "159947689cc6d1b29c67a4bdd43b124e491068f222e8b04eb269c4e6f47d4dac", func := "saturate/saturatelaw06.TermMakes", spec := "termMakes", inPlace := ["internal/bytealg.abigen_runtime_cmpstring"], unfollowed := true, recurses := true, loops := true, apart := false, narrowed := true }
def TermMakesUptoSaid : Prop := termMakesUptoRow.holds Try.pinned (OpenSpec.upto termMakesSpec)

/-- 'saturatelaw06.TermCompares', WHERE WHAT IT READS IS OF BULK AT MOST 1048576: true; the input reads as it did. -/
def termComparesUptoRow : OpenClaim := { program := "ythljaicehpdkbaa", sum := "159947689cc6d1b29c67a4bdd43b124e491068f222e8b04eb269c4e6f47d4dac", func := "saturate/saturatelaw06.TermCompares", spec := "termCompares", inPlace := ["internal/bytealg.abigen_runtime_cmpstring"], unfollowed := true, recurses := true, loops := true, apart := false, narrowed := true }
def TermComparesUptoSaid : Prop := termComparesUptoRow.holds Try.pinned (OpenSpec.upto termComparesSpec)

/-- 'saturatelaw06.TermSubterms', WHERE WHAT IT READS IS OF BULK AT MOST 1048576: true; the input reads as it did. -/
def termSubtermsUptoRow : OpenClaim := { program := "ythljaicehpdkbaa", sum := "159947689cc6d1b29c67a4bdd43b124e491068f222e8b04eb269c4e6f47d4dac", func := "saturate/saturatelaw06.TermSubterms", spec := "termSubterms", inPlace := ["internal/bytealg.abigen_runtime_cmpstring"], unfollowed := true, recurses := true, loops := true, apart := false, narrowed := true }
def TermSubtermsUptoSaid : Prop := termSubtermsUptoRow.holds Try.pinned (OpenSpec.upto termSubtermsSpec)

/-- 'saturatelaw06.TermPaths', WHERE WHAT IT READS IS OF BULK AT MOST 1048576: true; the input reads as it did. -/
def termPathsUptoRow : OpenClaim := { program := "ythljaicehpdkbaa", sum := "159947689cc6d1b29c67a4bdd43b124e491068f222e8b04eb269c4e6f47d4dac", func := "saturate/saturatelaw06.TermPaths", spec := "termPaths", inPlace := ["internal/bytealg.abigen_runtime_cmpstring"], unfollowed := true, recurses := true, loops := true, apart := false, narrowed := true }
def TermPathsUptoSaid : Prop := termPathsUptoRow.holds Try.pinned (OpenSpec.upto termPathsSpec)

/-- 'saturatelaw06.TermLess', WHERE WHAT IT READS IS OF BULK AT MOST 1048576: true; the input reads as it did. -/
def termLessUptoRow : OpenClaim := { program := "ythljaicehpdkbaa", sum := "159947689cc6d1b29c67a4bdd43b124e491068f222e8b04eb269c4e6f47d4dac", func := "saturate/saturatelaw06.TermLess", spec := "termLess", inPlace := ["internal/bytealg.abigen_runtime_cmpstring"], unfollowed := true, recurses := true, loops := true, apart := false, narrowed := true }
def TermLessUptoSaid : Prop := termLessUptoRow.holds Try.pinned (OpenSpec.upto termLessSpec)

/-- 'saturatelaw06.TermCopies', WHERE WHAT IT READS IS OF BULK AT MOST 1048576: true; the input reads as it did. -/
def termCopiesUptoRow : OpenClaim := { program := "ythljaicehpdkbaa", sum := "159947689cc6d1b29c67a4bdd43b124e491068f222e8b04eb269c4e6f47d4dac", func := "saturate/saturatelaw06.TermCopies", spec := "termCopies", inPlace := ["internal/bytealg.abigen_runtime_cmpstring"], unfollowed := true, recurses := true, loops := true, apart := false, narrowed := true }
def TermCopiesUptoSaid : Prop := termCopiesUptoRow.holds Try.pinned (OpenSpec.upto termCopiesSpec)

end Rows
end Go.Proofs.Ythljaicehpdkbaa
