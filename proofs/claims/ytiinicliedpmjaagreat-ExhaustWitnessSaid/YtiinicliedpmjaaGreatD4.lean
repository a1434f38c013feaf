import Derived.Test.YtiinicliedpmjaaGreatD3
import Derived.Test.YtiinicliedpmjaaGreatC0
import Derived.Test.YtiinicliedpmjaaGreatC2
namespace Go.AE
namespace Term
end Term
namespace S
open Go Go.AE
set_option linter.unusedSimpArgs false
set_option linter.unusedVariables false
variable {τ:Tm} {σ:Store} {rd:Option Nat}
end S
end Go.AE
namespace Go.AE.S
open Go Go.AE
set_option linter.unusedSimpArgs false
set_option linter.unusedVariables false
variable {τ:Tm} {σ:Store} {rd:Option Nat}
end Go.AE.S
namespace Go.AE
namespace Term
end Term
namespace S
open Go Go.AE
set_option linter.unusedSimpArgs false
set_option linter.unusedVariables false
variable {τ:Tm} {σ:Store} {rd:Option Nat}
theorem bsl_2t {a b:Term}:bsliceV σ 5 2 (fillP (List.replicate 2 [.p (.int .i64 0),.p (.int .i64 0),.p (.int .u64 0),.p (.str (bs [])),.nils]).flatten [(0,5,.p (.agg a.row)),(5,5,.p (.agg b.row))])=some (.sl σ.length 2,σ++[.pv 5 [a.row,b.row] false]):=by rw [Term.row_eq a,Term.row_eq b];rfl
theorem blist_2t {a b:Term}:blistV σ 5 2 (fillP (List.replicate 2 [.p (.int .i64 0),.p (.int .i64 0),.p (.int .u64 0),.p (.str (bs [])),.nils]).flatten [(0,5,.p (.agg a.row)),(5,5,.p (.agg b.row))])=some (.p (.lst [a.row,b.row]),σ):=by rw [Term.row_eq a,Term.row_eq b];rfl
end S
end Go.AE
namespace Go.AE.S
open Go Go.AE
set_option linter.unusedSimpArgs false
set_option linter.unusedVariables false
variable {τ:Tm} {σ:Store} {rd:Option Nat}
theorem bu_e {z0 z1:AV} {s:ByteArray} {n:Int}:buildV [z0,z1] [(0,1,.p (.str s)),(1,1,.p (.int .u64 n))]=some (.p (.agg [.str s,.int .u64 n])):=rfl
end Go.AE.S
