import Derived.Test.YtojhplpninjplaaGreatC0
namespace Go.AE.S
open Go Go.AE
set_option linter.unusedSimpArgs false
set_option linter.unusedVariables false
variable {τ:Tm} {σ:Store} {rd:Option Nat}
end Go.AE.S
namespace Go.AE
section
variable {P:Prog} {σ σ':Store} {nt n:Nat} {rd:Option Nat} {g:AV}
end
namespace S
open Go Go.AE
set_option linter.unusedSimpArgs false
set_option linter.unusedVariables false
variable {τ:Tm} {σ:Store} {rd:Option Nat}
end S
end Go.AE
namespace Go.AE.S
open Go Go.AE
set_option linter.unusedSimpArgs false
set_option linter.unusedVariables false
variable {τ:Tm} {σ:Store} {rd:Option Nat}
theorem callV_c {f:FuncId} {cap args:List AV}:callV P (.fn f cap) args σ=callF P f (args++cap) σ:=by rw [callV.eq_def]
end Go.AE.S
