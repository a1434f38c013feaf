import Derived.Test.YtiinicliedpmjaaGreatD4
import Derived.Test.YtiinicliedpmjaaGreatC0
namespace Go.AE.S
open Go Go.AE
set_option linter.unusedSimpArgs false
set_option linter.unusedVariables false
variable {τ:Tm} {σ:Store} {rd:Option Nat}
theorem pur_2 (k:Nat) (o:Obj) (rows:List (List PV)) (e:Nat) (fr:Bool):purify [o,.pv e rows fr] (k+1) (.sl 1 rows.length)=some (.lst rows):=by simp [purify]
theorem fold_any {α:Type} (q:α→Bool):∀ (l:List α) (i:Nat),foldE (S:=Unit) (T:=Unit) (fun _ _ a=>if q a=true then .inr () else .inl ()) i () l=if l.any q=true then .inr () else .inl ()
  | [],i=>rfl
  | a :: l,i=>by
    cases h:q a<;>simp [foldE,h,fold_any q l]
end Go.AE.S
