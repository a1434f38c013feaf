import Derived.Test.YtojhplpninjplaaGreatC1
import Derived.Test.YtojhplpninjplaaGreatB2
import Derived.Test.YtojhplpninjplaaGreatC2
namespace Go.AE.S
open Go Go.AE
set_option linter.unusedSimpArgs false
set_option linter.unusedVariables false
variable {τ:Tm} {σ:Store} {rd:Option Nat}
theorem gc_44 {vs:List AV} {a b c d:Obj}:gc 4 vs [a,b,c,d]=[a,b,c,d]:=gc_same' (by simp)
theorem gc_45 {vs:List AV} {a b c d e:Obj}:gc 4 vs [a,b,c,d,e]=if gcOk 4 vs [a,b,c,d,e]=true then [a,b,c,d] else [a,b,c,d,e]:=by unfold gc;rw [if_neg (by simp)];rfl
def T3 (x y z:Int):Prop:=(x≤0∧y≤0→z≤0∧(z=0→x=0∧y=0))∧(x=0→z=y)∧(y=0→z=x)
def or2 (x y:Int):Int:=if x=0 then y else x
theorem T3.or {x y z x' y' z':Int} (h:T3 x y z) (h':T3 x' y' z'):T3 (or2 x x') (or2 y y') (or2 z z'):=by
  unfold T3 or2 at *
  obtain ⟨h1,h2,h3⟩:=h
  obtain ⟨k1,k2,k3⟩:=h'
  split<;>split<;>split<;>omega
theorem str_lt {a b:ByteArray} (h:slt a b=true):cmpStr a b = -1:=by rw [cmp_cases,if_neg (slt_ne h),if_pos h]
theorem str_eq (a:ByteArray):cmpStr a a=0:=by rw [cmp_cases,if_pos rfl]
theorem str_gt {a b:ByteArray} (h:slt b a=true):cmpStr a b=1:=by rw [cmp_cases,if_neg (fun e=>slt_ne h e.symm),if_neg (by rw [slt_asym h];simp)]
def R3 (x:Int):Prop:=x = -1∨x=0∨x=1
theorem R3.or {x y:Int} (h:R3 x) (h':R3 y):R3 (or2 x y):=by unfold or2;split<;>assumption
end Go.AE.S
