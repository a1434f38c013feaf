import Derived.Test.YtpccheodgonkkaaGreatZs
import Derived.Test.YtpccheodgonkkaaGreatZk
import Derived.Test.YtpccheodgonkkaaGreatZi
import Derived.WalkKit
import Derived.ProofKit
import Derived.OpenShut
set_option linter.unusedSimpArgs false
set_option linter.unusedVariables false
namespace Go.Proofs.YtpccheodgonkkaaGreat
open Go Go.AE Go.AE.S
open Go.ChangeShapes Go.WideShapes Go.ChangeAt Go.RowKit
theorem W7{args:List AV}{σ σ':ae}{v:AV}(h:wm dI cM args σ=some (v,σ')):jR Tryz.prog cq a7 args σ v σ':=by
 unfold wm at h;cases h1:uZ 2 dI V7 S5 args σ with
 |some r=>
  rw[h1]at h;simp only[Option.orElse_some,bL]at h;subst h;exact Z5 h1
 |none=>
  rw[h1]at h;simp only[Option.orElse_none]at h;exact W8 h
theorem akQ:OX Tryz.prog cq P where
 fn f fn h:=alK (f,fn) (DS h)
 imp f fn h hi:=by
  have:=AS.1 aij (f,fn) (DS h);simp only[hi,abU,NW,abF]at this;exact this
 Qg f g h args σ v σ' hg:=by
  unfold P at h
  simp only at h
  split at h
  ·rename_i he
   subst he;cases h;exact Vs hg
  split at h
  ·rename_i he
   subst he;cases h;exact W7 hg
  split at h
  ·rename_i he
   subst he;cases h;exact PD hg
  split at h
  ·rename_i he
   subst he;cases h;exact adZ hg
  split at h
  ·rename_i he
   subst he;cases h;exact PE (fn:=Tryz.f252) Tryz.func252 (by kernel_rfl) (by kernel_rfl) (by kernel_rfl) (by kernel_rfl) hg
  ·cases h
 draw:=adk (by kernel_rfl)
theorem own:ownKnob Tryz.prog.godebug=none:=by kernel_rfl
theorem laid:laidOutB Tryz.prog=true:=by kernel_rfl
noncomputable def fsT:Array Field:=match Tryz.prog.underlying 27 with|some (.struct fs)=>fs|_=>#[]
noncomputable def fsA:Array Field:=match Tryz.prog.underlying 65 with|some (.struct fs)=>fs|_=>#[]
noncomputable def fsG:Array Field:=match Tryz.prog.underlying 60 with|some (.struct fs)=>fs|_=>#[]
noncomputable def fsR:Array Field:=match Tryz.prog.underlying 30 with|some (.struct fs)=>fs|_=>#[]
theorem alL:Jl Tryz.prog 27 25 23 3 24 9 fsT:=⟨by kernel_rfl,by kernel_rfl,Tryz.underlying23,Tryz.underlying3,Tryz.underlying24,Tryz.underlying9,Tryz.underlying25⟩
def L:List TypeId:=[30,22,65,28,60,27,25,23,3,24,9,4,43,90]
theorem read:GV Tryz.prog L=true:=by kernel_rfl
theorem amC:mV Tryz.prog 30=some true:=by kernel_rfl
theorem amH(r:ed):Ri Tryz.prog 30 r.row=.agg r.row:=by unfold Ri;rw[amC];rfl
theorem XU{c:List PV}(h:Ty Tryz.prog 30 c):∃r:ed,c=r.row∧TyR r:=ad3 (fr:=fsR) (fa:=fsA) (fb:=fsG) alL (by kernel_rfl) (by kernel_rfl) Tryz.underlying22 (by kernel_rfl) (by kernel_rfl) Tryz.underlying28 (by kernel_rfl) (by kernel_rfl) h
def ajw:Value:=.agg #[.string "".toUTF8,.slice none 0 0,.int .i64 0,.int .i64 0,.int .u64 0,.string "".toUTF8,.slice none 0 0,.slice none 0 0]
end Go.Proofs.YtpccheodgonkkaaGreat
