import Derived.Test.YtpccheodgonkkaaGreatZs
import Derived.Test.YtpccheodgonkkaaGreatZk
import Derived.Test.YtpccheodgonkkaaGreatZi
import Derived.WalkKit
import Derived.ProofKit
import Derived.OpenShut
set_option linter.unusedSimpArgs false
set_option linter.unusedVariables false
namespace Go.Proofs.YtpccheodgonkkaaGreat
open Go Go.AE Go.AE.S
open Go.ChangeShapes Go.WideShapes Go.ChangeAt Go.RowKit
theorem aew{args:List AV}{σ σ':ag}{v:AV}(h:yw dO cR args σ=some (v,σ')):kr Tryz.prog cq bf args σ v σ':=by
 unfold yw at h;cases h1:xn 2 dO okV XW args σ with
 |some r=>
  rw[h1]at h;simp only[Option.orElse_some,bI]at h;subst h;exact ah0 h1
 |none=>
  rw[h1]at h;simp only[Option.orElse_none]at h;exact aex h
theorem aqI:Tw Tryz.prog cq P where
 fn f fn h:=arD (f,fn) (Gy h)
 imp f fn h hi:=by
  have:=Ca.1 aoh (f,fn) (Gy h);simp only[hi,ab1,G1,abi]at this;exact this
 US f g h args σ v σ' hg:=by
  unfold P at h
  simp only at h
  split at h
  ·rename_i he
   subst he;cases h;exact acL hg
  split at h
  ·rename_i he
   subst he;cases h;exact aew hg
  split at h
  ·rename_i he
   subst he;cases h;exact Ud hg
  split at h
  ·rename_i he
   subst he;cases h;exact ajD hg
  split at h
  ·rename_i he
   subst he;cases h;exact Ue (fn:=Tryz.f252) Tryz.func252 (by kernel_rfl) (by kernel_rfl) (by kernel_rfl) (by kernel_rfl) hg
  ·cases h
 draw:=aiZ (by kernel_rfl)
theorem own:ownKnob Tryz.prog.godebug=none:=by kernel_rfl
theorem laid:laidOutB Tryz.prog=true:=by kernel_rfl
noncomputable def fsT:Array Field:=match Tryz.prog.underlying 27 with|some (.struct fs)=>fs|_=>#[]
noncomputable def fsA:Array Field:=match Tryz.prog.underlying 65 with|some (.struct fs)=>fs|_=>#[]
noncomputable def fsG:Array Field:=match Tryz.prog.underlying 60 with|some (.struct fs)=>fs|_=>#[]
noncomputable def fsR:Array Field:=match Tryz.prog.underlying 30 with|some (.struct fs)=>fs|_=>#[]
theorem arE:M9 Tryz.prog 27 25 23 3 24 9 fsT:=⟨by kernel_rfl,by kernel_rfl,Tryz.underlying23,Tryz.underlying3,Tryz.underlying24,Tryz.underlying9,Tryz.underlying25⟩
def L:List TypeId:=[30,22,65,28,60,27,25,23,3,24,9,4,43,90]
theorem read:Kc Tryz.prog L=true:=by kernel_rfl
theorem asy:np Tryz.prog 30=some true:=by kernel_rfl
theorem avk:np Tryz.prog 3=some false:=by kernel_rfl
theorem asD(r:dR):Nk Tryz.prog 30 r.row=.agg r.row:=by unfold Nk;rw[asy];rfl
theorem asE(n:Int):Nk Tryz.prog 3 [.int .i64 n]=.int .i64 n:=by unfold Nk;rw[avk];rfl
theorem amV{c:List PV}(h:Ty Tryz.prog 30 c):∃r:dR,c=r.row∧TyR r:=ajH (fr:=fsR) (fa:=fsA) (fb:=fsG) arE (by kernel_rfl) (by kernel_rfl) Tryz.underlying22 (by kernel_rfl) (by kernel_rfl) Tryz.underlying28 (by kernel_rfl) (by kernel_rfl) h
def au8:Value:=.agg #[.string "".toUTF8,.slice none 0 0,.int .i64 0,.int .i64 0,.int .u64 0,.string "".toUTF8,.slice none 0 0,.slice none 0 0]
end Go.Proofs.YtpccheodgonkkaaGreat
