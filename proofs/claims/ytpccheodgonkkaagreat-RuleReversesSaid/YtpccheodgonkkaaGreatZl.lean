import Derived.Test.YtpccheodgonkkaaGreatZs
import Derived.Test.YtpccheodgonkkaaGreatZk
import Derived.Test.YtpccheodgonkkaaGreatZi
import Derived.WalkKit
import Derived.ProofKit
import Derived.OpenShut
set_option linter.unusedSimpArgs false
set_option linter.unusedVariables false
namespace Go.Proofs.YtpccheodgonkkaaGreat
open Go Go.AE Go.AE.S
open Go.ChangeShapes Go.WideShapes Go.ChangeAt Go.RowKit
theorem afk{args:List AV}{σ σ':ah}{v:AV}(h:zf dR cT args σ=some (v,σ')):kQ Tryz.prog cq bf args σ v σ':=by
 unfold zf at h;cases h1:xW 2 dR okV YM args σ with
 |some r=>
  rw[h1]at h;simp only[Option.orElse_some,bN]at h;subst h;exact aiv h1
 |none=>
  rw[h1]at h;simp only[Option.orElse_none]at h;exact afl h
theorem aep:Uf Tryz.prog cq P where
 fn f fn h:=ar9 (f,fn) (Ho h)
 imp f fn h hi:=by
  have:=CS.1 aoH (f,fn) (Ho h);simp only[hi,abY,J5,abi]at this;exact this
 VH f g h args σ v σ' hg:=by
  unfold P at h
  simp only at h
  split at h
  ·rename_i he
   subst he;cases h;exact ady hg
  split at h
  ·rename_i he
   subst he;cases h;exact afk hg
  split at h
  ·rename_i he
   subst he;cases h;exact UY hg
  split at h
  ·rename_i he
   subst he;cases h;exact aj8 hg
  split at h
  ·rename_i he
   subst he;cases h;exact UZ (fn:=Tryz.f252) Tryz.func252 (by kernel_rfl) (by kernel_rfl) (by kernel_rfl) (by kernel_rfl) hg
  ·cases h
 draw:=ajt (by kernel_rfl)
theorem own:ownKnob Tryz.prog.godebug=none:=by kernel_rfl
theorem laid:laidOutB Tryz.prog=true:=by kernel_rfl
noncomputable def fsT:Array Field:=match Tryz.prog.underlying 27 with|some (.struct fs)=>fs|_=>#[]
noncomputable def fsA:Array Field:=match Tryz.prog.underlying 65 with|some (.struct fs)=>fs|_=>#[]
noncomputable def fsG:Array Field:=match Tryz.prog.underlying 60 with|some (.struct fs)=>fs|_=>#[]
noncomputable def fsR:Array Field:=match Tryz.prog.underlying 30 with|some (.struct fs)=>fs|_=>#[]
theorem asa:N2 Tryz.prog 27 25 23 3 24 9 fsT:=⟨by kernel_rfl,by kernel_rfl,Tryz.underlying23,Tryz.underlying3,Tryz.underlying24,Tryz.underlying9,Tryz.underlying25⟩
def L:List TypeId:=[30,22,65,28,60,27,25,23,3,24,9,4,43,90]
theorem read:KU Tryz.prog L=true:=by kernel_rfl
theorem as7:om Tryz.prog 30=some true:=by kernel_rfl
theorem aja(r:du):WR Tryz.prog 30 r.row=.agg r.row:=by unfold WR;rw[as7];rfl
theorem Vh{c:List PV}(h:Ty Tryz.prog 30 c):∃r:du,c=r.row∧TyR r:=akc (fr:=fsR) (fa:=fsA) (fb:=fsG) asa (by kernel_rfl) (by kernel_rfl) Tryz.underlying22 (by kernel_rfl) (by kernel_rfl) Tryz.underlying28 (by kernel_rfl) (by kernel_rfl) h
def amo:Value:=.agg #[.string "".toUTF8,.slice none 0 0,.int .i64 0,.int .i64 0,.int .u64 0,.string "".toUTF8,.slice none 0 0,.slice none 0 0]
end Go.Proofs.YtpccheodgonkkaaGreat
