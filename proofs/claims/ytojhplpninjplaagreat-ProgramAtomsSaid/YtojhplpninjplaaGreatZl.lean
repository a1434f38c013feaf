import Derived.Test.YtojhplpninjplaaGreatZs
import Derived.Test.YtojhplpninjplaaGreatD5
import Derived.Test.YtojhplpninjplaaGreatZi
import Derived.WalkKit
import Derived.ProofKit
import Derived.OpenShut
namespace Go.Proofs.YtojhplpninjplaaGreat
open Go Go.AE Go.AE.S
open Go.ChangeShapes Go.WideShapes Go.ChangeAt Go.RowKit
theorem progOk:ProgOk Tryz.prog cq P where
  fn f fn h:=tbl_ok (f,fn) (lookup_mem h)
  imp f fn h hi:=by
    have:=List.all_eq_true.1 tbl_imp (f,fn) (lookup_mem h)
    simp only [hi,Bool.not_true,Bool.false_or,Bool.not_eq_true'] at this
    exact this
  prim f g h args σ v σ' hg:=by
    unfold P at h
    simp only at h
    split at h
    · rename_i he
      subst he
      cases h
      exact sort_fact hg
    split at h
    · rename_i he
      subst he
      cases h
      exact compare_fact (fn:=Tryz.f98) Tryz.func98 (by kernel_rfl) (by kernel_rfl) (by kernel_rfl) (by kernel_rfl) hg
    · cases h
  draw:=drawn_ok (by kernel_rfl)
theorem own:ownKnob Tryz.prog.godebug=none:=by kernel_rfl
theorem laid:laidOutB Tryz.prog=true:=by kernel_rfl
noncomputable def fsT:Array Field:=match Tryz.prog.underlying 44 with | some (.struct fs)=>fs | _=>#[]
noncomputable def fsA:Array Field:=match Tryz.prog.underlying 46 with | some (.struct fs)=>fs | _=>#[]
theorem termTy:TermTy Tryz.prog 44 42 40 3 41 9 fsT:=⟨by kernel_rfl,by kernel_rfl,Tryz.underlying40,Tryz.underlying3,Tryz.underlying41,Tryz.underlying9,Tryz.underlying42⟩
def L:List TypeId:=[44,42,40,3,41,9,4,22,46]
theorem read:readOk Tryz.prog L=true:=by kernel_rfl
theorem agg22:tyAgg Tryz.prog 22=some false:=by kernel_rfl
theorem arg_a (l:List (List PV)):argOf Tryz.prog 22 [.lst l]=.lst l:=by unfold argOf;rw [agg22];rfl
theorem in_atoms {c:List PV} (h:Ty Tryz.prog 22 c):∃ l:List Atom,c=[.lst (l.map Atom.row)]∧∀ a∈l,TOk a.pat :=
  inv_atoms (fa:=fsA) (tA:=46) termTy Tryz.underlying22 (by kernel_rfl) (by kernel_rfl) h
end Go.Proofs.YtojhplpninjplaaGreat
