import Derived.Test.YtiinicliedpmjaaGreatZt
import Derived.Test.YtiinicliedpmjaaGreatZi
import Derived.Test.YtiinicliedpmjaaGreatE6
import Derived.WalkKit
import Derived.ProofKit
import Derived.OpenShut
namespace Go.AE.S
open Go Go.AE
end Go.AE.S
namespace Go.Proofs.YtiinicliedpmjaaGreat
open Go Go.AE Go.AE.S
open Go.ChangeShapes Go.WideShapes Go.ChangeAt Go.RowKit
theorem sort2_fact {args:List AV} {σ σ':Store} {v:AV} (h:primSort2 f_term_Vars_2 f_exhaust_Vars_1 args σ=some (v,σ')):CallFact Tryz.prog cq f_slices_SortFunc_api_Var_api_Var args σ v σ':=by
  unfold primSort2 at h
  cases h1:primSort 2 f_term_Vars_2 okV ltV args σ with
  | some r=>
    rw [h1] at h
    simp only [Option.orElse_some,Option.some.injEq] at h
    subst h
    exact sort_fact h1
  | none=>
    rw [h1] at h
    simp only [Option.orElse_none] at h
    exact sortW_fact h
theorem progOk:ProgOk Tryz.prog cq P where
  fn f fn h:=tbl_ok (f,fn) (lookup_mem h)
  imp f fn h hi:=by
    have:=List.all_eq_true.1 tbl_imp (f,fn) (lookup_mem h)
    simp only [hi,Bool.not_true,Bool.false_or,Bool.not_eq_true'] at this
    exact this
  prim f g h args σ v σ' hg:=by
    unfold P at h
    simp only at h
    split at h
    · rename_i he
      subst he
      cases h
      exact sort2_fact hg
    split at h
    · rename_i he
      subst he
      cases h
      exact compact_fact hg
    split at h
    · rename_i he
      subst he
      cases h
      exact clone_fact hg
    split at h
    · rename_i he
      subst he
      cases h
      exact compare_fact (fn:=Tryz.f115) Tryz.func115 (by kernel_rfl) (by kernel_rfl) (by kernel_rfl) (by kernel_rfl) hg
    · cases h
  draw:=drawn_ok (by kernel_rfl)
theorem own:ownKnob Tryz.prog.godebug=none:=by kernel_rfl
theorem laid:laidOutB Tryz.prog=true:=by kernel_rfl
noncomputable def fsT:Array Field:=match Tryz.prog.underlying 34 with | some (.struct fs)=>fs | _=>#[]
theorem termTy:TermTy Tryz.prog 34 22 31 3 32 9 fsT:=⟨by kernel_rfl,by kernel_rfl,Tryz.underlying31,Tryz.underlying3,Tryz.underlying32,Tryz.underlying9,Tryz.underlying22⟩
def L:List TypeId:=[34,22,31,3,32,9,4,35,62,50]
theorem read:readOk Tryz.prog L=true:=by kernel_rfl
theorem agg34:tyAgg Tryz.prog 34=some true:=by kernel_rfl
theorem agg35:tyAgg Tryz.prog 35=some false:=by kernel_rfl
theorem arg_T (t:Term):argOf Tryz.prog 34 t.row=.agg t.row:=by unfold argOf;rw [agg34];rfl
theorem arg_B (l:List (List PV)):argOf Tryz.prog 35 [.lst l]=.lst l:=by unfold argOf;rw [agg35];rfl
noncomputable def fsB:Array Field:=match Tryz.prog.underlying 62 with | some (.struct fs)=>fs | _=>#[]
theorem in_bind {c:List PV} (h:Ty Tryz.prog 62 c):∃ b:Bd,c=brow b∧W b.v∧b.name.size≤9223372036854775807:=inv_bind (fs:=fsB) (tN:=9) (tU:=32) (by kernel_rfl) (by kernel_rfl) Tryz.underlying9 Tryz.underlying32 h
theorem in_binds {c:List PV} (h:Ty Tryz.prog 35 c):∃ l:List Bd,c=[.lst (l.map brow)]∧(∀ b∈l,W b.v∧b.name.size≤9223372036854775807)∧l.length≤9223372036854775807:=by
  obtain ⟨rows,rfl,hl,hr⟩:=inv_slice Tryz.underlying35 h
  obtain ⟨l,rfl,hp⟩:=inv_rows brow _ rows fun r hx=>in_bind (hr r hx)
  exact ⟨l,rfl,hp,by rw [List.length_map] at hl;exact hl⟩
def zeroT:Value:=.agg #[.int .i64 0,.int .i64 0,.int .u64 0,.string "".toUTF8,.slice none 0 0]
end Go.Proofs.YtiinicliedpmjaaGreat
