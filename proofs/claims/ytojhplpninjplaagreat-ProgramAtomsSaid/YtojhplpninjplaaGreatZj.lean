import Derived.Test.YtojhplpninjplaaGreatZi
import Derived.Test.YtojhplpninjplaaGreatA6
import Derived.Test.YtojhplpninjplaaGreatA4
import Derived.Test.YtojhplpninjplaaGreatRows
namespace Go.Proofs.YtojhplpninjplaaGreat
open Go Go.AE Go.AE.S
def imps:List FuncId:=[f_program_mentions_1,f_pattern_visit,f_pattern_preorder_1,f_term_postorder,f_term_All_1,f_term_All_1_1,f_program_compiler_register,f_program_compiler_emit,f_program_compiler_width,f_program_compiler_hole,f_program_compiler_num,f_program_compiler_pattern,f_program_checker_set,f_program_checker_setAll,f_program_checker_instruction,f_slices_SortFunc_api_Var_api_Var]
def cq (f:FuncId):Bool:=!imps.contains f
theorem c_law25_ProgramAtoms:compFn Tryz.prog cq ⟨[],[],[],[],[],[]⟩ false f_law25_ProgramAtoms=some F_law25_ProgramAtoms:=by kernel_rfl
theorem c_r25_Light:compFn Tryz.prog cq ⟨[],[],[],[],[],[]⟩ false f_r25_Light=some F_r25_Light:=by kernel_rfl
theorem c_law25_lives:compFn Tryz.prog cq ⟨[],[],[29,30,32,35,36],[],[],[]⟩ false f_law25_lives=some F_law25_lives:=by kernel_rfl
theorem c_program_Names:compFn Tryz.prog cq ⟨[4],[30],[],[],[],[]⟩ false f_program_Names=some F_program_Names:=by kernel_rfl
theorem c_r25_Names:compFn Tryz.prog cq ⟨[],[],[],[],[],[]⟩ false f_r25_Names=some F_r25_Names:=by kernel_rfl
theorem c_program_CheckAtoms:compFn Tryz.prog cq ⟨[],[],[],[],[],[]⟩ false f_program_CheckAtoms=some F_program_CheckAtoms:=by kernel_rfl
theorem c_r25_CheckAtoms:compFn Tryz.prog cq ⟨[],[],[],[],[],[]⟩ false f_r25_CheckAtoms=some F_r25_CheckAtoms:=by kernel_rfl
theorem c_r06_SameVars:compFn Tryz.prog cq ⟨[],[],[],[],[],[]⟩ false f_r06_SameVars=some F_r06_SameVars:=by kernel_rfl
theorem c_program_Compile:compFn Tryz.prog cq ⟨[2,25],[61,85,113],[],[],[],[]⟩ false f_program_Compile=some F_program_Compile:=by kernel_rfl
theorem c_program_Check:compFn Tryz.prog cq ⟨[27],[],[],[],[],[]⟩ false f_program_Check=some F_program_Check:=by kernel_rfl
theorem c_r06_Light:compFn Tryz.prog cq ⟨[6],[],[],[],[],[]⟩ false f_r06_Light=some F_r06_Light:=by kernel_rfl
theorem c_law25_twice:compFn Tryz.prog cq ⟨[],[],[3],[],[],[]⟩ false f_law25_twice=some F_law25_twice:=by kernel_rfl
theorem c_program_mentions:compFn Tryz.prog cq ⟨[3,4],[17],[],[],[],[25]⟩ false f_program_mentions=some F_program_mentions:=by kernel_rfl
theorem c_program_Names_1:compFn Tryz.prog cq ⟨[],[],[],[],[],[]⟩ false f_program_Names_1=some F_program_Names_1:=by kernel_rfl
theorem c_slices_ContainsFunc_api_Var_api_Var:compFn Tryz.prog cq ⟨[],[],[],[],[],[]⟩ false f_slices_ContainsFunc_api_Var_api_Var=some F_slices_ContainsFunc_api_Var_api_Var:=by kernel_rfl
theorem c_program_Names_2:compFn Tryz.prog cq ⟨[],[],[],[],[],[]⟩ false f_program_Names_2=some F_program_Names_2:=by kernel_rfl
theorem c_strings_Compare:compFn Tryz.prog cq ⟨[],[],[],[],[],[]⟩ false f_strings_Compare=some F_strings_Compare:=by kernel_rfl
theorem c_r25_all:compFn Tryz.prog cq ⟨[],[3],[],[],[],[]⟩ false f_r25_all=some F_r25_all:=by kernel_rfl
theorem c_r25_names:compFn Tryz.prog cq ⟨[],[8,8,8],[],[],[59,78],[]⟩ false f_r25_names=some F_r25_names:=by kernel_rfl
theorem c_pattern_Check:compFn Tryz.prog cq ⟨[4],[],[],[],[],[]⟩ false f_pattern_Check=some F_pattern_Check:=by kernel_rfl
theorem c_pattern_Generic:compFn Tryz.prog cq ⟨[2],[],[],[],[],[]⟩ false f_pattern_Generic=some F_pattern_Generic:=by kernel_rfl
theorem c_term_Name:compFn Tryz.prog cq ⟨[],[],[],[],[],[]⟩ false f_term_Name=some F_term_Name:=by kernel_rfl
theorem c_r24_Check:compFn Tryz.prog cq ⟨[],[],[],[],[],[]⟩ false f_r24_Check=some F_r24_Check:=by kernel_rfl
theorem c_r24_Generic:compFn Tryz.prog cq ⟨[],[],[],[],[],[]⟩ false f_r24_Generic=some F_r24_Generic:=by kernel_rfl
theorem c_r06_Name:compFn Tryz.prog cq ⟨[],[],[],[],[],[]⟩ false f_r06_Name=some F_r06_Name:=by kernel_rfl
theorem c_program_compiler_register:compFn Tryz.prog cq ⟨[],[],[],[],[],[]⟩ true f_program_compiler_register=some F_program_compiler_register:=by kernel_rfl
theorem c_program_compiler_emit:compFn Tryz.prog cq ⟨[],[13],[],[],[],[]⟩ true f_program_compiler_emit=some F_program_compiler_emit:=by kernel_rfl
theorem c_program_compiler_hole:compFn Tryz.prog cq ⟨[],[],[],[],[],[]⟩ true f_program_compiler_hole=some F_program_compiler_hole:=by kernel_rfl
theorem c_program_compiler_pattern:compFn Tryz.prog cq ⟨[10],[43,75],[],[],[],[]⟩ true f_program_compiler_pattern=some F_program_compiler_pattern:=by kernel_rfl
theorem c_program_checker_instruction:compFn Tryz.prog cq ⟨[],[],[],[],[],[]⟩ true f_program_checker_instruction=some F_program_checker_instruction:=by kernel_rfl
theorem c_program_slots:compFn Tryz.prog cq ⟨[6],[],[],[],[],[]⟩ false f_program_slots=some F_program_slots:=by kernel_rfl
theorem c_term_Copy:compFn Tryz.prog cq ⟨[2,3],[16],[],[],[],[]⟩ false f_term_Copy=some F_term_Copy:=by kernel_rfl
theorem c_r06_count:compFn Tryz.prog cq ⟨[],[],[],[],[],[]⟩ false f_r06_count=some F_r06_count:=by kernel_rfl
theorem c_law25_hole:compFn Tryz.prog cq ⟨[2],[],[],[],[],[]⟩ false f_law25_hole=some F_law25_hole:=by kernel_rfl
theorem c_program_mentions_1:compFn Tryz.prog cq ⟨[],[10,21],[],[],[],[17,28]⟩ true f_program_mentions_1=some F_program_mentions_1:=by kernel_rfl
theorem c_slices_IndexFunc_api_Var_api_Var:compFn Tryz.prog cq ⟨[],[],[],[],[],[]⟩ false f_slices_IndexFunc_api_Var_api_Var=some F_slices_IndexFunc_api_Var_api_Var:=by kernel_rfl
theorem c_internal_bytealg_CompareString:compFn Tryz.prog cq ⟨[],[],[],[],[],[]⟩ false f_internal_bytealg_CompareString=some F_internal_bytealg_CompareString:=by kernel_rfl
theorem c_r25_uses:compFn Tryz.prog cq ⟨[],[3,3],[],[],[],[]⟩ false f_r25_uses=some F_r25_uses:=by kernel_rfl
theorem c_term_Size:compFn Tryz.prog cq ⟨[],[],[],[],[],[]⟩ false f_term_Size=some F_term_Size:=by kernel_rfl
theorem c_term_Depth:compFn Tryz.prog cq ⟨[],[],[],[],[],[]⟩ false f_term_Depth=some F_term_Depth:=by kernel_rfl
theorem c_pattern_nodes:compFn Tryz.prog cq ⟨[],[],[],[],[],[]⟩ false f_pattern_nodes=some F_pattern_nodes:=by kernel_rfl
theorem c_pattern_preorder:compFn Tryz.prog cq ⟨[],[],[],[],[],[]⟩ false f_pattern_preorder=some F_pattern_preorder:=by kernel_rfl
theorem c_pattern_variable:compFn Tryz.prog cq ⟨[],[],[],[],[],[]⟩ false f_pattern_variable=some F_pattern_variable:=by kernel_rfl
theorem c_r10_Small:compFn Tryz.prog cq ⟨[],[],[],[],[],[]⟩ false f_r10_Small=some F_r10_Small:=by kernel_rfl
theorem c_r07_Deep:compFn Tryz.prog cq ⟨[],[],[],[],[],[]⟩ false f_r07_Deep=some F_r07_Deep:=by kernel_rfl
theorem c_r24_Postorder:compFn Tryz.prog cq ⟨[],[3,3,5],[],[],[],[]⟩ false f_r24_Postorder=some F_r24_Postorder:=by kernel_rfl
theorem c_r24_node:compFn Tryz.prog cq ⟨[],[],[],[],[],[]⟩ false f_r24_node=some F_r24_node:=by kernel_rfl
theorem c_r24_names:compFn Tryz.prog cq ⟨[],[5,11],[],[],[],[]⟩ false f_r24_names=some F_r24_names:=by kernel_rfl
theorem c_r24_Preorder:compFn Tryz.prog cq ⟨[],[3,6],[],[],[],[]⟩ false f_r24_Preorder=some F_r24_Preorder:=by kernel_rfl
theorem c_program_compiler_width:compFn Tryz.prog cq ⟨[],[],[],[],[],[]⟩ true f_program_compiler_width=some F_program_compiler_width:=by kernel_rfl
theorem c_pattern_Ground:compFn Tryz.prog cq ⟨[],[],[4],[],[],[]⟩ false f_pattern_Ground=some F_pattern_Ground:=by kernel_rfl
theorem c_program_determined:compFn Tryz.prog cq ⟨[],[],[],[],[],[]⟩ false f_program_determined=some F_program_determined:=by kernel_rfl
theorem c_program_checker_set:compFn Tryz.prog cq ⟨[],[],[],[],[],[]⟩ true f_program_checker_set=some F_program_checker_set:=by kernel_rfl
theorem c_opinfo_Arity:compFn Tryz.prog cq ⟨[],[],[],[],[],[]⟩ false f_opinfo_Arity=some F_opinfo_Arity:=by kernel_rfl
theorem c_opinfo_Pattern:compFn Tryz.prog cq ⟨[],[],[],[],[],[]⟩ false f_opinfo_Pattern=some F_opinfo_Pattern:=by kernel_rfl
theorem c_program_checker_setAll:compFn Tryz.prog cq ⟨[],[],[],[],[],[]⟩ true f_program_checker_setAll=some F_program_checker_setAll:=by kernel_rfl
theorem c_term_Check:compFn Tryz.prog cq ⟨[2,6],[],[],[],[],[]⟩ false f_term_Check=some F_term_Check:=by kernel_rfl
theorem c_r06_Pre:compFn Tryz.prog cq ⟨[],[3,6],[],[],[],[]⟩ false f_r06_Pre=some F_r06_Pre:=by kernel_rfl
theorem c_pattern_node:compFn Tryz.prog cq ⟨[],[],[99],[],[],[]⟩ false f_pattern_node=some F_pattern_node:=by kernel_rfl
theorem c_pattern_preorder_1:compFn Tryz.prog cq ⟨[],[],[],[],[],[]⟩ true f_pattern_preorder_1=some F_pattern_preorder_1:=by kernel_rfl
theorem c_pattern_visit:compFn Tryz.prog cq ⟨[],[],[],[],[],[]⟩ true f_pattern_visit=some F_pattern_visit:=by kernel_rfl
theorem c_r10_left:compFn Tryz.prog cq ⟨[],[],[],[],[],[]⟩ false f_r10_left=some F_r10_left:=by kernel_rfl
theorem c_r04_Arity:compFn Tryz.prog cq ⟨[],[],[12],[],[],[]⟩ false f_r04_Arity=some F_r04_Arity:=by kernel_rfl
theorem c_r24_variable:compFn Tryz.prog cq ⟨[],[],[],[],[],[]⟩ false f_r24_variable=some F_r24_variable:=by kernel_rfl
theorem c_r07_Name:compFn Tryz.prog cq ⟨[],[],[],[],[],[]⟩ false f_r07_Name=some F_r07_Name:=by kernel_rfl
theorem c_r04_Width:compFn Tryz.prog cq ⟨[],[],[],[],[],[]⟩ false f_r04_Width=some F_r04_Width:=by kernel_rfl
theorem c_r24_widths:compFn Tryz.prog cq ⟨[],[3,5],[],[],[],[]⟩ false f_r24_widths=some F_r24_widths:=by kernel_rfl
theorem c_pattern_has:compFn Tryz.prog cq ⟨[4],[],[],[],[],[]⟩ false f_pattern_has=some F_pattern_has:=by kernel_rfl
theorem c_term_measure:compFn Tryz.prog cq ⟨[],[],[],[],[],[]⟩ false f_term_measure=some F_term_measure:=by kernel_rfl
theorem c_term_All:compFn Tryz.prog cq ⟨[],[],[],[],[],[]⟩ false f_term_All=some F_term_All:=by kernel_rfl
theorem c_term_node:compFn Tryz.prog cq ⟨[],[],[],[],[],[]⟩ false f_term_node=some F_term_node:=by kernel_rfl
theorem c_opinfo_Width:compFn Tryz.prog cq ⟨[],[],[],[],[],[]⟩ false f_opinfo_Width=some F_opinfo_Width:=by kernel_rfl
theorem c_pattern_widths:compFn Tryz.prog cq ⟨[],[3],[],[],[],[]⟩ false f_pattern_widths=some F_pattern_widths:=by kernel_rfl
theorem c_r04_Leaf:compFn Tryz.prog cq ⟨[],[],[4],[],[],[]⟩ false f_r04_Leaf=some F_r04_Leaf:=by kernel_rfl
theorem c_r04_Is:compFn Tryz.prog cq ⟨[],[],[],[],[],[]⟩ false f_r04_Is=some F_r04_Is:=by kernel_rfl
theorem c_r04_width:compFn Tryz.prog cq ⟨[],[],[],[],[],[]⟩ false f_r04_width=some F_r04_width:=by kernel_rfl
theorem c_r04_leaf:compFn Tryz.prog cq ⟨[],[],[],[],[],[]⟩ false f_r04_leaf=some F_r04_leaf:=by kernel_rfl
theorem c_r04_parts:compFn Tryz.prog cq ⟨[],[],[],[],[],[]⟩ false f_r04_parts=some F_r04_parts:=by kernel_rfl
theorem c_slices_Contains_api_Op_api_Op:compFn Tryz.prog cq ⟨[],[],[],[],[],[]⟩ false f_slices_Contains_api_Op_api_Op=some F_slices_Contains_api_Op_api_Op:=by kernel_rfl
theorem c_term_All_1:compFn Tryz.prog cq ⟨[],[],[],[],[],[]⟩ true f_term_All_1=some F_term_All_1:=by kernel_rfl
theorem c_term_postorder:compFn Tryz.prog cq ⟨[],[],[],[],[],[]⟩ true f_term_postorder=some F_term_postorder:=by kernel_rfl
theorem c_term_All_1_1:compFn Tryz.prog cq ⟨[],[],[],[],[],[]⟩ true f_term_All_1_1=some F_term_All_1_1:=by kernel_rfl
theorem c_term_widths:compFn Tryz.prog cq ⟨[5],[],[],[],[],[]⟩ false f_term_widths=some F_term_widths:=by kernel_rfl
theorem c_opinfo_known:compFn Tryz.prog cq ⟨[],[],[],[],[],[]⟩ false f_opinfo_known=some F_opinfo_known:=by kernel_rfl
theorem c_opinfo_inside:compFn Tryz.prog cq ⟨[],[],[],[],[],[]⟩ false f_opinfo_inside=some F_opinfo_inside:=by kernel_rfl
theorem c_opinfo_leaf:compFn Tryz.prog cq ⟨[],[],[],[],[],[]⟩ false f_opinfo_leaf=some F_opinfo_leaf:=by kernel_rfl
theorem c_opinfo_resized:compFn Tryz.prog cq ⟨[],[],[],[],[],[]⟩ false f_opinfo_resized=some F_opinfo_resized:=by kernel_rfl
theorem c_opinfo_agreed:compFn Tryz.prog cq ⟨[],[],[],[],[],[]⟩ false f_opinfo_agreed=some F_opinfo_agreed:=by kernel_rfl
theorem c_slices_Index_api_Op_api_Op:compFn Tryz.prog cq ⟨[],[],[],[],[],[]⟩ false f_slices_Index_api_Op_api_Op=some F_slices_Index_api_Op_api_Op:=by kernel_rfl
theorem noGo:∀ g∈Tryz.prog.funcs,(g.name == "runtime.NumGoroutine")=false:=by
  have h:(Tryz.prog.funcs.all fun g=>(g.name == "runtime.NumGoroutine") == false)=true:=by kernel_rfl
  intro g hg
  have:=Array.all_eq_true_iff_forall_mem.1 h g hg
  simpa using this
theorem tbl_ok:∀ x∈tbl,FnOk Tryz.prog cq x.1 x.2:=by
  simp only [tbl,List.forall_mem_cons]
  exact ⟨(compFn_ok noGo c_law25_ProgramAtoms).1,
    (compFn_ok noGo c_r25_Light).1,
    (compFn_ok noGo c_law25_lives).1,
    (compFn_ok noGo c_program_Names).1,
    (compFn_ok noGo c_r25_Names).1,
    (compFn_ok noGo c_program_CheckAtoms).1,
    (compFn_ok noGo c_r25_CheckAtoms).1,
    (compFn_ok noGo c_r06_SameVars).1,
    (compFn_ok noGo c_program_Compile).1,
    (compFn_ok noGo c_program_Check).1,
    (compFn_ok noGo c_r06_Light).1,
    (compFn_ok noGo c_law25_twice).1,
    (compFn_ok noGo c_program_mentions).1,
    (compFn_ok noGo c_program_Names_1).1,
    (compFn_ok noGo c_slices_ContainsFunc_api_Var_api_Var).1,
    (compFn_ok noGo c_program_Names_2).1,
    (compFn_ok noGo c_strings_Compare).1,
    (compFn_ok noGo c_r25_all).1,
    (compFn_ok noGo c_r25_names).1,
    (compFn_ok noGo c_pattern_Check).1,
    (compFn_ok noGo c_pattern_Generic).1,
    (compFn_ok noGo c_term_Name).1,
    (compFn_ok noGo c_r24_Check).1,
    (compFn_ok noGo c_r24_Generic).1,
    (compFn_ok noGo c_r06_Name).1,
    (compFn_ok noGo c_program_compiler_register).1,
    (compFn_ok noGo c_program_compiler_emit).1,
    (compFn_ok noGo c_program_compiler_hole).1,
    (compFn_ok noGo c_program_compiler_pattern).1,
    (compFn_ok noGo c_program_checker_instruction).1,
    (compFn_ok noGo c_program_slots).1,
    (compFn_ok noGo c_term_Copy).1,
    (compFn_ok noGo c_r06_count).1,
    (compFn_ok noGo c_law25_hole).1,
    (compFn_ok noGo c_program_mentions_1).1,
    (compFn_ok noGo c_slices_IndexFunc_api_Var_api_Var).1,
    (compFn_ok noGo c_internal_bytealg_CompareString).1,
    (compFn_ok noGo c_r25_uses).1,
    (compFn_ok noGo c_term_Size).1,
    (compFn_ok noGo c_term_Depth).1,
    (compFn_ok noGo c_pattern_nodes).1,
    (compFn_ok noGo c_pattern_preorder).1,
    (compFn_ok noGo c_pattern_variable).1,
    (compFn_ok noGo c_r10_Small).1,
    (compFn_ok noGo c_r07_Deep).1,
    (compFn_ok noGo c_r24_Postorder).1,
    (compFn_ok noGo c_r24_node).1,
    (compFn_ok noGo c_r24_names).1,
    (compFn_ok noGo c_r24_Preorder).1,
    (compFn_ok noGo c_program_compiler_width).1,
    (compFn_ok noGo c_pattern_Ground).1,
    (compFn_ok noGo c_program_determined).1,
    (compFn_ok noGo c_program_checker_set).1,
    (compFn_ok noGo c_opinfo_Arity).1,
    (compFn_ok noGo c_opinfo_Pattern).1,
    (compFn_ok noGo c_program_checker_setAll).1,
    (compFn_ok noGo c_term_Check).1,
    (compFn_ok noGo c_r06_Pre).1,
    (compFn_ok noGo c_pattern_node).1,
    (compFn_ok noGo c_pattern_preorder_1).1,
    (compFn_ok noGo c_pattern_visit).1,
    (compFn_ok noGo c_r10_left).1,
    (compFn_ok noGo c_r04_Arity).1,
    (compFn_ok noGo c_r24_variable).1,
    (compFn_ok noGo c_r07_Name).1,
    (compFn_ok noGo c_r04_Width).1,
    (compFn_ok noGo c_r24_widths).1,
    (compFn_ok noGo c_pattern_has).1,
    (compFn_ok noGo c_term_measure).1,
    (compFn_ok noGo c_term_All).1,
    (compFn_ok noGo c_term_node).1,
    (compFn_ok noGo c_opinfo_Width).1,
    (compFn_ok noGo c_pattern_widths).1,
    (compFn_ok noGo c_r04_Leaf).1,
    (compFn_ok noGo c_r04_Is).1,
    (compFn_ok noGo c_r04_width).1,
    (compFn_ok noGo c_r04_leaf).1,
    (compFn_ok noGo c_r04_parts).1,
    (compFn_ok noGo c_slices_Contains_api_Op_api_Op).1,
    (compFn_ok noGo c_term_All_1).1,
    (compFn_ok noGo c_term_postorder).1,
    (compFn_ok noGo c_term_All_1_1).1,
    (compFn_ok noGo c_term_widths).1,
    (compFn_ok noGo c_opinfo_known).1,
    (compFn_ok noGo c_opinfo_inside).1,
    (compFn_ok noGo c_opinfo_leaf).1,
    (compFn_ok noGo c_opinfo_resized).1,
    (compFn_ok noGo c_opinfo_agreed).1,
    (compFn_ok noGo c_slices_Index_api_Op_api_Op).1,by simp⟩
theorem tbl_imp:(tbl.all fun x=>!x.2.imp || !cq x.1)=true:=by kernel_rfl
theorem lookup_mem {α:Type}:∀ {l:List (FuncId×α)} {f:FuncId} {a:α},l.lookup f=some a→(f,a)∈l
  | [],_,_,h=>by cases h
  | (g,b) :: l,f,a,h=>by
    simp only [List.lookup] at h
    split at h
    · rename_i he
      have:f=g:=by simpa using he
      cases h
      rw [this];simp
    · exact List.mem_cons_of_mem _ (lookup_mem h)
end Go.Proofs.YtojhplpninjplaaGreat
