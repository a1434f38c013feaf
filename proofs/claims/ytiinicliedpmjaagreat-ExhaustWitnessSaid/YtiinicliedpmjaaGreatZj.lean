import Derived.Test.YtiinicliedpmjaaGreatZi
import Derived.Test.YtiinicliedpmjaaGreatA6
import Derived.Test.YtiinicliedpmjaaGreatA4
import Derived.Test.YtiinicliedpmjaaGreatRows
namespace Go.Proofs.YtiinicliedpmjaaGreat
open Go Go.AE Go.AE.S
def imps:List FuncId:=[f_term_preorder,f_term_postorder,f_term_Vars_1,f_term_All_1,f_term_All_1_1,f_exhaust_assignments_1,f_slices_SortFunc_api_Var_api_Var,f_slices_Compact_api_Var_api_Var,f_slices_Clone_api_Term_api_Term]
def cq (f:FuncId):Bool:=!imps.contains f
theorem c_law11_ExhaustWitness:compFn Tryz.prog cq ⟨[],[],[],[],[]⟩ false f_law11_ExhaustWitness=some F_law11_ExhaustWitness:=by kernel_rfl
theorem c_r11_Few:compFn Tryz.prog cq ⟨[],[],[],[],[]⟩ false f_r11_Few=some F_r11_Few:=by kernel_rfl
theorem c_law11_live:compFn Tryz.prog cq ⟨[1],[],[54],[],[]⟩ false f_law11_live=some F_law11_live:=by kernel_rfl
theorem c_exhaust_Vars:compFn Tryz.prog cq ⟨[12],[7,39],[],[],[]⟩ false f_exhaust_Vars=some F_exhaust_Vars:=by kernel_rfl
theorem c_r11_Vars:compFn Tryz.prog cq ⟨[],[],[],[],[]⟩ false f_r11_Vars=some F_r11_Vars:=by kernel_rfl
theorem c_r11_Small:compFn Tryz.prog cq ⟨[],[],[],[],[]⟩ false f_r11_Small=some F_r11_Small:=by kernel_rfl
theorem c_exhaust_Equal:compFn Tryz.prog cq ⟨[],[],[],[],[]⟩ false f_exhaust_Equal=some F_exhaust_Equal:=by kernel_rfl
theorem c_exhaust_Valid:compFn Tryz.prog cq ⟨[6,7,8],[19],[22],[],[]⟩ false f_exhaust_Valid=some F_exhaust_Valid:=by kernel_rfl
theorem c_exhaust_Sat:compFn Tryz.prog cq ⟨[2,3,4,6],[],[],[],[]⟩ false f_exhaust_Sat=some F_exhaust_Sat:=by kernel_rfl
theorem c_exhaust_Count:compFn Tryz.prog cq ⟨[],[],[],[],[]⟩ false f_exhaust_Count=some F_exhaust_Count:=by kernel_rfl
theorem c_r08_Eval:compFn Tryz.prog cq ⟨[],[],[],[],[]⟩ false f_r08_Eval=some F_r08_Eval:=by kernel_rfl
theorem c_law11_two:compFn Tryz.prog cq ⟨[8],[],[13],[],[]⟩ false f_law11_two=some F_law11_two:=by kernel_rfl
theorem c_r08_Bits:compFn Tryz.prog cq ⟨[],[],[],[],[]⟩ false f_r08_Bits=some F_r08_Bits:=by kernel_rfl
theorem c_r06_Light:compFn Tryz.prog cq ⟨[6],[],[],[],[]⟩ false f_r06_Light=some F_r06_Light:=by kernel_rfl
theorem c_term_Check:compFn Tryz.prog cq ⟨[2,6],[],[],[],[]⟩ false f_term_Check=some F_term_Check:=by kernel_rfl
theorem c_term_Vars:compFn Tryz.prog cq ⟨[3],[],[],[],[]⟩ false f_term_Vars=some F_term_Vars:=by kernel_rfl
theorem c_exhaust_Vars_1:compFn Tryz.prog cq ⟨[],[],[15],[],[]⟩ false f_exhaust_Vars_1=some F_exhaust_Vars_1:=by kernel_rfl
theorem c_cmp_Or_int:compFn Tryz.prog cq ⟨[],[],[],[],[]⟩ false f_cmp_Or_int=some F_cmp_Or_int:=by kernel_rfl
theorem c_cmp_Compare_string:compFn Tryz.prog cq ⟨[],[],[],[],[]⟩ false f_cmp_Compare_string=some F_cmp_Compare_string:=by kernel_rfl
theorem c_cmp_Compare_int:compFn Tryz.prog cq ⟨[],[],[],[],[]⟩ false f_cmp_Compare_int=some F_cmp_Compare_int:=by kernel_rfl
theorem c_r06_Check:compFn Tryz.prog cq ⟨[],[],[],[],[]⟩ false f_r06_Check=some F_r06_Check:=by kernel_rfl
theorem c_r11_all:compFn Tryz.prog cq ⟨[],[9,9,9],[],[],[75,87]⟩ false f_r11_all=some F_r11_all:=by kernel_rfl
theorem c_slices_ContainsFunc_api_Term_api_Term:compFn Tryz.prog cq ⟨[],[],[],[],[]⟩ false f_slices_ContainsFunc_api_Term_api_Term=some F_slices_ContainsFunc_api_Term_api_Term:=by kernel_rfl
theorem c_exhaust_Valid_1:compFn Tryz.prog cq ⟨[],[],[],[],[]⟩ false f_exhaust_Valid_1=some F_exhaust_Valid_1:=by kernel_rfl
theorem c_exhaust_tables:compFn Tryz.prog cq ⟨[],[5],[],[],[]⟩ false f_exhaust_tables=some F_exhaust_tables:=by kernel_rfl
theorem c_exhaust_assignments:compFn Tryz.prog cq ⟨[3],[],[],[],[]⟩ false f_exhaust_assignments=some F_exhaust_assignments:=by kernel_rfl
theorem c_exhaust_condition:compFn Tryz.prog cq ⟨[],[],[9,22],[],[]⟩ false f_exhaust_condition=some F_exhaust_condition:=by kernel_rfl
theorem c_r08_Value:compFn Tryz.prog cq ⟨[],[8],[],[],[]⟩ false f_r08_Value=some F_r08_Value:=by kernel_rfl
theorem c_r06_count:compFn Tryz.prog cq ⟨[],[],[],[],[]⟩ false f_r06_count=some F_r06_count:=by kernel_rfl
theorem c_term_measure:compFn Tryz.prog cq ⟨[],[],[],[],[]⟩ false f_term_measure=some F_term_measure:=by kernel_rfl
theorem c_term_All:compFn Tryz.prog cq ⟨[],[],[],[],[]⟩ false f_term_All=some F_term_All:=by kernel_rfl
theorem c_term_node:compFn Tryz.prog cq ⟨[],[],[],[],[]⟩ false f_term_node=some F_term_node:=by kernel_rfl
theorem c_term_preorder:compFn Tryz.prog cq ⟨[],[],[],[],[]⟩ true f_term_preorder=some F_term_preorder:=by kernel_rfl
theorem c_term_Vars_1:compFn Tryz.prog cq ⟨[],[15],[],[],[]⟩ true f_term_Vars_1=some F_term_Vars_1:=by kernel_rfl
theorem c_term_Vars_1_1:compFn Tryz.prog cq ⟨[],[],[],[],[]⟩ false f_term_Vars_1_1=some F_term_Vars_1_1:=by kernel_rfl
theorem c_slices_ContainsFunc_api_Var_api_Var:compFn Tryz.prog cq ⟨[],[],[],[],[]⟩ false f_slices_ContainsFunc_api_Var_api_Var=some F_slices_ContainsFunc_api_Var_api_Var:=by kernel_rfl
theorem c_term_Vars_2:compFn Tryz.prog cq ⟨[],[],[],[],[]⟩ false f_term_Vars_2=some F_term_Vars_2:=by kernel_rfl
theorem c_strings_Compare:compFn Tryz.prog cq ⟨[],[],[],[],[]⟩ false f_strings_Compare=some F_strings_Compare:=by kernel_rfl
theorem c_cmp_isNaN_string:compFn Tryz.prog cq ⟨[],[],[],[],[]⟩ false f_cmp_isNaN_string=some F_cmp_isNaN_string:=by kernel_rfl
theorem c_cmp_isNaN_int:compFn Tryz.prog cq ⟨[],[],[],[],[]⟩ false f_cmp_isNaN_int=some F_cmp_isNaN_int:=by kernel_rfl
theorem c_r06_nodes:compFn Tryz.prog cq ⟨[],[],[],[],[]⟩ false f_r06_nodes=some F_r06_nodes:=by kernel_rfl
theorem c_r06_Post:compFn Tryz.prog cq ⟨[],[3,3],[],[],[]⟩ false f_r06_Post=some F_r06_Post:=by kernel_rfl
theorem c_r06_Vars:compFn Tryz.prog cq ⟨[],[7,7,7],[],[],[59,78]⟩ false f_r06_Vars=some F_r06_Vars:=by kernel_rfl
theorem c_slices_IndexFunc_api_Term_api_Term:compFn Tryz.prog cq ⟨[],[],[],[],[]⟩ false f_slices_IndexFunc_api_Term_api_Term=some F_slices_IndexFunc_api_Term_api_Term:=by kernel_rfl
theorem c_eval_Table:compFn Tryz.prog cq ⟨[9,21],[22,115],[],[],[]⟩ false f_eval_Table=some F_eval_Table:=by kernel_rfl
theorem c_exhaust_assignments_1:compFn Tryz.prog cq ⟨[],[],[],[],[]⟩ true f_exhaust_assignments_1=some F_exhaust_assignments_1:=by kernel_rfl
theorem c_exhaust_assignments_1_1:compFn Tryz.prog cq ⟨[],[3],[],[],[]⟩ false f_exhaust_assignments_1_1=some F_exhaust_assignments_1_1:=by kernel_rfl
theorem c_r01_Cut:compFn Tryz.prog cq ⟨[],[],[],[],[]⟩ false f_r01_Cut=some F_r01_Cut:=by kernel_rfl
theorem c_r08_Look:compFn Tryz.prog cq ⟨[],[],[],[],[]⟩ false f_r08_Look=some F_r08_Look:=by kernel_rfl
theorem c_r08_value:compFn Tryz.prog cq ⟨[],[9],[],[],[]⟩ false f_r08_value=some F_r08_value:=by kernel_rfl
theorem c_term_All_1:compFn Tryz.prog cq ⟨[],[],[],[],[]⟩ true f_term_All_1=some F_term_All_1:=by kernel_rfl
theorem c_term_postorder:compFn Tryz.prog cq ⟨[],[],[],[],[]⟩ true f_term_postorder=some F_term_postorder:=by kernel_rfl
theorem c_term_All_1_1:compFn Tryz.prog cq ⟨[],[],[],[],[]⟩ true f_term_All_1_1=some F_term_All_1_1:=by kernel_rfl
theorem c_term_Copy:compFn Tryz.prog cq ⟨[2,3],[16],[],[],[]⟩ false f_term_Copy=some F_term_Copy:=by kernel_rfl
theorem c_opinfo_Arity:compFn Tryz.prog cq ⟨[],[],[],[],[]⟩ false f_opinfo_Arity=some F_opinfo_Arity:=by kernel_rfl
theorem c_opinfo_Pattern:compFn Tryz.prog cq ⟨[],[],[],[],[]⟩ false f_opinfo_Pattern=some F_opinfo_Pattern:=by kernel_rfl
theorem c_term_Name:compFn Tryz.prog cq ⟨[],[],[],[],[]⟩ false f_term_Name=some F_term_Name:=by kernel_rfl
theorem c_opinfo_Width:compFn Tryz.prog cq ⟨[],[],[],[],[]⟩ false f_opinfo_Width=some F_opinfo_Width:=by kernel_rfl
theorem c_term_widths:compFn Tryz.prog cq ⟨[5],[],[],[],[]⟩ false f_term_widths=some F_term_widths:=by kernel_rfl
theorem c_slices_IndexFunc_api_Var_api_Var:compFn Tryz.prog cq ⟨[],[],[],[],[]⟩ false f_slices_IndexFunc_api_Var_api_Var=some F_slices_IndexFunc_api_Var_api_Var:=by kernel_rfl
theorem c_internal_bytealg_CompareString:compFn Tryz.prog cq ⟨[],[],[],[],[]⟩ false f_internal_bytealg_CompareString=some F_internal_bytealg_CompareString:=by kernel_rfl
theorem c_r06_Node:compFn Tryz.prog cq ⟨[],[],[],[],[]⟩ false f_r06_Node=some F_r06_Node:=by kernel_rfl
theorem c_r06_Pre:compFn Tryz.prog cq ⟨[],[3,6],[],[],[]⟩ false f_r06_Pre=some F_r06_Pre:=by kernel_rfl
theorem c_eval_value:compFn Tryz.prog cq ⟨[5],[6,18],[],[],[]⟩ false f_eval_value=some F_eval_value:=by kernel_rfl
theorem c_eval_Table_1:compFn Tryz.prog cq ⟨[],[],[],[],[]⟩ false f_eval_Table_1=some F_eval_Table_1:=by kernel_rfl
theorem c_r01_W:compFn Tryz.prog cq ⟨[],[],[],[],[]⟩ false f_r01_W=some F_r01_W:=by kernel_rfl
theorem c_r01_Bit:compFn Tryz.prog cq ⟨[],[],[],[],[]⟩ false f_r01_Bit=some F_r01_Bit:=by kernel_rfl
theorem c_r08_one:compFn Tryz.prog cq ⟨[],[],[],[],[]⟩ false f_r08_one=some F_r08_one:=by kernel_rfl
theorem c_r01_Concat:compFn Tryz.prog cq ⟨[],[],[],[],[]⟩ false f_r01_Concat=some F_r01_Concat:=by kernel_rfl
theorem c_r08_two:compFn Tryz.prog cq ⟨[],[],[],[],[]⟩ false f_r08_two=some F_r08_two:=by kernel_rfl
theorem c_opinfo_known:compFn Tryz.prog cq ⟨[],[],[],[],[]⟩ false f_opinfo_known=some F_opinfo_known:=by kernel_rfl
theorem c_opinfo_inside:compFn Tryz.prog cq ⟨[],[],[],[],[]⟩ false f_opinfo_inside=some F_opinfo_inside:=by kernel_rfl
theorem c_opinfo_leaf:compFn Tryz.prog cq ⟨[],[],[],[],[]⟩ false f_opinfo_leaf=some F_opinfo_leaf:=by kernel_rfl
theorem c_opinfo_resized:compFn Tryz.prog cq ⟨[],[],[],[],[]⟩ false f_opinfo_resized=some F_opinfo_resized:=by kernel_rfl
theorem c_opinfo_agreed:compFn Tryz.prog cq ⟨[],[],[],[],[]⟩ false f_opinfo_agreed=some F_opinfo_agreed:=by kernel_rfl
theorem c_r04_Arity:compFn Tryz.prog cq ⟨[],[],[12],[],[]⟩ false f_r04_Arity=some F_r04_Arity:=by kernel_rfl
theorem c_r04_Pattern:compFn Tryz.prog cq ⟨[],[],[4],[],[]⟩ false f_r04_Pattern=some F_r04_Pattern:=by kernel_rfl
theorem c_r06_Name:compFn Tryz.prog cq ⟨[],[],[],[],[]⟩ false f_r06_Name=some F_r06_Name:=by kernel_rfl
theorem c_r04_Width:compFn Tryz.prog cq ⟨[],[],[],[],[]⟩ false f_r04_Width=some F_r04_Width:=by kernel_rfl
theorem c_r06_Widths:compFn Tryz.prog cq ⟨[],[3],[],[],[]⟩ false f_r06_Widths=some F_r06_Widths:=by kernel_rfl
theorem c_bits_Cut:compFn Tryz.prog cq ⟨[],[],[],[],[]⟩ false f_bits_Cut=some F_bits_Cut:=by kernel_rfl
theorem c_eval_compute:compFn Tryz.prog cq ⟨[],[],[],[],[]⟩ false f_eval_compute=some F_eval_compute:=by kernel_rfl
theorem c_r01_Not:compFn Tryz.prog cq ⟨[],[],[],[],[]⟩ false f_r01_Not=some F_r01_Not:=by kernel_rfl
theorem c_r01_Neg:compFn Tryz.prog cq ⟨[],[],[],[],[]⟩ false f_r01_Neg=some F_r01_Neg:=by kernel_rfl
theorem c_r01_Extract:compFn Tryz.prog cq ⟨[],[],[],[],[]⟩ false f_r01_Extract=some F_r01_Extract:=by kernel_rfl
theorem c_r01_Sext:compFn Tryz.prog cq ⟨[],[],[],[],[]⟩ false f_r01_Sext=some F_r01_Sext:=by kernel_rfl
theorem c_r01_And:compFn Tryz.prog cq ⟨[],[],[],[],[]⟩ false f_r01_And=some F_r01_And:=by kernel_rfl
theorem c_r01_Or:compFn Tryz.prog cq ⟨[],[],[],[],[]⟩ false f_r01_Or=some F_r01_Or:=by kernel_rfl
theorem c_r01_Xor:compFn Tryz.prog cq ⟨[],[],[],[],[]⟩ false f_r01_Xor=some F_r01_Xor:=by kernel_rfl
theorem c_r01_Add:compFn Tryz.prog cq ⟨[],[],[],[],[]⟩ false f_r01_Add=some F_r01_Add:=by kernel_rfl
theorem c_r01_Sub:compFn Tryz.prog cq ⟨[],[],[],[],[]⟩ false f_r01_Sub=some F_r01_Sub:=by kernel_rfl
theorem c_r01_Mul:compFn Tryz.prog cq ⟨[],[],[],[],[]⟩ false f_r01_Mul=some F_r01_Mul:=by kernel_rfl
theorem c_r01_Udiv:compFn Tryz.prog cq ⟨[],[],[],[],[]⟩ false f_r01_Udiv=some F_r01_Udiv:=by kernel_rfl
theorem c_r01_Urem:compFn Tryz.prog cq ⟨[],[],[],[],[]⟩ false f_r01_Urem=some F_r01_Urem:=by kernel_rfl
theorem c_r01_Shl:compFn Tryz.prog cq ⟨[],[],[],[],[]⟩ false f_r01_Shl=some F_r01_Shl:=by kernel_rfl
theorem c_r01_Lshr:compFn Tryz.prog cq ⟨[],[],[],[],[]⟩ false f_r01_Lshr=some F_r01_Lshr:=by kernel_rfl
theorem c_r01_Ashr:compFn Tryz.prog cq ⟨[],[],[],[],[]⟩ false f_r01_Ashr=some F_r01_Ashr:=by kernel_rfl
theorem c_r01_Eq:compFn Tryz.prog cq ⟨[],[],[],[],[]⟩ false f_r01_Eq=some F_r01_Eq:=by kernel_rfl
theorem c_r01_Ult:compFn Tryz.prog cq ⟨[],[],[],[],[]⟩ false f_r01_Ult=some F_r01_Ult:=by kernel_rfl
theorem c_r01_Slt:compFn Tryz.prog cq ⟨[],[],[],[],[]⟩ false f_r01_Slt=some F_r01_Slt:=by kernel_rfl
theorem c_r04_Leaf:compFn Tryz.prog cq ⟨[],[],[4],[],[]⟩ false f_r04_Leaf=some F_r04_Leaf:=by kernel_rfl
theorem c_r04_Is:compFn Tryz.prog cq ⟨[],[],[],[],[]⟩ false f_r04_Is=some F_r04_Is:=by kernel_rfl
theorem c_r04_width:compFn Tryz.prog cq ⟨[],[],[],[],[]⟩ false f_r04_width=some F_r04_width:=by kernel_rfl
theorem c_r04_leaf:compFn Tryz.prog cq ⟨[],[],[],[],[]⟩ false f_r04_leaf=some F_r04_leaf:=by kernel_rfl
theorem c_r04_parts:compFn Tryz.prog cq ⟨[],[],[],[],[]⟩ false f_r04_parts=some F_r04_parts:=by kernel_rfl
theorem c_bits_Mask:compFn Tryz.prog cq ⟨[],[],[],[],[]⟩ false f_bits_Mask=some F_bits_Mask:=by kernel_rfl
theorem c_bits_Not:compFn Tryz.prog cq ⟨[],[],[],[],[]⟩ false f_bits_Not=some F_bits_Not:=by kernel_rfl
theorem c_bits_Neg:compFn Tryz.prog cq ⟨[],[],[],[],[]⟩ false f_bits_Neg=some F_bits_Neg:=by kernel_rfl
theorem c_bits_Concat:compFn Tryz.prog cq ⟨[],[],[],[],[]⟩ false f_bits_Concat=some F_bits_Concat:=by kernel_rfl
theorem c_bits_Extract:compFn Tryz.prog cq ⟨[],[],[],[],[]⟩ false f_bits_Extract=some F_bits_Extract:=by kernel_rfl
theorem c_bits_Sext:compFn Tryz.prog cq ⟨[],[],[],[],[]⟩ false f_bits_Sext=some F_bits_Sext:=by kernel_rfl
theorem c_eval_binary:compFn Tryz.prog cq ⟨[],[],[],[],[]⟩ false f_eval_binary=some F_eval_binary:=by kernel_rfl
theorem c_r01_Mask:compFn Tryz.prog cq ⟨[],[],[],[],[]⟩ false f_r01_Mask=some F_r01_Mask:=by kernel_rfl
theorem c_r01_divide:compFn Tryz.prog cq ⟨[],[],[],[],[]⟩ false f_r01_divide=some F_r01_divide:=by kernel_rfl
theorem c_r01_shift:compFn Tryz.prog cq ⟨[],[],[],[],[]⟩ false f_r01_shift=some F_r01_shift:=by kernel_rfl
theorem c_r01_by:compFn Tryz.prog cq ⟨[],[],[],[],[]⟩ false f_r01_by=some F_r01_by:=by kernel_rfl
theorem c_r01_truth:compFn Tryz.prog cq ⟨[],[],[],[],[]⟩ false f_r01_truth=some F_r01_truth:=by kernel_rfl
theorem c_r01_Signed:compFn Tryz.prog cq ⟨[],[],[],[],[]⟩ false f_r01_Signed=some F_r01_Signed:=by kernel_rfl
theorem c_bits_clamp:compFn Tryz.prog cq ⟨[],[],[],[],[]⟩ false f_bits_clamp=some F_bits_clamp:=by kernel_rfl
theorem c_bits_Signed:compFn Tryz.prog cq ⟨[],[],[],[],[]⟩ false f_bits_Signed=some F_bits_Signed:=by kernel_rfl
theorem c_bits_And:compFn Tryz.prog cq ⟨[],[],[],[],[]⟩ false f_bits_And=some F_bits_And:=by kernel_rfl
theorem c_bits_Or:compFn Tryz.prog cq ⟨[],[],[],[],[]⟩ false f_bits_Or=some F_bits_Or:=by kernel_rfl
theorem c_bits_Xor:compFn Tryz.prog cq ⟨[],[],[],[],[]⟩ false f_bits_Xor=some F_bits_Xor:=by kernel_rfl
theorem c_bits_Add:compFn Tryz.prog cq ⟨[],[],[],[],[]⟩ false f_bits_Add=some F_bits_Add:=by kernel_rfl
theorem c_bits_Sub:compFn Tryz.prog cq ⟨[],[],[],[],[]⟩ false f_bits_Sub=some F_bits_Sub:=by kernel_rfl
theorem c_bits_Mul:compFn Tryz.prog cq ⟨[],[],[],[],[]⟩ false f_bits_Mul=some F_bits_Mul:=by kernel_rfl
theorem c_bits_Udiv:compFn Tryz.prog cq ⟨[],[],[],[],[]⟩ false f_bits_Udiv=some F_bits_Udiv:=by kernel_rfl
theorem c_bits_Urem:compFn Tryz.prog cq ⟨[],[],[],[],[]⟩ false f_bits_Urem=some F_bits_Urem:=by kernel_rfl
theorem c_bits_Shl:compFn Tryz.prog cq ⟨[],[],[],[],[]⟩ false f_bits_Shl=some F_bits_Shl:=by kernel_rfl
theorem c_bits_Lshr:compFn Tryz.prog cq ⟨[],[],[],[],[]⟩ false f_bits_Lshr=some F_bits_Lshr:=by kernel_rfl
theorem c_bits_Ashr:compFn Tryz.prog cq ⟨[],[],[],[],[]⟩ false f_bits_Ashr=some F_bits_Ashr:=by kernel_rfl
theorem c_eval_word:compFn Tryz.prog cq ⟨[4],[],[],[],[]⟩ false f_eval_word=some F_eval_word:=by kernel_rfl
theorem c_bits_Ult:compFn Tryz.prog cq ⟨[],[],[],[],[]⟩ false f_bits_Ult=some F_bits_Ult:=by kernel_rfl
theorem c_bits_Slt:compFn Tryz.prog cq ⟨[],[],[],[],[]⟩ false f_bits_Slt=some F_bits_Slt:=by kernel_rfl
theorem c_r01_Negative:compFn Tryz.prog cq ⟨[],[],[],[],[]⟩ false f_r01_Negative=some F_r01_Negative:=by kernel_rfl
theorem c_bits_shift:compFn Tryz.prog cq ⟨[],[],[],[],[]⟩ false f_bits_shift=some F_bits_shift:=by kernel_rfl
theorem c_bits_flag:compFn Tryz.prog cq ⟨[],[],[],[],[]⟩ false f_bits_flag=some F_bits_flag:=by kernel_rfl
theorem noGo:∀ g∈Tryz.prog.funcs,(g.name == "runtime.NumGoroutine")=false:=by
  have h:(Tryz.prog.funcs.all fun g=>(g.name == "runtime.NumGoroutine") == false)=true:=by kernel_rfl
  intro g hg
  have:=Array.all_eq_true_iff_forall_mem.1 h g hg
  simpa using this
theorem tbl_ok:∀ x∈tbl,FnOk Tryz.prog cq x.1 x.2:=by
  simp only [tbl,List.forall_mem_cons]
  exact ⟨(compFn_ok noGo c_law11_ExhaustWitness).1,
    (compFn_ok noGo c_r11_Few).1,
    (compFn_ok noGo c_law11_live).1,
    (compFn_ok noGo c_exhaust_Vars).1,
    (compFn_ok noGo c_r11_Vars).1,
    (compFn_ok noGo c_r11_Small).1,
    (compFn_ok noGo c_exhaust_Equal).1,
    (compFn_ok noGo c_exhaust_Valid).1,
    (compFn_ok noGo c_exhaust_Sat).1,
    (compFn_ok noGo c_exhaust_Count).1,
    (compFn_ok noGo c_r08_Eval).1,
    (compFn_ok noGo c_law11_two).1,
    (compFn_ok noGo c_r08_Bits).1,
    (compFn_ok noGo c_r06_Light).1,
    (compFn_ok noGo c_term_Check).1,
    (compFn_ok noGo c_term_Vars).1,
    (compFn_ok noGo c_exhaust_Vars_1).1,
    (compFn_ok noGo c_cmp_Or_int).1,
    (compFn_ok noGo c_cmp_Compare_string).1,
    (compFn_ok noGo c_cmp_Compare_int).1,
    (compFn_ok noGo c_r06_Check).1,
    (compFn_ok noGo c_r11_all).1,
    (compFn_ok noGo c_slices_ContainsFunc_api_Term_api_Term).1,
    (compFn_ok noGo c_exhaust_Valid_1).1,
    (compFn_ok noGo c_exhaust_tables).1,
    (compFn_ok noGo c_exhaust_assignments).1,
    (compFn_ok noGo c_exhaust_condition).1,
    (compFn_ok noGo c_r08_Value).1,
    (compFn_ok noGo c_r06_count).1,
    (compFn_ok noGo c_term_measure).1,
    (compFn_ok noGo c_term_All).1,
    (compFn_ok noGo c_term_node).1,
    (compFn_ok noGo c_term_preorder).1,
    (compFn_ok noGo c_term_Vars_1).1,
    (compFn_ok noGo c_term_Vars_1_1).1,
    (compFn_ok noGo c_slices_ContainsFunc_api_Var_api_Var).1,
    (compFn_ok noGo c_term_Vars_2).1,
    (compFn_ok noGo c_strings_Compare).1,
    (compFn_ok noGo c_cmp_isNaN_string).1,
    (compFn_ok noGo c_cmp_isNaN_int).1,
    (compFn_ok noGo c_r06_nodes).1,
    (compFn_ok noGo c_r06_Post).1,
    (compFn_ok noGo c_r06_Vars).1,
    (compFn_ok noGo c_slices_IndexFunc_api_Term_api_Term).1,
    (compFn_ok noGo c_eval_Table).1,
    (compFn_ok noGo c_exhaust_assignments_1).1,
    (compFn_ok noGo c_exhaust_assignments_1_1).1,
    (compFn_ok noGo c_r01_Cut).1,
    (compFn_ok noGo c_r08_Look).1,
    (compFn_ok noGo c_r08_value).1,
    (compFn_ok noGo c_term_All_1).1,
    (compFn_ok noGo c_term_postorder).1,
    (compFn_ok noGo c_term_All_1_1).1,
    (compFn_ok noGo c_term_Copy).1,
    (compFn_ok noGo c_opinfo_Arity).1,
    (compFn_ok noGo c_opinfo_Pattern).1,
    (compFn_ok noGo c_term_Name).1,
    (compFn_ok noGo c_opinfo_Width).1,
    (compFn_ok noGo c_term_widths).1,
    (compFn_ok noGo c_slices_IndexFunc_api_Var_api_Var).1,
    (compFn_ok noGo c_internal_bytealg_CompareString).1,
    (compFn_ok noGo c_r06_Node).1,
    (compFn_ok noGo c_r06_Pre).1,
    (compFn_ok noGo c_eval_value).1,
    (compFn_ok noGo c_eval_Table_1).1,
    (compFn_ok noGo c_r01_W).1,
    (compFn_ok noGo c_r01_Bit).1,
    (compFn_ok noGo c_r08_one).1,
    (compFn_ok noGo c_r01_Concat).1,
    (compFn_ok noGo c_r08_two).1,
    (compFn_ok noGo c_opinfo_known).1,
    (compFn_ok noGo c_opinfo_inside).1,
    (compFn_ok noGo c_opinfo_leaf).1,
    (compFn_ok noGo c_opinfo_resized).1,
    (compFn_ok noGo c_opinfo_agreed).1,
    (compFn_ok noGo c_r04_Arity).1,
    (compFn_ok noGo c_r04_Pattern).1,
    (compFn_ok noGo c_r06_Name).1,
    (compFn_ok noGo c_r04_Width).1,
    (compFn_ok noGo c_r06_Widths).1,
    (compFn_ok noGo c_bits_Cut).1,
    (compFn_ok noGo c_eval_compute).1,
    (compFn_ok noGo c_r01_Not).1,
    (compFn_ok noGo c_r01_Neg).1,
    (compFn_ok noGo c_r01_Extract).1,
    (compFn_ok noGo c_r01_Sext).1,
    (compFn_ok noGo c_r01_And).1,
    (compFn_ok noGo c_r01_Or).1,
    (compFn_ok noGo c_r01_Xor).1,
    (compFn_ok noGo c_r01_Add).1,
    (compFn_ok noGo c_r01_Sub).1,
    (compFn_ok noGo c_r01_Mul).1,
    (compFn_ok noGo c_r01_Udiv).1,
    (compFn_ok noGo c_r01_Urem).1,
    (compFn_ok noGo c_r01_Shl).1,
    (compFn_ok noGo c_r01_Lshr).1,
    (compFn_ok noGo c_r01_Ashr).1,
    (compFn_ok noGo c_r01_Eq).1,
    (compFn_ok noGo c_r01_Ult).1,
    (compFn_ok noGo c_r01_Slt).1,
    (compFn_ok noGo c_r04_Leaf).1,
    (compFn_ok noGo c_r04_Is).1,
    (compFn_ok noGo c_r04_width).1,
    (compFn_ok noGo c_r04_leaf).1,
    (compFn_ok noGo c_r04_parts).1,
    (compFn_ok noGo c_bits_Mask).1,
    (compFn_ok noGo c_bits_Not).1,
    (compFn_ok noGo c_bits_Neg).1,
    (compFn_ok noGo c_bits_Concat).1,
    (compFn_ok noGo c_bits_Extract).1,
    (compFn_ok noGo c_bits_Sext).1,
    (compFn_ok noGo c_eval_binary).1,
    (compFn_ok noGo c_r01_Mask).1,
    (compFn_ok noGo c_r01_divide).1,
    (compFn_ok noGo c_r01_shift).1,
    (compFn_ok noGo c_r01_by).1,
    (compFn_ok noGo c_r01_truth).1,
    (compFn_ok noGo c_r01_Signed).1,
    (compFn_ok noGo c_bits_clamp).1,
    (compFn_ok noGo c_bits_Signed).1,
    (compFn_ok noGo c_bits_And).1,
    (compFn_ok noGo c_bits_Or).1,
    (compFn_ok noGo c_bits_Xor).1,
    (compFn_ok noGo c_bits_Add).1,
    (compFn_ok noGo c_bits_Sub).1,
    (compFn_ok noGo c_bits_Mul).1,
    (compFn_ok noGo c_bits_Udiv).1,
    (compFn_ok noGo c_bits_Urem).1,
    (compFn_ok noGo c_bits_Shl).1,
    (compFn_ok noGo c_bits_Lshr).1,
    (compFn_ok noGo c_bits_Ashr).1,
    (compFn_ok noGo c_eval_word).1,
    (compFn_ok noGo c_bits_Ult).1,
    (compFn_ok noGo c_bits_Slt).1,
    (compFn_ok noGo c_r01_Negative).1,
    (compFn_ok noGo c_bits_shift).1,
    (compFn_ok noGo c_bits_flag).1,by simp⟩
theorem tbl_imp:(tbl.all fun x=>!x.2.imp || !cq x.1)=true:=by kernel_rfl
theorem lookup_mem {α:Type}:∀ {l:List (FuncId×α)} {f:FuncId} {a:α},l.lookup f=some a→(f,a)∈l
  | [],_,_,h=>by cases h
  | (g,b) :: l,f,a,h=>by
    simp only [List.lookup] at h
    split at h
    · rename_i he
      have:f=g:=by simpa using he
      cases h
      rw [this];simp
    · exact List.mem_cons_of_mem _ (lookup_mem h)
end Go.Proofs.YtiinicliedpmjaaGreat
