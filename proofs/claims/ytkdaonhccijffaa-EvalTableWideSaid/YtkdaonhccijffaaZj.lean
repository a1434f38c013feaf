/- The evaluator's program is the translated program's. -/
import Derived.Test.YtkdaonhccijffaaZi
import Derived.Test.YtkdaonhccijffaaA6
import Derived.Test.YtkdaonhccijffaaA4
import Derived.Test.YtkdaonhccijffaaRows
namespace Go.Proofs.Ytkdaonhccijffaa
open Go Go.AE Go.AE.S
def imps : List FuncId := [f_term_preorder, f_term_postorder, f_term_Vars_1, f_term_All_1, f_term_All_1_1, f_slices_SortFunc_api_Var_api_Var]
def cq (f : FuncId) : Bool := !imps.contains f
theorem c_law08_EvalTableWide : compFn Try.prog cq ⟨[], [6, 18], [28], [], []⟩ false f_law08_EvalTableWide = some F_law08_EvalTableWide := by kernel_rfl
theorem c_eval_Table : compFn Try.prog cq ⟨[9, 21], [22, 115], [], [], []⟩ false f_eval_Table = some F_eval_Table := by kernel_rfl
theorem c_law08_live : compFn Try.prog cq ⟨[], [], [10, 16, 19, 25, 29, 42], [], []⟩ false f_law08_live = some F_law08_live := by kernel_rfl
theorem c_eval_Eval : compFn Try.prog cq ⟨[], [], [], [], []⟩ false f_eval_Eval = some F_eval_Eval := by kernel_rfl
theorem c_r08_Assign : compFn Try.prog cq ⟨[], [5], [], [], []⟩ false f_r08_Assign = some F_r08_Assign := by kernel_rfl
theorem c_term_Check : compFn Try.prog cq ⟨[2, 6], [], [], [], []⟩ false f_term_Check = some F_term_Check := by kernel_rfl
theorem c_term_Vars : compFn Try.prog cq ⟨[3], [], [], [], []⟩ false f_term_Vars = some F_term_Vars := by kernel_rfl
theorem c_eval_value : compFn Try.prog cq ⟨[5], [6, 18], [], [], []⟩ false f_eval_value = some F_eval_value := by kernel_rfl
theorem c_eval_Table_1 : compFn Try.prog cq ⟨[], [], [], [], []⟩ false f_eval_Table_1 = some F_eval_Table_1 := by kernel_rfl
theorem c_law08_leaf : compFn Try.prog cq ⟨[2], [], [], [], []⟩ false f_law08_leaf = some F_law08_leaf := by kernel_rfl
theorem c_law08_number : compFn Try.prog cq ⟨[2], [], [], [], []⟩ false f_law08_number = some F_law08_number := by kernel_rfl
theorem c_eval_Fold : compFn Try.prog cq ⟨[2], [], [], [], []⟩ false f_eval_Fold = some F_eval_Fold := by kernel_rfl
theorem c_r06_Same : compFn Try.prog cq ⟨[], [], [], [], []⟩ false f_r06_Same = some F_r06_Same := by kernel_rfl
theorem c_eval_Eval_1 : compFn Try.prog cq ⟨[], [], [], [], []⟩ false f_eval_Eval_1 = some F_eval_Eval_1 := by kernel_rfl
theorem c_r01_Cut : compFn Try.prog cq ⟨[], [], [], [], []⟩ false f_r01_Cut = some F_r01_Cut := by kernel_rfl
theorem c_term_measure : compFn Try.prog cq ⟨[], [], [], [], []⟩ false f_term_measure = some F_term_measure := by kernel_rfl
theorem c_term_All : compFn Try.prog cq ⟨[], [], [], [], []⟩ false f_term_All = some F_term_All := by kernel_rfl
theorem c_term_node : compFn Try.prog cq ⟨[], [], [], [], []⟩ false f_term_node = some F_term_node := by kernel_rfl
theorem c_term_preorder : compFn Try.prog cq ⟨[], [], [], [], []⟩ true f_term_preorder = some F_term_preorder := by kernel_rfl
theorem c_term_Vars_1 : compFn Try.prog cq ⟨[], [15], [], [], []⟩ true f_term_Vars_1 = some F_term_Vars_1 := by kernel_rfl
theorem c_term_Vars_1_1 : compFn Try.prog cq ⟨[], [], [], [], []⟩ false f_term_Vars_1_1 = some F_term_Vars_1_1 := by kernel_rfl
theorem c_slices_ContainsFunc_api_Var_api_Var : compFn Try.prog cq ⟨[], [], [], [], []⟩ false f_slices_ContainsFunc_api_Var_api_Var = some F_slices_ContainsFunc_api_Var_api_Var := by kernel_rfl
theorem c_term_Vars_2 : compFn Try.prog cq ⟨[], [], [], [], []⟩ false f_term_Vars_2 = some F_term_Vars_2 := by kernel_rfl
theorem c_strings_Compare : compFn Try.prog cq ⟨[], [], [], [], []⟩ false f_strings_Compare = some F_strings_Compare := by kernel_rfl
theorem c_bits_Cut : compFn Try.prog cq ⟨[], [], [], [], []⟩ false f_bits_Cut = some F_bits_Cut := by kernel_rfl
theorem c_eval_compute : compFn Try.prog cq ⟨[], [], [], [], []⟩ false f_eval_compute = some F_eval_compute := by kernel_rfl
theorem c_term_Copy : compFn Try.prog cq ⟨[2, 3], [16], [], [], []⟩ false f_term_Copy = some F_term_Copy := by kernel_rfl
theorem c_eval_fold : compFn Try.prog cq ⟨[2, 3], [23], [], [], []⟩ false f_eval_fold = some F_eval_fold := by kernel_rfl
theorem c_r06_SameAll : compFn Try.prog cq ⟨[], [], [], [], []⟩ false f_r06_SameAll = some F_r06_SameAll := by kernel_rfl
theorem c_r01_W : compFn Try.prog cq ⟨[], [], [], [], []⟩ false f_r01_W = some F_r01_W := by kernel_rfl
theorem c_r01_Bit : compFn Try.prog cq ⟨[], [], [], [], []⟩ false f_r01_Bit = some F_r01_Bit := by kernel_rfl
theorem c_term_All_1 : compFn Try.prog cq ⟨[], [], [], [], []⟩ true f_term_All_1 = some F_term_All_1 := by kernel_rfl
theorem c_term_postorder : compFn Try.prog cq ⟨[], [], [], [], []⟩ true f_term_postorder = some F_term_postorder := by kernel_rfl
theorem c_term_All_1_1 : compFn Try.prog cq ⟨[], [], [], [], []⟩ true f_term_All_1_1 = some F_term_All_1_1 := by kernel_rfl
theorem c_opinfo_Arity : compFn Try.prog cq ⟨[], [], [], [], []⟩ false f_opinfo_Arity = some F_opinfo_Arity := by kernel_rfl
theorem c_opinfo_Pattern : compFn Try.prog cq ⟨[], [], [], [], []⟩ false f_opinfo_Pattern = some F_opinfo_Pattern := by kernel_rfl
theorem c_term_Name : compFn Try.prog cq ⟨[], [], [], [], []⟩ false f_term_Name = some F_term_Name := by kernel_rfl
theorem c_opinfo_Width : compFn Try.prog cq ⟨[], [], [], [], []⟩ false f_opinfo_Width = some F_opinfo_Width := by kernel_rfl
theorem c_term_widths : compFn Try.prog cq ⟨[5], [], [], [], []⟩ false f_term_widths = some F_term_widths := by kernel_rfl
theorem c_slices_IndexFunc_api_Var_api_Var : compFn Try.prog cq ⟨[], [], [], [], []⟩ false f_slices_IndexFunc_api_Var_api_Var = some F_slices_IndexFunc_api_Var_api_Var := by kernel_rfl
theorem c_internal_bytealg_CompareString : compFn Try.prog cq ⟨[], [], [], [], []⟩ false f_internal_bytealg_CompareString = some F_internal_bytealg_CompareString := by kernel_rfl
theorem c_bits_Mask : compFn Try.prog cq ⟨[], [], [], [], []⟩ false f_bits_Mask = some F_bits_Mask := by kernel_rfl
theorem c_bits_Not : compFn Try.prog cq ⟨[], [], [], [], []⟩ false f_bits_Not = some F_bits_Not := by kernel_rfl
theorem c_bits_Neg : compFn Try.prog cq ⟨[], [], [], [], []⟩ false f_bits_Neg = some F_bits_Neg := by kernel_rfl
theorem c_bits_Concat : compFn Try.prog cq ⟨[], [], [], [], []⟩ false f_bits_Concat = some F_bits_Concat := by kernel_rfl
theorem c_bits_Extract : compFn Try.prog cq ⟨[], [], [], [], []⟩ false f_bits_Extract = some F_bits_Extract := by kernel_rfl
theorem c_bits_Sext : compFn Try.prog cq ⟨[], [], [], [], []⟩ false f_bits_Sext = some F_bits_Sext := by kernel_rfl
theorem c_eval_binary : compFn Try.prog cq ⟨[], [], [], [], []⟩ false f_eval_binary = some F_eval_binary := by kernel_rfl
theorem c_eval_Closed : compFn Try.prog cq ⟨[], [], [], [], []⟩ false f_eval_Closed = some F_eval_Closed := by kernel_rfl
theorem c_term_Const : compFn Try.prog cq ⟨[4], [], [], [], []⟩ false f_term_Const = some F_term_Const := by kernel_rfl
theorem c_eval_fold_1 : compFn Try.prog cq ⟨[], [], [], [], []⟩ false f_eval_fold_1 = some F_eval_fold_1 := by kernel_rfl
theorem c_opinfo_known : compFn Try.prog cq ⟨[], [], [], [], []⟩ false f_opinfo_known = some F_opinfo_known := by kernel_rfl
theorem c_opinfo_inside : compFn Try.prog cq ⟨[], [], [], [], []⟩ false f_opinfo_inside = some F_opinfo_inside := by kernel_rfl
theorem c_opinfo_leaf : compFn Try.prog cq ⟨[], [], [], [], []⟩ false f_opinfo_leaf = some F_opinfo_leaf := by kernel_rfl
theorem c_opinfo_resized : compFn Try.prog cq ⟨[], [], [], [], []⟩ false f_opinfo_resized = some F_opinfo_resized := by kernel_rfl
theorem c_opinfo_agreed : compFn Try.prog cq ⟨[], [], [], [], []⟩ false f_opinfo_agreed = some F_opinfo_agreed := by kernel_rfl
theorem c_bits_clamp : compFn Try.prog cq ⟨[], [], [], [], []⟩ false f_bits_clamp = some F_bits_clamp := by kernel_rfl
theorem c_bits_Signed : compFn Try.prog cq ⟨[], [], [], [], []⟩ false f_bits_Signed = some F_bits_Signed := by kernel_rfl
theorem c_bits_And : compFn Try.prog cq ⟨[], [], [], [], []⟩ false f_bits_And = some F_bits_And := by kernel_rfl
theorem c_bits_Or : compFn Try.prog cq ⟨[], [], [], [], []⟩ false f_bits_Or = some F_bits_Or := by kernel_rfl
theorem c_bits_Xor : compFn Try.prog cq ⟨[], [], [], [], []⟩ false f_bits_Xor = some F_bits_Xor := by kernel_rfl
theorem c_bits_Add : compFn Try.prog cq ⟨[], [], [], [], []⟩ false f_bits_Add = some F_bits_Add := by kernel_rfl
theorem c_bits_Sub : compFn Try.prog cq ⟨[], [], [], [], []⟩ false f_bits_Sub = some F_bits_Sub := by kernel_rfl
theorem c_bits_Mul : compFn Try.prog cq ⟨[], [], [], [], []⟩ false f_bits_Mul = some F_bits_Mul := by kernel_rfl
theorem c_bits_Udiv : compFn Try.prog cq ⟨[], [], [], [], []⟩ false f_bits_Udiv = some F_bits_Udiv := by kernel_rfl
theorem c_bits_Urem : compFn Try.prog cq ⟨[], [], [], [], []⟩ false f_bits_Urem = some F_bits_Urem := by kernel_rfl
theorem c_bits_Shl : compFn Try.prog cq ⟨[], [], [], [], []⟩ false f_bits_Shl = some F_bits_Shl := by kernel_rfl
theorem c_bits_Lshr : compFn Try.prog cq ⟨[], [], [], [], []⟩ false f_bits_Lshr = some F_bits_Lshr := by kernel_rfl
theorem c_bits_Ashr : compFn Try.prog cq ⟨[], [], [], [], []⟩ false f_bits_Ashr = some F_bits_Ashr := by kernel_rfl
theorem c_eval_word : compFn Try.prog cq ⟨[4], [], [], [], []⟩ false f_eval_word = some F_eval_word := by kernel_rfl
theorem c_bits_Ult : compFn Try.prog cq ⟨[], [], [], [], []⟩ false f_bits_Ult = some F_bits_Ult := by kernel_rfl
theorem c_bits_Slt : compFn Try.prog cq ⟨[], [], [], [], []⟩ false f_bits_Slt = some F_bits_Slt := by kernel_rfl
theorem c_slices_ContainsFunc_api_Term_api_Term : compFn Try.prog cq ⟨[], [], [], [], []⟩ false f_slices_ContainsFunc_api_Term_api_Term = some F_slices_ContainsFunc_api_Term_api_Term := by kernel_rfl
theorem c_eval_Closed_1 : compFn Try.prog cq ⟨[], [], [], [], []⟩ false f_eval_Closed_1 = some F_eval_Closed_1 := by kernel_rfl
theorem c_term_clamp : compFn Try.prog cq ⟨[], [], [], [], []⟩ false f_term_clamp = some F_term_clamp := by kernel_rfl
theorem c_bits_shift : compFn Try.prog cq ⟨[], [], [], [], []⟩ false f_bits_shift = some F_bits_shift := by kernel_rfl
theorem c_bits_flag : compFn Try.prog cq ⟨[], [], [], [], []⟩ false f_bits_flag = some F_bits_flag := by kernel_rfl
theorem c_slices_IndexFunc_api_Term_api_Term : compFn Try.prog cq ⟨[], [], [], [], []⟩ false f_slices_IndexFunc_api_Term_api_Term = some F_slices_IndexFunc_api_Term_api_Term := by kernel_rfl

theorem noGo : ∀ g ∈ Try.prog.funcs, (g.name == "runtime.NumGoroutine") = false := by
  have h : (Try.prog.funcs.all fun g => (g.name == "runtime.NumGoroutine") == false) = true := by kernel_rfl
  intro g hg
  have := Array.all_eq_true_iff_forall_mem.1 h g hg
  simpa using this
theorem tbl_ok : ∀ x ∈ tbl, FnOk Try.prog cq x.1 x.2 := by
  simp only [tbl, List.forall_mem_cons]
  exact ⟨(compFn_ok noGo c_law08_EvalTableWide).1,
    (compFn_ok noGo c_eval_Table).1,
    (compFn_ok noGo c_law08_live).1,
    (compFn_ok noGo c_eval_Eval).1,
    (compFn_ok noGo c_r08_Assign).1,
    (compFn_ok noGo c_term_Check).1,
    (compFn_ok noGo c_term_Vars).1,
    (compFn_ok noGo c_eval_value).1,
    (compFn_ok noGo c_eval_Table_1).1,
    (compFn_ok noGo c_law08_leaf).1,
    (compFn_ok noGo c_law08_number).1,
    (compFn_ok noGo c_eval_Fold).1,
    (compFn_ok noGo c_r06_Same).1,
    (compFn_ok noGo c_eval_Eval_1).1,
    (compFn_ok noGo c_r01_Cut).1,
    (compFn_ok noGo c_term_measure).1,
    (compFn_ok noGo c_term_All).1,
    (compFn_ok noGo c_term_node).1,
    (compFn_ok noGo c_term_preorder).1,
    (compFn_ok noGo c_term_Vars_1).1,
    (compFn_ok noGo c_term_Vars_1_1).1,
    (compFn_ok noGo c_slices_ContainsFunc_api_Var_api_Var).1,
    (compFn_ok noGo c_term_Vars_2).1,
    (compFn_ok noGo c_strings_Compare).1,
    (compFn_ok noGo c_bits_Cut).1,
    (compFn_ok noGo c_eval_compute).1,
    (compFn_ok noGo c_term_Copy).1,
    (compFn_ok noGo c_eval_fold).1,
    (compFn_ok noGo c_r06_SameAll).1,
    (compFn_ok noGo c_r01_W).1,
    (compFn_ok noGo c_r01_Bit).1,
    (compFn_ok noGo c_term_All_1).1,
    (compFn_ok noGo c_term_postorder).1,
    (compFn_ok noGo c_term_All_1_1).1,
    (compFn_ok noGo c_opinfo_Arity).1,
    (compFn_ok noGo c_opinfo_Pattern).1,
    (compFn_ok noGo c_term_Name).1,
    (compFn_ok noGo c_opinfo_Width).1,
    (compFn_ok noGo c_term_widths).1,
    (compFn_ok noGo c_slices_IndexFunc_api_Var_api_Var).1,
    (compFn_ok noGo c_internal_bytealg_CompareString).1,
    (compFn_ok noGo c_bits_Mask).1,
    (compFn_ok noGo c_bits_Not).1,
    (compFn_ok noGo c_bits_Neg).1,
    (compFn_ok noGo c_bits_Concat).1,
    (compFn_ok noGo c_bits_Extract).1,
    (compFn_ok noGo c_bits_Sext).1,
    (compFn_ok noGo c_eval_binary).1,
    (compFn_ok noGo c_eval_Closed).1,
    (compFn_ok noGo c_term_Const).1,
    (compFn_ok noGo c_eval_fold_1).1,
    (compFn_ok noGo c_opinfo_known).1,
    (compFn_ok noGo c_opinfo_inside).1,
    (compFn_ok noGo c_opinfo_leaf).1,
    (compFn_ok noGo c_opinfo_resized).1,
    (compFn_ok noGo c_opinfo_agreed).1,
    (compFn_ok noGo c_bits_clamp).1,
    (compFn_ok noGo c_bits_Signed).1,
    (compFn_ok noGo c_bits_And).1,
    (compFn_ok noGo c_bits_Or).1,
    (compFn_ok noGo c_bits_Xor).1,
    (compFn_ok noGo c_bits_Add).1,
    (compFn_ok noGo c_bits_Sub).1,
    (compFn_ok noGo c_bits_Mul).1,
    (compFn_ok noGo c_bits_Udiv).1,
    (compFn_ok noGo c_bits_Urem).1,
    (compFn_ok noGo c_bits_Shl).1,
    (compFn_ok noGo c_bits_Lshr).1,
    (compFn_ok noGo c_bits_Ashr).1,
    (compFn_ok noGo c_eval_word).1,
    (compFn_ok noGo c_bits_Ult).1,
    (compFn_ok noGo c_bits_Slt).1,
    (compFn_ok noGo c_slices_ContainsFunc_api_Term_api_Term).1,
    (compFn_ok noGo c_eval_Closed_1).1,
    (compFn_ok noGo c_term_clamp).1,
    (compFn_ok noGo c_bits_shift).1,
    (compFn_ok noGo c_bits_flag).1,
    (compFn_ok noGo c_slices_IndexFunc_api_Term_api_Term).1, by simp⟩
theorem tbl_imp : (tbl.all fun x => !x.2.imp || !cq x.1) = true := by kernel_rfl
theorem lookup_mem {α : Type} : ∀ {l : List (FuncId × α)} {f : FuncId} {a : α}, l.lookup f = some a → (f, a) ∈ l
  | [], _, _, h => by cases h
  | (g, b) :: l, f, a, h => by
    simp only [List.lookup] at h
    split at h
    · rename_i he
      have : f = g := by simpa using he
      cases h
      rw [this]; simp
    · exact List.mem_cons_of_mem _ (lookup_mem h)

end Go.Proofs.Ytkdaonhccijffaa
