/- The evaluator's program is the translated program's. -/
import Derived.Test.YthljaicehpdkbaaZi
import Derived.Test.YthljaicehpdkbaaA6
import Derived.Test.YthljaicehpdkbaaA4
import Derived.Test.YthljaicehpdkbaaRows
namespace Go.Proofs.Ythljaicehpdkbaa
open Go Go.AE Go.AE.S
def imps : List FuncId := [f_term_preorder, f_term_postorder, f_term_Vars_1, f_term_All_1, f_term_All_1_1, f_slices_SortFunc_api_Var_api_Var]
def cq (f : FuncId) : Bool := !imps.contains f
theorem c_law06_TermChecks : compFn Try.prog cq ⟨[], [], [6], [], []⟩ false f_law06_TermChecks = some F_law06_TermChecks := by kernel_rfl
theorem c_law06_TermLong : compFn Try.prog cq ⟨[5, 8], [], [23, 56, 87], [], []⟩ false f_law06_TermLong = some F_law06_TermLong := by kernel_rfl
theorem c_law06_TermMakes : compFn Try.prog cq ⟨[], [], [], [], []⟩ false f_law06_TermMakes = some F_law06_TermMakes := by kernel_rfl
theorem c_law06_TermCompares : compFn Try.prog cq ⟨[], [], [10], [], []⟩ false f_law06_TermCompares = some F_law06_TermCompares := by kernel_rfl
theorem c_law06_TermSubterms : compFn Try.prog cq ⟨[2, 6, 9], [25], [], [], []⟩ false f_law06_TermSubterms = some F_law06_TermSubterms := by kernel_rfl
theorem c_law06_TermPaths : compFn Try.prog cq ⟨[], [], [21], [], []⟩ false f_law06_TermPaths = some F_law06_TermPaths := by kernel_rfl
theorem c_law06_TermLess : compFn Try.prog cq ⟨[], [], [13], [], []⟩ false f_law06_TermLess = some F_law06_TermLess := by kernel_rfl
theorem c_law06_TermCopies : compFn Try.prog cq ⟨[4, 5], [], [9], [], []⟩ false f_law06_TermCopies = some F_law06_TermCopies := by kernel_rfl
theorem c_law06_light : compFn Try.prog cq ⟨[], [], [], [], []⟩ false f_law06_light = some F_law06_light := by kernel_rfl
theorem c_law06_lives : compFn Try.prog cq ⟨[], [], [13, 17, 21, 27, 33], [], []⟩ false f_law06_lives = some F_law06_lives := by kernel_rfl
theorem c_term_Check : compFn Try.prog cq ⟨[2, 6], [], [], [], []⟩ false f_term_Check = some F_term_Check := by kernel_rfl
theorem c_r06_Check : compFn Try.prog cq ⟨[], [], [], [], []⟩ false f_r06_Check = some F_r06_Check := by kernel_rfl
theorem c_term_Name : compFn Try.prog cq ⟨[], [], [], [], []⟩ false f_term_Name = some F_term_Name := by kernel_rfl
theorem c_r06_Name : compFn Try.prog cq ⟨[], [], [], [], []⟩ false f_r06_Name = some F_r06_Name := by kernel_rfl
theorem c_term_Size : compFn Try.prog cq ⟨[], [], [], [], []⟩ false f_term_Size = some F_term_Size := by kernel_rfl
theorem c_r06_Size : compFn Try.prog cq ⟨[], [], [], [], []⟩ false f_r06_Size = some F_r06_Size := by kernel_rfl
theorem c_term_Depth : compFn Try.prog cq ⟨[], [], [], [], []⟩ false f_term_Depth = some F_term_Depth := by kernel_rfl
theorem c_r06_Depth : compFn Try.prog cq ⟨[], [], [], [], []⟩ false f_r06_Depth = some F_r06_Depth := by kernel_rfl
theorem c_r06_SameVars : compFn Try.prog cq ⟨[], [], [], [], []⟩ false f_r06_SameVars = some F_r06_SameVars := by kernel_rfl
theorem c_term_Vars : compFn Try.prog cq ⟨[3], [], [], [], []⟩ false f_term_Vars = some F_term_Vars := by kernel_rfl
theorem c_r06_Vars : compFn Try.prog cq ⟨[], [7, 7, 7], [], [], [59, 78]⟩ false f_r06_Vars = some F_r06_Vars := by kernel_rfl
theorem c_term_Var : compFn Try.prog cq ⟨[4], [], [], [], []⟩ false f_term_Var = some F_term_Var := by kernel_rfl
theorem c_term_Make : compFn Try.prog cq ⟨[4, 9], [], [], [], []⟩ false f_term_Make = some F_term_Make := by kernel_rfl
theorem c_r06_Same : compFn Try.prog cq ⟨[], [], [], [], []⟩ false f_r06_Same = some F_r06_Same := by kernel_rfl
theorem c_r06_Var : compFn Try.prog cq ⟨[4], [], [], [], []⟩ false f_r06_Var = some F_r06_Var := by kernel_rfl
theorem c_term_Const : compFn Try.prog cq ⟨[4], [], [], [], []⟩ false f_term_Const = some F_term_Const := by kernel_rfl
theorem c_r06_Const : compFn Try.prog cq ⟨[4], [], [], [], []⟩ false f_r06_Const = some F_r06_Const := by kernel_rfl
theorem c_r06_Make : compFn Try.prog cq ⟨[4], [], [], [], []⟩ false f_r06_Make = some F_r06_Make := by kernel_rfl
theorem c_term_Compare : compFn Try.prog cq ⟨[], [], [35], [], []⟩ false f_term_Compare = some F_term_Compare := by kernel_rfl
theorem c_r06_Compare : compFn Try.prog cq ⟨[], [], [], [], []⟩ false f_r06_Compare = some F_r06_Compare := by kernel_rfl
theorem c_term_Same : compFn Try.prog cq ⟨[], [], [], [], []⟩ false f_term_Same = some F_term_Same := by kernel_rfl
theorem c_r06_Light : compFn Try.prog cq ⟨[6], [], [], [], []⟩ false f_r06_Light = some F_r06_Light := by kernel_rfl
theorem c_term_All : compFn Try.prog cq ⟨[], [], [], [], []⟩ false f_term_All = some F_term_All := by kernel_rfl
theorem c_term_Subterms : compFn Try.prog cq ⟨[3], [12], [], [], []⟩ false f_term_Subterms = some F_term_Subterms := by kernel_rfl
theorem c_r06_SameAll : compFn Try.prog cq ⟨[], [], [], [], []⟩ false f_r06_SameAll = some F_r06_SameAll := by kernel_rfl
theorem c_r06_Post : compFn Try.prog cq ⟨[], [3, 3], [], [], []⟩ false f_r06_Post = some F_r06_Post := by kernel_rfl
theorem c_r06_Subterms : compFn Try.prog cq ⟨[], [3], [], [], []⟩ false f_r06_Subterms = some F_r06_Subterms := by kernel_rfl
theorem c_term_At : compFn Try.prog cq ⟨[2, 4], [], [], [], []⟩ false f_term_At = some F_term_At := by kernel_rfl
theorem c_r06_At : compFn Try.prog cq ⟨[2, 4], [], [], [], []⟩ false f_r06_At = some F_r06_At := by kernel_rfl
theorem c_term_Put : compFn Try.prog cq ⟨[6], [], [], [26], []⟩ false f_term_Put = some F_term_Put := by kernel_rfl
theorem c_r06_Put : compFn Try.prog cq ⟨[6], [10], [], [], []⟩ false f_r06_Put = some F_r06_Put := by kernel_rfl
theorem c_law06_twin : compFn Try.prog cq ⟨[2, 3], [15], [], [], []⟩ false f_law06_twin = some F_law06_twin := by kernel_rfl
theorem c_term_Copy : compFn Try.prog cq ⟨[2, 3], [16], [], [], []⟩ false f_term_Copy = some F_term_Copy := by kernel_rfl
theorem c_term_measure : compFn Try.prog cq ⟨[], [], [], [], []⟩ false f_term_measure = some F_term_measure := by kernel_rfl
theorem c_term_node : compFn Try.prog cq ⟨[], [], [], [], []⟩ false f_term_node = some F_term_node := by kernel_rfl
theorem c_r06_count : compFn Try.prog cq ⟨[], [], [], [], []⟩ false f_r06_count = some F_r06_count := by kernel_rfl
theorem c_r06_nodes : compFn Try.prog cq ⟨[], [], [], [], []⟩ false f_r06_nodes = some F_r06_nodes := by kernel_rfl
theorem c_term_preorder : compFn Try.prog cq ⟨[], [], [], [], []⟩ true f_term_preorder = some F_term_preorder := by kernel_rfl
theorem c_term_Vars_1 : compFn Try.prog cq ⟨[], [15], [], [], []⟩ true f_term_Vars_1 = some F_term_Vars_1 := by kernel_rfl
theorem c_term_Vars_1_1 : compFn Try.prog cq ⟨[], [], [], [], []⟩ false f_term_Vars_1_1 = some F_term_Vars_1_1 := by kernel_rfl
theorem c_slices_ContainsFunc_api_Var_api_Var : compFn Try.prog cq ⟨[], [], [], [], []⟩ false f_slices_ContainsFunc_api_Var_api_Var = some F_slices_ContainsFunc_api_Var_api_Var := by kernel_rfl
theorem c_term_Vars_2 : compFn Try.prog cq ⟨[], [], [], [], []⟩ false f_term_Vars_2 = some F_term_Vars_2 := by kernel_rfl
theorem c_strings_Compare : compFn Try.prog cq ⟨[], [], [], [], []⟩ false f_strings_Compare = some F_strings_Compare := by kernel_rfl
theorem c_r06_Pre : compFn Try.prog cq ⟨[], [3, 6], [], [], []⟩ false f_r06_Pre = some F_r06_Pre := by kernel_rfl
theorem c_term_clamp : compFn Try.prog cq ⟨[], [], [], [], []⟩ false f_term_clamp = some F_term_clamp := by kernel_rfl
theorem c_opinfo_Width : compFn Try.prog cq ⟨[], [], [], [], []⟩ false f_opinfo_Width = some F_opinfo_Width := by kernel_rfl
theorem c_term_widths : compFn Try.prog cq ⟨[5], [], [], [], []⟩ false f_term_widths = some F_term_widths := by kernel_rfl
theorem c_r06_clamp : compFn Try.prog cq ⟨[], [], [], [], []⟩ false f_r06_clamp = some F_r06_clamp := by kernel_rfl
theorem c_r06_Cut : compFn Try.prog cq ⟨[], [], [], [], []⟩ false f_r06_Cut = some F_r06_Cut := by kernel_rfl
theorem c_r04_Width : compFn Try.prog cq ⟨[], [], [], [], []⟩ false f_r04_Width = some F_r04_Width := by kernel_rfl
theorem c_r06_Widths : compFn Try.prog cq ⟨[], [3], [], [], []⟩ false f_r06_Widths = some F_r06_Widths := by kernel_rfl
theorem c_cmp_Compare_int : compFn Try.prog cq ⟨[], [], [], [], []⟩ false f_cmp_Compare_int = some F_cmp_Compare_int := by kernel_rfl
theorem c_cmp_Or_int : compFn Try.prog cq ⟨[], [], [], [], []⟩ false f_cmp_Or_int = some F_cmp_Or_int := by kernel_rfl
theorem c_cmp_Compare_api_Op : compFn Try.prog cq ⟨[], [], [], [], []⟩ false f_cmp_Compare_api_Op = some F_cmp_Compare_api_Op := by kernel_rfl
theorem c_cmp_Compare_uint64 : compFn Try.prog cq ⟨[], [], [], [], []⟩ false f_cmp_Compare_uint64 = some F_cmp_Compare_uint64 := by kernel_rfl
theorem c_slices_CompareFunc_api_Term_api_Term_api_Term_api_Term : compFn Try.prog cq ⟨[8], [], [], [], []⟩ false f_slices_CompareFunc_api_Term_api_Term_api_Term_api_Term = some F_slices_CompareFunc_api_Term_api_Term_api_Term_api_Term := by kernel_rfl
theorem c_r06_order : compFn Try.prog cq ⟨[], [], [], [], []⟩ false f_r06_order = some F_r06_order := by kernel_rfl
theorem c_slices_EqualFunc_api_Term_api_Term_api_Term_api_Term : compFn Try.prog cq ⟨[8], [], [], [], []⟩ false f_slices_EqualFunc_api_Term_api_Term_api_Term_api_Term = some F_slices_EqualFunc_api_Term_api_Term_api_Term_api_Term := by kernel_rfl
theorem c_term_All_1 : compFn Try.prog cq ⟨[], [], [], [], []⟩ true f_term_All_1 = some F_term_All_1 := by kernel_rfl
theorem c_term_postorder : compFn Try.prog cq ⟨[], [], [], [], []⟩ true f_term_postorder = some F_term_postorder := by kernel_rfl
theorem c_term_All_1_1 : compFn Try.prog cq ⟨[], [], [], [], []⟩ true f_term_All_1_1 = some F_term_All_1_1 := by kernel_rfl
theorem c_slices_ContainsFunc_api_Term_api_Term : compFn Try.prog cq ⟨[], [], [], [], []⟩ false f_slices_ContainsFunc_api_Term_api_Term = some F_slices_ContainsFunc_api_Term_api_Term := by kernel_rfl
theorem c_term_Subterms_1 : compFn Try.prog cq ⟨[], [], [], [], []⟩ false f_term_Subterms_1 = some F_term_Subterms_1 := by kernel_rfl
theorem c_r06_Has : compFn Try.prog cq ⟨[], [], [], [], []⟩ false f_r06_Has = some F_r06_Has := by kernel_rfl
theorem c_opinfo_Arity : compFn Try.prog cq ⟨[], [], [], [], []⟩ false f_opinfo_Arity = some F_opinfo_Arity := by kernel_rfl
theorem c_opinfo_Pattern : compFn Try.prog cq ⟨[], [], [], [], []⟩ false f_opinfo_Pattern = some F_opinfo_Pattern := by kernel_rfl
theorem c_r06_Node : compFn Try.prog cq ⟨[], [], [], [], []⟩ false f_r06_Node = some F_r06_Node := by kernel_rfl
theorem c_slices_IndexFunc_api_Var_api_Var : compFn Try.prog cq ⟨[], [], [], [], []⟩ false f_slices_IndexFunc_api_Var_api_Var = some F_slices_IndexFunc_api_Var_api_Var := by kernel_rfl
theorem c_internal_bytealg_CompareString : compFn Try.prog cq ⟨[], [], [], [], []⟩ false f_internal_bytealg_CompareString = some F_internal_bytealg_CompareString := by kernel_rfl
theorem c_opinfo_known : compFn Try.prog cq ⟨[], [], [], [], []⟩ false f_opinfo_known = some F_opinfo_known := by kernel_rfl
theorem c_opinfo_inside : compFn Try.prog cq ⟨[], [], [], [], []⟩ false f_opinfo_inside = some F_opinfo_inside := by kernel_rfl
theorem c_opinfo_leaf : compFn Try.prog cq ⟨[], [], [], [], []⟩ false f_opinfo_leaf = some F_opinfo_leaf := by kernel_rfl
theorem c_opinfo_resized : compFn Try.prog cq ⟨[], [], [], [], []⟩ false f_opinfo_resized = some F_opinfo_resized := by kernel_rfl
theorem c_opinfo_agreed : compFn Try.prog cq ⟨[], [], [], [], []⟩ false f_opinfo_agreed = some F_opinfo_agreed := by kernel_rfl
theorem c_r04_Arity : compFn Try.prog cq ⟨[], [], [12], [], []⟩ false f_r04_Arity = some F_r04_Arity := by kernel_rfl
theorem c_r04_width : compFn Try.prog cq ⟨[], [], [], [], []⟩ false f_r04_width = some F_r04_width := by kernel_rfl
theorem c_r04_Leaf : compFn Try.prog cq ⟨[], [], [4], [], []⟩ false f_r04_Leaf = some F_r04_Leaf := by kernel_rfl
theorem c_r04_leaf : compFn Try.prog cq ⟨[], [], [], [], []⟩ false f_r04_leaf = some F_r04_leaf := by kernel_rfl
theorem c_r04_parts : compFn Try.prog cq ⟨[], [], [], [], []⟩ false f_r04_parts = some F_r04_parts := by kernel_rfl
theorem c_cmp_isNaN_int : compFn Try.prog cq ⟨[], [], [], [], []⟩ false f_cmp_isNaN_int = some F_cmp_isNaN_int := by kernel_rfl
theorem c_cmp_isNaN_api_Op : compFn Try.prog cq ⟨[], [], [], [], []⟩ false f_cmp_isNaN_api_Op = some F_cmp_isNaN_api_Op := by kernel_rfl
theorem c_cmp_isNaN_uint64 : compFn Try.prog cq ⟨[], [], [], [], []⟩ false f_cmp_isNaN_uint64 = some F_cmp_isNaN_uint64 := by kernel_rfl
theorem c_slices_IndexFunc_api_Term_api_Term : compFn Try.prog cq ⟨[], [], [], [], []⟩ false f_slices_IndexFunc_api_Term_api_Term = some F_slices_IndexFunc_api_Term_api_Term := by kernel_rfl
theorem c_r04_Pattern : compFn Try.prog cq ⟨[], [], [4], [], []⟩ false f_r04_Pattern = some F_r04_Pattern := by kernel_rfl
theorem c_r04_Is : compFn Try.prog cq ⟨[], [], [], [], []⟩ false f_r04_Is = some F_r04_Is := by kernel_rfl

theorem noGo : ∀ g ∈ Try.prog.funcs, (g.name == "runtime.NumGoroutine") = false := by
  have h : (Try.prog.funcs.all fun g => (g.name == "runtime.NumGoroutine") == false) = true := by kernel_rfl
  intro g hg
  have := Array.all_eq_true_iff_forall_mem.1 h g hg
  simpa using this
theorem tbl_ok : ∀ x ∈ tbl, FnOk Try.prog cq x.1 x.2 := by
  simp only [tbl, List.forall_mem_cons]
  exact ⟨(compFn_ok noGo c_law06_TermChecks).1,
    (compFn_ok noGo c_law06_TermLong).1,
    (compFn_ok noGo c_law06_TermMakes).1,
    (compFn_ok noGo c_law06_TermCompares).1,
    (compFn_ok noGo c_law06_TermSubterms).1,
    (compFn_ok noGo c_law06_TermPaths).1,
    (compFn_ok noGo c_law06_TermLess).1,
    (compFn_ok noGo c_law06_TermCopies).1,
    (compFn_ok noGo c_law06_light).1,
    (compFn_ok noGo c_law06_lives).1,
    (compFn_ok noGo c_term_Check).1,
    (compFn_ok noGo c_r06_Check).1,
    (compFn_ok noGo c_term_Name).1,
    (compFn_ok noGo c_r06_Name).1,
    (compFn_ok noGo c_term_Size).1,
    (compFn_ok noGo c_r06_Size).1,
    (compFn_ok noGo c_term_Depth).1,
    (compFn_ok noGo c_r06_Depth).1,
    (compFn_ok noGo c_r06_SameVars).1,
    (compFn_ok noGo c_term_Vars).1,
    (compFn_ok noGo c_r06_Vars).1,
    (compFn_ok noGo c_term_Var).1,
    (compFn_ok noGo c_term_Make).1,
    (compFn_ok noGo c_r06_Same).1,
    (compFn_ok noGo c_r06_Var).1,
    (compFn_ok noGo c_term_Const).1,
    (compFn_ok noGo c_r06_Const).1,
    (compFn_ok noGo c_r06_Make).1,
    (compFn_ok noGo c_term_Compare).1,
    (compFn_ok noGo c_r06_Compare).1,
    (compFn_ok noGo c_term_Same).1,
    (compFn_ok noGo c_r06_Light).1,
    (compFn_ok noGo c_term_All).1,
    (compFn_ok noGo c_term_Subterms).1,
    (compFn_ok noGo c_r06_SameAll).1,
    (compFn_ok noGo c_r06_Post).1,
    (compFn_ok noGo c_r06_Subterms).1,
    (compFn_ok noGo c_term_At).1,
    (compFn_ok noGo c_r06_At).1,
    (compFn_ok noGo c_term_Put).1,
    (compFn_ok noGo c_r06_Put).1,
    (compFn_ok noGo c_law06_twin).1,
    (compFn_ok noGo c_term_Copy).1,
    (compFn_ok noGo c_term_measure).1,
    (compFn_ok noGo c_term_node).1,
    (compFn_ok noGo c_r06_count).1,
    (compFn_ok noGo c_r06_nodes).1,
    (compFn_ok noGo c_term_preorder).1,
    (compFn_ok noGo c_term_Vars_1).1,
    (compFn_ok noGo c_term_Vars_1_1).1,
    (compFn_ok noGo c_slices_ContainsFunc_api_Var_api_Var).1,
    (compFn_ok noGo c_term_Vars_2).1,
    (compFn_ok noGo c_strings_Compare).1,
    (compFn_ok noGo c_r06_Pre).1,
    (compFn_ok noGo c_term_clamp).1,
    (compFn_ok noGo c_opinfo_Width).1,
    (compFn_ok noGo c_term_widths).1,
    (compFn_ok noGo c_r06_clamp).1,
    (compFn_ok noGo c_r06_Cut).1,
    (compFn_ok noGo c_r04_Width).1,
    (compFn_ok noGo c_r06_Widths).1,
    (compFn_ok noGo c_cmp_Compare_int).1,
    (compFn_ok noGo c_cmp_Or_int).1,
    (compFn_ok noGo c_cmp_Compare_api_Op).1,
    (compFn_ok noGo c_cmp_Compare_uint64).1,
    (compFn_ok noGo c_slices_CompareFunc_api_Term_api_Term_api_Term_api_Term).1,
    (compFn_ok noGo c_r06_order).1,
    (compFn_ok noGo c_slices_EqualFunc_api_Term_api_Term_api_Term_api_Term).1,
    (compFn_ok noGo c_term_All_1).1,
    (compFn_ok noGo c_term_postorder).1,
    (compFn_ok noGo c_term_All_1_1).1,
    (compFn_ok noGo c_slices_ContainsFunc_api_Term_api_Term).1,
    (compFn_ok noGo c_term_Subterms_1).1,
    (compFn_ok noGo c_r06_Has).1,
    (compFn_ok noGo c_opinfo_Arity).1,
    (compFn_ok noGo c_opinfo_Pattern).1,
    (compFn_ok noGo c_r06_Node).1,
    (compFn_ok noGo c_slices_IndexFunc_api_Var_api_Var).1,
    (compFn_ok noGo c_internal_bytealg_CompareString).1,
    (compFn_ok noGo c_opinfo_known).1,
    (compFn_ok noGo c_opinfo_inside).1,
    (compFn_ok noGo c_opinfo_leaf).1,
    (compFn_ok noGo c_opinfo_resized).1,
    (compFn_ok noGo c_opinfo_agreed).1,
    (compFn_ok noGo c_r04_Arity).1,
    (compFn_ok noGo c_r04_width).1,
    (compFn_ok noGo c_r04_Leaf).1,
    (compFn_ok noGo c_r04_leaf).1,
    (compFn_ok noGo c_r04_parts).1,
    (compFn_ok noGo c_cmp_isNaN_int).1,
    (compFn_ok noGo c_cmp_isNaN_api_Op).1,
    (compFn_ok noGo c_cmp_isNaN_uint64).1,
    (compFn_ok noGo c_slices_IndexFunc_api_Term_api_Term).1,
    (compFn_ok noGo c_r04_Pattern).1,
    (compFn_ok noGo c_r04_Is).1, by simp⟩
theorem tbl_imp : (tbl.all fun x => !x.2.imp || !cq x.1) = true := by kernel_rfl
theorem lookup_mem {α : Type} : ∀ {l : List (FuncId × α)} {f : FuncId} {a : α}, l.lookup f = some a → (f, a) ∈ l
  | [], _, _, h => by cases h
  | (g, b) :: l, f, a, h => by
    simp only [List.lookup] at h
    split at h
    · rename_i he
      have : f = g := by simpa using he
      cases h
      rw [this]; simp
    · exact List.mem_cons_of_mem _ (lookup_mem h)

end Go.Proofs.Ythljaicehpdkbaa
