/- The evaluator's program is the translated program's. -/
import Derived.Test.YtncolifaemncbaaZi
import Derived.Test.YtncolifaemncbaaA6
import Derived.Test.YtncolifaemncbaaA4
import Derived.Test.YtncolifaemncbaaRows
namespace Go.Proofs.Ytncolifaemncbaa
open Go Go.AE Go.AE.S
def imps : List FuncId := [f_pattern_visit, f_pattern_preorder_1, f_slices_Insert_api_Var_api_Var]
def cq (f : FuncId) : Bool := !imps.contains f
theorem c_law24_PatternChecks : compFn Try.prog cq ⟨[], []⟩ false f_law24_PatternChecks = some F_law24_PatternChecks := by kernel_rfl
theorem c_law24_PatternWidths : compFn Try.prog cq ⟨[], []⟩ false f_law24_PatternWidths = some F_law24_PatternWidths := by kernel_rfl
theorem c_law24_PatternStays : compFn Try.prog cq ⟨[], []⟩ false f_law24_PatternStays = some F_law24_PatternStays := by kernel_rfl
theorem c_law24_PatternNames : compFn Try.prog cq ⟨[], []⟩ false f_law24_PatternNames = some F_law24_PatternNames := by kernel_rfl
theorem c_law24_PatternVariables : compFn Try.prog cq ⟨[], []⟩ false f_law24_PatternVariables = some F_law24_PatternVariables := by kernel_rfl
theorem c_law24_PatternGround : compFn Try.prog cq ⟨[], []⟩ false f_law24_PatternGround = some F_law24_PatternGround := by kernel_rfl
theorem c_r10_Small : compFn Try.prog cq ⟨[], []⟩ false f_r10_Small = some F_r10_Small := by kernel_rfl
theorem c_law24_lives : compFn Try.prog cq ⟨[], []⟩ false f_law24_lives = some F_law24_lives := by kernel_rfl
theorem c_pattern_Check : compFn Try.prog cq ⟨[4], []⟩ false f_pattern_Check = some F_pattern_Check := by kernel_rfl
theorem c_r24_Check : compFn Try.prog cq ⟨[], []⟩ false f_r24_Check = some F_r24_Check := by kernel_rfl
theorem c_pattern_At : compFn Try.prog cq ⟨[4], []⟩ false f_pattern_At = some F_pattern_At := by kernel_rfl
theorem c_r24_At : compFn Try.prog cq ⟨[4], []⟩ false f_r24_At = some F_r24_At := by kernel_rfl
theorem c_r10_Same : compFn Try.prog cq ⟨[], []⟩ false f_r10_Same = some F_r10_Same := by kernel_rfl
theorem c_pattern_Generic : compFn Try.prog cq ⟨[2], []⟩ false f_pattern_Generic = some F_pattern_Generic := by kernel_rfl
theorem c_r24_SameVars : compFn Try.prog cq ⟨[], []⟩ false f_r24_SameVars = some F_r24_SameVars := by kernel_rfl
theorem c_pattern_Holes : compFn Try.prog cq ⟨[], []⟩ false f_pattern_Holes = some F_pattern_Holes := by kernel_rfl
theorem c_r24_Vars : compFn Try.prog cq ⟨[], []⟩ false f_r24_Vars = some F_r24_Vars := by kernel_rfl
theorem c_pattern_Nums : compFn Try.prog cq ⟨[], []⟩ false f_pattern_Nums = some F_pattern_Nums := by kernel_rfl
theorem c_r24_Generic : compFn Try.prog cq ⟨[], []⟩ false f_r24_Generic = some F_r24_Generic := by kernel_rfl
theorem c_pattern_Ground : compFn Try.prog cq ⟨[], []⟩ false f_pattern_Ground = some F_pattern_Ground := by kernel_rfl
theorem c_r24_Ground : compFn Try.prog cq ⟨[], []⟩ false f_r24_Ground = some F_r24_Ground := by kernel_rfl
theorem c_pattern_Variables : compFn Try.prog cq ⟨[2, 3], [41]⟩ false f_pattern_Variables = some F_pattern_Variables := by kernel_rfl
theorem c_r24_Variables : compFn Try.prog cq ⟨[2, 3], [29]⟩ false f_r24_Variables = some F_r24_Variables := by kernel_rfl
theorem c_pattern_Least : compFn Try.prog cq ⟨[], []⟩ false f_pattern_Least = some F_pattern_Least := by kernel_rfl
theorem c_r24_Compare : compFn Try.prog cq ⟨[], []⟩ false f_r24_Compare = some F_r24_Compare := by kernel_rfl
theorem c_r10_left : compFn Try.prog cq ⟨[], []⟩ false f_r10_left = some F_r10_left := by kernel_rfl
theorem c_law24_hole : compFn Try.prog cq ⟨[4], []⟩ false f_law24_hole = some F_law24_hole := by kernel_rfl
theorem c_term_Size : compFn Try.prog cq ⟨[], []⟩ false f_term_Size = some F_term_Size := by kernel_rfl
theorem c_term_Depth : compFn Try.prog cq ⟨[], []⟩ false f_term_Depth = some F_term_Depth := by kernel_rfl
theorem c_pattern_nodes : compFn Try.prog cq ⟨[], []⟩ false f_pattern_nodes = some F_pattern_nodes := by kernel_rfl
theorem c_pattern_preorder : compFn Try.prog cq ⟨[], []⟩ false f_pattern_preorder = some F_pattern_preorder := by kernel_rfl
theorem c_pattern_variable : compFn Try.prog cq ⟨[], []⟩ false f_pattern_variable = some F_pattern_variable := by kernel_rfl
theorem c_r07_Deep : compFn Try.prog cq ⟨[], []⟩ false f_r07_Deep = some F_r07_Deep := by kernel_rfl
theorem c_r24_Postorder : compFn Try.prog cq ⟨[], [3, 3, 5]⟩ false f_r24_Postorder = some F_r24_Postorder := by kernel_rfl
theorem c_r24_node : compFn Try.prog cq ⟨[], []⟩ false f_r24_node = some F_r24_node := by kernel_rfl
theorem c_r24_names : compFn Try.prog cq ⟨[], [5, 11]⟩ false f_r24_names = some F_r24_names := by kernel_rfl
theorem c_pattern_at : compFn Try.prog cq ⟨[4, 6], [57]⟩ false f_pattern_at = some F_pattern_at := by kernel_rfl
theorem c_r24_at : compFn Try.prog cq ⟨[4, 6], [54]⟩ false f_r24_at = some F_r24_at := by kernel_rfl
theorem c_pattern_variables : compFn Try.prog cq ⟨[5], []⟩ false f_pattern_variables = some F_pattern_variables := by kernel_rfl
theorem c_r24_Preorder : compFn Try.prog cq ⟨[], [3, 6]⟩ false f_r24_Preorder = some F_r24_Preorder := by kernel_rfl
theorem c_r24_insert : compFn Try.prog cq ⟨[], [5, 5, 5, 8]⟩ false f_r24_insert = some F_r24_insert := by kernel_rfl
theorem c_pattern_has : compFn Try.prog cq ⟨[4], []⟩ false f_pattern_has = some F_pattern_has := by kernel_rfl
theorem c_r04_Pattern : compFn Try.prog cq ⟨[], []⟩ false f_r04_Pattern = some F_r04_Pattern := by kernel_rfl
theorem c_r24_variable : compFn Try.prog cq ⟨[], []⟩ false f_r24_variable = some F_r24_variable := by kernel_rfl
theorem c_term_Compare : compFn Try.prog cq ⟨[], []⟩ false f_term_Compare = some F_term_Compare := by kernel_rfl
theorem c_r24_order : compFn Try.prog cq ⟨[], []⟩ false f_r24_order = some F_r24_order := by kernel_rfl
theorem c_r10_Count : compFn Try.prog cq ⟨[], []⟩ false f_r10_Count = some F_r10_Count := by kernel_rfl
theorem c_pattern_node : compFn Try.prog cq ⟨[], []⟩ false f_pattern_node = some F_pattern_node := by kernel_rfl
theorem c_pattern_preorder_1 : compFn Try.prog cq ⟨[], []⟩ true f_pattern_preorder_1 = some F_pattern_preorder_1 := by kernel_rfl
theorem c_pattern_visit : compFn Try.prog cq ⟨[], []⟩ true f_pattern_visit = some F_pattern_visit := by kernel_rfl
theorem c_r04_Arity : compFn Try.prog cq ⟨[], []⟩ false f_r04_Arity = some F_r04_Arity := by kernel_rfl
theorem c_r07_Name : compFn Try.prog cq ⟨[], []⟩ false f_r07_Name = some F_r07_Name := by kernel_rfl
theorem c_r04_Width : compFn Try.prog cq ⟨[], []⟩ false f_r04_Width = some F_r04_Width := by kernel_rfl
theorem c_r24_widths : compFn Try.prog cq ⟨[], [3, 5]⟩ false f_r24_widths = some F_r24_widths := by kernel_rfl
theorem c_bits_Cut : compFn Try.prog cq ⟨[], []⟩ false f_bits_Cut = some F_bits_Cut := by kernel_rfl
theorem c_opinfo_Width : compFn Try.prog cq ⟨[], []⟩ false f_opinfo_Width = some F_opinfo_Width := by kernel_rfl
theorem c_pattern_widths : compFn Try.prog cq ⟨[], [3]⟩ false f_pattern_widths = some F_pattern_widths := by kernel_rfl
theorem c_r01_Cut : compFn Try.prog cq ⟨[], []⟩ false f_r01_Cut = some F_r01_Cut := by kernel_rfl
theorem c_slices_BinarySearchFunc_api_Var_api_Var_string : compFn Try.prog cq ⟨[], []⟩ false f_slices_BinarySearchFunc_api_Var_api_Var_string = some F_slices_BinarySearchFunc_api_Var_api_Var_string := by kernel_rfl
theorem c_pattern_variables_1 : compFn Try.prog cq ⟨[], []⟩ false f_pattern_variables_1 = some F_pattern_variables_1 := by kernel_rfl
theorem c_strings_Compare : compFn Try.prog cq ⟨[], []⟩ false f_strings_Compare = some F_strings_Compare := by kernel_rfl
theorem c_slices_Contains_api_Op_api_Op : compFn Try.prog cq ⟨[], []⟩ false f_slices_Contains_api_Op_api_Op = some F_slices_Contains_api_Op_api_Op := by kernel_rfl
theorem c_r04_Is : compFn Try.prog cq ⟨[], []⟩ false f_r04_Is = some F_r04_Is := by kernel_rfl
theorem c_cmp_Compare_int : compFn Try.prog cq ⟨[], []⟩ false f_cmp_Compare_int = some F_cmp_Compare_int := by kernel_rfl
theorem c_cmp_Or_int : compFn Try.prog cq ⟨[], []⟩ false f_cmp_Or_int = some F_cmp_Or_int := by kernel_rfl
theorem c_cmp_Compare_api_Op : compFn Try.prog cq ⟨[], []⟩ false f_cmp_Compare_api_Op = some F_cmp_Compare_api_Op := by kernel_rfl
theorem c_cmp_Compare_uint64 : compFn Try.prog cq ⟨[], []⟩ false f_cmp_Compare_uint64 = some F_cmp_Compare_uint64 := by kernel_rfl
theorem c_slices_CompareFunc_api_Term_api_Term_api_Term_api_Term : compFn Try.prog cq ⟨[8], []⟩ false f_slices_CompareFunc_api_Term_api_Term_api_Term_api_Term = some F_slices_CompareFunc_api_Term_api_Term_api_Term_api_Term := by kernel_rfl
theorem c_opinfo_Arity : compFn Try.prog cq ⟨[], []⟩ false f_opinfo_Arity = some F_opinfo_Arity := by kernel_rfl
theorem c_term_Name : compFn Try.prog cq ⟨[], []⟩ false f_term_Name = some F_term_Name := by kernel_rfl
theorem c_r04_Leaf : compFn Try.prog cq ⟨[], []⟩ false f_r04_Leaf = some F_r04_Leaf := by kernel_rfl
theorem c_r04_width : compFn Try.prog cq ⟨[], []⟩ false f_r04_width = some F_r04_width := by kernel_rfl
theorem c_r04_leaf : compFn Try.prog cq ⟨[], []⟩ false f_r04_leaf = some F_r04_leaf := by kernel_rfl
theorem c_r04_parts : compFn Try.prog cq ⟨[], []⟩ false f_r04_parts = some F_r04_parts := by kernel_rfl
theorem c_bits_Mask : compFn Try.prog cq ⟨[], []⟩ false f_bits_Mask = some F_bits_Mask := by kernel_rfl
theorem c_opinfo_known : compFn Try.prog cq ⟨[], []⟩ false f_opinfo_known = some F_opinfo_known := by kernel_rfl
theorem c_opinfo_inside : compFn Try.prog cq ⟨[], []⟩ false f_opinfo_inside = some F_opinfo_inside := by kernel_rfl
theorem c_opinfo_leaf : compFn Try.prog cq ⟨[], []⟩ false f_opinfo_leaf = some F_opinfo_leaf := by kernel_rfl
theorem c_opinfo_resized : compFn Try.prog cq ⟨[], []⟩ false f_opinfo_resized = some F_opinfo_resized := by kernel_rfl
theorem c_opinfo_agreed : compFn Try.prog cq ⟨[], []⟩ false f_opinfo_agreed = some F_opinfo_agreed := by kernel_rfl
theorem c_r01_W : compFn Try.prog cq ⟨[], []⟩ false f_r01_W = some F_r01_W := by kernel_rfl
theorem c_r01_Bit : compFn Try.prog cq ⟨[], []⟩ false f_r01_Bit = some F_r01_Bit := by kernel_rfl
theorem c_internal_bytealg_CompareString : compFn Try.prog cq ⟨[], []⟩ false f_internal_bytealg_CompareString = some F_internal_bytealg_CompareString := by kernel_rfl
theorem c_slices_rotateRight_api_Var : compFn Try.prog cq ⟨[], []⟩ false f_slices_rotateRight_api_Var = some F_slices_rotateRight_api_Var := by kernel_rfl
theorem c_slices_Index_api_Op_api_Op : compFn Try.prog cq ⟨[], []⟩ false f_slices_Index_api_Op_api_Op = some F_slices_Index_api_Op_api_Op := by kernel_rfl
theorem c_cmp_isNaN_int : compFn Try.prog cq ⟨[], []⟩ false f_cmp_isNaN_int = some F_cmp_isNaN_int := by kernel_rfl
theorem c_cmp_isNaN_api_Op : compFn Try.prog cq ⟨[], []⟩ false f_cmp_isNaN_api_Op = some F_cmp_isNaN_api_Op := by kernel_rfl
theorem c_cmp_isNaN_uint64 : compFn Try.prog cq ⟨[], []⟩ false f_cmp_isNaN_uint64 = some F_cmp_isNaN_uint64 := by kernel_rfl
theorem c_bits_clamp : compFn Try.prog cq ⟨[], []⟩ false f_bits_clamp = some F_bits_clamp := by kernel_rfl
theorem c_slices_rotateLeft_api_Var : compFn Try.prog cq ⟨[], []⟩ false f_slices_rotateLeft_api_Var = some F_slices_rotateLeft_api_Var := by kernel_rfl
theorem c_slices_Reverse_api_Var_api_Var : compFn Try.prog cq ⟨[], []⟩ false f_slices_Reverse_api_Var_api_Var = some F_slices_Reverse_api_Var_api_Var := by kernel_rfl

theorem noGo : ∀ g ∈ Try.prog.funcs, (g.name == "runtime.NumGoroutine") = false := by
  have h : (Try.prog.funcs.all fun g => (g.name == "runtime.NumGoroutine") == false) = true := by kernel_rfl
  intro g hg
  have := Array.all_eq_true_iff_forall_mem.1 h g hg
  simpa using this
theorem tbl_ok : ∀ x ∈ tbl, FnOk Try.prog cq x.1 x.2 := by
  simp only [tbl, List.forall_mem_cons]
  exact ⟨(compFn_ok noGo c_law24_PatternChecks).1,
    (compFn_ok noGo c_law24_PatternWidths).1,
    (compFn_ok noGo c_law24_PatternStays).1,
    (compFn_ok noGo c_law24_PatternNames).1,
    (compFn_ok noGo c_law24_PatternVariables).1,
    (compFn_ok noGo c_law24_PatternGround).1,
    (compFn_ok noGo c_r10_Small).1,
    (compFn_ok noGo c_law24_lives).1,
    (compFn_ok noGo c_pattern_Check).1,
    (compFn_ok noGo c_r24_Check).1,
    (compFn_ok noGo c_pattern_At).1,
    (compFn_ok noGo c_r24_At).1,
    (compFn_ok noGo c_r10_Same).1,
    (compFn_ok noGo c_pattern_Generic).1,
    (compFn_ok noGo c_r24_SameVars).1,
    (compFn_ok noGo c_pattern_Holes).1,
    (compFn_ok noGo c_r24_Vars).1,
    (compFn_ok noGo c_pattern_Nums).1,
    (compFn_ok noGo c_r24_Generic).1,
    (compFn_ok noGo c_pattern_Ground).1,
    (compFn_ok noGo c_r24_Ground).1,
    (compFn_ok noGo c_pattern_Variables).1,
    (compFn_ok noGo c_r24_Variables).1,
    (compFn_ok noGo c_pattern_Least).1,
    (compFn_ok noGo c_r24_Compare).1,
    (compFn_ok noGo c_r10_left).1,
    (compFn_ok noGo c_law24_hole).1,
    (compFn_ok noGo c_term_Size).1,
    (compFn_ok noGo c_term_Depth).1,
    (compFn_ok noGo c_pattern_nodes).1,
    (compFn_ok noGo c_pattern_preorder).1,
    (compFn_ok noGo c_pattern_variable).1,
    (compFn_ok noGo c_r07_Deep).1,
    (compFn_ok noGo c_r24_Postorder).1,
    (compFn_ok noGo c_r24_node).1,
    (compFn_ok noGo c_r24_names).1,
    (compFn_ok noGo c_pattern_at).1,
    (compFn_ok noGo c_r24_at).1,
    (compFn_ok noGo c_pattern_variables).1,
    (compFn_ok noGo c_r24_Preorder).1,
    (compFn_ok noGo c_r24_insert).1,
    (compFn_ok noGo c_pattern_has).1,
    (compFn_ok noGo c_r04_Pattern).1,
    (compFn_ok noGo c_r24_variable).1,
    (compFn_ok noGo c_term_Compare).1,
    (compFn_ok noGo c_r24_order).1,
    (compFn_ok noGo c_r10_Count).1,
    (compFn_ok noGo c_pattern_node).1,
    (compFn_ok noGo c_pattern_preorder_1).1,
    (compFn_ok noGo c_pattern_visit).1,
    (compFn_ok noGo c_r04_Arity).1,
    (compFn_ok noGo c_r07_Name).1,
    (compFn_ok noGo c_r04_Width).1,
    (compFn_ok noGo c_r24_widths).1,
    (compFn_ok noGo c_bits_Cut).1,
    (compFn_ok noGo c_opinfo_Width).1,
    (compFn_ok noGo c_pattern_widths).1,
    (compFn_ok noGo c_r01_Cut).1,
    (compFn_ok noGo c_slices_BinarySearchFunc_api_Var_api_Var_string).1,
    (compFn_ok noGo c_pattern_variables_1).1,
    (compFn_ok noGo c_strings_Compare).1,
    (compFn_ok noGo c_slices_Contains_api_Op_api_Op).1,
    (compFn_ok noGo c_r04_Is).1,
    (compFn_ok noGo c_cmp_Compare_int).1,
    (compFn_ok noGo c_cmp_Or_int).1,
    (compFn_ok noGo c_cmp_Compare_api_Op).1,
    (compFn_ok noGo c_cmp_Compare_uint64).1,
    (compFn_ok noGo c_slices_CompareFunc_api_Term_api_Term_api_Term_api_Term).1,
    (compFn_ok noGo c_opinfo_Arity).1,
    (compFn_ok noGo c_term_Name).1,
    (compFn_ok noGo c_r04_Leaf).1,
    (compFn_ok noGo c_r04_width).1,
    (compFn_ok noGo c_r04_leaf).1,
    (compFn_ok noGo c_r04_parts).1,
    (compFn_ok noGo c_bits_Mask).1,
    (compFn_ok noGo c_opinfo_known).1,
    (compFn_ok noGo c_opinfo_inside).1,
    (compFn_ok noGo c_opinfo_leaf).1,
    (compFn_ok noGo c_opinfo_resized).1,
    (compFn_ok noGo c_opinfo_agreed).1,
    (compFn_ok noGo c_r01_W).1,
    (compFn_ok noGo c_r01_Bit).1,
    (compFn_ok noGo c_internal_bytealg_CompareString).1,
    (compFn_ok noGo c_slices_rotateRight_api_Var).1,
    (compFn_ok noGo c_slices_Index_api_Op_api_Op).1,
    (compFn_ok noGo c_cmp_isNaN_int).1,
    (compFn_ok noGo c_cmp_isNaN_api_Op).1,
    (compFn_ok noGo c_cmp_isNaN_uint64).1,
    (compFn_ok noGo c_bits_clamp).1,
    (compFn_ok noGo c_slices_rotateLeft_api_Var).1,
    (compFn_ok noGo c_slices_Reverse_api_Var_api_Var).1, by simp⟩
theorem tbl_imp : (tbl.all fun x => !x.2.imp || !cq x.1) = true := by kernel_rfl
theorem lookup_mem {α : Type} : ∀ {l : List (FuncId × α)} {f : FuncId} {a : α}, l.lookup f = some a → (f, a) ∈ l
  | [], _, _, h => by cases h
  | (g, b) :: l, f, a, h => by
    simp only [List.lookup] at h
    split at h
    · rename_i he
      have : f = g := by simpa using he
      cases h
      rw [this]; simp
    · exact List.mem_cons_of_mem _ (lookup_mem h)

end Go.Proofs.Ytncolifaemncbaa
