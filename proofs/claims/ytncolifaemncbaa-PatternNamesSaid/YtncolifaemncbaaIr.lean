/- The intermediate code of the functions that the laws reach (printed by wip/tools/Emit.lean, mkir.py). -/
import Derived.Test.YtncolifaemncbaaP0
namespace Go.AE.S
open Go Go.AE
noncomputable section
def bs (l : List Nat) : ByteArray := ⟨(l.map UInt8.ofNat).toArray⟩
def f_law24_PatternChecks : FuncId := 3
def f_law24_PatternWidths : FuncId := 4
def f_law24_PatternStays : FuncId := 5
def f_law24_PatternNames : FuncId := 6
def f_law24_PatternVariables : FuncId := 7
def f_law24_PatternGround : FuncId := 8
def f_r10_Small : FuncId := 9
def f_law24_lives : FuncId := 10
def f_pattern_Check : FuncId := 11
def f_r24_Check : FuncId := 12
def f_pattern_At : FuncId := 13
def f_r24_At : FuncId := 14
def f_r10_Same : FuncId := 15
def f_pattern_Generic : FuncId := 16
def f_r24_SameVars : FuncId := 17
def f_pattern_Holes : FuncId := 18
def f_r24_Vars : FuncId := 19
def f_pattern_Nums : FuncId := 20
def f_r24_Generic : FuncId := 21
def f_pattern_Ground : FuncId := 22
def f_r24_Ground : FuncId := 23
def f_pattern_Variables : FuncId := 24
def f_r24_Variables : FuncId := 25
def f_pattern_Least : FuncId := 26
def f_r24_Compare : FuncId := 27
def f_r10_left : FuncId := 28
def f_law24_hole : FuncId := 29
def f_term_Size : FuncId := 30
def f_term_Depth : FuncId := 31
def f_pattern_nodes : FuncId := 32
def f_pattern_preorder : FuncId := 33
def f_pattern_variable : FuncId := 34
def f_r07_Deep : FuncId := 35
def f_r24_Postorder : FuncId := 36
def f_r24_node : FuncId := 37
def f_r24_names : FuncId := 38
def f_pattern_at : FuncId := 39
def f_r24_at : FuncId := 40
def f_pattern_variables : FuncId := 41
def f_r24_Preorder : FuncId := 42
def f_r24_insert : FuncId := 43
def f_pattern_has : FuncId := 44
def f_r04_Pattern : FuncId := 45
def f_r24_variable : FuncId := 46
def f_term_Compare : FuncId := 47
def f_r24_order : FuncId := 48
def f_r10_Count : FuncId := 49
def f_pattern_node : FuncId := 50
def f_pattern_preorder_1 : FuncId := 51
def f_pattern_visit : FuncId := 52
def f_r04_Arity : FuncId := 53
def f_r07_Name : FuncId := 54
def f_r04_Width : FuncId := 55
def f_r24_widths : FuncId := 56
def f_bits_Cut : FuncId := 57
def f_opinfo_Width : FuncId := 58
def f_pattern_widths : FuncId := 59
def f_r01_Cut : FuncId := 60
def f_slices_BinarySearchFunc_api_Var_api_Var_string : FuncId := 61
def f_pattern_variables_1 : FuncId := 62
def f_strings_Compare : FuncId := 63
def f_slices_Insert_api_Var_api_Var : FuncId := 64
def f_slices_Contains_api_Op_api_Op : FuncId := 65
def f_r04_Is : FuncId := 66
def f_cmp_Compare_int : FuncId := 67
def f_cmp_Or_int : FuncId := 68
def f_cmp_Compare_api_Op : FuncId := 69
def f_cmp_Compare_uint64 : FuncId := 70
def f_slices_CompareFunc_api_Term_api_Term_api_Term_api_Term : FuncId := 71
def f_opinfo_Arity : FuncId := 72
def f_term_Name : FuncId := 73
def f_r04_Leaf : FuncId := 74
def f_r04_width : FuncId := 75
def f_r04_leaf : FuncId := 76
def f_r04_parts : FuncId := 77
def f_bits_Mask : FuncId := 78
def f_opinfo_known : FuncId := 79
def f_opinfo_inside : FuncId := 80
def f_opinfo_leaf : FuncId := 81
def f_opinfo_resized : FuncId := 82
def f_opinfo_agreed : FuncId := 83
def f_r01_W : FuncId := 84
def f_r01_Bit : FuncId := 85
def f_internal_bytealg_CompareString : FuncId := 86
def f_slices_overlaps_api_Var : FuncId := 87
def f_slices_rotateRight_api_Var : FuncId := 88
def f_slices_Index_api_Op_api_Op : FuncId := 89
def f_cmp_isNaN_int : FuncId := 90
def f_cmp_isNaN_api_Op : FuncId := 91
def f_cmp_isNaN_uint64 : FuncId := 92
def f_bits_clamp : FuncId := 93
def f_internal_bytealg_abigen_runtime_cmpstring : FuncId := 94
def f_slices_rotateLeft_api_Var : FuncId := 95
def f_slices_Reverse_api_Var_api_Var : FuncId := 96
def F_law24_PatternChecks : AFn := ⟨19, [.tmp 4],
  (.seq (.reg false [⟨some 2, .box 5 true (.t 0) true, none⟩, ⟨some 4, .mv (.c (.p (.bool false))) false, none⟩])
  (.seq (.seq (.reg false [⟨some 5, .load 5 true (.t 2), none⟩, ⟨some 6, .callf f_r10_Small [(.t 5), (.c (.p (.int .i64 100)))], none⟩, ⟨some 7, .not (.t 6), none⟩])
  (.cond (.t 7) (.seq (.reg false [⟨some 8, .callf f_law24_lives [], none⟩, ⟨some 4, .mv (.t 8) false, none⟩])
  .ret) .skip))
  (.seq (.reg true [⟨some 9, .load 5 true (.t 2), none⟩, ⟨some 10, .mv (.t 1) false, none⟩, ⟨some 11, .callf f_pattern_Check [(.t 9), (.t 10)], none⟩, ⟨some 12, .load 5 true (.t 2), none⟩, ⟨some 13, .mv (.t 1) false, none⟩, ⟨some 14, .callf f_r24_Check [(.t 12), (.t 13)], none⟩, ⟨some 15, .arith .eql (.t 11) (.t 14), none⟩, ⟨some 16, .mv (.t 15) false, none⟩, ⟨some 17, .callf f_law24_lives [], some (16, true)⟩, ⟨some 18, .pick (.t 16) (.t 17) (.c (.p (.bool false))), none⟩, ⟨some 4, .mv (.t 18) false, none⟩])
  .ret))), false⟩
def F_law24_PatternWidths : AFn := ⟨36, [.tmp 4],
  (.seq (.reg false [⟨some 2, .box 5 true (.t 0) true, none⟩, ⟨some 4, .mv (.c (.p (.bool false))) false, none⟩])
  (.seq (.seq (.reg false [⟨some 9, .load 5 true (.t 2), none⟩, ⟨some 10, .callf f_r10_Small [(.t 9), (.c (.p (.int .i64 100)))], none⟩, ⟨some 11, .not (.t 10), none⟩])
  (.cond (.t 11) (.seq (.reg false [⟨some 12, .callf f_law24_lives [], none⟩, ⟨some 4, .mv (.t 12) false, none⟩])
  .ret) .skip))
  (.seq (.reg false [⟨some 14, .load 5 true (.t 2), none⟩, ⟨some 15, .mv (.t 1) false, none⟩, ⟨some 16, .callf f_pattern_At [(.t 14), (.t 15)], none⟩, ⟨some 13, .mv (.t 16) false, none⟩, ⟨some 17, .extract (.t 13) 0, none⟩, ⟨some 18, .extract (.t 13) 1, none⟩, ⟨some 5, .init 5 true (.t 17) true, none⟩, ⟨some 6, .mv (.t 18) false, none⟩])
  (.seq (.reg false [⟨some 20, .load 5 true (.t 2), none⟩, ⟨some 21, .mv (.t 1) false, none⟩, ⟨some 22, .callf f_r24_At [(.t 20), (.t 21)], none⟩, ⟨some 19, .mv (.t 22) false, none⟩, ⟨some 23, .extract (.t 19) 0, none⟩, ⟨some 24, .extract (.t 19) 1, none⟩, ⟨some 7, .init 5 true (.t 23) true, none⟩, ⟨some 8, .mv (.t 24) false, none⟩])
  (.seq (.reg false [⟨some 25, .load 5 true (.t 5), none⟩, ⟨some 26, .load 5 true (.t 7), none⟩, ⟨some 27, .callf f_r10_Same [(.t 25), (.t 26)], none⟩, ⟨some 28, .mv (.t 27) false, none⟩, ⟨some 29, .mv (.t 6) false, some (28, true)⟩, ⟨some 30, .mv (.t 8) false, some (28, true)⟩, ⟨some 31, .arith .eql (.t 29) (.t 30), some (28, true)⟩, ⟨some 32, .pick (.t 28) (.t 31) (.c (.p (.bool false))), none⟩, ⟨some 33, .mv (.t 32) false, none⟩, ⟨some 34, .callf f_law24_lives [], some (33, true)⟩, ⟨some 35, .pick (.t 33) (.t 34) (.c (.p (.bool false))), none⟩, ⟨some 4, .mv (.t 35) false, none⟩])
  .ret))))), false⟩
def F_law24_PatternStays : AFn := ⟨68, [.tmp 6],
  (.seq (.reg false [⟨some 3, .box 5 true (.t 0) true, none⟩, ⟨some 6, .mv (.c (.p (.bool false))) false, none⟩])
  (.seq (.seq (.reg false [⟨some 9, .load 5 true (.t 3), none⟩, ⟨some 10, .callf f_r10_Small [(.t 9), (.c (.p (.int .i64 100)))], none⟩, ⟨some 11, .not (.t 10), none⟩, ⟨some 12, .mv (.t 11) false, none⟩, ⟨some 13, .load 5 true (.t 3), some (12, false)⟩, ⟨some 14, .mv (.t 2) false, some (12, false)⟩, ⟨some 15, .callf f_pattern_Check [(.t 13), (.t 14)], some (12, false)⟩, ⟨some 16, .arith .neq (.t 15) (.c (.p (.int .i64 0))), some (12, false)⟩, ⟨some 17, .pick (.t 12) (.c (.p (.bool true))) (.t 16), none⟩])
  (.cond (.t 17) (.seq (.reg false [⟨some 18, .callf f_law24_lives [], none⟩, ⟨some 6, .mv (.t 18) false, none⟩])
  .ret) .skip))
  (.seq (.reg false [⟨some 20, .load 5 true (.t 3), none⟩, ⟨some 21, .mv (.t 1) false, none⟩, ⟨some 22, .callf f_pattern_At [(.t 20), (.t 21)], none⟩, ⟨some 19, .mv (.t 22) false, none⟩, ⟨some 23, .extract (.t 19) 0, none⟩, ⟨some 24, .extract (.t 19) 1, none⟩, ⟨some 7, .init 5 true (.t 23) true, none⟩, ⟨some 8, .mv (.t 24) false, none⟩])
  (.seq (.seq (.reg false [⟨some 25, .mv (.t 1) false, none⟩, ⟨some 26, .arith .lss (.t 25) (.c (.p (.int .i64 1))), none⟩, ⟨some 27, .mv (.t 26) false, none⟩, ⟨some 28, .mv (.t 1) false, some (27, false)⟩, ⟨some 29, .arith .gtr (.t 28) (.c (.p (.int .i64 64))), some (27, false)⟩, ⟨some 30, .pick (.t 27) (.c (.p (.bool true))) (.t 29), none⟩])
  (.cond (.t 30) (.seq (.reg false [⟨some 31, .mv (.t 8) false, none⟩, ⟨some 32, .arith .eql (.t 31) (.c (.p (.int .i64 2))), none⟩, ⟨some 33, .mv (.t 32) false, none⟩, ⟨some 34, .callf f_law24_lives [], some (33, true)⟩, ⟨some 35, .pick (.t 33) (.t 34) (.c (.p (.bool false))), none⟩, ⟨some 6, .mv (.t 35) false, none⟩])
  .ret) .skip))
  (.seq (.seq (.reg false [⟨some 36, .load 5 true (.t 3), none⟩, ⟨some 37, .callf f_pattern_Generic [(.t 36)], none⟩, ⟨some 38, .not (.t 37), none⟩])
  (.cond (.t 38) (.seq (.reg false [⟨some 39, .mv (.t 8) false, none⟩, ⟨some 40, .arith .eql (.t 39) (.c (.p (.int .i64 0))), none⟩, ⟨some 41, .mv (.t 40) false, none⟩, ⟨some 42, .load 5 true (.t 3), some (41, true)⟩, ⟨some 43, .load 5 true (.t 7), some (41, true)⟩, ⟨some 44, .callf f_r10_Same [(.t 42), (.t 43)], some (41, true)⟩, ⟨some 45, .pick (.t 41) (.t 44) (.c (.p (.bool false))), none⟩, ⟨some 46, .mv (.t 45) false, none⟩, ⟨some 47, .callf f_law24_lives [], some (46, true)⟩, ⟨some 48, .pick (.t 46) (.t 47) (.c (.p (.bool false))), none⟩, ⟨some 6, .mv (.t 48) false, none⟩])
  .ret) .skip))
  (.seq (.seq (.reg false [⟨some 49, .mv (.t 8) false, none⟩, ⟨some 50, .arith .neq (.t 49) (.c (.p (.int .i64 0))), none⟩])
  (.cond (.t 50) (.seq (.reg false [⟨some 51, .mv (.t 8) false, none⟩, ⟨some 52, .arith .eql (.t 51) (.c (.p (.int .i64 3))), none⟩, ⟨some 53, .mv (.t 52) false, none⟩, ⟨some 54, .callf f_law24_lives [], some (53, true)⟩, ⟨some 55, .pick (.t 53) (.t 54) (.c (.p (.bool false))), none⟩, ⟨some 6, .mv (.t 55) false, none⟩])
  .ret) .skip))
  (.seq (.reg false [⟨some 56, .load 5 true (.t 7), none⟩, ⟨some 57, .mv (.t 2) false, none⟩, ⟨some 58, .callf f_pattern_Check [(.t 56), (.t 57)], none⟩, ⟨some 59, .arith .eql (.t 58) (.c (.p (.int .i64 0))), none⟩, ⟨some 60, .mv (.t 59) false, none⟩, ⟨some 61, .load 5 true (.t 7), some (60, true)⟩, ⟨some 62, .callf f_pattern_Generic [(.t 61)], some (60, true)⟩, ⟨some 63, .not (.t 62), some (60, true)⟩, ⟨some 64, .pick (.t 60) (.t 63) (.c (.p (.bool false))), none⟩, ⟨some 65, .mv (.t 64) false, none⟩, ⟨some 66, .callf f_law24_lives [], some (65, true)⟩, ⟨some 67, .pick (.t 65) (.t 66) (.c (.p (.bool false))), none⟩, ⟨some 6, .mv (.t 67) false, none⟩])
  .ret))))))), false⟩
def F_law24_PatternNames : AFn := ⟨56, [.tmp 4],
  (.seq (.reg false [⟨some 2, .box 5 true (.t 0) true, none⟩, ⟨some 3, .box 5 true (.t 1) true, none⟩, ⟨some 4, .mv (.c (.p (.bool false))) false, none⟩])
  (.seq (.seq (.reg false [⟨some 6, .load 5 true (.t 2), none⟩, ⟨some 7, .callf f_r10_Small [(.t 6), (.c (.p (.int .i64 100)))], none⟩, ⟨some 8, .not (.t 7), none⟩, ⟨some 9, .mv (.t 8) false, none⟩, ⟨some 10, .load 5 true (.t 3), some (9, false)⟩, ⟨some 11, .callf f_r10_Small [(.t 10), (.c (.p (.int .i64 100)))], some (9, false)⟩, ⟨some 12, .not (.t 11), some (9, false)⟩, ⟨some 13, .pick (.t 9) (.c (.p (.bool true))) (.t 12), none⟩])
  (.cond (.t 13) (.seq (.reg false [⟨some 14, .callf f_law24_lives [], none⟩, ⟨some 4, .mv (.t 14) false, none⟩])
  .ret) .skip))
  (.seq (.reg false [⟨some 15, .load 5 true (.t 2), none⟩, ⟨some 16, .load 5 true (.t 3), none⟩, ⟨some 17, .bslice 5 [(.p (.int .i64 0)), (.p (.int .i64 0)), (.p (.int .u64 0)), (.p (.str (bs []))), .nils] 2 [(0, 5, (.t 15)), (1, 5, (.t 16))], none⟩, ⟨some 5, .mv (.t 17) false, none⟩])
  (.seq (.seq (.reg false [⟨some 18, .load 5 true (.t 2), none⟩, ⟨some 19, .load 5 true (.t 3), none⟩, ⟨some 20, .bslice 5 [(.p (.int .i64 0)), (.p (.int .i64 0)), (.p (.int .u64 0)), (.p (.str (bs []))), .nils] 2 [(0, 5, (.t 18)), (1, 5, (.t 19))], none⟩, ⟨some 21, .callf f_pattern_Holes [(.t 20)], none⟩, ⟨some 22, .mv (.t 5) false, none⟩, ⟨some 23, .callf f_r24_Vars [(.c (.p (.int .i64 24))), (.t 22)], none⟩, ⟨some 24, .callf f_r24_SameVars [(.t 21), (.t 23)], none⟩, ⟨some 25, .not (.t 24), none⟩, ⟨some 26, .mv (.t 25) false, none⟩, ⟨some 27, .load 5 true (.t 2), some (26, false)⟩, ⟨some 28, .load 5 true (.t 3), some (26, false)⟩, ⟨some 29, .bslice 5 [(.p (.int .i64 0)), (.p (.int .i64 0)), (.p (.int .u64 0)), (.p (.str (bs []))), .nils] 2 [(0, 5, (.t 27)), (1, 5, (.t 28))], some (26, false)⟩, ⟨some 30, .callf f_pattern_Nums [(.t 29)], some (26, false)⟩, ⟨some 31, .mv (.t 5) false, some (26, false)⟩, ⟨some 32, .callf f_r24_Vars [(.c (.p (.int .i64 25))), (.t 31)], some (26, false)⟩, ⟨some 33, .callf f_r24_SameVars [(.t 30), (.t 32)], some (26, false)⟩, ⟨some 34, .not (.t 33), some (26, false)⟩, ⟨some 35, .pick (.t 26) (.c (.p (.bool true))) (.t 34), none⟩])
  (.cond (.t 35) (.seq (.reg false [⟨some 4, .mv (.c (.p (.bool false))) false, none⟩])
  .ret) .skip))
  (.seq (.reg true [⟨some 36, .callf f_pattern_Holes [(.c .nils)], none⟩, ⟨some 37, .lenS (.t 36), none⟩, ⟨some 38, .arith .eql (.t 37) (.c (.p (.int .i64 0))), none⟩, ⟨some 39, .mv (.t 38) false, none⟩, ⟨some 40, .load 5 true (.t 2), some (39, true)⟩, ⟨some 41, .callf f_pattern_Generic [(.t 40)], some (39, true)⟩, ⟨some 42, .load 5 true (.t 2), some (39, true)⟩, ⟨some 43, .callf f_r24_Generic [(.t 42)], some (39, true)⟩, ⟨some 44, .eqB false (.t 41) (.t 43), some (39, true)⟩, ⟨some 45, .pick (.t 39) (.t 44) (.c (.p (.bool false))), none⟩, ⟨some 46, .mv (.t 45) false, none⟩, ⟨some 47, .load 5 true (.t 2), some (46, true)⟩, ⟨some 48, .callf f_pattern_Ground [(.t 47)], some (46, true)⟩, ⟨some 49, .load 5 true (.t 2), some (46, true)⟩, ⟨some 50, .callf f_r24_Ground [(.t 49)], some (46, true)⟩, ⟨some 51, .eqB false (.t 48) (.t 50), some (46, true)⟩, ⟨some 52, .pick (.t 46) (.t 51) (.c (.p (.bool false))), none⟩, ⟨some 53, .mv (.t 52) false, none⟩, ⟨some 54, .callf f_law24_lives [], some (53, true)⟩, ⟨some 55, .pick (.t 53) (.t 54) (.c (.p (.bool false))), none⟩, ⟨some 4, .mv (.t 55) false, none⟩])
  .ret))))), false⟩
def F_law24_PatternVariables : AFn := ⟨32, [.tmp 4],
  (.seq (.reg false [⟨some 2, .box 5 true (.t 0) true, none⟩, ⟨some 3, .box 5 true (.t 1) true, none⟩, ⟨some 4, .mv (.c (.p (.bool false))) false, none⟩])
  (.seq (.seq (.reg false [⟨some 5, .load 5 true (.t 2), none⟩, ⟨some 6, .callf f_r10_Small [(.t 5), (.c (.p (.int .i64 60)))], none⟩, ⟨some 7, .not (.t 6), none⟩, ⟨some 8, .mv (.t 7) false, none⟩, ⟨some 9, .load 5 true (.t 3), some (8, false)⟩, ⟨some 10, .callf f_r10_Small [(.t 9), (.c (.p (.int .i64 60)))], some (8, false)⟩, ⟨some 11, .not (.t 10), some (8, false)⟩, ⟨some 12, .pick (.t 8) (.c (.p (.bool true))) (.t 11), none⟩])
  (.cond (.t 12) (.seq (.reg false [⟨some 13, .callf f_law24_lives [], none⟩, ⟨some 4, .mv (.t 13) false, none⟩])
  .ret) .skip))
  (.seq (.reg true [⟨some 14, .load 5 true (.t 2), none⟩, ⟨some 15, .callf f_pattern_Variables [(.t 14)], none⟩, ⟨some 16, .load 5 true (.t 2), none⟩, ⟨some 17, .callf f_r24_Variables [(.t 16)], none⟩, ⟨some 18, .callf f_r10_Same [(.t 15), (.t 17)], none⟩, ⟨some 19, .mv (.t 18) false, none⟩, ⟨some 20, .load 5 true (.t 2), some (19, true)⟩, ⟨some 21, .load 5 true (.t 3), some (19, true)⟩, ⟨some 22, .callf f_pattern_Least [(.t 20), (.t 21)], some (19, true)⟩, ⟨some 23, .load 5 true (.t 2), some (19, true)⟩, ⟨some 24, .load 5 true (.t 3), some (19, true)⟩, ⟨some 25, .callf f_r24_Compare [(.t 23), (.t 24)], some (19, true)⟩, ⟨some 26, .arith .lss (.t 25) (.c (.p (.int .i64 0))), some (19, true)⟩, ⟨some 27, .eqB false (.t 22) (.t 26), some (19, true)⟩, ⟨some 28, .pick (.t 19) (.t 27) (.c (.p (.bool false))), none⟩, ⟨some 29, .mv (.t 28) false, none⟩, ⟨some 30, .callf f_law24_lives [], some (29, true)⟩, ⟨some 31, .pick (.t 29) (.t 30) (.c (.p (.bool false))), none⟩, ⟨some 4, .mv (.t 31) false, none⟩])
  .ret))), false⟩
def F_law24_PatternGround : AFn := ⟨49, [.tmp 2],
  (.seq (.reg false [⟨some 1, .box 5 true (.t 0) true, none⟩, ⟨some 2, .mv (.c (.p (.bool false))) false, none⟩])
  (.seq (.seq (.reg false [⟨some 4, .load 5 true (.t 1), none⟩, ⟨some 5, .callf f_r10_Small [(.t 4), (.c (.p (.int .i64 100)))], none⟩, ⟨some 6, .not (.t 5), none⟩, ⟨some 7, .mv (.t 6) false, none⟩, ⟨some 8, .load 5 true (.t 1), some (7, false)⟩, ⟨some 9, .callf f_pattern_Check [(.t 8), (.c (.p (.bool true)))], some (7, false)⟩, ⟨some 10, .arith .neq (.t 9) (.c (.p (.int .i64 0))), some (7, false)⟩, ⟨some 11, .pick (.t 7) (.c (.p (.bool true))) (.t 10), none⟩])
  (.cond (.t 11) (.seq (.reg false [⟨some 12, .callf f_law24_lives [], none⟩, ⟨some 2, .mv (.t 12) false, none⟩])
  .ret) .skip))
  (.seq (.reg false [⟨some 13, .load 5 true (.t 1), none⟩, ⟨some 14, .callf f_pattern_Variables [(.t 13)], none⟩, ⟨some 3, .init 5 true (.t 14) true, none⟩])
  (.seq (.seq (.reg false [⟨some 15, .load 5 true (.t 3), none⟩, ⟨some 16, .callf f_pattern_Ground [(.t 15)], none⟩, ⟨some 17, .not (.t 16), none⟩, ⟨some 18, .mv (.t 17) false, none⟩, ⟨some 19, .load 5 true (.t 3), some (18, false)⟩, ⟨some 20, .bslice 5 [(.p (.int .i64 0)), (.p (.int .i64 0)), (.p (.int .u64 0)), (.p (.str (bs []))), .nils] 1 [(0, 5, (.t 19))], some (18, false)⟩, ⟨some 21, .callf f_pattern_Holes [(.t 20)], some (18, false)⟩, ⟨some 22, .lenS (.t 21), some (18, false)⟩, ⟨some 23, .arith .neq (.t 22) (.c (.p (.int .i64 0))), some (18, false)⟩, ⟨some 24, .pick (.t 18) (.c (.p (.bool true))) (.t 23), none⟩, ⟨some 25, .mv (.t 24) false, none⟩, ⟨some 26, .load 5 true (.t 3), some (25, false)⟩, ⟨some 27, .bslice 5 [(.p (.int .i64 0)), (.p (.int .i64 0)), (.p (.int .u64 0)), (.p (.str (bs []))), .nils] 1 [(0, 5, (.t 26))], some (25, false)⟩, ⟨some 28, .callf f_pattern_Nums [(.t 27)], some (25, false)⟩, ⟨some 29, .lenS (.t 28), some (25, false)⟩, ⟨some 30, .arith .neq (.t 29) (.c (.p (.int .i64 0))), some (25, false)⟩, ⟨some 31, .pick (.t 25) (.c (.p (.bool true))) (.t 30), none⟩])
  (.cond (.t 31) (.seq (.reg false [⟨some 2, .mv (.c (.p (.bool false))) false, none⟩])
  .ret) .skip))
  (.seq (.reg false [⟨some 32, .load 5 true (.t 1), none⟩, ⟨some 33, .callf f_pattern_Ground [(.t 32)], none⟩, ⟨some 34, .not (.t 33), none⟩, ⟨some 35, .mv (.t 34) false, none⟩, ⟨some 36, .load 5 true (.t 1), some (35, false)⟩, ⟨some 37, .load 5 true (.t 3), some (35, false)⟩, ⟨some 38, .callf f_r10_Same [(.t 36), (.t 37)], some (35, false)⟩, ⟨some 39, .pick (.t 35) (.c (.p (.bool true))) (.t 38), none⟩, ⟨some 40, .mv (.t 39) false, none⟩, ⟨some 41, .load 5 true (.t 1), some (40, true)⟩, ⟨some 42, .load 5 true (.t 1), some (40, true)⟩, ⟨some 43, .callf f_pattern_Least [(.t 41), (.t 42)], some (40, true)⟩, ⟨some 44, .not (.t 43), some (40, true)⟩, ⟨some 45, .pick (.t 40) (.t 44) (.c (.p (.bool false))), none⟩, ⟨some 46, .mv (.t 45) false, none⟩, ⟨some 47, .callf f_law24_lives [], some (46, true)⟩, ⟨some 48, .pick (.t 46) (.t 47) (.c (.p (.bool false))), none⟩, ⟨some 2, .mv (.t 48) false, none⟩])
  .ret))))), false⟩
def F_r10_Small : AFn := ⟨9, [.tmp 4],
  (.seq (.reg false [⟨some 2, .box 5 true (.t 0) true, none⟩, ⟨some 4, .mv (.c (.p (.bool false))) false, none⟩])
  (.seq (.reg false [⟨some 5, .load 5 true (.t 2), none⟩, ⟨some 6, .mv (.t 1) false, none⟩, ⟨some 7, .callf f_r10_left [(.t 5), (.t 6)], none⟩, ⟨some 8, .arith .geq (.t 7) (.c (.p (.int .i64 0))), none⟩, ⟨some 4, .mv (.t 8) false, none⟩])
  .ret)), false⟩
def F_law24_lives : AFn := ⟨67, [.tmp 0],
  (.seq (.reg false [⟨some 0, .mv (.c (.p (.bool false))) false, none⟩])
  (.seq (.reg false [⟨some 6, .callf f_law24_hole [(.c (.p (.str (bs [97])))), (.c (.p (.int .i64 0)))], none⟩, ⟨some 7, .build [(.p (.int .i64 0)), (.p (.int .i64 0)), (.p (.int .u64 0)), (.p (.str (bs []))), .nils] [(0, 1, (.c (.p (.int .i64 2)))), (2, 1, (.c (.p (.int .u64 1))))], none⟩, ⟨some 8, .bslice 5 [(.p (.int .i64 0)), (.p (.int .i64 0)), (.p (.int .u64 0)), (.p (.str (bs []))), .nils] 2 [(0, 5, (.t 6)), (1, 5, (.t 7))], none⟩, ⟨some 9, .build [(.p (.int .i64 0)), (.p (.int .i64 0)), (.p (.int .u64 0)), (.p (.str (bs []))), .nils] [(0, 1, (.c (.p (.int .i64 8)))), (4, 1, (.t 8))], none⟩, ⟨some 1, .init 5 true (.t 9) true, none⟩])
  (.seq (.reg false [⟨some 11, .load 5 true (.t 1), none⟩, ⟨some 12, .callf f_pattern_At [(.t 11), (.c (.p (.int .i64 4)))], none⟩, ⟨some 10, .mv (.t 12) false, none⟩, ⟨some 13, .extract (.t 10) 0, none⟩, ⟨some 14, .extract (.t 10) 1, none⟩, ⟨some 2, .init 5 true (.t 13) true, none⟩, ⟨some 3, .mv (.t 14) false, none⟩])
  (.seq (.reg false [⟨some 15, .callf f_law24_hole [(.c (.p (.str (bs [97])))), (.c (.p (.int .i64 4)))], none⟩, ⟨some 16, .bslice 5 [(.p (.int .i64 0)), (.p (.int .i64 0)), (.p (.int .u64 0)), (.p (.str (bs []))), .nils] 1 [(0, 5, (.t 15))], none⟩, ⟨some 17, .build [(.p (.int .i64 0)), (.p (.int .i64 0)), (.p (.int .u64 0)), (.p (.str (bs []))), .nils] [(0, 1, (.c (.p (.int .i64 26)))), (1, 1, (.c (.p (.int .i64 4)))), (4, 1, (.t 16))], none⟩, ⟨some 4, .init 5 true (.t 17) true, none⟩])
  (.seq (.reg false [⟨some 18, .callf f_law24_hole [(.c (.p (.str (bs [98])))), (.c (.p (.int .i64 4)))], none⟩, ⟨some 19, .callf f_law24_hole [(.c (.p (.str (bs [97])))), (.c (.p (.int .i64 4)))], none⟩, ⟨some 20, .bslice 5 [(.p (.int .i64 0)), (.p (.int .i64 0)), (.p (.int .u64 0)), (.p (.str (bs []))), .nils] 2 [(0, 5, (.t 18)), (1, 5, (.t 19))], none⟩, ⟨some 21, .build [(.p (.int .i64 0)), (.p (.int .i64 0)), (.p (.int .u64 0)), (.p (.str (bs []))), .nils] [(0, 1, (.c (.p (.int .i64 8)))), (1, 1, (.c (.p (.int .i64 4)))), (4, 1, (.t 20))], none⟩, ⟨some 22, .bslice 5 [(.p (.int .i64 0)), (.p (.int .i64 0)), (.p (.int .u64 0)), (.p (.str (bs []))), .nils] 1 [(0, 5, (.t 21))], none⟩, ⟨some 23, .callf f_pattern_Holes [(.t 22)], none⟩, ⟨some 5, .mv (.t 23) false, none⟩])
  (.seq (.reg false [⟨some 24, .mv (.t 3) false, none⟩, ⟨some 25, .arith .eql (.t 24) (.c (.p (.int .i64 0))), none⟩, ⟨some 26, .mv (.t 25) false, none⟩, ⟨some 27, .fadr 1 (.t 2), some (26, true)⟩, ⟨some 28, .load 1 false (.t 27), some (26, true)⟩, ⟨some 29, .arith .eql (.t 28) (.c (.p (.int .i64 4))), some (26, true)⟩, ⟨some 30, .pick (.t 26) (.t 29) (.c (.p (.bool false))), none⟩, ⟨some 31, .mv (.t 30) false, none⟩, ⟨some 32, .fadr 4 (.t 2), some (31, true)⟩, ⟨some 33, .load 1 false (.t 32), some (31, true)⟩, ⟨some 34, .lenS (.t 33), some (31, true)⟩, ⟨some 35, .arith .eql (.t 34) (.c (.p (.int .i64 2))), some (31, true)⟩, ⟨some 36, .pick (.t 31) (.t 35) (.c (.p (.bool false))), none⟩, ⟨some 37, .mv (.t 36) false, none⟩, ⟨some 38, .fadr 4 (.t 2), some (37, true)⟩, ⟨some 39, .load 1 false (.t 38), some (37, true)⟩, ⟨some 40, .iadrS 5 (.t 39) (.c (.p (.int .i64 0))), some (37, true)⟩, ⟨some 41, .fadr 1 (.t 40), some (37, true)⟩, ⟨some 42, .load 1 false (.t 41), some (37, true)⟩, ⟨some 43, .arith .eql (.t 42) (.c (.p (.int .i64 4))), some (37, true)⟩, ⟨some 44, .pick (.t 37) (.t 43) (.c (.p (.bool false))), none⟩, ⟨some 45, .mv (.t 44) false, none⟩, ⟨some 46, .load 5 true (.t 4), some (45, true)⟩, ⟨some 47, .callf f_pattern_Check [(.t 46), (.c (.p (.bool true)))], some (45, true)⟩, ⟨some 48, .arith .eql (.t 47) (.c (.p (.int .i64 12))), some (45, true)⟩, ⟨some 49, .pick (.t 45) (.t 48) (.c (.p (.bool false))), none⟩, ⟨some 50, .mv (.t 49) false, none⟩, ⟨some 51, .load 5 true (.t 4), some (50, true)⟩, ⟨some 52, .callf f_pattern_Check [(.t 51), (.c (.p (.bool false)))], some (50, true)⟩, ⟨some 53, .arith .eql (.t 52) (.c (.p (.int .i64 4))), some (50, true)⟩, ⟨some 54, .pick (.t 50) (.t 53) (.c (.p (.bool false))), none⟩, ⟨some 55, .mv (.t 54) false, none⟩, ⟨some 56, .mv (.t 5) false, some (55, true)⟩, ⟨some 57, .lenS (.t 56), some (55, true)⟩, ⟨some 58, .arith .eql (.t 57) (.c (.p (.int .i64 2))), some (55, true)⟩, ⟨some 59, .pick (.t 55) (.t 58) (.c (.p (.bool false))), none⟩, ⟨some 60, .mv (.t 59) false, none⟩, ⟨some 61, .mv (.t 5) false, some (60, true)⟩, ⟨some 62, .iadrS 2 (.t 61) (.c (.p (.int .i64 0))), some (60, true)⟩, ⟨some 63, .fadr 0 (.t 62), some (60, true)⟩, ⟨some 64, .load 1 false (.t 63), some (60, true)⟩, ⟨some 65, .arith .eql (.t 64) (.c (.p (.str (bs [97])))), some (60, true)⟩, ⟨some 66, .pick (.t 60) (.t 65) (.c (.p (.bool false))), none⟩, ⟨some 0, .mv (.t 66) false, none⟩])
  .ret)))))), false⟩
def A0_pattern_Check : K :=
  (.reg false [⟨some 7, .init 5 true (.t 27) true, none⟩])
def B0_pattern_Check : K :=
  (.block 1 (.seq (.seq (.reg false [⟨some 28, .fadr 0 (.t 7), none⟩, ⟨some 29, .load 1 false (.t 28), none⟩, ⟨some 30, .callf f_pattern_variable [(.t 29)], none⟩, ⟨some 31, .not (.t 30), none⟩])
  (.cond (.t 31) (.exit 1) .skip))
  (.seq (.reg false [⟨some 33, .load 1 false (.t 6), none⟩, ⟨some 34, .fadr 3 (.t 7), none⟩, ⟨some 35, .load 1 false (.t 34), none⟩, ⟨some 36, .lookup .str (.agg [(.p (.int .i64 0)), (.p (.int .i64 0)), (.p (.int .u64 0)), (.p (.str (bs []))), .nils]) (.t 33) (.t 35) true, none⟩, ⟨some 32, .mv (.t 36) false, none⟩, ⟨some 37, .extract (.t 32) 0, none⟩, ⟨some 38, .extract (.t 32) 1, none⟩, ⟨some 8, .init 5 true (.t 37) true, none⟩, ⟨some 9, .mv (.t 38) false, none⟩])
  (.seq (.seq (.reg false [⟨some 39, .mv (.t 9) false, none⟩, ⟨some 40, .mv (.t 39) false, none⟩, ⟨some 41, .fadr 0 (.t 8), some (40, true)⟩, ⟨some 42, .load 1 false (.t 41), some (40, true)⟩, ⟨some 43, .fadr 0 (.t 7), some (40, true)⟩, ⟨some 44, .load 1 false (.t 43), some (40, true)⟩, ⟨some 45, .arith .neq (.t 42) (.t 44), some (40, true)⟩, ⟨some 46, .mv (.t 45) false, some (40, true)⟩, ⟨some 47, .fadr 1 (.t 8), some (46, false)⟩, ⟨some 48, .load 1 false (.t 47), some (46, false)⟩, ⟨some 49, .fadr 1 (.t 7), some (46, false)⟩, ⟨some 50, .load 1 false (.t 49), some (46, false)⟩, ⟨some 51, .arith .neq (.t 48) (.t 50), some (46, false)⟩, ⟨some 52, .pick (.t 46) (.c (.p (.bool true))) (.t 51), some (40, true)⟩, ⟨some 53, .pick (.t 40) (.t 52) (.c (.p (.bool false))), none⟩])
  (.cond (.t 53) (.seq (.reg false [⟨none, .store 1 (.t 4) (.c (.p (.int .i64 12))), none⟩])
  .ret) .skip))
  (.reg false [⟨some 54, .load 1 false (.t 6), none⟩, ⟨some 55, .fadr 3 (.t 7), none⟩, ⟨some 56, .load 1 false (.t 55), none⟩, ⟨some 57, .load 5 true (.t 7), none⟩, ⟨none, .mupd .str (.t 54) (.t 56) (.t 57), none⟩])))))
def R0_pattern_Check : K := .range (.t 26) [27] [4, 6] A0_pattern_Check B0_pattern_Check
def F_pattern_Check : AFn := ⟨61, [.cell 4 1 false],
  (.seq (.reg false [⟨some 2, .box 5 true (.t 0) true, none⟩, ⟨some 4, .alloc [(.p (.int .i64 0))] 1, none⟩])
  (.seq (.seq (.reg false [⟨some 10, .load 5 true (.t 2), none⟩, ⟨some 11, .callf f_term_Size [(.t 10)], none⟩, ⟨some 12, .arith .gtr (.t 11) (.c (.p (.int .i64 4096))), none⟩, ⟨some 13, .mv (.t 12) false, none⟩, ⟨some 14, .load 5 true (.t 2), some (13, false)⟩, ⟨some 15, .callf f_term_Depth [(.t 14)], some (13, false)⟩, ⟨some 16, .arith .gtr (.t 15) (.c (.p (.int .i64 64))), some (13, false)⟩, ⟨some 17, .pick (.t 13) (.c (.p (.bool true))) (.t 16), none⟩])
  (.cond (.t 17) (.seq (.reg false [⟨none, .store 1 (.t 4) (.c (.p (.int .i64 7))), none⟩])
  .ret) .skip))
  (.seq (.seq (.reg false [⟨some 18, .load 5 true (.t 2), none⟩, ⟨some 19, .mv (.t 1) false, none⟩, ⟨some 20, .callf f_pattern_nodes [(.t 18), (.t 19)], none⟩, ⟨some 5, .mv (.t 20) false, none⟩])
  (.seq (.reg false [⟨some 21, .mv (.t 5) false, none⟩, ⟨some 22, .arith .neq (.t 21) (.c (.p (.int .i64 0))), none⟩])
  (.cond (.t 22) (.seq (.reg false [⟨some 23, .mv (.t 5) false, none⟩, ⟨none, .store 1 (.t 4) (.t 23), none⟩])
  .ret) .skip)))
  (.seq (.reg false [⟨some 24, .mkmap, none⟩, ⟨some 6, .init 1 false (.t 24) true, none⟩])
  (.seq (.seq (.reg false [⟨some 25, .load 5 true (.t 2), none⟩, ⟨some 26, .callf f_pattern_preorder [(.t 25)], none⟩])
  (.block 0 R0_pattern_Check))
  (.seq (.seq (.reg false [⟨some 58, .load 1 false (.t 6), none⟩, ⟨some 59, .lenM (.t 58), none⟩, ⟨some 60, .arith .gtr (.t 59) (.c (.p (.int .i64 16))), none⟩])
  (.cond (.t 60) (.seq (.reg false [⟨none, .store 1 (.t 4) (.c (.p (.int .i64 7))), none⟩])
  .ret) .skip))
  (.seq (.reg false [⟨none, .store 1 (.t 4) (.c (.p (.int .i64 0))), none⟩])
  .ret))))))), false⟩
def B0_r24_Check : K :=
  (.seq (.seq (.reg false [⟨some 19, .mv (.t 6) false, none⟩, ⟨some 20, .mv (.t 5) false, none⟩, ⟨some 21, .lenS (.t 20), none⟩, ⟨some 22, .arith .lss (.t 19) (.t 21), none⟩])
  (.cond (.t 22) .skip (.exit 0)))
  (.seq (.block 1 (.seq (.reg false [⟨some 25, .mv (.t 5) false, none⟩, ⟨some 26, .mv (.t 6) false, none⟩, ⟨some 27, .iadrS 5 (.t 25) (.t 26), none⟩, ⟨some 28, .load 5 true (.t 27), none⟩, ⟨some 29, .mv (.t 1) false, none⟩, ⟨some 30, .callf f_r24_node [(.t 28), (.t 29)], none⟩, ⟨some 7, .mv (.t 30) false, none⟩])
  (.seq (.reg false [⟨some 31, .mv (.t 7) false, none⟩, ⟨some 32, .arith .neq (.t 31) (.c (.p (.int .i64 0))), none⟩])
  (.cond (.t 32) (.seq (.reg false [⟨some 33, .mv (.t 7) false, none⟩, ⟨some 4, .mv (.t 33) false, none⟩])
  .ret) .skip))))
  (.reg false [⟨some 23, .mv (.t 6) false, none⟩, ⟨some 24, .arith .add (.t 23) (.c (.p (.int .i64 1))), none⟩, ⟨some 6, .mv (.t 24) false, none⟩])))
def L0_r24_Check : K := .loop [1, 2, 5, 6] B0_r24_Check
def F_r24_Check : AFn := ⟨44, [.tmp 4],
  (.seq (.reg false [⟨some 2, .box 5 true (.t 0) true, none⟩, ⟨some 4, .mv (.c (.p (.int .i64 0))) false, none⟩])
  (.seq (.seq (.reg false [⟨some 10, .load 5 true (.t 2), none⟩, ⟨some 11, .callf f_r10_Small [(.t 10), (.c (.p (.int .i64 4096)))], none⟩, ⟨some 12, .not (.t 11), none⟩, ⟨some 13, .mv (.t 12) false, none⟩, ⟨some 14, .load 5 true (.t 2), some (13, false)⟩, ⟨some 15, .callf f_r07_Deep [(.t 14), (.c (.p (.int .i64 64)))], some (13, false)⟩, ⟨some 16, .pick (.t 13) (.c (.p (.bool true))) (.t 15), none⟩])
  (.cond (.t 16) (.seq (.reg false [⟨some 4, .mv (.c (.p (.int .i64 7))) false, none⟩])
  .ret) .skip))
  (.seq (.reg false [⟨some 17, .load 5 true (.t 2), none⟩, ⟨some 18, .callf f_r24_Postorder [(.t 17)], none⟩, ⟨some 5, .mv (.t 18) false, none⟩])
  (.seq (.seq (.reg false [⟨some 6, .mv (.c (.p (.int .i64 0))) false, none⟩])
  (.block 0 L0_r24_Check))
  (.seq (.reg false [⟨some 35, .load 5 true (.t 2), none⟩, ⟨some 36, .callf f_r24_names [(.t 35)], none⟩, ⟨some 34, .mv (.t 36) false, none⟩, ⟨some 37, .extract (.t 34) 0, none⟩, ⟨some 38, .extract (.t 34) 1, none⟩, ⟨some 8, .mv (.t 37) false, none⟩, ⟨some 9, .mv (.t 38) false, none⟩])
  (.seq (.seq (.reg false [⟨some 39, .mv (.t 9) false, none⟩, ⟨some 40, .not (.t 39), none⟩])
  (.cond (.t 40) (.seq (.reg false [⟨some 4, .mv (.c (.p (.int .i64 12))) false, none⟩])
  .ret) .skip))
  (.seq (.seq (.reg false [⟨some 41, .mv (.t 8) false, none⟩, ⟨some 42, .lenS (.t 41), none⟩, ⟨some 43, .arith .gtr (.t 42) (.c (.p (.int .i64 16))), none⟩])
  (.cond (.t 43) (.seq (.reg false [⟨some 4, .mv (.c (.p (.int .i64 7))) false, none⟩])
  .ret) .skip))
  (.seq (.reg false [⟨some 4, .mv (.c (.p (.int .i64 0))) false, none⟩])
  .ret)))))))), false⟩
def F_pattern_At : AFn := ⟨25, [.cell 4 5 true, .tmp 5],
  (.seq (.reg false [⟨some 2, .box 5 true (.t 0) true, none⟩, ⟨some 4, .alloc [(.p (.int .i64 0)), (.p (.int .i64 0)), (.p (.int .u64 0)), (.p (.str (bs []))), .nils] 5, none⟩, ⟨some 5, .mv (.c (.p (.int .i64 0))) false, none⟩])
  (.seq (.seq (.reg false [⟨some 8, .mv (.t 1) false, none⟩, ⟨some 9, .arith .lss (.t 8) (.c (.p (.int .i64 1))), none⟩, ⟨some 10, .mv (.t 9) false, none⟩, ⟨some 11, .mv (.t 1) false, some (10, false)⟩, ⟨some 12, .arith .gtr (.t 11) (.c (.p (.int .i64 64))), some (10, false)⟩, ⟨some 13, .pick (.t 10) (.c (.p (.bool true))) (.t 12), none⟩])
  (.cond (.t 13) (.seq (.reg false [⟨some 14, .build [(.p (.int .i64 0)), (.p (.int .i64 0)), (.p (.int .u64 0)), (.p (.str (bs []))), .nils] [], none⟩, ⟨none, .store 5 (.t 4) (.t 14), none⟩, ⟨some 5, .mv (.c (.p (.int .i64 2))) false, none⟩])
  .ret) .skip))
  (.seq (.reg false [⟨some 16, .load 5 true (.t 2), none⟩, ⟨some 17, .mv (.t 1) false, none⟩, ⟨some 18, .callf f_pattern_at [(.t 16), (.t 17)], none⟩, ⟨some 15, .mv (.t 18) false, none⟩, ⟨some 19, .extract (.t 15) 0, none⟩, ⟨some 20, .extract (.t 15) 1, none⟩, ⟨some 6, .init 5 true (.t 19) true, none⟩, ⟨some 7, .mv (.t 20) false, none⟩])
  (.seq (.seq (.reg false [⟨some 21, .mv (.t 7) false, none⟩, ⟨some 22, .not (.t 21), none⟩])
  (.cond (.t 22) (.seq (.reg false [⟨some 23, .build [(.p (.int .i64 0)), (.p (.int .i64 0)), (.p (.int .u64 0)), (.p (.str (bs []))), .nils] [], none⟩, ⟨none, .store 5 (.t 4) (.t 23), none⟩, ⟨some 5, .mv (.c (.p (.int .i64 3))) false, none⟩])
  .ret) .skip))
  (.seq (.reg false [⟨some 24, .load 5 true (.t 6), none⟩, ⟨none, .store 5 (.t 4) (.t 24), none⟩, ⟨some 5, .mv (.c (.p (.int .i64 0))) false, none⟩])
  .ret))))), false⟩
def F_r24_At : AFn := ⟨18, [.cell 4 5 true, .tmp 5],
  (.seq (.reg false [⟨some 2, .box 5 true (.t 0) true, none⟩, ⟨some 4, .alloc [(.p (.int .i64 0)), (.p (.int .i64 0)), (.p (.int .u64 0)), (.p (.str (bs []))), .nils] 5, none⟩, ⟨some 5, .mv (.c (.p (.int .i64 0))) false, none⟩])
  (.seq (.seq (.reg false [⟨some 6, .mv (.t 1) false, none⟩, ⟨some 7, .arith .lss (.t 6) (.c (.p (.int .i64 1))), none⟩, ⟨some 8, .mv (.t 7) false, none⟩, ⟨some 9, .mv (.t 1) false, some (8, false)⟩, ⟨some 10, .arith .gtr (.t 9) (.c (.p (.int .i64 64))), some (8, false)⟩, ⟨some 11, .pick (.t 8) (.c (.p (.bool true))) (.t 10), none⟩])
  (.cond (.t 11) (.seq (.reg false [⟨some 12, .build [(.p (.int .i64 0)), (.p (.int .i64 0)), (.p (.int .u64 0)), (.p (.str (bs []))), .nils] [], none⟩, ⟨none, .store 5 (.t 4) (.t 12), none⟩, ⟨some 5, .mv (.c (.p (.int .i64 2))) false, none⟩])
  .ret) .skip))
  (.seq (.reg false [⟨some 13, .load 5 true (.t 2), none⟩, ⟨some 14, .mv (.t 1) false, none⟩, ⟨some 15, .callf f_r24_at [(.t 13), (.t 14)], none⟩, ⟨some 16, .extract (.t 15) 0, none⟩, ⟨some 17, .extract (.t 15) 1, none⟩, ⟨none, .store 5 (.t 4) (.t 16), none⟩, ⟨some 5, .mv (.t 17) false, none⟩])
  .ret))), false⟩
def B0_r10_Same : K :=
  (.seq (.reg false [⟨some 45, .arith .lss (.t 44) (.t 43), none⟩])
  (.seq (.cond (.t 45) .skip (.exit 0))
  (.seq (.block 1 (.seq (.reg false [⟨some 46, .mv (.t 44) false, none⟩, ⟨some 5, .mv (.t 46) false, none⟩])
  (.seq (.reg true [⟨some 47, .fadr 4 (.t 2), none⟩, ⟨some 48, .load 1 false (.t 47), none⟩, ⟨some 49, .mv (.t 5) false, none⟩, ⟨some 50, .iadrS 5 (.t 48) (.t 49), none⟩, ⟨some 51, .load 5 true (.t 50), none⟩, ⟨some 52, .fadr 4 (.t 3), none⟩, ⟨some 53, .load 1 false (.t 52), none⟩, ⟨some 54, .mv (.t 5) false, none⟩, ⟨some 55, .iadrS 5 (.t 53) (.t 54), none⟩, ⟨some 56, .load 5 true (.t 55), none⟩, ⟨some 57, .callf f_r10_Same [(.t 51), (.t 56)], none⟩, ⟨some 58, .not (.t 57), none⟩])
  (.cond (.t 58) (.seq (.reg false [⟨some 4, .mv (.c (.p (.bool false))) false, none⟩])
  .ret) .skip))))
  (.reg false [⟨some 59, .arith .add (.t 44) (.c (.p (.int .i64 1))), none⟩, ⟨some 44, .mv (.t 59) false, none⟩]))))
def L0_r10_Same : K := .loop [2, 3, 43, 44] B0_r10_Same
def F_r10_Same : AFn := ⟨60, [.tmp 4],
  (.seq (.reg false [⟨some 2, .box 5 true (.t 0) true, none⟩, ⟨some 3, .box 5 true (.t 1) true, none⟩, ⟨some 4, .mv (.c (.p (.bool false))) false, none⟩])
  (.seq (.seq (.reg false [⟨some 6, .fadr 0 (.t 2), none⟩, ⟨some 7, .load 1 false (.t 6), none⟩, ⟨some 8, .fadr 0 (.t 3), none⟩, ⟨some 9, .load 1 false (.t 8), none⟩, ⟨some 10, .arith .neq (.t 7) (.t 9), none⟩, ⟨some 11, .mv (.t 10) false, none⟩, ⟨some 12, .fadr 1 (.t 2), some (11, false)⟩, ⟨some 13, .load 1 false (.t 12), some (11, false)⟩, ⟨some 14, .fadr 1 (.t 3), some (11, false)⟩, ⟨some 15, .load 1 false (.t 14), some (11, false)⟩, ⟨some 16, .arith .neq (.t 13) (.t 15), some (11, false)⟩, ⟨some 17, .pick (.t 11) (.c (.p (.bool true))) (.t 16), none⟩, ⟨some 18, .mv (.t 17) false, none⟩, ⟨some 19, .fadr 2 (.t 2), some (18, false)⟩, ⟨some 20, .load 1 false (.t 19), some (18, false)⟩, ⟨some 21, .fadr 2 (.t 3), some (18, false)⟩, ⟨some 22, .load 1 false (.t 21), some (18, false)⟩, ⟨some 23, .arith .neq (.t 20) (.t 22), some (18, false)⟩, ⟨some 24, .pick (.t 18) (.c (.p (.bool true))) (.t 23), none⟩, ⟨some 25, .mv (.t 24) false, none⟩, ⟨some 26, .fadr 3 (.t 2), some (25, false)⟩, ⟨some 27, .load 1 false (.t 26), some (25, false)⟩, ⟨some 28, .fadr 3 (.t 3), some (25, false)⟩, ⟨some 29, .load 1 false (.t 28), some (25, false)⟩, ⟨some 30, .arith .neq (.t 27) (.t 29), some (25, false)⟩, ⟨some 31, .pick (.t 25) (.c (.p (.bool true))) (.t 30), none⟩, ⟨some 32, .mv (.t 31) false, none⟩, ⟨some 33, .fadr 4 (.t 2), some (32, false)⟩, ⟨some 34, .load 1 false (.t 33), some (32, false)⟩, ⟨some 35, .lenS (.t 34), some (32, false)⟩, ⟨some 36, .fadr 4 (.t 3), some (32, false)⟩, ⟨some 37, .load 1 false (.t 36), some (32, false)⟩, ⟨some 38, .lenS (.t 37), some (32, false)⟩, ⟨some 39, .arith .neq (.t 35) (.t 38), some (32, false)⟩, ⟨some 40, .pick (.t 32) (.c (.p (.bool true))) (.t 39), none⟩])
  (.cond (.t 40) (.seq (.reg false [⟨some 4, .mv (.c (.p (.bool false))) false, none⟩])
  .ret) .skip))
  (.seq (.seq (.reg false [⟨some 41, .fadr 4 (.t 2), none⟩, ⟨some 42, .load 1 false (.t 41), none⟩, ⟨some 43, .lenS (.t 42), none⟩, ⟨some 44, .mv (.c (.p (.int .i64 0))) false, none⟩])
  (.block 0 L0_r10_Same))
  (.seq (.reg false [⟨some 4, .mv (.c (.p (.bool true))) false, none⟩])
  .ret)))), false⟩
def A0_pattern_Generic : K :=
  (.reg false [⟨some 3, .init 5 true (.t 6) true, none⟩])
def B0_pattern_Generic : K :=
  (.block 1 (.seq (.reg false [⟨some 7, .fadr 1 (.t 3), none⟩, ⟨some 8, .load 1 false (.t 7), none⟩, ⟨some 9, .arith .eql (.t 8) (.c (.p (.int .i64 0))), none⟩])
  (.cond (.t 9) (.seq (.reg false [⟨none, .store 1 (.t 2) (.c (.p (.bool true))), none⟩])
  .ret) .skip)))
def R0_pattern_Generic : K := .range (.t 5) [6] [2] A0_pattern_Generic B0_pattern_Generic
def F_pattern_Generic : AFn := ⟨10, [.cell 2 1 false],
  (.seq (.reg false [⟨some 1, .box 5 true (.t 0) true, none⟩, ⟨some 2, .alloc [(.p (.bool false))] 1, none⟩])
  (.seq (.seq (.reg false [⟨some 4, .load 5 true (.t 1), none⟩, ⟨some 5, .callf f_pattern_preorder [(.t 4)], none⟩])
  (.block 0 R0_pattern_Generic))
  (.seq (.reg false [⟨none, .store 1 (.t 2) (.c (.p (.bool false))), none⟩])
  .ret))), false⟩
def B0_r24_SameVars : K :=
  (.seq (.seq (.reg false [⟨some 11, .mv (.t 5) false, none⟩, ⟨some 12, .mv (.t 0) false, none⟩, ⟨some 13, .lenS (.t 12), none⟩, ⟨some 14, .arith .lss (.t 11) (.t 13), none⟩])
  (.cond (.t 14) .skip (.exit 0)))
  (.seq (.block 1 (.seq (.reg true [⟨some 17, .mv (.t 0) false, none⟩, ⟨some 18, .mv (.t 5) false, none⟩, ⟨some 19, .iadrS 2 (.t 17) (.t 18), none⟩, ⟨some 20, .load 2 true (.t 19), none⟩, ⟨some 21, .mv (.t 1) false, none⟩, ⟨some 22, .mv (.t 5) false, none⟩, ⟨some 23, .iadrS 2 (.t 21) (.t 22), none⟩, ⟨some 24, .load 2 true (.t 23), none⟩, ⟨some 25, .eqA true [.str, .int] (.t 20) (.t 24), none⟩])
  (.cond (.t 25) (.seq (.reg false [⟨some 4, .mv (.c (.p (.bool false))) false, none⟩])
  .ret) .skip)))
  (.reg false [⟨some 15, .mv (.t 5) false, none⟩, ⟨some 16, .arith .add (.t 15) (.c (.p (.int .i64 1))), none⟩, ⟨some 5, .mv (.t 16) false, none⟩])))
def L0_r24_SameVars : K := .loop [0, 1, 5] B0_r24_SameVars
def F_r24_SameVars : AFn := ⟨26, [.tmp 4],
  (.seq (.reg false [⟨some 4, .mv (.c (.p (.bool false))) false, none⟩])
  (.seq (.seq (.reg false [⟨some 6, .mv (.t 0) false, none⟩, ⟨some 7, .lenS (.t 6), none⟩, ⟨some 8, .mv (.t 1) false, none⟩, ⟨some 9, .lenS (.t 8), none⟩, ⟨some 10, .arith .neq (.t 7) (.t 9), none⟩])
  (.cond (.t 10) (.seq (.reg false [⟨some 4, .mv (.c (.p (.bool false))) false, none⟩])
  .ret) .skip))
  (.seq (.seq (.reg false [⟨some 5, .mv (.c (.p (.int .i64 0))) false, none⟩])
  (.block 0 L0_r24_SameVars))
  (.seq (.reg false [⟨some 4, .mv (.c (.p (.bool true))) false, none⟩])
  .ret)))), false⟩
def F_pattern_Holes : AFn := ⟨5, [.tmp 2],
  (.seq (.reg false [⟨some 2, .mv (.c .nils) false, none⟩])
  (.seq (.reg false [⟨some 3, .mv (.t 0) false, none⟩, ⟨some 4, .callf f_pattern_variables [(.c (.p (.int .i64 24))), (.t 3)], none⟩, ⟨some 2, .mv (.t 4) false, none⟩])
  .ret)), false⟩
def B1_r24_Vars : K :=
  (.seq (.seq (.reg false [⟨some 21, .mv (.t 8) false, none⟩, ⟨some 22, .mv (.t 7) false, none⟩, ⟨some 23, .lenS (.t 22), none⟩, ⟨some 24, .arith .lss (.t 21) (.t 23), none⟩])
  (.cond (.t 24) .skip (.exit 2)))
  (.seq (.block 3 (.seq (.reg false [⟨some 27, .mv (.t 7) false, none⟩, ⟨some 28, .mv (.t 8) false, none⟩, ⟨some 29, .iadrS 5 (.t 27) (.t 28), none⟩, ⟨some 30, .fadr 0 (.t 29), none⟩, ⟨some 31, .load 1 false (.t 30), none⟩, ⟨some 32, .mv (.t 0) false, none⟩, ⟨some 33, .arith .eql (.t 31) (.t 32), none⟩])
  (.cond (.t 33) (.reg true [⟨some 34, .mv (.t 5) false, none⟩, ⟨some 35, .mv (.t 7) false, none⟩, ⟨some 36, .mv (.t 8) false, none⟩, ⟨some 37, .iadrS 5 (.t 35) (.t 36), none⟩, ⟨some 38, .fadr 3 (.t 37), none⟩, ⟨some 39, .load 1 false (.t 38), none⟩, ⟨some 40, .mv (.t 7) false, none⟩, ⟨some 41, .mv (.t 8) false, none⟩, ⟨some 42, .iadrS 5 (.t 40) (.t 41), none⟩, ⟨some 43, .fadr 1 (.t 42), none⟩, ⟨some 44, .load 1 false (.t 43), none⟩, ⟨some 45, .build [(.p (.str (bs []))), (.p (.int .i64 0))] [(0, 1, (.t 39)), (1, 1, (.t 44))], none⟩, ⟨some 46, .callf f_r24_insert [(.t 34), (.t 45)], none⟩, ⟨some 5, .mv (.t 46) false, none⟩]) .skip)))
  (.reg false [⟨some 25, .mv (.t 8) false, none⟩, ⟨some 26, .arith .add (.t 25) (.c (.p (.int .i64 1))), none⟩, ⟨some 8, .mv (.t 26) false, none⟩])))
def L1_r24_Vars : K := .loop [0, 1, 5, 6, 7, 8] B1_r24_Vars
def B0_r24_Vars : K :=
  (.seq (.seq (.reg false [⟨some 10, .mv (.t 6) false, none⟩, ⟨some 11, .mv (.t 1) false, none⟩, ⟨some 12, .lenS (.t 11), none⟩, ⟨some 13, .arith .lss (.t 10) (.t 12), none⟩])
  (.cond (.t 13) .skip (.exit 0)))
  (.seq (.block 1 (.seq (.reg false [⟨some 16, .mv (.t 1) false, none⟩, ⟨some 17, .mv (.t 6) false, none⟩, ⟨some 18, .iadrS 5 (.t 16) (.t 17), none⟩, ⟨some 19, .load 5 true (.t 18), none⟩, ⟨some 20, .callf f_r24_Preorder [(.t 19)], none⟩, ⟨some 7, .mv (.t 20) false, none⟩])
  (.seq (.reg false [⟨some 8, .mv (.c (.p (.int .i64 0))) false, none⟩])
  (.block 2 L1_r24_Vars))))
  (.reg false [⟨some 14, .mv (.t 6) false, none⟩, ⟨some 15, .arith .add (.t 14) (.c (.p (.int .i64 1))), none⟩, ⟨some 6, .mv (.t 15) false, none⟩])))
def L0_r24_Vars : K := .loop [0, 1, 5, 6] B0_r24_Vars
def F_r24_Vars : AFn := ⟨48, [.tmp 4],
  (.seq (.reg false [⟨some 4, .mv (.c .nils) false, none⟩])
  (.seq (.reg false [⟨some 9, .bslice 2 [(.p (.str (bs []))), (.p (.int .i64 0))] 0 [], none⟩, ⟨some 5, .mv (.t 9) false, none⟩])
  (.seq (.seq (.reg false [⟨some 6, .mv (.c (.p (.int .i64 0))) false, none⟩])
  (.block 0 L0_r24_Vars))
  (.seq (.reg false [⟨some 47, .mv (.t 5) false, none⟩, ⟨some 4, .mv (.t 47) false, none⟩])
  .ret)))), false⟩
def F_pattern_Nums : AFn := ⟨5, [.tmp 2],
  (.seq (.reg false [⟨some 2, .mv (.c .nils) false, none⟩])
  (.seq (.reg false [⟨some 3, .mv (.t 0) false, none⟩, ⟨some 4, .callf f_pattern_variables [(.c (.p (.int .i64 25))), (.t 3)], none⟩, ⟨some 2, .mv (.t 4) false, none⟩])
  .ret)), false⟩
def B0_r24_Generic : K :=
  (.seq (.seq (.reg false [⟨some 7, .mv (.t 4) false, none⟩, ⟨some 8, .mv (.t 3) false, none⟩, ⟨some 9, .lenS (.t 8), none⟩, ⟨some 10, .arith .lss (.t 7) (.t 9), none⟩])
  (.cond (.t 10) .skip (.exit 0)))
  (.seq (.block 1 (.seq (.reg false [⟨some 13, .mv (.t 3) false, none⟩, ⟨some 14, .mv (.t 4) false, none⟩, ⟨some 15, .iadrS 5 (.t 13) (.t 14), none⟩, ⟨some 16, .fadr 1 (.t 15), none⟩, ⟨some 17, .load 1 false (.t 16), none⟩, ⟨some 18, .arith .eql (.t 17) (.c (.p (.int .i64 0))), none⟩])
  (.cond (.t 18) (.seq (.reg false [⟨some 2, .mv (.c (.p (.bool true))) false, none⟩])
  .ret) .skip)))
  (.reg false [⟨some 11, .mv (.t 4) false, none⟩, ⟨some 12, .arith .add (.t 11) (.c (.p (.int .i64 1))), none⟩, ⟨some 4, .mv (.t 12) false, none⟩])))
def L0_r24_Generic : K := .loop [3, 4] B0_r24_Generic
def F_r24_Generic : AFn := ⟨19, [.tmp 2],
  (.seq (.reg false [⟨some 1, .box 5 true (.t 0) true, none⟩, ⟨some 2, .mv (.c (.p (.bool false))) false, none⟩])
  (.seq (.reg false [⟨some 5, .load 5 true (.t 1), none⟩, ⟨some 6, .callf f_r24_Preorder [(.t 5)], none⟩, ⟨some 3, .mv (.t 6) false, none⟩])
  (.seq (.seq (.reg false [⟨some 4, .mv (.c (.p (.int .i64 0))) false, none⟩])
  (.block 0 L0_r24_Generic))
  (.seq (.reg false [⟨some 2, .mv (.c (.p (.bool false))) false, none⟩])
  .ret)))), false⟩
def F_pattern_Ground : AFn := ⟨7, [.tmp 2],
  (.seq (.reg false [⟨some 1, .box 5 true (.t 0) true, none⟩, ⟨some 2, .mv (.c (.p (.bool false))) false, none⟩])
  (.seq (.reg false [⟨some 3, .load 5 true (.t 1), none⟩, ⟨some 4, .bslice 1 [(.p (.int .i64 0))] 3 [(0, 1, (.c (.p (.int .i64 24)))), (1, 1, (.c (.p (.int .i64 25)))), (2, 1, (.c (.p (.int .i64 26))))], none⟩, ⟨some 5, .callf f_pattern_has [(.t 3), (.t 4)], none⟩, ⟨some 6, .not (.t 5), none⟩, ⟨some 2, .mv (.t 6) false, none⟩])
  .ret)), false⟩
def B0_r24_Ground : K :=
  (.seq (.seq (.reg false [⟨some 7, .mv (.t 4) false, none⟩, ⟨some 8, .mv (.t 3) false, none⟩, ⟨some 9, .lenS (.t 8), none⟩, ⟨some 10, .arith .lss (.t 7) (.t 9), none⟩])
  (.cond (.t 10) .skip (.exit 0)))
  (.seq (.block 1 (.seq (.reg false [⟨some 13, .mv (.t 3) false, none⟩, ⟨some 14, .mv (.t 4) false, none⟩, ⟨some 15, .iadrS 5 (.t 13) (.t 14), none⟩, ⟨some 16, .fadr 0 (.t 15), none⟩, ⟨some 17, .load 1 false (.t 16), none⟩, ⟨some 18, .callf f_r04_Pattern [(.t 17)], none⟩])
  (.cond (.t 18) (.seq (.reg false [⟨some 2, .mv (.c (.p (.bool false))) false, none⟩])
  .ret) .skip)))
  (.reg false [⟨some 11, .mv (.t 4) false, none⟩, ⟨some 12, .arith .add (.t 11) (.c (.p (.int .i64 1))), none⟩, ⟨some 4, .mv (.t 12) false, none⟩])))
def L0_r24_Ground : K := .loop [3, 4] B0_r24_Ground
def F_r24_Ground : AFn := ⟨19, [.tmp 2],
  (.seq (.reg false [⟨some 1, .box 5 true (.t 0) true, none⟩, ⟨some 2, .mv (.c (.p (.bool false))) false, none⟩])
  (.seq (.reg false [⟨some 5, .load 5 true (.t 1), none⟩, ⟨some 6, .callf f_r24_Preorder [(.t 5)], none⟩, ⟨some 3, .mv (.t 6) false, none⟩])
  (.seq (.seq (.reg false [⟨some 4, .mv (.c (.p (.int .i64 0))) false, none⟩])
  (.block 0 L0_r24_Ground))
  (.seq (.reg false [⟨some 2, .mv (.c (.p (.bool true))) false, none⟩])
  .ret)))), false⟩
def B0_pattern_Variables : K :=
  (.seq (.reg false [⟨some 37, .arith .lss (.t 36) (.t 35), none⟩])
  (.seq (.cond (.t 37) .skip (.exit 0))
  (.seq (.block 1 (.seq (.reg false [⟨some 38, .iadrS 5 (.t 34) (.t 36), none⟩, ⟨some 39, .load 5 true (.t 38), none⟩, ⟨some 5, .init 5 true (.t 39) true, none⟩])
  (.reg true [⟨some 40, .fadr 4 (.t 3), none⟩, ⟨some 41, .load 1 false (.t 40), none⟩, ⟨some 42, .load 5 true (.t 5), none⟩, ⟨some 43, .callf f_pattern_Variables [(.t 42)], none⟩, ⟨some 44, .bslice 5 [(.p (.int .i64 0)), (.p (.int .i64 0)), (.p (.int .u64 0)), (.p (.str (bs []))), .nils] 1 [(0, 5, (.t 43))], none⟩, ⟨some 45, .append 5 64 (.t 41) (.t 44), none⟩, ⟨some 46, .fadr 4 (.t 3), none⟩, ⟨none, .store 1 (.t 46) (.t 45), none⟩])))
  (.reg false [⟨some 47, .arith .add (.t 36) (.c (.p (.int .i64 1))), none⟩, ⟨some 36, .mv (.t 47) false, none⟩]))))
def L0_pattern_Variables : K := .loop [2, 3, 34, 35, 36] B0_pattern_Variables
def F_pattern_Variables : AFn := ⟨49, [.cell 2 5 true],
  (.seq (.reg false [⟨some 1, .box 5 true (.t 0) true, none⟩, ⟨some 2, .alloc [(.p (.int .i64 0)), (.p (.int .i64 0)), (.p (.int .u64 0)), (.p (.str (bs []))), .nils] 5, none⟩])
  (.seq (.seq (.reg false [⟨some 6, .fadr 0 (.t 1), none⟩, ⟨some 7, .load 1 false (.t 6), none⟩, ⟨some 8, .arith .eql (.t 7) (.c (.p (.int .i64 26))), none⟩, ⟨some 9, .mv (.t 8) false, none⟩, ⟨some 10, .fadr 4 (.t 1), some (9, true)⟩, ⟨some 11, .load 1 false (.t 10), some (9, true)⟩, ⟨some 12, .lenS (.t 11), some (9, true)⟩, ⟨some 13, .arith .eql (.t 12) (.c (.p (.int .i64 1))), some (9, true)⟩, ⟨some 14, .pick (.t 9) (.t 13) (.c (.p (.bool false))), none⟩])
  (.cond (.t 14) (.seq (.reg false [⟨some 15, .fadr 4 (.t 1), none⟩, ⟨some 16, .load 1 false (.t 15), none⟩, ⟨some 17, .iadrS 5 (.t 16) (.c (.p (.int .i64 0))), none⟩, ⟨some 18, .load 5 true (.t 17), none⟩, ⟨some 19, .callf f_pattern_Variables [(.t 18)], none⟩, ⟨none, .store 5 (.t 2) (.t 19), none⟩])
  .ret) .skip))
  (.seq (.reg false [⟨some 20, .fadr 0 (.t 1), none⟩, ⟨some 21, .load 1 false (.t 20), none⟩, ⟨some 22, .fadr 1 (.t 1), none⟩, ⟨some 23, .load 1 false (.t 22), none⟩, ⟨some 24, .fadr 2 (.t 1), none⟩, ⟨some 25, .load 1 false (.t 24), none⟩, ⟨some 26, .fadr 3 (.t 1), none⟩, ⟨some 27, .load 1 false (.t 26), none⟩, ⟨some 28, .build [(.p (.int .i64 0)), (.p (.int .i64 0)), (.p (.int .u64 0)), (.p (.str (bs []))), .nils] [(0, 1, (.t 21)), (1, 1, (.t 23)), (2, 1, (.t 25)), (3, 1, (.t 27))], none⟩, ⟨some 3, .init 5 true (.t 28) false, none⟩])
  (.seq (.seq (.reg false [⟨some 29, .fadr 0 (.t 1), none⟩, ⟨some 30, .load 1 false (.t 29), none⟩, ⟨some 31, .callf f_pattern_variable [(.t 30)], none⟩])
  (.cond (.t 31) (.reg false [⟨some 32, .fadr 0 (.t 3), none⟩, ⟨none, .store 1 (.t 32) (.c (.p (.int .i64 1))), none⟩]) .skip))
  (.seq (.seq (.reg false [⟨some 33, .fadr 4 (.t 1), none⟩, ⟨some 34, .load 1 false (.t 33), none⟩, ⟨some 35, .lenS (.t 34), none⟩, ⟨some 36, .mv (.c (.p (.int .i64 0))) false, none⟩])
  (.block 0 L0_pattern_Variables))
  (.seq (.reg false [⟨some 48, .load 5 true (.t 3), none⟩, ⟨none, .store 5 (.t 2) (.t 48), none⟩])
  .ret)))))), false⟩
def B0_r24_Variables : K :=
  (.seq (.seq (.reg false [⟨some 21, .mv (.t 4) false, none⟩, ⟨some 22, .fadr 4 (.t 1), none⟩, ⟨some 23, .load 1 false (.t 22), none⟩, ⟨some 24, .lenS (.t 23), none⟩, ⟨some 25, .arith .lss (.t 21) (.t 24), none⟩])
  (.cond (.t 25) .skip (.exit 0)))
  (.seq (.block 1 (.reg true [⟨some 28, .fadr 4 (.t 3), none⟩, ⟨some 29, .load 1 false (.t 28), none⟩, ⟨some 30, .fadr 4 (.t 1), none⟩, ⟨some 31, .load 1 false (.t 30), none⟩, ⟨some 32, .mv (.t 4) false, none⟩, ⟨some 33, .iadrS 5 (.t 31) (.t 32), none⟩, ⟨some 34, .load 5 true (.t 33), none⟩, ⟨some 35, .callf f_r24_Variables [(.t 34)], none⟩, ⟨some 36, .bslice 5 [(.p (.int .i64 0)), (.p (.int .i64 0)), (.p (.int .u64 0)), (.p (.str (bs []))), .nils] 1 [(0, 5, (.t 35))], none⟩, ⟨some 37, .append 5 64 (.t 29) (.t 36), none⟩, ⟨some 38, .fadr 4 (.t 3), none⟩, ⟨none, .store 1 (.t 38) (.t 37), none⟩]))
  (.reg false [⟨some 26, .mv (.t 4) false, none⟩, ⟨some 27, .arith .add (.t 26) (.c (.p (.int .i64 1))), none⟩, ⟨some 4, .mv (.t 27) false, none⟩])))
def L0_r24_Variables : K := .loop [1, 2, 3, 4] B0_r24_Variables
def F_r24_Variables : AFn := ⟨43, [.cell 2 5 true],
  (.seq (.reg false [⟨some 1, .box 5 true (.t 0) true, none⟩, ⟨some 2, .alloc [(.p (.int .i64 0)), (.p (.int .i64 0)), (.p (.int .u64 0)), (.p (.str (bs []))), .nils] 5, none⟩])
  (.seq (.seq (.reg false [⟨some 5, .fadr 0 (.t 1), none⟩, ⟨some 6, .load 1 false (.t 5), none⟩, ⟨some 7, .arith .eql (.t 6) (.c (.p (.int .i64 26))), none⟩, ⟨some 8, .mv (.t 7) false, none⟩, ⟨some 9, .fadr 4 (.t 1), some (8, true)⟩, ⟨some 10, .load 1 false (.t 9), some (8, true)⟩, ⟨some 11, .lenS (.t 10), some (8, true)⟩, ⟨some 12, .arith .eql (.t 11) (.c (.p (.int .i64 1))), some (8, true)⟩, ⟨some 13, .pick (.t 8) (.t 12) (.c (.p (.bool false))), none⟩])
  (.cond (.t 13) (.seq (.reg false [⟨some 14, .fadr 4 (.t 1), none⟩, ⟨some 15, .load 1 false (.t 14), none⟩, ⟨some 16, .iadrS 5 (.t 15) (.c (.p (.int .i64 0))), none⟩, ⟨some 17, .load 5 true (.t 16), none⟩, ⟨some 18, .callf f_r24_Variables [(.t 17)], none⟩, ⟨none, .store 5 (.t 2) (.t 18), none⟩])
  .ret) .skip))
  (.seq (.reg false [⟨some 19, .load 5 true (.t 1), none⟩, ⟨some 3, .init 5 true (.t 19) false, none⟩])
  (.seq (.reg false [⟨some 20, .fadr 4 (.t 3), none⟩, ⟨none, .store 1 (.t 20) (.c .nils), none⟩])
  (.seq (.seq (.reg false [⟨some 4, .mv (.c (.p (.int .i64 0))) false, none⟩])
  (.block 0 L0_r24_Variables))
  (.seq (.seq (.reg false [⟨some 39, .load 5 true (.t 3), none⟩, ⟨some 40, .callf f_r24_variable [(.t 39)], none⟩])
  (.cond (.t 40) (.reg false [⟨some 41, .fadr 0 (.t 3), none⟩, ⟨none, .store 1 (.t 41) (.c (.p (.int .i64 1))), none⟩]) .skip))
  (.seq (.reg false [⟨some 42, .load 5 true (.t 3), none⟩, ⟨none, .store 5 (.t 2) (.t 42), none⟩])
  .ret))))))), false⟩
def F_pattern_Least : AFn := ⟨9, [.tmp 4],
  (.seq (.reg false [⟨some 2, .box 5 true (.t 0) true, none⟩, ⟨some 3, .box 5 true (.t 1) true, none⟩, ⟨some 4, .mv (.c (.p (.bool false))) false, none⟩])
  (.seq (.reg false [⟨some 5, .load 5 true (.t 2), none⟩, ⟨some 6, .load 5 true (.t 3), none⟩, ⟨some 7, .callf f_term_Compare [(.t 5), (.t 6)], none⟩, ⟨some 8, .arith .lss (.t 7) (.c (.p (.int .i64 0))), none⟩, ⟨some 4, .mv (.t 8) false, none⟩])
  .ret)), false⟩
def B0_r24_Compare : K :=
  (.seq (.seq (.reg false [⟨some 49, .mv (.t 6) false, none⟩, ⟨some 50, .fadr 4 (.t 2), none⟩, ⟨some 51, .load 1 false (.t 50), none⟩, ⟨some 52, .lenS (.t 51), none⟩, ⟨some 53, .arith .lss (.t 49) (.t 52), none⟩, ⟨some 54, .mv (.t 53) false, none⟩, ⟨some 55, .mv (.t 6) false, some (54, true)⟩, ⟨some 56, .fadr 4 (.t 3), some (54, true)⟩, ⟨some 57, .load 1 false (.t 56), some (54, true)⟩, ⟨some 58, .lenS (.t 57), some (54, true)⟩, ⟨some 59, .arith .lss (.t 55) (.t 58), some (54, true)⟩, ⟨some 60, .pick (.t 54) (.t 59) (.c (.p (.bool false))), none⟩])
  (.cond (.t 60) .skip (.exit 0)))
  (.seq (.block 1 (.seq (.reg true [⟨some 63, .fadr 4 (.t 2), none⟩, ⟨some 64, .load 1 false (.t 63), none⟩, ⟨some 65, .mv (.t 6) false, none⟩, ⟨some 66, .iadrS 5 (.t 64) (.t 65), none⟩, ⟨some 67, .load 5 true (.t 66), none⟩, ⟨some 68, .fadr 4 (.t 3), none⟩, ⟨some 69, .load 1 false (.t 68), none⟩, ⟨some 70, .mv (.t 6) false, none⟩, ⟨some 71, .iadrS 5 (.t 69) (.t 70), none⟩, ⟨some 72, .load 5 true (.t 71), none⟩, ⟨some 73, .callf f_r24_Compare [(.t 67), (.t 72)], none⟩, ⟨some 5, .mv (.t 73) false, none⟩])
  (.seq (.reg false [⟨some 74, .mv (.t 5) false, none⟩, ⟨some 75, .arith .neq (.t 74) (.c (.p (.int .i64 0))), none⟩])
  (.cond (.t 75) (.seq (.reg false [⟨some 76, .mv (.t 5) false, none⟩, ⟨some 4, .mv (.t 76) false, none⟩])
  .ret) .skip))))
  (.reg false [⟨some 61, .mv (.t 6) false, none⟩, ⟨some 62, .arith .add (.t 61) (.c (.p (.int .i64 1))), none⟩, ⟨some 6, .mv (.t 62) false, none⟩])))
def L0_r24_Compare : K := .loop [2, 3, 6] B0_r24_Compare
def F_r24_Compare : AFn := ⟨84, [.tmp 4],
  (.seq (.reg false [⟨some 2, .box 5 true (.t 0) true, none⟩, ⟨some 3, .box 5 true (.t 1) true, none⟩, ⟨some 4, .mv (.c (.p (.int .i64 0))) false, none⟩])
  (.seq (.reg true [⟨some 7, .load 5 true (.t 2), none⟩, ⟨some 8, .callf f_r10_Count [(.t 7)], none⟩, ⟨some 9, .load 5 true (.t 3), none⟩, ⟨some 10, .callf f_r10_Count [(.t 9)], none⟩, ⟨some 11, .callf f_r24_order [(.t 8), (.t 10)], none⟩, ⟨some 5, .mv (.t 11) false, none⟩])
  (.seq (.seq (.reg false [⟨some 12, .mv (.t 5) false, none⟩, ⟨some 13, .arith .eql (.t 12) (.c (.p (.int .i64 0))), none⟩])
  (.cond (.t 13) (.reg false [⟨some 14, .fadr 0 (.t 2), none⟩, ⟨some 15, .load 1 false (.t 14), none⟩, ⟨some 16, .fadr 0 (.t 3), none⟩, ⟨some 17, .load 1 false (.t 16), none⟩, ⟨some 18, .callf f_r24_order [(.t 15), (.t 17)], none⟩, ⟨some 5, .mv (.t 18) false, none⟩]) .skip))
  (.seq (.seq (.reg false [⟨some 19, .mv (.t 5) false, none⟩, ⟨some 20, .arith .eql (.t 19) (.c (.p (.int .i64 0))), none⟩])
  (.cond (.t 20) (.reg false [⟨some 21, .fadr 1 (.t 2), none⟩, ⟨some 22, .load 1 false (.t 21), none⟩, ⟨some 23, .fadr 1 (.t 3), none⟩, ⟨some 24, .load 1 false (.t 23), none⟩, ⟨some 25, .callf f_r24_order [(.t 22), (.t 24)], none⟩, ⟨some 5, .mv (.t 25) false, none⟩]) .skip))
  (.seq (.seq (.reg false [⟨some 26, .mv (.t 5) false, none⟩, ⟨some 27, .arith .neq (.t 26) (.c (.p (.int .i64 0))), none⟩])
  (.cond (.t 27) (.seq (.reg false [⟨some 28, .mv (.t 5) false, none⟩, ⟨some 4, .mv (.t 28) false, none⟩])
  .ret) .skip))
  (.seq (.seq (.reg false [⟨some 29, .fadr 2 (.t 2), none⟩, ⟨some 30, .load 1 false (.t 29), none⟩, ⟨some 31, .fadr 2 (.t 3), none⟩, ⟨some 32, .load 1 false (.t 31), none⟩, ⟨some 33, .arith .neq (.t 30) (.t 32), none⟩])
  (.cond (.t 33) (.seq (.seq (.reg false [⟨some 34, .fadr 2 (.t 2), none⟩, ⟨some 35, .load 1 false (.t 34), none⟩, ⟨some 36, .fadr 2 (.t 3), none⟩, ⟨some 37, .load 1 false (.t 36), none⟩, ⟨some 38, .arith .lss (.t 35) (.t 37), none⟩])
  (.cond (.t 38) (.seq (.reg false [⟨some 4, .mv (.c (.p (.int .i64 (-1)))) false, none⟩])
  .ret) .skip))
  (.seq (.reg false [⟨some 4, .mv (.c (.p (.int .i64 1))) false, none⟩])
  .ret)) .skip))
  (.seq (.seq (.reg false [⟨some 39, .fadr 3 (.t 2), none⟩, ⟨some 40, .load 1 false (.t 39), none⟩, ⟨some 41, .fadr 3 (.t 3), none⟩, ⟨some 42, .load 1 false (.t 41), none⟩, ⟨some 43, .arith .neq (.t 40) (.t 42), none⟩])
  (.cond (.t 43) (.seq (.seq (.reg false [⟨some 44, .fadr 3 (.t 2), none⟩, ⟨some 45, .load 1 false (.t 44), none⟩, ⟨some 46, .fadr 3 (.t 3), none⟩, ⟨some 47, .load 1 false (.t 46), none⟩, ⟨some 48, .arith .lss (.t 45) (.t 47), none⟩])
  (.cond (.t 48) (.seq (.reg false [⟨some 4, .mv (.c (.p (.int .i64 (-1)))) false, none⟩])
  .ret) .skip))
  (.seq (.reg false [⟨some 4, .mv (.c (.p (.int .i64 1))) false, none⟩])
  .ret)) .skip))
  (.seq (.seq (.reg false [⟨some 6, .mv (.c (.p (.int .i64 0))) false, none⟩])
  (.block 0 L0_r24_Compare))
  (.seq (.reg false [⟨some 77, .fadr 4 (.t 2), none⟩, ⟨some 78, .load 1 false (.t 77), none⟩, ⟨some 79, .lenS (.t 78), none⟩, ⟨some 80, .fadr 4 (.t 3), none⟩, ⟨some 81, .load 1 false (.t 80), none⟩, ⟨some 82, .lenS (.t 81), none⟩, ⟨some 83, .callf f_r24_order [(.t 79), (.t 82)], none⟩, ⟨some 4, .mv (.t 83) false, none⟩])
  .ret))))))))), false⟩
def B0_r10_left : K :=
  (.seq (.reg false [⟨some 12, .arith .lss (.t 11) (.t 10), none⟩])
  (.seq (.cond (.t 12) .skip (.exit 0))
  (.seq (.block 1 (.seq (.reg false [⟨some 13, .mv (.t 11) false, none⟩, ⟨some 5, .mv (.t 13) false, none⟩])
  (.seq (.seq (.reg false [⟨some 14, .mv (.t 1) false, none⟩, ⟨some 15, .arith .lss (.t 14) (.c (.p (.int .i64 0))), none⟩])
  (.cond (.t 15) (.seq (.reg false [⟨some 4, .mv (.c (.p (.int .i64 (-1)))) false, none⟩])
  .ret) .skip))
  (.reg false [⟨some 16, .fadr 4 (.t 2), none⟩, ⟨some 17, .load 1 false (.t 16), none⟩, ⟨some 18, .mv (.t 5) false, none⟩, ⟨some 19, .iadrS 5 (.t 17) (.t 18), none⟩, ⟨some 20, .load 5 true (.t 19), none⟩, ⟨some 21, .mv (.t 1) false, none⟩, ⟨some 22, .callf f_r10_left [(.t 20), (.t 21)], none⟩, ⟨some 1, .mv (.t 22) false, none⟩]))))
  (.reg false [⟨some 23, .arith .add (.t 11) (.c (.p (.int .i64 1))), none⟩, ⟨some 11, .mv (.t 23) false, none⟩]))))
def L0_r10_left : K := .loop [1, 2, 10, 11] B0_r10_left
def F_r10_left : AFn := ⟨25, [.tmp 4],
  (.seq (.reg false [⟨some 2, .box 5 true (.t 0) true, none⟩, ⟨some 4, .mv (.c (.p (.int .i64 0))) false, none⟩])
  (.seq (.reg false [⟨some 6, .mv (.t 1) false, none⟩, ⟨some 7, .arith .sub (.t 6) (.c (.p (.int .i64 1))), none⟩, ⟨some 1, .mv (.t 7) false, none⟩])
  (.seq (.seq (.reg false [⟨some 8, .fadr 4 (.t 2), none⟩, ⟨some 9, .load 1 false (.t 8), none⟩, ⟨some 10, .lenS (.t 9), none⟩, ⟨some 11, .mv (.c (.p (.int .i64 0))) false, none⟩])
  (.block 0 L0_r10_left))
  (.seq (.reg false [⟨some 24, .mv (.t 1) false, none⟩, ⟨some 4, .mv (.t 24) false, none⟩])
  .ret)))), false⟩
def F_law24_hole : AFn := ⟨8, [.cell 4 5 true],
  (.seq (.reg false [⟨some 4, .alloc [(.p (.int .i64 0)), (.p (.int .i64 0)), (.p (.int .u64 0)), (.p (.str (bs []))), .nils] 5, none⟩])
  (.seq (.reg false [⟨some 5, .mv (.t 1) false, none⟩, ⟨some 6, .mv (.t 0) false, none⟩, ⟨some 7, .build [(.p (.int .i64 0)), (.p (.int .i64 0)), (.p (.int .u64 0)), (.p (.str (bs []))), .nils] [(0, 1, (.c (.p (.int .i64 24)))), (1, 1, (.t 5)), (3, 1, (.t 6))], none⟩, ⟨none, .store 5 (.t 4) (.t 7), none⟩])
  .ret)), false⟩
def B0_term_Size : K :=
  (.seq (.reg false [⟨some 10, .arith .lss (.t 9) (.t 8), none⟩])
  (.seq (.cond (.t 10) .skip (.exit 0))
  (.seq (.block 1 (.seq (.reg false [⟨some 11, .iadrS 5 (.t 7) (.t 9), none⟩, ⟨some 12, .load 5 true (.t 11), none⟩, ⟨some 5, .init 5 true (.t 12) true, none⟩])
  (.reg false [⟨some 13, .mv (.t 3) false, none⟩, ⟨some 14, .load 5 true (.t 5), none⟩, ⟨some 15, .callf f_term_Size [(.t 14)], none⟩, ⟨some 16, .arith .add (.t 13) (.t 15), none⟩, ⟨some 3, .mv (.t 16) false, none⟩])))
  (.reg false [⟨some 17, .arith .add (.t 9) (.c (.p (.int .i64 1))), none⟩, ⟨some 9, .mv (.t 17) false, none⟩]))))
def L0_term_Size : K := .loop [3, 7, 8, 9] B0_term_Size
def F_term_Size : AFn := ⟨19, [.tmp 2],
  (.seq (.reg false [⟨some 1, .box 5 true (.t 0) true, none⟩, ⟨some 2, .mv (.c (.p (.int .i64 0))) false, none⟩])
  (.seq (.reg false [⟨some 3, .mv (.c (.p (.int .i64 1))) false, none⟩])
  (.seq (.seq (.reg false [⟨some 6, .fadr 4 (.t 1), none⟩, ⟨some 7, .load 1 false (.t 6), none⟩, ⟨some 8, .lenS (.t 7), none⟩, ⟨some 9, .mv (.c (.p (.int .i64 0))) false, none⟩])
  (.block 0 L0_term_Size))
  (.seq (.reg false [⟨some 18, .mv (.t 3) false, none⟩, ⟨some 2, .mv (.t 18) false, none⟩])
  .ret)))), false⟩
def B0_term_Depth : K :=
  (.seq (.reg false [⟨some 10, .arith .lss (.t 9) (.t 8), none⟩])
  (.seq (.cond (.t 10) .skip (.exit 0))
  (.seq (.block 1 (.seq (.reg false [⟨some 11, .iadrS 5 (.t 7) (.t 9), none⟩, ⟨some 12, .load 5 true (.t 11), none⟩, ⟨some 5, .init 5 true (.t 12) true, none⟩])
  (.reg false [⟨some 13, .mv (.t 3) false, none⟩, ⟨some 14, .load 5 true (.t 5), none⟩, ⟨some 15, .callf f_term_Depth [(.t 14)], none⟩, ⟨some 16, .minmax true [(.t 13), (.t 15)], none⟩, ⟨some 3, .mv (.t 16) false, none⟩])))
  (.reg false [⟨some 17, .arith .add (.t 9) (.c (.p (.int .i64 1))), none⟩, ⟨some 9, .mv (.t 17) false, none⟩]))))
def L0_term_Depth : K := .loop [3, 7, 8, 9] B0_term_Depth
def F_term_Depth : AFn := ⟨20, [.tmp 2],
  (.seq (.reg false [⟨some 1, .box 5 true (.t 0) true, none⟩, ⟨some 2, .mv (.c (.p (.int .i64 0))) false, none⟩])
  (.seq (.reg false [⟨some 3, .mv (.c (.p (.int .i64 0))) false, none⟩])
  (.seq (.seq (.reg false [⟨some 6, .fadr 4 (.t 1), none⟩, ⟨some 7, .load 1 false (.t 6), none⟩, ⟨some 8, .lenS (.t 7), none⟩, ⟨some 9, .mv (.c (.p (.int .i64 0))) false, none⟩])
  (.block 0 L0_term_Depth))
  (.seq (.reg false [⟨some 18, .mv (.t 3) false, none⟩, ⟨some 19, .arith .add (.t 18) (.c (.p (.int .i64 1))), none⟩, ⟨some 2, .mv (.t 19) false, none⟩])
  .ret)))), false⟩
def B0_pattern_nodes : K :=
  (.seq (.reg false [⟨some 12, .arith .lss (.t 11) (.t 10), none⟩])
  (.seq (.cond (.t 12) .skip (.exit 0))
  (.seq (.block 1 (.seq (.reg false [⟨some 13, .iadrS 5 (.t 9) (.t 11), none⟩, ⟨some 14, .load 5 true (.t 13), none⟩, ⟨some 6, .init 5 true (.t 14) true, none⟩])
  (.seq (.reg false [⟨some 15, .load 5 true (.t 6), none⟩, ⟨some 16, .mv (.t 1) false, none⟩, ⟨some 17, .callf f_pattern_nodes [(.t 15), (.t 16)], none⟩, ⟨some 7, .mv (.t 17) false, none⟩])
  (.seq (.reg false [⟨some 18, .mv (.t 7) false, none⟩, ⟨some 19, .arith .neq (.t 18) (.c (.p (.int .i64 0))), none⟩])
  (.cond (.t 19) (.seq (.reg false [⟨some 20, .mv (.t 7) false, none⟩, ⟨some 4, .mv (.t 20) false, none⟩])
  .ret) .skip)))))
  (.reg false [⟨some 21, .arith .add (.t 11) (.c (.p (.int .i64 1))), none⟩, ⟨some 11, .mv (.t 21) false, none⟩]))))
def L0_pattern_nodes : K := .loop [1, 2, 9, 10, 11] B0_pattern_nodes
def F_pattern_nodes : AFn := ⟨25, [.tmp 4],
  (.seq (.reg false [⟨some 2, .box 5 true (.t 0) true, none⟩, ⟨some 4, .mv (.c (.p (.int .i64 0))) false, none⟩])
  (.seq (.seq (.reg false [⟨some 8, .fadr 4 (.t 2), none⟩, ⟨some 9, .load 1 false (.t 8), none⟩, ⟨some 10, .lenS (.t 9), none⟩, ⟨some 11, .mv (.c (.p (.int .i64 0))) false, none⟩])
  (.block 0 L0_pattern_nodes))
  (.seq (.reg false [⟨some 22, .load 5 true (.t 2), none⟩, ⟨some 23, .mv (.t 1) false, none⟩, ⟨some 24, .callf f_pattern_node [(.t 22), (.t 23)], none⟩, ⟨some 4, .mv (.t 24) false, none⟩])
  .ret))), false⟩
def F_pattern_preorder : AFn := ⟨4, [.tmp 2],
  (.seq (.reg false [⟨some 1, .box 5 true (.t 0) true, none⟩, ⟨some 2, .mv (.c (.p .nilf)) false, none⟩])
  (.seq (.reg false [⟨some 3, .mkfn f_pattern_preorder_1 [(.t 1)], none⟩, ⟨some 2, .mv (.t 3) false, none⟩])
  .ret)), false⟩
def F_pattern_variable : AFn := ⟨9, [.tmp 2],
  (.seq (.reg false [⟨some 2, .mv (.c (.p (.bool false))) false, none⟩])
  (.seq (.reg false [⟨some 3, .mv (.t 0) false, none⟩, ⟨some 4, .arith .eql (.t 3) (.c (.p (.int .i64 24))), none⟩, ⟨some 5, .mv (.t 4) false, none⟩, ⟨some 6, .mv (.t 0) false, some (5, false)⟩, ⟨some 7, .arith .eql (.t 6) (.c (.p (.int .i64 25))), some (5, false)⟩, ⟨some 8, .pick (.t 5) (.c (.p (.bool true))) (.t 7), none⟩, ⟨some 2, .mv (.t 8) false, none⟩])
  .ret)), false⟩
def B0_r07_Deep : K :=
  (.seq (.seq (.reg false [⟨some 8, .mv (.t 5) false, none⟩, ⟨some 9, .fadr 4 (.t 2), none⟩, ⟨some 10, .load 1 false (.t 9), none⟩, ⟨some 11, .lenS (.t 10), none⟩, ⟨some 12, .arith .lss (.t 8) (.t 11), none⟩])
  (.cond (.t 12) .skip (.exit 0)))
  (.seq (.block 1 (.seq (.reg false [⟨some 15, .fadr 4 (.t 2), none⟩, ⟨some 16, .load 1 false (.t 15), none⟩, ⟨some 17, .mv (.t 5) false, none⟩, ⟨some 18, .iadrS 5 (.t 16) (.t 17), none⟩, ⟨some 19, .load 5 true (.t 18), none⟩, ⟨some 20, .mv (.t 1) false, none⟩, ⟨some 21, .arith .sub (.t 20) (.c (.p (.int .i64 1))), none⟩, ⟨some 22, .callf f_r07_Deep [(.t 19), (.t 21)], none⟩])
  (.cond (.t 22) (.seq (.reg false [⟨some 4, .mv (.c (.p (.bool true))) false, none⟩])
  .ret) .skip)))
  (.reg false [⟨some 13, .mv (.t 5) false, none⟩, ⟨some 14, .arith .add (.t 13) (.c (.p (.int .i64 1))), none⟩, ⟨some 5, .mv (.t 14) false, none⟩])))
def L0_r07_Deep : K := .loop [1, 2, 5] B0_r07_Deep
def F_r07_Deep : AFn := ⟨23, [.tmp 4],
  (.seq (.reg false [⟨some 2, .box 5 true (.t 0) true, none⟩, ⟨some 4, .mv (.c (.p (.bool false))) false, none⟩])
  (.seq (.seq (.reg false [⟨some 6, .mv (.t 1) false, none⟩, ⟨some 7, .arith .lss (.t 6) (.c (.p (.int .i64 1))), none⟩])
  (.cond (.t 7) (.seq (.reg false [⟨some 4, .mv (.c (.p (.bool true))) false, none⟩])
  .ret) .skip))
  (.seq (.seq (.reg false [⟨some 5, .mv (.c (.p (.int .i64 0))) false, none⟩])
  (.block 0 L0_r07_Deep))
  (.seq (.reg false [⟨some 4, .mv (.c (.p (.bool false))) false, none⟩])
  .ret)))), false⟩
def B0_r24_Postorder : K :=
  (.seq (.seq (.reg false [⟨some 6, .mv (.t 4) false, none⟩, ⟨some 7, .fadr 4 (.t 1), none⟩, ⟨some 8, .load 1 false (.t 7), none⟩, ⟨some 9, .lenS (.t 8), none⟩, ⟨some 10, .arith .lss (.t 6) (.t 9), none⟩])
  (.cond (.t 10) .skip (.exit 0)))
  (.seq (.block 1 (.reg false [⟨some 13, .mv (.t 3) false, none⟩, ⟨some 14, .fadr 4 (.t 1), none⟩, ⟨some 15, .load 1 false (.t 14), none⟩, ⟨some 16, .mv (.t 4) false, none⟩, ⟨some 17, .iadrS 5 (.t 15) (.t 16), none⟩, ⟨some 18, .load 5 true (.t 17), none⟩, ⟨some 19, .callf f_r24_Postorder [(.t 18)], none⟩, ⟨some 20, .append 5 64 (.t 13) (.t 19), none⟩, ⟨some 3, .mv (.t 20) true, none⟩]))
  (.reg false [⟨some 11, .mv (.t 4) false, none⟩, ⟨some 12, .arith .add (.t 11) (.c (.p (.int .i64 1))), none⟩, ⟨some 4, .mv (.t 12) false, none⟩])))
def L0_r24_Postorder : K := .loop [1, 3, 4] B0_r24_Postorder
def F_r24_Postorder : AFn := ⟨26, [.tmp 2],
  (.seq (.reg false [⟨some 1, .box 5 true (.t 0) true, none⟩, ⟨some 2, .mv (.c .nils) false, none⟩])
  (.seq (.reg false [⟨some 5, .bslice 5 [(.p (.int .i64 0)), (.p (.int .i64 0)), (.p (.int .u64 0)), (.p (.str (bs []))), .nils] 0 [], none⟩, ⟨some 3, .mv (.t 5) true, none⟩])
  (.seq (.seq (.reg false [⟨some 4, .mv (.c (.p (.int .i64 0))) false, none⟩])
  (.block 0 L0_r24_Postorder))
  (.seq (.reg false [⟨some 21, .mv (.t 3) false, none⟩, ⟨some 22, .load 5 true (.t 1), none⟩, ⟨some 23, .bslice 5 [(.p (.int .i64 0)), (.p (.int .i64 0)), (.p (.int .u64 0)), (.p (.str (bs []))), .nils] 1 [(0, 5, (.t 22))], none⟩, ⟨some 24, .append 5 64 (.t 21) (.t 23), none⟩, ⟨some 3, .mv (.t 24) true, none⟩])
  (.seq (.reg false [⟨some 25, .mv (.t 3) false, none⟩, ⟨some 2, .mv (.t 25) false, none⟩])
  .ret))))), false⟩
def B0_r24_node : K :=
  (.seq (.seq (.reg false [⟨some 95, .mv (.t 8) false, none⟩, ⟨some 96, .mv (.t 7) false, none⟩, ⟨some 97, .lenS (.t 96), none⟩, ⟨some 98, .arith .lss (.t 95) (.t 97), none⟩])
  (.cond (.t 98) .skip (.exit 0)))
  (.seq (.block 1 (.seq (.reg false [⟨some 101, .mv (.t 7) false, none⟩, ⟨some 102, .mv (.t 8) false, none⟩, ⟨some 103, .iadrS 5 (.t 101) (.t 102), none⟩, ⟨some 104, .fadr 0 (.t 103), none⟩, ⟨some 105, .load 1 false (.t 104), none⟩, ⟨some 106, .arith .eql (.t 105) (.c (.p (.int .i64 24))), none⟩, ⟨some 107, .mv (.t 106) false, none⟩, ⟨some 108, .mv (.t 7) false, some (107, false)⟩, ⟨some 109, .mv (.t 8) false, some (107, false)⟩, ⟨some 110, .iadrS 5 (.t 108) (.t 109), some (107, false)⟩, ⟨some 111, .fadr 0 (.t 110), some (107, false)⟩, ⟨some 112, .load 1 false (.t 111), some (107, false)⟩, ⟨some 113, .arith .eql (.t 112) (.c (.p (.int .i64 26))), some (107, false)⟩, ⟨some 114, .pick (.t 107) (.c (.p (.bool true))) (.t 113), none⟩])
  (.cond (.t 114) (.seq (.reg false [⟨some 4, .mv (.c (.p (.int .i64 12))) false, none⟩])
  .ret) .skip)))
  (.reg false [⟨some 99, .mv (.t 8) false, none⟩, ⟨some 100, .arith .add (.t 99) (.c (.p (.int .i64 1))), none⟩, ⟨some 8, .mv (.t 100) false, none⟩])))
def L0_r24_node : K := .loop [7, 8] B0_r24_node
def F_r24_node : AFn := ⟨115, [.tmp 4],
  (.seq (.reg false [⟨some 2, .box 5 true (.t 0) true, none⟩, ⟨some 4, .mv (.c (.p (.int .i64 0))) false, none⟩])
  (.seq (.seq (.reg true [⟨some 9, .fadr 0 (.t 2), none⟩, ⟨some 10, .load 1 false (.t 9), none⟩, ⟨some 11, .callf f_r04_Arity [(.t 10)], none⟩, ⟨some 12, .arith .lss (.t 11) (.c (.p (.int .i64 0))), none⟩, ⟨some 13, .mv (.t 12) false, none⟩, ⟨some 14, .fadr 0 (.t 2), some (13, false)⟩, ⟨some 15, .load 1 false (.t 14), some (13, false)⟩, ⟨some 16, .arith .eql (.t 15) (.c (.p (.int .i64 1))), some (13, false)⟩, ⟨some 17, .pick (.t 13) (.c (.p (.bool true))) (.t 16), none⟩, ⟨some 18, .mv (.t 17) false, none⟩, ⟨some 19, .fadr 0 (.t 2), some (18, false)⟩, ⟨some 20, .load 1 false (.t 19), some (18, false)⟩, ⟨some 21, .arith .eql (.t 20) (.c (.p (.int .i64 26))), some (18, false)⟩, ⟨some 22, .mv (.t 21) false, some (18, false)⟩, ⟨some 23, .mv (.t 1) false, some (22, true)⟩, ⟨some 24, .not (.t 23), some (22, true)⟩, ⟨some 25, .pick (.t 22) (.t 24) (.c (.p (.bool false))), some (18, false)⟩, ⟨some 26, .pick (.t 18) (.c (.p (.bool true))) (.t 25), none⟩, ⟨some 27, .mv (.t 26) false, none⟩, ⟨some 28, .fadr 4 (.t 2), some (27, false)⟩, ⟨some 29, .load 1 false (.t 28), some (27, false)⟩, ⟨some 30, .lenS (.t 29), some (27, false)⟩, ⟨some 31, .fadr 0 (.t 2), some (27, false)⟩, ⟨some 32, .load 1 false (.t 31), some (27, false)⟩, ⟨some 33, .callf f_r04_Arity [(.t 32)], some (27, false)⟩, ⟨some 34, .arith .neq (.t 30) (.t 33), some (27, false)⟩, ⟨some 35, .pick (.t 27) (.c (.p (.bool true))) (.t 34), none⟩])
  (.cond (.t 35) (.seq (.reg false [⟨some 4, .mv (.c (.p (.int .i64 4))) false, none⟩])
  .ret) .skip))
  (.seq (.seq (.reg false [⟨some 36, .load 5 true (.t 2), none⟩, ⟨some 37, .callf f_r24_variable [(.t 36)], none⟩, ⟨some 38, .not (.t 37), none⟩, ⟨some 39, .mv (.t 38) false, none⟩, ⟨some 40, .fadr 3 (.t 2), some (39, true)⟩, ⟨some 41, .load 1 false (.t 40), some (39, true)⟩, ⟨some 42, .arith .neq (.t 41) (.c (.p (.str (bs [])))), some (39, true)⟩, ⟨some 43, .pick (.t 39) (.t 42) (.c (.p (.bool false))), none⟩, ⟨some 44, .mv (.t 43) false, none⟩, ⟨some 45, .fadr 0 (.t 2), some (44, false)⟩, ⟨some 46, .load 1 false (.t 45), some (44, false)⟩, ⟨some 47, .arith .neq (.t 46) (.c (.p (.int .i64 2))), some (44, false)⟩, ⟨some 48, .mv (.t 47) false, some (44, false)⟩, ⟨some 49, .fadr 0 (.t 2), some (48, true)⟩, ⟨some 50, .load 1 false (.t 49), some (48, true)⟩, ⟨some 51, .arith .neq (.t 50) (.c (.p (.int .i64 21))), some (48, true)⟩, ⟨some 52, .pick (.t 48) (.t 51) (.c (.p (.bool false))), some (44, false)⟩, ⟨some 53, .mv (.t 52) false, some (44, false)⟩, ⟨some 54, .fadr 2 (.t 2), some (53, true)⟩, ⟨some 55, .load 1 false (.t 54), some (53, true)⟩, ⟨some 56, .arith .neq (.t 55) (.c (.p (.int .u64 0))), some (53, true)⟩, ⟨some 57, .pick (.t 53) (.t 56) (.c (.p (.bool false))), some (44, false)⟩, ⟨some 58, .pick (.t 44) (.c (.p (.bool true))) (.t 57), none⟩])
  (.cond (.t 58) (.seq (.reg false [⟨some 4, .mv (.c (.p (.int .i64 4))) false, none⟩])
  .ret) .skip))
  (.seq (.seq (.reg false [⟨some 59, .load 5 true (.t 2), none⟩, ⟨some 60, .callf f_r24_variable [(.t 59)], none⟩, ⟨some 61, .mv (.t 60) false, none⟩, ⟨some 62, .fadr 3 (.t 2), some (61, true)⟩, ⟨some 63, .load 1 false (.t 62), some (61, true)⟩, ⟨some 64, .callf f_r07_Name [(.t 63)], some (61, true)⟩, ⟨some 65, .not (.t 64), some (61, true)⟩, ⟨some 66, .pick (.t 61) (.t 65) (.c (.p (.bool false))), none⟩])
  (.cond (.t 66) (.seq (.reg false [⟨some 4, .mv (.c (.p (.int .i64 5))) false, none⟩])
  .ret) .skip))
  (.seq (.reg true [⟨some 68, .fadr 0 (.t 2), none⟩, ⟨some 69, .load 1 false (.t 68), none⟩, ⟨some 70, .fadr 1 (.t 2), none⟩, ⟨some 71, .load 1 false (.t 70), none⟩, ⟨some 72, .fadr 2 (.t 2), none⟩, ⟨some 73, .load 1 false (.t 72), none⟩, ⟨some 74, .load 5 true (.t 2), none⟩, ⟨some 75, .callf f_r24_widths [(.t 74)], none⟩, ⟨some 76, .callf f_r04_Width [(.t 69), (.t 71), (.t 73), (.t 75)], none⟩, ⟨some 67, .mv (.t 76) false, none⟩, ⟨some 77, .extract (.t 67) 0, none⟩, ⟨some 78, .extract (.t 67) 1, none⟩, ⟨some 5, .mv (.t 77) false, none⟩, ⟨some 6, .mv (.t 78) false, none⟩])
  (.seq (.seq (.reg false [⟨some 79, .mv (.t 6) false, none⟩, ⟨some 80, .arith .neq (.t 79) (.c (.p (.int .i64 0))), none⟩, ⟨some 81, .mv (.t 80) false, none⟩, ⟨some 82, .mv (.t 5) false, some (81, false)⟩, ⟨some 83, .fadr 1 (.t 2), some (81, false)⟩, ⟨some 84, .load 1 false (.t 83), some (81, false)⟩, ⟨some 85, .arith .neq (.t 82) (.t 84), some (81, false)⟩, ⟨some 86, .pick (.t 81) (.c (.p (.bool true))) (.t 85), none⟩])
  (.cond (.t 86) (.seq (.reg false [⟨some 4, .mv (.c (.p (.int .i64 3))) false, none⟩])
  .ret) .skip))
  (.seq (.seq (.reg false [⟨some 87, .fadr 0 (.t 2), none⟩, ⟨some 88, .load 1 false (.t 87), none⟩, ⟨some 89, .arith .neq (.t 88) (.c (.p (.int .i64 26))), none⟩])
  (.cond (.t 89) (.seq (.reg false [⟨some 4, .mv (.c (.p (.int .i64 0))) false, none⟩])
  .ret) .skip))
  (.seq (.reg false [⟨some 90, .fadr 4 (.t 2), none⟩, ⟨some 91, .load 1 false (.t 90), none⟩, ⟨some 92, .iadrS 5 (.t 91) (.c (.p (.int .i64 0))), none⟩, ⟨some 93, .load 5 true (.t 92), none⟩, ⟨some 94, .callf f_r24_Postorder [(.t 93)], none⟩, ⟨some 7, .mv (.t 94) false, none⟩])
  (.seq (.seq (.reg false [⟨some 8, .mv (.c (.p (.int .i64 0))) false, none⟩])
  (.block 0 L0_r24_node))
  (.seq (.reg false [⟨some 4, .mv (.c (.p (.int .i64 0))) false, none⟩])
  .ret)))))))))), false⟩
def B1_r24_names : K :=
  (.seq (.seq (.reg false [⟨some 24, .mv (.t 8) false, none⟩, ⟨some 25, .mv (.t 6) false, none⟩, ⟨some 26, .arith .lss (.t 24) (.t 25), none⟩])
  (.cond (.t 26) .skip (.exit 2)))
  (.seq (.block 3 (.seq (.reg true [⟨some 29, .mv (.t 4) false, none⟩, ⟨some 30, .mv (.t 8) false, none⟩, ⟨some 31, .iadrS 5 (.t 29) (.t 30), none⟩, ⟨some 32, .load 5 true (.t 31), none⟩, ⟨some 33, .callf f_r24_variable [(.t 32)], none⟩, ⟨some 34, .mv (.t 33) false, none⟩, ⟨some 35, .mv (.t 4) false, some (34, true)⟩, ⟨some 36, .mv (.t 8) false, some (34, true)⟩, ⟨some 37, .iadrS 5 (.t 35) (.t 36), some (34, true)⟩, ⟨some 38, .fadr 3 (.t 37), some (34, true)⟩, ⟨some 39, .load 1 false (.t 38), some (34, true)⟩, ⟨some 40, .mv (.t 4) false, some (34, true)⟩, ⟨some 41, .mv (.t 6) false, some (34, true)⟩, ⟨some 42, .iadrS 5 (.t 40) (.t 41), some (34, true)⟩, ⟨some 43, .fadr 3 (.t 42), some (34, true)⟩, ⟨some 44, .load 1 false (.t 43), some (34, true)⟩, ⟨some 45, .arith .eql (.t 39) (.t 44), some (34, true)⟩, ⟨some 46, .pick (.t 34) (.t 45) (.c (.p (.bool false))), none⟩])
  (.cond (.t 46) (.seq (.reg false [⟨some 7, .mv (.c (.p (.bool true))) false, none⟩])
  (.seq (.reg true [⟨some 47, .mv (.t 4) false, none⟩, ⟨some 48, .mv (.t 8) false, none⟩, ⟨some 49, .iadrS 5 (.t 47) (.t 48), none⟩, ⟨some 50, .fadr 1 (.t 49), none⟩, ⟨some 51, .load 1 false (.t 50), none⟩, ⟨some 52, .mv (.t 4) false, none⟩, ⟨some 53, .mv (.t 6) false, none⟩, ⟨some 54, .iadrS 5 (.t 52) (.t 53), none⟩, ⟨some 55, .fadr 1 (.t 54), none⟩, ⟨some 56, .load 1 false (.t 55), none⟩, ⟨some 57, .arith .neq (.t 51) (.t 56), none⟩, ⟨some 58, .mv (.t 57) false, none⟩, ⟨some 59, .mv (.t 4) false, some (58, false)⟩, ⟨some 60, .mv (.t 8) false, some (58, false)⟩, ⟨some 61, .iadrS 5 (.t 59) (.t 60), some (58, false)⟩, ⟨some 62, .fadr 0 (.t 61), some (58, false)⟩, ⟨some 63, .load 1 false (.t 62), some (58, false)⟩, ⟨some 64, .mv (.t 4) false, some (58, false)⟩, ⟨some 65, .mv (.t 6) false, some (58, false)⟩, ⟨some 66, .iadrS 5 (.t 64) (.t 65), some (58, false)⟩, ⟨some 67, .fadr 0 (.t 66), some (58, false)⟩, ⟨some 68, .load 1 false (.t 67), some (58, false)⟩, ⟨some 69, .arith .neq (.t 63) (.t 68), some (58, false)⟩, ⟨some 70, .pick (.t 58) (.c (.p (.bool true))) (.t 69), none⟩])
  (.cond (.t 70) (.seq (.reg false [⟨some 2, .mv (.c .nils) false, none⟩, ⟨some 3, .mv (.c (.p (.bool false))) false, none⟩])
  .ret) .skip))) .skip)))
  (.reg false [⟨some 27, .mv (.t 8) false, none⟩, ⟨some 28, .arith .add (.t 27) (.c (.p (.int .i64 1))), none⟩, ⟨some 8, .mv (.t 28) false, none⟩])))
def L1_r24_names : K := .loop [4, 5, 6, 7, 8] B1_r24_names
def B0_r24_names : K :=
  (.seq (.seq (.reg false [⟨some 12, .mv (.t 6) false, none⟩, ⟨some 13, .mv (.t 4) false, none⟩, ⟨some 14, .lenS (.t 13), none⟩, ⟨some 15, .arith .lss (.t 12) (.t 14), none⟩])
  (.cond (.t 15) .skip (.exit 0)))
  (.seq (.block 1 (.seq (.seq (.reg false [⟨some 18, .mv (.t 4) false, none⟩, ⟨some 19, .mv (.t 6) false, none⟩, ⟨some 20, .iadrS 5 (.t 18) (.t 19), none⟩, ⟨some 21, .load 5 true (.t 20), none⟩, ⟨some 22, .callf f_r24_variable [(.t 21)], none⟩, ⟨some 23, .not (.t 22), none⟩])
  (.cond (.t 23) (.exit 1) .skip))
  (.seq (.reg false [⟨some 7, .mv (.c (.p (.bool false))) false, none⟩])
  (.seq (.seq (.reg false [⟨some 8, .mv (.c (.p (.int .i64 0))) false, none⟩])
  (.block 2 L1_r24_names))
  (.seq (.reg false [⟨some 71, .mv (.t 7) false, none⟩, ⟨some 72, .not (.t 71), none⟩])
  (.cond (.t 72) (.reg false [⟨some 73, .mv (.t 5) false, none⟩, ⟨some 74, .mv (.t 4) false, none⟩, ⟨some 75, .mv (.t 6) false, none⟩, ⟨some 76, .iadrS 5 (.t 74) (.t 75), none⟩, ⟨some 77, .fadr 3 (.t 76), none⟩, ⟨some 78, .load 1 false (.t 77), none⟩, ⟨some 79, .bslice 1 [(.p (.str (bs [])))] 1 [(0, 1, (.t 78))], none⟩, ⟨some 80, .append 1 16 (.t 73) (.t 79), none⟩, ⟨some 5, .mv (.t 80) true, none⟩]) .skip))))))
  (.reg false [⟨some 16, .mv (.t 6) false, none⟩, ⟨some 17, .arith .add (.t 16) (.c (.p (.int .i64 1))), none⟩, ⟨some 6, .mv (.t 17) false, none⟩])))
def L0_r24_names : K := .loop [4, 5, 6] B0_r24_names
def F_r24_names : AFn := ⟨82, [.tmp 2, .tmp 3],
  (.seq (.reg false [⟨some 1, .box 5 true (.t 0) true, none⟩, ⟨some 2, .mv (.c .nils) false, none⟩, ⟨some 3, .mv (.c (.p (.bool false))) false, none⟩])
  (.seq (.reg false [⟨some 9, .load 5 true (.t 1), none⟩, ⟨some 10, .callf f_r24_Preorder [(.t 9)], none⟩, ⟨some 4, .mv (.t 10) false, none⟩])
  (.seq (.reg false [⟨some 11, .bslice 1 [(.p (.str (bs [])))] 0 [], none⟩, ⟨some 5, .mv (.t 11) true, none⟩])
  (.seq (.seq (.reg false [⟨some 6, .mv (.c (.p (.int .i64 0))) false, none⟩])
  (.block 0 L0_r24_names))
  (.seq (.reg false [⟨some 81, .mv (.t 5) false, none⟩, ⟨some 2, .mv (.t 81) false, none⟩, ⟨some 3, .mv (.c (.p (.bool true))) false, none⟩])
  .ret))))), false⟩
def B0_pattern_at : K :=
  (.seq (.reg false [⟨some 44, .arith .lss (.t 43) (.t 42), none⟩])
  (.seq (.cond (.t 44) .skip (.exit 0))
  (.seq (.block 1 (.seq (.reg false [⟨some 45, .iadrS 5 (.t 41) (.t 43), none⟩, ⟨some 46, .load 5 true (.t 45), none⟩, ⟨some 8, .init 5 true (.t 46) true, none⟩])
  (.seq (.reg false [⟨some 48, .load 5 true (.t 8), none⟩, ⟨some 49, .mv (.t 1) false, none⟩, ⟨some 50, .callf f_pattern_at [(.t 48), (.t 49)], none⟩, ⟨some 47, .mv (.t 50) false, none⟩, ⟨some 51, .extract (.t 47) 0, none⟩, ⟨some 52, .extract (.t 47) 1, none⟩, ⟨some 9, .init 5 true (.t 51) true, none⟩, ⟨some 10, .mv (.t 52) false, none⟩])
  (.seq (.seq (.reg false [⟨some 53, .mv (.t 10) false, none⟩, ⟨some 54, .not (.t 53), none⟩])
  (.cond (.t 54) (.seq (.reg false [⟨some 55, .build [(.p (.int .i64 0)), (.p (.int .i64 0)), (.p (.int .u64 0)), (.p (.str (bs []))), .nils] [], none⟩, ⟨none, .store 5 (.t 4) (.t 55), none⟩, ⟨some 5, .mv (.c (.p (.bool false))) false, none⟩])
  .ret) .skip))
  (.reg false [⟨some 56, .fadr 4 (.t 6), none⟩, ⟨some 57, .load 1 false (.t 56), none⟩, ⟨some 58, .load 5 true (.t 9), none⟩, ⟨some 59, .bslice 5 [(.p (.int .i64 0)), (.p (.int .i64 0)), (.p (.int .u64 0)), (.p (.str (bs []))), .nils] 1 [(0, 5, (.t 58))], none⟩, ⟨some 60, .append 5 64 (.t 57) (.t 59), none⟩, ⟨some 61, .fadr 4 (.t 6), none⟩, ⟨none, .store 1 (.t 61) (.t 60), none⟩])))))
  (.reg false [⟨some 62, .arith .add (.t 43) (.c (.p (.int .i64 1))), none⟩, ⟨some 43, .mv (.t 62) false, none⟩]))))
def L0_pattern_at : K := .loop [1, 2, 4, 6, 41, 42, 43] B0_pattern_at
def F_pattern_at : AFn := ⟨81, [.cell 4 5 true, .tmp 5],
  (.seq (.reg false [⟨some 2, .box 5 true (.t 0) true, none⟩, ⟨some 4, .alloc [(.p (.int .i64 0)), (.p (.int .i64 0)), (.p (.int .u64 0)), (.p (.str (bs []))), .nils] 5, none⟩, ⟨some 5, .mv (.c (.p (.bool false))) false, none⟩])
  (.seq (.reg false [⟨some 13, .fadr 0 (.t 2), none⟩, ⟨some 14, .load 1 false (.t 13), none⟩, ⟨some 15, .fadr 1 (.t 2), none⟩, ⟨some 16, .load 1 false (.t 15), none⟩, ⟨some 17, .fadr 2 (.t 2), none⟩, ⟨some 18, .load 1 false (.t 17), none⟩, ⟨some 19, .fadr 3 (.t 2), none⟩, ⟨some 20, .load 1 false (.t 19), none⟩, ⟨some 21, .build [(.p (.int .i64 0)), (.p (.int .i64 0)), (.p (.int .u64 0)), (.p (.str (bs []))), .nils] [(0, 1, (.t 14)), (1, 1, (.t 16)), (2, 1, (.t 18)), (3, 1, (.t 20))], none⟩, ⟨some 6, .init 5 true (.t 21) false, none⟩])
  (.seq (.seq (.reg false [⟨some 22, .fadr 4 (.t 2), none⟩, ⟨some 23, .load 1 false (.t 22), none⟩, ⟨some 24, .lenS (.t 23), none⟩, ⟨some 25, .arith .eql (.t 24) (.c (.p (.int .i64 0))), none⟩])
  (.cond (.t 25) (.seq (.seq (.reg false [⟨some 26, .fadr 1 (.t 2), none⟩, ⟨some 27, .load 1 false (.t 26), none⟩, ⟨some 28, .arith .eql (.t 27) (.c (.p (.int .i64 0))), none⟩])
  (.cond (.t 28) (.seq (.reg false [⟨some 29, .mv (.t 1) false, none⟩, ⟨some 30, .fadr 1 (.t 6), none⟩, ⟨none, .store 1 (.t 30) (.t 29), none⟩])
  (.seq (.reg false [⟨some 31, .fadr 0 (.t 2), none⟩, ⟨some 32, .load 1 false (.t 31), none⟩, ⟨some 33, .arith .eql (.t 32) (.c (.p (.int .i64 2))), none⟩])
  (.cond (.t 33) (.reg false [⟨some 34, .mv (.t 1) false, none⟩, ⟨some 35, .fadr 2 (.t 2), none⟩, ⟨some 36, .load 1 false (.t 35), none⟩, ⟨some 37, .callf f_bits_Cut [(.t 34), (.t 36)], none⟩, ⟨some 38, .fadr 2 (.t 6), none⟩, ⟨none, .store 1 (.t 38) (.t 37), none⟩]) .skip))) .skip))
  (.seq (.reg false [⟨some 39, .load 5 true (.t 6), none⟩, ⟨none, .store 5 (.t 4) (.t 39), none⟩, ⟨some 5, .mv (.c (.p (.bool true))) false, none⟩])
  .ret)) .skip))
  (.seq (.seq (.reg false [⟨some 40, .fadr 4 (.t 2), none⟩, ⟨some 41, .load 1 false (.t 40), none⟩, ⟨some 42, .lenS (.t 41), none⟩, ⟨some 43, .mv (.c (.p (.int .i64 0))) false, none⟩])
  (.block 0 L0_pattern_at))
  (.seq (.reg true [⟨some 64, .fadr 0 (.t 2), none⟩, ⟨some 65, .load 1 false (.t 64), none⟩, ⟨some 66, .fadr 1 (.t 2), none⟩, ⟨some 67, .load 1 false (.t 66), none⟩, ⟨some 68, .fadr 2 (.t 2), none⟩, ⟨some 69, .load 1 false (.t 68), none⟩, ⟨some 70, .fadr 4 (.t 6), none⟩, ⟨some 71, .load 1 false (.t 70), none⟩, ⟨some 72, .callf f_pattern_widths [(.t 71)], none⟩, ⟨some 73, .callf f_opinfo_Width [(.t 65), (.t 67), (.t 69), (.t 72)], none⟩, ⟨some 63, .mv (.t 73) false, none⟩, ⟨some 74, .extract (.t 63) 0, none⟩, ⟨some 75, .extract (.t 63) 1, none⟩, ⟨some 11, .mv (.t 74) false, none⟩, ⟨some 12, .mv (.t 75) false, none⟩])
  (.seq (.reg false [⟨some 76, .mv (.t 11) false, none⟩, ⟨some 77, .fadr 1 (.t 6), none⟩, ⟨none, .store 1 (.t 77) (.t 76), none⟩])
  (.seq (.reg false [⟨some 78, .load 5 true (.t 6), none⟩, ⟨some 79, .mv (.t 12) false, none⟩, ⟨some 80, .arith .eql (.t 79) (.c (.p (.int .i64 0))), none⟩, ⟨none, .store 5 (.t 4) (.t 78), none⟩, ⟨some 5, .mv (.t 80) false, none⟩])
  .ret))))))), false⟩
def B0_r24_at : K :=
  (.seq (.seq (.reg false [⟨some 32, .mv (.t 7) false, none⟩, ⟨some 33, .fadr 4 (.t 2), none⟩, ⟨some 34, .load 1 false (.t 33), none⟩, ⟨some 35, .lenS (.t 34), none⟩, ⟨some 36, .arith .lss (.t 32) (.t 35), none⟩])
  (.cond (.t 36) .skip (.exit 0)))
  (.seq (.block 1 (.seq (.reg false [⟨some 40, .fadr 4 (.t 2), none⟩, ⟨some 41, .load 1 false (.t 40), none⟩, ⟨some 42, .mv (.t 7) false, none⟩, ⟨some 43, .iadrS 5 (.t 41) (.t 42), none⟩, ⟨some 44, .load 5 true (.t 43), none⟩, ⟨some 45, .mv (.t 1) false, none⟩, ⟨some 46, .callf f_r24_at [(.t 44), (.t 45)], none⟩, ⟨some 39, .mv (.t 46) false, none⟩, ⟨some 47, .extract (.t 39) 0, none⟩, ⟨some 48, .extract (.t 39) 1, none⟩, ⟨some 8, .init 5 true (.t 47) true, none⟩, ⟨some 9, .mv (.t 48) false, none⟩])
  (.seq (.seq (.reg false [⟨some 49, .mv (.t 9) false, none⟩, ⟨some 50, .arith .neq (.t 49) (.c (.p (.int .i64 0))), none⟩])
  (.cond (.t 50) (.seq (.reg false [⟨some 51, .build [(.p (.int .i64 0)), (.p (.int .i64 0)), (.p (.int .u64 0)), (.p (.str (bs []))), .nils] [], none⟩, ⟨some 52, .mv (.t 9) false, none⟩, ⟨none, .store 5 (.t 4) (.t 51), none⟩, ⟨some 5, .mv (.t 52) false, none⟩])
  .ret) .skip))
  (.reg false [⟨some 53, .fadr 4 (.t 6), none⟩, ⟨some 54, .load 1 false (.t 53), none⟩, ⟨some 55, .load 5 true (.t 8), none⟩, ⟨some 56, .bslice 5 [(.p (.int .i64 0)), (.p (.int .i64 0)), (.p (.int .u64 0)), (.p (.str (bs []))), .nils] 1 [(0, 5, (.t 55))], none⟩, ⟨some 57, .append 5 64 (.t 54) (.t 56), none⟩, ⟨some 58, .fadr 4 (.t 6), none⟩, ⟨none, .store 1 (.t 58) (.t 57), none⟩]))))
  (.reg false [⟨some 37, .mv (.t 7) false, none⟩, ⟨some 38, .arith .add (.t 37) (.c (.p (.int .i64 1))), none⟩, ⟨some 7, .mv (.t 38) false, none⟩])))
def L0_r24_at : K := .loop [1, 2, 4, 6, 7] B0_r24_at
def F_r24_at : AFn := ⟨77, [.cell 4 5 true, .tmp 5],
  (.seq (.reg false [⟨some 2, .box 5 true (.t 0) true, none⟩, ⟨some 4, .alloc [(.p (.int .i64 0)), (.p (.int .i64 0)), (.p (.int .u64 0)), (.p (.str (bs []))), .nils] 5, none⟩, ⟨some 5, .mv (.c (.p (.int .i64 0))) false, none⟩])
  (.seq (.reg false [⟨some 12, .load 5 true (.t 2), none⟩, ⟨some 6, .init 5 true (.t 12) false, none⟩])
  (.seq (.reg false [⟨some 13, .fadr 4 (.t 6), none⟩, ⟨none, .store 1 (.t 13) (.c .nils), none⟩])
  (.seq (.seq (.reg false [⟨some 14, .fadr 4 (.t 2), none⟩, ⟨some 15, .load 1 false (.t 14), none⟩, ⟨some 16, .lenS (.t 15), none⟩, ⟨some 17, .arith .eql (.t 16) (.c (.p (.int .i64 0))), none⟩])
  (.cond (.t 17) (.seq (.seq (.reg false [⟨some 18, .fadr 1 (.t 2), none⟩, ⟨some 19, .load 1 false (.t 18), none⟩, ⟨some 20, .arith .eql (.t 19) (.c (.p (.int .i64 0))), none⟩])
  (.cond (.t 20) (.seq (.reg false [⟨some 21, .mv (.t 1) false, none⟩, ⟨some 22, .fadr 1 (.t 6), none⟩, ⟨none, .store 1 (.t 22) (.t 21), none⟩])
  (.seq (.reg false [⟨some 23, .fadr 0 (.t 2), none⟩, ⟨some 24, .load 1 false (.t 23), none⟩, ⟨some 25, .arith .eql (.t 24) (.c (.p (.int .i64 2))), none⟩])
  (.cond (.t 25) (.reg false [⟨some 26, .mv (.t 1) false, none⟩, ⟨some 27, .fadr 2 (.t 2), none⟩, ⟨some 28, .load 1 false (.t 27), none⟩, ⟨some 29, .callf f_r01_Cut [(.t 26), (.t 28)], none⟩, ⟨some 30, .fadr 2 (.t 6), none⟩, ⟨none, .store 1 (.t 30) (.t 29), none⟩]) .skip))) .skip))
  (.seq (.reg false [⟨some 31, .load 5 true (.t 6), none⟩, ⟨none, .store 5 (.t 4) (.t 31), none⟩, ⟨some 5, .mv (.c (.p (.int .i64 0))) false, none⟩])
  .ret)) .skip))
  (.seq (.seq (.reg false [⟨some 7, .mv (.c (.p (.int .i64 0))) false, none⟩])
  (.block 0 L0_r24_at))
  (.seq (.reg true [⟨some 60, .fadr 0 (.t 6), none⟩, ⟨some 61, .load 1 false (.t 60), none⟩, ⟨some 62, .fadr 1 (.t 6), none⟩, ⟨some 63, .load 1 false (.t 62), none⟩, ⟨some 64, .fadr 2 (.t 6), none⟩, ⟨some 65, .load 1 false (.t 64), none⟩, ⟨some 66, .load 5 true (.t 6), none⟩, ⟨some 67, .callf f_r24_widths [(.t 66)], none⟩, ⟨some 68, .callf f_r04_Width [(.t 61), (.t 63), (.t 65), (.t 67)], none⟩, ⟨some 59, .mv (.t 68) false, none⟩, ⟨some 69, .extract (.t 59) 0, none⟩, ⟨some 70, .extract (.t 59) 1, none⟩, ⟨some 10, .mv (.t 69) false, none⟩, ⟨some 11, .mv (.t 70) false, none⟩])
  (.seq (.seq (.reg false [⟨some 71, .mv (.t 11) false, none⟩, ⟨some 72, .arith .neq (.t 71) (.c (.p (.int .i64 0))), none⟩])
  (.cond (.t 72) (.seq (.reg false [⟨some 73, .build [(.p (.int .i64 0)), (.p (.int .i64 0)), (.p (.int .u64 0)), (.p (.str (bs []))), .nils] [], none⟩, ⟨none, .store 5 (.t 4) (.t 73), none⟩, ⟨some 5, .mv (.c (.p (.int .i64 3))) false, none⟩])
  .ret) .skip))
  (.seq (.reg false [⟨some 74, .mv (.t 10) false, none⟩, ⟨some 75, .fadr 1 (.t 6), none⟩, ⟨none, .store 1 (.t 75) (.t 74), none⟩])
  (.seq (.reg false [⟨some 76, .load 5 true (.t 6), none⟩, ⟨none, .store 5 (.t 4) (.t 76), none⟩, ⟨some 5, .mv (.c (.p (.int .i64 0))) false, none⟩])
  .ret))))))))), false⟩
def A1_pattern_variables : K :=
  (.reg false [⟨some 8, .init 5 true (.t 19) true, none⟩])
def B1_pattern_variables : K :=
  (.block 3 (.seq (.seq (.reg false [⟨some 20, .fadr 0 (.t 8), none⟩, ⟨some 21, .load 1 false (.t 20), none⟩, ⟨some 22, .load 1 false (.t 2), none⟩, ⟨some 23, .arith .neq (.t 21) (.t 22), none⟩])
  (.cond (.t 23) (.exit 3) .skip))
  (.seq (.reg false [⟨some 25, .load 1 false (.t 5), none⟩, ⟨some 26, .fadr 3 (.t 8), none⟩, ⟨some 27, .load 1 false (.t 26), none⟩, ⟨some 28, .callf f_slices_BinarySearchFunc_api_Var_api_Var_string [(.t 25), (.t 27), (.c (.p (.fn f_pattern_variables_1 [])))], none⟩, ⟨some 24, .mv (.t 28) false, none⟩, ⟨some 29, .extract (.t 24) 0, none⟩, ⟨some 30, .extract (.t 24) 1, none⟩, ⟨some 9, .mv (.t 29) false, none⟩, ⟨some 10, .mv (.t 30) false, none⟩])
  (.seq (.reg false [⟨some 31, .mv (.t 10) false, none⟩, ⟨some 32, .not (.t 31), none⟩])
  (.cond (.t 32) (.reg false [⟨some 33, .load 1 false (.t 5), none⟩, ⟨some 34, .mv (.t 9) false, none⟩, ⟨some 35, .fadr 3 (.t 8), none⟩, ⟨some 36, .load 1 false (.t 35), none⟩, ⟨some 37, .fadr 1 (.t 8), none⟩, ⟨some 38, .load 1 false (.t 37), none⟩, ⟨some 39, .build [(.p (.str (bs []))), (.p (.int .i64 0))] [(0, 1, (.t 36)), (1, 1, (.t 38))], none⟩, ⟨some 40, .bslice 2 [(.p (.str (bs []))), (.p (.int .i64 0))] 1 [(0, 2, (.t 39))], none⟩, ⟨some 41, .callf f_slices_Insert_api_Var_api_Var [(.t 33), (.t 34), (.t 40)], none⟩, ⟨none, .store 1 (.t 5) (.t 41), none⟩]) .skip)))))
def R1_pattern_variables : K := .range (.t 18) [19] [2, 5] A1_pattern_variables B1_pattern_variables
def B0_pattern_variables : K :=
  (.seq (.reg false [⟨some 14, .arith .lss (.t 13) (.t 12), none⟩])
  (.seq (.cond (.t 14) .skip (.exit 0))
  (.seq (.block 1 (.seq (.reg false [⟨some 15, .iadrS 5 (.t 11) (.t 13), none⟩, ⟨some 16, .load 5 true (.t 15), none⟩, ⟨some 7, .init 5 true (.t 16) true, none⟩])
  (.seq (.reg false [⟨some 17, .load 5 true (.t 7), none⟩, ⟨some 18, .callf f_pattern_preorder [(.t 17)], none⟩])
  (.block 2 R1_pattern_variables))))
  (.reg false [⟨some 42, .arith .add (.t 13) (.c (.p (.int .i64 1))), none⟩, ⟨some 13, .mv (.t 42) false, none⟩]))))
def L0_pattern_variables : K := .loop [2, 5, 11, 12, 13] B0_pattern_variables
def F_pattern_variables : AFn := ⟨44, [.tmp 4],
  (.seq (.reg false [⟨some 2, .box 1 false (.t 0) true, none⟩, ⟨some 4, .mv (.c .nils) false, none⟩])
  (.seq (.reg false [⟨some 5, .alloc [.nils] 1, none⟩])
  (.seq (.seq (.reg false [⟨some 11, .mv (.t 1) false, none⟩, ⟨some 12, .lenS (.t 11), none⟩, ⟨some 13, .mv (.c (.p (.int .i64 0))) false, none⟩])
  (.block 0 L0_pattern_variables))
  (.seq (.reg false [⟨some 43, .load 1 false (.t 5), none⟩, ⟨some 4, .mv (.t 43) false, none⟩])
  .ret)))), false⟩
def B0_r24_Preorder : K :=
  (.seq (.seq (.reg false [⟨some 7, .mv (.t 4) false, none⟩, ⟨some 8, .fadr 4 (.t 1), none⟩, ⟨some 9, .load 1 false (.t 8), none⟩, ⟨some 10, .lenS (.t 9), none⟩, ⟨some 11, .arith .lss (.t 7) (.t 10), none⟩])
  (.cond (.t 11) .skip (.exit 0)))
  (.seq (.block 1 (.reg false [⟨some 14, .mv (.t 3) false, none⟩, ⟨some 15, .fadr 4 (.t 1), none⟩, ⟨some 16, .load 1 false (.t 15), none⟩, ⟨some 17, .mv (.t 4) false, none⟩, ⟨some 18, .iadrS 5 (.t 16) (.t 17), none⟩, ⟨some 19, .load 5 true (.t 18), none⟩, ⟨some 20, .callf f_r24_Preorder [(.t 19)], none⟩, ⟨some 21, .append 5 64 (.t 14) (.t 20), none⟩, ⟨some 3, .mv (.t 21) true, none⟩]))
  (.reg false [⟨some 12, .mv (.t 4) false, none⟩, ⟨some 13, .arith .add (.t 12) (.c (.p (.int .i64 1))), none⟩, ⟨some 4, .mv (.t 13) false, none⟩])))
def L0_r24_Preorder : K := .loop [1, 3, 4] B0_r24_Preorder
def F_r24_Preorder : AFn := ⟨23, [.tmp 2],
  (.seq (.reg false [⟨some 1, .box 5 true (.t 0) true, none⟩, ⟨some 2, .mv (.c .nils) false, none⟩])
  (.seq (.reg false [⟨some 5, .load 5 true (.t 1), none⟩, ⟨some 6, .bslice 5 [(.p (.int .i64 0)), (.p (.int .i64 0)), (.p (.int .u64 0)), (.p (.str (bs []))), .nils] 1 [(0, 5, (.t 5))], none⟩, ⟨some 3, .mv (.t 6) true, none⟩])
  (.seq (.seq (.reg false [⟨some 4, .mv (.c (.p (.int .i64 0))) false, none⟩])
  (.block 0 L0_r24_Preorder))
  (.seq (.reg false [⟨some 22, .mv (.t 3) false, none⟩, ⟨some 2, .mv (.t 22) false, none⟩])
  .ret)))), false⟩
def B0_r24_insert : K :=
  (.seq (.seq (.reg false [⟨some 9, .mv (.t 7) false, none⟩, ⟨some 10, .mv (.t 0) false, none⟩, ⟨some 11, .lenS (.t 10), none⟩, ⟨some 12, .arith .lss (.t 9) (.t 11), none⟩])
  (.cond (.t 12) .skip (.exit 0)))
  (.seq (.block 1 (.seq (.seq (.reg true [⟨some 15, .mv (.t 0) false, none⟩, ⟨some 16, .mv (.t 7) false, none⟩, ⟨some 17, .iadrS 2 (.t 15) (.t 16), none⟩, ⟨some 18, .fadr 0 (.t 17), none⟩, ⟨some 19, .load 1 false (.t 18), none⟩, ⟨some 20, .fadr 0 (.t 3), none⟩, ⟨some 21, .load 1 false (.t 20), none⟩, ⟨some 22, .arith .eql (.t 19) (.t 21), none⟩])
  (.cond (.t 22) (.seq (.reg false [⟨some 23, .mv (.t 0) false, none⟩, ⟨some 4, .mv (.t 23) false, none⟩])
  .ret) .skip))
  (.seq (.seq (.reg true [⟨some 24, .mv (.t 6) false, none⟩, ⟨some 25, .not (.t 24), none⟩, ⟨some 26, .mv (.t 25) false, none⟩, ⟨some 27, .fadr 0 (.t 3), some (26, true)⟩, ⟨some 28, .load 1 false (.t 27), some (26, true)⟩, ⟨some 29, .mv (.t 0) false, some (26, true)⟩, ⟨some 30, .mv (.t 7) false, some (26, true)⟩, ⟨some 31, .iadrS 2 (.t 29) (.t 30), some (26, true)⟩, ⟨some 32, .fadr 0 (.t 31), some (26, true)⟩, ⟨some 33, .load 1 false (.t 32), some (26, true)⟩, ⟨some 34, .arith .lss (.t 28) (.t 33), some (26, true)⟩, ⟨some 35, .pick (.t 26) (.t 34) (.c (.p (.bool false))), none⟩])
  (.cond (.t 35) (.seq (.reg false [⟨some 36, .mv (.t 5) false, none⟩, ⟨some 37, .load 2 true (.t 3), none⟩, ⟨some 38, .bslice 2 [(.p (.str (bs []))), (.p (.int .i64 0))] 1 [(0, 2, (.t 37))], none⟩, ⟨some 39, .append 2 24 (.t 36) (.t 38), none⟩, ⟨some 5, .mv (.t 39) true, none⟩])
  (.reg false [⟨some 6, .mv (.c (.p (.bool true))) false, none⟩])) .skip))
  (.reg false [⟨some 40, .mv (.t 5) false, none⟩, ⟨some 41, .mv (.t 0) false, none⟩, ⟨some 42, .mv (.t 7) false, none⟩, ⟨some 43, .iadrS 2 (.t 41) (.t 42), none⟩, ⟨some 44, .load 2 true (.t 43), none⟩, ⟨some 45, .bslice 2 [(.p (.str (bs []))), (.p (.int .i64 0))] 1 [(0, 2, (.t 44))], none⟩, ⟨some 46, .append 2 24 (.t 40) (.t 45), none⟩, ⟨some 5, .mv (.t 46) true, none⟩]))))
  (.reg false [⟨some 13, .mv (.t 7) false, none⟩, ⟨some 14, .arith .add (.t 13) (.c (.p (.int .i64 1))), none⟩, ⟨some 7, .mv (.t 14) false, none⟩])))
def L0_r24_insert : K := .loop [0, 3, 5, 6, 7] B0_r24_insert
def F_r24_insert : AFn := ⟨54, [.tmp 4],
  (.seq (.reg false [⟨some 3, .box 2 true (.t 1) true, none⟩, ⟨some 4, .mv (.c .nils) false, none⟩])
  (.seq (.reg false [⟨some 8, .bslice 2 [(.p (.str (bs []))), (.p (.int .i64 0))] 0 [], none⟩, ⟨some 5, .mv (.t 8) true, none⟩])
  (.seq (.reg false [⟨some 6, .mv (.c (.p (.bool false))) false, none⟩])
  (.seq (.seq (.reg false [⟨some 7, .mv (.c (.p (.int .i64 0))) false, none⟩])
  (.block 0 L0_r24_insert))
  (.seq (.seq (.reg false [⟨some 47, .mv (.t 6) false, none⟩, ⟨some 48, .not (.t 47), none⟩])
  (.cond (.t 48) (.reg false [⟨some 49, .mv (.t 5) false, none⟩, ⟨some 50, .load 2 true (.t 3), none⟩, ⟨some 51, .bslice 2 [(.p (.str (bs []))), (.p (.int .i64 0))] 1 [(0, 2, (.t 50))], none⟩, ⟨some 52, .append 2 24 (.t 49) (.t 51), none⟩, ⟨some 5, .mv (.t 52) true, none⟩]) .skip))
  (.seq (.reg false [⟨some 53, .mv (.t 5) false, none⟩, ⟨some 4, .mv (.t 53) false, none⟩])
  .ret)))))), false⟩
def A0_pattern_has : K :=
  (.reg false [⟨some 5, .init 5 true (.t 8) true, none⟩])
def B0_pattern_has : K :=
  (.block 1 (.seq (.reg false [⟨some 9, .load 1 false (.t 3), none⟩, ⟨some 10, .fadr 0 (.t 5), none⟩, ⟨some 11, .load 1 false (.t 10), none⟩, ⟨some 12, .callf f_slices_Contains_api_Op_api_Op [(.t 9), (.t 11)], none⟩])
  (.cond (.t 12) (.seq (.reg false [⟨none, .store 1 (.t 4) (.c (.p (.bool true))), none⟩])
  .ret) .skip)))
def R0_pattern_has : K := .range (.t 7) [8] [3, 4] A0_pattern_has B0_pattern_has
def F_pattern_has : AFn := ⟨13, [.cell 4 1 false],
  (.seq (.reg false [⟨some 2, .box 5 true (.t 0) true, none⟩, ⟨some 3, .box 1 false (.t 1) true, none⟩, ⟨some 4, .alloc [(.p (.bool false))] 1, none⟩])
  (.seq (.seq (.reg false [⟨some 6, .load 5 true (.t 2), none⟩, ⟨some 7, .callf f_pattern_preorder [(.t 6)], none⟩])
  (.block 0 R0_pattern_has))
  (.seq (.reg false [⟨none, .store 1 (.t 4) (.c (.p (.bool false))), none⟩])
  .ret))), false⟩
def F_r04_Pattern : AFn := ⟨6, [.tmp 2],
  (.seq (.reg false [⟨some 2, .mv (.c (.p (.bool false))) false, none⟩])
  (.seq (.reg false [⟨some 3, .mv (.t 0) false, none⟩, ⟨some 4, .bslice 1 [(.p (.int .i64 0))] 3 [(0, 1, (.c (.p (.int .i64 24)))), (1, 1, (.c (.p (.int .i64 25)))), (2, 1, (.c (.p (.int .i64 26))))], none⟩, ⟨some 5, .callf f_r04_Is [(.t 3), (.t 4)], none⟩, ⟨some 2, .mv (.t 5) false, none⟩])
  .ret)), false⟩
def F_r24_variable : AFn := ⟨11, [.tmp 2],
  (.seq (.reg false [⟨some 1, .box 5 true (.t 0) true, none⟩, ⟨some 2, .mv (.c (.p (.bool false))) false, none⟩])
  (.seq (.reg false [⟨some 3, .fadr 0 (.t 1), none⟩, ⟨some 4, .load 1 false (.t 3), none⟩, ⟨some 5, .arith .eql (.t 4) (.c (.p (.int .i64 24))), none⟩, ⟨some 6, .mv (.t 5) false, none⟩, ⟨some 7, .fadr 0 (.t 1), some (6, false)⟩, ⟨some 8, .load 1 false (.t 7), some (6, false)⟩, ⟨some 9, .arith .eql (.t 8) (.c (.p (.int .i64 25))), some (6, false)⟩, ⟨some 10, .pick (.t 6) (.c (.p (.bool true))) (.t 9), none⟩, ⟨some 2, .mv (.t 10) false, none⟩])
  .ret)), false⟩
def F_term_Compare : AFn := ⟨45, [.tmp 4],
  (.seq (.reg false [⟨some 2, .box 5 true (.t 0) true, none⟩, ⟨some 3, .box 5 true (.t 1) true, none⟩, ⟨some 4, .mv (.c (.p (.int .i64 0))) false, none⟩])
  (.seq (.seq (.reg true [⟨some 7, .load 5 true (.t 2), none⟩, ⟨some 8, .callf f_term_Size [(.t 7)], none⟩, ⟨some 9, .load 5 true (.t 3), none⟩, ⟨some 10, .callf f_term_Size [(.t 9)], none⟩, ⟨some 11, .callf f_cmp_Compare_int [(.t 8), (.t 10)], none⟩, ⟨some 5, .mv (.t 11) false, none⟩])
  (.seq (.reg false [⟨some 12, .mv (.t 5) false, none⟩, ⟨some 13, .arith .neq (.t 12) (.c (.p (.int .i64 0))), none⟩])
  (.cond (.t 13) (.seq (.reg false [⟨some 14, .mv (.t 5) false, none⟩, ⟨some 4, .mv (.t 14) false, none⟩])
  .ret) .skip)))
  (.seq (.seq (.reg true [⟨some 15, .fadr 0 (.t 2), none⟩, ⟨some 16, .load 1 false (.t 15), none⟩, ⟨some 17, .fadr 0 (.t 3), none⟩, ⟨some 18, .load 1 false (.t 17), none⟩, ⟨some 19, .callf f_cmp_Compare_api_Op [(.t 16), (.t 18)], none⟩, ⟨some 20, .fadr 1 (.t 2), none⟩, ⟨some 21, .load 1 false (.t 20), none⟩, ⟨some 22, .fadr 1 (.t 3), none⟩, ⟨some 23, .load 1 false (.t 22), none⟩, ⟨some 24, .callf f_cmp_Compare_int [(.t 21), (.t 23)], none⟩, ⟨some 25, .fadr 2 (.t 2), none⟩, ⟨some 26, .load 1 false (.t 25), none⟩, ⟨some 27, .fadr 2 (.t 3), none⟩, ⟨some 28, .load 1 false (.t 27), none⟩, ⟨some 29, .callf f_cmp_Compare_uint64 [(.t 26), (.t 28)], none⟩, ⟨some 30, .fadr 3 (.t 2), none⟩, ⟨some 31, .load 1 false (.t 30), none⟩, ⟨some 32, .fadr 3 (.t 3), none⟩, ⟨some 33, .load 1 false (.t 32), none⟩, ⟨some 34, .callf f_strings_Compare [(.t 31), (.t 33)], none⟩, ⟨some 35, .bslice 1 [(.p (.int .i64 0))] 4 [(0, 1, (.t 19)), (1, 1, (.t 24)), (2, 1, (.t 29)), (3, 1, (.t 34))], none⟩, ⟨some 36, .callf f_cmp_Or_int [(.t 35)], none⟩, ⟨some 6, .mv (.t 36) false, none⟩])
  (.seq (.reg false [⟨some 37, .mv (.t 6) false, none⟩, ⟨some 38, .arith .neq (.t 37) (.c (.p (.int .i64 0))), none⟩])
  (.cond (.t 38) (.seq (.reg false [⟨some 39, .mv (.t 6) false, none⟩, ⟨some 4, .mv (.t 39) false, none⟩])
  .ret) .skip)))
  (.seq (.reg false [⟨some 40, .fadr 4 (.t 2), none⟩, ⟨some 41, .load 1 false (.t 40), none⟩, ⟨some 42, .fadr 4 (.t 3), none⟩, ⟨some 43, .load 1 false (.t 42), none⟩, ⟨some 44, .callf f_slices_CompareFunc_api_Term_api_Term_api_Term_api_Term [(.t 41), (.t 43), (.c (.p (.fn f_term_Compare [])))], none⟩, ⟨some 4, .mv (.t 44) false, none⟩])
  .ret)))), false⟩
def F_r24_order : AFn := ⟨11, [.tmp 4],
  (.seq (.reg false [⟨some 4, .mv (.c (.p (.int .i64 0))) false, none⟩])
  (.seq (.seq (.reg false [⟨some 5, .mv (.t 0) false, none⟩, ⟨some 6, .mv (.t 1) false, none⟩, ⟨some 7, .arith .lss (.t 5) (.t 6), none⟩])
  (.cond (.t 7) (.seq (.reg false [⟨some 4, .mv (.c (.p (.int .i64 (-1)))) false, none⟩])
  .ret) .skip))
  (.seq (.seq (.reg false [⟨some 8, .mv (.t 0) false, none⟩, ⟨some 9, .mv (.t 1) false, none⟩, ⟨some 10, .arith .gtr (.t 8) (.t 9), none⟩])
  (.cond (.t 10) (.seq (.reg false [⟨some 4, .mv (.c (.p (.int .i64 1))) false, none⟩])
  .ret) .skip))
  (.seq (.reg false [⟨some 4, .mv (.c (.p (.int .i64 0))) false, none⟩])
  .ret)))), false⟩
def B0_r10_Count : K :=
  (.seq (.reg false [⟨some 9, .arith .lss (.t 8) (.t 7), none⟩])
  (.seq (.cond (.t 9) .skip (.exit 0))
  (.seq (.block 1 (.seq (.reg false [⟨some 10, .mv (.t 8) false, none⟩, ⟨some 4, .mv (.t 10) false, none⟩])
  (.reg false [⟨some 11, .mv (.t 3) false, none⟩, ⟨some 12, .fadr 4 (.t 1), none⟩, ⟨some 13, .load 1 false (.t 12), none⟩, ⟨some 14, .mv (.t 4) false, none⟩, ⟨some 15, .iadrS 5 (.t 13) (.t 14), none⟩, ⟨some 16, .load 5 true (.t 15), none⟩, ⟨some 17, .callf f_r10_Count [(.t 16)], none⟩, ⟨some 18, .arith .add (.t 11) (.t 17), none⟩, ⟨some 3, .mv (.t 18) false, none⟩])))
  (.reg false [⟨some 19, .arith .add (.t 8) (.c (.p (.int .i64 1))), none⟩, ⟨some 8, .mv (.t 19) false, none⟩]))))
def L0_r10_Count : K := .loop [1, 3, 7, 8] B0_r10_Count
def F_r10_Count : AFn := ⟨21, [.tmp 2],
  (.seq (.reg false [⟨some 1, .box 5 true (.t 0) true, none⟩, ⟨some 2, .mv (.c (.p (.int .i64 0))) false, none⟩])
  (.seq (.reg false [⟨some 3, .mv (.c (.p (.int .i64 1))) false, none⟩])
  (.seq (.seq (.reg false [⟨some 5, .fadr 4 (.t 1), none⟩, ⟨some 6, .load 1 false (.t 5), none⟩, ⟨some 7, .lenS (.t 6), none⟩, ⟨some 8, .mv (.c (.p (.int .i64 0))) false, none⟩])
  (.block 0 L0_r10_Count))
  (.seq (.reg false [⟨some 20, .mv (.t 3) false, none⟩, ⟨some 2, .mv (.t 20) false, none⟩])
  .ret)))), false⟩
def F_pattern_node : AFn := ⟨102, [.tmp 4],
  (.seq (.reg false [⟨some 2, .box 5 true (.t 0) true, none⟩, ⟨some 4, .mv (.c (.p (.int .i64 0))) false, none⟩])
  (.seq (.reg false [⟨some 8, .fadr 0 (.t 2), none⟩, ⟨some 9, .load 1 false (.t 8), none⟩, ⟨some 10, .callf f_opinfo_Arity [(.t 9)], none⟩, ⟨some 5, .mv (.t 10) false, none⟩])
  (.seq (.block 0 (.seq (.reg false [⟨some 12, .mv (.t 5) false, none⟩, ⟨some 13, .arith .lss (.t 12) (.c (.p (.int .i64 0))), none⟩, ⟨some 14, .mv (.t 13) false, none⟩, ⟨some 15, .fadr 0 (.t 2), some (14, false)⟩, ⟨some 16, .load 1 false (.t 15), some (14, false)⟩, ⟨some 17, .arith .eql (.t 16) (.c (.p (.int .i64 1))), some (14, false)⟩, ⟨some 18, .pick (.t 14) (.c (.p (.bool true))) (.t 17), none⟩, ⟨some 19, .mv (.t 18) false, none⟩, ⟨some 20, .fadr 0 (.t 2), some (19, false)⟩, ⟨some 21, .load 1 false (.t 20), some (19, false)⟩, ⟨some 22, .arith .eql (.t 21) (.c (.p (.int .i64 26))), some (19, false)⟩, ⟨some 23, .mv (.t 22) false, some (19, false)⟩, ⟨some 24, .mv (.t 1) false, some (23, true)⟩, ⟨some 25, .not (.t 24), some (23, true)⟩, ⟨some 26, .pick (.t 23) (.t 25) (.c (.p (.bool false))), some (19, false)⟩, ⟨some 27, .pick (.t 19) (.c (.p (.bool true))) (.t 26), none⟩, ⟨some 28, .mv (.t 27) false, none⟩, ⟨some 29, .fadr 4 (.t 2), some (28, false)⟩, ⟨some 30, .load 1 false (.t 29), some (28, false)⟩, ⟨some 31, .lenS (.t 30), some (28, false)⟩, ⟨some 32, .mv (.t 5) false, some (28, false)⟩, ⟨some 33, .arith .neq (.t 31) (.t 32), some (28, false)⟩, ⟨some 34, .pick (.t 28) (.c (.p (.bool true))) (.t 33), none⟩, ⟨some 11, .mv (.t 34) false, none⟩])
  (.cond (.t 11) (.seq (.reg false [⟨some 4, .mv (.c (.p (.int .i64 4))) false, none⟩])
  .ret) (.seq (.reg false [⟨some 36, .fadr 3 (.t 2), none⟩, ⟨some 37, .load 1 false (.t 36), none⟩, ⟨some 38, .arith .neq (.t 37) (.c (.p (.str (bs [])))), none⟩, ⟨some 39, .mv (.t 38) false, none⟩, ⟨some 40, .fadr 0 (.t 2), some (39, true)⟩, ⟨some 41, .load 1 false (.t 40), some (39, true)⟩, ⟨some 42, .callf f_pattern_variable [(.t 41)], some (39, true)⟩, ⟨some 43, .not (.t 42), some (39, true)⟩, ⟨some 44, .pick (.t 39) (.t 43) (.c (.p (.bool false))), none⟩, ⟨some 45, .mv (.t 44) false, none⟩, ⟨some 46, .fadr 2 (.t 2), some (45, false)⟩, ⟨some 47, .load 1 false (.t 46), some (45, false)⟩, ⟨some 48, .arith .neq (.t 47) (.c (.p (.int .u64 0))), some (45, false)⟩, ⟨some 49, .mv (.t 48) false, some (45, false)⟩, ⟨some 50, .fadr 0 (.t 2), some (49, true)⟩, ⟨some 51, .load 1 false (.t 50), some (49, true)⟩, ⟨some 52, .arith .neq (.t 51) (.c (.p (.int .i64 2))), some (49, true)⟩, ⟨some 53, .pick (.t 49) (.t 52) (.c (.p (.bool false))), some (45, false)⟩, ⟨some 54, .mv (.t 53) false, some (45, false)⟩, ⟨some 55, .fadr 0 (.t 2), some (54, true)⟩, ⟨some 56, .load 1 false (.t 55), some (54, true)⟩, ⟨some 57, .arith .neq (.t 56) (.c (.p (.int .i64 21))), some (54, true)⟩, ⟨some 58, .pick (.t 54) (.t 57) (.c (.p (.bool false))), some (45, false)⟩, ⟨some 59, .pick (.t 45) (.c (.p (.bool true))) (.t 58), none⟩, ⟨some 35, .mv (.t 59) false, none⟩])
  (.cond (.t 35) (.seq (.reg false [⟨some 4, .mv (.c (.p (.int .i64 4))) false, none⟩])
  .ret) (.seq (.reg false [⟨some 61, .fadr 0 (.t 2), none⟩, ⟨some 62, .load 1 false (.t 61), none⟩, ⟨some 63, .callf f_pattern_variable [(.t 62)], none⟩, ⟨some 64, .mv (.t 63) false, none⟩, ⟨some 65, .fadr 3 (.t 2), some (64, true)⟩, ⟨some 66, .load 1 false (.t 65), some (64, true)⟩, ⟨some 67, .callf f_term_Name [(.t 66)], some (64, true)⟩, ⟨some 68, .not (.t 67), some (64, true)⟩, ⟨some 69, .pick (.t 64) (.t 68) (.c (.p (.bool false))), none⟩, ⟨some 60, .mv (.t 69) false, none⟩])
  (.cond (.t 60) (.seq (.reg false [⟨some 4, .mv (.c (.p (.int .i64 5))) false, none⟩])
  .ret) .skip)))))))
  (.seq (.reg true [⟨some 71, .fadr 0 (.t 2), none⟩, ⟨some 72, .load 1 false (.t 71), none⟩, ⟨some 73, .fadr 1 (.t 2), none⟩, ⟨some 74, .load 1 false (.t 73), none⟩, ⟨some 75, .fadr 2 (.t 2), none⟩, ⟨some 76, .load 1 false (.t 75), none⟩, ⟨some 77, .fadr 4 (.t 2), none⟩, ⟨some 78, .load 1 false (.t 77), none⟩, ⟨some 79, .callf f_pattern_widths [(.t 78)], none⟩, ⟨some 80, .callf f_opinfo_Width [(.t 72), (.t 74), (.t 76), (.t 79)], none⟩, ⟨some 70, .mv (.t 80) false, none⟩, ⟨some 81, .extract (.t 70) 0, none⟩, ⟨some 82, .extract (.t 70) 1, none⟩, ⟨some 6, .mv (.t 81) false, none⟩, ⟨some 7, .mv (.t 82) false, none⟩])
  (.seq (.seq (.reg false [⟨some 83, .mv (.t 7) false, none⟩, ⟨some 84, .arith .neq (.t 83) (.c (.p (.int .i64 0))), none⟩, ⟨some 85, .mv (.t 84) false, none⟩, ⟨some 86, .mv (.t 6) false, some (85, false)⟩, ⟨some 87, .fadr 1 (.t 2), some (85, false)⟩, ⟨some 88, .load 1 false (.t 87), some (85, false)⟩, ⟨some 89, .arith .neq (.t 86) (.t 88), some (85, false)⟩, ⟨some 90, .pick (.t 85) (.c (.p (.bool true))) (.t 89), none⟩])
  (.cond (.t 90) (.seq (.reg false [⟨some 4, .mv (.c (.p (.int .i64 3))) false, none⟩])
  .ret) .skip))
  (.seq (.seq (.reg false [⟨some 91, .fadr 0 (.t 2), none⟩, ⟨some 92, .load 1 false (.t 91), none⟩, ⟨some 93, .arith .eql (.t 92) (.c (.p (.int .i64 26))), none⟩, ⟨some 94, .mv (.t 93) false, none⟩, ⟨some 95, .fadr 4 (.t 2), some (94, true)⟩, ⟨some 96, .load 1 false (.t 95), some (94, true)⟩, ⟨some 97, .iadrS 5 (.t 96) (.c (.p (.int .i64 0))), some (94, true)⟩, ⟨some 98, .load 5 true (.t 97), some (94, true)⟩, ⟨some 99, .bslice 1 [(.p (.int .i64 0))] 2 [(0, 1, (.c (.p (.int .i64 24)))), (1, 1, (.c (.p (.int .i64 26))))], some (94, true)⟩, ⟨some 100, .callf f_pattern_has [(.t 98), (.t 99)], some (94, true)⟩, ⟨some 101, .pick (.t 94) (.t 100) (.c (.p (.bool false))), none⟩])
  (.cond (.t 101) (.seq (.reg false [⟨some 4, .mv (.c (.p (.int .i64 12))) false, none⟩])
  .ret) .skip))
  (.seq (.reg false [⟨some 4, .mv (.c (.p (.int .i64 0))) false, none⟩])
  .ret))))))), false⟩
def F_pattern_preorder_1 : AFn := ⟨6, [],
  (.reg false [⟨some 3, .load 5 true (.t 1), none⟩, ⟨some 4, .mv (.t 0) false, none⟩, ⟨some 5, .callf f_pattern_visit [(.t 3), (.t 4)], none⟩]), true⟩
def B0_pattern_visit : K :=
  (.seq (.reg false [⟨some 15, .arith .lss (.t 14) (.t 13), none⟩])
  (.seq (.cond (.t 15) .skip (.exit 0))
  (.seq (.block 1 (.seq (.reg false [⟨some 16, .iadrS 5 (.t 12) (.t 14), none⟩, ⟨some 17, .load 5 true (.t 16), none⟩, ⟨some 6, .init 5 true (.t 17) true, none⟩])
  (.seq (.reg false [⟨some 18, .load 5 true (.t 6), none⟩, ⟨some 19, .mv (.t 1) false, none⟩, ⟨some 20, .callf f_pattern_visit [(.t 18), (.t 19)], none⟩, ⟨some 21, .not (.t 20), none⟩])
  (.cond (.t 21) (.seq (.reg false [⟨some 4, .mv (.c (.p (.bool false))) false, none⟩])
  .ret) .skip))))
  (.reg false [⟨some 22, .arith .add (.t 14) (.c (.p (.int .i64 1))), none⟩, ⟨some 14, .mv (.t 22) false, none⟩]))))
def L0_pattern_visit : K := .loop [1, 12, 13, 14] B0_pattern_visit
def F_pattern_visit : AFn := ⟨23, [.tmp 4],
  (.seq (.reg false [⟨some 2, .box 5 true (.t 0) true, none⟩, ⟨some 4, .mv (.c (.p (.bool false))) false, none⟩])
  (.seq (.seq (.reg false [⟨some 7, .mv (.t 1) false, none⟩, ⟨some 8, .load 5 true (.t 2), none⟩, ⟨some 9, .callv (.t 7) [(.t 8)], none⟩, ⟨some 10, .not (.t 9), none⟩])
  (.cond (.t 10) (.seq (.reg false [⟨some 4, .mv (.c (.p (.bool false))) false, none⟩])
  .ret) .skip))
  (.seq (.seq (.reg false [⟨some 11, .fadr 4 (.t 2), none⟩, ⟨some 12, .load 1 false (.t 11), none⟩, ⟨some 13, .lenS (.t 12), none⟩, ⟨some 14, .mv (.c (.p (.int .i64 0))) false, none⟩])
  (.block 0 L0_pattern_visit))
  (.seq (.reg false [⟨some 4, .mv (.c (.p (.bool true))) false, none⟩])
  .ret)))), true⟩
def F_r04_Arity : AFn := ⟨16, [.tmp 2],
  (.seq (.reg false [⟨some 2, .mv (.c (.p (.int .i64 0))) false, none⟩])
  (.seq (.seq (.reg false [⟨some 3, .mv (.t 0) false, none⟩, ⟨some 4, .arith .lss (.t 3) (.c (.p (.int .i64 1))), none⟩, ⟨some 5, .mv (.t 4) false, none⟩, ⟨some 6, .mv (.t 0) false, some (5, false)⟩, ⟨some 7, .arith .gtr (.t 6) (.c (.p (.int .i64 26))), some (5, false)⟩, ⟨some 8, .pick (.t 5) (.c (.p (.bool true))) (.t 7), none⟩])
  (.cond (.t 8) (.seq (.reg false [⟨some 2, .mv (.c (.p (.int .i64 (-1)))) false, none⟩])
  .ret) .skip))
  (.seq (.seq (.reg false [⟨some 9, .mv (.t 0) false, none⟩, ⟨some 10, .callf f_r04_Leaf [(.t 9)], none⟩])
  (.cond (.t 10) (.seq (.reg false [⟨some 2, .mv (.c (.p (.int .i64 0))) false, none⟩])
  .ret) .skip))
  (.seq (.seq (.reg false [⟨some 11, .mv (.t 0) false, none⟩, ⟨some 12, .bslice 1 [(.p (.int .i64 0))] 6 [(0, 1, (.c (.p (.int .i64 3)))), (1, 1, (.c (.p (.int .i64 4)))), (2, 1, (.c (.p (.int .i64 21)))), (3, 1, (.c (.p (.int .i64 22)))), (4, 1, (.c (.p (.int .i64 23)))), (5, 1, (.c (.p (.int .i64 26))))], none⟩, ⟨some 13, .callf f_r04_Is [(.t 11), (.t 12)], none⟩])
  (.cond (.t 13) (.seq (.reg false [⟨some 2, .mv (.c (.p (.int .i64 1))) false, none⟩])
  .ret) .skip))
  (.seq (.seq (.reg false [⟨some 14, .mv (.t 0) false, none⟩, ⟨some 15, .arith .eql (.t 14) (.c (.p (.int .i64 19))), none⟩])
  (.cond (.t 15) (.seq (.reg false [⟨some 2, .mv (.c (.p (.int .i64 3))) false, none⟩])
  .ret) .skip))
  (.seq (.reg false [⟨some 2, .mv (.c (.p (.int .i64 2))) false, none⟩])
  .ret)))))), false⟩
def B0_r07_Name : K :=
  (.seq (.seq (.reg false [⟨some 23, .mv (.t 3) false, none⟩, ⟨some 24, .mv (.t 0) false, none⟩, ⟨some 25, .lenT (.t 24), none⟩, ⟨some 26, .arith .lss (.t 23) (.t 25), none⟩])
  (.cond (.t 26) .skip (.exit 0)))
  (.seq (.block 1 (.seq (.reg false [⟨some 29, .mv (.t 0) false, none⟩, ⟨some 30, .mv (.t 3) false, none⟩, ⟨some 31, .idxS (.t 29) (.t 30), none⟩, ⟨some 4, .mv (.t 31) false, none⟩])
  (.seq (.reg false [⟨some 32, .mv (.t 4) false, none⟩, ⟨some 33, .arith .geq (.t 32) (.c (.p (.int .u8 97))), none⟩, ⟨some 34, .mv (.t 33) false, none⟩, ⟨some 35, .mv (.t 4) false, some (34, true)⟩, ⟨some 36, .arith .leq (.t 35) (.c (.p (.int .u8 122))), some (34, true)⟩, ⟨some 37, .pick (.t 34) (.t 36) (.c (.p (.bool false))), none⟩, ⟨some 38, .not (.t 37), none⟩, ⟨some 39, .mv (.t 38) false, none⟩, ⟨some 40, .mv (.t 4) false, some (39, true)⟩, ⟨some 41, .arith .geq (.t 40) (.c (.p (.int .u8 48))), some (39, true)⟩, ⟨some 42, .mv (.t 41) false, some (39, true)⟩, ⟨some 43, .mv (.t 4) false, some (42, true)⟩, ⟨some 44, .arith .leq (.t 43) (.c (.p (.int .u8 57))), some (42, true)⟩, ⟨some 45, .pick (.t 42) (.t 44) (.c (.p (.bool false))), some (39, true)⟩, ⟨some 46, .not (.t 45), some (39, true)⟩, ⟨some 47, .pick (.t 39) (.t 46) (.c (.p (.bool false))), none⟩, ⟨some 48, .mv (.t 47) false, none⟩, ⟨some 49, .mv (.t 4) false, some (48, true)⟩, ⟨some 50, .arith .neq (.t 49) (.c (.p (.int .u8 95))), some (48, true)⟩, ⟨some 51, .pick (.t 48) (.t 50) (.c (.p (.bool false))), none⟩])
  (.cond (.t 51) (.seq (.reg false [⟨some 2, .mv (.c (.p (.bool false))) false, none⟩])
  .ret) .skip))))
  (.reg false [⟨some 27, .mv (.t 3) false, none⟩, ⟨some 28, .arith .add (.t 27) (.c (.p (.int .i64 1))), none⟩, ⟨some 3, .mv (.t 28) false, none⟩])))
def L0_r07_Name : K := .loop [0, 3] B0_r07_Name
def F_r07_Name : AFn := ⟨52, [.tmp 2],
  (.seq (.reg false [⟨some 2, .mv (.c (.p (.bool false))) false, none⟩])
  (.seq (.seq (.reg false [⟨some 5, .mv (.t 0) false, none⟩, ⟨some 6, .lenT (.t 5), none⟩, ⟨some 7, .arith .lss (.t 6) (.c (.p (.int .i64 1))), none⟩, ⟨some 8, .mv (.t 7) false, none⟩, ⟨some 9, .mv (.t 0) false, some (8, false)⟩, ⟨some 10, .lenT (.t 9), some (8, false)⟩, ⟨some 11, .arith .gtr (.t 10) (.c (.p (.int .i64 16))), some (8, false)⟩, ⟨some 12, .pick (.t 8) (.c (.p (.bool true))) (.t 11), none⟩, ⟨some 13, .mv (.t 12) false, none⟩, ⟨some 14, .mv (.t 0) false, some (13, false)⟩, ⟨some 15, .idxS (.t 14) (.c (.p (.int .i64 0))), some (13, false)⟩, ⟨some 16, .arith .lss (.t 15) (.c (.p (.int .u8 97))), some (13, false)⟩, ⟨some 17, .pick (.t 13) (.c (.p (.bool true))) (.t 16), none⟩, ⟨some 18, .mv (.t 17) false, none⟩, ⟨some 19, .mv (.t 0) false, some (18, false)⟩, ⟨some 20, .idxS (.t 19) (.c (.p (.int .i64 0))), some (18, false)⟩, ⟨some 21, .arith .gtr (.t 20) (.c (.p (.int .u8 122))), some (18, false)⟩, ⟨some 22, .pick (.t 18) (.c (.p (.bool true))) (.t 21), none⟩])
  (.cond (.t 22) (.seq (.reg false [⟨some 2, .mv (.c (.p (.bool false))) false, none⟩])
  .ret) .skip))
  (.seq (.seq (.reg false [⟨some 3, .mv (.c (.p (.int .i64 0))) false, none⟩])
  (.block 0 L0_r07_Name))
  (.seq (.reg false [⟨some 2, .mv (.c (.p (.bool true))) false, none⟩])
  .ret)))), false⟩
def B0_r04_Width : K :=
  (.seq (.reg false [⟨some 24, .arith .lss (.t 23) (.t 22), none⟩])
  (.seq (.cond (.t 24) .skip (.exit 0))
  (.seq (.block 1 (.seq (.reg false [⟨some 25, .mv (.t 23) false, none⟩, ⟨some 10, .mv (.t 25) false, none⟩])
  (.seq (.reg false [⟨some 26, .mv (.t 3) false, none⟩, ⟨some 27, .mv (.t 10) false, none⟩, ⟨some 28, .iadrS 1 (.t 26) (.t 27), none⟩, ⟨some 29, .load 1 false (.t 28), none⟩, ⟨some 30, .callf f_r04_width [(.t 29)], none⟩, ⟨some 31, .not (.t 30), none⟩])
  (.cond (.t 31) (.seq (.reg false [⟨some 8, .mv (.c (.p (.int .i64 0))) false, none⟩, ⟨some 9, .mv (.c (.p (.int .i64 3))) false, none⟩])
  .ret) .skip))))
  (.reg false [⟨some 32, .arith .add (.t 23) (.c (.p (.int .i64 1))), none⟩, ⟨some 23, .mv (.t 32) false, none⟩]))))
def L0_r04_Width : K := .loop [0, 1, 2, 3, 22, 23] B0_r04_Width
def F_r04_Width : AFn := ⟨133, [.tmp 8, .tmp 9],
  (.seq (.reg false [⟨some 8, .mv (.c (.p (.int .i64 0))) false, none⟩, ⟨some 9, .mv (.c (.p (.int .i64 0))) false, none⟩])
  (.seq (.seq (.reg false [⟨some 11, .mv (.t 0) false, none⟩, ⟨some 12, .callf f_r04_Arity [(.t 11)], none⟩, ⟨some 13, .arith .lss (.t 12) (.c (.p (.int .i64 0))), none⟩, ⟨some 14, .mv (.t 13) false, none⟩, ⟨some 15, .mv (.t 3) false, some (14, false)⟩, ⟨some 16, .lenS (.t 15), some (14, false)⟩, ⟨some 17, .mv (.t 0) false, some (14, false)⟩, ⟨some 18, .callf f_r04_Arity [(.t 17)], some (14, false)⟩, ⟨some 19, .arith .neq (.t 16) (.t 18), some (14, false)⟩, ⟨some 20, .pick (.t 14) (.c (.p (.bool true))) (.t 19), none⟩])
  (.cond (.t 20) (.seq (.reg false [⟨some 8, .mv (.c (.p (.int .i64 0))) false, none⟩, ⟨some 9, .mv (.c (.p (.int .i64 4))) false, none⟩])
  .ret) .skip))
  (.seq (.seq (.reg false [⟨some 21, .mv (.t 3) false, none⟩, ⟨some 22, .lenS (.t 21), none⟩, ⟨some 23, .mv (.c (.p (.int .i64 0))) false, none⟩])
  (.block 0 L0_r04_Width))
  (.seq (.seq (.reg false [⟨some 33, .mv (.t 0) false, none⟩, ⟨some 34, .callf f_r04_Leaf [(.t 33)], none⟩])
  (.cond (.t 34) (.seq (.reg false [⟨some 35, .mv (.t 0) false, none⟩, ⟨some 36, .mv (.t 1) false, none⟩, ⟨some 37, .mv (.t 2) false, none⟩, ⟨some 38, .callf f_r04_leaf [(.t 35), (.t 36), (.t 37)], none⟩, ⟨some 39, .extract (.t 38) 0, none⟩, ⟨some 40, .extract (.t 38) 1, none⟩, ⟨some 8, .mv (.t 39) false, none⟩, ⟨some 9, .mv (.t 40) false, none⟩])
  .ret) .skip))
  (.seq (.seq (.reg false [⟨some 41, .mv (.t 0) false, none⟩, ⟨some 42, .arith .eql (.t 41) (.c (.p (.int .i64 21))), none⟩, ⟨some 43, .mv (.t 42) false, none⟩, ⟨some 44, .mv (.t 0) false, some (43, false)⟩, ⟨some 45, .arith .eql (.t 44) (.c (.p (.int .i64 22))), some (43, false)⟩, ⟨some 46, .pick (.t 43) (.c (.p (.bool true))) (.t 45), none⟩, ⟨some 47, .mv (.t 46) false, none⟩, ⟨some 48, .mv (.t 0) false, some (47, false)⟩, ⟨some 49, .arith .eql (.t 48) (.c (.p (.int .i64 23))), some (47, false)⟩, ⟨some 50, .pick (.t 47) (.c (.p (.bool true))) (.t 49), none⟩])
  (.cond (.t 50) (.seq (.reg false [⟨some 51, .mv (.t 0) false, none⟩, ⟨some 52, .mv (.t 1) false, none⟩, ⟨some 53, .mv (.t 2) false, none⟩, ⟨some 54, .mv (.t 3) false, none⟩, ⟨some 55, .iadrS 1 (.t 54) (.c (.p (.int .i64 0))), none⟩, ⟨some 56, .load 1 false (.t 55), none⟩, ⟨some 57, .callf f_r04_parts [(.t 51), (.t 52), (.t 53), (.t 56)], none⟩, ⟨some 58, .extract (.t 57) 0, none⟩, ⟨some 59, .extract (.t 57) 1, none⟩, ⟨some 8, .mv (.t 58) false, none⟩, ⟨some 9, .mv (.t 59) false, none⟩])
  .ret) .skip))
  (.seq (.seq (.reg false [⟨some 60, .mv (.t 3) false, none⟩, ⟨some 61, .lenS (.t 60), none⟩, ⟨some 62, .arith .eql (.t 61) (.c (.p (.int .i64 1))), none⟩])
  (.cond (.t 62) (.seq (.reg false [⟨some 63, .mv (.t 3) false, none⟩, ⟨some 64, .iadrS 1 (.t 63) (.c (.p (.int .i64 0))), none⟩, ⟨some 65, .load 1 false (.t 64), none⟩, ⟨some 8, .mv (.t 65) false, none⟩, ⟨some 9, .mv (.c (.p (.int .i64 0))) false, none⟩])
  .ret) .skip))
  (.seq (.seq (.reg false [⟨some 66, .mv (.t 0) false, none⟩, ⟨some 67, .arith .eql (.t 66) (.c (.p (.int .i64 20))), none⟩])
  (.cond (.t 67) (.seq (.seq (.reg true [⟨some 68, .mv (.t 3) false, none⟩, ⟨some 69, .iadrS 1 (.t 68) (.c (.p (.int .i64 0))), none⟩, ⟨some 70, .load 1 false (.t 69), none⟩, ⟨some 71, .arith .lss (.t 70) (.c (.p (.int .i64 1))), none⟩, ⟨some 72, .mv (.t 71) false, none⟩, ⟨some 73, .mv (.t 3) false, some (72, false)⟩, ⟨some 74, .iadrS 1 (.t 73) (.c (.p (.int .i64 1))), some (72, false)⟩, ⟨some 75, .load 1 false (.t 74), some (72, false)⟩, ⟨some 76, .arith .lss (.t 75) (.c (.p (.int .i64 1))), some (72, false)⟩, ⟨some 77, .pick (.t 72) (.c (.p (.bool true))) (.t 76), none⟩, ⟨some 78, .mv (.t 77) false, none⟩, ⟨some 79, .mv (.t 3) false, some (78, false)⟩, ⟨some 80, .iadrS 1 (.t 79) (.c (.p (.int .i64 0))), some (78, false)⟩, ⟨some 81, .load 1 false (.t 80), some (78, false)⟩, ⟨some 82, .mv (.t 3) false, some (78, false)⟩, ⟨some 83, .iadrS 1 (.t 82) (.c (.p (.int .i64 1))), some (78, false)⟩, ⟨some 84, .load 1 false (.t 83), some (78, false)⟩, ⟨some 85, .arith .add (.t 81) (.t 84), some (78, false)⟩, ⟨some 86, .arith .gtr (.t 85) (.c (.p (.int .i64 64))), some (78, false)⟩, ⟨some 87, .pick (.t 78) (.c (.p (.bool true))) (.t 86), none⟩])
  (.cond (.t 87) (.seq (.reg false [⟨some 8, .mv (.c (.p (.int .i64 0))) false, none⟩, ⟨some 9, .mv (.c (.p (.int .i64 3))) false, none⟩])
  .ret) .skip))
  (.seq (.reg true [⟨some 88, .mv (.t 3) false, none⟩, ⟨some 89, .iadrS 1 (.t 88) (.c (.p (.int .i64 0))), none⟩, ⟨some 90, .load 1 false (.t 89), none⟩, ⟨some 91, .mv (.t 3) false, none⟩, ⟨some 92, .iadrS 1 (.t 91) (.c (.p (.int .i64 1))), none⟩, ⟨some 93, .load 1 false (.t 92), none⟩, ⟨some 94, .arith .add (.t 90) (.t 93), none⟩, ⟨some 8, .mv (.t 94) false, none⟩, ⟨some 9, .mv (.c (.p (.int .i64 0))) false, none⟩])
  .ret)) .skip))
  (.seq (.seq (.reg false [⟨some 95, .mv (.t 0) false, none⟩, ⟨some 96, .arith .eql (.t 95) (.c (.p (.int .i64 19))), none⟩])
  (.cond (.t 96) (.seq (.seq (.reg true [⟨some 97, .mv (.t 3) false, none⟩, ⟨some 98, .iadrS 1 (.t 97) (.c (.p (.int .i64 0))), none⟩, ⟨some 99, .load 1 false (.t 98), none⟩, ⟨some 100, .arith .neq (.t 99) (.c (.p (.int .i64 1))), none⟩, ⟨some 101, .mv (.t 100) false, none⟩, ⟨some 102, .mv (.t 3) false, some (101, false)⟩, ⟨some 103, .iadrS 1 (.t 102) (.c (.p (.int .i64 1))), some (101, false)⟩, ⟨some 104, .load 1 false (.t 103), some (101, false)⟩, ⟨some 105, .mv (.t 3) false, some (101, false)⟩, ⟨some 106, .iadrS 1 (.t 105) (.c (.p (.int .i64 2))), some (101, false)⟩, ⟨some 107, .load 1 false (.t 106), some (101, false)⟩, ⟨some 108, .arith .neq (.t 104) (.t 107), some (101, false)⟩, ⟨some 109, .pick (.t 101) (.c (.p (.bool true))) (.t 108), none⟩])
  (.cond (.t 109) (.seq (.reg false [⟨some 8, .mv (.c (.p (.int .i64 0))) false, none⟩, ⟨some 9, .mv (.c (.p (.int .i64 3))) false, none⟩])
  .ret) .skip))
  (.seq (.reg false [⟨some 110, .mv (.t 3) false, none⟩, ⟨some 111, .iadrS 1 (.t 110) (.c (.p (.int .i64 1))), none⟩, ⟨some 112, .load 1 false (.t 111), none⟩, ⟨some 8, .mv (.t 112) false, none⟩, ⟨some 9, .mv (.c (.p (.int .i64 0))) false, none⟩])
  .ret)) .skip))
  (.seq (.seq (.reg true [⟨some 113, .mv (.t 3) false, none⟩, ⟨some 114, .iadrS 1 (.t 113) (.c (.p (.int .i64 0))), none⟩, ⟨some 115, .load 1 false (.t 114), none⟩, ⟨some 116, .mv (.t 3) false, none⟩, ⟨some 117, .iadrS 1 (.t 116) (.c (.p (.int .i64 1))), none⟩, ⟨some 118, .load 1 false (.t 117), none⟩, ⟨some 119, .arith .neq (.t 115) (.t 118), none⟩])
  (.cond (.t 119) (.seq (.reg false [⟨some 8, .mv (.c (.p (.int .i64 0))) false, none⟩, ⟨some 9, .mv (.c (.p (.int .i64 3))) false, none⟩])
  .ret) .skip))
  (.seq (.seq (.reg false [⟨some 120, .mv (.t 0) false, none⟩, ⟨some 121, .arith .eql (.t 120) (.c (.p (.int .i64 16))), none⟩, ⟨some 122, .mv (.t 121) false, none⟩, ⟨some 123, .mv (.t 0) false, some (122, false)⟩, ⟨some 124, .arith .eql (.t 123) (.c (.p (.int .i64 17))), some (122, false)⟩, ⟨some 125, .pick (.t 122) (.c (.p (.bool true))) (.t 124), none⟩, ⟨some 126, .mv (.t 125) false, none⟩, ⟨some 127, .mv (.t 0) false, some (126, false)⟩, ⟨some 128, .arith .eql (.t 127) (.c (.p (.int .i64 18))), some (126, false)⟩, ⟨some 129, .pick (.t 126) (.c (.p (.bool true))) (.t 128), none⟩])
  (.cond (.t 129) (.seq (.reg false [⟨some 8, .mv (.c (.p (.int .i64 1))) false, none⟩, ⟨some 9, .mv (.c (.p (.int .i64 0))) false, none⟩])
  .ret) .skip))
  (.seq (.reg false [⟨some 130, .mv (.t 3) false, none⟩, ⟨some 131, .iadrS 1 (.t 130) (.c (.p (.int .i64 0))), none⟩, ⟨some 132, .load 1 false (.t 131), none⟩, ⟨some 8, .mv (.t 132) false, none⟩, ⟨some 9, .mv (.c (.p (.int .i64 0))) false, none⟩])
  .ret))))))))))), false⟩
def B0_r24_widths : K :=
  (.seq (.seq (.reg false [⟨some 6, .mv (.t 4) false, none⟩, ⟨some 7, .fadr 4 (.t 1), none⟩, ⟨some 8, .load 1 false (.t 7), none⟩, ⟨some 9, .lenS (.t 8), none⟩, ⟨some 10, .arith .lss (.t 6) (.t 9), none⟩])
  (.cond (.t 10) .skip (.exit 0)))
  (.seq (.block 1 (.reg false [⟨some 13, .mv (.t 3) false, none⟩, ⟨some 14, .fadr 4 (.t 1), none⟩, ⟨some 15, .load 1 false (.t 14), none⟩, ⟨some 16, .mv (.t 4) false, none⟩, ⟨some 17, .iadrS 5 (.t 15) (.t 16), none⟩, ⟨some 18, .fadr 1 (.t 17), none⟩, ⟨some 19, .load 1 false (.t 18), none⟩, ⟨some 20, .bslice 1 [(.p (.int .i64 0))] 1 [(0, 1, (.t 19))], none⟩, ⟨some 21, .append 1 8 (.t 13) (.t 20), none⟩, ⟨some 3, .mv (.t 21) true, none⟩]))
  (.reg false [⟨some 11, .mv (.t 4) false, none⟩, ⟨some 12, .arith .add (.t 11) (.c (.p (.int .i64 1))), none⟩, ⟨some 4, .mv (.t 12) false, none⟩])))
def L0_r24_widths : K := .loop [1, 3, 4] B0_r24_widths
def F_r24_widths : AFn := ⟨23, [.tmp 2],
  (.seq (.reg false [⟨some 1, .box 5 true (.t 0) true, none⟩, ⟨some 2, .mv (.c .nils) false, none⟩])
  (.seq (.reg false [⟨some 5, .bslice 1 [(.p (.int .i64 0))] 0 [], none⟩, ⟨some 3, .mv (.t 5) true, none⟩])
  (.seq (.seq (.reg false [⟨some 4, .mv (.c (.p (.int .i64 0))) false, none⟩])
  (.block 0 L0_r24_widths))
  (.seq (.reg false [⟨some 22, .mv (.t 3) false, none⟩, ⟨some 2, .mv (.t 22) false, none⟩])
  .ret)))), false⟩
def F_bits_Cut : AFn := ⟨9, [.tmp 4],
  (.seq (.reg false [⟨some 4, .mv (.c (.p (.int .u64 0))) false, none⟩])
  (.seq (.reg false [⟨some 5, .mv (.t 1) false, none⟩, ⟨some 6, .mv (.t 0) false, none⟩, ⟨some 7, .callf f_bits_Mask [(.t 6)], none⟩, ⟨some 8, .arith .and (.t 5) (.t 7), none⟩, ⟨some 4, .mv (.t 8) false, none⟩])
  .ret)), false⟩
def B0_opinfo_Width : K :=
  (.seq (.reg false [⟨some 25, .arith .lss (.t 24) (.t 23), none⟩])
  (.seq (.cond (.t 25) .skip (.exit 0))
  (.seq (.block 1 (.seq (.reg false [⟨some 26, .iadrS 1 (.t 22) (.t 24), none⟩, ⟨some 27, .load 1 false (.t 26), none⟩, ⟨some 11, .mv (.t 27) false, none⟩])
  (.seq (.reg false [⟨some 28, .mv (.t 11) false, none⟩, ⟨some 29, .callf f_opinfo_inside [(.t 28)], none⟩, ⟨some 30, .not (.t 29), none⟩])
  (.cond (.t 30) (.seq (.reg false [⟨some 8, .mv (.c (.p (.int .i64 0))) false, none⟩, ⟨some 9, .mv (.c (.p (.int .i64 3))) false, none⟩])
  .ret) .skip))))
  (.reg false [⟨some 31, .arith .add (.t 24) (.c (.p (.int .i64 1))), none⟩, ⟨some 24, .mv (.t 31) false, none⟩]))))
def L0_opinfo_Width : K := .loop [0, 1, 2, 3, 22, 23, 24] B0_opinfo_Width
def F_opinfo_Width : AFn := ⟨144, [.tmp 8, .tmp 9],
  (.seq (.reg false [⟨some 8, .mv (.c (.p (.int .i64 0))) false, none⟩, ⟨some 9, .mv (.c (.p (.int .i64 0))) false, none⟩])
  (.seq (.seq (.reg false [⟨some 12, .mv (.t 0) false, none⟩, ⟨some 13, .callf f_opinfo_known [(.t 12)], none⟩, ⟨some 14, .not (.t 13), none⟩, ⟨some 15, .mv (.t 14) false, none⟩, ⟨some 16, .mv (.t 3) false, some (15, false)⟩, ⟨some 17, .lenS (.t 16), some (15, false)⟩, ⟨some 18, .mv (.t 0) false, some (15, false)⟩, ⟨some 19, .callf f_opinfo_Arity [(.t 18)], some (15, false)⟩, ⟨some 20, .arith .neq (.t 17) (.t 19), some (15, false)⟩, ⟨some 21, .pick (.t 15) (.c (.p (.bool true))) (.t 20), none⟩])
  (.cond (.t 21) (.seq (.reg false [⟨some 8, .mv (.c (.p (.int .i64 0))) false, none⟩, ⟨some 9, .mv (.c (.p (.int .i64 4))) false, none⟩])
  .ret) .skip))
  (.seq (.seq (.reg false [⟨some 22, .mv (.t 3) false, none⟩, ⟨some 23, .lenS (.t 22), none⟩, ⟨some 24, .mv (.c (.p (.int .i64 0))) false, none⟩])
  (.block 0 L0_opinfo_Width))
  (.seq (.seq (.reg false [⟨some 32, .mv (.t 0) false, none⟩])
  (.block 2 (.seq (.seq (.reg false [⟨some 34, .arith .eql (.t 32) (.c (.p (.int .i64 1))), none⟩, ⟨some 33, .mv (.t 34) false, none⟩])
  (.cond (.t 33) .skip (.seq (.reg false [⟨some 35, .arith .eql (.t 32) (.c (.p (.int .i64 2))), none⟩, ⟨some 33, .mv (.t 35) false, none⟩])
  (.cond (.t 33) .skip (.seq (.reg false [⟨some 36, .arith .eql (.t 32) (.c (.p (.int .i64 24))), none⟩, ⟨some 33, .mv (.t 36) false, none⟩])
  (.cond (.t 33) .skip (.reg false [⟨some 37, .arith .eql (.t 32) (.c (.p (.int .i64 25))), none⟩, ⟨some 33, .mv (.t 37) false, none⟩])))))))
  (.cond (.t 33) (.seq (.reg false [⟨some 38, .mv (.t 0) false, none⟩, ⟨some 39, .mv (.t 1) false, none⟩, ⟨some 40, .mv (.t 2) false, none⟩, ⟨some 41, .callf f_opinfo_leaf [(.t 38), (.t 39), (.t 40)], none⟩, ⟨some 42, .extract (.t 41) 0, none⟩, ⟨some 43, .extract (.t 41) 1, none⟩, ⟨some 8, .mv (.t 42) false, none⟩, ⟨some 9, .mv (.t 43) false, none⟩])
  .ret) (.seq (.seq (.reg false [⟨some 45, .arith .eql (.t 32) (.c (.p (.int .i64 3))), none⟩, ⟨some 44, .mv (.t 45) false, none⟩])
  (.cond (.t 44) .skip (.seq (.reg false [⟨some 46, .arith .eql (.t 32) (.c (.p (.int .i64 4))), none⟩, ⟨some 44, .mv (.t 46) false, none⟩])
  (.cond (.t 44) .skip (.reg false [⟨some 47, .arith .eql (.t 32) (.c (.p (.int .i64 26))), none⟩, ⟨some 44, .mv (.t 47) false, none⟩])))))
  (.cond (.t 44) (.seq (.reg false [⟨some 48, .mv (.t 3) false, none⟩, ⟨some 49, .iadrS 1 (.t 48) (.c (.p (.int .i64 0))), none⟩, ⟨some 50, .load 1 false (.t 49), none⟩, ⟨some 8, .mv (.t 50) false, none⟩, ⟨some 9, .mv (.c (.p (.int .i64 0))) false, none⟩])
  .ret) (.seq (.seq (.reg false [⟨some 52, .arith .eql (.t 32) (.c (.p (.int .i64 21))), none⟩, ⟨some 51, .mv (.t 52) false, none⟩])
  (.cond (.t 51) .skip (.seq (.reg false [⟨some 53, .arith .eql (.t 32) (.c (.p (.int .i64 22))), none⟩, ⟨some 51, .mv (.t 53) false, none⟩])
  (.cond (.t 51) .skip (.reg false [⟨some 54, .arith .eql (.t 32) (.c (.p (.int .i64 23))), none⟩, ⟨some 51, .mv (.t 54) false, none⟩])))))
  (.cond (.t 51) (.seq (.reg false [⟨some 55, .mv (.t 0) false, none⟩, ⟨some 56, .mv (.t 1) false, none⟩, ⟨some 57, .mv (.t 2) false, none⟩, ⟨some 58, .mv (.t 3) false, none⟩, ⟨some 59, .iadrS 1 (.t 58) (.c (.p (.int .i64 0))), none⟩, ⟨some 60, .load 1 false (.t 59), none⟩, ⟨some 61, .callf f_opinfo_resized [(.t 55), (.t 56), (.t 57), (.t 60)], none⟩, ⟨some 62, .extract (.t 61) 0, none⟩, ⟨some 63, .extract (.t 61) 1, none⟩, ⟨some 8, .mv (.t 62) false, none⟩, ⟨some 9, .mv (.t 63) false, none⟩])
  .ret) (.seq (.reg false [⟨some 65, .arith .eql (.t 32) (.c (.p (.int .i64 19))), none⟩, ⟨some 64, .mv (.t 65) false, none⟩])
  (.cond (.t 64) (.seq (.reg true [⟨some 66, .mv (.t 3) false, none⟩, ⟨some 67, .iadrS 1 (.t 66) (.c (.p (.int .i64 0))), none⟩, ⟨some 68, .load 1 false (.t 67), none⟩, ⟨some 69, .arith .eql (.t 68) (.c (.p (.int .i64 1))), none⟩, ⟨some 70, .mv (.t 69) false, none⟩, ⟨some 71, .mv (.t 3) false, some (70, true)⟩, ⟨some 72, .iadrS 1 (.t 71) (.c (.p (.int .i64 1))), some (70, true)⟩, ⟨some 73, .load 1 false (.t 72), some (70, true)⟩, ⟨some 74, .mv (.t 3) false, some (70, true)⟩, ⟨some 75, .iadrS 1 (.t 74) (.c (.p (.int .i64 2))), some (70, true)⟩, ⟨some 76, .load 1 false (.t 75), some (70, true)⟩, ⟨some 77, .arith .eql (.t 73) (.t 76), some (70, true)⟩, ⟨some 78, .pick (.t 70) (.t 77) (.c (.p (.bool false))), none⟩, ⟨some 79, .mv (.t 3) false, none⟩, ⟨some 80, .iadrS 1 (.t 79) (.c (.p (.int .i64 1))), none⟩, ⟨some 81, .load 1 false (.t 80), none⟩, ⟨some 82, .callf f_opinfo_agreed [(.t 78), (.t 81)], none⟩, ⟨some 83, .extract (.t 82) 0, none⟩, ⟨some 84, .extract (.t 82) 1, none⟩, ⟨some 8, .mv (.t 83) false, none⟩, ⟨some 9, .mv (.t 84) false, none⟩])
  .ret) (.seq (.reg false [⟨some 86, .arith .eql (.t 32) (.c (.p (.int .i64 20))), none⟩, ⟨some 85, .mv (.t 86) false, none⟩])
  (.cond (.t 85) (.seq (.reg true [⟨some 87, .mv (.t 3) false, none⟩, ⟨some 88, .iadrS 1 (.t 87) (.c (.p (.int .i64 0))), none⟩, ⟨some 89, .load 1 false (.t 88), none⟩, ⟨some 90, .arith .geq (.t 89) (.c (.p (.int .i64 1))), none⟩, ⟨some 91, .mv (.t 90) false, none⟩, ⟨some 92, .mv (.t 3) false, some (91, true)⟩, ⟨some 93, .iadrS 1 (.t 92) (.c (.p (.int .i64 1))), some (91, true)⟩, ⟨some 94, .load 1 false (.t 93), some (91, true)⟩, ⟨some 95, .arith .geq (.t 94) (.c (.p (.int .i64 1))), some (91, true)⟩, ⟨some 96, .pick (.t 91) (.t 95) (.c (.p (.bool false))), none⟩, ⟨some 97, .mv (.t 96) false, none⟩, ⟨some 98, .mv (.t 3) false, some (97, true)⟩, ⟨some 99, .iadrS 1 (.t 98) (.c (.p (.int .i64 0))), some (97, true)⟩, ⟨some 100, .load 1 false (.t 99), some (97, true)⟩, ⟨some 101, .mv (.t 3) false, some (97, true)⟩, ⟨some 102, .iadrS 1 (.t 101) (.c (.p (.int .i64 1))), some (97, true)⟩, ⟨some 103, .load 1 false (.t 102), some (97, true)⟩, ⟨some 104, .arith .add (.t 100) (.t 103), some (97, true)⟩, ⟨some 105, .arith .leq (.t 104) (.c (.p (.int .i64 64))), some (97, true)⟩, ⟨some 106, .pick (.t 97) (.t 105) (.c (.p (.bool false))), none⟩, ⟨some 107, .mv (.t 3) false, none⟩, ⟨some 108, .iadrS 1 (.t 107) (.c (.p (.int .i64 0))), none⟩, ⟨some 109, .load 1 false (.t 108), none⟩, ⟨some 110, .mv (.t 3) false, none⟩, ⟨some 111, .iadrS 1 (.t 110) (.c (.p (.int .i64 1))), none⟩, ⟨some 112, .load 1 false (.t 111), none⟩, ⟨some 113, .arith .add (.t 109) (.t 112), none⟩, ⟨some 114, .callf f_opinfo_agreed [(.t 106), (.t 113)], none⟩, ⟨some 115, .extract (.t 114) 0, none⟩, ⟨some 116, .extract (.t 114) 1, none⟩, ⟨some 8, .mv (.t 115) false, none⟩, ⟨some 9, .mv (.t 116) false, none⟩])
  .ret) (.seq (.seq (.reg false [⟨some 118, .arith .eql (.t 32) (.c (.p (.int .i64 16))), none⟩, ⟨some 117, .mv (.t 118) false, none⟩])
  (.cond (.t 117) .skip (.seq (.reg false [⟨some 119, .arith .eql (.t 32) (.c (.p (.int .i64 17))), none⟩, ⟨some 117, .mv (.t 119) false, none⟩])
  (.cond (.t 117) .skip (.reg false [⟨some 120, .arith .eql (.t 32) (.c (.p (.int .i64 18))), none⟩, ⟨some 117, .mv (.t 120) false, none⟩])))))
  (.cond (.t 117) (.seq (.reg true [⟨some 121, .mv (.t 3) false, none⟩, ⟨some 122, .iadrS 1 (.t 121) (.c (.p (.int .i64 0))), none⟩, ⟨some 123, .load 1 false (.t 122), none⟩, ⟨some 124, .mv (.t 3) false, none⟩, ⟨some 125, .iadrS 1 (.t 124) (.c (.p (.int .i64 1))), none⟩, ⟨some 126, .load 1 false (.t 125), none⟩, ⟨some 127, .arith .eql (.t 123) (.t 126), none⟩, ⟨some 128, .callf f_opinfo_agreed [(.t 127), (.c (.p (.int .i64 1)))], none⟩, ⟨some 129, .extract (.t 128) 0, none⟩, ⟨some 130, .extract (.t 128) 1, none⟩, ⟨some 8, .mv (.t 129) false, none⟩, ⟨some 9, .mv (.t 130) false, none⟩])
  .ret) .skip))))))))))))))
  (.seq (.reg true [⟨some 131, .mv (.t 3) false, none⟩, ⟨some 132, .iadrS 1 (.t 131) (.c (.p (.int .i64 0))), none⟩, ⟨some 133, .load 1 false (.t 132), none⟩, ⟨some 134, .mv (.t 3) false, none⟩, ⟨some 135, .iadrS 1 (.t 134) (.c (.p (.int .i64 1))), none⟩, ⟨some 136, .load 1 false (.t 135), none⟩, ⟨some 137, .arith .eql (.t 133) (.t 136), none⟩, ⟨some 138, .mv (.t 3) false, none⟩, ⟨some 139, .iadrS 1 (.t 138) (.c (.p (.int .i64 0))), none⟩, ⟨some 140, .load 1 false (.t 139), none⟩, ⟨some 141, .callf f_opinfo_agreed [(.t 137), (.t 140)], none⟩, ⟨some 142, .extract (.t 141) 0, none⟩, ⟨some 143, .extract (.t 141) 1, none⟩, ⟨some 8, .mv (.t 142) false, none⟩, ⟨some 9, .mv (.t 143) false, none⟩])
  .ret))))), false⟩
def B0_pattern_widths : K :=
  (.seq (.reg false [⟨some 9, .arith .lss (.t 8) (.t 7), none⟩])
  (.seq (.cond (.t 9) .skip (.exit 0))
  (.seq (.block 1 (.seq (.reg false [⟨some 10, .iadrS 5 (.t 6) (.t 8), none⟩, ⟨some 11, .load 5 true (.t 10), none⟩, ⟨some 5, .init 5 true (.t 11) true, none⟩])
  (.reg false [⟨some 12, .mv (.t 3) false, none⟩, ⟨some 13, .fadr 1 (.t 5), none⟩, ⟨some 14, .load 1 false (.t 13), none⟩, ⟨some 15, .bslice 1 [(.p (.int .i64 0))] 1 [(0, 1, (.t 14))], none⟩, ⟨some 16, .append 1 8 (.t 12) (.t 15), none⟩, ⟨some 3, .mv (.t 16) true, none⟩])))
  (.reg false [⟨some 17, .arith .add (.t 8) (.c (.p (.int .i64 1))), none⟩, ⟨some 8, .mv (.t 17) false, none⟩]))))
def L0_pattern_widths : K := .loop [3, 6, 7, 8] B0_pattern_widths
def F_pattern_widths : AFn := ⟨19, [.tmp 2],
  (.seq (.reg false [⟨some 2, .mv (.c .nils) false, none⟩])
  (.seq (.reg false [⟨some 3, .mv (.c .nils) true, none⟩])
  (.seq (.seq (.reg false [⟨some 6, .mv (.t 0) false, none⟩, ⟨some 7, .lenS (.t 6), none⟩, ⟨some 8, .mv (.c (.p (.int .i64 0))) false, none⟩])
  (.block 0 L0_pattern_widths))
  (.seq (.reg false [⟨some 18, .mv (.t 3) false, none⟩, ⟨some 2, .mv (.t 18) false, none⟩])
  .ret)))), false⟩
def B0_r01_Cut : K :=
  (.seq (.reg false [⟨some 10, .arith .lss (.t 9) (.t 8), none⟩])
  (.seq (.cond (.t 10) .skip (.exit 0))
  (.seq (.block 1 (.seq (.reg false [⟨some 11, .mv (.t 9) false, none⟩, ⟨some 6, .mv (.t 11) false, none⟩])
  (.reg false [⟨some 12, .mv (.t 5) false, none⟩, ⟨some 13, .mv (.t 1) false, none⟩, ⟨some 14, .mv (.t 6) false, none⟩, ⟨some 15, .callf f_r01_Bit [(.t 13), (.t 14)], none⟩, ⟨some 16, .mv (.t 6) false, none⟩, ⟨some 17, .conv .u64 (.t 16), none⟩, ⟨some 18, .arith .shl (.t 15) (.t 17), none⟩, ⟨some 19, .arith .or (.t 12) (.t 18), none⟩, ⟨some 5, .mv (.t 19) false, none⟩])))
  (.reg false [⟨some 20, .arith .add (.t 9) (.c (.p (.int .i64 1))), none⟩, ⟨some 9, .mv (.t 20) false, none⟩]))))
def L0_r01_Cut : K := .loop [1, 5, 8, 9] B0_r01_Cut
def F_r01_Cut : AFn := ⟨22, [.tmp 4],
  (.seq (.reg false [⟨some 4, .mv (.c (.p (.int .u64 0))) false, none⟩])
  (.seq (.reg false [⟨some 5, .mv (.c (.p (.int .u64 0))) false, none⟩])
  (.seq (.seq (.reg false [⟨some 7, .mv (.t 0) false, none⟩, ⟨some 8, .callf f_r01_W [(.t 7)], none⟩, ⟨some 9, .mv (.c (.p (.int .i64 0))) false, none⟩])
  (.block 0 L0_r01_Cut))
  (.seq (.reg false [⟨some 21, .mv (.t 5) false, none⟩, ⟨some 4, .mv (.t 21) false, none⟩])
  .ret)))), false⟩
def B0_slices_BinarySearchFunc_api_Var_api_Var_string : K :=
  (.seq (.seq (.reg false [⟨some 15, .mv (.t 9) false, none⟩, ⟨some 16, .mv (.t 10) false, none⟩, ⟨some 17, .arith .lss (.t 15) (.t 16), none⟩])
  (.cond (.t 17) .skip (.exit 0)))
  (.block 1 (.seq (.reg false [⟨some 18, .mv (.t 9) false, none⟩, ⟨some 19, .mv (.t 10) false, none⟩, ⟨some 20, .arith .add (.t 18) (.t 19), none⟩, ⟨some 21, .conv .u64 (.t 20), none⟩, ⟨some 22, .arith .shr (.t 21) (.c (.p (.int .u64 1))), none⟩, ⟨some 23, .conv .i64 (.t 22), none⟩, ⟨some 11, .mv (.t 23) false, none⟩])
  (.seq (.reg false [⟨some 24, .mv (.t 2) false, none⟩, ⟨some 25, .mv (.t 0) false, none⟩, ⟨some 26, .mv (.t 11) false, none⟩, ⟨some 27, .iadrS 2 (.t 25) (.t 26), none⟩, ⟨some 28, .load 2 true (.t 27), none⟩, ⟨some 29, .mv (.t 1) false, none⟩, ⟨some 30, .callv (.t 24) [(.t 28), (.t 29)], none⟩, ⟨some 31, .arith .lss (.t 30) (.c (.p (.int .i64 0))), none⟩])
  (.cond (.t 31) (.reg false [⟨some 32, .mv (.t 11) false, none⟩, ⟨some 33, .arith .add (.t 32) (.c (.p (.int .i64 1))), none⟩, ⟨some 9, .mv (.t 33) false, none⟩]) (.reg false [⟨some 34, .mv (.t 11) false, none⟩, ⟨some 10, .mv (.t 34) false, none⟩]))))))
def L0_slices_BinarySearchFunc_api_Var_api_Var_string : K := .loop [0, 1, 2, 8, 9, 10] B0_slices_BinarySearchFunc_api_Var_api_Var_string
def F_slices_BinarySearchFunc_api_Var_api_Var_string : AFn := ⟨49, [.tmp 6, .tmp 7],
  (.seq (.reg false [⟨some 6, .mv (.c (.p (.int .i64 0))) false, none⟩, ⟨some 7, .mv (.c (.p (.bool false))) false, none⟩])
  (.seq (.reg false [⟨some 12, .mv (.t 0) false, none⟩, ⟨some 13, .lenS (.t 12), none⟩, ⟨some 8, .mv (.t 13) false, none⟩])
  (.seq (.reg false [⟨some 14, .mv (.t 8) false, none⟩, ⟨some 9, .mv (.c (.p (.int .i64 0))) false, none⟩, ⟨some 10, .mv (.t 14) false, none⟩])
  (.seq (.block 0 L0_slices_BinarySearchFunc_api_Var_api_Var_string)
  (.seq (.reg false [⟨some 35, .mv (.t 9) false, none⟩, ⟨some 36, .mv (.t 9) false, none⟩, ⟨some 37, .mv (.t 8) false, none⟩, ⟨some 38, .arith .lss (.t 36) (.t 37), none⟩, ⟨some 39, .mv (.t 38) false, none⟩, ⟨some 40, .mv (.t 2) false, some (39, true)⟩, ⟨some 41, .mv (.t 0) false, some (39, true)⟩, ⟨some 42, .mv (.t 9) false, some (39, true)⟩, ⟨some 43, .iadrS 2 (.t 41) (.t 42), some (39, true)⟩, ⟨some 44, .load 2 true (.t 43), some (39, true)⟩, ⟨some 45, .mv (.t 1) false, some (39, true)⟩, ⟨some 46, .callv (.t 40) [(.t 44), (.t 45)], some (39, true)⟩, ⟨some 47, .arith .eql (.t 46) (.c (.p (.int .i64 0))), some (39, true)⟩, ⟨some 48, .pick (.t 39) (.t 47) (.c (.p (.bool false))), none⟩, ⟨some 6, .mv (.t 35) false, none⟩, ⟨some 7, .mv (.t 48) false, none⟩])
  .ret))))), false⟩
def F_pattern_variables_1 : AFn := ⟨9, [.tmp 4],
  (.seq (.reg false [⟨some 2, .box 2 true (.t 0) true, none⟩, ⟨some 4, .mv (.c (.p (.int .i64 0))) false, none⟩])
  (.seq (.reg false [⟨some 5, .fadr 0 (.t 2), none⟩, ⟨some 6, .load 1 false (.t 5), none⟩, ⟨some 7, .mv (.t 1) false, none⟩, ⟨some 8, .callf f_strings_Compare [(.t 6), (.t 7)], none⟩, ⟨some 4, .mv (.t 8) false, none⟩])
  .ret)), false⟩
def F_strings_Compare : AFn := ⟨8, [.tmp 4],
  (.seq (.reg false [⟨some 4, .mv (.c (.p (.int .i64 0))) false, none⟩])
  (.seq (.reg false [⟨some 5, .mv (.t 0) false, none⟩, ⟨some 6, .mv (.t 1) false, none⟩, ⟨some 7, .callf f_internal_bytealg_CompareString [(.t 5), (.t 6)], none⟩, ⟨some 4, .mv (.t 7) false, none⟩])
  .ret)), false⟩
def F_slices_Contains_api_Op_api_Op : AFn := ⟨9, [.tmp 4],
  (.seq (.reg false [⟨some 4, .mv (.c (.p (.bool false))) false, none⟩])
  (.seq (.reg false [⟨some 5, .mv (.t 0) false, none⟩, ⟨some 6, .mv (.t 1) false, none⟩, ⟨some 7, .callf f_slices_Index_api_Op_api_Op [(.t 5), (.t 6)], none⟩, ⟨some 8, .arith .geq (.t 7) (.c (.p (.int .i64 0))), none⟩, ⟨some 4, .mv (.t 8) false, none⟩])
  .ret)), false⟩
def B0_r04_Is : K :=
  (.seq (.reg false [⟨some 9, .arith .lss (.t 8) (.t 7), none⟩])
  (.seq (.cond (.t 9) .skip (.exit 0))
  (.seq (.block 1 (.seq (.reg false [⟨some 10, .mv (.t 8) false, none⟩, ⟨some 5, .mv (.t 10) false, none⟩])
  (.seq (.reg false [⟨some 11, .mv (.t 1) false, none⟩, ⟨some 12, .mv (.t 5) false, none⟩, ⟨some 13, .iadrS 1 (.t 11) (.t 12), none⟩, ⟨some 14, .load 1 false (.t 13), none⟩, ⟨some 15, .mv (.t 0) false, none⟩, ⟨some 16, .arith .eql (.t 14) (.t 15), none⟩])
  (.cond (.t 16) (.seq (.reg false [⟨some 4, .mv (.c (.p (.bool true))) false, none⟩])
  .ret) .skip))))
  (.reg false [⟨some 17, .arith .add (.t 8) (.c (.p (.int .i64 1))), none⟩, ⟨some 8, .mv (.t 17) false, none⟩]))))
def L0_r04_Is : K := .loop [0, 1, 7, 8] B0_r04_Is
def F_r04_Is : AFn := ⟨18, [.tmp 4],
  (.seq (.reg false [⟨some 4, .mv (.c (.p (.bool false))) false, none⟩])
  (.seq (.seq (.reg false [⟨some 6, .mv (.t 1) false, none⟩, ⟨some 7, .lenS (.t 6), none⟩, ⟨some 8, .mv (.c (.p (.int .i64 0))) false, none⟩])
  (.block 0 L0_r04_Is))
  (.seq (.reg false [⟨some 4, .mv (.c (.p (.bool false))) false, none⟩])
  .ret))), false⟩
def F_cmp_Compare_int : AFn := ⟨20, [.tmp 4],
  (.seq (.reg false [⟨some 4, .mv (.c (.p (.int .i64 0))) false, none⟩])
  (.seq (.reg false [⟨some 7, .mv (.t 0) false, none⟩, ⟨some 8, .callf f_cmp_isNaN_int [(.t 7)], none⟩, ⟨some 5, .mv (.t 8) false, none⟩])
  (.seq (.reg false [⟨some 9, .mv (.t 1) false, none⟩, ⟨some 10, .callf f_cmp_isNaN_int [(.t 9)], none⟩, ⟨some 6, .mv (.t 10) false, none⟩])
  (.seq (.seq (.reg false [⟨some 11, .mv (.t 5) false, none⟩])
  (.cond (.t 11) (.seq (.seq (.reg false [⟨some 12, .mv (.t 6) false, none⟩])
  (.cond (.t 12) (.seq (.reg false [⟨some 4, .mv (.c (.p (.int .i64 0))) false, none⟩])
  .ret) .skip))
  (.seq (.reg false [⟨some 4, .mv (.c (.p (.int .i64 (-1)))) false, none⟩])
  .ret)) .skip))
  (.seq (.seq (.reg false [⟨some 13, .mv (.t 6) false, none⟩])
  (.cond (.t 13) (.seq (.reg false [⟨some 4, .mv (.c (.p (.int .i64 1))) false, none⟩])
  .ret) .skip))
  (.seq (.seq (.reg false [⟨some 14, .mv (.t 0) false, none⟩, ⟨some 15, .mv (.t 1) false, none⟩, ⟨some 16, .arith .lss (.t 14) (.t 15), none⟩])
  (.cond (.t 16) (.seq (.reg false [⟨some 4, .mv (.c (.p (.int .i64 (-1)))) false, none⟩])
  .ret) .skip))
  (.seq (.seq (.reg false [⟨some 17, .mv (.t 0) false, none⟩, ⟨some 18, .mv (.t 1) false, none⟩, ⟨some 19, .arith .gtr (.t 17) (.t 18), none⟩])
  (.cond (.t 19) (.seq (.reg false [⟨some 4, .mv (.c (.p (.int .i64 1))) false, none⟩])
  .ret) .skip))
  (.seq (.reg false [⟨some 4, .mv (.c (.p (.int .i64 0))) false, none⟩])
  .ret)))))))), false⟩
def B0_cmp_Or_int : K :=
  (.seq (.reg false [⟨some 9, .arith .lss (.t 8) (.t 7), none⟩])
  (.seq (.cond (.t 9) .skip (.exit 0))
  (.seq (.block 1 (.seq (.reg false [⟨some 10, .iadrS 1 (.t 6) (.t 8), none⟩, ⟨some 11, .load 1 false (.t 10), none⟩, ⟨some 5, .mv (.t 11) false, none⟩])
  (.seq (.reg false [⟨some 12, .mv (.t 5) false, none⟩, ⟨some 13, .mv (.t 3) false, none⟩, ⟨some 14, .arith .neq (.t 12) (.t 13), none⟩])
  (.cond (.t 14) (.seq (.reg false [⟨some 15, .mv (.t 5) false, none⟩, ⟨some 2, .mv (.t 15) false, none⟩])
  .ret) .skip))))
  (.reg false [⟨some 16, .arith .add (.t 8) (.c (.p (.int .i64 1))), none⟩, ⟨some 8, .mv (.t 16) false, none⟩]))))
def L0_cmp_Or_int : K := .loop [3, 6, 7, 8] B0_cmp_Or_int
def F_cmp_Or_int : AFn := ⟨18, [.tmp 2],
  (.seq (.reg false [⟨some 2, .mv (.c (.p (.int .i64 0))) false, none⟩])
  (.seq (.reg false [⟨some 3, .mv (.c (.p (.int .i64 0))) false, none⟩])
  (.seq (.seq (.reg false [⟨some 6, .mv (.t 0) false, none⟩, ⟨some 7, .lenS (.t 6), none⟩, ⟨some 8, .mv (.c (.p (.int .i64 0))) false, none⟩])
  (.block 0 L0_cmp_Or_int))
  (.seq (.reg false [⟨some 17, .mv (.t 3) false, none⟩, ⟨some 2, .mv (.t 17) false, none⟩])
  .ret)))), false⟩
def F_cmp_Compare_api_Op : AFn := ⟨20, [.tmp 4],
  (.seq (.reg false [⟨some 4, .mv (.c (.p (.int .i64 0))) false, none⟩])
  (.seq (.reg false [⟨some 7, .mv (.t 0) false, none⟩, ⟨some 8, .callf f_cmp_isNaN_api_Op [(.t 7)], none⟩, ⟨some 5, .mv (.t 8) false, none⟩])
  (.seq (.reg false [⟨some 9, .mv (.t 1) false, none⟩, ⟨some 10, .callf f_cmp_isNaN_api_Op [(.t 9)], none⟩, ⟨some 6, .mv (.t 10) false, none⟩])
  (.seq (.seq (.reg false [⟨some 11, .mv (.t 5) false, none⟩])
  (.cond (.t 11) (.seq (.seq (.reg false [⟨some 12, .mv (.t 6) false, none⟩])
  (.cond (.t 12) (.seq (.reg false [⟨some 4, .mv (.c (.p (.int .i64 0))) false, none⟩])
  .ret) .skip))
  (.seq (.reg false [⟨some 4, .mv (.c (.p (.int .i64 (-1)))) false, none⟩])
  .ret)) .skip))
  (.seq (.seq (.reg false [⟨some 13, .mv (.t 6) false, none⟩])
  (.cond (.t 13) (.seq (.reg false [⟨some 4, .mv (.c (.p (.int .i64 1))) false, none⟩])
  .ret) .skip))
  (.seq (.seq (.reg false [⟨some 14, .mv (.t 0) false, none⟩, ⟨some 15, .mv (.t 1) false, none⟩, ⟨some 16, .arith .lss (.t 14) (.t 15), none⟩])
  (.cond (.t 16) (.seq (.reg false [⟨some 4, .mv (.c (.p (.int .i64 (-1)))) false, none⟩])
  .ret) .skip))
  (.seq (.seq (.reg false [⟨some 17, .mv (.t 0) false, none⟩, ⟨some 18, .mv (.t 1) false, none⟩, ⟨some 19, .arith .gtr (.t 17) (.t 18), none⟩])
  (.cond (.t 19) (.seq (.reg false [⟨some 4, .mv (.c (.p (.int .i64 1))) false, none⟩])
  .ret) .skip))
  (.seq (.reg false [⟨some 4, .mv (.c (.p (.int .i64 0))) false, none⟩])
  .ret)))))))), false⟩
def F_cmp_Compare_uint64 : AFn := ⟨20, [.tmp 4],
  (.seq (.reg false [⟨some 4, .mv (.c (.p (.int .i64 0))) false, none⟩])
  (.seq (.reg false [⟨some 7, .mv (.t 0) false, none⟩, ⟨some 8, .callf f_cmp_isNaN_uint64 [(.t 7)], none⟩, ⟨some 5, .mv (.t 8) false, none⟩])
  (.seq (.reg false [⟨some 9, .mv (.t 1) false, none⟩, ⟨some 10, .callf f_cmp_isNaN_uint64 [(.t 9)], none⟩, ⟨some 6, .mv (.t 10) false, none⟩])
  (.seq (.seq (.reg false [⟨some 11, .mv (.t 5) false, none⟩])
  (.cond (.t 11) (.seq (.seq (.reg false [⟨some 12, .mv (.t 6) false, none⟩])
  (.cond (.t 12) (.seq (.reg false [⟨some 4, .mv (.c (.p (.int .i64 0))) false, none⟩])
  .ret) .skip))
  (.seq (.reg false [⟨some 4, .mv (.c (.p (.int .i64 (-1)))) false, none⟩])
  .ret)) .skip))
  (.seq (.seq (.reg false [⟨some 13, .mv (.t 6) false, none⟩])
  (.cond (.t 13) (.seq (.reg false [⟨some 4, .mv (.c (.p (.int .i64 1))) false, none⟩])
  .ret) .skip))
  (.seq (.seq (.reg false [⟨some 14, .mv (.t 0) false, none⟩, ⟨some 15, .mv (.t 1) false, none⟩, ⟨some 16, .arith .lss (.t 14) (.t 15), none⟩])
  (.cond (.t 16) (.seq (.reg false [⟨some 4, .mv (.c (.p (.int .i64 (-1)))) false, none⟩])
  .ret) .skip))
  (.seq (.seq (.reg false [⟨some 17, .mv (.t 0) false, none⟩, ⟨some 18, .mv (.t 1) false, none⟩, ⟨some 19, .arith .gtr (.t 17) (.t 18), none⟩])
  (.cond (.t 19) (.seq (.reg false [⟨some 4, .mv (.c (.p (.int .i64 1))) false, none⟩])
  .ret) .skip))
  (.seq (.reg false [⟨some 4, .mv (.c (.p (.int .i64 0))) false, none⟩])
  .ret)))))))), false⟩
def B0_slices_CompareFunc_api_Term_api_Term_api_Term_api_Term : K :=
  (.seq (.reg false [⟨some 14, .arith .lss (.t 13) (.t 12), none⟩])
  (.seq (.cond (.t 14) .skip (.exit 0))
  (.seq (.block 1 (.seq (.reg false [⟨some 15, .mv (.t 13) false, none⟩, ⟨some 16, .iadrS 5 (.t 11) (.t 13), none⟩, ⟨some 17, .load 5 true (.t 16), none⟩, ⟨some 8, .alloc [(.p (.int .i64 0)), (.p (.int .i64 0)), (.p (.int .u64 0)), (.p (.str (bs []))), .nils] 5, none⟩, ⟨some 7, .mv (.t 15) false, none⟩, ⟨none, .store 5 (.t 8) (.t 17), none⟩])
  (.seq (.seq (.reg false [⟨some 18, .mv (.t 7) false, none⟩, ⟨some 19, .mv (.t 1) false, none⟩, ⟨some 20, .lenS (.t 19), none⟩, ⟨some 21, .arith .geq (.t 18) (.t 20), none⟩])
  (.cond (.t 21) (.seq (.reg false [⟨some 6, .mv (.c (.p (.int .i64 1))) false, none⟩])
  .ret) .skip))
  (.seq (.reg false [⟨some 22, .mv (.t 1) false, none⟩, ⟨some 23, .mv (.t 7) false, none⟩, ⟨some 24, .iadrS 5 (.t 22) (.t 23), none⟩, ⟨some 25, .load 5 true (.t 24), none⟩, ⟨some 9, .init 5 true (.t 25) true, none⟩])
  (.seq (.reg false [⟨some 26, .mv (.t 2) false, none⟩, ⟨some 27, .load 5 true (.t 8), none⟩, ⟨some 28, .load 5 true (.t 9), none⟩, ⟨some 29, .callv (.t 26) [(.t 27), (.t 28)], none⟩, ⟨some 10, .mv (.t 29) false, none⟩])
  (.seq (.reg false [⟨some 30, .mv (.t 10) false, none⟩, ⟨some 31, .arith .neq (.t 30) (.c (.p (.int .i64 0))), none⟩])
  (.cond (.t 31) (.seq (.reg false [⟨some 32, .mv (.t 10) false, none⟩, ⟨some 6, .mv (.t 32) false, none⟩])
  .ret) .skip)))))))
  (.reg false [⟨some 33, .arith .add (.t 13) (.c (.p (.int .i64 1))), none⟩, ⟨some 13, .mv (.t 33) false, none⟩]))))
def L0_slices_CompareFunc_api_Term_api_Term_api_Term_api_Term : K := .loop [0, 1, 2, 11, 12, 13] B0_slices_CompareFunc_api_Term_api_Term_api_Term_api_Term
def F_slices_CompareFunc_api_Term_api_Term_api_Term_api_Term : AFn := ⟨39, [.tmp 6],
  (.seq (.reg false [⟨some 6, .mv (.c (.p (.int .i64 0))) false, none⟩])
  (.seq (.seq (.reg false [⟨some 11, .mv (.t 0) false, none⟩, ⟨some 12, .lenS (.t 11), none⟩, ⟨some 13, .mv (.c (.p (.int .i64 0))) false, none⟩])
  (.block 0 L0_slices_CompareFunc_api_Term_api_Term_api_Term_api_Term))
  (.seq (.seq (.reg false [⟨some 34, .mv (.t 0) false, none⟩, ⟨some 35, .lenS (.t 34), none⟩, ⟨some 36, .mv (.t 1) false, none⟩, ⟨some 37, .lenS (.t 36), none⟩, ⟨some 38, .arith .lss (.t 35) (.t 37), none⟩])
  (.cond (.t 38) (.seq (.reg false [⟨some 6, .mv (.c (.p (.int .i64 (-1)))) false, none⟩])
  .ret) .skip))
  (.seq (.reg false [⟨some 6, .mv (.c (.p (.int .i64 0))) false, none⟩])
  .ret)))), false⟩
def F_opinfo_Arity : AFn := ⟨42, [.tmp 2],
  (.seq (.reg false [⟨some 2, .mv (.c (.p (.int .i64 0))) false, none⟩])
  (.seq (.reg false [⟨some 3, .mv (.c (.p (.int .i64 0))) false, none⟩])
  (.seq (.seq (.reg false [⟨some 4, .mv (.t 0) false, none⟩])
  (.block 0 (.seq (.block 4 (.seq (.block 3 (.seq (.block 2 (.seq (.block 1 (.seq (.seq (.seq (.reg false [⟨some 6, .arith .eql (.t 4) (.c (.p (.int .i64 19))), none⟩, ⟨some 5, .mv (.t 6) false, none⟩])
  (.cond (.t 5) (.exit 1) .skip))
  (.seq (.seq (.seq (.reg false [⟨some 8, .arith .eql (.t 4) (.c (.p (.int .i64 5))), none⟩, ⟨some 7, .mv (.t 8) false, none⟩])
  (.cond (.t 7) .skip (.seq (.reg false [⟨some 9, .arith .eql (.t 4) (.c (.p (.int .i64 6))), none⟩, ⟨some 7, .mv (.t 9) false, none⟩])
  (.cond (.t 7) .skip (.seq (.reg false [⟨some 10, .arith .eql (.t 4) (.c (.p (.int .i64 7))), none⟩, ⟨some 7, .mv (.t 10) false, none⟩])
  (.cond (.t 7) .skip (.seq (.reg false [⟨some 11, .arith .eql (.t 4) (.c (.p (.int .i64 8))), none⟩, ⟨some 7, .mv (.t 11) false, none⟩])
  (.cond (.t 7) .skip (.seq (.reg false [⟨some 12, .arith .eql (.t 4) (.c (.p (.int .i64 9))), none⟩, ⟨some 7, .mv (.t 12) false, none⟩])
  (.cond (.t 7) .skip (.seq (.reg false [⟨some 13, .arith .eql (.t 4) (.c (.p (.int .i64 10))), none⟩, ⟨some 7, .mv (.t 13) false, none⟩])
  (.cond (.t 7) .skip (.seq (.reg false [⟨some 14, .arith .eql (.t 4) (.c (.p (.int .i64 11))), none⟩, ⟨some 7, .mv (.t 14) false, none⟩])
  (.cond (.t 7) .skip (.seq (.reg false [⟨some 15, .arith .eql (.t 4) (.c (.p (.int .i64 12))), none⟩, ⟨some 7, .mv (.t 15) false, none⟩])
  (.cond (.t 7) .skip (.seq (.reg false [⟨some 16, .arith .eql (.t 4) (.c (.p (.int .i64 13))), none⟩, ⟨some 7, .mv (.t 16) false, none⟩])
  (.cond (.t 7) .skip (.seq (.reg false [⟨some 17, .arith .eql (.t 4) (.c (.p (.int .i64 14))), none⟩, ⟨some 7, .mv (.t 17) false, none⟩])
  (.cond (.t 7) .skip (.seq (.reg false [⟨some 18, .arith .eql (.t 4) (.c (.p (.int .i64 15))), none⟩, ⟨some 7, .mv (.t 18) false, none⟩])
  (.cond (.t 7) .skip (.seq (.reg false [⟨some 19, .arith .eql (.t 4) (.c (.p (.int .i64 16))), none⟩, ⟨some 7, .mv (.t 19) false, none⟩])
  (.cond (.t 7) .skip (.seq (.reg false [⟨some 20, .arith .eql (.t 4) (.c (.p (.int .i64 17))), none⟩, ⟨some 7, .mv (.t 20) false, none⟩])
  (.cond (.t 7) .skip (.seq (.reg false [⟨some 21, .arith .eql (.t 4) (.c (.p (.int .i64 18))), none⟩, ⟨some 7, .mv (.t 21) false, none⟩])
  (.cond (.t 7) .skip (.reg false [⟨some 22, .arith .eql (.t 4) (.c (.p (.int .i64 20))), none⟩, ⟨some 7, .mv (.t 22) false, none⟩])))))))))))))))))))))))))))))
  (.cond (.t 7) (.exit 2) .skip))
  (.seq (.seq (.seq (.reg false [⟨some 24, .arith .eql (.t 4) (.c (.p (.int .i64 3))), none⟩, ⟨some 23, .mv (.t 24) false, none⟩])
  (.cond (.t 23) .skip (.seq (.reg false [⟨some 25, .arith .eql (.t 4) (.c (.p (.int .i64 4))), none⟩, ⟨some 23, .mv (.t 25) false, none⟩])
  (.cond (.t 23) .skip (.seq (.reg false [⟨some 26, .arith .eql (.t 4) (.c (.p (.int .i64 21))), none⟩, ⟨some 23, .mv (.t 26) false, none⟩])
  (.cond (.t 23) .skip (.seq (.reg false [⟨some 27, .arith .eql (.t 4) (.c (.p (.int .i64 22))), none⟩, ⟨some 23, .mv (.t 27) false, none⟩])
  (.cond (.t 23) .skip (.seq (.reg false [⟨some 28, .arith .eql (.t 4) (.c (.p (.int .i64 23))), none⟩, ⟨some 23, .mv (.t 28) false, none⟩])
  (.cond (.t 23) .skip (.reg false [⟨some 29, .arith .eql (.t 4) (.c (.p (.int .i64 26))), none⟩, ⟨some 23, .mv (.t 29) false, none⟩])))))))))))
  (.cond (.t 23) (.exit 3) .skip))
  (.seq (.seq (.reg false [⟨some 31, .arith .eql (.t 4) (.c (.p (.int .i64 1))), none⟩, ⟨some 30, .mv (.t 31) false, none⟩])
  (.cond (.t 30) .skip (.seq (.reg false [⟨some 32, .arith .eql (.t 4) (.c (.p (.int .i64 2))), none⟩, ⟨some 30, .mv (.t 32) false, none⟩])
  (.cond (.t 30) .skip (.seq (.reg false [⟨some 33, .arith .eql (.t 4) (.c (.p (.int .i64 24))), none⟩, ⟨some 30, .mv (.t 33) false, none⟩])
  (.cond (.t 30) .skip (.reg false [⟨some 34, .arith .eql (.t 4) (.c (.p (.int .i64 25))), none⟩, ⟨some 30, .mv (.t 34) false, none⟩])))))))
  (.cond (.t 30) (.exit 4) .skip)))))
  (.exit 0)))
  (.reg false [⟨some 35, .mv (.t 3) false, none⟩, ⟨some 36, .arith .add (.t 35) (.c (.p (.int .i64 1))), none⟩, ⟨some 3, .mv (.t 36) false, none⟩])))
  (.reg false [⟨some 37, .mv (.t 3) false, none⟩, ⟨some 38, .arith .add (.t 37) (.c (.p (.int .i64 1))), none⟩, ⟨some 3, .mv (.t 38) false, none⟩])))
  (.reg false [⟨some 39, .mv (.t 3) false, none⟩, ⟨some 40, .arith .add (.t 39) (.c (.p (.int .i64 1))), none⟩, ⟨some 3, .mv (.t 40) false, none⟩])))
  (.seq (.seq (.reg false [⟨some 41, .mv (.t 3) false, none⟩, ⟨some 2, .mv (.t 41) false, none⟩])
  .ret)
  (.exit 0)))))
  (.seq (.reg false [⟨some 2, .mv (.c (.p (.int .i64 (-1)))) false, none⟩])
  .ret)))), false⟩
def B0_term_Name : K :=
  (.seq (.reg false [⟨some 26, .arith .lss (.t 25) (.t 24), none⟩])
  (.seq (.cond (.t 26) .skip (.exit 0))
  (.seq (.block 1 (.seq (.reg false [⟨some 27, .mv (.t 25) false, none⟩, ⟨some 3, .mv (.t 27) false, none⟩])
  (.seq (.reg false [⟨some 28, .mv (.t 0) false, none⟩, ⟨some 29, .mv (.t 3) false, none⟩, ⟨some 30, .idxS (.t 28) (.t 29), none⟩, ⟨some 4, .mv (.t 30) false, none⟩])
  (.seq (.reg false [⟨some 31, .mv (.t 4) false, none⟩, ⟨some 32, .arith .lss (.t 31) (.c (.p (.int .u8 97))), none⟩, ⟨some 33, .mv (.t 32) false, none⟩, ⟨some 34, .mv (.t 4) false, some (33, false)⟩, ⟨some 35, .arith .gtr (.t 34) (.c (.p (.int .u8 122))), some (33, false)⟩, ⟨some 36, .pick (.t 33) (.c (.p (.bool true))) (.t 35), none⟩, ⟨some 37, .mv (.t 36) false, none⟩, ⟨some 38, .mv (.t 4) false, some (37, true)⟩, ⟨some 39, .arith .lss (.t 38) (.c (.p (.int .u8 48))), some (37, true)⟩, ⟨some 40, .mv (.t 39) false, some (37, true)⟩, ⟨some 41, .mv (.t 4) false, some (40, false)⟩, ⟨some 42, .arith .gtr (.t 41) (.c (.p (.int .u8 57))), some (40, false)⟩, ⟨some 43, .pick (.t 40) (.c (.p (.bool true))) (.t 42), some (37, true)⟩, ⟨some 44, .pick (.t 37) (.t 43) (.c (.p (.bool false))), none⟩, ⟨some 45, .mv (.t 44) false, none⟩, ⟨some 46, .mv (.t 4) false, some (45, true)⟩, ⟨some 47, .arith .neq (.t 46) (.c (.p (.int .u8 95))), some (45, true)⟩, ⟨some 48, .pick (.t 45) (.t 47) (.c (.p (.bool false))), none⟩])
  (.cond (.t 48) (.seq (.reg false [⟨some 2, .mv (.c (.p (.bool false))) false, none⟩])
  .ret) .skip)))))
  (.reg false [⟨some 49, .arith .add (.t 25) (.c (.p (.int .i64 1))), none⟩, ⟨some 25, .mv (.t 49) false, none⟩]))))
def L0_term_Name : K := .loop [0, 24, 25] B0_term_Name
def F_term_Name : AFn := ⟨50, [.tmp 2],
  (.seq (.reg false [⟨some 2, .mv (.c (.p (.bool false))) false, none⟩])
  (.seq (.seq (.reg false [⟨some 5, .mv (.t 0) false, none⟩, ⟨some 6, .lenT (.t 5), none⟩, ⟨some 7, .arith .lss (.t 6) (.c (.p (.int .i64 1))), none⟩, ⟨some 8, .mv (.t 7) false, none⟩, ⟨some 9, .mv (.t 0) false, some (8, false)⟩, ⟨some 10, .lenT (.t 9), some (8, false)⟩, ⟨some 11, .arith .gtr (.t 10) (.c (.p (.int .i64 16))), some (8, false)⟩, ⟨some 12, .pick (.t 8) (.c (.p (.bool true))) (.t 11), none⟩, ⟨some 13, .mv (.t 12) false, none⟩, ⟨some 14, .mv (.t 0) false, some (13, false)⟩, ⟨some 15, .idxS (.t 14) (.c (.p (.int .i64 0))), some (13, false)⟩, ⟨some 16, .arith .lss (.t 15) (.c (.p (.int .u8 97))), some (13, false)⟩, ⟨some 17, .pick (.t 13) (.c (.p (.bool true))) (.t 16), none⟩, ⟨some 18, .mv (.t 17) false, none⟩, ⟨some 19, .mv (.t 0) false, some (18, false)⟩, ⟨some 20, .idxS (.t 19) (.c (.p (.int .i64 0))), some (18, false)⟩, ⟨some 21, .arith .gtr (.t 20) (.c (.p (.int .u8 122))), some (18, false)⟩, ⟨some 22, .pick (.t 18) (.c (.p (.bool true))) (.t 21), none⟩])
  (.cond (.t 22) (.seq (.reg false [⟨some 2, .mv (.c (.p (.bool false))) false, none⟩])
  .ret) .skip))
  (.seq (.seq (.reg false [⟨some 23, .mv (.t 0) false, none⟩, ⟨some 24, .lenT (.t 23), none⟩, ⟨some 25, .mv (.c (.p (.int .i64 0))) false, none⟩])
  (.block 0 L0_term_Name))
  (.seq (.reg false [⟨some 2, .mv (.c (.p (.bool true))) false, none⟩])
  .ret)))), false⟩
def F_r04_Leaf : AFn := ⟨6, [.tmp 2],
  (.seq (.reg false [⟨some 2, .mv (.c (.p (.bool false))) false, none⟩])
  (.seq (.reg false [⟨some 3, .mv (.t 0) false, none⟩, ⟨some 4, .bslice 1 [(.p (.int .i64 0))] 4 [(0, 1, (.c (.p (.int .i64 1)))), (1, 1, (.c (.p (.int .i64 2)))), (2, 1, (.c (.p (.int .i64 24)))), (3, 1, (.c (.p (.int .i64 25))))], none⟩, ⟨some 5, .callf f_r04_Is [(.t 3), (.t 4)], none⟩, ⟨some 2, .mv (.t 5) false, none⟩])
  .ret)), false⟩
def F_r04_width : AFn := ⟨9, [.tmp 2],
  (.seq (.reg false [⟨some 2, .mv (.c (.p (.bool false))) false, none⟩])
  (.seq (.reg false [⟨some 3, .mv (.t 0) false, none⟩, ⟨some 4, .arith .geq (.t 3) (.c (.p (.int .i64 0))), none⟩, ⟨some 5, .mv (.t 4) false, none⟩, ⟨some 6, .mv (.t 0) false, some (5, true)⟩, ⟨some 7, .arith .leq (.t 6) (.c (.p (.int .i64 64))), some (5, true)⟩, ⟨some 8, .pick (.t 5) (.t 7) (.c (.p (.bool false))), none⟩, ⟨some 2, .mv (.t 8) false, none⟩])
  .ret)), false⟩
def F_r04_leaf : AFn := ⟨31, [.tmp 6, .tmp 7],
  (.seq (.reg false [⟨some 6, .mv (.c (.p (.int .i64 0))) false, none⟩, ⟨some 7, .mv (.c (.p (.int .i64 0))) false, none⟩])
  (.seq (.seq (.reg false [⟨some 8, .mv (.t 1) false, none⟩, ⟨some 9, .callf f_r04_width [(.t 8)], none⟩, ⟨some 10, .not (.t 9), none⟩, ⟨some 11, .mv (.t 10) false, none⟩, ⟨some 12, .mv (.t 0) false, some (11, false)⟩, ⟨some 13, .arith .eql (.t 12) (.c (.p (.int .i64 2))), some (11, false)⟩, ⟨some 14, .mv (.t 13) false, some (11, false)⟩, ⟨some 15, .mv (.t 1) false, some (14, true)⟩, ⟨some 16, .arith .gtr (.t 15) (.c (.p (.int .i64 0))), some (14, true)⟩, ⟨some 17, .pick (.t 14) (.t 16) (.c (.p (.bool false))), some (11, false)⟩, ⟨some 18, .mv (.t 17) false, some (11, false)⟩, ⟨some 19, .mv (.t 1) false, some (18, true)⟩, ⟨some 20, .arith .lss (.t 19) (.c (.p (.int .i64 64))), some (18, true)⟩, ⟨some 21, .pick (.t 18) (.t 20) (.c (.p (.bool false))), some (11, false)⟩, ⟨some 22, .mv (.t 21) false, some (11, false)⟩, ⟨some 23, .mv (.t 2) false, some (22, true)⟩, ⟨some 24, .mv (.t 1) false, some (22, true)⟩, ⟨some 25, .conv .u64 (.t 24), some (22, true)⟩, ⟨some 26, .arith .shl (.c (.p (.int .u64 1))) (.t 25), some (22, true)⟩, ⟨some 27, .arith .geq (.t 23) (.t 26), some (22, true)⟩, ⟨some 28, .pick (.t 22) (.t 27) (.c (.p (.bool false))), some (11, false)⟩, ⟨some 29, .pick (.t 11) (.c (.p (.bool true))) (.t 28), none⟩])
  (.cond (.t 29) (.seq (.reg false [⟨some 6, .mv (.c (.p (.int .i64 0))) false, none⟩, ⟨some 7, .mv (.c (.p (.int .i64 3))) false, none⟩])
  .ret) .skip))
  (.seq (.reg false [⟨some 30, .mv (.t 1) false, none⟩, ⟨some 6, .mv (.t 30) false, none⟩, ⟨some 7, .mv (.c (.p (.int .i64 0))) false, none⟩])
  .ret))), false⟩
def F_r04_parts : AFn := ⟨46, [.tmp 8, .tmp 9],
  (.seq (.reg false [⟨some 8, .mv (.c (.p (.int .i64 0))) false, none⟩, ⟨some 9, .mv (.c (.p (.int .i64 0))) false, none⟩])
  (.seq (.seq (.reg false [⟨some 10, .mv (.t 1) false, none⟩, ⟨some 11, .callf f_r04_width [(.t 10)], none⟩, ⟨some 12, .not (.t 11), none⟩, ⟨some 13, .mv (.t 12) false, none⟩, ⟨some 14, .mv (.t 1) false, some (13, false)⟩, ⟨some 15, .arith .lss (.t 14) (.c (.p (.int .i64 1))), some (13, false)⟩, ⟨some 16, .pick (.t 13) (.c (.p (.bool true))) (.t 15), none⟩, ⟨some 17, .mv (.t 16) false, none⟩, ⟨some 18, .mv (.t 3) false, some (17, false)⟩, ⟨some 19, .arith .lss (.t 18) (.c (.p (.int .i64 1))), some (17, false)⟩, ⟨some 20, .pick (.t 17) (.c (.p (.bool true))) (.t 19), none⟩])
  (.cond (.t 20) (.seq (.reg false [⟨some 8, .mv (.c (.p (.int .i64 0))) false, none⟩, ⟨some 9, .mv (.c (.p (.int .i64 3))) false, none⟩])
  .ret) .skip))
  (.seq (.seq (.reg false [⟨some 21, .mv (.t 0) false, none⟩, ⟨some 22, .arith .eql (.t 21) (.c (.p (.int .i64 21))), none⟩, ⟨some 23, .mv (.t 22) false, none⟩, ⟨some 24, .mv (.t 1) false, some (23, true)⟩, ⟨some 25, .mv (.t 3) false, some (23, true)⟩, ⟨some 26, .arith .gtr (.t 24) (.t 25), some (23, true)⟩, ⟨some 27, .mv (.t 26) false, some (23, true)⟩, ⟨some 28, .mv (.t 2) false, some (27, false)⟩, ⟨some 29, .mv (.t 3) false, some (27, false)⟩, ⟨some 30, .mv (.t 1) false, some (27, false)⟩, ⟨some 31, .arith .sub (.t 29) (.t 30), some (27, false)⟩, ⟨some 32, .conv .u64 (.t 31), some (27, false)⟩, ⟨some 33, .arith .gtr (.t 28) (.t 32), some (27, false)⟩, ⟨some 34, .pick (.t 27) (.c (.p (.bool true))) (.t 33), some (23, true)⟩, ⟨some 35, .pick (.t 23) (.t 34) (.c (.p (.bool false))), none⟩, ⟨some 36, .mv (.t 35) false, none⟩, ⟨some 37, .mv (.t 0) false, some (36, false)⟩, ⟨some 38, .arith .neq (.t 37) (.c (.p (.int .i64 21))), some (36, false)⟩, ⟨some 39, .mv (.t 38) false, some (36, false)⟩, ⟨some 40, .mv (.t 1) false, some (39, true)⟩, ⟨some 41, .mv (.t 3) false, some (39, true)⟩, ⟨some 42, .arith .lss (.t 40) (.t 41), some (39, true)⟩, ⟨some 43, .pick (.t 39) (.t 42) (.c (.p (.bool false))), some (36, false)⟩, ⟨some 44, .pick (.t 36) (.c (.p (.bool true))) (.t 43), none⟩])
  (.cond (.t 44) (.seq (.reg false [⟨some 8, .mv (.c (.p (.int .i64 0))) false, none⟩, ⟨some 9, .mv (.c (.p (.int .i64 3))) false, none⟩])
  .ret) .skip))
  (.seq (.reg false [⟨some 45, .mv (.t 1) false, none⟩, ⟨some 8, .mv (.t 45) false, none⟩, ⟨some 9, .mv (.c (.p (.int .i64 0))) false, none⟩])
  .ret)))), false⟩
def F_bits_Mask : AFn := ⟨7, [.tmp 2],
  (.seq (.reg false [⟨some 2, .mv (.c (.p (.int .u64 0))) false, none⟩])
  (.seq (.reg false [⟨some 3, .mv (.t 0) false, none⟩, ⟨some 4, .callf f_bits_clamp [(.t 3)], none⟩, ⟨some 5, .arith .sub (.c (.p (.int .i64 64))) (.t 4), none⟩, ⟨some 6, .arith .shr (.c (.p (.int .u64 18446744073709551615))) (.t 5), none⟩, ⟨some 2, .mv (.t 6) false, none⟩])
  .ret)), false⟩
def F_opinfo_known : AFn := ⟨9, [.tmp 2],
  (.seq (.reg false [⟨some 2, .mv (.c (.p (.bool false))) false, none⟩])
  (.seq (.reg false [⟨some 3, .mv (.t 0) false, none⟩, ⟨some 4, .arith .geq (.t 3) (.c (.p (.int .i64 1))), none⟩, ⟨some 5, .mv (.t 4) false, none⟩, ⟨some 6, .mv (.t 0) false, some (5, true)⟩, ⟨some 7, .arith .leq (.t 6) (.c (.p (.int .i64 26))), some (5, true)⟩, ⟨some 8, .pick (.t 5) (.t 7) (.c (.p (.bool false))), none⟩, ⟨some 2, .mv (.t 8) false, none⟩])
  .ret)), false⟩
def F_opinfo_inside : AFn := ⟨9, [.tmp 2],
  (.seq (.reg false [⟨some 2, .mv (.c (.p (.bool false))) false, none⟩])
  (.seq (.reg false [⟨some 3, .mv (.t 0) false, none⟩, ⟨some 4, .arith .geq (.t 3) (.c (.p (.int .i64 0))), none⟩, ⟨some 5, .mv (.t 4) false, none⟩, ⟨some 6, .mv (.t 0) false, some (5, true)⟩, ⟨some 7, .arith .leq (.t 6) (.c (.p (.int .i64 64))), some (5, true)⟩, ⟨some 8, .pick (.t 5) (.t 7) (.c (.p (.bool false))), none⟩, ⟨some 2, .mv (.t 8) false, none⟩])
  .ret)), false⟩
def F_opinfo_leaf : AFn := ⟨26, [.tmp 6, .tmp 7],
  (.seq (.reg false [⟨some 6, .mv (.c (.p (.int .i64 0))) false, none⟩, ⟨some 7, .mv (.c (.p (.int .i64 0))) false, none⟩])
  (.seq (.seq (.reg false [⟨some 8, .mv (.t 1) false, none⟩, ⟨some 9, .callf f_opinfo_inside [(.t 8)], none⟩, ⟨some 10, .not (.t 9), none⟩, ⟨some 11, .mv (.t 10) false, none⟩, ⟨some 12, .mv (.t 0) false, some (11, false)⟩, ⟨some 13, .arith .eql (.t 12) (.c (.p (.int .i64 2))), some (11, false)⟩, ⟨some 14, .mv (.t 13) false, some (11, false)⟩, ⟨some 15, .mv (.t 1) false, some (14, true)⟩, ⟨some 16, .arith .gtr (.t 15) (.c (.p (.int .i64 0))), some (14, true)⟩, ⟨some 17, .pick (.t 14) (.t 16) (.c (.p (.bool false))), some (11, false)⟩, ⟨some 18, .mv (.t 17) false, some (11, false)⟩, ⟨some 19, .mv (.t 2) false, some (18, true)⟩, ⟨some 20, .mv (.t 1) false, some (18, true)⟩, ⟨some 21, .arith .shr (.t 19) (.t 20), some (18, true)⟩, ⟨some 22, .arith .neq (.t 21) (.c (.p (.int .u64 0))), some (18, true)⟩, ⟨some 23, .pick (.t 18) (.t 22) (.c (.p (.bool false))), some (11, false)⟩, ⟨some 24, .pick (.t 11) (.c (.p (.bool true))) (.t 23), none⟩])
  (.cond (.t 24) (.seq (.reg false [⟨some 6, .mv (.c (.p (.int .i64 0))) false, none⟩, ⟨some 7, .mv (.c (.p (.int .i64 3))) false, none⟩])
  .ret) .skip))
  (.seq (.reg false [⟨some 25, .mv (.t 1) false, none⟩, ⟨some 6, .mv (.t 25) false, none⟩, ⟨some 7, .mv (.c (.p (.int .i64 0))) false, none⟩])
  .ret))), false⟩
def F_opinfo_resized : AFn := ⟨45, [.tmp 8, .tmp 9],
  (.seq (.reg false [⟨some 8, .mv (.c (.p (.int .i64 0))) false, none⟩, ⟨some 9, .mv (.c (.p (.int .i64 0))) false, none⟩])
  (.seq (.seq (.reg false [⟨some 10, .mv (.t 1) false, none⟩, ⟨some 11, .arith .lss (.t 10) (.c (.p (.int .i64 1))), none⟩, ⟨some 12, .mv (.t 11) false, none⟩, ⟨some 13, .mv (.t 1) false, some (12, false)⟩, ⟨some 14, .arith .gtr (.t 13) (.c (.p (.int .i64 64))), some (12, false)⟩, ⟨some 15, .pick (.t 12) (.c (.p (.bool true))) (.t 14), none⟩, ⟨some 16, .mv (.t 15) false, none⟩, ⟨some 17, .mv (.t 3) false, some (16, false)⟩, ⟨some 18, .arith .lss (.t 17) (.c (.p (.int .i64 1))), some (16, false)⟩, ⟨some 19, .pick (.t 16) (.c (.p (.bool true))) (.t 18), none⟩])
  (.cond (.t 19) (.seq (.reg false [⟨some 8, .mv (.c (.p (.int .i64 0))) false, none⟩, ⟨some 9, .mv (.c (.p (.int .i64 3))) false, none⟩])
  .ret) .skip))
  (.seq (.seq (.reg false [⟨some 20, .mv (.t 0) false, none⟩, ⟨some 21, .arith .neq (.t 20) (.c (.p (.int .i64 21))), none⟩, ⟨some 22, .mv (.t 21) false, none⟩, ⟨some 23, .mv (.t 1) false, some (22, true)⟩, ⟨some 24, .mv (.t 3) false, some (22, true)⟩, ⟨some 25, .arith .lss (.t 23) (.t 24), some (22, true)⟩, ⟨some 26, .pick (.t 22) (.t 25) (.c (.p (.bool false))), none⟩, ⟨some 27, .mv (.t 26) false, none⟩, ⟨some 28, .mv (.t 0) false, some (27, false)⟩, ⟨some 29, .arith .eql (.t 28) (.c (.p (.int .i64 21))), some (27, false)⟩, ⟨some 30, .mv (.t 29) false, some (27, false)⟩, ⟨some 31, .mv (.t 1) false, some (30, true)⟩, ⟨some 32, .mv (.t 3) false, some (30, true)⟩, ⟨some 33, .arith .gtr (.t 31) (.t 32), some (30, true)⟩, ⟨some 34, .mv (.t 33) false, some (30, true)⟩, ⟨some 35, .mv (.t 2) false, some (34, false)⟩, ⟨some 36, .mv (.t 3) false, some (34, false)⟩, ⟨some 37, .mv (.t 1) false, some (34, false)⟩, ⟨some 38, .arith .sub (.t 36) (.t 37), some (34, false)⟩, ⟨some 39, .conv .u64 (.t 38), some (34, false)⟩, ⟨some 40, .arith .gtr (.t 35) (.t 39), some (34, false)⟩, ⟨some 41, .pick (.t 34) (.c (.p (.bool true))) (.t 40), some (30, true)⟩, ⟨some 42, .pick (.t 30) (.t 41) (.c (.p (.bool false))), some (27, false)⟩, ⟨some 43, .pick (.t 27) (.c (.p (.bool true))) (.t 42), none⟩])
  (.cond (.t 43) (.seq (.reg false [⟨some 8, .mv (.c (.p (.int .i64 0))) false, none⟩, ⟨some 9, .mv (.c (.p (.int .i64 3))) false, none⟩])
  .ret) .skip))
  (.seq (.reg false [⟨some 44, .mv (.t 1) false, none⟩, ⟨some 8, .mv (.t 44) false, none⟩, ⟨some 9, .mv (.c (.p (.int .i64 0))) false, none⟩])
  .ret)))), false⟩
def F_opinfo_agreed : AFn := ⟨9, [.tmp 4, .tmp 5],
  (.seq (.reg false [⟨some 4, .mv (.c (.p (.int .i64 0))) false, none⟩, ⟨some 5, .mv (.c (.p (.int .i64 0))) false, none⟩])
  (.seq (.seq (.reg false [⟨some 6, .mv (.t 0) false, none⟩, ⟨some 7, .not (.t 6), none⟩])
  (.cond (.t 7) (.seq (.reg false [⟨some 4, .mv (.c (.p (.int .i64 0))) false, none⟩, ⟨some 5, .mv (.c (.p (.int .i64 3))) false, none⟩])
  .ret) .skip))
  (.seq (.reg false [⟨some 8, .mv (.t 1) false, none⟩, ⟨some 4, .mv (.t 8) false, none⟩, ⟨some 5, .mv (.c (.p (.int .i64 0))) false, none⟩])
  .ret))), false⟩
def F_r01_W : AFn := ⟨6, [.tmp 2],
  (.seq (.reg false [⟨some 2, .mv (.c (.p (.int .i64 0))) false, none⟩])
  (.seq (.reg false [⟨some 3, .mv (.t 0) false, none⟩, ⟨some 4, .minmax true [(.t 3), (.c (.p (.int .i64 1)))], none⟩, ⟨some 5, .minmax false [(.t 4), (.c (.p (.int .i64 64)))], none⟩, ⟨some 2, .mv (.t 5) false, none⟩])
  .ret)), false⟩
def F_r01_Bit : AFn := ⟨16, [.tmp 4],
  (.seq (.reg false [⟨some 4, .mv (.c (.p (.int .u64 0))) false, none⟩])
  (.seq (.seq (.reg false [⟨some 5, .mv (.t 1) false, none⟩, ⟨some 6, .arith .lss (.t 5) (.c (.p (.int .i64 0))), none⟩, ⟨some 7, .mv (.t 6) false, none⟩, ⟨some 8, .mv (.t 1) false, some (7, false)⟩, ⟨some 9, .arith .gtr (.t 8) (.c (.p (.int .i64 63))), some (7, false)⟩, ⟨some 10, .pick (.t 7) (.c (.p (.bool true))) (.t 9), none⟩])
  (.cond (.t 10) (.seq (.reg false [⟨some 4, .mv (.c (.p (.int .u64 0))) false, none⟩])
  .ret) .skip))
  (.seq (.reg false [⟨some 11, .mv (.t 0) false, none⟩, ⟨some 12, .mv (.t 1) false, none⟩, ⟨some 13, .conv .u64 (.t 12), none⟩, ⟨some 14, .arith .shr (.t 11) (.t 13), none⟩, ⟨some 15, .arith .and (.t 14) (.c (.p (.int .u64 1))), none⟩, ⟨some 4, .mv (.t 15) false, none⟩])
  .ret))), false⟩
def F_internal_bytealg_CompareString : AFn := ⟨8, [.tmp 4],
  (.seq (.reg false [⟨some 4, .mv (.c (.p (.int .i64 0))) false, none⟩])
  (.seq (.reg false [⟨some 5, .mv (.t 0) false, none⟩, ⟨some 6, .mv (.t 1) false, none⟩, ⟨some 7, .callf f_internal_bytealg_abigen_runtime_cmpstring [(.t 5), (.t 6)], none⟩, ⟨some 4, .mv (.t 7) false, none⟩])
  .ret)), false⟩
def F_slices_rotateRight_api_Var : AFn := ⟨10, [],
  (.reg false [⟨some 4, .mv (.t 0) false, none⟩, ⟨some 5, .mv (.t 0) false, none⟩, ⟨some 6, .lenS (.t 5), none⟩, ⟨some 7, .mv (.t 1) false, none⟩, ⟨some 8, .arith .sub (.t 6) (.t 7), none⟩, ⟨some 9, .callf f_slices_rotateLeft_api_Var [(.t 4), (.t 8)], none⟩]), false⟩
def B0_slices_Index_api_Op_api_Op : K :=
  (.seq (.reg false [⟨some 9, .arith .lss (.t 8) (.t 7), none⟩])
  (.seq (.cond (.t 9) .skip (.exit 0))
  (.seq (.block 1 (.seq (.reg false [⟨some 10, .mv (.t 8) false, none⟩, ⟨some 5, .mv (.t 10) false, none⟩])
  (.seq (.reg false [⟨some 11, .mv (.t 1) false, none⟩, ⟨some 12, .mv (.t 0) false, none⟩, ⟨some 13, .mv (.t 5) false, none⟩, ⟨some 14, .iadrS 1 (.t 12) (.t 13), none⟩, ⟨some 15, .load 1 false (.t 14), none⟩, ⟨some 16, .arith .eql (.t 11) (.t 15), none⟩])
  (.cond (.t 16) (.seq (.reg false [⟨some 17, .mv (.t 5) false, none⟩, ⟨some 4, .mv (.t 17) false, none⟩])
  .ret) .skip))))
  (.reg false [⟨some 18, .arith .add (.t 8) (.c (.p (.int .i64 1))), none⟩, ⟨some 8, .mv (.t 18) false, none⟩]))))
def L0_slices_Index_api_Op_api_Op : K := .loop [0, 1, 7, 8] B0_slices_Index_api_Op_api_Op
def F_slices_Index_api_Op_api_Op : AFn := ⟨19, [.tmp 4],
  (.seq (.reg false [⟨some 4, .mv (.c (.p (.int .i64 0))) false, none⟩])
  (.seq (.seq (.reg false [⟨some 6, .mv (.t 0) false, none⟩, ⟨some 7, .lenS (.t 6), none⟩, ⟨some 8, .mv (.c (.p (.int .i64 0))) false, none⟩])
  (.block 0 L0_slices_Index_api_Op_api_Op))
  (.seq (.reg false [⟨some 4, .mv (.c (.p (.int .i64 (-1)))) false, none⟩])
  .ret))), false⟩
def F_cmp_isNaN_int : AFn := ⟨6, [.tmp 2],
  (.seq (.reg false [⟨some 2, .mv (.c (.p (.bool false))) false, none⟩])
  (.seq (.reg false [⟨some 3, .mv (.t 0) false, none⟩, ⟨some 4, .mv (.t 0) false, none⟩, ⟨some 5, .arith .neq (.t 3) (.t 4), none⟩, ⟨some 2, .mv (.t 5) false, none⟩])
  .ret)), false⟩
def F_cmp_isNaN_api_Op : AFn := ⟨6, [.tmp 2],
  (.seq (.reg false [⟨some 2, .mv (.c (.p (.bool false))) false, none⟩])
  (.seq (.reg false [⟨some 3, .mv (.t 0) false, none⟩, ⟨some 4, .mv (.t 0) false, none⟩, ⟨some 5, .arith .neq (.t 3) (.t 4), none⟩, ⟨some 2, .mv (.t 5) false, none⟩])
  .ret)), false⟩
def F_cmp_isNaN_uint64 : AFn := ⟨6, [.tmp 2],
  (.seq (.reg false [⟨some 2, .mv (.c (.p (.bool false))) false, none⟩])
  (.seq (.reg false [⟨some 3, .mv (.t 0) false, none⟩, ⟨some 4, .mv (.t 0) false, none⟩, ⟨some 5, .arith .neq (.t 3) (.t 4), none⟩, ⟨some 2, .mv (.t 5) false, none⟩])
  .ret)), false⟩
def F_bits_clamp : AFn := ⟨6, [.tmp 2],
  (.seq (.reg false [⟨some 2, .mv (.c (.p (.int .i64 0))) false, none⟩])
  (.seq (.reg false [⟨some 3, .mv (.t 0) false, none⟩, ⟨some 4, .minmax true [(.t 3), (.c (.p (.int .i64 1)))], none⟩, ⟨some 5, .minmax false [(.t 4), (.c (.p (.int .i64 64)))], none⟩, ⟨some 2, .mv (.t 5) false, none⟩])
  .ret)), false⟩
def F_slices_rotateLeft_api_Var : AFn := ⟨14, [],
  (.seq (.reg false [⟨some 4, .mv (.t 0) false, none⟩, ⟨some 5, .mv (.t 1) false, none⟩, ⟨some 6, .slcS 2 (.t 4) none (some (.t 5)) none, none⟩, ⟨some 7, .callf f_slices_Reverse_api_Var_api_Var [(.t 6)], none⟩])
  (.seq (.reg false [⟨some 8, .mv (.t 0) false, none⟩, ⟨some 9, .mv (.t 1) false, none⟩, ⟨some 10, .slcS 2 (.t 8) (some (.t 9)) none none, none⟩, ⟨some 11, .callf f_slices_Reverse_api_Var_api_Var [(.t 10)], none⟩])
  (.reg false [⟨some 12, .mv (.t 0) false, none⟩, ⟨some 13, .callf f_slices_Reverse_api_Var_api_Var [(.t 12)], none⟩]))), false⟩
def B0_slices_Reverse_api_Var_api_Var : K :=
  (.seq (.seq (.reg false [⟨some 7, .mv (.t 2) false, none⟩, ⟨some 8, .mv (.t 3) false, none⟩, ⟨some 9, .arith .lss (.t 7) (.t 8), none⟩])
  (.cond (.t 9) .skip (.exit 0)))
  (.seq (.block 1 (.reg true [⟨some 14, .mv (.t 0) false, none⟩, ⟨some 15, .mv (.t 2) false, none⟩, ⟨some 16, .mv (.t 0) false, none⟩, ⟨some 17, .mv (.t 3) false, none⟩, ⟨some 18, .mv (.t 0) false, none⟩, ⟨some 19, .mv (.t 3) false, none⟩, ⟨some 20, .iadrS 2 (.t 18) (.t 19), none⟩, ⟨some 21, .load 2 true (.t 20), none⟩, ⟨some 22, .mv (.t 0) false, none⟩, ⟨some 23, .mv (.t 2) false, none⟩, ⟨some 24, .iadrS 2 (.t 22) (.t 23), none⟩, ⟨some 25, .load 2 true (.t 24), none⟩, ⟨some 26, .iadrS 2 (.t 14) (.t 15), none⟩, ⟨none, .store 2 (.t 26) (.t 21), none⟩, ⟨some 27, .iadrS 2 (.t 16) (.t 17), none⟩, ⟨none, .store 2 (.t 27) (.t 25), none⟩]))
  (.reg false [⟨some 10, .mv (.t 2) false, none⟩, ⟨some 11, .arith .add (.t 10) (.c (.p (.int .i64 1))), none⟩, ⟨some 12, .mv (.t 3) false, none⟩, ⟨some 13, .arith .sub (.t 12) (.c (.p (.int .i64 1))), none⟩, ⟨some 2, .mv (.t 11) false, none⟩, ⟨some 3, .mv (.t 13) false, none⟩])))
def L0_slices_Reverse_api_Var_api_Var : K := .loop [0, 2, 3] B0_slices_Reverse_api_Var_api_Var
def F_slices_Reverse_api_Var_api_Var : AFn := ⟨28, [],
  (.seq (.reg false [⟨some 4, .mv (.t 0) false, none⟩, ⟨some 5, .lenS (.t 4), none⟩, ⟨some 6, .arith .sub (.t 5) (.c (.p (.int .i64 1))), none⟩, ⟨some 2, .mv (.c (.p (.int .i64 0))) false, none⟩, ⟨some 3, .mv (.t 6) false, none⟩])
  (.block 0 L0_slices_Reverse_api_Var_api_Var)), false⟩
def tbl : List (FuncId × AFn) := [
  (f_law24_PatternChecks, F_law24_PatternChecks),
  (f_law24_PatternWidths, F_law24_PatternWidths),
  (f_law24_PatternStays, F_law24_PatternStays),
  (f_law24_PatternNames, F_law24_PatternNames),
  (f_law24_PatternVariables, F_law24_PatternVariables),
  (f_law24_PatternGround, F_law24_PatternGround),
  (f_r10_Small, F_r10_Small),
  (f_law24_lives, F_law24_lives),
  (f_pattern_Check, F_pattern_Check),
  (f_r24_Check, F_r24_Check),
  (f_pattern_At, F_pattern_At),
  (f_r24_At, F_r24_At),
  (f_r10_Same, F_r10_Same),
  (f_pattern_Generic, F_pattern_Generic),
  (f_r24_SameVars, F_r24_SameVars),
  (f_pattern_Holes, F_pattern_Holes),
  (f_r24_Vars, F_r24_Vars),
  (f_pattern_Nums, F_pattern_Nums),
  (f_r24_Generic, F_r24_Generic),
  (f_pattern_Ground, F_pattern_Ground),
  (f_r24_Ground, F_r24_Ground),
  (f_pattern_Variables, F_pattern_Variables),
  (f_r24_Variables, F_r24_Variables),
  (f_pattern_Least, F_pattern_Least),
  (f_r24_Compare, F_r24_Compare),
  (f_r10_left, F_r10_left),
  (f_law24_hole, F_law24_hole),
  (f_term_Size, F_term_Size),
  (f_term_Depth, F_term_Depth),
  (f_pattern_nodes, F_pattern_nodes),
  (f_pattern_preorder, F_pattern_preorder),
  (f_pattern_variable, F_pattern_variable),
  (f_r07_Deep, F_r07_Deep),
  (f_r24_Postorder, F_r24_Postorder),
  (f_r24_node, F_r24_node),
  (f_r24_names, F_r24_names),
  (f_pattern_at, F_pattern_at),
  (f_r24_at, F_r24_at),
  (f_pattern_variables, F_pattern_variables),
  (f_r24_Preorder, F_r24_Preorder),
  (f_r24_insert, F_r24_insert),
  (f_pattern_has, F_pattern_has),
  (f_r04_Pattern, F_r04_Pattern),
  (f_r24_variable, F_r24_variable),
  (f_term_Compare, F_term_Compare),
  (f_r24_order, F_r24_order),
  (f_r10_Count, F_r10_Count),
  (f_pattern_node, F_pattern_node),
  (f_pattern_preorder_1, F_pattern_preorder_1),
  (f_pattern_visit, F_pattern_visit),
  (f_r04_Arity, F_r04_Arity),
  (f_r07_Name, F_r07_Name),
  (f_r04_Width, F_r04_Width),
  (f_r24_widths, F_r24_widths),
  (f_bits_Cut, F_bits_Cut),
  (f_opinfo_Width, F_opinfo_Width),
  (f_pattern_widths, F_pattern_widths),
  (f_r01_Cut, F_r01_Cut),
  (f_slices_BinarySearchFunc_api_Var_api_Var_string, F_slices_BinarySearchFunc_api_Var_api_Var_string),
  (f_pattern_variables_1, F_pattern_variables_1),
  (f_strings_Compare, F_strings_Compare),
  (f_slices_Contains_api_Op_api_Op, F_slices_Contains_api_Op_api_Op),
  (f_r04_Is, F_r04_Is),
  (f_cmp_Compare_int, F_cmp_Compare_int),
  (f_cmp_Or_int, F_cmp_Or_int),
  (f_cmp_Compare_api_Op, F_cmp_Compare_api_Op),
  (f_cmp_Compare_uint64, F_cmp_Compare_uint64),
  (f_slices_CompareFunc_api_Term_api_Term_api_Term_api_Term, F_slices_CompareFunc_api_Term_api_Term_api_Term_api_Term),
  (f_opinfo_Arity, F_opinfo_Arity),
  (f_term_Name, F_term_Name),
  (f_r04_Leaf, F_r04_Leaf),
  (f_r04_width, F_r04_width),
  (f_r04_leaf, F_r04_leaf),
  (f_r04_parts, F_r04_parts),
  (f_bits_Mask, F_bits_Mask),
  (f_opinfo_known, F_opinfo_known),
  (f_opinfo_inside, F_opinfo_inside),
  (f_opinfo_leaf, F_opinfo_leaf),
  (f_opinfo_resized, F_opinfo_resized),
  (f_opinfo_agreed, F_opinfo_agreed),
  (f_r01_W, F_r01_W),
  (f_r01_Bit, F_r01_Bit),
  (f_internal_bytealg_CompareString, F_internal_bytealg_CompareString),
  (f_slices_rotateRight_api_Var, F_slices_rotateRight_api_Var),
  (f_slices_Index_api_Op_api_Op, F_slices_Index_api_Op_api_Op),
  (f_cmp_isNaN_int, F_cmp_isNaN_int),
  (f_cmp_isNaN_api_Op, F_cmp_isNaN_api_Op),
  (f_cmp_isNaN_uint64, F_cmp_isNaN_uint64),
  (f_bits_clamp, F_bits_clamp),
  (f_slices_rotateLeft_api_Var, F_slices_rotateLeft_api_Var),
  (f_slices_Reverse_api_Var_api_Var, F_slices_Reverse_api_Var_api_Var)]
def P : Prog := { fn := fun f => tbl.lookup f, prim := fun f => if f = f_slices_Insert_api_Var_api_Var then some (primIns 2 24) else if f = f_internal_bytealg_abigen_runtime_cmpstring then some (purePrim primCompare) else none }
theorem p_law24_PatternChecks : P.fn f_law24_PatternChecks = some F_law24_PatternChecks := rfl
theorem p_law24_PatternWidths : P.fn f_law24_PatternWidths = some F_law24_PatternWidths := rfl
theorem p_law24_PatternStays : P.fn f_law24_PatternStays = some F_law24_PatternStays := rfl
theorem p_law24_PatternNames : P.fn f_law24_PatternNames = some F_law24_PatternNames := rfl
theorem p_law24_PatternVariables : P.fn f_law24_PatternVariables = some F_law24_PatternVariables := rfl
theorem p_law24_PatternGround : P.fn f_law24_PatternGround = some F_law24_PatternGround := rfl
theorem p_r10_Small : P.fn f_r10_Small = some F_r10_Small := rfl
theorem p_law24_lives : P.fn f_law24_lives = some F_law24_lives := rfl
theorem p_pattern_Check : P.fn f_pattern_Check = some F_pattern_Check := rfl
theorem p_r24_Check : P.fn f_r24_Check = some F_r24_Check := rfl
theorem p_pattern_At : P.fn f_pattern_At = some F_pattern_At := rfl
theorem p_r24_At : P.fn f_r24_At = some F_r24_At := rfl
theorem p_r10_Same : P.fn f_r10_Same = some F_r10_Same := rfl
theorem p_pattern_Generic : P.fn f_pattern_Generic = some F_pattern_Generic := rfl
theorem p_r24_SameVars : P.fn f_r24_SameVars = some F_r24_SameVars := rfl
theorem p_pattern_Holes : P.fn f_pattern_Holes = some F_pattern_Holes := rfl
theorem p_r24_Vars : P.fn f_r24_Vars = some F_r24_Vars := rfl
theorem p_pattern_Nums : P.fn f_pattern_Nums = some F_pattern_Nums := rfl
theorem p_r24_Generic : P.fn f_r24_Generic = some F_r24_Generic := rfl
theorem p_pattern_Ground : P.fn f_pattern_Ground = some F_pattern_Ground := rfl
theorem p_r24_Ground : P.fn f_r24_Ground = some F_r24_Ground := rfl
theorem p_pattern_Variables : P.fn f_pattern_Variables = some F_pattern_Variables := rfl
theorem p_r24_Variables : P.fn f_r24_Variables = some F_r24_Variables := rfl
theorem p_pattern_Least : P.fn f_pattern_Least = some F_pattern_Least := rfl
theorem p_r24_Compare : P.fn f_r24_Compare = some F_r24_Compare := rfl
theorem p_r10_left : P.fn f_r10_left = some F_r10_left := rfl
theorem p_law24_hole : P.fn f_law24_hole = some F_law24_hole := rfl
theorem p_term_Size : P.fn f_term_Size = some F_term_Size := rfl
theorem p_term_Depth : P.fn f_term_Depth = some F_term_Depth := rfl
theorem p_pattern_nodes : P.fn f_pattern_nodes = some F_pattern_nodes := rfl
theorem p_pattern_preorder : P.fn f_pattern_preorder = some F_pattern_preorder := rfl
theorem p_pattern_variable : P.fn f_pattern_variable = some F_pattern_variable := rfl
theorem p_r07_Deep : P.fn f_r07_Deep = some F_r07_Deep := rfl
theorem p_r24_Postorder : P.fn f_r24_Postorder = some F_r24_Postorder := rfl
theorem p_r24_node : P.fn f_r24_node = some F_r24_node := rfl
theorem p_r24_names : P.fn f_r24_names = some F_r24_names := rfl
theorem p_pattern_at : P.fn f_pattern_at = some F_pattern_at := rfl
theorem p_r24_at : P.fn f_r24_at = some F_r24_at := rfl
theorem p_pattern_variables : P.fn f_pattern_variables = some F_pattern_variables := rfl
theorem p_r24_Preorder : P.fn f_r24_Preorder = some F_r24_Preorder := rfl
theorem p_r24_insert : P.fn f_r24_insert = some F_r24_insert := rfl
theorem p_pattern_has : P.fn f_pattern_has = some F_pattern_has := rfl
theorem p_r04_Pattern : P.fn f_r04_Pattern = some F_r04_Pattern := rfl
theorem p_r24_variable : P.fn f_r24_variable = some F_r24_variable := rfl
theorem p_term_Compare : P.fn f_term_Compare = some F_term_Compare := rfl
theorem p_r24_order : P.fn f_r24_order = some F_r24_order := rfl
theorem p_r10_Count : P.fn f_r10_Count = some F_r10_Count := rfl
theorem p_pattern_node : P.fn f_pattern_node = some F_pattern_node := rfl
theorem p_pattern_preorder_1 : P.fn f_pattern_preorder_1 = some F_pattern_preorder_1 := rfl
theorem p_pattern_visit : P.fn f_pattern_visit = some F_pattern_visit := rfl
theorem p_r04_Arity : P.fn f_r04_Arity = some F_r04_Arity := rfl
theorem p_r07_Name : P.fn f_r07_Name = some F_r07_Name := rfl
theorem p_r04_Width : P.fn f_r04_Width = some F_r04_Width := rfl
theorem p_r24_widths : P.fn f_r24_widths = some F_r24_widths := rfl
theorem p_bits_Cut : P.fn f_bits_Cut = some F_bits_Cut := rfl
theorem p_opinfo_Width : P.fn f_opinfo_Width = some F_opinfo_Width := rfl
theorem p_pattern_widths : P.fn f_pattern_widths = some F_pattern_widths := rfl
theorem p_r01_Cut : P.fn f_r01_Cut = some F_r01_Cut := rfl
theorem p_slices_BinarySearchFunc_api_Var_api_Var_string : P.fn f_slices_BinarySearchFunc_api_Var_api_Var_string = some F_slices_BinarySearchFunc_api_Var_api_Var_string := rfl
theorem p_pattern_variables_1 : P.fn f_pattern_variables_1 = some F_pattern_variables_1 := rfl
theorem p_strings_Compare : P.fn f_strings_Compare = some F_strings_Compare := rfl
theorem p_slices_Contains_api_Op_api_Op : P.fn f_slices_Contains_api_Op_api_Op = some F_slices_Contains_api_Op_api_Op := rfl
theorem p_r04_Is : P.fn f_r04_Is = some F_r04_Is := rfl
theorem p_cmp_Compare_int : P.fn f_cmp_Compare_int = some F_cmp_Compare_int := rfl
theorem p_cmp_Or_int : P.fn f_cmp_Or_int = some F_cmp_Or_int := rfl
theorem p_cmp_Compare_api_Op : P.fn f_cmp_Compare_api_Op = some F_cmp_Compare_api_Op := rfl
theorem p_cmp_Compare_uint64 : P.fn f_cmp_Compare_uint64 = some F_cmp_Compare_uint64 := rfl
theorem p_slices_CompareFunc_api_Term_api_Term_api_Term_api_Term : P.fn f_slices_CompareFunc_api_Term_api_Term_api_Term_api_Term = some F_slices_CompareFunc_api_Term_api_Term_api_Term_api_Term := rfl
theorem p_opinfo_Arity : P.fn f_opinfo_Arity = some F_opinfo_Arity := rfl
theorem p_term_Name : P.fn f_term_Name = some F_term_Name := rfl
theorem p_r04_Leaf : P.fn f_r04_Leaf = some F_r04_Leaf := rfl
theorem p_r04_width : P.fn f_r04_width = some F_r04_width := rfl
theorem p_r04_leaf : P.fn f_r04_leaf = some F_r04_leaf := rfl
theorem p_r04_parts : P.fn f_r04_parts = some F_r04_parts := rfl
theorem p_bits_Mask : P.fn f_bits_Mask = some F_bits_Mask := rfl
theorem p_opinfo_known : P.fn f_opinfo_known = some F_opinfo_known := rfl
theorem p_opinfo_inside : P.fn f_opinfo_inside = some F_opinfo_inside := rfl
theorem p_opinfo_leaf : P.fn f_opinfo_leaf = some F_opinfo_leaf := rfl
theorem p_opinfo_resized : P.fn f_opinfo_resized = some F_opinfo_resized := rfl
theorem p_opinfo_agreed : P.fn f_opinfo_agreed = some F_opinfo_agreed := rfl
theorem p_r01_W : P.fn f_r01_W = some F_r01_W := rfl
theorem p_r01_Bit : P.fn f_r01_Bit = some F_r01_Bit := rfl
theorem p_internal_bytealg_CompareString : P.fn f_internal_bytealg_CompareString = some F_internal_bytealg_CompareString := rfl
theorem p_slices_rotateRight_api_Var : P.fn f_slices_rotateRight_api_Var = some F_slices_rotateRight_api_Var := rfl
theorem p_slices_Index_api_Op_api_Op : P.fn f_slices_Index_api_Op_api_Op = some F_slices_Index_api_Op_api_Op := rfl
theorem p_cmp_isNaN_int : P.fn f_cmp_isNaN_int = some F_cmp_isNaN_int := rfl
theorem p_cmp_isNaN_api_Op : P.fn f_cmp_isNaN_api_Op = some F_cmp_isNaN_api_Op := rfl
theorem p_cmp_isNaN_uint64 : P.fn f_cmp_isNaN_uint64 = some F_cmp_isNaN_uint64 := rfl
theorem p_bits_clamp : P.fn f_bits_clamp = some F_bits_clamp := rfl
theorem p_slices_rotateLeft_api_Var : P.fn f_slices_rotateLeft_api_Var = some F_slices_rotateLeft_api_Var := rfl
theorem p_slices_Reverse_api_Var_api_Var : P.fn f_slices_Reverse_api_Var_api_Var = some F_slices_Reverse_api_Var_api_Var := rfl
theorem k0_r24_Check {τ : Tm} {σ : Store} {nt : Nat} {rd : Option Nat} : exec P L0_r24_Check ⟨τ, σ, nt, rd⟩ = loopAt P L0_r24_Check (τ.kept [1, 2, 5, 6]) σ nt rd := loop_kept
theorem k0_r10_Same {τ : Tm} {σ : Store} {nt : Nat} {rd : Option Nat} : exec P L0_r10_Same ⟨τ, σ, nt, rd⟩ = loopAt P L0_r10_Same (τ.kept [2, 3, 43, 44]) σ nt rd := loop_kept
theorem k0_r24_SameVars {τ : Tm} {σ : Store} {nt : Nat} {rd : Option Nat} : exec P L0_r24_SameVars ⟨τ, σ, nt, rd⟩ = loopAt P L0_r24_SameVars (τ.kept [0, 1, 5]) σ nt rd := loop_kept
theorem k1_r24_Vars {τ : Tm} {σ : Store} {nt : Nat} {rd : Option Nat} : exec P L1_r24_Vars ⟨τ, σ, nt, rd⟩ = loopAt P L1_r24_Vars (τ.kept [0, 1, 5, 6, 7, 8]) σ nt rd := loop_kept
theorem k0_r24_Vars {τ : Tm} {σ : Store} {nt : Nat} {rd : Option Nat} : exec P L0_r24_Vars ⟨τ, σ, nt, rd⟩ = loopAt P L0_r24_Vars (τ.kept [0, 1, 5, 6]) σ nt rd := loop_kept
theorem k0_r24_Generic {τ : Tm} {σ : Store} {nt : Nat} {rd : Option Nat} : exec P L0_r24_Generic ⟨τ, σ, nt, rd⟩ = loopAt P L0_r24_Generic (τ.kept [3, 4]) σ nt rd := loop_kept
theorem k0_r24_Ground {τ : Tm} {σ : Store} {nt : Nat} {rd : Option Nat} : exec P L0_r24_Ground ⟨τ, σ, nt, rd⟩ = loopAt P L0_r24_Ground (τ.kept [3, 4]) σ nt rd := loop_kept
theorem k0_pattern_Variables {τ : Tm} {σ : Store} {nt : Nat} {rd : Option Nat} : exec P L0_pattern_Variables ⟨τ, σ, nt, rd⟩ = loopAt P L0_pattern_Variables (τ.kept [2, 3, 34, 35, 36]) σ nt rd := loop_kept
theorem k0_r24_Variables {τ : Tm} {σ : Store} {nt : Nat} {rd : Option Nat} : exec P L0_r24_Variables ⟨τ, σ, nt, rd⟩ = loopAt P L0_r24_Variables (τ.kept [1, 2, 3, 4]) σ nt rd := loop_kept
theorem k0_r24_Compare {τ : Tm} {σ : Store} {nt : Nat} {rd : Option Nat} : exec P L0_r24_Compare ⟨τ, σ, nt, rd⟩ = loopAt P L0_r24_Compare (τ.kept [2, 3, 6]) σ nt rd := loop_kept
theorem k0_r10_left {τ : Tm} {σ : Store} {nt : Nat} {rd : Option Nat} : exec P L0_r10_left ⟨τ, σ, nt, rd⟩ = loopAt P L0_r10_left (τ.kept [1, 2, 10, 11]) σ nt rd := loop_kept
theorem k0_term_Size {τ : Tm} {σ : Store} {nt : Nat} {rd : Option Nat} : exec P L0_term_Size ⟨τ, σ, nt, rd⟩ = loopAt P L0_term_Size (τ.kept [3, 7, 8, 9]) σ nt rd := loop_kept
theorem k0_term_Depth {τ : Tm} {σ : Store} {nt : Nat} {rd : Option Nat} : exec P L0_term_Depth ⟨τ, σ, nt, rd⟩ = loopAt P L0_term_Depth (τ.kept [3, 7, 8, 9]) σ nt rd := loop_kept
theorem k0_pattern_nodes {τ : Tm} {σ : Store} {nt : Nat} {rd : Option Nat} : exec P L0_pattern_nodes ⟨τ, σ, nt, rd⟩ = loopAt P L0_pattern_nodes (τ.kept [1, 2, 9, 10, 11]) σ nt rd := loop_kept
theorem k0_r07_Deep {τ : Tm} {σ : Store} {nt : Nat} {rd : Option Nat} : exec P L0_r07_Deep ⟨τ, σ, nt, rd⟩ = loopAt P L0_r07_Deep (τ.kept [1, 2, 5]) σ nt rd := loop_kept
theorem k0_r24_Postorder {τ : Tm} {σ : Store} {nt : Nat} {rd : Option Nat} : exec P L0_r24_Postorder ⟨τ, σ, nt, rd⟩ = loopAt P L0_r24_Postorder (τ.kept [1, 3, 4]) σ nt rd := loop_kept
theorem k0_r24_node {τ : Tm} {σ : Store} {nt : Nat} {rd : Option Nat} : exec P L0_r24_node ⟨τ, σ, nt, rd⟩ = loopAt P L0_r24_node (τ.kept [7, 8]) σ nt rd := loop_kept
theorem k1_r24_names {τ : Tm} {σ : Store} {nt : Nat} {rd : Option Nat} : exec P L1_r24_names ⟨τ, σ, nt, rd⟩ = loopAt P L1_r24_names (τ.kept [4, 5, 6, 7, 8]) σ nt rd := loop_kept
theorem k0_r24_names {τ : Tm} {σ : Store} {nt : Nat} {rd : Option Nat} : exec P L0_r24_names ⟨τ, σ, nt, rd⟩ = loopAt P L0_r24_names (τ.kept [4, 5, 6]) σ nt rd := loop_kept
theorem k0_pattern_at {τ : Tm} {σ : Store} {nt : Nat} {rd : Option Nat} : exec P L0_pattern_at ⟨τ, σ, nt, rd⟩ = loopAt P L0_pattern_at (τ.kept [1, 2, 4, 6, 41, 42, 43]) σ nt rd := loop_kept
theorem k0_r24_at {τ : Tm} {σ : Store} {nt : Nat} {rd : Option Nat} : exec P L0_r24_at ⟨τ, σ, nt, rd⟩ = loopAt P L0_r24_at (τ.kept [1, 2, 4, 6, 7]) σ nt rd := loop_kept
theorem k0_pattern_variables {τ : Tm} {σ : Store} {nt : Nat} {rd : Option Nat} : exec P L0_pattern_variables ⟨τ, σ, nt, rd⟩ = loopAt P L0_pattern_variables (τ.kept [2, 5, 11, 12, 13]) σ nt rd := loop_kept
theorem k0_r24_Preorder {τ : Tm} {σ : Store} {nt : Nat} {rd : Option Nat} : exec P L0_r24_Preorder ⟨τ, σ, nt, rd⟩ = loopAt P L0_r24_Preorder (τ.kept [1, 3, 4]) σ nt rd := loop_kept
theorem k0_r24_insert {τ : Tm} {σ : Store} {nt : Nat} {rd : Option Nat} : exec P L0_r24_insert ⟨τ, σ, nt, rd⟩ = loopAt P L0_r24_insert (τ.kept [0, 3, 5, 6, 7]) σ nt rd := loop_kept
theorem k0_r10_Count {τ : Tm} {σ : Store} {nt : Nat} {rd : Option Nat} : exec P L0_r10_Count ⟨τ, σ, nt, rd⟩ = loopAt P L0_r10_Count (τ.kept [1, 3, 7, 8]) σ nt rd := loop_kept
theorem k0_pattern_visit {τ : Tm} {σ : Store} {nt : Nat} {rd : Option Nat} : exec P L0_pattern_visit ⟨τ, σ, nt, rd⟩ = loopAt P L0_pattern_visit (τ.kept [1, 12, 13, 14]) σ nt rd := loop_kept
theorem k0_r07_Name {τ : Tm} {σ : Store} {nt : Nat} {rd : Option Nat} : exec P L0_r07_Name ⟨τ, σ, nt, rd⟩ = loopAt P L0_r07_Name (τ.kept [0, 3]) σ nt rd := loop_kept
theorem k0_r04_Width {τ : Tm} {σ : Store} {nt : Nat} {rd : Option Nat} : exec P L0_r04_Width ⟨τ, σ, nt, rd⟩ = loopAt P L0_r04_Width (τ.kept [0, 1, 2, 3, 22, 23]) σ nt rd := loop_kept
theorem k0_r24_widths {τ : Tm} {σ : Store} {nt : Nat} {rd : Option Nat} : exec P L0_r24_widths ⟨τ, σ, nt, rd⟩ = loopAt P L0_r24_widths (τ.kept [1, 3, 4]) σ nt rd := loop_kept
theorem k0_opinfo_Width {τ : Tm} {σ : Store} {nt : Nat} {rd : Option Nat} : exec P L0_opinfo_Width ⟨τ, σ, nt, rd⟩ = loopAt P L0_opinfo_Width (τ.kept [0, 1, 2, 3, 22, 23, 24]) σ nt rd := loop_kept
theorem k0_pattern_widths {τ : Tm} {σ : Store} {nt : Nat} {rd : Option Nat} : exec P L0_pattern_widths ⟨τ, σ, nt, rd⟩ = loopAt P L0_pattern_widths (τ.kept [3, 6, 7, 8]) σ nt rd := loop_kept
theorem k0_r01_Cut {τ : Tm} {σ : Store} {nt : Nat} {rd : Option Nat} : exec P L0_r01_Cut ⟨τ, σ, nt, rd⟩ = loopAt P L0_r01_Cut (τ.kept [1, 5, 8, 9]) σ nt rd := loop_kept
theorem k0_slices_BinarySearchFunc_api_Var_api_Var_string {τ : Tm} {σ : Store} {nt : Nat} {rd : Option Nat} : exec P L0_slices_BinarySearchFunc_api_Var_api_Var_string ⟨τ, σ, nt, rd⟩ = loopAt P L0_slices_BinarySearchFunc_api_Var_api_Var_string (τ.kept [0, 1, 2, 8, 9, 10]) σ nt rd := loop_kept
theorem k0_r04_Is {τ : Tm} {σ : Store} {nt : Nat} {rd : Option Nat} : exec P L0_r04_Is ⟨τ, σ, nt, rd⟩ = loopAt P L0_r04_Is (τ.kept [0, 1, 7, 8]) σ nt rd := loop_kept
theorem k0_cmp_Or_int {τ : Tm} {σ : Store} {nt : Nat} {rd : Option Nat} : exec P L0_cmp_Or_int ⟨τ, σ, nt, rd⟩ = loopAt P L0_cmp_Or_int (τ.kept [3, 6, 7, 8]) σ nt rd := loop_kept
theorem k0_slices_CompareFunc_api_Term_api_Term_api_Term_api_Term {τ : Tm} {σ : Store} {nt : Nat} {rd : Option Nat} : exec P L0_slices_CompareFunc_api_Term_api_Term_api_Term_api_Term ⟨τ, σ, nt, rd⟩ = loopAt P L0_slices_CompareFunc_api_Term_api_Term_api_Term_api_Term (τ.kept [0, 1, 2, 11, 12, 13]) σ nt rd := loop_kept
theorem k0_term_Name {τ : Tm} {σ : Store} {nt : Nat} {rd : Option Nat} : exec P L0_term_Name ⟨τ, σ, nt, rd⟩ = loopAt P L0_term_Name (τ.kept [0, 24, 25]) σ nt rd := loop_kept
theorem k0_slices_Index_api_Op_api_Op {τ : Tm} {σ : Store} {nt : Nat} {rd : Option Nat} : exec P L0_slices_Index_api_Op_api_Op ⟨τ, σ, nt, rd⟩ = loopAt P L0_slices_Index_api_Op_api_Op (τ.kept [0, 1, 7, 8]) σ nt rd := loop_kept
theorem k0_slices_Reverse_api_Var_api_Var {τ : Tm} {σ : Store} {nt : Nat} {rd : Option Nat} : exec P L0_slices_Reverse_api_Var_api_Var ⟨τ, σ, nt, rd⟩ = loopAt P L0_slices_Reverse_api_Var_api_Var (τ.kept [0, 2, 3]) σ nt rd := loop_kept
theorem kR0_pattern_Check {τ : Tm} {σ : Store} {nt : Nat} {rd : Option Nat} : exec P R0_pattern_Check ⟨τ, σ, nt, rd⟩ = rangeK τ nt rd (rangeR P [27] A0_pattern_Check B0_pattern_Check ((O.t 26).val τ) (τ.kept [4, 6]) σ nt rd) := range_go
theorem kR0_pattern_Generic {τ : Tm} {σ : Store} {nt : Nat} {rd : Option Nat} : exec P R0_pattern_Generic ⟨τ, σ, nt, rd⟩ = rangeK τ nt rd (rangeR P [6] A0_pattern_Generic B0_pattern_Generic ((O.t 5).val τ) (τ.kept [2]) σ nt rd) := range_go
theorem kR1_pattern_variables {τ : Tm} {σ : Store} {nt : Nat} {rd : Option Nat} : exec P R1_pattern_variables ⟨τ, σ, nt, rd⟩ = rangeK τ nt rd (rangeR P [19] A1_pattern_variables B1_pattern_variables ((O.t 18).val τ) (τ.kept [2, 5]) σ nt rd) := range_go
theorem kR0_pattern_has {τ : Tm} {σ : Store} {nt : Nat} {rd : Option Nat} : exec P R0_pattern_has ⟨τ, σ, nt, rd⟩ = rangeK τ nt rd (rangeR P [8] A0_pattern_has B0_pattern_has ((O.t 7).val τ) (τ.kept [3, 4]) σ nt rd) := range_go
theorem q_law24_PatternChecks {args : List AV} {σ : Store} : callF P f_law24_PatternChecks args σ = pcall P f_law24_PatternChecks args σ (omap (purify σ depth) args) := callF_pure p_law24_PatternChecks rfl rfl
theorem r_law24_PatternChecks {ps : List PV} (h : ps.length ≤ 19) : R P f_law24_PatternChecks ps = retR [.tmp 4] (exec P F_law24_PatternChecks.body ⟨enterTm (ps.map .p), [], 19, none⟩) := R_go p_law24_PatternChecks h
theorem q_law24_PatternWidths {args : List AV} {σ : Store} : callF P f_law24_PatternWidths args σ = pcall P f_law24_PatternWidths args σ (omap (purify σ depth) args) := callF_pure p_law24_PatternWidths rfl rfl
theorem r_law24_PatternWidths {ps : List PV} (h : ps.length ≤ 36) : R P f_law24_PatternWidths ps = retR [.tmp 4] (exec P F_law24_PatternWidths.body ⟨enterTm (ps.map .p), [], 36, none⟩) := R_go p_law24_PatternWidths h
theorem q_law24_PatternStays {args : List AV} {σ : Store} : callF P f_law24_PatternStays args σ = pcall P f_law24_PatternStays args σ (omap (purify σ depth) args) := callF_pure p_law24_PatternStays rfl rfl
theorem r_law24_PatternStays {ps : List PV} (h : ps.length ≤ 68) : R P f_law24_PatternStays ps = retR [.tmp 6] (exec P F_law24_PatternStays.body ⟨enterTm (ps.map .p), [], 68, none⟩) := R_go p_law24_PatternStays h
theorem q_law24_PatternNames {args : List AV} {σ : Store} : callF P f_law24_PatternNames args σ = pcall P f_law24_PatternNames args σ (omap (purify σ depth) args) := callF_pure p_law24_PatternNames rfl rfl
theorem r_law24_PatternNames {ps : List PV} (h : ps.length ≤ 56) : R P f_law24_PatternNames ps = retR [.tmp 4] (exec P F_law24_PatternNames.body ⟨enterTm (ps.map .p), [], 56, none⟩) := R_go p_law24_PatternNames h
theorem q_law24_PatternVariables {args : List AV} {σ : Store} : callF P f_law24_PatternVariables args σ = pcall P f_law24_PatternVariables args σ (omap (purify σ depth) args) := callF_pure p_law24_PatternVariables rfl rfl
theorem r_law24_PatternVariables {ps : List PV} (h : ps.length ≤ 32) : R P f_law24_PatternVariables ps = retR [.tmp 4] (exec P F_law24_PatternVariables.body ⟨enterTm (ps.map .p), [], 32, none⟩) := R_go p_law24_PatternVariables h
theorem q_law24_PatternGround {args : List AV} {σ : Store} : callF P f_law24_PatternGround args σ = pcall P f_law24_PatternGround args σ (omap (purify σ depth) args) := callF_pure p_law24_PatternGround rfl rfl
theorem r_law24_PatternGround {ps : List PV} (h : ps.length ≤ 49) : R P f_law24_PatternGround ps = retR [.tmp 2] (exec P F_law24_PatternGround.body ⟨enterTm (ps.map .p), [], 49, none⟩) := R_go p_law24_PatternGround h
theorem q_r10_Small {args : List AV} {σ : Store} : callF P f_r10_Small args σ = pcall P f_r10_Small args σ (omap (purify σ depth) args) := callF_pure p_r10_Small rfl rfl
theorem r_r10_Small {ps : List PV} (h : ps.length ≤ 9) : R P f_r10_Small ps = retR [.tmp 4] (exec P F_r10_Small.body ⟨enterTm (ps.map .p), [], 9, none⟩) := R_go p_r10_Small h
theorem q_law24_lives {args : List AV} {σ : Store} : callF P f_law24_lives args σ = pcall P f_law24_lives args σ (omap (purify σ depth) args) := callF_pure p_law24_lives rfl rfl
theorem r_law24_lives {ps : List PV} (h : ps.length ≤ 67) : R P f_law24_lives ps = retR [.tmp 0] (exec P F_law24_lives.body ⟨enterTm (ps.map .p), [], 67, none⟩) := R_go p_law24_lives h
theorem q_pattern_Check {args : List AV} {σ : Store} : callF P f_pattern_Check args σ = pcall P f_pattern_Check args σ (omap (purify σ depth) args) := callF_pure p_pattern_Check rfl rfl
theorem r_pattern_Check {ps : List PV} (h : ps.length ≤ 61) : R P f_pattern_Check ps = retR [.cell 4 1 false] (exec P F_pattern_Check.body ⟨enterTm (ps.map .p), [], 61, none⟩) := R_go p_pattern_Check h
theorem q_r24_Check {args : List AV} {σ : Store} : callF P f_r24_Check args σ = pcall P f_r24_Check args σ (omap (purify σ depth) args) := callF_pure p_r24_Check rfl rfl
theorem r_r24_Check {ps : List PV} (h : ps.length ≤ 44) : R P f_r24_Check ps = retR [.tmp 4] (exec P F_r24_Check.body ⟨enterTm (ps.map .p), [], 44, none⟩) := R_go p_r24_Check h
theorem q_pattern_At {args : List AV} {σ : Store} : callF P f_pattern_At args σ = pcall P f_pattern_At args σ (omap (purify σ depth) args) := callF_pure p_pattern_At rfl rfl
theorem r_pattern_At {ps : List PV} (h : ps.length ≤ 25) : R P f_pattern_At ps = retR [.cell 4 5 true, .tmp 5] (exec P F_pattern_At.body ⟨enterTm (ps.map .p), [], 25, none⟩) := R_go p_pattern_At h
theorem q_r24_At {args : List AV} {σ : Store} : callF P f_r24_At args σ = pcall P f_r24_At args σ (omap (purify σ depth) args) := callF_pure p_r24_At rfl rfl
theorem r_r24_At {ps : List PV} (h : ps.length ≤ 18) : R P f_r24_At ps = retR [.cell 4 5 true, .tmp 5] (exec P F_r24_At.body ⟨enterTm (ps.map .p), [], 18, none⟩) := R_go p_r24_At h
theorem q_r10_Same {args : List AV} {σ : Store} : callF P f_r10_Same args σ = pcall P f_r10_Same args σ (omap (purify σ depth) args) := callF_pure p_r10_Same rfl rfl
theorem r_r10_Same {ps : List PV} (h : ps.length ≤ 60) : R P f_r10_Same ps = retR [.tmp 4] (exec P F_r10_Same.body ⟨enterTm (ps.map .p), [], 60, none⟩) := R_go p_r10_Same h
theorem q_pattern_Generic {args : List AV} {σ : Store} : callF P f_pattern_Generic args σ = pcall P f_pattern_Generic args σ (omap (purify σ depth) args) := callF_pure p_pattern_Generic rfl rfl
theorem r_pattern_Generic {ps : List PV} (h : ps.length ≤ 10) : R P f_pattern_Generic ps = retR [.cell 2 1 false] (exec P F_pattern_Generic.body ⟨enterTm (ps.map .p), [], 10, none⟩) := R_go p_pattern_Generic h
theorem q_r24_SameVars {args : List AV} {σ : Store} : callF P f_r24_SameVars args σ = pcall P f_r24_SameVars args σ (omap (purify σ depth) args) := callF_pure p_r24_SameVars rfl rfl
theorem r_r24_SameVars {ps : List PV} (h : ps.length ≤ 26) : R P f_r24_SameVars ps = retR [.tmp 4] (exec P F_r24_SameVars.body ⟨enterTm (ps.map .p), [], 26, none⟩) := R_go p_r24_SameVars h
theorem q_pattern_Holes {args : List AV} {σ : Store} : callF P f_pattern_Holes args σ = pcall P f_pattern_Holes args σ (omap (purify σ depth) args) := callF_pure p_pattern_Holes rfl rfl
theorem r_pattern_Holes {ps : List PV} (h : ps.length ≤ 5) : R P f_pattern_Holes ps = retR [.tmp 2] (exec P F_pattern_Holes.body ⟨enterTm (ps.map .p), [], 5, none⟩) := R_go p_pattern_Holes h
theorem q_r24_Vars {args : List AV} {σ : Store} : callF P f_r24_Vars args σ = pcall P f_r24_Vars args σ (omap (purify σ depth) args) := callF_pure p_r24_Vars rfl rfl
theorem r_r24_Vars {ps : List PV} (h : ps.length ≤ 48) : R P f_r24_Vars ps = retR [.tmp 4] (exec P F_r24_Vars.body ⟨enterTm (ps.map .p), [], 48, none⟩) := R_go p_r24_Vars h
theorem q_pattern_Nums {args : List AV} {σ : Store} : callF P f_pattern_Nums args σ = pcall P f_pattern_Nums args σ (omap (purify σ depth) args) := callF_pure p_pattern_Nums rfl rfl
theorem r_pattern_Nums {ps : List PV} (h : ps.length ≤ 5) : R P f_pattern_Nums ps = retR [.tmp 2] (exec P F_pattern_Nums.body ⟨enterTm (ps.map .p), [], 5, none⟩) := R_go p_pattern_Nums h
theorem q_r24_Generic {args : List AV} {σ : Store} : callF P f_r24_Generic args σ = pcall P f_r24_Generic args σ (omap (purify σ depth) args) := callF_pure p_r24_Generic rfl rfl
theorem r_r24_Generic {ps : List PV} (h : ps.length ≤ 19) : R P f_r24_Generic ps = retR [.tmp 2] (exec P F_r24_Generic.body ⟨enterTm (ps.map .p), [], 19, none⟩) := R_go p_r24_Generic h
theorem q_pattern_Ground {args : List AV} {σ : Store} : callF P f_pattern_Ground args σ = pcall P f_pattern_Ground args σ (omap (purify σ depth) args) := callF_pure p_pattern_Ground rfl rfl
theorem r_pattern_Ground {ps : List PV} (h : ps.length ≤ 7) : R P f_pattern_Ground ps = retR [.tmp 2] (exec P F_pattern_Ground.body ⟨enterTm (ps.map .p), [], 7, none⟩) := R_go p_pattern_Ground h
theorem q_r24_Ground {args : List AV} {σ : Store} : callF P f_r24_Ground args σ = pcall P f_r24_Ground args σ (omap (purify σ depth) args) := callF_pure p_r24_Ground rfl rfl
theorem r_r24_Ground {ps : List PV} (h : ps.length ≤ 19) : R P f_r24_Ground ps = retR [.tmp 2] (exec P F_r24_Ground.body ⟨enterTm (ps.map .p), [], 19, none⟩) := R_go p_r24_Ground h
theorem q_pattern_Variables {args : List AV} {σ : Store} : callF P f_pattern_Variables args σ = pcall P f_pattern_Variables args σ (omap (purify σ depth) args) := callF_pure p_pattern_Variables rfl rfl
theorem r_pattern_Variables {ps : List PV} (h : ps.length ≤ 49) : R P f_pattern_Variables ps = retR [.cell 2 5 true] (exec P F_pattern_Variables.body ⟨enterTm (ps.map .p), [], 49, none⟩) := R_go p_pattern_Variables h
theorem q_r24_Variables {args : List AV} {σ : Store} : callF P f_r24_Variables args σ = pcall P f_r24_Variables args σ (omap (purify σ depth) args) := callF_pure p_r24_Variables rfl rfl
theorem r_r24_Variables {ps : List PV} (h : ps.length ≤ 43) : R P f_r24_Variables ps = retR [.cell 2 5 true] (exec P F_r24_Variables.body ⟨enterTm (ps.map .p), [], 43, none⟩) := R_go p_r24_Variables h
theorem q_pattern_Least {args : List AV} {σ : Store} : callF P f_pattern_Least args σ = pcall P f_pattern_Least args σ (omap (purify σ depth) args) := callF_pure p_pattern_Least rfl rfl
theorem r_pattern_Least {ps : List PV} (h : ps.length ≤ 9) : R P f_pattern_Least ps = retR [.tmp 4] (exec P F_pattern_Least.body ⟨enterTm (ps.map .p), [], 9, none⟩) := R_go p_pattern_Least h
theorem q_r24_Compare {args : List AV} {σ : Store} : callF P f_r24_Compare args σ = pcall P f_r24_Compare args σ (omap (purify σ depth) args) := callF_pure p_r24_Compare rfl rfl
theorem r_r24_Compare {ps : List PV} (h : ps.length ≤ 84) : R P f_r24_Compare ps = retR [.tmp 4] (exec P F_r24_Compare.body ⟨enterTm (ps.map .p), [], 84, none⟩) := R_go p_r24_Compare h
theorem q_r10_left {args : List AV} {σ : Store} : callF P f_r10_left args σ = pcall P f_r10_left args σ (omap (purify σ depth) args) := callF_pure p_r10_left rfl rfl
theorem r_r10_left {ps : List PV} (h : ps.length ≤ 25) : R P f_r10_left ps = retR [.tmp 4] (exec P F_r10_left.body ⟨enterTm (ps.map .p), [], 25, none⟩) := R_go p_r10_left h
theorem q_law24_hole {args : List AV} {σ : Store} : callF P f_law24_hole args σ = pcall P f_law24_hole args σ (omap (purify σ depth) args) := callF_pure p_law24_hole rfl rfl
theorem r_law24_hole {ps : List PV} (h : ps.length ≤ 8) : R P f_law24_hole ps = retR [.cell 4 5 true] (exec P F_law24_hole.body ⟨enterTm (ps.map .p), [], 8, none⟩) := R_go p_law24_hole h
theorem q_term_Size {args : List AV} {σ : Store} : callF P f_term_Size args σ = pcall P f_term_Size args σ (omap (purify σ depth) args) := callF_pure p_term_Size rfl rfl
theorem r_term_Size {ps : List PV} (h : ps.length ≤ 19) : R P f_term_Size ps = retR [.tmp 2] (exec P F_term_Size.body ⟨enterTm (ps.map .p), [], 19, none⟩) := R_go p_term_Size h
theorem q_term_Depth {args : List AV} {σ : Store} : callF P f_term_Depth args σ = pcall P f_term_Depth args σ (omap (purify σ depth) args) := callF_pure p_term_Depth rfl rfl
theorem r_term_Depth {ps : List PV} (h : ps.length ≤ 20) : R P f_term_Depth ps = retR [.tmp 2] (exec P F_term_Depth.body ⟨enterTm (ps.map .p), [], 20, none⟩) := R_go p_term_Depth h
theorem q_pattern_nodes {args : List AV} {σ : Store} : callF P f_pattern_nodes args σ = pcall P f_pattern_nodes args σ (omap (purify σ depth) args) := callF_pure p_pattern_nodes rfl rfl
theorem r_pattern_nodes {ps : List PV} (h : ps.length ≤ 25) : R P f_pattern_nodes ps = retR [.tmp 4] (exec P F_pattern_nodes.body ⟨enterTm (ps.map .p), [], 25, none⟩) := R_go p_pattern_nodes h
theorem q_pattern_preorder {args : List AV} {σ : Store} : callF P f_pattern_preorder args σ = pcall P f_pattern_preorder args σ (omap (purify σ depth) args) := callF_pure p_pattern_preorder rfl rfl
theorem r_pattern_preorder {ps : List PV} (h : ps.length ≤ 4) : R P f_pattern_preorder ps = retR [.tmp 2] (exec P F_pattern_preorder.body ⟨enterTm (ps.map .p), [], 4, none⟩) := R_go p_pattern_preorder h
theorem q_pattern_variable {args : List AV} {σ : Store} : callF P f_pattern_variable args σ = pcall P f_pattern_variable args σ (omap (purify σ depth) args) := callF_pure p_pattern_variable rfl rfl
theorem r_pattern_variable {ps : List PV} (h : ps.length ≤ 9) : R P f_pattern_variable ps = retR [.tmp 2] (exec P F_pattern_variable.body ⟨enterTm (ps.map .p), [], 9, none⟩) := R_go p_pattern_variable h
theorem q_r07_Deep {args : List AV} {σ : Store} : callF P f_r07_Deep args σ = pcall P f_r07_Deep args σ (omap (purify σ depth) args) := callF_pure p_r07_Deep rfl rfl
theorem r_r07_Deep {ps : List PV} (h : ps.length ≤ 23) : R P f_r07_Deep ps = retR [.tmp 4] (exec P F_r07_Deep.body ⟨enterTm (ps.map .p), [], 23, none⟩) := R_go p_r07_Deep h
theorem q_r24_Postorder {args : List AV} {σ : Store} : callF P f_r24_Postorder args σ = pcall P f_r24_Postorder args σ (omap (purify σ depth) args) := callF_pure p_r24_Postorder rfl rfl
theorem r_r24_Postorder {ps : List PV} (h : ps.length ≤ 26) : R P f_r24_Postorder ps = retR [.tmp 2] (exec P F_r24_Postorder.body ⟨enterTm (ps.map .p), [], 26, none⟩) := R_go p_r24_Postorder h
theorem q_r24_node {args : List AV} {σ : Store} : callF P f_r24_node args σ = pcall P f_r24_node args σ (omap (purify σ depth) args) := callF_pure p_r24_node rfl rfl
theorem r_r24_node {ps : List PV} (h : ps.length ≤ 115) : R P f_r24_node ps = retR [.tmp 4] (exec P F_r24_node.body ⟨enterTm (ps.map .p), [], 115, none⟩) := R_go p_r24_node h
theorem q_r24_names {args : List AV} {σ : Store} : callF P f_r24_names args σ = pcall P f_r24_names args σ (omap (purify σ depth) args) := callF_pure p_r24_names rfl rfl
theorem r_r24_names {ps : List PV} (h : ps.length ≤ 82) : R P f_r24_names ps = retR [.tmp 2, .tmp 3] (exec P F_r24_names.body ⟨enterTm (ps.map .p), [], 82, none⟩) := R_go p_r24_names h
theorem q_pattern_at {args : List AV} {σ : Store} : callF P f_pattern_at args σ = pcall P f_pattern_at args σ (omap (purify σ depth) args) := callF_pure p_pattern_at rfl rfl
theorem r_pattern_at {ps : List PV} (h : ps.length ≤ 81) : R P f_pattern_at ps = retR [.cell 4 5 true, .tmp 5] (exec P F_pattern_at.body ⟨enterTm (ps.map .p), [], 81, none⟩) := R_go p_pattern_at h
theorem q_r24_at {args : List AV} {σ : Store} : callF P f_r24_at args σ = pcall P f_r24_at args σ (omap (purify σ depth) args) := callF_pure p_r24_at rfl rfl
theorem r_r24_at {ps : List PV} (h : ps.length ≤ 77) : R P f_r24_at ps = retR [.cell 4 5 true, .tmp 5] (exec P F_r24_at.body ⟨enterTm (ps.map .p), [], 77, none⟩) := R_go p_r24_at h
theorem q_pattern_variables {args : List AV} {σ : Store} : callF P f_pattern_variables args σ = pcall P f_pattern_variables args σ (omap (purify σ depth) args) := callF_pure p_pattern_variables rfl rfl
theorem r_pattern_variables {ps : List PV} (h : ps.length ≤ 44) : R P f_pattern_variables ps = retR [.tmp 4] (exec P F_pattern_variables.body ⟨enterTm (ps.map .p), [], 44, none⟩) := R_go p_pattern_variables h
theorem q_r24_Preorder {args : List AV} {σ : Store} : callF P f_r24_Preorder args σ = pcall P f_r24_Preorder args σ (omap (purify σ depth) args) := callF_pure p_r24_Preorder rfl rfl
theorem r_r24_Preorder {ps : List PV} (h : ps.length ≤ 23) : R P f_r24_Preorder ps = retR [.tmp 2] (exec P F_r24_Preorder.body ⟨enterTm (ps.map .p), [], 23, none⟩) := R_go p_r24_Preorder h
theorem q_r24_insert {args : List AV} {σ : Store} : callF P f_r24_insert args σ = pcall P f_r24_insert args σ (omap (purify σ depth) args) := callF_pure p_r24_insert rfl rfl
theorem r_r24_insert {ps : List PV} (h : ps.length ≤ 54) : R P f_r24_insert ps = retR [.tmp 4] (exec P F_r24_insert.body ⟨enterTm (ps.map .p), [], 54, none⟩) := R_go p_r24_insert h
theorem q_pattern_has {args : List AV} {σ : Store} : callF P f_pattern_has args σ = pcall P f_pattern_has args σ (omap (purify σ depth) args) := callF_pure p_pattern_has rfl rfl
theorem r_pattern_has {ps : List PV} (h : ps.length ≤ 13) : R P f_pattern_has ps = retR [.cell 4 1 false] (exec P F_pattern_has.body ⟨enterTm (ps.map .p), [], 13, none⟩) := R_go p_pattern_has h
theorem q_r04_Pattern {args : List AV} {σ : Store} : callF P f_r04_Pattern args σ = pcall P f_r04_Pattern args σ (omap (purify σ depth) args) := callF_pure p_r04_Pattern rfl rfl
theorem r_r04_Pattern {ps : List PV} (h : ps.length ≤ 6) : R P f_r04_Pattern ps = retR [.tmp 2] (exec P F_r04_Pattern.body ⟨enterTm (ps.map .p), [], 6, none⟩) := R_go p_r04_Pattern h
theorem q_r24_variable {args : List AV} {σ : Store} : callF P f_r24_variable args σ = pcall P f_r24_variable args σ (omap (purify σ depth) args) := callF_pure p_r24_variable rfl rfl
theorem r_r24_variable {ps : List PV} (h : ps.length ≤ 11) : R P f_r24_variable ps = retR [.tmp 2] (exec P F_r24_variable.body ⟨enterTm (ps.map .p), [], 11, none⟩) := R_go p_r24_variable h
theorem q_term_Compare {args : List AV} {σ : Store} : callF P f_term_Compare args σ = pcall P f_term_Compare args σ (omap (purify σ depth) args) := callF_pure p_term_Compare rfl rfl
theorem r_term_Compare {ps : List PV} (h : ps.length ≤ 45) : R P f_term_Compare ps = retR [.tmp 4] (exec P F_term_Compare.body ⟨enterTm (ps.map .p), [], 45, none⟩) := R_go p_term_Compare h
theorem q_r24_order {args : List AV} {σ : Store} : callF P f_r24_order args σ = pcall P f_r24_order args σ (omap (purify σ depth) args) := callF_pure p_r24_order rfl rfl
theorem r_r24_order {ps : List PV} (h : ps.length ≤ 11) : R P f_r24_order ps = retR [.tmp 4] (exec P F_r24_order.body ⟨enterTm (ps.map .p), [], 11, none⟩) := R_go p_r24_order h
theorem q_r10_Count {args : List AV} {σ : Store} : callF P f_r10_Count args σ = pcall P f_r10_Count args σ (omap (purify σ depth) args) := callF_pure p_r10_Count rfl rfl
theorem r_r10_Count {ps : List PV} (h : ps.length ≤ 21) : R P f_r10_Count ps = retR [.tmp 2] (exec P F_r10_Count.body ⟨enterTm (ps.map .p), [], 21, none⟩) := R_go p_r10_Count h
theorem q_pattern_node {args : List AV} {σ : Store} : callF P f_pattern_node args σ = pcall P f_pattern_node args σ (omap (purify σ depth) args) := callF_pure p_pattern_node rfl rfl
theorem r_pattern_node {ps : List PV} (h : ps.length ≤ 102) : R P f_pattern_node ps = retR [.tmp 4] (exec P F_pattern_node.body ⟨enterTm (ps.map .p), [], 102, none⟩) := R_go p_pattern_node h
theorem q_pattern_preorder_1 {args : List AV} {σ : Store} : callF P f_pattern_preorder_1 args σ = call P F_pattern_preorder_1 args σ := callF_imp p_pattern_preorder_1 rfl rfl
theorem q_pattern_visit {args : List AV} {σ : Store} : callF P f_pattern_visit args σ = call P F_pattern_visit args σ := callF_imp p_pattern_visit rfl rfl
theorem q_r04_Arity {args : List AV} {σ : Store} : callF P f_r04_Arity args σ = pcall P f_r04_Arity args σ (omap (purify σ depth) args) := callF_pure p_r04_Arity rfl rfl
theorem r_r04_Arity {ps : List PV} (h : ps.length ≤ 16) : R P f_r04_Arity ps = retR [.tmp 2] (exec P F_r04_Arity.body ⟨enterTm (ps.map .p), [], 16, none⟩) := R_go p_r04_Arity h
theorem q_r07_Name {args : List AV} {σ : Store} : callF P f_r07_Name args σ = pcall P f_r07_Name args σ (omap (purify σ depth) args) := callF_pure p_r07_Name rfl rfl
theorem r_r07_Name {ps : List PV} (h : ps.length ≤ 52) : R P f_r07_Name ps = retR [.tmp 2] (exec P F_r07_Name.body ⟨enterTm (ps.map .p), [], 52, none⟩) := R_go p_r07_Name h
theorem q_r04_Width {args : List AV} {σ : Store} : callF P f_r04_Width args σ = pcall P f_r04_Width args σ (omap (purify σ depth) args) := callF_pure p_r04_Width rfl rfl
theorem r_r04_Width {ps : List PV} (h : ps.length ≤ 133) : R P f_r04_Width ps = retR [.tmp 8, .tmp 9] (exec P F_r04_Width.body ⟨enterTm (ps.map .p), [], 133, none⟩) := R_go p_r04_Width h
theorem q_r24_widths {args : List AV} {σ : Store} : callF P f_r24_widths args σ = pcall P f_r24_widths args σ (omap (purify σ depth) args) := callF_pure p_r24_widths rfl rfl
theorem r_r24_widths {ps : List PV} (h : ps.length ≤ 23) : R P f_r24_widths ps = retR [.tmp 2] (exec P F_r24_widths.body ⟨enterTm (ps.map .p), [], 23, none⟩) := R_go p_r24_widths h
theorem q_bits_Cut {args : List AV} {σ : Store} : callF P f_bits_Cut args σ = pcall P f_bits_Cut args σ (omap (purify σ depth) args) := callF_pure p_bits_Cut rfl rfl
theorem r_bits_Cut {ps : List PV} (h : ps.length ≤ 9) : R P f_bits_Cut ps = retR [.tmp 4] (exec P F_bits_Cut.body ⟨enterTm (ps.map .p), [], 9, none⟩) := R_go p_bits_Cut h
theorem q_opinfo_Width {args : List AV} {σ : Store} : callF P f_opinfo_Width args σ = pcall P f_opinfo_Width args σ (omap (purify σ depth) args) := callF_pure p_opinfo_Width rfl rfl
theorem r_opinfo_Width {ps : List PV} (h : ps.length ≤ 144) : R P f_opinfo_Width ps = retR [.tmp 8, .tmp 9] (exec P F_opinfo_Width.body ⟨enterTm (ps.map .p), [], 144, none⟩) := R_go p_opinfo_Width h
theorem q_pattern_widths {args : List AV} {σ : Store} : callF P f_pattern_widths args σ = pcall P f_pattern_widths args σ (omap (purify σ depth) args) := callF_pure p_pattern_widths rfl rfl
theorem r_pattern_widths {ps : List PV} (h : ps.length ≤ 19) : R P f_pattern_widths ps = retR [.tmp 2] (exec P F_pattern_widths.body ⟨enterTm (ps.map .p), [], 19, none⟩) := R_go p_pattern_widths h
theorem q_r01_Cut {args : List AV} {σ : Store} : callF P f_r01_Cut args σ = pcall P f_r01_Cut args σ (omap (purify σ depth) args) := callF_pure p_r01_Cut rfl rfl
theorem r_r01_Cut {ps : List PV} (h : ps.length ≤ 22) : R P f_r01_Cut ps = retR [.tmp 4] (exec P F_r01_Cut.body ⟨enterTm (ps.map .p), [], 22, none⟩) := R_go p_r01_Cut h
theorem q_slices_BinarySearchFunc_api_Var_api_Var_string {args : List AV} {σ : Store} : callF P f_slices_BinarySearchFunc_api_Var_api_Var_string args σ = pcall P f_slices_BinarySearchFunc_api_Var_api_Var_string args σ (omap (purify σ depth) args) := callF_pure p_slices_BinarySearchFunc_api_Var_api_Var_string rfl rfl
theorem r_slices_BinarySearchFunc_api_Var_api_Var_string {ps : List PV} (h : ps.length ≤ 49) : R P f_slices_BinarySearchFunc_api_Var_api_Var_string ps = retR [.tmp 6, .tmp 7] (exec P F_slices_BinarySearchFunc_api_Var_api_Var_string.body ⟨enterTm (ps.map .p), [], 49, none⟩) := R_go p_slices_BinarySearchFunc_api_Var_api_Var_string h
theorem q_pattern_variables_1 {args : List AV} {σ : Store} : callF P f_pattern_variables_1 args σ = pcall P f_pattern_variables_1 args σ (omap (purify σ depth) args) := callF_pure p_pattern_variables_1 rfl rfl
theorem r_pattern_variables_1 {ps : List PV} (h : ps.length ≤ 9) : R P f_pattern_variables_1 ps = retR [.tmp 4] (exec P F_pattern_variables_1.body ⟨enterTm (ps.map .p), [], 9, none⟩) := R_go p_pattern_variables_1 h
theorem q_strings_Compare {args : List AV} {σ : Store} : callF P f_strings_Compare args σ = pcall P f_strings_Compare args σ (omap (purify σ depth) args) := callF_pure p_strings_Compare rfl rfl
theorem r_strings_Compare {ps : List PV} (h : ps.length ≤ 8) : R P f_strings_Compare ps = retR [.tmp 4] (exec P F_strings_Compare.body ⟨enterTm (ps.map .p), [], 8, none⟩) := R_go p_strings_Compare h
theorem q_slices_Contains_api_Op_api_Op {args : List AV} {σ : Store} : callF P f_slices_Contains_api_Op_api_Op args σ = pcall P f_slices_Contains_api_Op_api_Op args σ (omap (purify σ depth) args) := callF_pure p_slices_Contains_api_Op_api_Op rfl rfl
theorem r_slices_Contains_api_Op_api_Op {ps : List PV} (h : ps.length ≤ 9) : R P f_slices_Contains_api_Op_api_Op ps = retR [.tmp 4] (exec P F_slices_Contains_api_Op_api_Op.body ⟨enterTm (ps.map .p), [], 9, none⟩) := R_go p_slices_Contains_api_Op_api_Op h
theorem q_r04_Is {args : List AV} {σ : Store} : callF P f_r04_Is args σ = pcall P f_r04_Is args σ (omap (purify σ depth) args) := callF_pure p_r04_Is rfl rfl
theorem r_r04_Is {ps : List PV} (h : ps.length ≤ 18) : R P f_r04_Is ps = retR [.tmp 4] (exec P F_r04_Is.body ⟨enterTm (ps.map .p), [], 18, none⟩) := R_go p_r04_Is h
theorem q_cmp_Compare_int {args : List AV} {σ : Store} : callF P f_cmp_Compare_int args σ = pcall P f_cmp_Compare_int args σ (omap (purify σ depth) args) := callF_pure p_cmp_Compare_int rfl rfl
theorem r_cmp_Compare_int {ps : List PV} (h : ps.length ≤ 20) : R P f_cmp_Compare_int ps = retR [.tmp 4] (exec P F_cmp_Compare_int.body ⟨enterTm (ps.map .p), [], 20, none⟩) := R_go p_cmp_Compare_int h
theorem q_cmp_Or_int {args : List AV} {σ : Store} : callF P f_cmp_Or_int args σ = pcall P f_cmp_Or_int args σ (omap (purify σ depth) args) := callF_pure p_cmp_Or_int rfl rfl
theorem r_cmp_Or_int {ps : List PV} (h : ps.length ≤ 18) : R P f_cmp_Or_int ps = retR [.tmp 2] (exec P F_cmp_Or_int.body ⟨enterTm (ps.map .p), [], 18, none⟩) := R_go p_cmp_Or_int h
theorem q_cmp_Compare_api_Op {args : List AV} {σ : Store} : callF P f_cmp_Compare_api_Op args σ = pcall P f_cmp_Compare_api_Op args σ (omap (purify σ depth) args) := callF_pure p_cmp_Compare_api_Op rfl rfl
theorem r_cmp_Compare_api_Op {ps : List PV} (h : ps.length ≤ 20) : R P f_cmp_Compare_api_Op ps = retR [.tmp 4] (exec P F_cmp_Compare_api_Op.body ⟨enterTm (ps.map .p), [], 20, none⟩) := R_go p_cmp_Compare_api_Op h
theorem q_cmp_Compare_uint64 {args : List AV} {σ : Store} : callF P f_cmp_Compare_uint64 args σ = pcall P f_cmp_Compare_uint64 args σ (omap (purify σ depth) args) := callF_pure p_cmp_Compare_uint64 rfl rfl
theorem r_cmp_Compare_uint64 {ps : List PV} (h : ps.length ≤ 20) : R P f_cmp_Compare_uint64 ps = retR [.tmp 4] (exec P F_cmp_Compare_uint64.body ⟨enterTm (ps.map .p), [], 20, none⟩) := R_go p_cmp_Compare_uint64 h
theorem q_slices_CompareFunc_api_Term_api_Term_api_Term_api_Term {args : List AV} {σ : Store} : callF P f_slices_CompareFunc_api_Term_api_Term_api_Term_api_Term args σ = pcall P f_slices_CompareFunc_api_Term_api_Term_api_Term_api_Term args σ (omap (purify σ depth) args) := callF_pure p_slices_CompareFunc_api_Term_api_Term_api_Term_api_Term rfl rfl
theorem r_slices_CompareFunc_api_Term_api_Term_api_Term_api_Term {ps : List PV} (h : ps.length ≤ 39) : R P f_slices_CompareFunc_api_Term_api_Term_api_Term_api_Term ps = retR [.tmp 6] (exec P F_slices_CompareFunc_api_Term_api_Term_api_Term_api_Term.body ⟨enterTm (ps.map .p), [], 39, none⟩) := R_go p_slices_CompareFunc_api_Term_api_Term_api_Term_api_Term h
theorem q_opinfo_Arity {args : List AV} {σ : Store} : callF P f_opinfo_Arity args σ = pcall P f_opinfo_Arity args σ (omap (purify σ depth) args) := callF_pure p_opinfo_Arity rfl rfl
theorem r_opinfo_Arity {ps : List PV} (h : ps.length ≤ 42) : R P f_opinfo_Arity ps = retR [.tmp 2] (exec P F_opinfo_Arity.body ⟨enterTm (ps.map .p), [], 42, none⟩) := R_go p_opinfo_Arity h
theorem q_term_Name {args : List AV} {σ : Store} : callF P f_term_Name args σ = pcall P f_term_Name args σ (omap (purify σ depth) args) := callF_pure p_term_Name rfl rfl
theorem r_term_Name {ps : List PV} (h : ps.length ≤ 50) : R P f_term_Name ps = retR [.tmp 2] (exec P F_term_Name.body ⟨enterTm (ps.map .p), [], 50, none⟩) := R_go p_term_Name h
theorem q_r04_Leaf {args : List AV} {σ : Store} : callF P f_r04_Leaf args σ = pcall P f_r04_Leaf args σ (omap (purify σ depth) args) := callF_pure p_r04_Leaf rfl rfl
theorem r_r04_Leaf {ps : List PV} (h : ps.length ≤ 6) : R P f_r04_Leaf ps = retR [.tmp 2] (exec P F_r04_Leaf.body ⟨enterTm (ps.map .p), [], 6, none⟩) := R_go p_r04_Leaf h
theorem q_r04_width {args : List AV} {σ : Store} : callF P f_r04_width args σ = pcall P f_r04_width args σ (omap (purify σ depth) args) := callF_pure p_r04_width rfl rfl
theorem r_r04_width {ps : List PV} (h : ps.length ≤ 9) : R P f_r04_width ps = retR [.tmp 2] (exec P F_r04_width.body ⟨enterTm (ps.map .p), [], 9, none⟩) := R_go p_r04_width h
theorem q_r04_leaf {args : List AV} {σ : Store} : callF P f_r04_leaf args σ = pcall P f_r04_leaf args σ (omap (purify σ depth) args) := callF_pure p_r04_leaf rfl rfl
theorem r_r04_leaf {ps : List PV} (h : ps.length ≤ 31) : R P f_r04_leaf ps = retR [.tmp 6, .tmp 7] (exec P F_r04_leaf.body ⟨enterTm (ps.map .p), [], 31, none⟩) := R_go p_r04_leaf h
theorem q_r04_parts {args : List AV} {σ : Store} : callF P f_r04_parts args σ = pcall P f_r04_parts args σ (omap (purify σ depth) args) := callF_pure p_r04_parts rfl rfl
theorem r_r04_parts {ps : List PV} (h : ps.length ≤ 46) : R P f_r04_parts ps = retR [.tmp 8, .tmp 9] (exec P F_r04_parts.body ⟨enterTm (ps.map .p), [], 46, none⟩) := R_go p_r04_parts h
theorem q_bits_Mask {args : List AV} {σ : Store} : callF P f_bits_Mask args σ = pcall P f_bits_Mask args σ (omap (purify σ depth) args) := callF_pure p_bits_Mask rfl rfl
theorem r_bits_Mask {ps : List PV} (h : ps.length ≤ 7) : R P f_bits_Mask ps = retR [.tmp 2] (exec P F_bits_Mask.body ⟨enterTm (ps.map .p), [], 7, none⟩) := R_go p_bits_Mask h
theorem q_opinfo_known {args : List AV} {σ : Store} : callF P f_opinfo_known args σ = pcall P f_opinfo_known args σ (omap (purify σ depth) args) := callF_pure p_opinfo_known rfl rfl
theorem r_opinfo_known {ps : List PV} (h : ps.length ≤ 9) : R P f_opinfo_known ps = retR [.tmp 2] (exec P F_opinfo_known.body ⟨enterTm (ps.map .p), [], 9, none⟩) := R_go p_opinfo_known h
theorem q_opinfo_inside {args : List AV} {σ : Store} : callF P f_opinfo_inside args σ = pcall P f_opinfo_inside args σ (omap (purify σ depth) args) := callF_pure p_opinfo_inside rfl rfl
theorem r_opinfo_inside {ps : List PV} (h : ps.length ≤ 9) : R P f_opinfo_inside ps = retR [.tmp 2] (exec P F_opinfo_inside.body ⟨enterTm (ps.map .p), [], 9, none⟩) := R_go p_opinfo_inside h
theorem q_opinfo_leaf {args : List AV} {σ : Store} : callF P f_opinfo_leaf args σ = pcall P f_opinfo_leaf args σ (omap (purify σ depth) args) := callF_pure p_opinfo_leaf rfl rfl
theorem r_opinfo_leaf {ps : List PV} (h : ps.length ≤ 26) : R P f_opinfo_leaf ps = retR [.tmp 6, .tmp 7] (exec P F_opinfo_leaf.body ⟨enterTm (ps.map .p), [], 26, none⟩) := R_go p_opinfo_leaf h
theorem q_opinfo_resized {args : List AV} {σ : Store} : callF P f_opinfo_resized args σ = pcall P f_opinfo_resized args σ (omap (purify σ depth) args) := callF_pure p_opinfo_resized rfl rfl
theorem r_opinfo_resized {ps : List PV} (h : ps.length ≤ 45) : R P f_opinfo_resized ps = retR [.tmp 8, .tmp 9] (exec P F_opinfo_resized.body ⟨enterTm (ps.map .p), [], 45, none⟩) := R_go p_opinfo_resized h
theorem q_opinfo_agreed {args : List AV} {σ : Store} : callF P f_opinfo_agreed args σ = pcall P f_opinfo_agreed args σ (omap (purify σ depth) args) := callF_pure p_opinfo_agreed rfl rfl
theorem r_opinfo_agreed {ps : List PV} (h : ps.length ≤ 9) : R P f_opinfo_agreed ps = retR [.tmp 4, .tmp 5] (exec P F_opinfo_agreed.body ⟨enterTm (ps.map .p), [], 9, none⟩) := R_go p_opinfo_agreed h
theorem q_r01_W {args : List AV} {σ : Store} : callF P f_r01_W args σ = pcall P f_r01_W args σ (omap (purify σ depth) args) := callF_pure p_r01_W rfl rfl
theorem r_r01_W {ps : List PV} (h : ps.length ≤ 6) : R P f_r01_W ps = retR [.tmp 2] (exec P F_r01_W.body ⟨enterTm (ps.map .p), [], 6, none⟩) := R_go p_r01_W h
theorem q_r01_Bit {args : List AV} {σ : Store} : callF P f_r01_Bit args σ = pcall P f_r01_Bit args σ (omap (purify σ depth) args) := callF_pure p_r01_Bit rfl rfl
theorem r_r01_Bit {ps : List PV} (h : ps.length ≤ 16) : R P f_r01_Bit ps = retR [.tmp 4] (exec P F_r01_Bit.body ⟨enterTm (ps.map .p), [], 16, none⟩) := R_go p_r01_Bit h
theorem q_internal_bytealg_CompareString {args : List AV} {σ : Store} : callF P f_internal_bytealg_CompareString args σ = pcall P f_internal_bytealg_CompareString args σ (omap (purify σ depth) args) := callF_pure p_internal_bytealg_CompareString rfl rfl
theorem r_internal_bytealg_CompareString {ps : List PV} (h : ps.length ≤ 8) : R P f_internal_bytealg_CompareString ps = retR [.tmp 4] (exec P F_internal_bytealg_CompareString.body ⟨enterTm (ps.map .p), [], 8, none⟩) := R_go p_internal_bytealg_CompareString h
theorem q_slices_rotateRight_api_Var {args : List AV} {σ : Store} : callF P f_slices_rotateRight_api_Var args σ = pcall P f_slices_rotateRight_api_Var args σ (omap (purify σ depth) args) := callF_pure p_slices_rotateRight_api_Var rfl rfl
theorem r_slices_rotateRight_api_Var {ps : List PV} (h : ps.length ≤ 10) : R P f_slices_rotateRight_api_Var ps = retR [] (exec P F_slices_rotateRight_api_Var.body ⟨enterTm (ps.map .p), [], 10, none⟩) := R_go p_slices_rotateRight_api_Var h
theorem q_slices_Index_api_Op_api_Op {args : List AV} {σ : Store} : callF P f_slices_Index_api_Op_api_Op args σ = pcall P f_slices_Index_api_Op_api_Op args σ (omap (purify σ depth) args) := callF_pure p_slices_Index_api_Op_api_Op rfl rfl
theorem r_slices_Index_api_Op_api_Op {ps : List PV} (h : ps.length ≤ 19) : R P f_slices_Index_api_Op_api_Op ps = retR [.tmp 4] (exec P F_slices_Index_api_Op_api_Op.body ⟨enterTm (ps.map .p), [], 19, none⟩) := R_go p_slices_Index_api_Op_api_Op h
theorem q_cmp_isNaN_int {args : List AV} {σ : Store} : callF P f_cmp_isNaN_int args σ = pcall P f_cmp_isNaN_int args σ (omap (purify σ depth) args) := callF_pure p_cmp_isNaN_int rfl rfl
theorem r_cmp_isNaN_int {ps : List PV} (h : ps.length ≤ 6) : R P f_cmp_isNaN_int ps = retR [.tmp 2] (exec P F_cmp_isNaN_int.body ⟨enterTm (ps.map .p), [], 6, none⟩) := R_go p_cmp_isNaN_int h
theorem q_cmp_isNaN_api_Op {args : List AV} {σ : Store} : callF P f_cmp_isNaN_api_Op args σ = pcall P f_cmp_isNaN_api_Op args σ (omap (purify σ depth) args) := callF_pure p_cmp_isNaN_api_Op rfl rfl
theorem r_cmp_isNaN_api_Op {ps : List PV} (h : ps.length ≤ 6) : R P f_cmp_isNaN_api_Op ps = retR [.tmp 2] (exec P F_cmp_isNaN_api_Op.body ⟨enterTm (ps.map .p), [], 6, none⟩) := R_go p_cmp_isNaN_api_Op h
theorem q_cmp_isNaN_uint64 {args : List AV} {σ : Store} : callF P f_cmp_isNaN_uint64 args σ = pcall P f_cmp_isNaN_uint64 args σ (omap (purify σ depth) args) := callF_pure p_cmp_isNaN_uint64 rfl rfl
theorem r_cmp_isNaN_uint64 {ps : List PV} (h : ps.length ≤ 6) : R P f_cmp_isNaN_uint64 ps = retR [.tmp 2] (exec P F_cmp_isNaN_uint64.body ⟨enterTm (ps.map .p), [], 6, none⟩) := R_go p_cmp_isNaN_uint64 h
theorem q_bits_clamp {args : List AV} {σ : Store} : callF P f_bits_clamp args σ = pcall P f_bits_clamp args σ (omap (purify σ depth) args) := callF_pure p_bits_clamp rfl rfl
theorem r_bits_clamp {ps : List PV} (h : ps.length ≤ 6) : R P f_bits_clamp ps = retR [.tmp 2] (exec P F_bits_clamp.body ⟨enterTm (ps.map .p), [], 6, none⟩) := R_go p_bits_clamp h
theorem q_slices_rotateLeft_api_Var {args : List AV} {σ : Store} : callF P f_slices_rotateLeft_api_Var args σ = pcall P f_slices_rotateLeft_api_Var args σ (omap (purify σ depth) args) := callF_pure p_slices_rotateLeft_api_Var rfl rfl
theorem r_slices_rotateLeft_api_Var {ps : List PV} (h : ps.length ≤ 14) : R P f_slices_rotateLeft_api_Var ps = retR [] (exec P F_slices_rotateLeft_api_Var.body ⟨enterTm (ps.map .p), [], 14, none⟩) := R_go p_slices_rotateLeft_api_Var h
theorem q_slices_Reverse_api_Var_api_Var {args : List AV} {σ : Store} : callF P f_slices_Reverse_api_Var_api_Var args σ = pcall P f_slices_Reverse_api_Var_api_Var args σ (omap (purify σ depth) args) := callF_pure p_slices_Reverse_api_Var_api_Var rfl rfl
theorem r_slices_Reverse_api_Var_api_Var {ps : List PV} (h : ps.length ≤ 28) : R P f_slices_Reverse_api_Var_api_Var ps = retR [] (exec P F_slices_Reverse_api_Var_api_Var.body ⟨enterTm (ps.map .p), [], 28, none⟩) := R_go p_slices_Reverse_api_Var_api_Var h
theorem q_slices_Insert_api_Var_api_Var {args : List AV} {σ : Store} : callF P f_slices_Insert_api_Var_api_Var args σ = (primIns 2 24) args σ := callF_prim rfl
theorem q_internal_bytealg_abigen_runtime_cmpstring {args : List AV} {σ : Store} : callF P f_internal_bytealg_abigen_runtime_cmpstring args σ = (purePrim primCompare) args σ := callF_prim rfl
end
end Go.AE.S
