/- The intermediate code of the functions that the laws reach (printed by wip/tools/Emit.lean, mkir.py). -/
import Derived.Test.YthljaicehpdkbaaP0
namespace Go.AE.S
open Go Go.AE
noncomputable section
def bs (l : List Nat) : ByteArray := ⟨(l.map UInt8.ofNat).toArray⟩
def f_law06_TermChecks : FuncId := 3
def f_law06_TermLong : FuncId := 4
def f_law06_TermMakes : FuncId := 5
def f_law06_TermCompares : FuncId := 6
def f_law06_TermSubterms : FuncId := 7
def f_law06_TermPaths : FuncId := 8
def f_law06_TermLess : FuncId := 9
def f_law06_TermCopies : FuncId := 10
def f_law06_light : FuncId := 11
def f_law06_lives : FuncId := 12
def f_term_Check : FuncId := 13
def f_r06_Check : FuncId := 14
def f_term_Name : FuncId := 15
def f_r06_Name : FuncId := 16
def f_term_Size : FuncId := 17
def f_r06_Size : FuncId := 18
def f_term_Depth : FuncId := 19
def f_r06_Depth : FuncId := 20
def f_r06_SameVars : FuncId := 21
def f_term_Vars : FuncId := 22
def f_r06_Vars : FuncId := 23
def f_term_Var : FuncId := 24
def f_term_Make : FuncId := 25
def f_r06_Same : FuncId := 26
def f_r06_Var : FuncId := 27
def f_term_Const : FuncId := 28
def f_r06_Const : FuncId := 29
def f_r06_Make : FuncId := 30
def f_term_Compare : FuncId := 31
def f_r06_Compare : FuncId := 32
def f_term_Same : FuncId := 33
def f_r06_Light : FuncId := 34
def f_term_All : FuncId := 35
def f_term_Subterms : FuncId := 36
def f_r06_SameAll : FuncId := 37
def f_r06_Post : FuncId := 38
def f_r06_Subterms : FuncId := 39
def f_term_At : FuncId := 40
def f_r06_At : FuncId := 41
def f_term_Put : FuncId := 42
def f_r06_Put : FuncId := 43
def f_law06_twin : FuncId := 44
def f_term_Copy : FuncId := 45
def f_term_measure : FuncId := 46
def f_term_node : FuncId := 47
def f_r06_count : FuncId := 48
def f_r06_nodes : FuncId := 49
def f_term_preorder : FuncId := 50
def f_term_Vars_1 : FuncId := 51
def f_term_Vars_1_1 : FuncId := 52
def f_slices_ContainsFunc_api_Var_api_Var : FuncId := 53
def f_slices_SortFunc_api_Var_api_Var : FuncId := 54
def f_term_Vars_2 : FuncId := 55
def f_strings_Compare : FuncId := 56
def f_r06_Pre : FuncId := 57
def f_term_clamp : FuncId := 58
def f_opinfo_Width : FuncId := 59
def f_term_widths : FuncId := 60
def f_r06_clamp : FuncId := 61
def f_r06_Cut : FuncId := 62
def f_r04_Width : FuncId := 63
def f_r06_Widths : FuncId := 64
def f_cmp_Compare_int : FuncId := 65
def f_cmp_Or_int : FuncId := 66
def f_cmp_Compare_api_Op : FuncId := 67
def f_cmp_Compare_uint64 : FuncId := 68
def f_slices_CompareFunc_api_Term_api_Term_api_Term_api_Term : FuncId := 69
def f_r06_order : FuncId := 70
def f_slices_EqualFunc_api_Term_api_Term_api_Term_api_Term : FuncId := 71
def f_term_All_1 : FuncId := 72
def f_term_postorder : FuncId := 73
def f_term_All_1_1 : FuncId := 74
def f_slices_ContainsFunc_api_Term_api_Term : FuncId := 75
def f_term_Subterms_1 : FuncId := 76
def f_r06_Has : FuncId := 77
def f_opinfo_Arity : FuncId := 78
def f_opinfo_Pattern : FuncId := 79
def f_r06_Node : FuncId := 80
def f_slices_IndexFunc_api_Var_api_Var : FuncId := 81
def f_internal_bytealg_CompareString : FuncId := 84
def f_opinfo_known : FuncId := 85
def f_opinfo_inside : FuncId := 86
def f_opinfo_leaf : FuncId := 87
def f_opinfo_resized : FuncId := 88
def f_opinfo_agreed : FuncId := 89
def f_r04_Arity : FuncId := 90
def f_r04_width : FuncId := 91
def f_r04_Leaf : FuncId := 92
def f_r04_leaf : FuncId := 93
def f_r04_parts : FuncId := 94
def f_cmp_isNaN_int : FuncId := 95
def f_cmp_isNaN_api_Op : FuncId := 96
def f_cmp_isNaN_uint64 : FuncId := 97
def f_slices_IndexFunc_api_Term_api_Term : FuncId := 98
def f_r04_Pattern : FuncId := 99
def f_internal_bytealg_abigen_runtime_cmpstring : FuncId := 110
def f_r04_Is : FuncId := 111
def F_law06_TermChecks : AFn := ⟨51, [.tmp 4],
  (.seq (.reg false [opI 2 (.box 5 true (.t 0) true), mvI 4 (.c (.p (.bool false)))])
  (.seq (.seq (.reg false [opI 5 (.load 5 true (.t 2)), opI 6 (.bslice 5 [(.p (.int .i64 0)), (.p (.int .i64 0)), (.p (.int .u64 0)), (.p (.str (bs []))), .nils] 1 [(0, 5, (.t 5))]), opI 7 (.callf f_law06_light [(.t 6)]), opI 8 (.not (.t 7)), mvI 9 (.t 8), ⟨some 10, .mv (.t 1) false, some (9, false)⟩, ⟨some 11, .lenT (.t 10), some (9, false)⟩, ⟨some 12, .arith .gtr (.t 11) (kI 200), some (9, false)⟩, opI 13 (.pick (.t 9) (.c (.p (.bool true))) (.t 12))])
  (.cond (.t 13) (.seq (.reg false [opI 14 (.callf f_law06_lives []), mvI 4 (.t 14)])
  .ret) .skip))
  (.seq (.reg true [opI 15 (.load 5 true (.t 2)), opI 16 (.callf f_term_Check [(.t 15)]), opI 17 (.load 5 true (.t 2)), opI 18 (.callf f_r06_Check [(.t 17)]), opI 19 (.arith .eql (.t 16) (.t 18)), mvI 20 (.t 19), ⟨some 21, .mv (.t 1) false, some (20, true)⟩, ⟨some 22, .callf f_term_Name [(.t 21)], some (20, true)⟩, ⟨some 23, .mv (.t 1) false, some (20, true)⟩, ⟨some 24, .callf f_r06_Name [(.t 23)], some (20, true)⟩, ⟨some 25, .eqB false (.t 22) (.t 24), some (20, true)⟩, opI 26 (.pick (.t 20) (.t 25) (.c (.p (.bool false)))), mvI 27 (.t 26), ⟨some 28, .load 5 true (.t 2), some (27, true)⟩, ⟨some 29, .callf f_term_Size [(.t 28)], some (27, true)⟩, ⟨some 30, .load 5 true (.t 2), some (27, true)⟩, ⟨some 31, .callf f_r06_Size [(.t 30)], some (27, true)⟩, ⟨some 32, .arith .eql (.t 29) (.t 31), some (27, true)⟩, opI 33 (.pick (.t 27) (.t 32) (.c (.p (.bool false)))), mvI 34 (.t 33), ⟨some 35, .load 5 true (.t 2), some (34, true)⟩, ⟨some 36, .callf f_term_Depth [(.t 35)], some (34, true)⟩, ⟨some 37, .load 5 true (.t 2), some (34, true)⟩, ⟨some 38, .callf f_r06_Depth [(.t 37)], some (34, true)⟩, ⟨some 39, .arith .eql (.t 36) (.t 38), some (34, true)⟩, opI 40 (.pick (.t 34) (.t 39) (.c (.p (.bool false)))), mvI 41 (.t 40), ⟨some 42, .load 5 true (.t 2), some (41, true)⟩, ⟨some 43, .callf f_term_Vars [(.t 42)], some (41, true)⟩, ⟨some 44, .load 5 true (.t 2), some (41, true)⟩, ⟨some 45, .callf f_r06_Vars [(.t 44)], some (41, true)⟩, ⟨some 46, .callf f_r06_SameVars [(.t 43), (.t 45)], some (41, true)⟩, opI 47 (.pick (.t 41) (.t 46) (.c (.p (.bool false)))), mvI 48 (.t 47), ⟨some 49, .callf f_law06_lives [], some (48, true)⟩, opI 50 (.pick (.t 48) (.t 49) (.c (.p (.bool false)))), mvI 4 (.t 50)])
  .ret))), false⟩
def B0_law06_TermLong : K :=
  (.seq (.seq (.reg false [mvI 17 (.t 7), mvI 18 (.t 6), opI 19 (.arith .lss (.t 17) (.t 18))])
  (.cond (.t 19) .skip (.exit 0)))
  (.seq (.block 1 (.reg false [opI 22 (.load 5 true (.t 5)), opI 23 (.bslice 5 [(.p (.int .i64 0)), (.p (.int .i64 0)), (.p (.int .u64 0)), (.p (.str (bs []))), .nils] 1 [(0, 5, (.t 22))]), opI 24 (.callf f_term_Make [(kI 3), (.t 23)]), ⟨none, .store 5 (.t 5) (.t 24), none⟩]))
  (.reg false [mvI 20 (.t 7), opI 21 (.arith .add (.t 20) (kI 1)), mvI 7 (.t 21)])))
def L0_law06_TermLong : K := .loop [1, 5, 6, 7] B0_law06_TermLong
def B1_law06_TermLong : K :=
  (.seq (.seq (.reg false [mvI 47 (.t 10), mvI 48 (.t 1), opI 49 (.conv .i64 (.t 48)), opI 50 (.arith .rem (.t 49) (kI 13)), opI 51 (.arith .lss (.t 47) (.t 50))])
  (.cond (.t 51) .skip (.exit 2)))
  (.seq (.block 3 (.seq (.reg false [opI 54 (.load 5 true (.t 8)), opI 55 (.load 5 true (.t 8)), opI 56 (.bslice 5 [(.p (.int .i64 0)), (.p (.int .i64 0)), (.p (.int .u64 0)), (.p (.str (bs []))), .nils] 2 [(0, 5, (.t 54)), (1, 5, (.t 55))]), opI 57 (.callf f_term_Make [(kI 8), (.t 56)]), ⟨none, .store 5 (.t 8) (.t 57), none⟩])
  (.reg false [mvI 58 (.t 9), opI 59 (.arith .mul (kI 2) (.t 58)), opI 60 (.arith .add (.t 59) (kI 1)), mvI 9 (.t 60)])))
  (.reg false [mvI 52 (.t 10), opI 53 (.arith .add (.t 52) (kI 1)), mvI 10 (.t 53)])))
def L1_law06_TermLong : K := .loop [1, 8, 9, 10] B1_law06_TermLong
def B2_law06_TermLong : K :=
  (.seq (.seq (.reg false [mvI 61 (.t 11), opI 62 (.arith .lss (.t 61) (kI 3))])
  (.cond (.t 62) .skip (.exit 4)))
  (.seq (.block 5 (.seq (.seq (.reg false [opI 65 (.load 5 true (.t 8)), opI 66 (.callf f_term_Check [(.t 65)]), opI 67 (.arith .eql (.t 66) (kI 0)), mvI 68 (.t 9), opI 69 (.arith .leq (.t 68) (kI 4096)), opI 70 (.eqB true (.t 67) (.t 69)), mvI 71 (.t 70), ⟨some 72, .mv (.t 9) false, some (71, false)⟩, ⟨some 73, .arith .gtr (.t 72) (kI 4096), some (71, false)⟩, ⟨some 74, .mv (.t 73) false, some (71, false)⟩, ⟨some 75, .load 5 true (.t 8), some (74, true)⟩, ⟨some 76, .callf f_term_Check [(.t 75)], some (74, true)⟩, ⟨some 77, .arith .neq (.t 76) (kI 7), some (74, true)⟩, ⟨some 78, .pick (.t 74) (.t 77) (.c (.p (.bool false))), some (71, false)⟩, opI 79 (.pick (.t 71) (.c (.p (.bool true))) (.t 78)), mvI 80 (.t 79), ⟨some 81, .load 5 true (.t 8), some (80, false)⟩, ⟨some 82, .callf f_term_Size [(.t 81)], some (80, false)⟩, ⟨some 83, .mv (.t 9) false, some (80, false)⟩, ⟨some 84, .arith .neq (.t 82) (.t 83), some (80, false)⟩, opI 85 (.pick (.t 80) (.c (.p (.bool true))) (.t 84))])
  (.cond (.t 85) (.seq (.reg false [mvI 4 (.c (.p (.bool false)))])
  .ret) .skip))
  (.seq (.reg false [opI 86 (.load 5 true (.t 8)), opI 87 (.bslice 5 [(.p (.int .i64 0)), (.p (.int .i64 0)), (.p (.int .u64 0)), (.p (.str (bs []))), .nils] 1 [(0, 5, (.t 86))]), opI 88 (.callf f_term_Make [(kI 3), (.t 87)]), ⟨none, .store 5 (.t 8) (.t 88), none⟩])
  (.reg false [mvI 89 (.t 9), opI 90 (.arith .add (.t 89) (kI 1)), mvI 9 (.t 90)]))))
  (.reg false [mvI 63 (.t 11), opI 64 (.arith .add (.t 63) (kI 1)), mvI 11 (.t 64)])))
def L2_law06_TermLong : K := .loop [8, 9, 11] B2_law06_TermLong
def F_law06_TermLong : AFn := ⟨92, [.tmp 4],
  (.seq (.reg false [mvI 4 (.c (.p (.bool false)))])
  (.seq (.reg false [opI 12 (.callf f_term_Var [(.c (.p (.str (bs [120])))), (kI 8)]), opI 5 (.init 5 true (.t 12) false)])
  (.seq (.reg false [mvI 13 (.t 0), opI 14 (.conv .i64 (.t 13)), opI 15 (.arith .rem (.t 14) (kI 100)), opI 16 (.arith .add (kI 1) (.t 15)), mvI 6 (.t 16)])
  (.seq (.seq (.reg false [mvI 7 (kI 1)])
  (.block 0 L0_law06_TermLong))
  (.seq (.seq (.reg false [opI 25 (.load 5 true (.t 5)), opI 26 (.callf f_term_Check [(.t 25)]), opI 27 (.arith .eql (.t 26) (kI 0)), mvI 28 (.t 6), opI 29 (.arith .leq (.t 28) (kI 64)), opI 30 (.eqB true (.t 27) (.t 29)), mvI 31 (.t 30), ⟨some 32, .mv (.t 6) false, some (31, false)⟩, ⟨some 33, .arith .gtr (.t 32) (kI 64), some (31, false)⟩, ⟨some 34, .mv (.t 33) false, some (31, false)⟩, ⟨some 35, .load 5 true (.t 5), some (34, true)⟩, ⟨some 36, .callf f_term_Check [(.t 35)], some (34, true)⟩, ⟨some 37, .arith .neq (.t 36) (kI 7), some (34, true)⟩, ⟨some 38, .pick (.t 34) (.t 37) (.c (.p (.bool false))), some (31, false)⟩, opI 39 (.pick (.t 31) (.c (.p (.bool true))) (.t 38)), mvI 40 (.t 39), ⟨some 41, .load 5 true (.t 5), some (40, false)⟩, ⟨some 42, .callf f_term_Depth [(.t 41)], some (40, false)⟩, ⟨some 43, .mv (.t 6) false, some (40, false)⟩, ⟨some 44, .arith .neq (.t 42) (.t 43), some (40, false)⟩, opI 45 (.pick (.t 40) (.c (.p (.bool true))) (.t 44))])
  (.cond (.t 45) (.seq (.reg false [mvI 4 (.c (.p (.bool false)))])
  .ret) .skip))
  (.seq (.reg false [opI 46 (.callf f_term_Var [(.c (.p (.str (bs [120])))), (kI 8)]), opI 8 (.init 5 true (.t 46) false)])
  (.seq (.reg false [mvI 9 (kI 1)])
  (.seq (.seq (.reg false [mvI 10 (kI 0)])
  (.block 2 L1_law06_TermLong))
  (.seq (.seq (.reg false [mvI 11 (kI 0)])
  (.block 4 L2_law06_TermLong))
  (.seq (.reg false [opI 91 (.callf f_law06_lives []), mvI 4 (.t 91)])
  .ret)))))))))), false⟩
def F_law06_TermMakes : AFn := ⟨73, [.tmp 10],
  (.seq (.reg false [mvI 10 (.c (.p (.bool false)))])
  (.seq (.seq (.reg false [mvI 12 (.t 0), opI 13 (.lenT (.t 12)), opI 14 (.arith .gtr (.t 13) (kI 100)), mvI 15 (.t 14), ⟨some 16, .mv (.t 4) false, some (15, false)⟩, ⟨some 17, .lenS (.t 16), some (15, false)⟩, ⟨some 18, .arith .gtr (.t 17) (kI 3), some (15, false)⟩, opI 19 (.pick (.t 15) (.c (.p (.bool true))) (.t 18)), mvI 20 (.t 19), ⟨some 21, .mv (.t 4) false, some (20, false)⟩, ⟨some 22, .callf f_law06_light [(.t 21)], some (20, false)⟩, ⟨some 23, .not (.t 22), some (20, false)⟩, opI 24 (.pick (.t 20) (.c (.p (.bool true))) (.t 23))])
  (.cond (.t 24) (.seq (.reg false [opI 25 (.callf f_law06_lives []), mvI 10 (.t 25)])
  .ret) .skip))
  (.seq (.reg false [mvI 26 (.t 3), mvI 27 (.t 4), opI 28 (.callf f_term_Make [(.t 26), (.t 27)]), opI 11 (.init 5 true (.t 28) true)])
  (.seq (.seq (.reg true [mvI 29 (.t 0), mvI 30 (.t 1), opI 31 (.callf f_term_Var [(.t 29), (.t 30)]), mvI 32 (.t 0), mvI 33 (.t 1), opI 34 (.callf f_r06_Var [(.t 32), (.t 33)]), opI 35 (.callf f_r06_Same [(.t 31), (.t 34)]), opI 36 (.not (.t 35)), mvI 37 (.t 36), ⟨some 38, .mv (.t 1) false, some (37, false)⟩, ⟨some 39, .mv (.t 2) false, some (37, false)⟩, ⟨some 40, .callf f_term_Const [(.t 38), (.t 39)], some (37, false)⟩, ⟨some 41, .mv (.t 1) false, some (37, false)⟩, ⟨some 42, .mv (.t 2) false, some (37, false)⟩, ⟨some 43, .callf f_r06_Const [(.t 41), (.t 42)], some (37, false)⟩, ⟨some 44, .callf f_r06_Same [(.t 40), (.t 43)], some (37, false)⟩, ⟨some 45, .not (.t 44), some (37, false)⟩, opI 46 (.pick (.t 37) (.c (.p (.bool true))) (.t 45)), mvI 47 (.t 46), ⟨some 48, .load 5 true (.t 11), some (47, false)⟩, ⟨some 49, .mv (.t 3) false, some (47, false)⟩, ⟨some 50, .mv (.t 4) false, some (47, false)⟩, ⟨some 51, .callf f_r06_Make [(.t 49), (.t 50)], some (47, false)⟩, ⟨some 52, .callf f_r06_Same [(.t 48), (.t 51)], some (47, false)⟩, ⟨some 53, .not (.t 52), some (47, false)⟩, opI 54 (.pick (.t 47) (.c (.p (.bool true))) (.t 53))])
  (.cond (.t 54) (.seq (.reg false [mvI 10 (.c (.p (.bool false)))])
  .ret) .skip))
  (.seq (.reg false [mvI 55 (.t 1), mvI 56 (.t 2), opI 57 (.callf f_term_Const [(.t 55), (.t 56)]), opI 58 (.callf f_r06_Check [(.t 57)]), opI 59 (.arith .eql (.t 58) (kI 0)), mvI 60 (.t 59), ⟨some 61, .mv (.t 0) false, some (60, true)⟩, ⟨some 62, .mv (.t 1) false, some (60, true)⟩, ⟨some 63, .callf f_term_Var [(.t 61), (.t 62)], some (60, true)⟩, ⟨some 64, .callf f_r06_Check [(.t 63)], some (60, true)⟩, ⟨some 65, .arith .eql (.t 64) (kI 0), some (60, true)⟩, ⟨some 66, .mv (.t 0) false, some (60, true)⟩, ⟨some 67, .callf f_r06_Name [(.t 66)], some (60, true)⟩, ⟨some 68, .eqB false (.t 65) (.t 67), some (60, true)⟩, opI 69 (.pick (.t 60) (.t 68) (.c (.p (.bool false)))), mvI 70 (.t 69), ⟨some 71, .callf f_law06_lives [], some (70, true)⟩, opI 72 (.pick (.t 70) (.t 71) (.c (.p (.bool false)))), mvI 10 (.t 72)])
  .ret))))), false⟩
def F_law06_TermCompares : AFn := ⟨67, [.tmp 6],
  (.seq (.reg false [opI 3 (.box 5 true (.t 0) true), opI 4 (.box 5 true (.t 1) true), opI 5 (.box 5 true (.t 2) true), mvI 6 (.c (.p (.bool false)))])
  (.seq (.seq (.reg false [opI 7 (.load 5 true (.t 3)), opI 8 (.load 5 true (.t 4)), opI 9 (.load 5 true (.t 5)), opI 10 (.bslice 5 [(.p (.int .i64 0)), (.p (.int .i64 0)), (.p (.int .u64 0)), (.p (.str (bs []))), .nils] 3 [(0, 5, (.t 7)), (1, 5, (.t 8)), (2, 5, (.t 9))]), opI 11 (.callf f_law06_light [(.t 10)]), opI 12 (.not (.t 11))])
  (.cond (.t 12) (.seq (.reg false [opI 13 (.callf f_law06_lives []), mvI 6 (.t 13)])
  .ret) .skip))
  (.seq (.seq (.reg true [opI 14 (.load 5 true (.t 3)), opI 15 (.load 5 true (.t 4)), opI 16 (.callf f_term_Compare [(.t 14), (.t 15)]), opI 17 (.load 5 true (.t 3)), opI 18 (.load 5 true (.t 4)), opI 19 (.callf f_r06_Compare [(.t 17), (.t 18)]), opI 20 (.arith .neq (.t 16) (.t 19)), mvI 21 (.t 20), ⟨some 22, .load 5 true (.t 3), some (21, false)⟩, ⟨some 23, .load 5 true (.t 4), some (21, false)⟩, ⟨some 24, .callf f_term_Same [(.t 22), (.t 23)], some (21, false)⟩, ⟨some 25, .load 5 true (.t 3), some (21, false)⟩, ⟨some 26, .load 5 true (.t 4), some (21, false)⟩, ⟨some 27, .callf f_r06_Same [(.t 25), (.t 26)], some (21, false)⟩, ⟨some 28, .eqB true (.t 24) (.t 27), some (21, false)⟩, opI 29 (.pick (.t 21) (.c (.p (.bool true))) (.t 28)), mvI 30 (.t 29), ⟨some 31, .load 5 true (.t 3), some (30, false)⟩, ⟨some 32, .load 5 true (.t 4), some (30, false)⟩, ⟨some 33, .callf f_term_Compare [(.t 31), (.t 32)], some (30, false)⟩, ⟨some 34, .load 5 true (.t 4), some (30, false)⟩, ⟨some 35, .load 5 true (.t 3), some (30, false)⟩, ⟨some 36, .callf f_term_Compare [(.t 34), (.t 35)], some (30, false)⟩, ⟨some 37, .neg (.t 36), some (30, false)⟩, ⟨some 38, .arith .neq (.t 33) (.t 37), some (30, false)⟩, opI 39 (.pick (.t 30) (.c (.p (.bool true))) (.t 38)), mvI 40 (.t 39), ⟨some 41, .load 5 true (.t 3), some (40, false)⟩, ⟨some 42, .load 5 true (.t 4), some (40, false)⟩, ⟨some 43, .callf f_term_Compare [(.t 41), (.t 42)], some (40, false)⟩, ⟨some 44, .arith .eql (.t 43) (kI 0), some (40, false)⟩, ⟨some 45, .load 5 true (.t 3), some (40, false)⟩, ⟨some 46, .load 5 true (.t 4), some (40, false)⟩, ⟨some 47, .callf f_term_Same [(.t 45), (.t 46)], some (40, false)⟩, ⟨some 48, .eqB true (.t 44) (.t 47), some (40, false)⟩, opI 49 (.pick (.t 40) (.c (.p (.bool true))) (.t 48))])
  (.cond (.t 49) (.seq (.reg false [mvI 6 (.c (.p (.bool false)))])
  .ret) .skip))
  (.seq (.seq (.reg false [opI 50 (.load 5 true (.t 3)), opI 51 (.load 5 true (.t 4)), opI 52 (.callf f_term_Compare [(.t 50), (.t 51)]), opI 53 (.arith .leq (.t 52) (kI 0)), mvI 54 (.t 53), ⟨some 55, .load 5 true (.t 4), some (54, true)⟩, ⟨some 56, .load 5 true (.t 5), some (54, true)⟩, ⟨some 57, .callf f_term_Compare [(.t 55), (.t 56)], some (54, true)⟩, ⟨some 58, .arith .leq (.t 57) (kI 0), some (54, true)⟩, opI 59 (.pick (.t 54) (.t 58) (.c (.p (.bool false)))), mvI 60 (.t 59), ⟨some 61, .load 5 true (.t 3), some (60, true)⟩, ⟨some 62, .load 5 true (.t 5), some (60, true)⟩, ⟨some 63, .callf f_term_Compare [(.t 61), (.t 62)], some (60, true)⟩, ⟨some 64, .arith .gtr (.t 63) (kI 0), some (60, true)⟩, opI 65 (.pick (.t 60) (.t 64) (.c (.p (.bool false))))])
  (.cond (.t 65) (.seq (.reg false [mvI 6 (.c (.p (.bool false)))])
  .ret) .skip))
  (.seq (.reg false [opI 66 (.callf f_law06_lives []), mvI 6 (.t 66)])
  .ret))))), false⟩
def A0_law06_TermSubterms : K :=
  (.reg false [opI 7 (.init 5 true (.t 24) true)])
def B0_law06_TermSubterms : K :=
  (.block 1 (.seq (.regD [opI 25 (.load 1 false (.t 6)), opI 26 (.load 5 true (.t 7)), opI 27 (.lenS (.t 25)), opI 28 (.bslice 5 [(.p (.int .i64 0)), (.p (.int .i64 0)), (.p (.int .u64 0)), (.p (.str (bs []))), .nils] 1 [(0, 5, (.c (.agg [(.p (.int .i64 0)), (.p (.int .i64 0)), (.p (.int .u64 0)), (.p (.str (bs []))), .nils])))]), opI 29 (.append 5 64 (.t 25) (.t 28)), opI 30 (.iadrS 5 (.t 29) (.t 27)), ⟨none, .store 5 (.t 30) (.t 26), none⟩, ⟨none, .store 1 (.t 6) (.t 29), none⟩] [(5, 7), (6, 7)])
  (.seq (.reg false [opI 31 (.load 1 false (.t 6)), opI 32 (.lenS (.t 31)), opI 33 (.arith .gtr (.t 32) (kI 60))])
  (.cond (.t 33) (.seq (.reg false [⟨none, .store 1 (.t 2) (.c (.p (.bool false))), none⟩])
  .ret) .skip))))
def R0_law06_TermSubterms : K := .range (.t 23) [24] [2, 6] A0_law06_TermSubterms B0_law06_TermSubterms
def A1_law06_TermSubterms : K :=
  .skip
def B1_law06_TermSubterms : K :=
  (.block 3 (.seq (.reg false [opI 50 (.load 1 false (.t 9)), opI 51 (.arith .add (.t 50) (kI 1)), ⟨none, .store 1 (.t 9) (.t 51), none⟩])
  (.seq (.reg false [opI 52 (.load 1 false (.t 9)), opI 53 (.arith .eql (.t 52) (kI 2))])
  (.cond (.t 53) (.exit 2) .skip))))
def R1_law06_TermSubterms : K := .range (.t 48) [49] [1, 2, 6, 8, 9] A1_law06_TermSubterms B1_law06_TermSubterms
def B2_law06_TermSubterms : K :=
  (.seq (.seq (.reg false [mvI 54 (.t 10), mvI 55 (.t 8), opI 56 (.lenS (.t 55)), opI 57 (.arith .lss (.t 54) (.t 56)), mvI 58 (.t 57), ⟨some 59, .load 5 true (.t 1), some (58, true)⟩, ⟨some 60, .callf f_r06_Check [(.t 59)], some (58, true)⟩, ⟨some 61, .arith .eql (.t 60) (kI 0), some (58, true)⟩, opI 62 (.pick (.t 58) (.t 61) (.c (.p (.bool false))))])
  (.cond (.t 62) .skip (.exit 4)))
  (.seq (.block 5 (.seq (.reg false [mvI 65 (.t 8), mvI 66 (.t 10), opI 67 (.iadrS 5 (.t 65) (.t 66)), opI 68 (.load 5 true (.t 67)), opI 69 (.callf f_term_Check [(.t 68)]), opI 70 (.arith .neq (.t 69) (kI 0))])
  (.cond (.t 70) (.seq (.reg false [⟨none, .store 1 (.t 2) (.c (.p (.bool false))), none⟩])
  .ret) .skip)))
  (.reg false [mvI 63 (.t 10), opI 64 (.arith .add (.t 63) (kI 1)), mvI 10 (.t 64)])))
def L2_law06_TermSubterms : K := .loop [1, 2, 6, 8, 9, 10] B2_law06_TermSubterms
def F_law06_TermSubterms : AFn := ⟨79, [.cell 2 1 false],
  (.seq (.reg false [opI 1 (.box 5 true (.t 0) true), opI 2 (.alloc [(.p (.bool false))] 1)])
  (.seq (.seq (.reg false [opI 12 (.load 5 true (.t 1)), opI 13 (.callf f_r06_Light [(.t 12), (kI 40), (kI 60)]), mvI 11 (.t 13), opI 14 (.extract (.t 11) 0), opI 15 (.extract (.t 11) 1), opI 3 (.init 5 true (.t 14) true), mvI 4 (.t 15)])
  (.seq (.reg false [mvI 16 (.t 4), opI 17 (.not (.t 16))])
  (.cond (.t 17) (.seq (.reg false [opI 18 (.callf f_law06_lives []), ⟨none, .store 1 (.t 2) (.t 18), none⟩])
  .ret) .skip)))
  (.seq (.reg false [opI 19 (.load 5 true (.t 1)), opI 20 (.callf f_term_All [(.t 19)]), mvI 5 (.t 20)])
  (.seq (.seq (.reg false [mvI 21 (.t 5), opI 22 (.isnil false (.t 21))])
  (.cond (.t 22) (.seq (.reg false [⟨none, .store 1 (.t 2) (.c (.p (.bool false))), none⟩])
  .ret) .skip))
  (.seq (.reg false [opI 6 (.alloc [.nils] 1)])
  (.seq (.seq (.reg false [mvI 23 (.t 5)])
  (.block 0 R0_law06_TermSubterms))
  (.seq (.reg false [opI 34 (.load 5 true (.t 1)), opI 35 (.callf f_term_Subterms [(.t 34)]), mvI 8 (.t 35)])
  (.seq (.seq (.reg true [opI 36 (.load 1 false (.t 6)), opI 37 (.load 5 true (.t 1)), opI 38 (.callf f_r06_Post [(.t 37)]), opI 39 (.callf f_r06_SameAll [(.t 36), (.t 38)]), opI 40 (.not (.t 39)), mvI 41 (.t 40), ⟨some 42, .mv (.t 8) false, some (41, false)⟩, ⟨some 43, .load 5 true (.t 1), some (41, false)⟩, ⟨some 44, .callf f_r06_Subterms [(.t 43)], some (41, false)⟩, ⟨some 45, .callf f_r06_SameAll [(.t 42), (.t 44)], some (41, false)⟩, ⟨some 46, .not (.t 45), some (41, false)⟩, opI 47 (.pick (.t 41) (.c (.p (.bool true))) (.t 46))])
  (.cond (.t 47) (.seq (.reg false [⟨none, .store 1 (.t 2) (.c (.p (.bool false))), none⟩])
  .ret) .skip))
  (.seq (.reg false [opI 9 (.init 1 false (kI 0) false)])
  (.seq (.seq (.reg false [mvI 48 (.t 5)])
  (.block 2 R1_law06_TermSubterms))
  (.seq (.seq (.reg false [mvI 10 (kI 0)])
  (.block 4 L2_law06_TermSubterms))
  (.seq (.reg false [opI 71 (.load 1 false (.t 9)), opI 72 (.load 1 false (.t 6)), opI 73 (.lenS (.t 72)), opI 74 (.minmax false [(kI 2), (.t 73)]), opI 75 (.arith .eql (.t 71) (.t 74)), mvI 76 (.t 75), ⟨some 77, .callf f_law06_lives [], some (76, true)⟩, opI 78 (.pick (.t 76) (.t 77) (.c (.p (.bool false)))), ⟨none, .store 1 (.t 2) (.t 78), none⟩])
  .ret)))))))))))), false⟩
def F_law06_TermPaths : AFn := ⟨111, [.tmp 6],
  (.seq (.reg false [opI 3 (.box 5 true (.t 0) true), opI 4 (.box 5 true (.t 1) true), mvI 6 (.c (.p (.bool false)))])
  (.seq (.seq (.reg false [opI 19 (.load 5 true (.t 3)), opI 20 (.load 5 true (.t 4)), opI 21 (.bslice 5 [(.p (.int .i64 0)), (.p (.int .i64 0)), (.p (.int .u64 0)), (.p (.str (bs []))), .nils] 2 [(0, 5, (.t 19)), (1, 5, (.t 20))]), opI 22 (.callf f_law06_light [(.t 21)]), opI 23 (.not (.t 22)), mvI 24 (.t 23), ⟨some 25, .mv (.t 2) false, some (24, false)⟩, ⟨some 26, .lenS (.t 25), some (24, false)⟩, ⟨some 27, .arith .gtr (.t 26) (kI 60), some (24, false)⟩, opI 28 (.pick (.t 24) (.c (.p (.bool true))) (.t 27))])
  (.cond (.t 28) (.seq (.reg false [opI 29 (.callf f_law06_lives []), mvI 6 (.t 29)])
  .ret) .skip))
  (.seq (.reg false [opI 31 (.load 5 true (.t 3)), mvI 32 (.t 2), opI 33 (.callf f_term_At [(.t 31), (.t 32)]), mvI 30 (.t 33), opI 34 (.extract (.t 30) 0), opI 35 (.extract (.t 30) 1), opI 7 (.init 5 true (.t 34) true), mvI 8 (.t 35)])
  (.seq (.reg false [opI 37 (.load 5 true (.t 3)), mvI 38 (.t 2), opI 39 (.callf f_r06_At [(.t 37), (.t 38)]), mvI 36 (.t 39), opI 40 (.extract (.t 36) 0), opI 41 (.extract (.t 36) 1), opI 9 (.init 5 true (.t 40) true), mvI 10 (.t 41)])
  (.seq (.reg false [opI 43 (.load 5 true (.t 3)), mvI 44 (.t 2), opI 45 (.load 5 true (.t 4)), opI 46 (.callf f_term_Put [(.t 43), (.t 44), (.t 45)]), mvI 42 (.t 46), opI 47 (.extract (.t 42) 0), opI 48 (.extract (.t 42) 1), opI 11 (.init 5 true (.t 47) true), mvI 12 (.t 48)])
  (.seq (.reg false [opI 50 (.load 5 true (.t 3)), mvI 51 (.t 2), opI 52 (.load 5 true (.t 4)), opI 53 (.callf f_r06_Put [(.t 50), (.t 51), (.t 52)]), mvI 49 (.t 53), opI 54 (.extract (.t 49) 0), opI 55 (.extract (.t 49) 1), opI 13 (.init 5 true (.t 54) true), mvI 14 (.t 55)])
  (.seq (.seq (.reg false [mvI 56 (.t 8), mvI 57 (.t 10), opI 58 (.eqB true (.t 56) (.t 57)), mvI 59 (.t 58), ⟨some 60, .load 5 true (.t 7), some (59, false)⟩, ⟨some 61, .load 5 true (.t 9), some (59, false)⟩, ⟨some 62, .callf f_r06_Same [(.t 60), (.t 61)], some (59, false)⟩, ⟨some 63, .not (.t 62), some (59, false)⟩, opI 64 (.pick (.t 59) (.c (.p (.bool true))) (.t 63)), mvI 65 (.t 64), ⟨some 66, .mv (.t 12) false, some (65, false)⟩, ⟨some 67, .mv (.t 14) false, some (65, false)⟩, ⟨some 68, .eqB true (.t 66) (.t 67), some (65, false)⟩, opI 69 (.pick (.t 65) (.c (.p (.bool true))) (.t 68)), mvI 70 (.t 69), ⟨some 71, .load 5 true (.t 11), some (70, false)⟩, ⟨some 72, .load 5 true (.t 13), some (70, false)⟩, ⟨some 73, .callf f_r06_Same [(.t 71), (.t 72)], some (70, false)⟩, ⟨some 74, .not (.t 73), some (70, false)⟩, opI 75 (.pick (.t 70) (.c (.p (.bool true))) (.t 74)), mvI 76 (.t 75), ⟨some 77, .mv (.t 8) false, some (76, false)⟩, ⟨some 78, .mv (.t 12) false, some (76, false)⟩, ⟨some 79, .eqB true (.t 77) (.t 78), some (76, false)⟩, opI 80 (.pick (.t 76) (.c (.p (.bool true))) (.t 79))])
  (.cond (.t 80) (.seq (.reg false [mvI 6 (.c (.p (.bool false)))])
  .ret) .skip))
  (.seq (.seq (.reg false [mvI 81 (.t 8), opI 82 (.not (.t 81))])
  (.cond (.t 82) (.seq (.reg false [opI 83 (.callf f_law06_lives []), mvI 6 (.t 83)])
  .ret) .skip))
  (.seq (.reg false [opI 85 (.load 5 true (.t 11)), mvI 86 (.t 2), opI 87 (.load 5 true (.t 7)), opI 88 (.callf f_term_Put [(.t 85), (.t 86), (.t 87)]), mvI 84 (.t 88), opI 89 (.extract (.t 84) 0), opI 90 (.extract (.t 84) 1), opI 15 (.init 5 true (.t 89) true), mvI 16 (.t 90)])
  (.seq (.reg false [opI 92 (.load 5 true (.t 11)), mvI 93 (.t 2), opI 94 (.callf f_term_At [(.t 92), (.t 93)]), mvI 91 (.t 94), opI 95 (.extract (.t 91) 0), opI 96 (.extract (.t 91) 1), opI 17 (.init 5 true (.t 95) true), mvI 18 (.t 96)])
  (.seq (.reg false [opI 97 (.load 5 true (.t 15)), opI 98 (.load 5 true (.t 3)), opI 99 (.callf f_r06_Same [(.t 97), (.t 98)]), mvI 100 (.t 99), ⟨some 101, .mv (.t 18) false, some (100, true)⟩, opI 102 (.pick (.t 100) (.t 101) (.c (.p (.bool false)))), mvI 103 (.t 102), ⟨some 104, .load 5 true (.t 17), some (103, true)⟩, ⟨some 105, .load 5 true (.t 4), some (103, true)⟩, ⟨some 106, .callf f_r06_Same [(.t 104), (.t 105)], some (103, true)⟩, opI 107 (.pick (.t 103) (.t 106) (.c (.p (.bool false)))), mvI 108 (.t 107), ⟨some 109, .callf f_law06_lives [], some (108, true)⟩, opI 110 (.pick (.t 108) (.t 109) (.c (.p (.bool false)))), mvI 6 (.t 110)])
  .ret))))))))))), false⟩
def F_law06_TermLess : AFn := ⟨60, [.tmp 6],
  (.seq (.reg false [opI 3 (.box 5 true (.t 0) true), opI 4 (.box 5 true (.t 1) true), mvI 6 (.c (.p (.bool false)))])
  (.seq (.seq (.reg false [opI 11 (.load 5 true (.t 3)), opI 12 (.load 5 true (.t 4)), opI 13 (.bslice 5 [(.p (.int .i64 0)), (.p (.int .i64 0)), (.p (.int .u64 0)), (.p (.str (bs []))), .nils] 2 [(0, 5, (.t 11)), (1, 5, (.t 12))]), opI 14 (.callf f_law06_light [(.t 13)]), opI 15 (.not (.t 14)), mvI 16 (.t 15), ⟨some 17, .mv (.t 2) false, some (16, false)⟩, ⟨some 18, .lenS (.t 17), some (16, false)⟩, ⟨some 19, .arith .gtr (.t 18) (kI 60), some (16, false)⟩, opI 20 (.pick (.t 16) (.c (.p (.bool true))) (.t 19))])
  (.cond (.t 20) (.seq (.reg false [opI 21 (.callf f_law06_lives []), mvI 6 (.t 21)])
  .ret) .skip))
  (.seq (.reg false [opI 23 (.load 5 true (.t 3)), mvI 24 (.t 2), opI 25 (.callf f_r06_At [(.t 23), (.t 24)]), mvI 22 (.t 25), opI 26 (.extract (.t 22) 0), opI 27 (.extract (.t 22) 1), opI 7 (.init 5 true (.t 26) true), mvI 8 (.t 27)])
  (.seq (.seq (.reg false [mvI 28 (.t 8), opI 29 (.not (.t 28)), mvI 30 (.t 29), ⟨some 31, .load 5 true (.t 4), some (30, false)⟩, ⟨some 32, .load 5 true (.t 7), some (30, false)⟩, ⟨some 33, .callf f_r06_Compare [(.t 31), (.t 32)], some (30, false)⟩, ⟨some 34, .arith .geq (.t 33) (kI 0), some (30, false)⟩, opI 35 (.pick (.t 30) (.c (.p (.bool true))) (.t 34))])
  (.cond (.t 35) (.seq (.reg false [opI 36 (.callf f_law06_lives []), mvI 6 (.t 36)])
  .ret) .skip))
  (.seq (.reg false [opI 38 (.load 5 true (.t 3)), mvI 39 (.t 2), opI 40 (.load 5 true (.t 4)), opI 41 (.callf f_term_Put [(.t 38), (.t 39), (.t 40)]), mvI 37 (.t 41), opI 42 (.extract (.t 37) 0), opI 43 (.extract (.t 37) 1), opI 9 (.init 5 true (.t 42) true), mvI 10 (.t 43)])
  (.seq (.reg false [mvI 44 (.t 10), mvI 45 (.t 44), ⟨some 46, .load 5 true (.t 9), some (45, true)⟩, ⟨some 47, .load 5 true (.t 3), some (45, true)⟩, ⟨some 48, .callf f_term_Compare [(.t 46), (.t 47)], some (45, true)⟩, ⟨some 49, .arith .eql (.t 48) (kI (-1)), some (45, true)⟩, opI 50 (.pick (.t 45) (.t 49) (.c (.p (.bool false)))), mvI 51 (.t 50), ⟨some 52, .load 5 true (.t 3), some (51, true)⟩, ⟨some 53, .load 5 true (.t 9), some (51, true)⟩, ⟨some 54, .callf f_term_Compare [(.t 52), (.t 53)], some (51, true)⟩, ⟨some 55, .arith .eql (.t 54) (kI 1), some (51, true)⟩, opI 56 (.pick (.t 51) (.t 55) (.c (.p (.bool false)))), mvI 57 (.t 56), ⟨some 58, .callf f_law06_lives [], some (57, true)⟩, opI 59 (.pick (.t 57) (.t 58) (.c (.p (.bool false)))), mvI 6 (.t 59)])
  .ret)))))), false⟩
def B1_law06_TermCopies : K :=
  (.seq (.seq (.reg false [mvI 30 (.t 7), opI 31 (.fadr 4 (.t 4)), opI 32 (.load 1 false (.t 31)), mvI 33 (.t 6), opI 34 (.iadrS 5 (.t 32) (.t 33)), opI 35 (.fadr 4 (.t 34)), opI 36 (.load 1 false (.t 35)), opI 37 (.lenS (.t 36)), opI 38 (.arith .lss (.t 30) (.t 37))])
  (.cond (.t 38) .skip (.exit 2)))
  (.seq (.block 3 (.reg false [opI 41 (.fadr 4 (.t 4)), opI 42 (.load 1 false (.t 41)), mvI 43 (.t 6), opI 44 (.iadrS 5 (.t 42) (.t 43)), opI 45 (.fadr 4 (.t 44)), opI 46 (.load 1 false (.t 45)), mvI 47 (.t 7), opI 48 (.build [(.p (.int .i64 0)), (.p (.int .i64 0)), (.p (.int .u64 0)), (.p (.str (bs []))), .nils] [(3, 1, (.c (.p (.str (bs [99, 104, 97, 110, 103, 101, 100])))))]), opI 49 (.iadrS 5 (.t 46) (.t 47)), ⟨none, .store 5 (.t 49) (.t 48), none⟩]))
  (.reg false [mvI 39 (.t 7), opI 40 (.arith .add (.t 39) (kI 1)), mvI 7 (.t 40)])))
def L1_law06_TermCopies : K := .loop [1, 3, 4, 5, 6, 7] B1_law06_TermCopies
def B0_law06_TermCopies : K :=
  (.seq (.seq (.reg false [mvI 23 (.t 6), opI 24 (.fadr 4 (.t 4)), opI 25 (.load 1 false (.t 24)), opI 26 (.lenS (.t 25)), opI 27 (.arith .lss (.t 23) (.t 26))])
  (.cond (.t 27) .skip (.exit 0)))
  (.seq (.block 1 (.seq (.seq (.reg false [mvI 7 (kI 0)])
  (.block 2 L1_law06_TermCopies))
  (.reg false [opI 50 (.fadr 4 (.t 4)), opI 51 (.load 1 false (.t 50)), mvI 52 (.t 6), opI 53 (.build [(.p (.int .i64 0)), (.p (.int .i64 0)), (.p (.int .u64 0)), (.p (.str (bs []))), .nils] [(3, 1, (.c (.p (.str (bs [99, 104, 97, 110, 103, 101, 100])))))]), opI 54 (.iadrS 5 (.t 51) (.t 52)), ⟨none, .store 5 (.t 54) (.t 53), none⟩])))
  (.reg false [mvI 28 (.t 6), opI 29 (.arith .add (.t 28) (kI 1)), mvI 6 (.t 29)])))
def L0_law06_TermCopies : K := .loop [1, 3, 4, 5, 6] B0_law06_TermCopies
def F_law06_TermCopies : AFn := ⟨66, [.tmp 2],
  (.seq (.reg false [opI 1 (.box 5 true (.t 0) true), mvI 2 (.c (.p (.bool false)))])
  (.seq (.seq (.reg false [opI 8 (.load 5 true (.t 1)), opI 9 (.bslice 5 [(.p (.int .i64 0)), (.p (.int .i64 0)), (.p (.int .u64 0)), (.p (.str (bs []))), .nils] 1 [(0, 5, (.t 8))]), opI 10 (.callf f_law06_light [(.t 9)]), opI 11 (.not (.t 10))])
  (.cond (.t 11) (.seq (.reg false [opI 12 (.callf f_law06_lives []), mvI 2 (.t 12)])
  .ret) .skip))
  (.seq (.reg false [opI 13 (.load 5 true (.t 1)), opI 14 (.callf f_law06_twin [(.t 13)]), opI 3 (.init 5 true (.t 14) true)])
  (.seq (.regD [opI 15 (.load 5 true (.t 1)), opI 16 (.callf f_term_Copy [(.t 15)]), opI 17 (.load 5 true (.t 1)), opI 18 (.callf f_term_Copy [(.t 17)]), opI 4 (.alloc [(.p (.int .i64 0)), (.p (.int .i64 0)), (.p (.int .u64 0)), (.p (.str (bs []))), .nils] 5), opI 5 (.alloc [(.p (.int .i64 0)), (.p (.int .i64 0)), (.p (.int .u64 0)), (.p (.str (bs []))), .nils] 5), ⟨none, .store 5 (.t 4) (.t 16), none⟩, ⟨none, .store 5 (.t 5) (.t 18), none⟩] [(4, 5)])
  (.seq (.seq (.reg false [opI 19 (.load 5 true (.t 4)), opI 20 (.load 5 true (.t 3)), opI 21 (.callf f_r06_Same [(.t 19), (.t 20)]), opI 22 (.not (.t 21))])
  (.cond (.t 22) (.seq (.reg false [mvI 2 (.c (.p (.bool false)))])
  .ret) .skip))
  (.seq (.seq (.reg false [mvI 6 (kI 0)])
  (.block 0 L0_law06_TermCopies))
  (.seq (.reg false [opI 55 (.load 5 true (.t 5)), opI 56 (.load 5 true (.t 3)), opI 57 (.callf f_r06_Same [(.t 55), (.t 56)]), mvI 58 (.t 57), ⟨some 59, .load 5 true (.t 1), some (58, true)⟩, ⟨some 60, .load 5 true (.t 3), some (58, true)⟩, ⟨some 61, .callf f_r06_Same [(.t 59), (.t 60)], some (58, true)⟩, opI 62 (.pick (.t 58) (.t 61) (.c (.p (.bool false)))), mvI 63 (.t 62), ⟨some 64, .callf f_law06_lives [], some (63, true)⟩, opI 65 (.pick (.t 63) (.t 64) (.c (.p (.bool false)))), mvI 2 (.t 65)])
  .ret))))))), false⟩
def B0_law06_light : K :=
  (.seq (.seq (.reg false [mvI 6 (.t 3), mvI 7 (.t 0), opI 8 (.lenS (.t 7)), opI 9 (.arith .lss (.t 6) (.t 8))])
  (.cond (.t 9) .skip (.exit 0)))
  (.seq (.block 1 (.seq (.reg false [mvI 13 (.t 0), mvI 14 (.t 3), opI 15 (.iadrS 5 (.t 13) (.t 14)), opI 16 (.load 5 true (.t 15)), opI 17 (.callf f_r06_Light [(.t 16), (kI 40), (kI 200)]), mvI 12 (.t 17), opI 18 (.extract (.t 12) 0), opI 19 (.extract (.t 12) 1), opI 4 (.init 5 true (.t 18) true), mvI 5 (.t 19)])
  (.seq (.reg false [mvI 20 (.t 5), opI 21 (.not (.t 20))])
  (.cond (.t 21) (.seq (.reg false [mvI 2 (.c (.p (.bool false)))])
  .ret) .skip))))
  (.reg false [mvI 10 (.t 3), opI 11 (.arith .add (.t 10) (kI 1)), mvI 3 (.t 11)])))
def L0_law06_light : K := .loop [0, 3] B0_law06_light
def F_law06_light : AFn := ⟨22, [.tmp 2],
  (.seq (.reg false [mvI 2 (.c (.p (.bool false)))])
  (.seq (.seq (.reg false [mvI 3 (kI 0)])
  (.block 0 L0_law06_light))
  (.seq (.reg false [mvI 2 (.c (.p (.bool true)))])
  .ret))), false⟩
def F_law06_lives : AFn := ⟨142, [.tmp 0],
  (.seq (.reg false [mvI 0 (.c (.p (.bool false)))])
  (.seq (.reg false [opI 10 (.callf f_term_Var [(.c (.p (.str (bs [120])))), (kI 8)]), opI 1 (.init 5 true (.t 10) true)])
  (.seq (.reg true [opI 11 (.load 5 true (.t 1)), opI 12 (.callf f_term_Const [(kI 8), (.c (.p (.int .u64 257)))]), opI 13 (.blist 5 [(.p (.int .i64 0)), (.p (.int .i64 0)), (.p (.int .u64 0)), (.p (.str (bs []))), .nils] 2 [(0, 5, (.t 11)), (1, 5, (.t 12))]), opI 14 (.callf f_term_Make [(kI 8), (.t 13)]), opI 2 (.alloc [(.p (.int .i64 0)), (.p (.int .i64 0)), (.p (.int .u64 0)), (.p (.str (bs []))), .nils] 5), ⟨none, .store 5 (.t 2) (.t 14), none⟩])
  (.seq (.reg true [opI 15 (.load 5 true (.t 1)), opI 16 (.callf f_term_Const [(kI 4), (.c (.p (.int .u64 1)))]), opI 17 (.blist 5 [(.p (.int .i64 0)), (.p (.int .i64 0)), (.p (.int .u64 0)), (.p (.str (bs []))), .nils] 2 [(0, 5, (.t 15)), (1, 5, (.t 16))]), opI 18 (.callf f_term_Make [(kI 8), (.t 17)]), opI 3 (.alloc [(.p (.int .i64 0)), (.p (.int .i64 0)), (.p (.int .u64 0)), (.p (.str (bs []))), .nils] 5), ⟨none, .store 5 (.t 3) (.t 18), none⟩])
  (.seq (.reg false [opI 20 (.load 5 true (.t 2)), opI 21 (.bslice 1 [(.p (.int .i64 0))] 1 [(0, 1, (kI 1))]), opI 22 (.callf f_term_At [(.t 20), (.t 21)]), mvI 19 (.t 22), opI 23 (.extract (.t 19) 0), opI 24 (.extract (.t 19) 1), opI 4 (.init 5 true (.t 23) true), mvI 5 (.t 24)])
  (.seq (.reg false [opI 26 (.load 5 true (.t 2)), opI 27 (.bslice 1 [(.p (.int .i64 0))] 1 [(0, 1, (kI 2))]), opI 28 (.callf f_term_At [(.t 26), (.t 27)]), mvI 25 (.t 28), opI 29 (.extract (.t 25) 0), opI 30 (.extract (.t 25) 1), opI 6 (.init 5 true (.t 29) true), mvI 7 (.t 30)])
  (.seq (.reg false [opI 32 (.load 5 true (.t 2)), opI 33 (.bslice 1 [(.p (.int .i64 0))] 1 [(0, 1, (kI 0))]), opI 34 (.load 5 true (.t 4)), opI 35 (.callf f_term_Put [(.t 32), (.t 33), (.t 34)]), mvI 31 (.t 35), opI 36 (.extract (.t 31) 0), opI 37 (.extract (.t 31) 1), opI 8 (.init 5 true (.t 36) true), mvI 9 (.t 37)])
  (.seq (.seq (.reg false [opI 38 (.fadr 1 (.t 2)), opI 39 (.load 1 false (.t 38)), opI 40 (.arith .neq (.t 39) (kI 8)), mvI 41 (.t 40), ⟨some 42, .load 5 true (.t 2), some (41, false)⟩, ⟨some 43, .callf f_term_Size [(.t 42)], some (41, false)⟩, ⟨some 44, .arith .neq (.t 43) (kI 3), some (41, false)⟩, opI 45 (.pick (.t 41) (.c (.p (.bool true))) (.t 44)), mvI 46 (.t 45), ⟨some 47, .load 5 true (.t 2), some (46, false)⟩, ⟨some 48, .callf f_term_Depth [(.t 47)], some (46, false)⟩, ⟨some 49, .arith .neq (.t 48) (kI 2), some (46, false)⟩, opI 50 (.pick (.t 46) (.c (.p (.bool true))) (.t 49)), mvI 51 (.t 50), ⟨some 52, .load 5 true (.t 2), some (51, false)⟩, ⟨some 53, .callf f_term_Check [(.t 52)], some (51, false)⟩, ⟨some 54, .arith .neq (.t 53) (kI 0), some (51, false)⟩, opI 55 (.pick (.t 51) (.c (.p (.bool true))) (.t 54)), mvI 56 (.t 55), ⟨some 57, .load 5 true (.t 3), some (56, false)⟩, ⟨some 58, .callf f_term_Check [(.t 57)], some (56, false)⟩, ⟨some 59, .arith .neq (.t 58) (kI 3), some (56, false)⟩, opI 60 (.pick (.t 56) (.c (.p (.bool true))) (.t 59)), mvI 61 (.t 60), ⟨some 62, .fadr 1 (.t 3), some (61, false)⟩, ⟨some 63, .load 1 false (.t 62), some (61, false)⟩, ⟨some 64, .arith .neq (.t 63) (kI 0), some (61, false)⟩, opI 65 (.pick (.t 61) (.c (.p (.bool true))) (.t 64)), mvI 66 (.t 65), ⟨some 67, .build [(.p (.int .i64 0)), (.p (.int .i64 0)), (.p (.int .u64 0)), (.p (.str (bs []))), .nils] [], some (66, false)⟩, ⟨some 68, .callf f_term_Check [(.t 67)], some (66, false)⟩, ⟨some 69, .arith .neq (.t 68) (kI 4), some (66, false)⟩, opI 70 (.pick (.t 66) (.c (.p (.bool true))) (.t 69))])
  (.cond (.t 70) (.seq (.reg false [mvI 0 (.c (.p (.bool false)))])
  .ret) .skip))
  (.seq (.reg false [mvI 71 (.t 5), mvI 72 (.t 71), ⟨some 73, .fadr 2 (.t 4), some (72, true)⟩, ⟨some 74, .load 1 false (.t 73), some (72, true)⟩, ⟨some 75, .arith .eql (.t 74) (.c (.p (.int .u64 1))), some (72, true)⟩, opI 76 (.pick (.t 72) (.t 75) (.c (.p (.bool false)))), mvI 77 (.t 76), ⟨some 78, .fadr 0 (.t 4), some (77, true)⟩, ⟨some 79, .load 1 false (.t 78), some (77, true)⟩, ⟨some 80, .arith .eql (.t 79) (kI 2), some (77, true)⟩, opI 81 (.pick (.t 77) (.t 80) (.c (.p (.bool false)))), mvI 82 (.t 81), ⟨some 83, .mv (.t 7) false, some (82, true)⟩, ⟨some 84, .not (.t 83), some (82, true)⟩, opI 85 (.pick (.t 82) (.t 84) (.c (.p (.bool false)))), mvI 86 (.t 85), ⟨some 87, .mv (.t 9) false, some (86, true)⟩, opI 88 (.pick (.t 86) (.t 87) (.c (.p (.bool false)))), mvI 89 (.t 88), ⟨some 90, .fadr 4 (.t 8), some (89, true)⟩, ⟨some 91, .load 1 false (.t 90), some (89, true)⟩, ⟨some 92, .lenS (.t 91), some (89, true)⟩, ⟨some 93, .arith .eql (.t 92) (kI 2), some (89, true)⟩, opI 94 (.pick (.t 89) (.t 93) (.c (.p (.bool false)))), mvI 95 (.t 94), ⟨some 96, .fadr 4 (.t 8), some (95, true)⟩, ⟨some 97, .load 1 false (.t 96), some (95, true)⟩, ⟨some 98, .iadrS 5 (.t 97) (kI 0), some (95, true)⟩, ⟨some 99, .fadr 2 (.t 98), some (95, true)⟩, ⟨some 100, .load 1 false (.t 99), some (95, true)⟩, ⟨some 101, .arith .eql (.t 100) (.c (.p (.int .u64 1))), some (95, true)⟩, opI 102 (.pick (.t 95) (.t 101) (.c (.p (.bool false)))), mvI 103 (.t 102), ⟨some 104, .load 5 true (.t 1), some (103, true)⟩, ⟨some 105, .load 5 true (.t 2), some (103, true)⟩, ⟨some 106, .callf f_term_Compare [(.t 104), (.t 105)], some (103, true)⟩, ⟨some 107, .arith .eql (.t 106) (kI (-1)), some (103, true)⟩, opI 108 (.pick (.t 103) (.t 107) (.c (.p (.bool false)))), mvI 109 (.t 108), ⟨some 110, .load 5 true (.t 2), some (109, true)⟩, ⟨some 111, .load 5 true (.t 2), some (109, true)⟩, ⟨some 112, .callf f_term_Compare [(.t 110), (.t 111)], some (109, true)⟩, ⟨some 113, .arith .eql (.t 112) (kI 0), some (109, true)⟩, opI 114 (.pick (.t 109) (.t 113) (.c (.p (.bool false)))), mvI 115 (.t 114), ⟨some 116, .load 5 true (.t 2), some (115, true)⟩, ⟨some 117, .callf f_term_Subterms [(.t 116)], some (115, true)⟩, ⟨some 118, .lenS (.t 117), some (115, true)⟩, ⟨some 119, .arith .eql (.t 118) (kI 3), some (115, true)⟩, opI 120 (.pick (.t 115) (.t 119) (.c (.p (.bool false)))), mvI 121 (.t 120), ⟨some 122, .load 5 true (.t 2), some (121, true)⟩, ⟨some 123, .callf f_term_Vars [(.t 122)], some (121, true)⟩, ⟨some 124, .lenS (.t 123), some (121, true)⟩, ⟨some 125, .arith .eql (.t 124) (kI 1), some (121, true)⟩, opI 126 (.pick (.t 121) (.t 125) (.c (.p (.bool false)))), mvI 127 (.t 126), ⟨some 128, .load 5 true (.t 2), some (127, true)⟩, ⟨some 129, .callf f_term_Vars [(.t 128)], some (127, true)⟩, ⟨some 130, .iadrS 2 (.t 129) (kI 0), some (127, true)⟩, ⟨some 131, .load 2 true (.t 130), some (127, true)⟩, ⟨some 132, .build [(.p (.str (bs []))), (.p (.int .i64 0))] [(0, 1, (.c (.p (.str (bs [120]))))), (1, 1, (kI 8))], some (127, true)⟩, ⟨some 133, .eqA false [.str, .int] (.t 131) (.t 132), some (127, true)⟩, opI 134 (.pick (.t 127) (.t 133) (.c (.p (.bool false)))), mvI 135 (.t 134), ⟨some 136, .callf f_term_Name [(.c (.p (.str (bs [97, 95, 49]))))], some (135, true)⟩, opI 137 (.pick (.t 135) (.t 136) (.c (.p (.bool false)))), mvI 138 (.t 137), ⟨some 139, .callf f_term_Name [(.c (.p (.str (bs [49, 97]))))], some (138, true)⟩, ⟨some 140, .not (.t 139), some (138, true)⟩, opI 141 (.pick (.t 138) (.t 140) (.c (.p (.bool false)))), mvI 0 (.t 141)])
  .ret))))))))), false⟩
def A0_term_Check : K :=
  (.reg false [opI 7 (.init 5 true (.t 21) true)])
def B0_term_Check : K :=
  (.block 1 (.seq (.seq (.reg false [opI 22 (.load 5 true (.t 7)), opI 23 (.callf f_term_node [(.t 22)]), mvI 8 (.t 23)])
  (.seq (.reg false [mvI 24 (.t 8), opI 25 (.arith .neq (.t 24) (kI 0))])
  (.cond (.t 25) (.seq (.reg false [mvI 26 (.t 8), ⟨none, .store 1 (.t 2) (.t 26), none⟩])
  .ret) .skip)))
  (.seq (.reg false [opI 27 (.fadr 0 (.t 7)), opI 28 (.load 1 false (.t 27)), opI 29 (.arith .eql (.t 28) (kI 1))])
  (.cond (.t 29) (.seq (.reg false [opI 31 (.load 1 false (.t 5)), opI 32 (.fadr 3 (.t 7)), opI 33 (.load 1 false (.t 32)), opI 34 (.lookup .str (.p (.int .i64 0)) (.t 31) (.t 33) true), mvI 30 (.t 34), opI 35 (.extract (.t 30) 0), opI 36 (.extract (.t 30) 1), mvI 9 (.t 35), mvI 10 (.t 36)])
  (.seq (.reg false [opI 37 (.load 1 false (.t 6)), mvI 38 (.t 37), ⟨some 39, .mv (.t 10) false, some (38, false)⟩, ⟨some 40, .mv (.t 39) false, some (38, false)⟩, ⟨some 41, .mv (.t 9) false, some (40, true)⟩, ⟨some 42, .fadr 1 (.t 7), some (40, true)⟩, ⟨some 43, .load 1 false (.t 42), some (40, true)⟩, ⟨some 44, .arith .neq (.t 41) (.t 43), some (40, true)⟩, ⟨some 45, .pick (.t 40) (.t 44) (.c (.p (.bool false))), some (38, false)⟩, opI 46 (.pick (.t 38) (.c (.p (.bool true))) (.t 45)), ⟨none, .store 1 (.t 6) (.t 46), none⟩])
  (.reg false [opI 47 (.load 1 false (.t 5)), opI 48 (.fadr 3 (.t 7)), opI 49 (.load 1 false (.t 48)), opI 50 (.fadr 1 (.t 7)), opI 51 (.load 1 false (.t 50)), ⟨none, .mupd .str (.t 47) (.t 49) (.t 51), none⟩]))) .skip))))
def R0_term_Check : K := .range (.t 20) [21] [2, 5, 6] A0_term_Check B0_term_Check
def F_term_Check : AFn := ⟨53, [.cell 2 1 false],
  (.seq (.reg false [opI 1 (.box 5 true (.t 0) true), opI 2 (.alloc [(.p (.int .i64 0))] 1)])
  (.seq (.seq (.reg false [opI 12 (.load 5 true (.t 1)), opI 13 (.callf f_term_measure [(.t 12), (kI 4096), (kI 64)]), mvI 11 (.t 13), opI 14 (.extract (.t 11) 0), opI 15 (.extract (.t 11) 1), mvI 3 (.t 14), mvI 4 (.t 15)])
  (.seq (.reg false [mvI 16 (.t 4), opI 17 (.not (.t 16))])
  (.cond (.t 17) (.seq (.reg false [⟨none, .store 1 (.t 2) (kI 7), none⟩])
  .ret) .skip)))
  (.seq (.reg false [opI 18 (.mkmap), opI 5 (.init 1 false (.t 18) true)])
  (.seq (.reg false [opI 6 (.init 1 false (.c (.p (.bool false))) false)])
  (.seq (.seq (.reg false [opI 19 (.load 5 true (.t 1)), opI 20 (.callf f_term_All [(.t 19)])])
  (.block 0 R0_term_Check))
  (.seq (.seq (.reg false [opI 52 (.load 1 false (.t 6))])
  (.cond (.t 52) (.seq (.reg false [⟨none, .store 1 (.t 2) (kI 12), none⟩])
  .ret) .skip))
  (.seq (.reg false [⟨none, .store 1 (.t 2) (kI 0), none⟩])
  .ret))))))), false⟩
def B1_r06_Check : K :=
  (.seq (.seq (.reg false [mvI 23 (.t 6), mvI 24 (.t 5), opI 25 (.arith .lss (.t 23) (.t 24))])
  (.cond (.t 25) .skip (.exit 2)))
  (.seq (.block 3 (.seq (.reg true [mvI 28 (.t 4), mvI 29 (.t 5), opI 30 (.iadrS 5 (.t 28) (.t 29)), opI 31 (.fadr 0 (.t 30)), opI 32 (.load 1 false (.t 31)), opI 33 (.arith .eql (.t 32) (kI 1)), mvI 34 (.t 33), ⟨some 35, .mv (.t 4) false, some (34, true)⟩, ⟨some 36, .mv (.t 6) false, some (34, true)⟩, ⟨some 37, .iadrS 5 (.t 35) (.t 36), some (34, true)⟩, ⟨some 38, .fadr 0 (.t 37), some (34, true)⟩, ⟨some 39, .load 1 false (.t 38), some (34, true)⟩, ⟨some 40, .arith .eql (.t 39) (kI 1), some (34, true)⟩, opI 41 (.pick (.t 34) (.t 40) (.c (.p (.bool false)))), mvI 42 (.t 41), ⟨some 43, .mv (.t 4) false, some (42, true)⟩, ⟨some 44, .mv (.t 5) false, some (42, true)⟩, ⟨some 45, .iadrS 5 (.t 43) (.t 44), some (42, true)⟩, ⟨some 46, .fadr 3 (.t 45), some (42, true)⟩, ⟨some 47, .load 1 false (.t 46), some (42, true)⟩, ⟨some 48, .mv (.t 4) false, some (42, true)⟩, ⟨some 49, .mv (.t 6) false, some (42, true)⟩, ⟨some 50, .iadrS 5 (.t 48) (.t 49), some (42, true)⟩, ⟨some 51, .fadr 3 (.t 50), some (42, true)⟩, ⟨some 52, .load 1 false (.t 51), some (42, true)⟩, ⟨some 53, .arith .eql (.t 47) (.t 52), some (42, true)⟩, opI 54 (.pick (.t 42) (.t 53) (.c (.p (.bool false)))), mvI 55 (.t 54), ⟨some 56, .mv (.t 4) false, some (55, true)⟩, ⟨some 57, .mv (.t 5) false, some (55, true)⟩, ⟨some 58, .iadrS 5 (.t 56) (.t 57), some (55, true)⟩, ⟨some 59, .fadr 1 (.t 58), some (55, true)⟩, ⟨some 60, .load 1 false (.t 59), some (55, true)⟩, ⟨some 61, .mv (.t 4) false, some (55, true)⟩, ⟨some 62, .mv (.t 6) false, some (55, true)⟩, ⟨some 63, .iadrS 5 (.t 61) (.t 62), some (55, true)⟩, ⟨some 64, .fadr 1 (.t 63), some (55, true)⟩, ⟨some 65, .load 1 false (.t 64), some (55, true)⟩, ⟨some 66, .arith .neq (.t 60) (.t 65), some (55, true)⟩, opI 67 (.pick (.t 55) (.t 66) (.c (.p (.bool false))))])
  (.cond (.t 67) (.seq (.reg false [mvI 2 (kI 12)])
  .ret) .skip)))
  (.reg false [mvI 26 (.t 6), opI 27 (.arith .add (.t 26) (kI 1)), mvI 6 (.t 27)])))
def L1_r06_Check : K := .loop [4, 5, 6] B1_r06_Check
def B0_r06_Check : K :=
  (.seq (.seq (.reg false [mvI 17 (.t 5), mvI 18 (.t 4), opI 19 (.lenS (.t 18)), opI 20 (.arith .lss (.t 17) (.t 19))])
  (.cond (.t 20) .skip (.exit 0)))
  (.seq (.block 1 (.seq (.reg false [mvI 6 (kI 0)])
  (.block 2 L1_r06_Check)))
  (.reg false [mvI 21 (.t 5), opI 22 (.arith .add (.t 21) (kI 1)), mvI 5 (.t 22)])))
def L0_r06_Check : K := .loop [4, 5] B0_r06_Check
def F_r06_Check : AFn := ⟨68, [.tmp 2],
  (.seq (.reg false [opI 1 (.box 5 true (.t 0) true), mvI 2 (kI 0)])
  (.seq (.seq (.reg false [opI 7 (.load 5 true (.t 1)), opI 8 (.callf f_r06_count [(.t 7), (kI 64), (kI 4096)]), opI 9 (.arith .lss (.t 8) (kI 0))])
  (.cond (.t 9) (.seq (.reg false [mvI 2 (kI 7)])
  .ret) .skip))
  (.seq (.reg false [opI 10 (.load 5 true (.t 1)), opI 11 (.callf f_r06_nodes [(.t 10)]), mvI 3 (.t 11)])
  (.seq (.seq (.reg false [mvI 12 (.t 3), opI 13 (.arith .neq (.t 12) (kI 0))])
  (.cond (.t 13) (.seq (.reg false [mvI 14 (.t 3), mvI 2 (.t 14)])
  .ret) .skip))
  (.seq (.reg false [opI 15 (.load 5 true (.t 1)), opI 16 (.callf f_r06_Post [(.t 15)]), mvI 4 (.t 16)])
  (.seq (.seq (.reg false [mvI 5 (kI 0)])
  (.block 0 L0_r06_Check))
  (.seq (.reg false [mvI 2 (kI 0)])
  .ret))))))), false⟩
def B0_term_Name : K :=
  (.seq (.reg false [opI 26 (.arith .lss (.t 25) (.t 24))])
  (.seq (.cond (.t 26) .skip (.exit 0))
  (.seq (.block 1 (.seq (.reg false [mvI 27 (.t 25), mvI 3 (.t 27)])
  (.seq (.reg false [mvI 28 (.t 0), mvI 29 (.t 3), opI 30 (.idxS (.t 28) (.t 29)), mvI 4 (.t 30)])
  (.seq (.reg false [mvI 31 (.t 4), opI 32 (.arith .lss (.t 31) (.c (.p (.int .u8 97)))), mvI 33 (.t 32), ⟨some 34, .mv (.t 4) false, some (33, false)⟩, ⟨some 35, .arith .gtr (.t 34) (.c (.p (.int .u8 122))), some (33, false)⟩, opI 36 (.pick (.t 33) (.c (.p (.bool true))) (.t 35)), mvI 37 (.t 36), ⟨some 38, .mv (.t 4) false, some (37, true)⟩, ⟨some 39, .arith .lss (.t 38) (.c (.p (.int .u8 48))), some (37, true)⟩, ⟨some 40, .mv (.t 39) false, some (37, true)⟩, ⟨some 41, .mv (.t 4) false, some (40, false)⟩, ⟨some 42, .arith .gtr (.t 41) (.c (.p (.int .u8 57))), some (40, false)⟩, ⟨some 43, .pick (.t 40) (.c (.p (.bool true))) (.t 42), some (37, true)⟩, opI 44 (.pick (.t 37) (.t 43) (.c (.p (.bool false)))), mvI 45 (.t 44), ⟨some 46, .mv (.t 4) false, some (45, true)⟩, ⟨some 47, .arith .neq (.t 46) (.c (.p (.int .u8 95))), some (45, true)⟩, opI 48 (.pick (.t 45) (.t 47) (.c (.p (.bool false))))])
  (.cond (.t 48) (.seq (.reg false [mvI 2 (.c (.p (.bool false)))])
  .ret) .skip)))))
  (.reg false [opI 49 (.arith .add (.t 25) (kI 1)), mvI 25 (.t 49)]))))
def L0_term_Name : K := .loop [0, 24, 25] B0_term_Name
def F_term_Name : AFn := ⟨50, [.tmp 2],
  (.seq (.reg false [mvI 2 (.c (.p (.bool false)))])
  (.seq (.seq (.reg false [mvI 5 (.t 0), opI 6 (.lenT (.t 5)), opI 7 (.arith .lss (.t 6) (kI 1)), mvI 8 (.t 7), ⟨some 9, .mv (.t 0) false, some (8, false)⟩, ⟨some 10, .lenT (.t 9), some (8, false)⟩, ⟨some 11, .arith .gtr (.t 10) (kI 16), some (8, false)⟩, opI 12 (.pick (.t 8) (.c (.p (.bool true))) (.t 11)), mvI 13 (.t 12), ⟨some 14, .mv (.t 0) false, some (13, false)⟩, ⟨some 15, .idxS (.t 14) (kI 0), some (13, false)⟩, ⟨some 16, .arith .lss (.t 15) (.c (.p (.int .u8 97))), some (13, false)⟩, opI 17 (.pick (.t 13) (.c (.p (.bool true))) (.t 16)), mvI 18 (.t 17), ⟨some 19, .mv (.t 0) false, some (18, false)⟩, ⟨some 20, .idxS (.t 19) (kI 0), some (18, false)⟩, ⟨some 21, .arith .gtr (.t 20) (.c (.p (.int .u8 122))), some (18, false)⟩, opI 22 (.pick (.t 18) (.c (.p (.bool true))) (.t 21))])
  (.cond (.t 22) (.seq (.reg false [mvI 2 (.c (.p (.bool false)))])
  .ret) .skip))
  (.seq (.seq (.reg false [mvI 23 (.t 0), opI 24 (.lenT (.t 23)), mvI 25 (kI 0)])
  (.block 0 L0_term_Name))
  (.seq (.reg false [mvI 2 (.c (.p (.bool true)))])
  .ret)))), false⟩
def B0_r06_Name : K :=
  (.seq (.seq (.reg false [mvI 22 (.t 3), mvI 23 (.t 0), opI 24 (.lenT (.t 23)), opI 25 (.arith .lss (.t 22) (.t 24))])
  (.cond (.t 25) .skip (.exit 0)))
  (.seq (.block 1 (.seq (.reg false [mvI 28 (.t 0), mvI 29 (.t 3), opI 30 (.idxS (.t 28) (.t 29)), opI 31 (.arith .lss (.t 30) (.c (.p (.int .u8 97)))), mvI 32 (.t 31), ⟨some 33, .mv (.t 0) false, some (32, false)⟩, ⟨some 34, .mv (.t 3) false, some (32, false)⟩, ⟨some 35, .idxS (.t 33) (.t 34), some (32, false)⟩, ⟨some 36, .arith .gtr (.t 35) (.c (.p (.int .u8 122))), some (32, false)⟩, opI 37 (.pick (.t 32) (.c (.p (.bool true))) (.t 36)), mvI 38 (.t 37), ⟨some 39, .mv (.t 0) false, some (38, true)⟩, ⟨some 40, .mv (.t 3) false, some (38, true)⟩, ⟨some 41, .idxS (.t 39) (.t 40), some (38, true)⟩, ⟨some 42, .arith .lss (.t 41) (.c (.p (.int .u8 48))), some (38, true)⟩, ⟨some 43, .mv (.t 42) false, some (38, true)⟩, ⟨some 44, .mv (.t 0) false, some (43, false)⟩, ⟨some 45, .mv (.t 3) false, some (43, false)⟩, ⟨some 46, .idxS (.t 44) (.t 45), some (43, false)⟩, ⟨some 47, .arith .gtr (.t 46) (.c (.p (.int .u8 57))), some (43, false)⟩, ⟨some 48, .pick (.t 43) (.c (.p (.bool true))) (.t 47), some (38, true)⟩, opI 49 (.pick (.t 38) (.t 48) (.c (.p (.bool false)))), mvI 50 (.t 49), ⟨some 51, .mv (.t 0) false, some (50, true)⟩, ⟨some 52, .mv (.t 3) false, some (50, true)⟩, ⟨some 53, .idxS (.t 51) (.t 52), some (50, true)⟩, ⟨some 54, .arith .neq (.t 53) (.c (.p (.int .u8 95))), some (50, true)⟩, opI 55 (.pick (.t 50) (.t 54) (.c (.p (.bool false))))])
  (.cond (.t 55) (.seq (.reg false [mvI 2 (.c (.p (.bool false)))])
  .ret) .skip)))
  (.reg false [mvI 26 (.t 3), opI 27 (.arith .add (.t 26) (kI 1)), mvI 3 (.t 27)])))
def L0_r06_Name : K := .loop [0, 3] B0_r06_Name
def F_r06_Name : AFn := ⟨56, [.tmp 2],
  (.seq (.reg false [mvI 2 (.c (.p (.bool false)))])
  (.seq (.seq (.reg false [mvI 4 (.t 0), opI 5 (.lenT (.t 4)), opI 6 (.arith .lss (.t 5) (kI 1)), mvI 7 (.t 6), ⟨some 8, .mv (.t 0) false, some (7, false)⟩, ⟨some 9, .lenT (.t 8), some (7, false)⟩, ⟨some 10, .arith .gtr (.t 9) (kI 16), some (7, false)⟩, opI 11 (.pick (.t 7) (.c (.p (.bool true))) (.t 10)), mvI 12 (.t 11), ⟨some 13, .mv (.t 0) false, some (12, false)⟩, ⟨some 14, .idxS (.t 13) (kI 0), some (12, false)⟩, ⟨some 15, .arith .lss (.t 14) (.c (.p (.int .u8 97))), some (12, false)⟩, opI 16 (.pick (.t 12) (.c (.p (.bool true))) (.t 15)), mvI 17 (.t 16), ⟨some 18, .mv (.t 0) false, some (17, false)⟩, ⟨some 19, .idxS (.t 18) (kI 0), some (17, false)⟩, ⟨some 20, .arith .gtr (.t 19) (.c (.p (.int .u8 122))), some (17, false)⟩, opI 21 (.pick (.t 17) (.c (.p (.bool true))) (.t 20))])
  (.cond (.t 21) (.seq (.reg false [mvI 2 (.c (.p (.bool false)))])
  .ret) .skip))
  (.seq (.seq (.reg false [mvI 3 (kI 0)])
  (.block 0 L0_r06_Name))
  (.seq (.reg false [mvI 2 (.c (.p (.bool true)))])
  .ret)))), false⟩
def B0_term_Size : K :=
  (.seq (.reg false [opI 10 (.arith .lss (.t 9) (.t 8))])
  (.seq (.cond (.t 10) .skip (.exit 0))
  (.seq (.block 1 (.seq (.reg false [opI 11 (.iadrS 5 (.t 7) (.t 9)), opI 12 (.load 5 true (.t 11)), opI 5 (.init 5 true (.t 12) true)])
  (.reg false [mvI 13 (.t 3), opI 14 (.load 5 true (.t 5)), opI 15 (.callf f_term_Size [(.t 14)]), opI 16 (.arith .add (.t 13) (.t 15)), mvI 3 (.t 16)])))
  (.reg false [opI 17 (.arith .add (.t 9) (kI 1)), mvI 9 (.t 17)]))))
def L0_term_Size : K := .loop [3, 7, 8, 9] B0_term_Size
def F_term_Size : AFn := ⟨19, [.tmp 2],
  (.seq (.reg false [opI 1 (.box 5 true (.t 0) true), mvI 2 (kI 0)])
  (.seq (.reg false [mvI 3 (kI 1)])
  (.seq (.seq (.reg false [opI 6 (.fadr 4 (.t 1)), opI 7 (.load 1 false (.t 6)), opI 8 (.lenS (.t 7)), mvI 9 (kI 0)])
  (.block 0 L0_term_Size))
  (.seq (.reg false [mvI 18 (.t 3), mvI 2 (.t 18)])
  .ret)))), false⟩
def B0_r06_Size : K :=
  (.seq (.seq (.reg false [mvI 5 (.t 4), opI 6 (.fadr 4 (.t 1)), opI 7 (.load 1 false (.t 6)), opI 8 (.lenS (.t 7)), opI 9 (.arith .lss (.t 5) (.t 8))])
  (.cond (.t 9) .skip (.exit 0)))
  (.seq (.block 1 (.reg false [mvI 12 (.t 3), opI 13 (.fadr 4 (.t 1)), opI 14 (.load 1 false (.t 13)), mvI 15 (.t 4), opI 16 (.iadrS 5 (.t 14) (.t 15)), opI 17 (.load 5 true (.t 16)), opI 18 (.callf f_r06_Size [(.t 17)]), opI 19 (.arith .add (.t 12) (.t 18)), mvI 3 (.t 19)]))
  (.reg false [mvI 10 (.t 4), opI 11 (.arith .add (.t 10) (kI 1)), mvI 4 (.t 11)])))
def L0_r06_Size : K := .loop [1, 3, 4] B0_r06_Size
def F_r06_Size : AFn := ⟨21, [.tmp 2],
  (.seq (.reg false [opI 1 (.box 5 true (.t 0) true), mvI 2 (kI 0)])
  (.seq (.reg false [mvI 3 (kI 1)])
  (.seq (.seq (.reg false [mvI 4 (kI 0)])
  (.block 0 L0_r06_Size))
  (.seq (.reg false [mvI 20 (.t 3), mvI 2 (.t 20)])
  .ret)))), false⟩
def B0_term_Depth : K :=
  (.seq (.reg false [opI 10 (.arith .lss (.t 9) (.t 8))])
  (.seq (.cond (.t 10) .skip (.exit 0))
  (.seq (.block 1 (.seq (.reg false [opI 11 (.iadrS 5 (.t 7) (.t 9)), opI 12 (.load 5 true (.t 11)), opI 5 (.init 5 true (.t 12) true)])
  (.reg false [mvI 13 (.t 3), opI 14 (.load 5 true (.t 5)), opI 15 (.callf f_term_Depth [(.t 14)]), opI 16 (.minmax true [(.t 13), (.t 15)]), mvI 3 (.t 16)])))
  (.reg false [opI 17 (.arith .add (.t 9) (kI 1)), mvI 9 (.t 17)]))))
def L0_term_Depth : K := .loop [3, 7, 8, 9] B0_term_Depth
def F_term_Depth : AFn := ⟨20, [.tmp 2],
  (.seq (.reg false [opI 1 (.box 5 true (.t 0) true), mvI 2 (kI 0)])
  (.seq (.reg false [mvI 3 (kI 0)])
  (.seq (.seq (.reg false [opI 6 (.fadr 4 (.t 1)), opI 7 (.load 1 false (.t 6)), opI 8 (.lenS (.t 7)), mvI 9 (kI 0)])
  (.block 0 L0_term_Depth))
  (.seq (.reg false [mvI 18 (.t 3), opI 19 (.arith .add (.t 18) (kI 1)), mvI 2 (.t 19)])
  .ret)))), false⟩
def B0_r06_Depth : K :=
  (.seq (.seq (.reg false [mvI 5 (.t 4), opI 6 (.fadr 4 (.t 1)), opI 7 (.load 1 false (.t 6)), opI 8 (.lenS (.t 7)), opI 9 (.arith .lss (.t 5) (.t 8))])
  (.cond (.t 9) .skip (.exit 0)))
  (.seq (.block 1 (.reg false [mvI 12 (.t 3), opI 13 (.fadr 4 (.t 1)), opI 14 (.load 1 false (.t 13)), mvI 15 (.t 4), opI 16 (.iadrS 5 (.t 14) (.t 15)), opI 17 (.load 5 true (.t 16)), opI 18 (.callf f_r06_Depth [(.t 17)]), opI 19 (.minmax true [(.t 12), (.t 18)]), mvI 3 (.t 19)]))
  (.reg false [mvI 10 (.t 4), opI 11 (.arith .add (.t 10) (kI 1)), mvI 4 (.t 11)])))
def L0_r06_Depth : K := .loop [1, 3, 4] B0_r06_Depth
def F_r06_Depth : AFn := ⟨22, [.tmp 2],
  (.seq (.reg false [opI 1 (.box 5 true (.t 0) true), mvI 2 (kI 0)])
  (.seq (.reg false [mvI 3 (kI 0)])
  (.seq (.seq (.reg false [mvI 4 (kI 0)])
  (.block 0 L0_r06_Depth))
  (.seq (.reg false [mvI 20 (.t 3), opI 21 (.arith .add (.t 20) (kI 1)), mvI 2 (.t 21)])
  .ret)))), false⟩
def B0_r06_SameVars : K :=
  (.seq (.seq (.reg false [mvI 11 (.t 5), mvI 12 (.t 0), opI 13 (.lenS (.t 12)), opI 14 (.arith .lss (.t 11) (.t 13))])
  (.cond (.t 14) .skip (.exit 0)))
  (.seq (.block 1 (.seq (.reg true [mvI 17 (.t 0), mvI 18 (.t 5), opI 19 (.iadrS 2 (.t 17) (.t 18)), opI 20 (.load 2 true (.t 19)), mvI 21 (.t 1), mvI 22 (.t 5), opI 23 (.iadrS 2 (.t 21) (.t 22)), opI 24 (.load 2 true (.t 23)), opI 25 (.eqA true [.str, .int] (.t 20) (.t 24))])
  (.cond (.t 25) (.seq (.reg false [mvI 4 (.c (.p (.bool false)))])
  .ret) .skip)))
  (.reg false [mvI 15 (.t 5), opI 16 (.arith .add (.t 15) (kI 1)), mvI 5 (.t 16)])))
def L0_r06_SameVars : K := .loop [0, 1, 5] B0_r06_SameVars
def F_r06_SameVars : AFn := ⟨26, [.tmp 4],
  (.seq (.reg false [mvI 4 (.c (.p (.bool false)))])
  (.seq (.seq (.reg false [mvI 6 (.t 0), opI 7 (.lenS (.t 6)), mvI 8 (.t 1), opI 9 (.lenS (.t 8)), opI 10 (.arith .neq (.t 7) (.t 9))])
  (.cond (.t 10) (.seq (.reg false [mvI 4 (.c (.p (.bool false)))])
  .ret) .skip))
  (.seq (.seq (.reg false [mvI 5 (kI 0)])
  (.block 0 L0_r06_SameVars))
  (.seq (.reg false [mvI 4 (.c (.p (.bool true)))])
  .ret)))), false⟩
def F_term_Vars : AFn := ⟨10, [.tmp 2],
  (.seq (.reg false [opI 1 (.box 5 true (.t 0) true), mvI 2 (.c .nils)])
  (.seq (.reg false [opI 3 (.alloc [.nils] 1)])
  (.seq (.reg false [opI 4 (.load 5 true (.t 1)), opI 5 (.mkfn f_term_Vars_1 [(.t 3)]), opI 6 (.callf f_term_preorder [(.t 4), (.t 5)])])
  (.seq (.reg false [opI 7 (.load 1 false (.t 3)), opI 8 (.callf f_slices_SortFunc_api_Var_api_Var [(.t 7), (.c (.p (.fn f_term_Vars_2 [])))])])
  (.seq (.reg false [opI 9 (.load 1 false (.t 3)), mvI 2 (.t 9)])
  .ret))))), false⟩
def B1_r06_Vars : K :=
  (.seq (.seq (.reg true [mvI 22 (.t 6), mvI 23 (.t 3), opI 24 (.lenS (.t 23)), opI 25 (.arith .lss (.t 22) (.t 24)), mvI 26 (.t 25), ⟨some 27, .mv (.t 3) false, some (26, true)⟩, ⟨some 28, .mv (.t 6) false, some (26, true)⟩, ⟨some 29, .iadrS 2 (.t 27) (.t 28), some (26, true)⟩, ⟨some 30, .fadr 0 (.t 29), some (26, true)⟩, ⟨some 31, .load 1 false (.t 30), some (26, true)⟩, ⟨some 32, .mv (.t 4) false, some (26, true)⟩, ⟨some 33, .mv (.t 5) false, some (26, true)⟩, ⟨some 34, .iadrS 5 (.t 32) (.t 33), some (26, true)⟩, ⟨some 35, .fadr 3 (.t 34), some (26, true)⟩, ⟨some 36, .load 1 false (.t 35), some (26, true)⟩, ⟨some 37, .arith .lss (.t 31) (.t 36), some (26, true)⟩, opI 38 (.pick (.t 26) (.t 37) (.c (.p (.bool false))))])
  (.cond (.t 38) .skip (.exit 2)))
  (.block 3 (.reg false [mvI 39 (.t 6), opI 40 (.arith .add (.t 39) (kI 1)), mvI 6 (.t 40)])))
def L1_r06_Vars : K := .loop [3, 4, 5, 6] B1_r06_Vars
def B0_r06_Vars : K :=
  (.seq (.seq (.reg false [mvI 10 (.t 5), mvI 11 (.t 4), opI 12 (.lenS (.t 11)), opI 13 (.arith .lss (.t 10) (.t 12))])
  (.cond (.t 13) .skip (.exit 0)))
  (.seq (.block 1 (.seq (.seq (.reg false [mvI 16 (.t 4), mvI 17 (.t 5), opI 18 (.iadrS 5 (.t 16) (.t 17)), opI 19 (.fadr 0 (.t 18)), opI 20 (.load 1 false (.t 19)), opI 21 (.arith .neq (.t 20) (kI 1))])
  (.cond (.t 21) (.exit 1) .skip))
  (.seq (.reg false [mvI 6 (kI 0)])
  (.seq (.block 2 L1_r06_Vars)
  (.seq (.seq (.reg true [mvI 41 (.t 6), mvI 42 (.t 3), opI 43 (.lenS (.t 42)), opI 44 (.arith .lss (.t 41) (.t 43)), mvI 45 (.t 44), ⟨some 46, .mv (.t 3) false, some (45, true)⟩, ⟨some 47, .mv (.t 6) false, some (45, true)⟩, ⟨some 48, .iadrS 2 (.t 46) (.t 47), some (45, true)⟩, ⟨some 49, .fadr 0 (.t 48), some (45, true)⟩, ⟨some 50, .load 1 false (.t 49), some (45, true)⟩, ⟨some 51, .mv (.t 4) false, some (45, true)⟩, ⟨some 52, .mv (.t 5) false, some (45, true)⟩, ⟨some 53, .iadrS 5 (.t 51) (.t 52), some (45, true)⟩, ⟨some 54, .fadr 3 (.t 53), some (45, true)⟩, ⟨some 55, .load 1 false (.t 54), some (45, true)⟩, ⟨some 56, .arith .eql (.t 50) (.t 55), some (45, true)⟩, opI 57 (.pick (.t 45) (.t 56) (.c (.p (.bool false))))])
  (.cond (.t 57) (.exit 1) .skip))
  (.seq (.reg false [opI 7 (.mv (.c .nils) true)])
  (.seq (.reg false [mvI 58 (.t 7), opI 59 (.frz (.t 3)), mvI 60 (.t 6), opI 61 (.slcS 2 (.t 59) none (some (.t 60)) none), opI 62 (.append 2 24 (.t 58) (.t 61)), opI 7 (.mv (.t 62) true)])
  (.seq (.reg true [mvI 63 (.t 7), mvI 64 (.t 4), mvI 65 (.t 5), opI 66 (.iadrS 5 (.t 64) (.t 65)), opI 67 (.fadr 3 (.t 66)), opI 68 (.load 1 false (.t 67)), mvI 69 (.t 4), mvI 70 (.t 5), opI 71 (.iadrS 5 (.t 69) (.t 70)), opI 72 (.fadr 1 (.t 71)), opI 73 (.load 1 false (.t 72)), opI 74 (.build [(.p (.str (bs []))), (.p (.int .i64 0))] [(0, 1, (.t 68)), (1, 1, (.t 73))]), opI 75 (.bslice 2 [(.p (.str (bs []))), (.p (.int .i64 0))] 1 [(0, 2, (.t 74))]), opI 76 (.append 2 24 (.t 63) (.t 75)), opI 7 (.mv (.t 76) true)])
  (.reg false [mvI 77 (.t 7), opI 78 (.frz (.t 3)), mvI 79 (.t 6), opI 80 (.slcS 2 (.t 78) (some (.t 79)) none none), opI 81 (.append 2 24 (.t 77) (.t 80)), mvI 3 (.t 81)])))))))))
  (.reg false [mvI 14 (.t 5), opI 15 (.arith .add (.t 14) (kI 1)), mvI 5 (.t 15)])))
def L0_r06_Vars : K := .loop [3, 4, 5] B0_r06_Vars
def F_r06_Vars : AFn := ⟨83, [.tmp 2],
  (.seq (.reg false [opI 1 (.box 5 true (.t 0) true), mvI 2 (.c .nils)])
  (.seq (.reg false [mvI 3 (.c .nils)])
  (.seq (.reg false [opI 8 (.load 5 true (.t 1)), opI 9 (.callf f_r06_Pre [(.t 8)]), mvI 4 (.t 9)])
  (.seq (.seq (.reg false [mvI 5 (kI 0)])
  (.block 0 L0_r06_Vars))
  (.seq (.reg false [mvI 82 (.t 3), mvI 2 (.t 82)])
  .ret))))), false⟩
def F_term_Var : AFn := ⟨9, [.cell 4 5 true],
  (.seq (.reg false [opI 4 (.alloc [(.p (.int .i64 0)), (.p (.int .i64 0)), (.p (.int .u64 0)), (.p (.str (bs []))), .nils] 5)])
  (.seq (.reg false [mvI 5 (.t 1), opI 6 (.callf f_term_clamp [(.t 5)]), mvI 7 (.t 0), opI 8 (.build [(.p (.int .i64 0)), (.p (.int .i64 0)), (.p (.int .u64 0)), (.p (.str (bs []))), .nils] [(0, 1, (kI 1)), (1, 1, (.t 6)), (3, 1, (.t 7))]), ⟨none, .store 5 (.t 4) (.t 8), none⟩])
  .ret)), false⟩
def B0_term_Make : K :=
  (.seq (.reg false [opI 25 (.arith .lss (.t 24) (.t 23))])
  (.seq (.cond (.t 25) .skip (.exit 0))
  (.seq (.block 1 (.seq (.reg false [mvI 26 (.t 24), opI 27 (.iadrS 5 (.t 22) (.t 24)), opI 28 (.load 5 true (.t 27)), opI 9 (.alloc [(.p (.int .i64 0)), (.p (.int .i64 0)), (.p (.int .u64 0)), (.p (.str (bs []))), .nils] 5), mvI 8 (.t 26), ⟨none, .store 5 (.t 9) (.t 28), none⟩])
  (.reg false [mvI 29 (.t 7), mvI 30 (.t 8), opI 31 (.load 5 true (.t 9)), opI 32 (.callf f_term_Copy [(.t 31)]), opI 33 (.iadrS 5 (.t 29) (.t 30)), ⟨none, .store 5 (.t 33) (.t 32), none⟩])))
  (.reg false [opI 34 (.arith .add (.t 24) (kI 1)), mvI 24 (.t 34)]))))
def L0_term_Make : K := .loop [0, 4, 5, 7, 22, 23, 24] B0_term_Make
def F_term_Make : AFn := ⟨39, [.cell 4 5 true],
  (.seq (.reg false [opI 4 (.alloc [(.p (.int .i64 0)), (.p (.int .i64 0)), (.p (.int .u64 0)), (.p (.str (bs []))), .nils] 5)])
  (.seq (.reg false [mvI 11 (.t 0), mvI 12 (.t 1), opI 13 (.callf f_term_widths [(.t 12)]), opI 14 (.callf f_opinfo_Width [(.t 11), (kI 0), (.c (.p (.int .u64 0))), (.t 13)]), mvI 10 (.t 14), opI 15 (.extract (.t 10) 0), opI 16 (.extract (.t 10) 1), mvI 5 (.t 15), mvI 6 (.t 16)])
  (.seq (.seq (.reg false [mvI 17 (.t 6), opI 18 (.arith .neq (.t 17) (kI 0))])
  (.cond (.t 18) (.reg false [mvI 5 (kI 0)]) .skip))
  (.seq (.reg false [mvI 19 (.t 1), opI 20 (.lenS (.t 19)), opI 21 (.mkslice 5 64 [(.p (.int .i64 0)), (.p (.int .i64 0)), (.p (.int .u64 0)), (.p (.str (bs []))), .nils] (.t 20) (.t 20)), mvI 7 (.t 21)])
  (.seq (.seq (.reg false [mvI 22 (.t 1), opI 23 (.lenS (.t 22)), mvI 24 (kI 0)])
  (.block 0 L0_term_Make))
  (.seq (.reg false [mvI 35 (.t 0), mvI 36 (.t 5), mvI 37 (.t 7), opI 38 (.build [(.p (.int .i64 0)), (.p (.int .i64 0)), (.p (.int .u64 0)), (.p (.str (bs []))), .nils] [(0, 1, (.t 35)), (1, 1, (.t 36)), (4, 1, (.t 37))]), ⟨none, .store 5 (.t 4) (.t 38), none⟩])
  .ret)))))), false⟩
def F_r06_Same : AFn := ⟨38, [.tmp 4],
  (.seq (.reg false [opI 2 (.box 5 true (.t 0) true), opI 3 (.box 5 true (.t 1) true), mvI 4 (.c (.p (.bool false)))])
  (.seq (.reg false [opI 5 (.fadr 0 (.t 2)), opI 6 (.load 1 false (.t 5)), opI 7 (.fadr 0 (.t 3)), opI 8 (.load 1 false (.t 7)), opI 9 (.arith .eql (.t 6) (.t 8)), mvI 10 (.t 9), ⟨some 11, .fadr 1 (.t 2), some (10, true)⟩, ⟨some 12, .load 1 false (.t 11), some (10, true)⟩, ⟨some 13, .fadr 1 (.t 3), some (10, true)⟩, ⟨some 14, .load 1 false (.t 13), some (10, true)⟩, ⟨some 15, .arith .eql (.t 12) (.t 14), some (10, true)⟩, opI 16 (.pick (.t 10) (.t 15) (.c (.p (.bool false)))), mvI 17 (.t 16), ⟨some 18, .fadr 2 (.t 2), some (17, true)⟩, ⟨some 19, .load 1 false (.t 18), some (17, true)⟩, ⟨some 20, .fadr 2 (.t 3), some (17, true)⟩, ⟨some 21, .load 1 false (.t 20), some (17, true)⟩, ⟨some 22, .arith .eql (.t 19) (.t 21), some (17, true)⟩, opI 23 (.pick (.t 17) (.t 22) (.c (.p (.bool false)))), mvI 24 (.t 23), ⟨some 25, .fadr 3 (.t 2), some (24, true)⟩, ⟨some 26, .load 1 false (.t 25), some (24, true)⟩, ⟨some 27, .fadr 3 (.t 3), some (24, true)⟩, ⟨some 28, .load 1 false (.t 27), some (24, true)⟩, ⟨some 29, .arith .eql (.t 26) (.t 28), some (24, true)⟩, opI 30 (.pick (.t 24) (.t 29) (.c (.p (.bool false)))), mvI 31 (.t 30), ⟨some 32, .fadr 4 (.t 2), some (31, true)⟩, ⟨some 33, .load 1 false (.t 32), some (31, true)⟩, ⟨some 34, .fadr 4 (.t 3), some (31, true)⟩, ⟨some 35, .load 1 false (.t 34), some (31, true)⟩, ⟨some 36, .callf f_r06_SameAll [(.t 33), (.t 35)], some (31, true)⟩, opI 37 (.pick (.t 31) (.t 36) (.c (.p (.bool false)))), mvI 4 (.t 37)])
  .ret)), false⟩
def F_r06_Var : AFn := ⟨9, [.cell 4 5 true],
  (.seq (.reg false [opI 4 (.alloc [(.p (.int .i64 0)), (.p (.int .i64 0)), (.p (.int .u64 0)), (.p (.str (bs []))), .nils] 5)])
  (.seq (.reg false [mvI 5 (.t 1), opI 6 (.callf f_r06_clamp [(.t 5)]), mvI 7 (.t 0), opI 8 (.build [(.p (.int .i64 0)), (.p (.int .i64 0)), (.p (.int .u64 0)), (.p (.str (bs []))), .nils] [(0, 1, (kI 1)), (1, 1, (.t 6)), (3, 1, (.t 7))]), ⟨none, .store 5 (.t 4) (.t 8), none⟩])
  .ret)), false⟩
def F_term_Const : AFn := ⟨18, [.cell 4 5 true],
  (.seq (.reg false [opI 4 (.alloc [(.p (.int .i64 0)), (.p (.int .i64 0)), (.p (.int .u64 0)), (.p (.str (bs []))), .nils] 5)])
  (.seq (.reg false [mvI 6 (.t 0), opI 7 (.callf f_term_clamp [(.t 6)]), mvI 5 (.t 7)])
  (.seq (.seq (.reg false [mvI 8 (.t 5), opI 9 (.arith .lss (.t 8) (kI 64))])
  (.cond (.t 9) (.reg false [mvI 10 (.t 1), mvI 11 (.t 5), opI 12 (.arith .shl (.c (.p (.int .u64 1))) (.t 11)), opI 13 (.arith .sub (.t 12) (.c (.p (.int .u64 1)))), opI 14 (.arith .and (.t 10) (.t 13)), mvI 1 (.t 14)]) .skip))
  (.seq (.reg false [mvI 15 (.t 5), mvI 16 (.t 1), opI 17 (.build [(.p (.int .i64 0)), (.p (.int .i64 0)), (.p (.int .u64 0)), (.p (.str (bs []))), .nils] [(0, 1, (kI 2)), (1, 1, (.t 15)), (2, 1, (.t 16))]), ⟨none, .store 5 (.t 4) (.t 17), none⟩])
  .ret)))), false⟩
def F_r06_Const : AFn := ⟨12, [.cell 4 5 true],
  (.seq (.reg false [opI 4 (.alloc [(.p (.int .i64 0)), (.p (.int .i64 0)), (.p (.int .u64 0)), (.p (.str (bs []))), .nils] 5)])
  (.seq (.reg false [mvI 5 (.t 0), opI 6 (.callf f_r06_clamp [(.t 5)]), mvI 7 (.t 0), opI 8 (.callf f_r06_clamp [(.t 7)]), mvI 9 (.t 1), opI 10 (.callf f_r06_Cut [(.t 8), (.t 9)]), opI 11 (.build [(.p (.int .i64 0)), (.p (.int .i64 0)), (.p (.int .u64 0)), (.p (.str (bs []))), .nils] [(0, 1, (kI 2)), (1, 1, (.t 6)), (2, 1, (.t 10))]), ⟨none, .store 5 (.t 4) (.t 11), none⟩])
  .ret)), false⟩
def F_r06_Make : AFn := ⟨20, [.cell 4 5 true],
  (.seq (.reg false [opI 4 (.alloc [(.p (.int .i64 0)), (.p (.int .i64 0)), (.p (.int .u64 0)), (.p (.str (bs []))), .nils] 5)])
  (.seq (.reg false [mvI 8 (.t 0), mvI 9 (.t 1), opI 10 (.callf f_r06_Widths [(.t 9)]), opI 11 (.callf f_r04_Width [(.t 8), (kI 0), (.c (.p (.int .u64 0))), (.t 10)]), mvI 7 (.t 11), opI 12 (.extract (.t 7) 0), opI 13 (.extract (.t 7) 1), mvI 5 (.t 12), mvI 6 (.t 13)])
  (.seq (.seq (.reg false [mvI 14 (.t 6), opI 15 (.arith .neq (.t 14) (kI 0))])
  (.cond (.t 15) (.reg false [mvI 5 (kI 0)]) .skip))
  (.seq (.reg false [mvI 16 (.t 0), mvI 17 (.t 5), mvI 18 (.t 1), opI 19 (.build [(.p (.int .i64 0)), (.p (.int .i64 0)), (.p (.int .u64 0)), (.p (.str (bs []))), .nils] [(0, 1, (.t 16)), (1, 1, (.t 17)), (4, 1, (.t 18))]), ⟨none, .store 5 (.t 4) (.t 19), none⟩])
  .ret)))), false⟩
def F_term_Compare : AFn := ⟨45, [.tmp 4],
  (.seq (.reg false [opI 2 (.box 5 true (.t 0) true), opI 3 (.box 5 true (.t 1) true), mvI 4 (kI 0)])
  (.seq (.seq (.reg true [opI 7 (.load 5 true (.t 2)), opI 8 (.callf f_term_Size [(.t 7)]), opI 9 (.load 5 true (.t 3)), opI 10 (.callf f_term_Size [(.t 9)]), opI 11 (.callf f_cmp_Compare_int [(.t 8), (.t 10)]), mvI 5 (.t 11)])
  (.seq (.reg false [mvI 12 (.t 5), opI 13 (.arith .neq (.t 12) (kI 0))])
  (.cond (.t 13) (.seq (.reg false [mvI 14 (.t 5), mvI 4 (.t 14)])
  .ret) .skip)))
  (.seq (.seq (.reg true [opI 15 (.fadr 0 (.t 2)), opI 16 (.load 1 false (.t 15)), opI 17 (.fadr 0 (.t 3)), opI 18 (.load 1 false (.t 17)), opI 19 (.callf f_cmp_Compare_api_Op [(.t 16), (.t 18)]), opI 20 (.fadr 1 (.t 2)), opI 21 (.load 1 false (.t 20)), opI 22 (.fadr 1 (.t 3)), opI 23 (.load 1 false (.t 22)), opI 24 (.callf f_cmp_Compare_int [(.t 21), (.t 23)]), opI 25 (.fadr 2 (.t 2)), opI 26 (.load 1 false (.t 25)), opI 27 (.fadr 2 (.t 3)), opI 28 (.load 1 false (.t 27)), opI 29 (.callf f_cmp_Compare_uint64 [(.t 26), (.t 28)]), opI 30 (.fadr 3 (.t 2)), opI 31 (.load 1 false (.t 30)), opI 32 (.fadr 3 (.t 3)), opI 33 (.load 1 false (.t 32)), opI 34 (.callf f_strings_Compare [(.t 31), (.t 33)]), opI 35 (.bslice 1 [(.p (.int .i64 0))] 4 [(0, 1, (.t 19)), (1, 1, (.t 24)), (2, 1, (.t 29)), (3, 1, (.t 34))]), opI 36 (.callf f_cmp_Or_int [(.t 35)]), mvI 6 (.t 36)])
  (.seq (.reg false [mvI 37 (.t 6), opI 38 (.arith .neq (.t 37) (kI 0))])
  (.cond (.t 38) (.seq (.reg false [mvI 39 (.t 6), mvI 4 (.t 39)])
  .ret) .skip)))
  (.seq (.reg false [opI 40 (.fadr 4 (.t 2)), opI 41 (.load 1 false (.t 40)), opI 42 (.fadr 4 (.t 3)), opI 43 (.load 1 false (.t 42)), opI 44 (.callf f_slices_CompareFunc_api_Term_api_Term_api_Term_api_Term [(.t 41), (.t 43), (.c (.p (.fn f_term_Compare [])))]), mvI 4 (.t 44)])
  .ret)))), false⟩
def B0_r06_Compare : K :=
  (.seq (.seq (.reg false [mvI 64 (.t 5), opI 65 (.fadr 4 (.t 2)), opI 66 (.load 1 false (.t 65)), opI 67 (.lenS (.t 66)), opI 68 (.arith .lss (.t 64) (.t 67)), mvI 69 (.t 68), ⟨some 70, .mv (.t 5) false, some (69, true)⟩, ⟨some 71, .fadr 4 (.t 3), some (69, true)⟩, ⟨some 72, .load 1 false (.t 71), some (69, true)⟩, ⟨some 73, .lenS (.t 72), some (69, true)⟩, ⟨some 74, .arith .lss (.t 70) (.t 73), some (69, true)⟩, opI 75 (.pick (.t 69) (.t 74) (.c (.p (.bool false))))])
  (.cond (.t 75) .skip (.exit 1)))
  (.seq (.block 2 (.seq (.reg true [opI 78 (.fadr 4 (.t 2)), opI 79 (.load 1 false (.t 78)), mvI 80 (.t 5), opI 81 (.iadrS 5 (.t 79) (.t 80)), opI 82 (.load 5 true (.t 81)), opI 83 (.fadr 4 (.t 3)), opI 84 (.load 1 false (.t 83)), mvI 85 (.t 5), opI 86 (.iadrS 5 (.t 84) (.t 85)), opI 87 (.load 5 true (.t 86)), opI 88 (.callf f_r06_Compare [(.t 82), (.t 87)]), mvI 6 (.t 88)])
  (.seq (.reg false [mvI 89 (.t 6), opI 90 (.arith .neq (.t 89) (kI 0))])
  (.cond (.t 90) (.seq (.reg false [mvI 91 (.t 6), mvI 4 (.t 91)])
  .ret) .skip))))
  (.reg false [mvI 76 (.t 5), opI 77 (.arith .add (.t 76) (kI 1)), mvI 5 (.t 77)])))
def L0_r06_Compare : K := .loop [2, 3, 5] B0_r06_Compare
def F_r06_Compare : AFn := ⟨99, [.tmp 4],
  (.seq (.reg false [opI 2 (.box 5 true (.t 0) true), opI 3 (.box 5 true (.t 1) true), mvI 4 (kI 0)])
  (.seq (.block 0 (.seq (.reg true [opI 8 (.load 5 true (.t 2)), opI 9 (.callf f_r06_Size [(.t 8)]), opI 10 (.load 5 true (.t 3)), opI 11 (.callf f_r06_Size [(.t 10)]), opI 12 (.arith .neq (.t 9) (.t 11)), mvI 7 (.t 12)])
  (.cond (.t 7) (.seq (.reg true [opI 13 (.load 5 true (.t 2)), opI 14 (.callf f_r06_Size [(.t 13)]), opI 15 (.load 5 true (.t 3)), opI 16 (.callf f_r06_Size [(.t 15)]), opI 17 (.callf f_r06_order [(.t 14), (.t 16)]), mvI 4 (.t 17)])
  .ret) (.seq (.reg false [opI 19 (.fadr 0 (.t 2)), opI 20 (.load 1 false (.t 19)), opI 21 (.fadr 0 (.t 3)), opI 22 (.load 1 false (.t 21)), opI 23 (.arith .neq (.t 20) (.t 22)), mvI 18 (.t 23)])
  (.cond (.t 18) (.seq (.reg false [opI 24 (.fadr 0 (.t 2)), opI 25 (.load 1 false (.t 24)), opI 26 (.fadr 0 (.t 3)), opI 27 (.load 1 false (.t 26)), opI 28 (.callf f_r06_order [(.t 25), (.t 27)]), mvI 4 (.t 28)])
  .ret) (.seq (.reg false [opI 30 (.fadr 1 (.t 2)), opI 31 (.load 1 false (.t 30)), opI 32 (.fadr 1 (.t 3)), opI 33 (.load 1 false (.t 32)), opI 34 (.arith .neq (.t 31) (.t 33)), mvI 29 (.t 34)])
  (.cond (.t 29) (.seq (.reg false [opI 35 (.fadr 1 (.t 2)), opI 36 (.load 1 false (.t 35)), opI 37 (.fadr 1 (.t 3)), opI 38 (.load 1 false (.t 37)), opI 39 (.callf f_r06_order [(.t 36), (.t 38)]), mvI 4 (.t 39)])
  .ret) (.seq (.reg false [opI 41 (.fadr 2 (.t 2)), opI 42 (.load 1 false (.t 41)), opI 43 (.fadr 2 (.t 3)), opI 44 (.load 1 false (.t 43)), opI 45 (.arith .lss (.t 42) (.t 44)), mvI 40 (.t 45)])
  (.cond (.t 40) (.seq (.reg false [mvI 4 (kI (-1))])
  .ret) (.seq (.reg false [opI 47 (.fadr 2 (.t 2)), opI 48 (.load 1 false (.t 47)), opI 49 (.fadr 2 (.t 3)), opI 50 (.load 1 false (.t 49)), opI 51 (.arith .gtr (.t 48) (.t 50)), mvI 46 (.t 51)])
  (.cond (.t 46) (.seq (.reg false [mvI 4 (kI 1)])
  .ret) (.seq (.reg false [opI 53 (.fadr 3 (.t 2)), opI 54 (.load 1 false (.t 53)), opI 55 (.fadr 3 (.t 3)), opI 56 (.load 1 false (.t 55)), opI 57 (.arith .lss (.t 54) (.t 56)), mvI 52 (.t 57)])
  (.cond (.t 52) (.seq (.reg false [mvI 4 (kI (-1))])
  .ret) (.seq (.reg false [opI 59 (.fadr 3 (.t 2)), opI 60 (.load 1 false (.t 59)), opI 61 (.fadr 3 (.t 3)), opI 62 (.load 1 false (.t 61)), opI 63 (.arith .gtr (.t 60) (.t 62)), mvI 58 (.t 63)])
  (.cond (.t 58) (.seq (.reg false [mvI 4 (kI 1)])
  .ret) .skip)))))))))))))))
  (.seq (.seq (.reg false [mvI 5 (kI 0)])
  (.block 1 L0_r06_Compare))
  (.seq (.reg false [opI 92 (.fadr 4 (.t 2)), opI 93 (.load 1 false (.t 92)), opI 94 (.lenS (.t 93)), opI 95 (.fadr 4 (.t 3)), opI 96 (.load 1 false (.t 95)), opI 97 (.lenS (.t 96)), opI 98 (.callf f_r06_order [(.t 94), (.t 97)]), mvI 4 (.t 98)])
  .ret)))), false⟩
def F_term_Same : AFn := ⟨36, [.tmp 4],
  (.seq (.reg false [opI 2 (.box 5 true (.t 0) true), opI 3 (.box 5 true (.t 1) true), mvI 4 (.c (.p (.bool false)))])
  (.seq (.seq (.reg false [opI 5 (.fadr 0 (.t 2)), opI 6 (.load 1 false (.t 5)), opI 7 (.fadr 0 (.t 3)), opI 8 (.load 1 false (.t 7)), opI 9 (.arith .neq (.t 6) (.t 8)), mvI 10 (.t 9), ⟨some 11, .fadr 1 (.t 2), some (10, false)⟩, ⟨some 12, .load 1 false (.t 11), some (10, false)⟩, ⟨some 13, .fadr 1 (.t 3), some (10, false)⟩, ⟨some 14, .load 1 false (.t 13), some (10, false)⟩, ⟨some 15, .arith .neq (.t 12) (.t 14), some (10, false)⟩, opI 16 (.pick (.t 10) (.c (.p (.bool true))) (.t 15)), mvI 17 (.t 16), ⟨some 18, .fadr 2 (.t 2), some (17, false)⟩, ⟨some 19, .load 1 false (.t 18), some (17, false)⟩, ⟨some 20, .fadr 2 (.t 3), some (17, false)⟩, ⟨some 21, .load 1 false (.t 20), some (17, false)⟩, ⟨some 22, .arith .neq (.t 19) (.t 21), some (17, false)⟩, opI 23 (.pick (.t 17) (.c (.p (.bool true))) (.t 22)), mvI 24 (.t 23), ⟨some 25, .fadr 3 (.t 2), some (24, false)⟩, ⟨some 26, .load 1 false (.t 25), some (24, false)⟩, ⟨some 27, .fadr 3 (.t 3), some (24, false)⟩, ⟨some 28, .load 1 false (.t 27), some (24, false)⟩, ⟨some 29, .arith .neq (.t 26) (.t 28), some (24, false)⟩, opI 30 (.pick (.t 24) (.c (.p (.bool true))) (.t 29))])
  (.cond (.t 30) (.seq (.reg false [mvI 4 (.c (.p (.bool false)))])
  .ret) .skip))
  (.seq (.reg false [opI 31 (.fadr 4 (.t 2)), opI 32 (.load 1 false (.t 31)), opI 33 (.fadr 4 (.t 3)), opI 34 (.load 1 false (.t 33)), opI 35 (.callf f_slices_EqualFunc_api_Term_api_Term_api_Term_api_Term [(.t 32), (.t 34), (.c (.p (.fn f_term_Same [])))]), mvI 4 (.t 35)])
  .ret))), false⟩
def F_r06_Light : AFn := ⟨15, [.cell 6 5 true, .tmp 7],
  (.seq (.reg false [opI 3 (.box 5 true (.t 0) true), opI 6 (.alloc [(.p (.int .i64 0)), (.p (.int .i64 0)), (.p (.int .u64 0)), (.p (.str (bs []))), .nils] 5), mvI 7 (.c (.p (.bool false)))])
  (.seq (.seq (.reg false [opI 8 (.load 5 true (.t 3)), mvI 9 (.t 1), mvI 10 (.t 2), opI 11 (.callf f_r06_count [(.t 8), (.t 9), (.t 10)]), opI 12 (.arith .lss (.t 11) (kI 0))])
  (.cond (.t 12) (.seq (.reg false [opI 13 (.build [(.p (.int .i64 0)), (.p (.int .i64 0)), (.p (.int .u64 0)), (.p (.str (bs []))), .nils] []), ⟨none, .store 5 (.t 6) (.t 13), none⟩, mvI 7 (.c (.p (.bool false)))])
  .ret) .skip))
  (.seq (.reg false [opI 14 (.load 5 true (.t 3)), ⟨none, .store 5 (.t 6) (.t 14), none⟩, mvI 7 (.c (.p (.bool true)))])
  .ret))), false⟩
def F_term_All : AFn := ⟨4, [.tmp 2],
  (.seq (.reg false [opI 1 (.box 5 true (.t 0) true), mvI 2 (.c (.p .nilf))])
  (.seq (.reg false [opI 3 (.mkfn f_term_All_1 [(.t 1)]), mvI 2 (.t 3)])
  .ret)), false⟩
def A0_term_Subterms : K :=
  (.reg false [opI 4 (.init 5 true (.t 7) true)])
def B0_term_Subterms : K :=
  (.block 1 (.seq (.reg false [opI 8 (.load 1 false (.t 3)), opI 9 (.mkfn f_term_Subterms_1 [(.t 4)]), opI 10 (.callf f_slices_ContainsFunc_api_Term_api_Term [(.t 8), (.t 9)]), opI 11 (.not (.t 10))])
  (.cond (.t 11) (.regD [opI 12 (.load 1 false (.t 3)), opI 13 (.load 5 true (.t 4)), opI 14 (.callf f_term_Copy [(.t 13)]), opI 15 (.lenS (.t 12)), opI 16 (.bslice 5 [(.p (.int .i64 0)), (.p (.int .i64 0)), (.p (.int .u64 0)), (.p (.str (bs []))), .nils] 1 [(0, 5, (.c (.agg [(.p (.int .i64 0)), (.p (.int .i64 0)), (.p (.int .u64 0)), (.p (.str (bs []))), .nils])))]), opI 17 (.append 5 64 (.t 12) (.t 16)), opI 18 (.iadrS 5 (.t 17) (.t 15)), ⟨none, .store 5 (.t 18) (.t 14), none⟩, ⟨none, .store 1 (.t 3) (.t 17), none⟩] [(6, 8), (7, 8)]) .skip)))
def R0_term_Subterms : K := .range (.t 6) [7] [3] A0_term_Subterms B0_term_Subterms
def F_term_Subterms : AFn := ⟨20, [.tmp 2],
  (.seq (.reg false [opI 1 (.box 5 true (.t 0) true), mvI 2 (.c .nils)])
  (.seq (.reg false [opI 3 (.alloc [.nils] 1)])
  (.seq (.seq (.reg false [opI 5 (.load 5 true (.t 1)), opI 6 (.callf f_term_All [(.t 5)])])
  (.block 0 R0_term_Subterms))
  (.seq (.reg false [opI 19 (.load 1 false (.t 3)), mvI 2 (.t 19)])
  .ret)))), false⟩
def B0_r06_SameAll : K :=
  (.seq (.seq (.reg false [mvI 11 (.t 5), mvI 12 (.t 0), opI 13 (.lenS (.t 12)), opI 14 (.arith .lss (.t 11) (.t 13))])
  (.cond (.t 14) .skip (.exit 0)))
  (.seq (.block 1 (.seq (.reg true [mvI 17 (.t 0), mvI 18 (.t 5), opI 19 (.iadrS 5 (.t 17) (.t 18)), opI 20 (.load 5 true (.t 19)), mvI 21 (.t 1), mvI 22 (.t 5), opI 23 (.iadrS 5 (.t 21) (.t 22)), opI 24 (.load 5 true (.t 23)), opI 25 (.callf f_r06_Same [(.t 20), (.t 24)]), opI 26 (.not (.t 25))])
  (.cond (.t 26) (.seq (.reg false [mvI 4 (.c (.p (.bool false)))])
  .ret) .skip)))
  (.reg false [mvI 15 (.t 5), opI 16 (.arith .add (.t 15) (kI 1)), mvI 5 (.t 16)])))
def L0_r06_SameAll : K := .loop [0, 1, 5] B0_r06_SameAll
def F_r06_SameAll : AFn := ⟨27, [.tmp 4],
  (.seq (.reg false [mvI 4 (.c (.p (.bool false)))])
  (.seq (.seq (.reg false [mvI 6 (.t 0), opI 7 (.lenS (.t 6)), mvI 8 (.t 1), opI 9 (.lenS (.t 8)), opI 10 (.arith .neq (.t 7) (.t 9))])
  (.cond (.t 10) (.seq (.reg false [mvI 4 (.c (.p (.bool false)))])
  .ret) .skip))
  (.seq (.seq (.reg false [mvI 5 (kI 0)])
  (.block 0 L0_r06_SameAll))
  (.seq (.reg false [mvI 4 (.c (.p (.bool true)))])
  .ret)))), false⟩
def B0_r06_Post : K :=
  (.seq (.seq (.reg false [mvI 5 (.t 4), opI 6 (.fadr 4 (.t 1)), opI 7 (.load 1 false (.t 6)), opI 8 (.lenS (.t 7)), opI 9 (.arith .lss (.t 5) (.t 8))])
  (.cond (.t 9) .skip (.exit 0)))
  (.seq (.block 1 (.reg false [mvI 12 (.t 3), opI 13 (.fadr 4 (.t 1)), opI 14 (.load 1 false (.t 13)), mvI 15 (.t 4), opI 16 (.iadrS 5 (.t 14) (.t 15)), opI 17 (.load 5 true (.t 16)), opI 18 (.callf f_r06_Post [(.t 17)]), opI 19 (.append 5 64 (.t 12) (.t 18)), opI 3 (.mv (.t 19) true)]))
  (.reg false [mvI 10 (.t 4), opI 11 (.arith .add (.t 10) (kI 1)), mvI 4 (.t 11)])))
def L0_r06_Post : K := .loop [1, 3, 4] B0_r06_Post
def F_r06_Post : AFn := ⟨24, [.tmp 2],
  (.seq (.reg false [opI 1 (.box 5 true (.t 0) true), mvI 2 (.c .nils)])
  (.seq (.reg false [opI 3 (.mv (.c .nils) true)])
  (.seq (.seq (.reg false [mvI 4 (kI 0)])
  (.block 0 L0_r06_Post))
  (.seq (.reg false [mvI 20 (.t 3), opI 21 (.load 5 true (.t 1)), opI 22 (.bslice 5 [(.p (.int .i64 0)), (.p (.int .i64 0)), (.p (.int .u64 0)), (.p (.str (bs []))), .nils] 1 [(0, 5, (.t 21))]), opI 23 (.append 5 64 (.t 20) (.t 22)), mvI 2 (.t 23)])
  .ret)))), false⟩
def B0_r06_Subterms : K :=
  (.seq (.seq (.reg false [mvI 8 (.t 5), mvI 9 (.t 4), opI 10 (.lenS (.t 9)), opI 11 (.arith .lss (.t 8) (.t 10))])
  (.cond (.t 11) .skip (.exit 0)))
  (.seq (.block 1 (.seq (.reg false [mvI 14 (.t 3), mvI 15 (.t 4), mvI 16 (.t 5), opI 17 (.iadrS 5 (.t 15) (.t 16)), opI 18 (.load 5 true (.t 17)), opI 19 (.callf f_r06_Has [(.t 14), (.t 18)]), opI 20 (.not (.t 19))])
  (.cond (.t 20) (.reg false [mvI 21 (.t 3), mvI 22 (.t 4), mvI 23 (.t 5), opI 24 (.iadrS 5 (.t 22) (.t 23)), opI 25 (.load 5 true (.t 24)), opI 26 (.bslice 5 [(.p (.int .i64 0)), (.p (.int .i64 0)), (.p (.int .u64 0)), (.p (.str (bs []))), .nils] 1 [(0, 5, (.t 25))]), opI 27 (.append 5 64 (.t 21) (.t 26)), opI 3 (.mv (.t 27) true)]) .skip)))
  (.reg false [mvI 12 (.t 5), opI 13 (.arith .add (.t 12) (kI 1)), mvI 5 (.t 13)])))
def L0_r06_Subterms : K := .loop [3, 4, 5] B0_r06_Subterms
def F_r06_Subterms : AFn := ⟨29, [.tmp 2],
  (.seq (.reg false [opI 1 (.box 5 true (.t 0) true), mvI 2 (.c .nils)])
  (.seq (.reg false [opI 3 (.mv (.c .nils) true)])
  (.seq (.reg false [opI 6 (.load 5 true (.t 1)), opI 7 (.callf f_r06_Post [(.t 6)]), mvI 4 (.t 7)])
  (.seq (.seq (.reg false [mvI 5 (kI 0)])
  (.block 0 L0_r06_Subterms))
  (.seq (.reg false [mvI 28 (.t 3), mvI 2 (.t 28)])
  .ret))))), false⟩
def B0_term_At : K :=
  (.seq (.reg false [opI 11 (.arith .lss (.t 10) (.t 9))])
  (.seq (.cond (.t 11) .skip (.exit 0))
  (.seq (.block 1 (.seq (.reg false [opI 12 (.iadrS 1 (.t 8) (.t 10)), opI 13 (.load 1 false (.t 12)), mvI 7 (.t 13)])
  (.seq (.seq (.reg false [mvI 14 (.t 7), opI 15 (.arith .lss (.t 14) (kI 0)), mvI 16 (.t 15), ⟨some 17, .mv (.t 7) false, some (16, false)⟩, ⟨some 18, .fadr 4 (.t 2), some (16, false)⟩, ⟨some 19, .load 1 false (.t 18), some (16, false)⟩, ⟨some 20, .lenS (.t 19), some (16, false)⟩, ⟨some 21, .arith .geq (.t 17) (.t 20), some (16, false)⟩, opI 22 (.pick (.t 16) (.c (.p (.bool true))) (.t 21))])
  (.cond (.t 22) (.seq (.reg false [opI 23 (.build [(.p (.int .i64 0)), (.p (.int .i64 0)), (.p (.int .u64 0)), (.p (.str (bs []))), .nils] []), ⟨none, .store 5 (.t 4) (.t 23), none⟩, mvI 5 (.c (.p (.bool false)))])
  .ret) .skip))
  (.reg false [opI 24 (.fadr 4 (.t 2)), opI 25 (.load 1 false (.t 24)), mvI 26 (.t 7), opI 27 (.iadrS 5 (.t 25) (.t 26)), opI 28 (.load 5 true (.t 27)), ⟨none, .store 5 (.t 2) (.t 28), none⟩]))))
  (.reg false [opI 29 (.arith .add (.t 10) (kI 1)), mvI 10 (.t 29)]))))
def L0_term_At : K := .loop [2, 4, 8, 9, 10] B0_term_At
def F_term_At : AFn := ⟨32, [.cell 4 5 true, .tmp 5],
  (.seq (.reg false [opI 2 (.box 5 true (.t 0) false), opI 4 (.alloc [(.p (.int .i64 0)), (.p (.int .i64 0)), (.p (.int .u64 0)), (.p (.str (bs []))), .nils] 5), mvI 5 (.c (.p (.bool false)))])
  (.seq (.seq (.reg false [mvI 8 (.t 1), opI 9 (.lenS (.t 8)), mvI 10 (kI 0)])
  (.block 0 L0_term_At))
  (.seq (.reg false [opI 30 (.load 5 true (.t 2)), opI 31 (.callf f_term_Copy [(.t 30)]), ⟨none, .store 5 (.t 4) (.t 31), none⟩, mvI 5 (.c (.p (.bool true)))])
  .ret))), false⟩
def B0_r06_At : K :=
  (.seq (.seq (.reg false [mvI 7 (.t 6), mvI 8 (.t 1), opI 9 (.lenS (.t 8)), opI 10 (.arith .lss (.t 7) (.t 9))])
  (.cond (.t 10) .skip (.exit 0)))
  (.seq (.block 1 (.seq (.seq (.reg true [mvI 13 (.t 1), mvI 14 (.t 6), opI 15 (.iadrS 1 (.t 13) (.t 14)), opI 16 (.load 1 false (.t 15)), opI 17 (.arith .lss (.t 16) (kI 0)), mvI 18 (.t 17), ⟨some 19, .mv (.t 1) false, some (18, false)⟩, ⟨some 20, .mv (.t 6) false, some (18, false)⟩, ⟨some 21, .iadrS 1 (.t 19) (.t 20), some (18, false)⟩, ⟨some 22, .load 1 false (.t 21), some (18, false)⟩, ⟨some 23, .fadr 4 (.t 2), some (18, false)⟩, ⟨some 24, .load 1 false (.t 23), some (18, false)⟩, ⟨some 25, .lenS (.t 24), some (18, false)⟩, ⟨some 26, .arith .geq (.t 22) (.t 25), some (18, false)⟩, opI 27 (.pick (.t 18) (.c (.p (.bool true))) (.t 26))])
  (.cond (.t 27) (.seq (.reg false [opI 28 (.build [(.p (.int .i64 0)), (.p (.int .i64 0)), (.p (.int .u64 0)), (.p (.str (bs []))), .nils] []), ⟨none, .store 5 (.t 4) (.t 28), none⟩, mvI 5 (.c (.p (.bool false)))])
  .ret) .skip))
  (.reg true [opI 29 (.fadr 4 (.t 2)), opI 30 (.load 1 false (.t 29)), mvI 31 (.t 1), mvI 32 (.t 6), opI 33 (.iadrS 1 (.t 31) (.t 32)), opI 34 (.load 1 false (.t 33)), opI 35 (.iadrS 5 (.t 30) (.t 34)), opI 36 (.load 5 true (.t 35)), ⟨none, .store 5 (.t 2) (.t 36), none⟩])))
  (.reg false [mvI 11 (.t 6), opI 12 (.arith .add (.t 11) (kI 1)), mvI 6 (.t 12)])))
def L0_r06_At : K := .loop [1, 2, 4, 6] B0_r06_At
def F_r06_At : AFn := ⟨38, [.cell 4 5 true, .tmp 5],
  (.seq (.reg false [opI 2 (.box 5 true (.t 0) false), opI 4 (.alloc [(.p (.int .i64 0)), (.p (.int .i64 0)), (.p (.int .u64 0)), (.p (.str (bs []))), .nils] 5), mvI 5 (.c (.p (.bool false)))])
  (.seq (.seq (.reg false [mvI 6 (kI 0)])
  (.block 0 L0_r06_At))
  (.seq (.reg false [opI 37 (.load 5 true (.t 2)), ⟨none, .store 5 (.t 4) (.t 37), none⟩, mvI 5 (.c (.p (.bool true)))])
  .ret))), false⟩
def F_term_Put : AFn := ⟨48, [.cell 6 5 true, .tmp 7],
  (.seq (.reg false [opI 3 (.box 5 true (.t 0) true), opI 5 (.box 5 true (.t 2) true), opI 6 (.alloc [(.p (.int .i64 0)), (.p (.int .i64 0)), (.p (.int .u64 0)), (.p (.str (bs []))), .nils] 5), mvI 7 (.c (.p (.bool false)))])
  (.seq (.seq (.reg false [opI 12 (.load 5 true (.t 3)), mvI 13 (.t 1), opI 14 (.callf f_term_At [(.t 12), (.t 13)]), mvI 11 (.t 14), opI 15 (.extract (.t 11) 0), opI 16 (.extract (.t 11) 1), opI 8 (.init 5 true (.t 15) true), mvI 9 (.t 16)])
  (.seq (.reg false [mvI 17 (.t 9), opI 18 (.not (.t 17))])
  (.cond (.t 18) (.seq (.reg false [opI 19 (.build [(.p (.int .i64 0)), (.p (.int .i64 0)), (.p (.int .u64 0)), (.p (.str (bs []))), .nils] []), ⟨none, .store 5 (.t 6) (.t 19), none⟩, mvI 7 (.c (.p (.bool false)))])
  .ret) .skip)))
  (.seq (.seq (.reg false [mvI 20 (.t 1), opI 21 (.lenS (.t 20)), opI 22 (.arith .eql (.t 21) (kI 0))])
  (.cond (.t 22) (.seq (.reg false [opI 23 (.load 5 true (.t 5)), opI 24 (.callf f_term_Copy [(.t 23)]), ⟨none, .store 5 (.t 6) (.t 24), none⟩, mvI 7 (.c (.p (.bool true)))])
  .ret) .skip))
  (.seq (.reg false [opI 25 (.load 5 true (.t 3)), opI 26 (.calli f_term_Copy [(.t 25)]), opI 10 (.init 5 true (.t 26) true)])
  (.seq (.reg true [opI 28 (.fadr 4 (.t 10)), opI 29 (.load 1 false (.t 28)), mvI 30 (.t 1), opI 31 (.iadrS 1 (.t 30) (kI 0)), opI 32 (.load 1 false (.t 31)), opI 33 (.fadr 4 (.t 3)), opI 34 (.load 1 false (.t 33)), mvI 35 (.t 1), opI 36 (.iadrS 1 (.t 35) (kI 0)), opI 37 (.load 1 false (.t 36)), opI 38 (.iadrS 5 (.t 34) (.t 37)), opI 39 (.load 5 true (.t 38)), mvI 40 (.t 1), opI 41 (.slcS 1 (.t 40) (some (kI 1)) none none), opI 42 (.load 5 true (.t 5)), opI 43 (.callf f_term_Put [(.t 39), (.t 41), (.t 42)]), mvI 27 (.t 43), opI 44 (.extract (.t 27) 0), opI 45 (.extract (.t 27) 1), opI 46 (.iadrS 5 (.t 29) (.t 32)), ⟨none, .store 5 (.t 46) (.t 44), none⟩])
  (.seq (.reg false [opI 47 (.load 5 true (.t 10)), ⟨none, .store 5 (.t 6) (.t 47), none⟩, mvI 7 (.c (.p (.bool true)))])
  .ret)))))), false⟩
def F_r06_Put : AFn := ⟨66, [.cell 6 5 true, .tmp 7],
  (.seq (.reg false [opI 3 (.box 5 true (.t 0) true), opI 5 (.box 5 true (.t 2) true), opI 6 (.alloc [(.p (.int .i64 0)), (.p (.int .i64 0)), (.p (.int .u64 0)), (.p (.str (bs []))), .nils] 5), mvI 7 (.c (.p (.bool false)))])
  (.seq (.seq (.reg false [mvI 11 (.t 1), opI 12 (.lenS (.t 11)), opI 13 (.arith .eql (.t 12) (kI 0))])
  (.cond (.t 13) (.seq (.reg false [opI 14 (.load 5 true (.t 5)), ⟨none, .store 5 (.t 6) (.t 14), none⟩, mvI 7 (.c (.p (.bool true)))])
  .ret) .skip))
  (.seq (.seq (.reg true [mvI 15 (.t 1), opI 16 (.iadrS 1 (.t 15) (kI 0)), opI 17 (.load 1 false (.t 16)), opI 18 (.arith .lss (.t 17) (kI 0)), mvI 19 (.t 18), ⟨some 20, .mv (.t 1) false, some (19, false)⟩, ⟨some 21, .iadrS 1 (.t 20) (kI 0), some (19, false)⟩, ⟨some 22, .load 1 false (.t 21), some (19, false)⟩, ⟨some 23, .fadr 4 (.t 3), some (19, false)⟩, ⟨some 24, .load 1 false (.t 23), some (19, false)⟩, ⟨some 25, .lenS (.t 24), some (19, false)⟩, ⟨some 26, .arith .geq (.t 22) (.t 25), some (19, false)⟩, opI 27 (.pick (.t 19) (.c (.p (.bool true))) (.t 26))])
  (.cond (.t 27) (.seq (.reg false [opI 28 (.build [(.p (.int .i64 0)), (.p (.int .i64 0)), (.p (.int .u64 0)), (.p (.str (bs []))), .nils] []), ⟨none, .store 5 (.t 6) (.t 28), none⟩, mvI 7 (.c (.p (.bool false)))])
  .ret) .skip))
  (.seq (.reg true [opI 30 (.fadr 4 (.t 3)), opI 31 (.load 1 false (.t 30)), mvI 32 (.t 1), opI 33 (.iadrS 1 (.t 32) (kI 0)), opI 34 (.load 1 false (.t 33)), opI 35 (.iadrS 5 (.t 31) (.t 34)), opI 36 (.load 5 true (.t 35)), mvI 37 (.t 1), opI 38 (.slcS 1 (.t 37) (some (kI 1)) none none), opI 39 (.load 5 true (.t 5)), opI 40 (.callf f_r06_Put [(.t 36), (.t 38), (.t 39)]), mvI 29 (.t 40), opI 41 (.extract (.t 29) 0), opI 42 (.extract (.t 29) 1), opI 8 (.alloc [(.p (.int .i64 0)), (.p (.int .i64 0)), (.p (.int .u64 0)), (.p (.str (bs []))), .nils] 5), ⟨none, .store 5 (.t 8) (.t 41), none⟩, mvI 9 (.t 42)])
  (.seq (.seq (.reg false [mvI 43 (.t 9), opI 44 (.not (.t 43))])
  (.cond (.t 44) (.seq (.reg false [opI 45 (.build [(.p (.int .i64 0)), (.p (.int .i64 0)), (.p (.int .u64 0)), (.p (.str (bs []))), .nils] []), ⟨none, .store 5 (.t 6) (.t 45), none⟩, mvI 7 (.c (.p (.bool false)))])
  .ret) .skip))
  (.seq (.reg false [opI 10 (.mv (.c .nils) true)])
  (.seq (.reg false [mvI 46 (.t 10), opI 47 (.fadr 4 (.t 3)), opI 48 (.load 1 false (.t 47)), opI 49 (.append 5 64 (.t 46) (.t 48)), opI 10 (.mv (.t 49) true)])
  (.seq (.reg true [mvI 50 (.t 10), mvI 51 (.t 1), opI 52 (.iadrS 1 (.t 51) (kI 0)), opI 53 (.load 1 false (.t 52)), opI 54 (.load 5 true (.t 8)), opI 55 (.iadrS 5 (.t 50) (.t 53)), ⟨none, .store 5 (.t 55) (.t 54), none⟩])
  (.seq (.reg false [opI 56 (.fadr 0 (.t 3)), opI 57 (.load 1 false (.t 56)), opI 58 (.fadr 1 (.t 3)), opI 59 (.load 1 false (.t 58)), opI 60 (.fadr 2 (.t 3)), opI 61 (.load 1 false (.t 60)), opI 62 (.fadr 3 (.t 3)), opI 63 (.load 1 false (.t 62)), mvI 64 (.t 10), opI 65 (.build [(.p (.int .i64 0)), (.p (.int .i64 0)), (.p (.int .u64 0)), (.p (.str (bs []))), .nils] [(0, 1, (.t 57)), (1, 1, (.t 59)), (2, 1, (.t 61)), (3, 1, (.t 63)), (4, 1, (.t 64))]), ⟨none, .store 5 (.t 6) (.t 65), none⟩, mvI 7 (.c (.p (.bool true)))])
  .ret))))))))), false⟩
def B0_law06_twin : K :=
  (.seq (.seq (.reg false [mvI 7 (.t 4), opI 8 (.fadr 4 (.t 1)), opI 9 (.load 1 false (.t 8)), opI 10 (.lenS (.t 9)), opI 11 (.arith .lss (.t 7) (.t 10))])
  (.cond (.t 11) .skip (.exit 0)))
  (.seq (.block 1 (.reg true [opI 14 (.fadr 4 (.t 3)), opI 15 (.load 1 false (.t 14)), opI 16 (.fadr 4 (.t 1)), opI 17 (.load 1 false (.t 16)), mvI 18 (.t 4), opI 19 (.iadrS 5 (.t 17) (.t 18)), opI 20 (.load 5 true (.t 19)), opI 21 (.callf f_law06_twin [(.t 20)]), opI 22 (.bslice 5 [(.p (.int .i64 0)), (.p (.int .i64 0)), (.p (.int .u64 0)), (.p (.str (bs []))), .nils] 1 [(0, 5, (.t 21))]), opI 23 (.append 5 64 (.t 15) (.t 22)), opI 24 (.fadr 4 (.t 3)), ⟨none, .store 1 (.t 24) (.t 23), none⟩]))
  (.reg false [mvI 12 (.t 4), opI 13 (.arith .add (.t 12) (kI 1)), mvI 4 (.t 13)])))
def L0_law06_twin : K := .loop [1, 2, 3, 4] B0_law06_twin
def F_law06_twin : AFn := ⟨26, [.cell 2 5 true],
  (.seq (.reg false [opI 1 (.box 5 true (.t 0) true), opI 2 (.alloc [(.p (.int .i64 0)), (.p (.int .i64 0)), (.p (.int .u64 0)), (.p (.str (bs []))), .nils] 5)])
  (.seq (.reg false [opI 5 (.load 5 true (.t 1)), opI 3 (.init 5 true (.t 5) false)])
  (.seq (.reg false [opI 6 (.fadr 4 (.t 3)), ⟨none, .store 1 (.t 6) (.c .nils), none⟩])
  (.seq (.seq (.reg false [mvI 4 (kI 0)])
  (.block 0 L0_law06_twin))
  (.seq (.reg false [opI 25 (.load 5 true (.t 3)), ⟨none, .store 5 (.t 2) (.t 25), none⟩])
  .ret))))), false⟩
def B0_term_Copy : K :=
  (.seq (.reg false [opI 12 (.arith .lss (.t 11) (.t 10))])
  (.seq (.cond (.t 12) .skip (.exit 0))
  (.seq (.block 1 (.seq (.reg false [opI 13 (.iadrS 5 (.t 9) (.t 11)), opI 14 (.load 5 true (.t 13)), opI 5 (.init 5 true (.t 14) true)])
  (.reg true [opI 15 (.fadr 4 (.t 3)), opI 16 (.load 1 false (.t 15)), opI 17 (.load 5 true (.t 5)), opI 18 (.callf f_term_Copy [(.t 17)]), opI 19 (.bslice 5 [(.p (.int .i64 0)), (.p (.int .i64 0)), (.p (.int .u64 0)), (.p (.str (bs []))), .nils] 1 [(0, 5, (.t 18))]), opI 20 (.append 5 64 (.t 16) (.t 19)), opI 21 (.fadr 4 (.t 3)), ⟨none, .store 1 (.t 21) (.t 20), none⟩])))
  (.reg false [opI 22 (.arith .add (.t 11) (kI 1)), mvI 11 (.t 22)]))))
def L0_term_Copy : K := .loop [2, 3, 9, 10, 11] B0_term_Copy
def F_term_Copy : AFn := ⟨24, [.cell 2 5 true],
  (.seq (.reg false [opI 1 (.box 5 true (.t 0) true), opI 2 (.alloc [(.p (.int .i64 0)), (.p (.int .i64 0)), (.p (.int .u64 0)), (.p (.str (bs []))), .nils] 5)])
  (.seq (.reg false [opI 6 (.load 5 true (.t 1)), opI 3 (.init 5 true (.t 6) false)])
  (.seq (.reg false [opI 7 (.fadr 4 (.t 3)), ⟨none, .store 1 (.t 7) (.c .nils), none⟩])
  (.seq (.seq (.reg false [opI 8 (.fadr 4 (.t 1)), opI 9 (.load 1 false (.t 8)), opI 10 (.lenS (.t 9)), mvI 11 (kI 0)])
  (.block 0 L0_term_Copy))
  (.seq (.reg false [opI 23 (.load 5 true (.t 3)), ⟨none, .store 5 (.t 2) (.t 23), none⟩])
  .ret))))), false⟩
def B0_term_measure : K :=
  (.seq (.reg false [opI 24 (.arith .lss (.t 23) (.t 22))])
  (.seq (.cond (.t 24) .skip (.exit 0))
  (.seq (.block 1 (.seq (.reg false [opI 25 (.iadrS 5 (.t 21) (.t 23)), opI 26 (.load 5 true (.t 25)), opI 9 (.init 5 true (.t 26) true)])
  (.seq (.reg false [opI 28 (.load 5 true (.t 9)), mvI 29 (.t 1), mvI 30 (.t 2), opI 31 (.arith .sub (.t 30) (kI 1)), opI 32 (.callf f_term_measure [(.t 28), (.t 29), (.t 31)]), mvI 27 (.t 32), opI 33 (.extract (.t 27) 0), opI 34 (.extract (.t 27) 1), mvI 10 (.t 33), mvI 11 (.t 34)])
  (.seq (.seq (.reg false [mvI 35 (.t 11), opI 36 (.not (.t 35))])
  (.cond (.t 36) (.seq (.reg false [mvI 6 (kI 0), mvI 7 (.c (.p (.bool false)))])
  .ret) .skip))
  (.reg false [mvI 37 (.t 10), mvI 1 (.t 37)])))))
  (.reg false [opI 38 (.arith .add (.t 23) (kI 1)), mvI 23 (.t 38)]))))
def L0_term_measure : K := .loop [1, 2, 21, 22, 23] B0_term_measure
def F_term_measure : AFn := ⟨40, [.tmp 6, .tmp 7],
  (.seq (.reg false [opI 3 (.box 5 true (.t 0) true), mvI 6 (kI 0), mvI 7 (.c (.p (.bool false)))])
  (.seq (.seq (.reg false [mvI 12 (.t 1), opI 13 (.arith .lss (.t 12) (kI 1)), mvI 14 (.t 13), ⟨some 15, .mv (.t 2) false, some (14, false)⟩, ⟨some 16, .arith .lss (.t 15) (kI 1), some (14, false)⟩, opI 17 (.pick (.t 14) (.c (.p (.bool true))) (.t 16))])
  (.cond (.t 17) (.seq (.reg false [mvI 6 (kI 0), mvI 7 (.c (.p (.bool false)))])
  .ret) .skip))
  (.seq (.reg false [mvI 18 (.t 1), opI 19 (.arith .sub (.t 18) (kI 1)), mvI 1 (.t 19)])
  (.seq (.seq (.reg false [opI 20 (.fadr 4 (.t 3)), opI 21 (.load 1 false (.t 20)), opI 22 (.lenS (.t 21)), mvI 23 (kI 0)])
  (.block 0 L0_term_measure))
  (.seq (.reg false [mvI 39 (.t 1), mvI 6 (.t 39), mvI 7 (.c (.p (.bool true)))])
  .ret))))), false⟩
def F_term_node : AFn := ⟨82, [.tmp 2],
  (.seq (.reg false [opI 1 (.box 5 true (.t 0) true), mvI 2 (kI 0)])
  (.seq (.block 0 (.seq (.reg true [opI 6 (.fadr 0 (.t 1)), opI 7 (.load 1 false (.t 6)), opI 8 (.callf f_opinfo_Arity [(.t 7)]), opI 9 (.arith .lss (.t 8) (kI 0)), mvI 10 (.t 9), ⟨some 11, .fadr 0 (.t 1), some (10, false)⟩, ⟨some 12, .load 1 false (.t 11), some (10, false)⟩, ⟨some 13, .callf f_opinfo_Pattern [(.t 12)], some (10, false)⟩, opI 14 (.pick (.t 10) (.c (.p (.bool true))) (.t 13)), mvI 15 (.t 14), ⟨some 16, .fadr 4 (.t 1), some (15, false)⟩, ⟨some 17, .load 1 false (.t 16), some (15, false)⟩, ⟨some 18, .lenS (.t 17), some (15, false)⟩, ⟨some 19, .fadr 0 (.t 1), some (15, false)⟩, ⟨some 20, .load 1 false (.t 19), some (15, false)⟩, ⟨some 21, .callf f_opinfo_Arity [(.t 20)], some (15, false)⟩, ⟨some 22, .arith .neq (.t 18) (.t 21), some (15, false)⟩, opI 23 (.pick (.t 15) (.c (.p (.bool true))) (.t 22)), mvI 5 (.t 23)])
  (.cond (.t 5) (.seq (.reg false [mvI 2 (kI 4)])
  .ret) (.seq (.reg false [opI 25 (.fadr 0 (.t 1)), opI 26 (.load 1 false (.t 25)), opI 27 (.arith .neq (.t 26) (kI 1)), mvI 28 (.t 27), ⟨some 29, .fadr 3 (.t 1), some (28, true)⟩, ⟨some 30, .load 1 false (.t 29), some (28, true)⟩, ⟨some 31, .arith .neq (.t 30) (.c (.p (.str (bs [])))), some (28, true)⟩, opI 32 (.pick (.t 28) (.t 31) (.c (.p (.bool false)))), mvI 24 (.t 32)])
  (.cond (.t 24) (.seq (.reg false [mvI 2 (kI 4)])
  .ret) (.seq (.reg false [opI 34 (.fadr 0 (.t 1)), opI 35 (.load 1 false (.t 34)), opI 36 (.arith .neq (.t 35) (kI 2)), mvI 37 (.t 36), ⟨some 38, .fadr 0 (.t 1), some (37, true)⟩, ⟨some 39, .load 1 false (.t 38), some (37, true)⟩, ⟨some 40, .arith .neq (.t 39) (kI 21), some (37, true)⟩, opI 41 (.pick (.t 37) (.t 40) (.c (.p (.bool false)))), mvI 42 (.t 41), ⟨some 43, .fadr 2 (.t 1), some (42, true)⟩, ⟨some 44, .load 1 false (.t 43), some (42, true)⟩, ⟨some 45, .arith .neq (.t 44) (.c (.p (.int .u64 0))), some (42, true)⟩, opI 46 (.pick (.t 42) (.t 45) (.c (.p (.bool false)))), mvI 33 (.t 46)])
  (.cond (.t 33) (.seq (.reg false [mvI 2 (kI 4)])
  .ret) (.seq (.reg false [opI 48 (.fadr 0 (.t 1)), opI 49 (.load 1 false (.t 48)), opI 50 (.arith .eql (.t 49) (kI 1)), mvI 51 (.t 50), ⟨some 52, .fadr 3 (.t 1), some (51, true)⟩, ⟨some 53, .load 1 false (.t 52), some (51, true)⟩, ⟨some 54, .callf f_term_Name [(.t 53)], some (51, true)⟩, ⟨some 55, .not (.t 54), some (51, true)⟩, opI 56 (.pick (.t 51) (.t 55) (.c (.p (.bool false)))), mvI 47 (.t 56)])
  (.cond (.t 47) (.seq (.reg false [mvI 2 (kI 5)])
  .ret) (.seq (.reg false [opI 58 (.fadr 1 (.t 1)), opI 59 (.load 1 false (.t 58)), opI 60 (.arith .lss (.t 59) (kI 1)), mvI 57 (.t 60)])
  (.cond (.t 57) (.seq (.reg false [mvI 2 (kI 3)])
  .ret) .skip)))))))))))
  (.seq (.seq (.reg true [opI 62 (.fadr 0 (.t 1)), opI 63 (.load 1 false (.t 62)), opI 64 (.fadr 1 (.t 1)), opI 65 (.load 1 false (.t 64)), opI 66 (.fadr 2 (.t 1)), opI 67 (.load 1 false (.t 66)), opI 68 (.fadr 4 (.t 1)), opI 69 (.load 1 false (.t 68)), opI 70 (.callf f_term_widths [(.t 69)]), opI 71 (.callf f_opinfo_Width [(.t 63), (.t 65), (.t 67), (.t 70)]), mvI 61 (.t 71), opI 72 (.extract (.t 61) 0), opI 73 (.extract (.t 61) 1), mvI 3 (.t 72), mvI 4 (.t 73)])
  (.seq (.reg false [mvI 74 (.t 4), opI 75 (.arith .neq (.t 74) (kI 0)), mvI 76 (.t 75), ⟨some 77, .mv (.t 3) false, some (76, false)⟩, ⟨some 78, .fadr 1 (.t 1), some (76, false)⟩, ⟨some 79, .load 1 false (.t 78), some (76, false)⟩, ⟨some 80, .arith .neq (.t 77) (.t 79), some (76, false)⟩, opI 81 (.pick (.t 76) (.c (.p (.bool true))) (.t 80))])
  (.cond (.t 81) (.seq (.reg false [mvI 2 (kI 3)])
  .ret) .skip)))
  (.seq (.reg false [mvI 2 (kI 0)])
  .ret)))), false⟩
def B0_r06_count : K :=
  (.seq (.seq (.reg false [mvI 16 (.t 7), opI 17 (.fadr 4 (.t 3)), opI 18 (.load 1 false (.t 17)), opI 19 (.lenS (.t 18)), opI 20 (.arith .lss (.t 16) (.t 19)), mvI 21 (.t 20), ⟨some 22, .mv (.t 2) false, some (21, true)⟩, ⟨some 23, .arith .geq (.t 22) (kI 0), some (21, true)⟩, opI 24 (.pick (.t 21) (.t 23) (.c (.p (.bool false))))])
  (.cond (.t 24) .skip (.exit 0)))
  (.seq (.block 1 (.reg false [opI 27 (.fadr 4 (.t 3)), opI 28 (.load 1 false (.t 27)), mvI 29 (.t 7), opI 30 (.iadrS 5 (.t 28) (.t 29)), opI 31 (.load 5 true (.t 30)), mvI 32 (.t 1), opI 33 (.arith .sub (.t 32) (kI 1)), mvI 34 (.t 2), opI 35 (.callf f_r06_count [(.t 31), (.t 33), (.t 34)]), mvI 2 (.t 35)]))
  (.reg false [mvI 25 (.t 7), opI 26 (.arith .add (.t 25) (kI 1)), mvI 7 (.t 26)])))
def L0_r06_count : K := .loop [1, 2, 3, 7] B0_r06_count
def F_r06_count : AFn := ⟨37, [.tmp 6],
  (.seq (.reg false [opI 3 (.box 5 true (.t 0) true), mvI 6 (kI 0)])
  (.seq (.seq (.reg false [mvI 8 (.t 1), opI 9 (.arith .lss (.t 8) (kI 1)), mvI 10 (.t 9), ⟨some 11, .mv (.t 2) false, some (10, false)⟩, ⟨some 12, .arith .lss (.t 11) (kI 1), some (10, false)⟩, opI 13 (.pick (.t 10) (.c (.p (.bool true))) (.t 12))])
  (.cond (.t 13) (.seq (.reg false [mvI 6 (kI (-1))])
  .ret) .skip))
  (.seq (.reg false [mvI 14 (.t 2), opI 15 (.arith .sub (.t 14) (kI 1)), mvI 2 (.t 15)])
  (.seq (.seq (.reg false [mvI 7 (kI 0)])
  (.block 0 L0_r06_count))
  (.seq (.reg false [mvI 36 (.t 2), mvI 6 (.t 36)])
  .ret))))), false⟩
def B0_r06_nodes : K :=
  (.seq (.seq (.reg false [mvI 5 (.t 3), opI 6 (.fadr 4 (.t 1)), opI 7 (.load 1 false (.t 6)), opI 8 (.lenS (.t 7)), opI 9 (.arith .lss (.t 5) (.t 8))])
  (.cond (.t 9) .skip (.exit 0)))
  (.seq (.block 1 (.seq (.reg false [opI 12 (.fadr 4 (.t 1)), opI 13 (.load 1 false (.t 12)), mvI 14 (.t 3), opI 15 (.iadrS 5 (.t 13) (.t 14)), opI 16 (.load 5 true (.t 15)), opI 17 (.callf f_r06_nodes [(.t 16)]), mvI 4 (.t 17)])
  (.seq (.reg false [mvI 18 (.t 4), opI 19 (.arith .neq (.t 18) (kI 0))])
  (.cond (.t 19) (.seq (.reg false [mvI 20 (.t 4), mvI 2 (.t 20)])
  .ret) .skip))))
  (.reg false [mvI 10 (.t 3), opI 11 (.arith .add (.t 10) (kI 1)), mvI 3 (.t 11)])))
def L0_r06_nodes : K := .loop [1, 3] B0_r06_nodes
def F_r06_nodes : AFn := ⟨23, [.tmp 2],
  (.seq (.reg false [opI 1 (.box 5 true (.t 0) true), mvI 2 (kI 0)])
  (.seq (.seq (.reg false [mvI 3 (kI 0)])
  (.block 0 L0_r06_nodes))
  (.seq (.reg false [opI 21 (.load 5 true (.t 1)), opI 22 (.callf f_r06_Node [(.t 21)]), mvI 2 (.t 22)])
  .ret))), false⟩
def B0_term_preorder : K :=
  (.seq (.reg false [opI 15 (.arith .lss (.t 14) (.t 13))])
  (.seq (.cond (.t 15) .skip (.exit 0))
  (.seq (.block 1 (.seq (.reg false [opI 16 (.iadrS 5 (.t 12) (.t 14)), opI 17 (.load 5 true (.t 16)), opI 6 (.init 5 true (.t 17) true)])
  (.seq (.reg false [opI 18 (.load 5 true (.t 6)), mvI 19 (.t 1), opI 20 (.callf f_term_preorder [(.t 18), (.t 19)]), opI 21 (.not (.t 20))])
  (.cond (.t 21) (.seq (.reg false [mvI 4 (.c (.p (.bool false)))])
  .ret) .skip))))
  (.reg false [opI 22 (.arith .add (.t 14) (kI 1)), mvI 14 (.t 22)]))))
def L0_term_preorder : K := .loop [1, 12, 13, 14] B0_term_preorder
def F_term_preorder : AFn := ⟨23, [.tmp 4],
  (.seq (.reg false [opI 2 (.box 5 true (.t 0) true), mvI 4 (.c (.p (.bool false)))])
  (.seq (.seq (.reg false [mvI 7 (.t 1), opI 8 (.load 5 true (.t 2)), opI 9 (.callv (.t 7) [(.t 8)]), opI 10 (.not (.t 9))])
  (.cond (.t 10) (.seq (.reg false [mvI 4 (.c (.p (.bool false)))])
  .ret) .skip))
  (.seq (.seq (.reg false [opI 11 (.fadr 4 (.t 2)), opI 12 (.load 1 false (.t 11)), opI 13 (.lenS (.t 12)), mvI 14 (kI 0)])
  (.block 0 L0_term_preorder))
  (.seq (.reg false [mvI 4 (.c (.p (.bool true)))])
  .ret)))), true⟩
def F_term_Vars_1 : AFn := ⟨23, [.tmp 3],
  (.seq (.reg false [opI 2 (.box 5 true (.t 0) true), mvI 3 (.c (.p (.bool false)))])
  (.seq (.reg false [opI 5 (.mkfn f_term_Vars_1_1 [(.t 2)]), mvI 4 (.t 5)])
  (.seq (.seq (.reg false [opI 6 (.fadr 0 (.t 2)), opI 7 (.load 1 false (.t 6)), opI 8 (.arith .eql (.t 7) (kI 1)), mvI 9 (.t 8), ⟨some 10, .load 1 false (.t 1), some (9, true)⟩, ⟨some 11, .mv (.t 4) false, some (9, true)⟩, ⟨some 12, .callf f_slices_ContainsFunc_api_Var_api_Var [(.t 10), (.t 11)], some (9, true)⟩, ⟨some 13, .not (.t 12), some (9, true)⟩, opI 14 (.pick (.t 9) (.t 13) (.c (.p (.bool false))))])
  (.cond (.t 14) (.reg false [opI 15 (.load 1 false (.t 1)), opI 16 (.fadr 3 (.t 2)), opI 17 (.load 1 false (.t 16)), opI 18 (.fadr 1 (.t 2)), opI 19 (.load 1 false (.t 18)), opI 20 (.build [(.p (.str (bs []))), (.p (.int .i64 0))] [(0, 1, (.t 17)), (1, 1, (.t 19))]), opI 21 (.bslice 2 [(.p (.str (bs []))), (.p (.int .i64 0))] 1 [(0, 2, (.t 20))]), opI 22 (.append 2 24 (.t 15) (.t 21)), ⟨none, .store 1 (.t 1) (.t 22), none⟩]) .skip))
  (.seq (.reg false [mvI 3 (.c (.p (.bool true)))])
  .ret)))), true⟩
def F_term_Vars_1_1 : AFn := ⟨9, [.tmp 3],
  (.seq (.reg false [opI 2 (.box 2 true (.t 0) true), mvI 3 (.c (.p (.bool false)))])
  (.seq (.reg false [opI 4 (.fadr 0 (.t 2)), opI 5 (.load 1 false (.t 4)), opI 6 (.fadr 3 (.t 1)), opI 7 (.load 1 false (.t 6)), opI 8 (.arith .eql (.t 5) (.t 7)), mvI 3 (.t 8)])
  .ret)), false⟩
def F_slices_ContainsFunc_api_Var_api_Var : AFn := ⟨9, [.tmp 4],
  (.seq (.reg false [mvI 4 (.c (.p (.bool false)))])
  (.seq (.reg false [mvI 5 (.t 0), mvI 6 (.t 1), opI 7 (.callf f_slices_IndexFunc_api_Var_api_Var [(.t 5), (.t 6)]), opI 8 (.arith .geq (.t 7) (kI 0)), mvI 4 (.t 8)])
  .ret)), false⟩
def F_term_Vars_2 : AFn := ⟨10, [.tmp 4],
  (.seq (.reg false [opI 2 (.box 2 true (.t 0) true), opI 3 (.box 2 true (.t 1) true), mvI 4 (kI 0)])
  (.seq (.reg false [opI 5 (.fadr 0 (.t 2)), opI 6 (.load 1 false (.t 5)), opI 7 (.fadr 0 (.t 3)), opI 8 (.load 1 false (.t 7)), opI 9 (.callf f_strings_Compare [(.t 6), (.t 8)]), mvI 4 (.t 9)])
  .ret)), false⟩
def F_strings_Compare : AFn := ⟨8, [.tmp 4],
  (.seq (.reg false [mvI 4 (kI 0)])
  (.seq (.reg false [mvI 5 (.t 0), mvI 6 (.t 1), opI 7 (.callf f_internal_bytealg_CompareString [(.t 5), (.t 6)]), mvI 4 (.t 7)])
  .ret)), false⟩
def B0_r06_Pre : K :=
  (.seq (.seq (.reg false [mvI 7 (.t 4), opI 8 (.fadr 4 (.t 1)), opI 9 (.load 1 false (.t 8)), opI 10 (.lenS (.t 9)), opI 11 (.arith .lss (.t 7) (.t 10))])
  (.cond (.t 11) .skip (.exit 0)))
  (.seq (.block 1 (.reg false [mvI 14 (.t 3), opI 15 (.fadr 4 (.t 1)), opI 16 (.load 1 false (.t 15)), mvI 17 (.t 4), opI 18 (.iadrS 5 (.t 16) (.t 17)), opI 19 (.load 5 true (.t 18)), opI 20 (.callf f_r06_Pre [(.t 19)]), opI 21 (.append 5 64 (.t 14) (.t 20)), opI 3 (.mv (.t 21) true)]))
  (.reg false [mvI 12 (.t 4), opI 13 (.arith .add (.t 12) (kI 1)), mvI 4 (.t 13)])))
def L0_r06_Pre : K := .loop [1, 3, 4] B0_r06_Pre
def F_r06_Pre : AFn := ⟨23, [.tmp 2],
  (.seq (.reg false [opI 1 (.box 5 true (.t 0) true), mvI 2 (.c .nils)])
  (.seq (.reg false [opI 5 (.load 5 true (.t 1)), opI 6 (.bslice 5 [(.p (.int .i64 0)), (.p (.int .i64 0)), (.p (.int .u64 0)), (.p (.str (bs []))), .nils] 1 [(0, 5, (.t 5))]), opI 3 (.mv (.t 6) true)])
  (.seq (.seq (.reg false [mvI 4 (kI 0)])
  (.block 0 L0_r06_Pre))
  (.seq (.reg false [mvI 22 (.t 3), mvI 2 (.t 22)])
  .ret)))), false⟩
def F_term_clamp : AFn := ⟨6, [.tmp 2],
  (.seq (.reg false [mvI 2 (kI 0)])
  (.seq (.reg false [mvI 3 (.t 0), opI 4 (.minmax false [(.t 3), (kI 64)]), opI 5 (.minmax true [(kI 1), (.t 4)]), mvI 2 (.t 5)])
  .ret)), false⟩
def B0_opinfo_Width : K :=
  (.seq (.reg false [opI 25 (.arith .lss (.t 24) (.t 23))])
  (.seq (.cond (.t 25) .skip (.exit 0))
  (.seq (.block 1 (.seq (.reg false [opI 26 (.iadrS 1 (.t 22) (.t 24)), opI 27 (.load 1 false (.t 26)), mvI 11 (.t 27)])
  (.seq (.reg false [mvI 28 (.t 11), opI 29 (.callf f_opinfo_inside [(.t 28)]), opI 30 (.not (.t 29))])
  (.cond (.t 30) (.seq (.reg false [mvI 8 (kI 0), mvI 9 (kI 3)])
  .ret) .skip))))
  (.reg false [opI 31 (.arith .add (.t 24) (kI 1)), mvI 24 (.t 31)]))))
def L0_opinfo_Width : K := .loop [0, 1, 2, 3, 22, 23, 24] B0_opinfo_Width
def F_opinfo_Width : AFn := ⟨144, [.tmp 8, .tmp 9],
  (.seq (.reg false [mvI 8 (kI 0), mvI 9 (kI 0)])
  (.seq (.seq (.reg false [mvI 12 (.t 0), opI 13 (.callf f_opinfo_known [(.t 12)]), opI 14 (.not (.t 13)), mvI 15 (.t 14), ⟨some 16, .mv (.t 3) false, some (15, false)⟩, ⟨some 17, .lenS (.t 16), some (15, false)⟩, ⟨some 18, .mv (.t 0) false, some (15, false)⟩, ⟨some 19, .callf f_opinfo_Arity [(.t 18)], some (15, false)⟩, ⟨some 20, .arith .neq (.t 17) (.t 19), some (15, false)⟩, opI 21 (.pick (.t 15) (.c (.p (.bool true))) (.t 20))])
  (.cond (.t 21) (.seq (.reg false [mvI 8 (kI 0), mvI 9 (kI 4)])
  .ret) .skip))
  (.seq (.seq (.reg false [mvI 22 (.t 3), opI 23 (.lenS (.t 22)), mvI 24 (kI 0)])
  (.block 0 L0_opinfo_Width))
  (.seq (.seq (.reg false [mvI 32 (.t 0)])
  (.block 2 (.seq (.seq (.reg false [opI 34 (.arith .eql (.t 32) (kI 1)), mvI 33 (.t 34)])
  (.cond (.t 33) .skip (.seq (.reg false [opI 35 (.arith .eql (.t 32) (kI 2)), mvI 33 (.t 35)])
  (.cond (.t 33) .skip (.seq (.reg false [opI 36 (.arith .eql (.t 32) (kI 24)), mvI 33 (.t 36)])
  (.cond (.t 33) .skip (.reg false [opI 37 (.arith .eql (.t 32) (kI 25)), mvI 33 (.t 37)])))))))
  (.cond (.t 33) (.seq (.reg false [mvI 38 (.t 0), mvI 39 (.t 1), mvI 40 (.t 2), opI 41 (.callf f_opinfo_leaf [(.t 38), (.t 39), (.t 40)]), opI 42 (.extract (.t 41) 0), opI 43 (.extract (.t 41) 1), mvI 8 (.t 42), mvI 9 (.t 43)])
  .ret) (.seq (.seq (.reg false [opI 45 (.arith .eql (.t 32) (kI 3)), mvI 44 (.t 45)])
  (.cond (.t 44) .skip (.seq (.reg false [opI 46 (.arith .eql (.t 32) (kI 4)), mvI 44 (.t 46)])
  (.cond (.t 44) .skip (.reg false [opI 47 (.arith .eql (.t 32) (kI 26)), mvI 44 (.t 47)])))))
  (.cond (.t 44) (.seq (.reg false [mvI 48 (.t 3), opI 49 (.iadrS 1 (.t 48) (kI 0)), opI 50 (.load 1 false (.t 49)), mvI 8 (.t 50), mvI 9 (kI 0)])
  .ret) (.seq (.seq (.reg false [opI 52 (.arith .eql (.t 32) (kI 21)), mvI 51 (.t 52)])
  (.cond (.t 51) .skip (.seq (.reg false [opI 53 (.arith .eql (.t 32) (kI 22)), mvI 51 (.t 53)])
  (.cond (.t 51) .skip (.reg false [opI 54 (.arith .eql (.t 32) (kI 23)), mvI 51 (.t 54)])))))
  (.cond (.t 51) (.seq (.reg false [mvI 55 (.t 0), mvI 56 (.t 1), mvI 57 (.t 2), mvI 58 (.t 3), opI 59 (.iadrS 1 (.t 58) (kI 0)), opI 60 (.load 1 false (.t 59)), opI 61 (.callf f_opinfo_resized [(.t 55), (.t 56), (.t 57), (.t 60)]), opI 62 (.extract (.t 61) 0), opI 63 (.extract (.t 61) 1), mvI 8 (.t 62), mvI 9 (.t 63)])
  .ret) (.seq (.reg false [opI 65 (.arith .eql (.t 32) (kI 19)), mvI 64 (.t 65)])
  (.cond (.t 64) (.seq (.reg true [mvI 66 (.t 3), opI 67 (.iadrS 1 (.t 66) (kI 0)), opI 68 (.load 1 false (.t 67)), opI 69 (.arith .eql (.t 68) (kI 1)), mvI 70 (.t 69), ⟨some 71, .mv (.t 3) false, some (70, true)⟩, ⟨some 72, .iadrS 1 (.t 71) (kI 1), some (70, true)⟩, ⟨some 73, .load 1 false (.t 72), some (70, true)⟩, ⟨some 74, .mv (.t 3) false, some (70, true)⟩, ⟨some 75, .iadrS 1 (.t 74) (kI 2), some (70, true)⟩, ⟨some 76, .load 1 false (.t 75), some (70, true)⟩, ⟨some 77, .arith .eql (.t 73) (.t 76), some (70, true)⟩, opI 78 (.pick (.t 70) (.t 77) (.c (.p (.bool false)))), mvI 79 (.t 3), opI 80 (.iadrS 1 (.t 79) (kI 1)), opI 81 (.load 1 false (.t 80)), opI 82 (.callf f_opinfo_agreed [(.t 78), (.t 81)]), opI 83 (.extract (.t 82) 0), opI 84 (.extract (.t 82) 1), mvI 8 (.t 83), mvI 9 (.t 84)])
  .ret) (.seq (.reg false [opI 86 (.arith .eql (.t 32) (kI 20)), mvI 85 (.t 86)])
  (.cond (.t 85) (.seq (.reg true [mvI 87 (.t 3), opI 88 (.iadrS 1 (.t 87) (kI 0)), opI 89 (.load 1 false (.t 88)), opI 90 (.arith .geq (.t 89) (kI 1)), mvI 91 (.t 90), ⟨some 92, .mv (.t 3) false, some (91, true)⟩, ⟨some 93, .iadrS 1 (.t 92) (kI 1), some (91, true)⟩, ⟨some 94, .load 1 false (.t 93), some (91, true)⟩, ⟨some 95, .arith .geq (.t 94) (kI 1), some (91, true)⟩, opI 96 (.pick (.t 91) (.t 95) (.c (.p (.bool false)))), mvI 97 (.t 96), ⟨some 98, .mv (.t 3) false, some (97, true)⟩, ⟨some 99, .iadrS 1 (.t 98) (kI 0), some (97, true)⟩, ⟨some 100, .load 1 false (.t 99), some (97, true)⟩, ⟨some 101, .mv (.t 3) false, some (97, true)⟩, ⟨some 102, .iadrS 1 (.t 101) (kI 1), some (97, true)⟩, ⟨some 103, .load 1 false (.t 102), some (97, true)⟩, ⟨some 104, .arith .add (.t 100) (.t 103), some (97, true)⟩, ⟨some 105, .arith .leq (.t 104) (kI 64), some (97, true)⟩, opI 106 (.pick (.t 97) (.t 105) (.c (.p (.bool false)))), mvI 107 (.t 3), opI 108 (.iadrS 1 (.t 107) (kI 0)), opI 109 (.load 1 false (.t 108)), mvI 110 (.t 3), opI 111 (.iadrS 1 (.t 110) (kI 1)), opI 112 (.load 1 false (.t 111)), opI 113 (.arith .add (.t 109) (.t 112)), opI 114 (.callf f_opinfo_agreed [(.t 106), (.t 113)]), opI 115 (.extract (.t 114) 0), opI 116 (.extract (.t 114) 1), mvI 8 (.t 115), mvI 9 (.t 116)])
  .ret) (.seq (.seq (.reg false [opI 118 (.arith .eql (.t 32) (kI 16)), mvI 117 (.t 118)])
  (.cond (.t 117) .skip (.seq (.reg false [opI 119 (.arith .eql (.t 32) (kI 17)), mvI 117 (.t 119)])
  (.cond (.t 117) .skip (.reg false [opI 120 (.arith .eql (.t 32) (kI 18)), mvI 117 (.t 120)])))))
  (.cond (.t 117) (.seq (.reg true [mvI 121 (.t 3), opI 122 (.iadrS 1 (.t 121) (kI 0)), opI 123 (.load 1 false (.t 122)), mvI 124 (.t 3), opI 125 (.iadrS 1 (.t 124) (kI 1)), opI 126 (.load 1 false (.t 125)), opI 127 (.arith .eql (.t 123) (.t 126)), opI 128 (.callf f_opinfo_agreed [(.t 127), (kI 1)]), opI 129 (.extract (.t 128) 0), opI 130 (.extract (.t 128) 1), mvI 8 (.t 129), mvI 9 (.t 130)])
  .ret) .skip))))))))))))))
  (.seq (.reg true [mvI 131 (.t 3), opI 132 (.iadrS 1 (.t 131) (kI 0)), opI 133 (.load 1 false (.t 132)), mvI 134 (.t 3), opI 135 (.iadrS 1 (.t 134) (kI 1)), opI 136 (.load 1 false (.t 135)), opI 137 (.arith .eql (.t 133) (.t 136)), mvI 138 (.t 3), opI 139 (.iadrS 1 (.t 138) (kI 0)), opI 140 (.load 1 false (.t 139)), opI 141 (.callf f_opinfo_agreed [(.t 137), (.t 140)]), opI 142 (.extract (.t 141) 0), opI 143 (.extract (.t 141) 1), mvI 8 (.t 142), mvI 9 (.t 143)])
  .ret))))), false⟩
def B0_term_widths : K :=
  (.seq (.reg false [opI 12 (.arith .lss (.t 11) (.t 10))])
  (.seq (.cond (.t 12) .skip (.exit 0))
  (.seq (.block 1 (.seq (.reg false [mvI 13 (.t 11), opI 14 (.iadrS 5 (.t 9) (.t 11)), opI 15 (.load 5 true (.t 14)), opI 5 (.alloc [(.p (.int .i64 0)), (.p (.int .i64 0)), (.p (.int .u64 0)), (.p (.str (bs []))), .nils] 5), mvI 4 (.t 13), ⟨none, .store 5 (.t 5) (.t 15), none⟩])
  (.reg false [mvI 16 (.t 3), mvI 17 (.t 4), opI 18 (.fadr 1 (.t 5)), opI 19 (.load 1 false (.t 18)), opI 20 (.iadrS 1 (.t 16) (.t 17)), ⟨none, .store 1 (.t 20) (.t 19), none⟩])))
  (.reg false [opI 21 (.arith .add (.t 11) (kI 1)), mvI 11 (.t 21)]))))
def L0_term_widths : K := .loop [3, 9, 10, 11] B0_term_widths
def F_term_widths : AFn := ⟨23, [.tmp 2],
  (.seq (.reg false [mvI 2 (.c .nils)])
  (.seq (.reg false [mvI 6 (.t 0), opI 7 (.lenS (.t 6)), opI 8 (.mkslice 1 8 [(.p (.int .i64 0))] (.t 7) (.t 7)), mvI 3 (.t 8)])
  (.seq (.seq (.reg false [mvI 9 (.t 0), opI 10 (.lenS (.t 9)), mvI 11 (kI 0)])
  (.block 0 L0_term_widths))
  (.seq (.reg false [mvI 22 (.t 3), mvI 2 (.t 22)])
  .ret)))), false⟩
def F_r06_clamp : AFn := ⟨6, [.tmp 2],
  (.seq (.reg false [mvI 2 (kI 0)])
  (.seq (.reg false [mvI 3 (.t 0), opI 4 (.minmax true [(.t 3), (kI 1)]), opI 5 (.minmax false [(.t 4), (kI 64)]), mvI 2 (.t 5)])
  .ret)), false⟩
def F_r06_Cut : AFn := ⟨13, [.tmp 4],
  (.seq (.reg false [mvI 4 (.c (.p (.int .u64 0)))])
  (.seq (.seq (.reg false [mvI 5 (.t 0), opI 6 (.arith .geq (.t 5) (kI 64))])
  (.cond (.t 6) (.seq (.reg false [mvI 7 (.t 1), mvI 4 (.t 7)])
  .ret) .skip))
  (.seq (.reg false [mvI 8 (.t 1), mvI 9 (.t 0), opI 10 (.conv .u64 (.t 9)), opI 11 (.arith .shl (.c (.p (.int .u64 1))) (.t 10)), opI 12 (.arith .rem (.t 8) (.t 11)), mvI 4 (.t 12)])
  .ret))), false⟩
def B0_r04_Width : K :=
  (.seq (.reg false [opI 24 (.arith .lss (.t 23) (.t 22))])
  (.seq (.cond (.t 24) .skip (.exit 0))
  (.seq (.block 1 (.seq (.reg false [mvI 25 (.t 23), mvI 10 (.t 25)])
  (.seq (.reg false [mvI 26 (.t 3), mvI 27 (.t 10), opI 28 (.iadrS 1 (.t 26) (.t 27)), opI 29 (.load 1 false (.t 28)), opI 30 (.callf f_r04_width [(.t 29)]), opI 31 (.not (.t 30))])
  (.cond (.t 31) (.seq (.reg false [mvI 8 (kI 0), mvI 9 (kI 3)])
  .ret) .skip))))
  (.reg false [opI 32 (.arith .add (.t 23) (kI 1)), mvI 23 (.t 32)]))))
def L0_r04_Width : K := .loop [0, 1, 2, 3, 22, 23] B0_r04_Width
def F_r04_Width : AFn := ⟨133, [.tmp 8, .tmp 9],
  (.seq (.reg false [mvI 8 (kI 0), mvI 9 (kI 0)])
  (.seq (.seq (.reg false [mvI 11 (.t 0), opI 12 (.callf f_r04_Arity [(.t 11)]), opI 13 (.arith .lss (.t 12) (kI 0)), mvI 14 (.t 13), ⟨some 15, .mv (.t 3) false, some (14, false)⟩, ⟨some 16, .lenS (.t 15), some (14, false)⟩, ⟨some 17, .mv (.t 0) false, some (14, false)⟩, ⟨some 18, .callf f_r04_Arity [(.t 17)], some (14, false)⟩, ⟨some 19, .arith .neq (.t 16) (.t 18), some (14, false)⟩, opI 20 (.pick (.t 14) (.c (.p (.bool true))) (.t 19))])
  (.cond (.t 20) (.seq (.reg false [mvI 8 (kI 0), mvI 9 (kI 4)])
  .ret) .skip))
  (.seq (.seq (.reg false [mvI 21 (.t 3), opI 22 (.lenS (.t 21)), mvI 23 (kI 0)])
  (.block 0 L0_r04_Width))
  (.seq (.seq (.reg false [mvI 33 (.t 0), opI 34 (.callf f_r04_Leaf [(.t 33)])])
  (.cond (.t 34) (.seq (.reg false [mvI 35 (.t 0), mvI 36 (.t 1), mvI 37 (.t 2), opI 38 (.callf f_r04_leaf [(.t 35), (.t 36), (.t 37)]), opI 39 (.extract (.t 38) 0), opI 40 (.extract (.t 38) 1), mvI 8 (.t 39), mvI 9 (.t 40)])
  .ret) .skip))
  (.seq (.seq (.reg false [mvI 41 (.t 0), opI 42 (.arith .eql (.t 41) (kI 21)), mvI 43 (.t 42), ⟨some 44, .mv (.t 0) false, some (43, false)⟩, ⟨some 45, .arith .eql (.t 44) (kI 22), some (43, false)⟩, opI 46 (.pick (.t 43) (.c (.p (.bool true))) (.t 45)), mvI 47 (.t 46), ⟨some 48, .mv (.t 0) false, some (47, false)⟩, ⟨some 49, .arith .eql (.t 48) (kI 23), some (47, false)⟩, opI 50 (.pick (.t 47) (.c (.p (.bool true))) (.t 49))])
  (.cond (.t 50) (.seq (.reg false [mvI 51 (.t 0), mvI 52 (.t 1), mvI 53 (.t 2), mvI 54 (.t 3), opI 55 (.iadrS 1 (.t 54) (kI 0)), opI 56 (.load 1 false (.t 55)), opI 57 (.callf f_r04_parts [(.t 51), (.t 52), (.t 53), (.t 56)]), opI 58 (.extract (.t 57) 0), opI 59 (.extract (.t 57) 1), mvI 8 (.t 58), mvI 9 (.t 59)])
  .ret) .skip))
  (.seq (.seq (.reg false [mvI 60 (.t 3), opI 61 (.lenS (.t 60)), opI 62 (.arith .eql (.t 61) (kI 1))])
  (.cond (.t 62) (.seq (.reg false [mvI 63 (.t 3), opI 64 (.iadrS 1 (.t 63) (kI 0)), opI 65 (.load 1 false (.t 64)), mvI 8 (.t 65), mvI 9 (kI 0)])
  .ret) .skip))
  (.seq (.seq (.reg false [mvI 66 (.t 0), opI 67 (.arith .eql (.t 66) (kI 20))])
  (.cond (.t 67) (.seq (.seq (.reg true [mvI 68 (.t 3), opI 69 (.iadrS 1 (.t 68) (kI 0)), opI 70 (.load 1 false (.t 69)), opI 71 (.arith .lss (.t 70) (kI 1)), mvI 72 (.t 71), ⟨some 73, .mv (.t 3) false, some (72, false)⟩, ⟨some 74, .iadrS 1 (.t 73) (kI 1), some (72, false)⟩, ⟨some 75, .load 1 false (.t 74), some (72, false)⟩, ⟨some 76, .arith .lss (.t 75) (kI 1), some (72, false)⟩, opI 77 (.pick (.t 72) (.c (.p (.bool true))) (.t 76)), mvI 78 (.t 77), ⟨some 79, .mv (.t 3) false, some (78, false)⟩, ⟨some 80, .iadrS 1 (.t 79) (kI 0), some (78, false)⟩, ⟨some 81, .load 1 false (.t 80), some (78, false)⟩, ⟨some 82, .mv (.t 3) false, some (78, false)⟩, ⟨some 83, .iadrS 1 (.t 82) (kI 1), some (78, false)⟩, ⟨some 84, .load 1 false (.t 83), some (78, false)⟩, ⟨some 85, .arith .add (.t 81) (.t 84), some (78, false)⟩, ⟨some 86, .arith .gtr (.t 85) (kI 64), some (78, false)⟩, opI 87 (.pick (.t 78) (.c (.p (.bool true))) (.t 86))])
  (.cond (.t 87) (.seq (.reg false [mvI 8 (kI 0), mvI 9 (kI 3)])
  .ret) .skip))
  (.seq (.reg true [mvI 88 (.t 3), opI 89 (.iadrS 1 (.t 88) (kI 0)), opI 90 (.load 1 false (.t 89)), mvI 91 (.t 3), opI 92 (.iadrS 1 (.t 91) (kI 1)), opI 93 (.load 1 false (.t 92)), opI 94 (.arith .add (.t 90) (.t 93)), mvI 8 (.t 94), mvI 9 (kI 0)])
  .ret)) .skip))
  (.seq (.seq (.reg false [mvI 95 (.t 0), opI 96 (.arith .eql (.t 95) (kI 19))])
  (.cond (.t 96) (.seq (.seq (.reg true [mvI 97 (.t 3), opI 98 (.iadrS 1 (.t 97) (kI 0)), opI 99 (.load 1 false (.t 98)), opI 100 (.arith .neq (.t 99) (kI 1)), mvI 101 (.t 100), ⟨some 102, .mv (.t 3) false, some (101, false)⟩, ⟨some 103, .iadrS 1 (.t 102) (kI 1), some (101, false)⟩, ⟨some 104, .load 1 false (.t 103), some (101, false)⟩, ⟨some 105, .mv (.t 3) false, some (101, false)⟩, ⟨some 106, .iadrS 1 (.t 105) (kI 2), some (101, false)⟩, ⟨some 107, .load 1 false (.t 106), some (101, false)⟩, ⟨some 108, .arith .neq (.t 104) (.t 107), some (101, false)⟩, opI 109 (.pick (.t 101) (.c (.p (.bool true))) (.t 108))])
  (.cond (.t 109) (.seq (.reg false [mvI 8 (kI 0), mvI 9 (kI 3)])
  .ret) .skip))
  (.seq (.reg false [mvI 110 (.t 3), opI 111 (.iadrS 1 (.t 110) (kI 1)), opI 112 (.load 1 false (.t 111)), mvI 8 (.t 112), mvI 9 (kI 0)])
  .ret)) .skip))
  (.seq (.seq (.reg true [mvI 113 (.t 3), opI 114 (.iadrS 1 (.t 113) (kI 0)), opI 115 (.load 1 false (.t 114)), mvI 116 (.t 3), opI 117 (.iadrS 1 (.t 116) (kI 1)), opI 118 (.load 1 false (.t 117)), opI 119 (.arith .neq (.t 115) (.t 118))])
  (.cond (.t 119) (.seq (.reg false [mvI 8 (kI 0), mvI 9 (kI 3)])
  .ret) .skip))
  (.seq (.seq (.reg false [mvI 120 (.t 0), opI 121 (.arith .eql (.t 120) (kI 16)), mvI 122 (.t 121), ⟨some 123, .mv (.t 0) false, some (122, false)⟩, ⟨some 124, .arith .eql (.t 123) (kI 17), some (122, false)⟩, opI 125 (.pick (.t 122) (.c (.p (.bool true))) (.t 124)), mvI 126 (.t 125), ⟨some 127, .mv (.t 0) false, some (126, false)⟩, ⟨some 128, .arith .eql (.t 127) (kI 18), some (126, false)⟩, opI 129 (.pick (.t 126) (.c (.p (.bool true))) (.t 128))])
  (.cond (.t 129) (.seq (.reg false [mvI 8 (kI 1), mvI 9 (kI 0)])
  .ret) .skip))
  (.seq (.reg false [mvI 130 (.t 3), opI 131 (.iadrS 1 (.t 130) (kI 0)), opI 132 (.load 1 false (.t 131)), mvI 8 (.t 132), mvI 9 (kI 0)])
  .ret))))))))))), false⟩
def B0_r06_Widths : K :=
  (.seq (.seq (.reg false [mvI 5 (.t 4), mvI 6 (.t 0), opI 7 (.lenS (.t 6)), opI 8 (.arith .lss (.t 5) (.t 7))])
  (.cond (.t 8) .skip (.exit 0)))
  (.seq (.block 1 (.reg false [mvI 11 (.t 3), mvI 12 (.t 0), mvI 13 (.t 4), opI 14 (.iadrS 5 (.t 12) (.t 13)), opI 15 (.fadr 1 (.t 14)), opI 16 (.load 1 false (.t 15)), opI 17 (.bslice 1 [(.p (.int .i64 0))] 1 [(0, 1, (.t 16))]), opI 18 (.append 1 8 (.t 11) (.t 17)), opI 3 (.mv (.t 18) true)]))
  (.reg false [mvI 9 (.t 4), opI 10 (.arith .add (.t 9) (kI 1)), mvI 4 (.t 10)])))
def L0_r06_Widths : K := .loop [0, 3, 4] B0_r06_Widths
def F_r06_Widths : AFn := ⟨20, [.tmp 2],
  (.seq (.reg false [mvI 2 (.c .nils)])
  (.seq (.reg false [opI 3 (.mv (.c .nils) true)])
  (.seq (.seq (.reg false [mvI 4 (kI 0)])
  (.block 0 L0_r06_Widths))
  (.seq (.reg false [mvI 19 (.t 3), mvI 2 (.t 19)])
  .ret)))), false⟩
def F_cmp_Compare_int : AFn := ⟨20, [.tmp 4],
  (.seq (.reg false [mvI 4 (kI 0)])
  (.seq (.reg false [mvI 7 (.t 0), opI 8 (.callf f_cmp_isNaN_int [(.t 7)]), mvI 5 (.t 8)])
  (.seq (.reg false [mvI 9 (.t 1), opI 10 (.callf f_cmp_isNaN_int [(.t 9)]), mvI 6 (.t 10)])
  (.seq (.seq (.reg false [mvI 11 (.t 5)])
  (.cond (.t 11) (.seq (.seq (.reg false [mvI 12 (.t 6)])
  (.cond (.t 12) (.seq (.reg false [mvI 4 (kI 0)])
  .ret) .skip))
  (.seq (.reg false [mvI 4 (kI (-1))])
  .ret)) .skip))
  (.seq (.seq (.reg false [mvI 13 (.t 6)])
  (.cond (.t 13) (.seq (.reg false [mvI 4 (kI 1)])
  .ret) .skip))
  (.seq (.seq (.reg false [mvI 14 (.t 0), mvI 15 (.t 1), opI 16 (.arith .lss (.t 14) (.t 15))])
  (.cond (.t 16) (.seq (.reg false [mvI 4 (kI (-1))])
  .ret) .skip))
  (.seq (.seq (.reg false [mvI 17 (.t 0), mvI 18 (.t 1), opI 19 (.arith .gtr (.t 17) (.t 18))])
  (.cond (.t 19) (.seq (.reg false [mvI 4 (kI 1)])
  .ret) .skip))
  (.seq (.reg false [mvI 4 (kI 0)])
  .ret)))))))), false⟩
def B0_cmp_Or_int : K :=
  (.seq (.reg false [opI 9 (.arith .lss (.t 8) (.t 7))])
  (.seq (.cond (.t 9) .skip (.exit 0))
  (.seq (.block 1 (.seq (.reg false [opI 10 (.iadrS 1 (.t 6) (.t 8)), opI 11 (.load 1 false (.t 10)), mvI 5 (.t 11)])
  (.seq (.reg false [mvI 12 (.t 5), mvI 13 (.t 3), opI 14 (.arith .neq (.t 12) (.t 13))])
  (.cond (.t 14) (.seq (.reg false [mvI 15 (.t 5), mvI 2 (.t 15)])
  .ret) .skip))))
  (.reg false [opI 16 (.arith .add (.t 8) (kI 1)), mvI 8 (.t 16)]))))
def L0_cmp_Or_int : K := .loop [3, 6, 7, 8] B0_cmp_Or_int
def F_cmp_Or_int : AFn := ⟨18, [.tmp 2],
  (.seq (.reg false [mvI 2 (kI 0)])
  (.seq (.reg false [mvI 3 (kI 0)])
  (.seq (.seq (.reg false [mvI 6 (.t 0), opI 7 (.lenS (.t 6)), mvI 8 (kI 0)])
  (.block 0 L0_cmp_Or_int))
  (.seq (.reg false [mvI 17 (.t 3), mvI 2 (.t 17)])
  .ret)))), false⟩
def F_cmp_Compare_api_Op : AFn := ⟨20, [.tmp 4],
  (.seq (.reg false [mvI 4 (kI 0)])
  (.seq (.reg false [mvI 7 (.t 0), opI 8 (.callf f_cmp_isNaN_api_Op [(.t 7)]), mvI 5 (.t 8)])
  (.seq (.reg false [mvI 9 (.t 1), opI 10 (.callf f_cmp_isNaN_api_Op [(.t 9)]), mvI 6 (.t 10)])
  (.seq (.seq (.reg false [mvI 11 (.t 5)])
  (.cond (.t 11) (.seq (.seq (.reg false [mvI 12 (.t 6)])
  (.cond (.t 12) (.seq (.reg false [mvI 4 (kI 0)])
  .ret) .skip))
  (.seq (.reg false [mvI 4 (kI (-1))])
  .ret)) .skip))
  (.seq (.seq (.reg false [mvI 13 (.t 6)])
  (.cond (.t 13) (.seq (.reg false [mvI 4 (kI 1)])
  .ret) .skip))
  (.seq (.seq (.reg false [mvI 14 (.t 0), mvI 15 (.t 1), opI 16 (.arith .lss (.t 14) (.t 15))])
  (.cond (.t 16) (.seq (.reg false [mvI 4 (kI (-1))])
  .ret) .skip))
  (.seq (.seq (.reg false [mvI 17 (.t 0), mvI 18 (.t 1), opI 19 (.arith .gtr (.t 17) (.t 18))])
  (.cond (.t 19) (.seq (.reg false [mvI 4 (kI 1)])
  .ret) .skip))
  (.seq (.reg false [mvI 4 (kI 0)])
  .ret)))))))), false⟩
def F_cmp_Compare_uint64 : AFn := ⟨20, [.tmp 4],
  (.seq (.reg false [mvI 4 (kI 0)])
  (.seq (.reg false [mvI 7 (.t 0), opI 8 (.callf f_cmp_isNaN_uint64 [(.t 7)]), mvI 5 (.t 8)])
  (.seq (.reg false [mvI 9 (.t 1), opI 10 (.callf f_cmp_isNaN_uint64 [(.t 9)]), mvI 6 (.t 10)])
  (.seq (.seq (.reg false [mvI 11 (.t 5)])
  (.cond (.t 11) (.seq (.seq (.reg false [mvI 12 (.t 6)])
  (.cond (.t 12) (.seq (.reg false [mvI 4 (kI 0)])
  .ret) .skip))
  (.seq (.reg false [mvI 4 (kI (-1))])
  .ret)) .skip))
  (.seq (.seq (.reg false [mvI 13 (.t 6)])
  (.cond (.t 13) (.seq (.reg false [mvI 4 (kI 1)])
  .ret) .skip))
  (.seq (.seq (.reg false [mvI 14 (.t 0), mvI 15 (.t 1), opI 16 (.arith .lss (.t 14) (.t 15))])
  (.cond (.t 16) (.seq (.reg false [mvI 4 (kI (-1))])
  .ret) .skip))
  (.seq (.seq (.reg false [mvI 17 (.t 0), mvI 18 (.t 1), opI 19 (.arith .gtr (.t 17) (.t 18))])
  (.cond (.t 19) (.seq (.reg false [mvI 4 (kI 1)])
  .ret) .skip))
  (.seq (.reg false [mvI 4 (kI 0)])
  .ret)))))))), false⟩
def B0_slices_CompareFunc_api_Term_api_Term_api_Term_api_Term : K :=
  (.seq (.reg false [opI 14 (.arith .lss (.t 13) (.t 12))])
  (.seq (.cond (.t 14) .skip (.exit 0))
  (.seq (.block 1 (.seq (.reg false [mvI 15 (.t 13), opI 16 (.iadrS 5 (.t 11) (.t 13)), opI 17 (.load 5 true (.t 16)), opI 8 (.alloc [(.p (.int .i64 0)), (.p (.int .i64 0)), (.p (.int .u64 0)), (.p (.str (bs []))), .nils] 5), mvI 7 (.t 15), ⟨none, .store 5 (.t 8) (.t 17), none⟩])
  (.seq (.seq (.reg false [mvI 18 (.t 7), mvI 19 (.t 1), opI 20 (.lenS (.t 19)), opI 21 (.arith .geq (.t 18) (.t 20))])
  (.cond (.t 21) (.seq (.reg false [mvI 6 (kI 1)])
  .ret) .skip))
  (.seq (.reg false [mvI 22 (.t 1), mvI 23 (.t 7), opI 24 (.iadrS 5 (.t 22) (.t 23)), opI 25 (.load 5 true (.t 24)), opI 9 (.init 5 true (.t 25) true)])
  (.seq (.reg false [mvI 26 (.t 2), opI 27 (.load 5 true (.t 8)), opI 28 (.load 5 true (.t 9)), opI 29 (.callv (.t 26) [(.t 27), (.t 28)]), mvI 10 (.t 29)])
  (.seq (.reg false [mvI 30 (.t 10), opI 31 (.arith .neq (.t 30) (kI 0))])
  (.cond (.t 31) (.seq (.reg false [mvI 32 (.t 10), mvI 6 (.t 32)])
  .ret) .skip)))))))
  (.reg false [opI 33 (.arith .add (.t 13) (kI 1)), mvI 13 (.t 33)]))))
def L0_slices_CompareFunc_api_Term_api_Term_api_Term_api_Term : K := .loop [0, 1, 2, 11, 12, 13] B0_slices_CompareFunc_api_Term_api_Term_api_Term_api_Term
def F_slices_CompareFunc_api_Term_api_Term_api_Term_api_Term : AFn := ⟨39, [.tmp 6],
  (.seq (.reg false [mvI 6 (kI 0)])
  (.seq (.seq (.reg false [mvI 11 (.t 0), opI 12 (.lenS (.t 11)), mvI 13 (kI 0)])
  (.block 0 L0_slices_CompareFunc_api_Term_api_Term_api_Term_api_Term))
  (.seq (.seq (.reg false [mvI 34 (.t 0), opI 35 (.lenS (.t 34)), mvI 36 (.t 1), opI 37 (.lenS (.t 36)), opI 38 (.arith .lss (.t 35) (.t 37))])
  (.cond (.t 38) (.seq (.reg false [mvI 6 (kI (-1))])
  .ret) .skip))
  (.seq (.reg false [mvI 6 (kI 0)])
  .ret)))), false⟩
def F_r06_order : AFn := ⟨13, [.tmp 4],
  (.seq (.reg false [mvI 4 (kI 0)])
  (.seq (.block 0 (.seq (.reg false [mvI 6 (.t 0), mvI 7 (.t 1), opI 8 (.arith .lss (.t 6) (.t 7)), mvI 5 (.t 8)])
  (.cond (.t 5) (.seq (.reg false [mvI 4 (kI (-1))])
  .ret) (.seq (.reg false [mvI 10 (.t 0), mvI 11 (.t 1), opI 12 (.arith .gtr (.t 10) (.t 11)), mvI 9 (.t 12)])
  (.cond (.t 9) (.seq (.reg false [mvI 4 (kI 1)])
  .ret) .skip)))))
  (.seq (.reg false [mvI 4 (kI 0)])
  .ret))), false⟩
def B0_slices_EqualFunc_api_Term_api_Term_api_Term_api_Term : K :=
  (.seq (.reg false [opI 18 (.arith .lss (.t 17) (.t 16))])
  (.seq (.cond (.t 18) .skip (.exit 0))
  (.seq (.block 1 (.seq (.reg false [mvI 19 (.t 17), opI 20 (.iadrS 5 (.t 15) (.t 17)), opI 21 (.load 5 true (.t 20)), opI 8 (.alloc [(.p (.int .i64 0)), (.p (.int .i64 0)), (.p (.int .u64 0)), (.p (.str (bs []))), .nils] 5), mvI 7 (.t 19), ⟨none, .store 5 (.t 8) (.t 21), none⟩])
  (.seq (.reg false [mvI 22 (.t 1), mvI 23 (.t 7), opI 24 (.iadrS 5 (.t 22) (.t 23)), opI 25 (.load 5 true (.t 24)), opI 9 (.init 5 true (.t 25) true)])
  (.seq (.reg false [mvI 26 (.t 2), opI 27 (.load 5 true (.t 8)), opI 28 (.load 5 true (.t 9)), opI 29 (.callv (.t 26) [(.t 27), (.t 28)]), opI 30 (.not (.t 29))])
  (.cond (.t 30) (.seq (.reg false [mvI 6 (.c (.p (.bool false)))])
  .ret) .skip)))))
  (.reg false [opI 31 (.arith .add (.t 17) (kI 1)), mvI 17 (.t 31)]))))
def L0_slices_EqualFunc_api_Term_api_Term_api_Term_api_Term : K := .loop [1, 2, 15, 16, 17] B0_slices_EqualFunc_api_Term_api_Term_api_Term_api_Term
def F_slices_EqualFunc_api_Term_api_Term_api_Term_api_Term : AFn := ⟨32, [.tmp 6],
  (.seq (.reg false [mvI 6 (.c (.p (.bool false)))])
  (.seq (.seq (.reg false [mvI 10 (.t 0), opI 11 (.lenS (.t 10)), mvI 12 (.t 1), opI 13 (.lenS (.t 12)), opI 14 (.arith .neq (.t 11) (.t 13))])
  (.cond (.t 14) (.seq (.reg false [mvI 6 (.c (.p (.bool false)))])
  .ret) .skip))
  (.seq (.seq (.reg false [mvI 15 (.t 0), opI 16 (.lenS (.t 15)), mvI 17 (kI 0)])
  (.block 0 L0_slices_EqualFunc_api_Term_api_Term_api_Term_api_Term))
  (.seq (.reg false [mvI 6 (.c (.p (.bool true)))])
  .ret)))), false⟩
def F_term_All_1 : AFn := ⟨6, [],
  (.seq (.reg false [opI 2 (.box 1 false (.t 0) true)])
  (.reg false [opI 3 (.load 5 true (.t 1)), opI 4 (.mkfn f_term_All_1_1 [(.t 2)]), opI 5 (.callf f_term_postorder [(.t 3), (.t 4)])])), true⟩
def B0_term_postorder : K :=
  (.seq (.reg false [opI 11 (.arith .lss (.t 10) (.t 9))])
  (.seq (.cond (.t 11) .skip (.exit 0))
  (.seq (.block 1 (.seq (.reg false [opI 12 (.iadrS 5 (.t 8) (.t 10)), opI 13 (.load 5 true (.t 12)), opI 6 (.init 5 true (.t 13) true)])
  (.seq (.reg false [opI 14 (.load 5 true (.t 6)), mvI 15 (.t 1), opI 16 (.callf f_term_postorder [(.t 14), (.t 15)]), opI 17 (.not (.t 16))])
  (.cond (.t 17) (.seq (.reg false [mvI 4 (.c (.p (.bool false)))])
  .ret) .skip))))
  (.reg false [opI 18 (.arith .add (.t 10) (kI 1)), mvI 10 (.t 18)]))))
def L0_term_postorder : K := .loop [1, 2, 8, 9, 10] B0_term_postorder
def F_term_postorder : AFn := ⟨22, [.tmp 4],
  (.seq (.reg false [opI 2 (.box 5 true (.t 0) true), mvI 4 (.c (.p (.bool false)))])
  (.seq (.seq (.reg false [opI 7 (.fadr 4 (.t 2)), opI 8 (.load 1 false (.t 7)), opI 9 (.lenS (.t 8)), mvI 10 (kI 0)])
  (.block 0 L0_term_postorder))
  (.seq (.reg false [mvI 19 (.t 1), opI 20 (.load 5 true (.t 2)), opI 21 (.callv (.t 19) [(.t 20)]), mvI 4 (.t 21)])
  .ret))), true⟩
def F_term_All_1_1 : AFn := ⟨8, [.tmp 3],
  (.seq (.reg false [opI 2 (.box 5 true (.t 0) true), mvI 3 (.c (.p (.bool false)))])
  (.seq (.reg true [opI 4 (.load 1 false (.t 1)), opI 5 (.load 5 true (.t 2)), opI 6 (.callf f_term_Copy [(.t 5)]), opI 7 (.callv (.t 4) [(.t 6)]), mvI 3 (.t 7)])
  .ret)), true⟩
def F_slices_ContainsFunc_api_Term_api_Term : AFn := ⟨9, [.tmp 4],
  (.seq (.reg false [mvI 4 (.c (.p (.bool false)))])
  (.seq (.reg false [mvI 5 (.t 0), mvI 6 (.t 1), opI 7 (.callf f_slices_IndexFunc_api_Term_api_Term [(.t 5), (.t 6)]), opI 8 (.arith .geq (.t 7) (kI 0)), mvI 4 (.t 8)])
  .ret)), false⟩
def F_term_Subterms_1 : AFn := ⟨7, [.tmp 3],
  (.seq (.reg false [opI 2 (.box 5 true (.t 0) true), mvI 3 (.c (.p (.bool false)))])
  (.seq (.reg false [opI 4 (.load 5 true (.t 1)), opI 5 (.load 5 true (.t 2)), opI 6 (.callf f_term_Same [(.t 4), (.t 5)]), mvI 3 (.t 6)])
  .ret)), false⟩
def B0_r06_Has : K :=
  (.seq (.seq (.reg false [mvI 6 (.t 5), mvI 7 (.t 0), opI 8 (.lenS (.t 7)), opI 9 (.arith .lss (.t 6) (.t 8))])
  (.cond (.t 9) .skip (.exit 0)))
  (.seq (.block 1 (.seq (.reg true [mvI 12 (.t 0), mvI 13 (.t 5), opI 14 (.iadrS 5 (.t 12) (.t 13)), opI 15 (.load 5 true (.t 14)), opI 16 (.load 5 true (.t 3)), opI 17 (.callf f_r06_Same [(.t 15), (.t 16)])])
  (.cond (.t 17) (.seq (.reg false [mvI 4 (.c (.p (.bool true)))])
  .ret) .skip)))
  (.reg false [mvI 10 (.t 5), opI 11 (.arith .add (.t 10) (kI 1)), mvI 5 (.t 11)])))
def L0_r06_Has : K := .loop [0, 3, 5] B0_r06_Has
def F_r06_Has : AFn := ⟨18, [.tmp 4],
  (.seq (.reg false [opI 3 (.box 5 true (.t 1) true), mvI 4 (.c (.p (.bool false)))])
  (.seq (.seq (.reg false [mvI 5 (kI 0)])
  (.block 0 L0_r06_Has))
  (.seq (.reg false [mvI 4 (.c (.p (.bool false)))])
  .ret))), false⟩
def F_opinfo_Arity : AFn := ⟨42, [.tmp 2],
  (.seq (.reg false [mvI 2 (kI 0)])
  (.seq (.reg false [mvI 3 (kI 0)])
  (.seq (.seq (.reg false [mvI 4 (.t 0)])
  (.block 0 (.seq (.block 4 (.seq (.block 3 (.seq (.block 2 (.seq (.block 1 (.seq (.seq (.seq (.reg false [opI 6 (.arith .eql (.t 4) (kI 19)), mvI 5 (.t 6)])
  (.cond (.t 5) (.exit 1) .skip))
  (.seq (.seq (.seq (.reg false [opI 8 (.arith .eql (.t 4) (kI 5)), mvI 7 (.t 8)])
  (.cond (.t 7) .skip (.seq (.reg false [opI 9 (.arith .eql (.t 4) (kI 6)), mvI 7 (.t 9)])
  (.cond (.t 7) .skip (.seq (.reg false [opI 10 (.arith .eql (.t 4) (kI 7)), mvI 7 (.t 10)])
  (.cond (.t 7) .skip (.seq (.reg false [opI 11 (.arith .eql (.t 4) (kI 8)), mvI 7 (.t 11)])
  (.cond (.t 7) .skip (.seq (.reg false [opI 12 (.arith .eql (.t 4) (kI 9)), mvI 7 (.t 12)])
  (.cond (.t 7) .skip (.seq (.reg false [opI 13 (.arith .eql (.t 4) (kI 10)), mvI 7 (.t 13)])
  (.cond (.t 7) .skip (.seq (.reg false [opI 14 (.arith .eql (.t 4) (kI 11)), mvI 7 (.t 14)])
  (.cond (.t 7) .skip (.seq (.reg false [opI 15 (.arith .eql (.t 4) (kI 12)), mvI 7 (.t 15)])
  (.cond (.t 7) .skip (.seq (.reg false [opI 16 (.arith .eql (.t 4) (kI 13)), mvI 7 (.t 16)])
  (.cond (.t 7) .skip (.seq (.reg false [opI 17 (.arith .eql (.t 4) (kI 14)), mvI 7 (.t 17)])
  (.cond (.t 7) .skip (.seq (.reg false [opI 18 (.arith .eql (.t 4) (kI 15)), mvI 7 (.t 18)])
  (.cond (.t 7) .skip (.seq (.reg false [opI 19 (.arith .eql (.t 4) (kI 16)), mvI 7 (.t 19)])
  (.cond (.t 7) .skip (.seq (.reg false [opI 20 (.arith .eql (.t 4) (kI 17)), mvI 7 (.t 20)])
  (.cond (.t 7) .skip (.seq (.reg false [opI 21 (.arith .eql (.t 4) (kI 18)), mvI 7 (.t 21)])
  (.cond (.t 7) .skip (.reg false [opI 22 (.arith .eql (.t 4) (kI 20)), mvI 7 (.t 22)])))))))))))))))))))))))))))))
  (.cond (.t 7) (.exit 2) .skip))
  (.seq (.seq (.seq (.reg false [opI 24 (.arith .eql (.t 4) (kI 3)), mvI 23 (.t 24)])
  (.cond (.t 23) .skip (.seq (.reg false [opI 25 (.arith .eql (.t 4) (kI 4)), mvI 23 (.t 25)])
  (.cond (.t 23) .skip (.seq (.reg false [opI 26 (.arith .eql (.t 4) (kI 21)), mvI 23 (.t 26)])
  (.cond (.t 23) .skip (.seq (.reg false [opI 27 (.arith .eql (.t 4) (kI 22)), mvI 23 (.t 27)])
  (.cond (.t 23) .skip (.seq (.reg false [opI 28 (.arith .eql (.t 4) (kI 23)), mvI 23 (.t 28)])
  (.cond (.t 23) .skip (.reg false [opI 29 (.arith .eql (.t 4) (kI 26)), mvI 23 (.t 29)])))))))))))
  (.cond (.t 23) (.exit 3) .skip))
  (.seq (.seq (.reg false [opI 31 (.arith .eql (.t 4) (kI 1)), mvI 30 (.t 31)])
  (.cond (.t 30) .skip (.seq (.reg false [opI 32 (.arith .eql (.t 4) (kI 2)), mvI 30 (.t 32)])
  (.cond (.t 30) .skip (.seq (.reg false [opI 33 (.arith .eql (.t 4) (kI 24)), mvI 30 (.t 33)])
  (.cond (.t 30) .skip (.reg false [opI 34 (.arith .eql (.t 4) (kI 25)), mvI 30 (.t 34)])))))))
  (.cond (.t 30) (.exit 4) .skip)))))
  (.exit 0)))
  (.reg false [mvI 35 (.t 3), opI 36 (.arith .add (.t 35) (kI 1)), mvI 3 (.t 36)])))
  (.reg false [mvI 37 (.t 3), opI 38 (.arith .add (.t 37) (kI 1)), mvI 3 (.t 38)])))
  (.reg false [mvI 39 (.t 3), opI 40 (.arith .add (.t 39) (kI 1)), mvI 3 (.t 40)])))
  (.seq (.seq (.reg false [mvI 41 (.t 3), mvI 2 (.t 41)])
  .ret)
  (.exit 0)))))
  (.seq (.reg false [mvI 2 (kI (-1))])
  .ret)))), false⟩
def F_opinfo_Pattern : AFn := ⟨9, [.tmp 2],
  (.seq (.reg false [mvI 2 (.c (.p (.bool false)))])
  (.seq (.reg false [mvI 3 (.t 0), opI 4 (.arith .geq (.t 3) (kI 24)), mvI 5 (.t 4), ⟨some 6, .mv (.t 0) false, some (5, true)⟩, ⟨some 7, .arith .leq (.t 6) (kI 26), some (5, true)⟩, opI 8 (.pick (.t 5) (.t 7) (.c (.p (.bool false)))), mvI 2 (.t 8)])
  .ret)), false⟩
def F_r06_Node : AFn := ⟨84, [.tmp 2],
  (.seq (.reg false [opI 1 (.box 5 true (.t 0) true), mvI 2 (kI 0)])
  (.seq (.block 0 (.seq (.reg true [opI 6 (.fadr 0 (.t 1)), opI 7 (.load 1 false (.t 6)), opI 8 (.callf f_r04_Arity [(.t 7)]), opI 9 (.arith .lss (.t 8) (kI 0)), mvI 10 (.t 9), ⟨some 11, .fadr 0 (.t 1), some (10, false)⟩, ⟨some 12, .load 1 false (.t 11), some (10, false)⟩, ⟨some 13, .callf f_r04_Pattern [(.t 12)], some (10, false)⟩, opI 14 (.pick (.t 10) (.c (.p (.bool true))) (.t 13)), mvI 15 (.t 14), ⟨some 16, .fadr 4 (.t 1), some (15, false)⟩, ⟨some 17, .load 1 false (.t 16), some (15, false)⟩, ⟨some 18, .lenS (.t 17), some (15, false)⟩, ⟨some 19, .fadr 0 (.t 1), some (15, false)⟩, ⟨some 20, .load 1 false (.t 19), some (15, false)⟩, ⟨some 21, .callf f_r04_Arity [(.t 20)], some (15, false)⟩, ⟨some 22, .arith .neq (.t 18) (.t 21), some (15, false)⟩, opI 23 (.pick (.t 15) (.c (.p (.bool true))) (.t 22)), mvI 24 (.t 23), ⟨some 25, .fadr 3 (.t 1), some (24, false)⟩, ⟨some 26, .load 1 false (.t 25), some (24, false)⟩, ⟨some 27, .arith .neq (.t 26) (.c (.p (.str (bs [])))), some (24, false)⟩, ⟨some 28, .mv (.t 27) false, some (24, false)⟩, ⟨some 29, .fadr 0 (.t 1), some (28, true)⟩, ⟨some 30, .load 1 false (.t 29), some (28, true)⟩, ⟨some 31, .arith .neq (.t 30) (kI 1), some (28, true)⟩, ⟨some 32, .pick (.t 28) (.t 31) (.c (.p (.bool false))), some (24, false)⟩, opI 33 (.pick (.t 24) (.c (.p (.bool true))) (.t 32)), mvI 34 (.t 33), ⟨some 35, .fadr 2 (.t 1), some (34, false)⟩, ⟨some 36, .load 1 false (.t 35), some (34, false)⟩, ⟨some 37, .arith .neq (.t 36) (.c (.p (.int .u64 0))), some (34, false)⟩, ⟨some 38, .mv (.t 37) false, some (34, false)⟩, ⟨some 39, .fadr 0 (.t 1), some (38, true)⟩, ⟨some 40, .load 1 false (.t 39), some (38, true)⟩, ⟨some 41, .arith .neq (.t 40) (kI 2), some (38, true)⟩, ⟨some 42, .pick (.t 38) (.t 41) (.c (.p (.bool false))), some (34, false)⟩, ⟨some 43, .mv (.t 42) false, some (34, false)⟩, ⟨some 44, .fadr 0 (.t 1), some (43, true)⟩, ⟨some 45, .load 1 false (.t 44), some (43, true)⟩, ⟨some 46, .arith .neq (.t 45) (kI 21), some (43, true)⟩, ⟨some 47, .pick (.t 43) (.t 46) (.c (.p (.bool false))), some (34, false)⟩, opI 48 (.pick (.t 34) (.c (.p (.bool true))) (.t 47)), mvI 5 (.t 48)])
  (.cond (.t 5) (.seq (.reg false [mvI 2 (kI 4)])
  .ret) (.seq (.reg false [opI 50 (.fadr 0 (.t 1)), opI 51 (.load 1 false (.t 50)), opI 52 (.arith .eql (.t 51) (kI 1)), mvI 53 (.t 52), ⟨some 54, .fadr 3 (.t 1), some (53, true)⟩, ⟨some 55, .load 1 false (.t 54), some (53, true)⟩, ⟨some 56, .callf f_r06_Name [(.t 55)], some (53, true)⟩, ⟨some 57, .not (.t 56), some (53, true)⟩, opI 58 (.pick (.t 53) (.t 57) (.c (.p (.bool false)))), mvI 49 (.t 58)])
  (.cond (.t 49) (.seq (.reg false [mvI 2 (kI 5)])
  .ret) (.seq (.reg false [opI 60 (.fadr 1 (.t 1)), opI 61 (.load 1 false (.t 60)), opI 62 (.arith .lss (.t 61) (kI 1)), mvI 59 (.t 62)])
  (.cond (.t 59) (.seq (.reg false [mvI 2 (kI 3)])
  .ret) .skip)))))))
  (.seq (.reg true [opI 64 (.fadr 0 (.t 1)), opI 65 (.load 1 false (.t 64)), opI 66 (.fadr 1 (.t 1)), opI 67 (.load 1 false (.t 66)), opI 68 (.fadr 2 (.t 1)), opI 69 (.load 1 false (.t 68)), opI 70 (.fadr 4 (.t 1)), opI 71 (.load 1 false (.t 70)), opI 72 (.callf f_r06_Widths [(.t 71)]), opI 73 (.callf f_r04_Width [(.t 65), (.t 67), (.t 69), (.t 72)]), mvI 63 (.t 73), opI 74 (.extract (.t 63) 0), opI 75 (.extract (.t 63) 1), mvI 3 (.t 74), mvI 4 (.t 75)])
  (.seq (.seq (.reg false [mvI 76 (.t 4), opI 77 (.arith .neq (.t 76) (kI 0)), mvI 78 (.t 77), ⟨some 79, .mv (.t 3) false, some (78, false)⟩, ⟨some 80, .fadr 1 (.t 1), some (78, false)⟩, ⟨some 81, .load 1 false (.t 80), some (78, false)⟩, ⟨some 82, .arith .neq (.t 79) (.t 81), some (78, false)⟩, opI 83 (.pick (.t 78) (.c (.p (.bool true))) (.t 82))])
  (.cond (.t 83) (.seq (.reg false [mvI 2 (kI 3)])
  .ret) .skip))
  (.seq (.reg false [mvI 2 (kI 0)])
  .ret))))), false⟩
def B0_slices_IndexFunc_api_Var_api_Var : K :=
  (.seq (.reg false [opI 9 (.arith .lss (.t 8) (.t 7))])
  (.seq (.cond (.t 9) .skip (.exit 0))
  (.seq (.block 1 (.seq (.reg false [mvI 10 (.t 8), mvI 5 (.t 10)])
  (.seq (.reg false [mvI 11 (.t 1), mvI 12 (.t 0), mvI 13 (.t 5), opI 14 (.iadrS 2 (.t 12) (.t 13)), opI 15 (.load 2 true (.t 14)), opI 16 (.callv (.t 11) [(.t 15)])])
  (.cond (.t 16) (.seq (.reg false [mvI 17 (.t 5), mvI 4 (.t 17)])
  .ret) .skip))))
  (.reg false [opI 18 (.arith .add (.t 8) (kI 1)), mvI 8 (.t 18)]))))
def L0_slices_IndexFunc_api_Var_api_Var : K := .loop [0, 1, 7, 8] B0_slices_IndexFunc_api_Var_api_Var
def F_slices_IndexFunc_api_Var_api_Var : AFn := ⟨19, [.tmp 4],
  (.seq (.reg false [mvI 4 (kI 0)])
  (.seq (.seq (.reg false [mvI 6 (.t 0), opI 7 (.lenS (.t 6)), mvI 8 (kI 0)])
  (.block 0 L0_slices_IndexFunc_api_Var_api_Var))
  (.seq (.reg false [mvI 4 (kI (-1))])
  .ret))), false⟩
def F_internal_bytealg_CompareString : AFn := ⟨8, [.tmp 4],
  (.seq (.reg false [mvI 4 (kI 0)])
  (.seq (.reg false [mvI 5 (.t 0), mvI 6 (.t 1), opI 7 (.callf f_internal_bytealg_abigen_runtime_cmpstring [(.t 5), (.t 6)]), mvI 4 (.t 7)])
  .ret)), false⟩
def F_opinfo_known : AFn := ⟨9, [.tmp 2],
  (.seq (.reg false [mvI 2 (.c (.p (.bool false)))])
  (.seq (.reg false [mvI 3 (.t 0), opI 4 (.arith .geq (.t 3) (kI 1)), mvI 5 (.t 4), ⟨some 6, .mv (.t 0) false, some (5, true)⟩, ⟨some 7, .arith .leq (.t 6) (kI 26), some (5, true)⟩, opI 8 (.pick (.t 5) (.t 7) (.c (.p (.bool false)))), mvI 2 (.t 8)])
  .ret)), false⟩
def F_opinfo_inside : AFn := ⟨9, [.tmp 2],
  (.seq (.reg false [mvI 2 (.c (.p (.bool false)))])
  (.seq (.reg false [mvI 3 (.t 0), opI 4 (.arith .geq (.t 3) (kI 0)), mvI 5 (.t 4), ⟨some 6, .mv (.t 0) false, some (5, true)⟩, ⟨some 7, .arith .leq (.t 6) (kI 64), some (5, true)⟩, opI 8 (.pick (.t 5) (.t 7) (.c (.p (.bool false)))), mvI 2 (.t 8)])
  .ret)), false⟩
def F_opinfo_leaf : AFn := ⟨26, [.tmp 6, .tmp 7],
  (.seq (.reg false [mvI 6 (kI 0), mvI 7 (kI 0)])
  (.seq (.seq (.reg false [mvI 8 (.t 1), opI 9 (.callf f_opinfo_inside [(.t 8)]), opI 10 (.not (.t 9)), mvI 11 (.t 10), ⟨some 12, .mv (.t 0) false, some (11, false)⟩, ⟨some 13, .arith .eql (.t 12) (kI 2), some (11, false)⟩, ⟨some 14, .mv (.t 13) false, some (11, false)⟩, ⟨some 15, .mv (.t 1) false, some (14, true)⟩, ⟨some 16, .arith .gtr (.t 15) (kI 0), some (14, true)⟩, ⟨some 17, .pick (.t 14) (.t 16) (.c (.p (.bool false))), some (11, false)⟩, ⟨some 18, .mv (.t 17) false, some (11, false)⟩, ⟨some 19, .mv (.t 2) false, some (18, true)⟩, ⟨some 20, .mv (.t 1) false, some (18, true)⟩, ⟨some 21, .arith .shr (.t 19) (.t 20), some (18, true)⟩, ⟨some 22, .arith .neq (.t 21) (.c (.p (.int .u64 0))), some (18, true)⟩, ⟨some 23, .pick (.t 18) (.t 22) (.c (.p (.bool false))), some (11, false)⟩, opI 24 (.pick (.t 11) (.c (.p (.bool true))) (.t 23))])
  (.cond (.t 24) (.seq (.reg false [mvI 6 (kI 0), mvI 7 (kI 3)])
  .ret) .skip))
  (.seq (.reg false [mvI 25 (.t 1), mvI 6 (.t 25), mvI 7 (kI 0)])
  .ret))), false⟩
def F_opinfo_resized : AFn := ⟨45, [.tmp 8, .tmp 9],
  (.seq (.reg false [mvI 8 (kI 0), mvI 9 (kI 0)])
  (.seq (.seq (.reg false [mvI 10 (.t 1), opI 11 (.arith .lss (.t 10) (kI 1)), mvI 12 (.t 11), ⟨some 13, .mv (.t 1) false, some (12, false)⟩, ⟨some 14, .arith .gtr (.t 13) (kI 64), some (12, false)⟩, opI 15 (.pick (.t 12) (.c (.p (.bool true))) (.t 14)), mvI 16 (.t 15), ⟨some 17, .mv (.t 3) false, some (16, false)⟩, ⟨some 18, .arith .lss (.t 17) (kI 1), some (16, false)⟩, opI 19 (.pick (.t 16) (.c (.p (.bool true))) (.t 18))])
  (.cond (.t 19) (.seq (.reg false [mvI 8 (kI 0), mvI 9 (kI 3)])
  .ret) .skip))
  (.seq (.seq (.reg false [mvI 20 (.t 0), opI 21 (.arith .neq (.t 20) (kI 21)), mvI 22 (.t 21), ⟨some 23, .mv (.t 1) false, some (22, true)⟩, ⟨some 24, .mv (.t 3) false, some (22, true)⟩, ⟨some 25, .arith .lss (.t 23) (.t 24), some (22, true)⟩, opI 26 (.pick (.t 22) (.t 25) (.c (.p (.bool false)))), mvI 27 (.t 26), ⟨some 28, .mv (.t 0) false, some (27, false)⟩, ⟨some 29, .arith .eql (.t 28) (kI 21), some (27, false)⟩, ⟨some 30, .mv (.t 29) false, some (27, false)⟩, ⟨some 31, .mv (.t 1) false, some (30, true)⟩, ⟨some 32, .mv (.t 3) false, some (30, true)⟩, ⟨some 33, .arith .gtr (.t 31) (.t 32), some (30, true)⟩, ⟨some 34, .mv (.t 33) false, some (30, true)⟩, ⟨some 35, .mv (.t 2) false, some (34, false)⟩, ⟨some 36, .mv (.t 3) false, some (34, false)⟩, ⟨some 37, .mv (.t 1) false, some (34, false)⟩, ⟨some 38, .arith .sub (.t 36) (.t 37), some (34, false)⟩, ⟨some 39, .conv .u64 (.t 38), some (34, false)⟩, ⟨some 40, .arith .gtr (.t 35) (.t 39), some (34, false)⟩, ⟨some 41, .pick (.t 34) (.c (.p (.bool true))) (.t 40), some (30, true)⟩, ⟨some 42, .pick (.t 30) (.t 41) (.c (.p (.bool false))), some (27, false)⟩, opI 43 (.pick (.t 27) (.c (.p (.bool true))) (.t 42))])
  (.cond (.t 43) (.seq (.reg false [mvI 8 (kI 0), mvI 9 (kI 3)])
  .ret) .skip))
  (.seq (.reg false [mvI 44 (.t 1), mvI 8 (.t 44), mvI 9 (kI 0)])
  .ret)))), false⟩
def F_opinfo_agreed : AFn := ⟨9, [.tmp 4, .tmp 5],
  (.seq (.reg false [mvI 4 (kI 0), mvI 5 (kI 0)])
  (.seq (.seq (.reg false [mvI 6 (.t 0), opI 7 (.not (.t 6))])
  (.cond (.t 7) (.seq (.reg false [mvI 4 (kI 0), mvI 5 (kI 3)])
  .ret) .skip))
  (.seq (.reg false [mvI 8 (.t 1), mvI 4 (.t 8), mvI 5 (kI 0)])
  .ret))), false⟩
def F_r04_Arity : AFn := ⟨16, [.tmp 2],
  (.seq (.reg false [mvI 2 (kI 0)])
  (.seq (.seq (.reg false [mvI 3 (.t 0), opI 4 (.arith .lss (.t 3) (kI 1)), mvI 5 (.t 4), ⟨some 6, .mv (.t 0) false, some (5, false)⟩, ⟨some 7, .arith .gtr (.t 6) (kI 26), some (5, false)⟩, opI 8 (.pick (.t 5) (.c (.p (.bool true))) (.t 7))])
  (.cond (.t 8) (.seq (.reg false [mvI 2 (kI (-1))])
  .ret) .skip))
  (.seq (.seq (.reg false [mvI 9 (.t 0), opI 10 (.callf f_r04_Leaf [(.t 9)])])
  (.cond (.t 10) (.seq (.reg false [mvI 2 (kI 0)])
  .ret) .skip))
  (.seq (.seq (.reg false [mvI 11 (.t 0), opI 12 (.bslice 1 [(.p (.int .i64 0))] 6 [(0, 1, (kI 3)), (1, 1, (kI 4)), (2, 1, (kI 21)), (3, 1, (kI 22)), (4, 1, (kI 23)), (5, 1, (kI 26))]), opI 13 (.callf f_r04_Is [(.t 11), (.t 12)])])
  (.cond (.t 13) (.seq (.reg false [mvI 2 (kI 1)])
  .ret) .skip))
  (.seq (.seq (.reg false [mvI 14 (.t 0), opI 15 (.arith .eql (.t 14) (kI 19))])
  (.cond (.t 15) (.seq (.reg false [mvI 2 (kI 3)])
  .ret) .skip))
  (.seq (.reg false [mvI 2 (kI 2)])
  .ret)))))), false⟩
def F_r04_width : AFn := ⟨9, [.tmp 2],
  (.seq (.reg false [mvI 2 (.c (.p (.bool false)))])
  (.seq (.reg false [mvI 3 (.t 0), opI 4 (.arith .geq (.t 3) (kI 0)), mvI 5 (.t 4), ⟨some 6, .mv (.t 0) false, some (5, true)⟩, ⟨some 7, .arith .leq (.t 6) (kI 64), some (5, true)⟩, opI 8 (.pick (.t 5) (.t 7) (.c (.p (.bool false)))), mvI 2 (.t 8)])
  .ret)), false⟩
def F_r04_Leaf : AFn := ⟨6, [.tmp 2],
  (.seq (.reg false [mvI 2 (.c (.p (.bool false)))])
  (.seq (.reg false [mvI 3 (.t 0), opI 4 (.bslice 1 [(.p (.int .i64 0))] 4 [(0, 1, (kI 1)), (1, 1, (kI 2)), (2, 1, (kI 24)), (3, 1, (kI 25))]), opI 5 (.callf f_r04_Is [(.t 3), (.t 4)]), mvI 2 (.t 5)])
  .ret)), false⟩
def F_r04_leaf : AFn := ⟨31, [.tmp 6, .tmp 7],
  (.seq (.reg false [mvI 6 (kI 0), mvI 7 (kI 0)])
  (.seq (.seq (.reg false [mvI 8 (.t 1), opI 9 (.callf f_r04_width [(.t 8)]), opI 10 (.not (.t 9)), mvI 11 (.t 10), ⟨some 12, .mv (.t 0) false, some (11, false)⟩, ⟨some 13, .arith .eql (.t 12) (kI 2), some (11, false)⟩, ⟨some 14, .mv (.t 13) false, some (11, false)⟩, ⟨some 15, .mv (.t 1) false, some (14, true)⟩, ⟨some 16, .arith .gtr (.t 15) (kI 0), some (14, true)⟩, ⟨some 17, .pick (.t 14) (.t 16) (.c (.p (.bool false))), some (11, false)⟩, ⟨some 18, .mv (.t 17) false, some (11, false)⟩, ⟨some 19, .mv (.t 1) false, some (18, true)⟩, ⟨some 20, .arith .lss (.t 19) (kI 64), some (18, true)⟩, ⟨some 21, .pick (.t 18) (.t 20) (.c (.p (.bool false))), some (11, false)⟩, ⟨some 22, .mv (.t 21) false, some (11, false)⟩, ⟨some 23, .mv (.t 2) false, some (22, true)⟩, ⟨some 24, .mv (.t 1) false, some (22, true)⟩, ⟨some 25, .conv .u64 (.t 24), some (22, true)⟩, ⟨some 26, .arith .shl (.c (.p (.int .u64 1))) (.t 25), some (22, true)⟩, ⟨some 27, .arith .geq (.t 23) (.t 26), some (22, true)⟩, ⟨some 28, .pick (.t 22) (.t 27) (.c (.p (.bool false))), some (11, false)⟩, opI 29 (.pick (.t 11) (.c (.p (.bool true))) (.t 28))])
  (.cond (.t 29) (.seq (.reg false [mvI 6 (kI 0), mvI 7 (kI 3)])
  .ret) .skip))
  (.seq (.reg false [mvI 30 (.t 1), mvI 6 (.t 30), mvI 7 (kI 0)])
  .ret))), false⟩
def F_r04_parts : AFn := ⟨46, [.tmp 8, .tmp 9],
  (.seq (.reg false [mvI 8 (kI 0), mvI 9 (kI 0)])
  (.seq (.seq (.reg false [mvI 10 (.t 1), opI 11 (.callf f_r04_width [(.t 10)]), opI 12 (.not (.t 11)), mvI 13 (.t 12), ⟨some 14, .mv (.t 1) false, some (13, false)⟩, ⟨some 15, .arith .lss (.t 14) (kI 1), some (13, false)⟩, opI 16 (.pick (.t 13) (.c (.p (.bool true))) (.t 15)), mvI 17 (.t 16), ⟨some 18, .mv (.t 3) false, some (17, false)⟩, ⟨some 19, .arith .lss (.t 18) (kI 1), some (17, false)⟩, opI 20 (.pick (.t 17) (.c (.p (.bool true))) (.t 19))])
  (.cond (.t 20) (.seq (.reg false [mvI 8 (kI 0), mvI 9 (kI 3)])
  .ret) .skip))
  (.seq (.seq (.reg false [mvI 21 (.t 0), opI 22 (.arith .eql (.t 21) (kI 21)), mvI 23 (.t 22), ⟨some 24, .mv (.t 1) false, some (23, true)⟩, ⟨some 25, .mv (.t 3) false, some (23, true)⟩, ⟨some 26, .arith .gtr (.t 24) (.t 25), some (23, true)⟩, ⟨some 27, .mv (.t 26) false, some (23, true)⟩, ⟨some 28, .mv (.t 2) false, some (27, false)⟩, ⟨some 29, .mv (.t 3) false, some (27, false)⟩, ⟨some 30, .mv (.t 1) false, some (27, false)⟩, ⟨some 31, .arith .sub (.t 29) (.t 30), some (27, false)⟩, ⟨some 32, .conv .u64 (.t 31), some (27, false)⟩, ⟨some 33, .arith .gtr (.t 28) (.t 32), some (27, false)⟩, ⟨some 34, .pick (.t 27) (.c (.p (.bool true))) (.t 33), some (23, true)⟩, opI 35 (.pick (.t 23) (.t 34) (.c (.p (.bool false)))), mvI 36 (.t 35), ⟨some 37, .mv (.t 0) false, some (36, false)⟩, ⟨some 38, .arith .neq (.t 37) (kI 21), some (36, false)⟩, ⟨some 39, .mv (.t 38) false, some (36, false)⟩, ⟨some 40, .mv (.t 1) false, some (39, true)⟩, ⟨some 41, .mv (.t 3) false, some (39, true)⟩, ⟨some 42, .arith .lss (.t 40) (.t 41), some (39, true)⟩, ⟨some 43, .pick (.t 39) (.t 42) (.c (.p (.bool false))), some (36, false)⟩, opI 44 (.pick (.t 36) (.c (.p (.bool true))) (.t 43))])
  (.cond (.t 44) (.seq (.reg false [mvI 8 (kI 0), mvI 9 (kI 3)])
  .ret) .skip))
  (.seq (.reg false [mvI 45 (.t 1), mvI 8 (.t 45), mvI 9 (kI 0)])
  .ret)))), false⟩
def F_cmp_isNaN_int : AFn := ⟨6, [.tmp 2],
  (.seq (.reg false [mvI 2 (.c (.p (.bool false)))])
  (.seq (.reg false [mvI 3 (.t 0), mvI 4 (.t 0), opI 5 (.arith .neq (.t 3) (.t 4)), mvI 2 (.t 5)])
  .ret)), false⟩
def F_cmp_isNaN_api_Op : AFn := ⟨6, [.tmp 2],
  (.seq (.reg false [mvI 2 (.c (.p (.bool false)))])
  (.seq (.reg false [mvI 3 (.t 0), mvI 4 (.t 0), opI 5 (.arith .neq (.t 3) (.t 4)), mvI 2 (.t 5)])
  .ret)), false⟩
def F_cmp_isNaN_uint64 : AFn := ⟨6, [.tmp 2],
  (.seq (.reg false [mvI 2 (.c (.p (.bool false)))])
  (.seq (.reg false [mvI 3 (.t 0), mvI 4 (.t 0), opI 5 (.arith .neq (.t 3) (.t 4)), mvI 2 (.t 5)])
  .ret)), false⟩
def B0_slices_IndexFunc_api_Term_api_Term : K :=
  (.seq (.reg false [opI 9 (.arith .lss (.t 8) (.t 7))])
  (.seq (.cond (.t 9) .skip (.exit 0))
  (.seq (.block 1 (.seq (.reg false [mvI 10 (.t 8), mvI 5 (.t 10)])
  (.seq (.reg false [mvI 11 (.t 1), mvI 12 (.t 0), mvI 13 (.t 5), opI 14 (.iadrS 5 (.t 12) (.t 13)), opI 15 (.load 5 true (.t 14)), opI 16 (.callv (.t 11) [(.t 15)])])
  (.cond (.t 16) (.seq (.reg false [mvI 17 (.t 5), mvI 4 (.t 17)])
  .ret) .skip))))
  (.reg false [opI 18 (.arith .add (.t 8) (kI 1)), mvI 8 (.t 18)]))))
def L0_slices_IndexFunc_api_Term_api_Term : K := .loop [0, 1, 7, 8] B0_slices_IndexFunc_api_Term_api_Term
def F_slices_IndexFunc_api_Term_api_Term : AFn := ⟨19, [.tmp 4],
  (.seq (.reg false [mvI 4 (kI 0)])
  (.seq (.seq (.reg false [mvI 6 (.t 0), opI 7 (.lenS (.t 6)), mvI 8 (kI 0)])
  (.block 0 L0_slices_IndexFunc_api_Term_api_Term))
  (.seq (.reg false [mvI 4 (kI (-1))])
  .ret))), false⟩
def F_r04_Pattern : AFn := ⟨6, [.tmp 2],
  (.seq (.reg false [mvI 2 (.c (.p (.bool false)))])
  (.seq (.reg false [mvI 3 (.t 0), opI 4 (.bslice 1 [(.p (.int .i64 0))] 3 [(0, 1, (kI 24)), (1, 1, (kI 25)), (2, 1, (kI 26))]), opI 5 (.callf f_r04_Is [(.t 3), (.t 4)]), mvI 2 (.t 5)])
  .ret)), false⟩
def B0_r04_Is : K :=
  (.seq (.reg false [opI 9 (.arith .lss (.t 8) (.t 7))])
  (.seq (.cond (.t 9) .skip (.exit 0))
  (.seq (.block 1 (.seq (.reg false [mvI 10 (.t 8), mvI 5 (.t 10)])
  (.seq (.reg false [mvI 11 (.t 1), mvI 12 (.t 5), opI 13 (.iadrS 1 (.t 11) (.t 12)), opI 14 (.load 1 false (.t 13)), mvI 15 (.t 0), opI 16 (.arith .eql (.t 14) (.t 15))])
  (.cond (.t 16) (.seq (.reg false [mvI 4 (.c (.p (.bool true)))])
  .ret) .skip))))
  (.reg false [opI 17 (.arith .add (.t 8) (kI 1)), mvI 8 (.t 17)]))))
def L0_r04_Is : K := .loop [0, 1, 7, 8] B0_r04_Is
def F_r04_Is : AFn := ⟨18, [.tmp 4],
  (.seq (.reg false [mvI 4 (.c (.p (.bool false)))])
  (.seq (.seq (.reg false [mvI 6 (.t 1), opI 7 (.lenS (.t 6)), mvI 8 (kI 0)])
  (.block 0 L0_r04_Is))
  (.seq (.reg false [mvI 4 (.c (.p (.bool false)))])
  .ret))), false⟩
def tbl : List (FuncId × AFn) := [
  (f_law06_TermChecks, F_law06_TermChecks),
  (f_law06_TermLong, F_law06_TermLong),
  (f_law06_TermMakes, F_law06_TermMakes),
  (f_law06_TermCompares, F_law06_TermCompares),
  (f_law06_TermSubterms, F_law06_TermSubterms),
  (f_law06_TermPaths, F_law06_TermPaths),
  (f_law06_TermLess, F_law06_TermLess),
  (f_law06_TermCopies, F_law06_TermCopies),
  (f_law06_light, F_law06_light),
  (f_law06_lives, F_law06_lives),
  (f_term_Check, F_term_Check),
  (f_r06_Check, F_r06_Check),
  (f_term_Name, F_term_Name),
  (f_r06_Name, F_r06_Name),
  (f_term_Size, F_term_Size),
  (f_r06_Size, F_r06_Size),
  (f_term_Depth, F_term_Depth),
  (f_r06_Depth, F_r06_Depth),
  (f_r06_SameVars, F_r06_SameVars),
  (f_term_Vars, F_term_Vars),
  (f_r06_Vars, F_r06_Vars),
  (f_term_Var, F_term_Var),
  (f_term_Make, F_term_Make),
  (f_r06_Same, F_r06_Same),
  (f_r06_Var, F_r06_Var),
  (f_term_Const, F_term_Const),
  (f_r06_Const, F_r06_Const),
  (f_r06_Make, F_r06_Make),
  (f_term_Compare, F_term_Compare),
  (f_r06_Compare, F_r06_Compare),
  (f_term_Same, F_term_Same),
  (f_r06_Light, F_r06_Light),
  (f_term_All, F_term_All),
  (f_term_Subterms, F_term_Subterms),
  (f_r06_SameAll, F_r06_SameAll),
  (f_r06_Post, F_r06_Post),
  (f_r06_Subterms, F_r06_Subterms),
  (f_term_At, F_term_At),
  (f_r06_At, F_r06_At),
  (f_term_Put, F_term_Put),
  (f_r06_Put, F_r06_Put),
  (f_law06_twin, F_law06_twin),
  (f_term_Copy, F_term_Copy),
  (f_term_measure, F_term_measure),
  (f_term_node, F_term_node),
  (f_r06_count, F_r06_count),
  (f_r06_nodes, F_r06_nodes),
  (f_term_preorder, F_term_preorder),
  (f_term_Vars_1, F_term_Vars_1),
  (f_term_Vars_1_1, F_term_Vars_1_1),
  (f_slices_ContainsFunc_api_Var_api_Var, F_slices_ContainsFunc_api_Var_api_Var),
  (f_term_Vars_2, F_term_Vars_2),
  (f_strings_Compare, F_strings_Compare),
  (f_r06_Pre, F_r06_Pre),
  (f_term_clamp, F_term_clamp),
  (f_opinfo_Width, F_opinfo_Width),
  (f_term_widths, F_term_widths),
  (f_r06_clamp, F_r06_clamp),
  (f_r06_Cut, F_r06_Cut),
  (f_r04_Width, F_r04_Width),
  (f_r06_Widths, F_r06_Widths),
  (f_cmp_Compare_int, F_cmp_Compare_int),
  (f_cmp_Or_int, F_cmp_Or_int),
  (f_cmp_Compare_api_Op, F_cmp_Compare_api_Op),
  (f_cmp_Compare_uint64, F_cmp_Compare_uint64),
  (f_slices_CompareFunc_api_Term_api_Term_api_Term_api_Term, F_slices_CompareFunc_api_Term_api_Term_api_Term_api_Term),
  (f_r06_order, F_r06_order),
  (f_slices_EqualFunc_api_Term_api_Term_api_Term_api_Term, F_slices_EqualFunc_api_Term_api_Term_api_Term_api_Term),
  (f_term_All_1, F_term_All_1),
  (f_term_postorder, F_term_postorder),
  (f_term_All_1_1, F_term_All_1_1),
  (f_slices_ContainsFunc_api_Term_api_Term, F_slices_ContainsFunc_api_Term_api_Term),
  (f_term_Subterms_1, F_term_Subterms_1),
  (f_r06_Has, F_r06_Has),
  (f_opinfo_Arity, F_opinfo_Arity),
  (f_opinfo_Pattern, F_opinfo_Pattern),
  (f_r06_Node, F_r06_Node),
  (f_slices_IndexFunc_api_Var_api_Var, F_slices_IndexFunc_api_Var_api_Var),
  (f_internal_bytealg_CompareString, F_internal_bytealg_CompareString),
  (f_opinfo_known, F_opinfo_known),
  (f_opinfo_inside, F_opinfo_inside),
  (f_opinfo_leaf, F_opinfo_leaf),
  (f_opinfo_resized, F_opinfo_resized),
  (f_opinfo_agreed, F_opinfo_agreed),
  (f_r04_Arity, F_r04_Arity),
  (f_r04_width, F_r04_width),
  (f_r04_Leaf, F_r04_Leaf),
  (f_r04_leaf, F_r04_leaf),
  (f_r04_parts, F_r04_parts),
  (f_cmp_isNaN_int, F_cmp_isNaN_int),
  (f_cmp_isNaN_api_Op, F_cmp_isNaN_api_Op),
  (f_cmp_isNaN_uint64, F_cmp_isNaN_uint64),
  (f_slices_IndexFunc_api_Term_api_Term, F_slices_IndexFunc_api_Term_api_Term),
  (f_r04_Pattern, F_r04_Pattern),
  (f_r04_Is, F_r04_Is)]
def P : Prog := { fn := fun f => tbl.lookup f, prim := fun f => if f = f_slices_SortFunc_api_Var_api_Var then some (primSort 2 f_term_Vars_2 okV ltV) else if f = f_internal_bytealg_abigen_runtime_cmpstring then some (purePrim primCompare) else none }
theorem p_law06_TermChecks : P.fn f_law06_TermChecks = some F_law06_TermChecks := rfl
theorem p_law06_TermLong : P.fn f_law06_TermLong = some F_law06_TermLong := rfl
theorem p_law06_TermMakes : P.fn f_law06_TermMakes = some F_law06_TermMakes := rfl
theorem p_law06_TermCompares : P.fn f_law06_TermCompares = some F_law06_TermCompares := rfl
theorem p_law06_TermSubterms : P.fn f_law06_TermSubterms = some F_law06_TermSubterms := rfl
theorem p_law06_TermPaths : P.fn f_law06_TermPaths = some F_law06_TermPaths := rfl
theorem p_law06_TermLess : P.fn f_law06_TermLess = some F_law06_TermLess := rfl
theorem p_law06_TermCopies : P.fn f_law06_TermCopies = some F_law06_TermCopies := rfl
theorem p_law06_light : P.fn f_law06_light = some F_law06_light := rfl
theorem p_law06_lives : P.fn f_law06_lives = some F_law06_lives := rfl
theorem p_term_Check : P.fn f_term_Check = some F_term_Check := rfl
theorem p_r06_Check : P.fn f_r06_Check = some F_r06_Check := rfl
theorem p_term_Name : P.fn f_term_Name = some F_term_Name := rfl
theorem p_r06_Name : P.fn f_r06_Name = some F_r06_Name := rfl
theorem p_term_Size : P.fn f_term_Size = some F_term_Size := rfl
theorem p_r06_Size : P.fn f_r06_Size = some F_r06_Size := rfl
theorem p_term_Depth : P.fn f_term_Depth = some F_term_Depth := rfl
theorem p_r06_Depth : P.fn f_r06_Depth = some F_r06_Depth := rfl
theorem p_r06_SameVars : P.fn f_r06_SameVars = some F_r06_SameVars := rfl
theorem p_term_Vars : P.fn f_term_Vars = some F_term_Vars := rfl
theorem p_r06_Vars : P.fn f_r06_Vars = some F_r06_Vars := rfl
theorem p_term_Var : P.fn f_term_Var = some F_term_Var := rfl
theorem p_term_Make : P.fn f_term_Make = some F_term_Make := rfl
theorem p_r06_Same : P.fn f_r06_Same = some F_r06_Same := rfl
theorem p_r06_Var : P.fn f_r06_Var = some F_r06_Var := rfl
theorem p_term_Const : P.fn f_term_Const = some F_term_Const := rfl
theorem p_r06_Const : P.fn f_r06_Const = some F_r06_Const := rfl
theorem p_r06_Make : P.fn f_r06_Make = some F_r06_Make := rfl
theorem p_term_Compare : P.fn f_term_Compare = some F_term_Compare := rfl
theorem p_r06_Compare : P.fn f_r06_Compare = some F_r06_Compare := rfl
theorem p_term_Same : P.fn f_term_Same = some F_term_Same := rfl
theorem p_r06_Light : P.fn f_r06_Light = some F_r06_Light := rfl
theorem p_term_All : P.fn f_term_All = some F_term_All := rfl
theorem p_term_Subterms : P.fn f_term_Subterms = some F_term_Subterms := rfl
theorem p_r06_SameAll : P.fn f_r06_SameAll = some F_r06_SameAll := rfl
theorem p_r06_Post : P.fn f_r06_Post = some F_r06_Post := rfl
theorem p_r06_Subterms : P.fn f_r06_Subterms = some F_r06_Subterms := rfl
theorem p_term_At : P.fn f_term_At = some F_term_At := rfl
theorem p_r06_At : P.fn f_r06_At = some F_r06_At := rfl
theorem p_term_Put : P.fn f_term_Put = some F_term_Put := rfl
theorem p_r06_Put : P.fn f_r06_Put = some F_r06_Put := rfl
theorem p_law06_twin : P.fn f_law06_twin = some F_law06_twin := rfl
theorem p_term_Copy : P.fn f_term_Copy = some F_term_Copy := rfl
theorem p_term_measure : P.fn f_term_measure = some F_term_measure := rfl
theorem p_term_node : P.fn f_term_node = some F_term_node := rfl
theorem p_r06_count : P.fn f_r06_count = some F_r06_count := rfl
theorem p_r06_nodes : P.fn f_r06_nodes = some F_r06_nodes := rfl
theorem p_term_preorder : P.fn f_term_preorder = some F_term_preorder := rfl
theorem p_term_Vars_1 : P.fn f_term_Vars_1 = some F_term_Vars_1 := rfl
theorem p_term_Vars_1_1 : P.fn f_term_Vars_1_1 = some F_term_Vars_1_1 := rfl
theorem p_slices_ContainsFunc_api_Var_api_Var : P.fn f_slices_ContainsFunc_api_Var_api_Var = some F_slices_ContainsFunc_api_Var_api_Var := rfl
theorem p_term_Vars_2 : P.fn f_term_Vars_2 = some F_term_Vars_2 := rfl
theorem p_strings_Compare : P.fn f_strings_Compare = some F_strings_Compare := rfl
theorem p_r06_Pre : P.fn f_r06_Pre = some F_r06_Pre := rfl
theorem p_term_clamp : P.fn f_term_clamp = some F_term_clamp := rfl
theorem p_opinfo_Width : P.fn f_opinfo_Width = some F_opinfo_Width := rfl
theorem p_term_widths : P.fn f_term_widths = some F_term_widths := rfl
theorem p_r06_clamp : P.fn f_r06_clamp = some F_r06_clamp := rfl
theorem p_r06_Cut : P.fn f_r06_Cut = some F_r06_Cut := rfl
theorem p_r04_Width : P.fn f_r04_Width = some F_r04_Width := rfl
theorem p_r06_Widths : P.fn f_r06_Widths = some F_r06_Widths := rfl
theorem p_cmp_Compare_int : P.fn f_cmp_Compare_int = some F_cmp_Compare_int := rfl
theorem p_cmp_Or_int : P.fn f_cmp_Or_int = some F_cmp_Or_int := rfl
theorem p_cmp_Compare_api_Op : P.fn f_cmp_Compare_api_Op = some F_cmp_Compare_api_Op := rfl
theorem p_cmp_Compare_uint64 : P.fn f_cmp_Compare_uint64 = some F_cmp_Compare_uint64 := rfl
theorem p_slices_CompareFunc_api_Term_api_Term_api_Term_api_Term : P.fn f_slices_CompareFunc_api_Term_api_Term_api_Term_api_Term = some F_slices_CompareFunc_api_Term_api_Term_api_Term_api_Term := rfl
theorem p_r06_order : P.fn f_r06_order = some F_r06_order := rfl
theorem p_slices_EqualFunc_api_Term_api_Term_api_Term_api_Term : P.fn f_slices_EqualFunc_api_Term_api_Term_api_Term_api_Term = some F_slices_EqualFunc_api_Term_api_Term_api_Term_api_Term := rfl
theorem p_term_All_1 : P.fn f_term_All_1 = some F_term_All_1 := rfl
theorem p_term_postorder : P.fn f_term_postorder = some F_term_postorder := rfl
theorem p_term_All_1_1 : P.fn f_term_All_1_1 = some F_term_All_1_1 := rfl
theorem p_slices_ContainsFunc_api_Term_api_Term : P.fn f_slices_ContainsFunc_api_Term_api_Term = some F_slices_ContainsFunc_api_Term_api_Term := rfl
theorem p_term_Subterms_1 : P.fn f_term_Subterms_1 = some F_term_Subterms_1 := rfl
theorem p_r06_Has : P.fn f_r06_Has = some F_r06_Has := rfl
theorem p_opinfo_Arity : P.fn f_opinfo_Arity = some F_opinfo_Arity := rfl
theorem p_opinfo_Pattern : P.fn f_opinfo_Pattern = some F_opinfo_Pattern := rfl
theorem p_r06_Node : P.fn f_r06_Node = some F_r06_Node := rfl
theorem p_slices_IndexFunc_api_Var_api_Var : P.fn f_slices_IndexFunc_api_Var_api_Var = some F_slices_IndexFunc_api_Var_api_Var := rfl
theorem p_internal_bytealg_CompareString : P.fn f_internal_bytealg_CompareString = some F_internal_bytealg_CompareString := rfl
theorem p_opinfo_known : P.fn f_opinfo_known = some F_opinfo_known := rfl
theorem p_opinfo_inside : P.fn f_opinfo_inside = some F_opinfo_inside := rfl
theorem p_opinfo_leaf : P.fn f_opinfo_leaf = some F_opinfo_leaf := rfl
theorem p_opinfo_resized : P.fn f_opinfo_resized = some F_opinfo_resized := rfl
theorem p_opinfo_agreed : P.fn f_opinfo_agreed = some F_opinfo_agreed := rfl
theorem p_r04_Arity : P.fn f_r04_Arity = some F_r04_Arity := rfl
theorem p_r04_width : P.fn f_r04_width = some F_r04_width := rfl
theorem p_r04_Leaf : P.fn f_r04_Leaf = some F_r04_Leaf := rfl
theorem p_r04_leaf : P.fn f_r04_leaf = some F_r04_leaf := rfl
theorem p_r04_parts : P.fn f_r04_parts = some F_r04_parts := rfl
theorem p_cmp_isNaN_int : P.fn f_cmp_isNaN_int = some F_cmp_isNaN_int := rfl
theorem p_cmp_isNaN_api_Op : P.fn f_cmp_isNaN_api_Op = some F_cmp_isNaN_api_Op := rfl
theorem p_cmp_isNaN_uint64 : P.fn f_cmp_isNaN_uint64 = some F_cmp_isNaN_uint64 := rfl
theorem p_slices_IndexFunc_api_Term_api_Term : P.fn f_slices_IndexFunc_api_Term_api_Term = some F_slices_IndexFunc_api_Term_api_Term := rfl
theorem p_r04_Pattern : P.fn f_r04_Pattern = some F_r04_Pattern := rfl
theorem p_r04_Is : P.fn f_r04_Is = some F_r04_Is := rfl
theorem k0_law06_TermLong : Kp P L0_law06_TermLong [1, 5, 6, 7] := loop_kept
theorem k1_law06_TermLong : Kp P L1_law06_TermLong [1, 8, 9, 10] := loop_kept
theorem k2_law06_TermLong : Kp P L2_law06_TermLong [8, 9, 11] := loop_kept
theorem k2_law06_TermSubterms : Kp P L2_law06_TermSubterms [1, 2, 6, 8, 9, 10] := loop_kept
theorem k1_law06_TermCopies : Kp P L1_law06_TermCopies [1, 3, 4, 5, 6, 7] := loop_kept
theorem k0_law06_TermCopies : Kp P L0_law06_TermCopies [1, 3, 4, 5, 6] := loop_kept
theorem k0_law06_light : Kp P L0_law06_light [0, 3] := loop_kept
theorem k1_r06_Check : Kp P L1_r06_Check [4, 5, 6] := loop_kept
theorem k0_r06_Check : Kp P L0_r06_Check [4, 5] := loop_kept
theorem k0_term_Name : Kp P L0_term_Name [0, 24, 25] := loop_kept
theorem k0_r06_Name : Kp P L0_r06_Name [0, 3] := loop_kept
theorem k0_term_Size : Kp P L0_term_Size [3, 7, 8, 9] := loop_kept
theorem k0_r06_Size : Kp P L0_r06_Size [1, 3, 4] := loop_kept
theorem k0_term_Depth : Kp P L0_term_Depth [3, 7, 8, 9] := loop_kept
theorem k0_r06_Depth : Kp P L0_r06_Depth [1, 3, 4] := loop_kept
theorem k0_r06_SameVars : Kp P L0_r06_SameVars [0, 1, 5] := loop_kept
theorem k1_r06_Vars : Kp P L1_r06_Vars [3, 4, 5, 6] := loop_kept
theorem k0_r06_Vars : Kp P L0_r06_Vars [3, 4, 5] := loop_kept
theorem k0_term_Make : Kp P L0_term_Make [0, 4, 5, 7, 22, 23, 24] := loop_kept
theorem k0_r06_Compare : Kp P L0_r06_Compare [2, 3, 5] := loop_kept
theorem k0_r06_SameAll : Kp P L0_r06_SameAll [0, 1, 5] := loop_kept
theorem k0_r06_Post : Kp P L0_r06_Post [1, 3, 4] := loop_kept
theorem k0_r06_Subterms : Kp P L0_r06_Subterms [3, 4, 5] := loop_kept
theorem k0_term_At : Kp P L0_term_At [2, 4, 8, 9, 10] := loop_kept
theorem k0_r06_At : Kp P L0_r06_At [1, 2, 4, 6] := loop_kept
theorem k0_law06_twin : Kp P L0_law06_twin [1, 2, 3, 4] := loop_kept
theorem k0_term_Copy : Kp P L0_term_Copy [2, 3, 9, 10, 11] := loop_kept
theorem k0_term_measure : Kp P L0_term_measure [1, 2, 21, 22, 23] := loop_kept
theorem k0_r06_count : Kp P L0_r06_count [1, 2, 3, 7] := loop_kept
theorem k0_r06_nodes : Kp P L0_r06_nodes [1, 3] := loop_kept
theorem k0_term_preorder : Kp P L0_term_preorder [1, 12, 13, 14] := loop_kept
theorem k0_r06_Pre : Kp P L0_r06_Pre [1, 3, 4] := loop_kept
theorem k0_opinfo_Width : Kp P L0_opinfo_Width [0, 1, 2, 3, 22, 23, 24] := loop_kept
theorem k0_term_widths : Kp P L0_term_widths [3, 9, 10, 11] := loop_kept
theorem k0_r04_Width : Kp P L0_r04_Width [0, 1, 2, 3, 22, 23] := loop_kept
theorem k0_r06_Widths : Kp P L0_r06_Widths [0, 3, 4] := loop_kept
theorem k0_cmp_Or_int : Kp P L0_cmp_Or_int [3, 6, 7, 8] := loop_kept
theorem k0_slices_CompareFunc_api_Term_api_Term_api_Term_api_Term : Kp P L0_slices_CompareFunc_api_Term_api_Term_api_Term_api_Term [0, 1, 2, 11, 12, 13] := loop_kept
theorem k0_slices_EqualFunc_api_Term_api_Term_api_Term_api_Term : Kp P L0_slices_EqualFunc_api_Term_api_Term_api_Term_api_Term [1, 2, 15, 16, 17] := loop_kept
theorem k0_term_postorder : Kp P L0_term_postorder [1, 2, 8, 9, 10] := loop_kept
theorem k0_r06_Has : Kp P L0_r06_Has [0, 3, 5] := loop_kept
theorem k0_slices_IndexFunc_api_Var_api_Var : Kp P L0_slices_IndexFunc_api_Var_api_Var [0, 1, 7, 8] := loop_kept
theorem k0_slices_IndexFunc_api_Term_api_Term : Kp P L0_slices_IndexFunc_api_Term_api_Term [0, 1, 7, 8] := loop_kept
theorem k0_r04_Is : Kp P L0_r04_Is [0, 1, 7, 8] := loop_kept
theorem kR0_law06_TermSubterms {τ : Tm} {σ : Store} {nt : Nat} {rd : Option Nat} : exec P R0_law06_TermSubterms ⟨τ, σ, nt, rd⟩ = rangeK τ nt rd (rangeR P [24] A0_law06_TermSubterms B0_law06_TermSubterms ((O.t 23).val τ) (τ.kept [2, 6]) σ nt rd) := range_go
theorem kR1_law06_TermSubterms {τ : Tm} {σ : Store} {nt : Nat} {rd : Option Nat} : exec P R1_law06_TermSubterms ⟨τ, σ, nt, rd⟩ = rangeK τ nt rd (rangeR P [49] A1_law06_TermSubterms B1_law06_TermSubterms ((O.t 48).val τ) (τ.kept [1, 2, 6, 8, 9]) σ nt rd) := range_go
theorem kR0_term_Check {τ : Tm} {σ : Store} {nt : Nat} {rd : Option Nat} : exec P R0_term_Check ⟨τ, σ, nt, rd⟩ = rangeK τ nt rd (rangeR P [21] A0_term_Check B0_term_Check ((O.t 20).val τ) (τ.kept [2, 5, 6]) σ nt rd) := range_go
theorem kR0_term_Subterms {τ : Tm} {σ : Store} {nt : Nat} {rd : Option Nat} : exec P R0_term_Subterms ⟨τ, σ, nt, rd⟩ = rangeK τ nt rd (rangeR P [7] A0_term_Subterms B0_term_Subterms ((O.t 6).val τ) (τ.kept [3]) σ nt rd) := range_go
theorem q_law06_TermChecks : Qp P f_law06_TermChecks := callF_pure p_law06_TermChecks rfl rfl
theorem r_law06_TermChecks : Rp P f_law06_TermChecks 51 [.tmp 4] F_law06_TermChecks := fun h => R_go p_law06_TermChecks h
theorem q_law06_TermLong : Qp P f_law06_TermLong := callF_pure p_law06_TermLong rfl rfl
theorem r_law06_TermLong : Rp P f_law06_TermLong 92 [.tmp 4] F_law06_TermLong := fun h => R_go p_law06_TermLong h
theorem q_law06_TermMakes : Qp P f_law06_TermMakes := callF_pure p_law06_TermMakes rfl rfl
theorem r_law06_TermMakes : Rp P f_law06_TermMakes 73 [.tmp 10] F_law06_TermMakes := fun h => R_go p_law06_TermMakes h
theorem q_law06_TermCompares : Qp P f_law06_TermCompares := callF_pure p_law06_TermCompares rfl rfl
theorem r_law06_TermCompares : Rp P f_law06_TermCompares 67 [.tmp 6] F_law06_TermCompares := fun h => R_go p_law06_TermCompares h
theorem q_law06_TermSubterms : Qp P f_law06_TermSubterms := callF_pure p_law06_TermSubterms rfl rfl
theorem r_law06_TermSubterms : Rp P f_law06_TermSubterms 79 [.cell 2 1 false] F_law06_TermSubterms := fun h => R_go p_law06_TermSubterms h
theorem q_law06_TermPaths : Qp P f_law06_TermPaths := callF_pure p_law06_TermPaths rfl rfl
theorem r_law06_TermPaths : Rp P f_law06_TermPaths 111 [.tmp 6] F_law06_TermPaths := fun h => R_go p_law06_TermPaths h
theorem q_law06_TermLess : Qp P f_law06_TermLess := callF_pure p_law06_TermLess rfl rfl
theorem r_law06_TermLess : Rp P f_law06_TermLess 60 [.tmp 6] F_law06_TermLess := fun h => R_go p_law06_TermLess h
theorem q_law06_TermCopies : Qp P f_law06_TermCopies := callF_pure p_law06_TermCopies rfl rfl
theorem r_law06_TermCopies : Rp P f_law06_TermCopies 66 [.tmp 2] F_law06_TermCopies := fun h => R_go p_law06_TermCopies h
theorem q_law06_light : Qp P f_law06_light := callF_pure p_law06_light rfl rfl
theorem r_law06_light : Rp P f_law06_light 22 [.tmp 2] F_law06_light := fun h => R_go p_law06_light h
theorem q_law06_lives : Qp P f_law06_lives := callF_pure p_law06_lives rfl rfl
theorem r_law06_lives : Rp P f_law06_lives 142 [.tmp 0] F_law06_lives := fun h => R_go p_law06_lives h
theorem q_term_Check : Qp P f_term_Check := callF_pure p_term_Check rfl rfl
theorem r_term_Check : Rp P f_term_Check 53 [.cell 2 1 false] F_term_Check := fun h => R_go p_term_Check h
theorem q_r06_Check : Qp P f_r06_Check := callF_pure p_r06_Check rfl rfl
theorem r_r06_Check : Rp P f_r06_Check 68 [.tmp 2] F_r06_Check := fun h => R_go p_r06_Check h
theorem q_term_Name : Qp P f_term_Name := callF_pure p_term_Name rfl rfl
theorem r_term_Name : Rp P f_term_Name 50 [.tmp 2] F_term_Name := fun h => R_go p_term_Name h
theorem q_r06_Name : Qp P f_r06_Name := callF_pure p_r06_Name rfl rfl
theorem r_r06_Name : Rp P f_r06_Name 56 [.tmp 2] F_r06_Name := fun h => R_go p_r06_Name h
theorem q_term_Size : Qp P f_term_Size := callF_pure p_term_Size rfl rfl
theorem r_term_Size : Rp P f_term_Size 19 [.tmp 2] F_term_Size := fun h => R_go p_term_Size h
theorem q_r06_Size : Qp P f_r06_Size := callF_pure p_r06_Size rfl rfl
theorem r_r06_Size : Rp P f_r06_Size 21 [.tmp 2] F_r06_Size := fun h => R_go p_r06_Size h
theorem q_term_Depth : Qp P f_term_Depth := callF_pure p_term_Depth rfl rfl
theorem r_term_Depth : Rp P f_term_Depth 20 [.tmp 2] F_term_Depth := fun h => R_go p_term_Depth h
theorem q_r06_Depth : Qp P f_r06_Depth := callF_pure p_r06_Depth rfl rfl
theorem r_r06_Depth : Rp P f_r06_Depth 22 [.tmp 2] F_r06_Depth := fun h => R_go p_r06_Depth h
theorem q_r06_SameVars : Qp P f_r06_SameVars := callF_pure p_r06_SameVars rfl rfl
theorem r_r06_SameVars : Rp P f_r06_SameVars 26 [.tmp 4] F_r06_SameVars := fun h => R_go p_r06_SameVars h
theorem q_term_Vars : Qp P f_term_Vars := callF_pure p_term_Vars rfl rfl
theorem r_term_Vars : Rp P f_term_Vars 10 [.tmp 2] F_term_Vars := fun h => R_go p_term_Vars h
theorem q_r06_Vars : Qp P f_r06_Vars := callF_pure p_r06_Vars rfl rfl
theorem r_r06_Vars : Rp P f_r06_Vars 83 [.tmp 2] F_r06_Vars := fun h => R_go p_r06_Vars h
theorem q_term_Var : Qp P f_term_Var := callF_pure p_term_Var rfl rfl
theorem r_term_Var : Rp P f_term_Var 9 [.cell 4 5 true] F_term_Var := fun h => R_go p_term_Var h
theorem q_term_Make : Qp P f_term_Make := callF_pure p_term_Make rfl rfl
theorem r_term_Make : Rp P f_term_Make 39 [.cell 4 5 true] F_term_Make := fun h => R_go p_term_Make h
theorem q_r06_Same : Qp P f_r06_Same := callF_pure p_r06_Same rfl rfl
theorem r_r06_Same : Rp P f_r06_Same 38 [.tmp 4] F_r06_Same := fun h => R_go p_r06_Same h
theorem q_r06_Var : Qp P f_r06_Var := callF_pure p_r06_Var rfl rfl
theorem r_r06_Var : Rp P f_r06_Var 9 [.cell 4 5 true] F_r06_Var := fun h => R_go p_r06_Var h
theorem q_term_Const : Qp P f_term_Const := callF_pure p_term_Const rfl rfl
theorem r_term_Const : Rp P f_term_Const 18 [.cell 4 5 true] F_term_Const := fun h => R_go p_term_Const h
theorem q_r06_Const : Qp P f_r06_Const := callF_pure p_r06_Const rfl rfl
theorem r_r06_Const : Rp P f_r06_Const 12 [.cell 4 5 true] F_r06_Const := fun h => R_go p_r06_Const h
theorem q_r06_Make : Qp P f_r06_Make := callF_pure p_r06_Make rfl rfl
theorem r_r06_Make : Rp P f_r06_Make 20 [.cell 4 5 true] F_r06_Make := fun h => R_go p_r06_Make h
theorem q_term_Compare : Qp P f_term_Compare := callF_pure p_term_Compare rfl rfl
theorem r_term_Compare : Rp P f_term_Compare 45 [.tmp 4] F_term_Compare := fun h => R_go p_term_Compare h
theorem q_r06_Compare : Qp P f_r06_Compare := callF_pure p_r06_Compare rfl rfl
theorem r_r06_Compare : Rp P f_r06_Compare 99 [.tmp 4] F_r06_Compare := fun h => R_go p_r06_Compare h
theorem q_term_Same : Qp P f_term_Same := callF_pure p_term_Same rfl rfl
theorem r_term_Same : Rp P f_term_Same 36 [.tmp 4] F_term_Same := fun h => R_go p_term_Same h
theorem q_r06_Light : Qp P f_r06_Light := callF_pure p_r06_Light rfl rfl
theorem r_r06_Light : Rp P f_r06_Light 15 [.cell 6 5 true, .tmp 7] F_r06_Light := fun h => R_go p_r06_Light h
theorem q_term_All : Qp P f_term_All := callF_pure p_term_All rfl rfl
theorem r_term_All : Rp P f_term_All 4 [.tmp 2] F_term_All := fun h => R_go p_term_All h
theorem q_term_Subterms : Qp P f_term_Subterms := callF_pure p_term_Subterms rfl rfl
theorem r_term_Subterms : Rp P f_term_Subterms 20 [.tmp 2] F_term_Subterms := fun h => R_go p_term_Subterms h
theorem q_r06_SameAll : Qp P f_r06_SameAll := callF_pure p_r06_SameAll rfl rfl
theorem r_r06_SameAll : Rp P f_r06_SameAll 27 [.tmp 4] F_r06_SameAll := fun h => R_go p_r06_SameAll h
theorem q_r06_Post : Qp P f_r06_Post := callF_pure p_r06_Post rfl rfl
theorem r_r06_Post : Rp P f_r06_Post 24 [.tmp 2] F_r06_Post := fun h => R_go p_r06_Post h
theorem q_r06_Subterms : Qp P f_r06_Subterms := callF_pure p_r06_Subterms rfl rfl
theorem r_r06_Subterms : Rp P f_r06_Subterms 29 [.tmp 2] F_r06_Subterms := fun h => R_go p_r06_Subterms h
theorem q_term_At : Qp P f_term_At := callF_pure p_term_At rfl rfl
theorem r_term_At : Rp P f_term_At 32 [.cell 4 5 true, .tmp 5] F_term_At := fun h => R_go p_term_At h
theorem q_r06_At : Qp P f_r06_At := callF_pure p_r06_At rfl rfl
theorem r_r06_At : Rp P f_r06_At 38 [.cell 4 5 true, .tmp 5] F_r06_At := fun h => R_go p_r06_At h
theorem q_term_Put : Qp P f_term_Put := callF_pure p_term_Put rfl rfl
theorem r_term_Put : Rp P f_term_Put 48 [.cell 6 5 true, .tmp 7] F_term_Put := fun h => R_go p_term_Put h
theorem q_r06_Put : Qp P f_r06_Put := callF_pure p_r06_Put rfl rfl
theorem r_r06_Put : Rp P f_r06_Put 66 [.cell 6 5 true, .tmp 7] F_r06_Put := fun h => R_go p_r06_Put h
theorem q_law06_twin : Qp P f_law06_twin := callF_pure p_law06_twin rfl rfl
theorem r_law06_twin : Rp P f_law06_twin 26 [.cell 2 5 true] F_law06_twin := fun h => R_go p_law06_twin h
theorem q_term_Copy : Qp P f_term_Copy := callF_pure p_term_Copy rfl rfl
theorem r_term_Copy : Rp P f_term_Copy 24 [.cell 2 5 true] F_term_Copy := fun h => R_go p_term_Copy h
theorem q_term_measure : Qp P f_term_measure := callF_pure p_term_measure rfl rfl
theorem r_term_measure : Rp P f_term_measure 40 [.tmp 6, .tmp 7] F_term_measure := fun h => R_go p_term_measure h
theorem q_term_node : Qp P f_term_node := callF_pure p_term_node rfl rfl
theorem r_term_node : Rp P f_term_node 82 [.tmp 2] F_term_node := fun h => R_go p_term_node h
theorem q_r06_count : Qp P f_r06_count := callF_pure p_r06_count rfl rfl
theorem r_r06_count : Rp P f_r06_count 37 [.tmp 6] F_r06_count := fun h => R_go p_r06_count h
theorem q_r06_nodes : Qp P f_r06_nodes := callF_pure p_r06_nodes rfl rfl
theorem r_r06_nodes : Rp P f_r06_nodes 23 [.tmp 2] F_r06_nodes := fun h => R_go p_r06_nodes h
theorem q_term_preorder : Qi P f_term_preorder F_term_preorder := callF_imp p_term_preorder rfl rfl
theorem q_term_Vars_1 : Qi P f_term_Vars_1 F_term_Vars_1 := callF_imp p_term_Vars_1 rfl rfl
theorem q_term_Vars_1_1 : Qp P f_term_Vars_1_1 := callF_pure p_term_Vars_1_1 rfl rfl
theorem r_term_Vars_1_1 : Rp P f_term_Vars_1_1 9 [.tmp 3] F_term_Vars_1_1 := fun h => R_go p_term_Vars_1_1 h
theorem q_slices_ContainsFunc_api_Var_api_Var : Qp P f_slices_ContainsFunc_api_Var_api_Var := callF_pure p_slices_ContainsFunc_api_Var_api_Var rfl rfl
theorem r_slices_ContainsFunc_api_Var_api_Var : Rp P f_slices_ContainsFunc_api_Var_api_Var 9 [.tmp 4] F_slices_ContainsFunc_api_Var_api_Var := fun h => R_go p_slices_ContainsFunc_api_Var_api_Var h
theorem q_term_Vars_2 : Qp P f_term_Vars_2 := callF_pure p_term_Vars_2 rfl rfl
theorem r_term_Vars_2 : Rp P f_term_Vars_2 10 [.tmp 4] F_term_Vars_2 := fun h => R_go p_term_Vars_2 h
theorem q_strings_Compare : Qp P f_strings_Compare := callF_pure p_strings_Compare rfl rfl
theorem r_strings_Compare : Rp P f_strings_Compare 8 [.tmp 4] F_strings_Compare := fun h => R_go p_strings_Compare h
theorem q_r06_Pre : Qp P f_r06_Pre := callF_pure p_r06_Pre rfl rfl
theorem r_r06_Pre : Rp P f_r06_Pre 23 [.tmp 2] F_r06_Pre := fun h => R_go p_r06_Pre h
theorem q_term_clamp : Qp P f_term_clamp := callF_pure p_term_clamp rfl rfl
theorem r_term_clamp : Rp P f_term_clamp 6 [.tmp 2] F_term_clamp := fun h => R_go p_term_clamp h
theorem q_opinfo_Width : Qp P f_opinfo_Width := callF_pure p_opinfo_Width rfl rfl
theorem r_opinfo_Width : Rp P f_opinfo_Width 144 [.tmp 8, .tmp 9] F_opinfo_Width := fun h => R_go p_opinfo_Width h
theorem q_term_widths : Qp P f_term_widths := callF_pure p_term_widths rfl rfl
theorem r_term_widths : Rp P f_term_widths 23 [.tmp 2] F_term_widths := fun h => R_go p_term_widths h
theorem q_r06_clamp : Qp P f_r06_clamp := callF_pure p_r06_clamp rfl rfl
theorem r_r06_clamp : Rp P f_r06_clamp 6 [.tmp 2] F_r06_clamp := fun h => R_go p_r06_clamp h
theorem q_r06_Cut : Qp P f_r06_Cut := callF_pure p_r06_Cut rfl rfl
theorem r_r06_Cut : Rp P f_r06_Cut 13 [.tmp 4] F_r06_Cut := fun h => R_go p_r06_Cut h
theorem q_r04_Width : Qp P f_r04_Width := callF_pure p_r04_Width rfl rfl
theorem r_r04_Width : Rp P f_r04_Width 133 [.tmp 8, .tmp 9] F_r04_Width := fun h => R_go p_r04_Width h
theorem q_r06_Widths : Qp P f_r06_Widths := callF_pure p_r06_Widths rfl rfl
theorem r_r06_Widths : Rp P f_r06_Widths 20 [.tmp 2] F_r06_Widths := fun h => R_go p_r06_Widths h
theorem q_cmp_Compare_int : Qp P f_cmp_Compare_int := callF_pure p_cmp_Compare_int rfl rfl
theorem r_cmp_Compare_int : Rp P f_cmp_Compare_int 20 [.tmp 4] F_cmp_Compare_int := fun h => R_go p_cmp_Compare_int h
theorem q_cmp_Or_int : Qp P f_cmp_Or_int := callF_pure p_cmp_Or_int rfl rfl
theorem r_cmp_Or_int : Rp P f_cmp_Or_int 18 [.tmp 2] F_cmp_Or_int := fun h => R_go p_cmp_Or_int h
theorem q_cmp_Compare_api_Op : Qp P f_cmp_Compare_api_Op := callF_pure p_cmp_Compare_api_Op rfl rfl
theorem r_cmp_Compare_api_Op : Rp P f_cmp_Compare_api_Op 20 [.tmp 4] F_cmp_Compare_api_Op := fun h => R_go p_cmp_Compare_api_Op h
theorem q_cmp_Compare_uint64 : Qp P f_cmp_Compare_uint64 := callF_pure p_cmp_Compare_uint64 rfl rfl
theorem r_cmp_Compare_uint64 : Rp P f_cmp_Compare_uint64 20 [.tmp 4] F_cmp_Compare_uint64 := fun h => R_go p_cmp_Compare_uint64 h
theorem q_slices_CompareFunc_api_Term_api_Term_api_Term_api_Term : Qp P f_slices_CompareFunc_api_Term_api_Term_api_Term_api_Term := callF_pure p_slices_CompareFunc_api_Term_api_Term_api_Term_api_Term rfl rfl
theorem r_slices_CompareFunc_api_Term_api_Term_api_Term_api_Term : Rp P f_slices_CompareFunc_api_Term_api_Term_api_Term_api_Term 39 [.tmp 6] F_slices_CompareFunc_api_Term_api_Term_api_Term_api_Term := fun h => R_go p_slices_CompareFunc_api_Term_api_Term_api_Term_api_Term h
theorem q_r06_order : Qp P f_r06_order := callF_pure p_r06_order rfl rfl
theorem r_r06_order : Rp P f_r06_order 13 [.tmp 4] F_r06_order := fun h => R_go p_r06_order h
theorem q_slices_EqualFunc_api_Term_api_Term_api_Term_api_Term : Qp P f_slices_EqualFunc_api_Term_api_Term_api_Term_api_Term := callF_pure p_slices_EqualFunc_api_Term_api_Term_api_Term_api_Term rfl rfl
theorem r_slices_EqualFunc_api_Term_api_Term_api_Term_api_Term : Rp P f_slices_EqualFunc_api_Term_api_Term_api_Term_api_Term 32 [.tmp 6] F_slices_EqualFunc_api_Term_api_Term_api_Term_api_Term := fun h => R_go p_slices_EqualFunc_api_Term_api_Term_api_Term_api_Term h
theorem q_term_All_1 : Qi P f_term_All_1 F_term_All_1 := callF_imp p_term_All_1 rfl rfl
theorem q_term_postorder : Qi P f_term_postorder F_term_postorder := callF_imp p_term_postorder rfl rfl
theorem q_term_All_1_1 : Qi P f_term_All_1_1 F_term_All_1_1 := callF_imp p_term_All_1_1 rfl rfl
theorem q_slices_ContainsFunc_api_Term_api_Term : Qp P f_slices_ContainsFunc_api_Term_api_Term := callF_pure p_slices_ContainsFunc_api_Term_api_Term rfl rfl
theorem r_slices_ContainsFunc_api_Term_api_Term : Rp P f_slices_ContainsFunc_api_Term_api_Term 9 [.tmp 4] F_slices_ContainsFunc_api_Term_api_Term := fun h => R_go p_slices_ContainsFunc_api_Term_api_Term h
theorem q_term_Subterms_1 : Qp P f_term_Subterms_1 := callF_pure p_term_Subterms_1 rfl rfl
theorem r_term_Subterms_1 : Rp P f_term_Subterms_1 7 [.tmp 3] F_term_Subterms_1 := fun h => R_go p_term_Subterms_1 h
theorem q_r06_Has : Qp P f_r06_Has := callF_pure p_r06_Has rfl rfl
theorem r_r06_Has : Rp P f_r06_Has 18 [.tmp 4] F_r06_Has := fun h => R_go p_r06_Has h
theorem q_opinfo_Arity : Qp P f_opinfo_Arity := callF_pure p_opinfo_Arity rfl rfl
theorem r_opinfo_Arity : Rp P f_opinfo_Arity 42 [.tmp 2] F_opinfo_Arity := fun h => R_go p_opinfo_Arity h
theorem q_opinfo_Pattern : Qp P f_opinfo_Pattern := callF_pure p_opinfo_Pattern rfl rfl
theorem r_opinfo_Pattern : Rp P f_opinfo_Pattern 9 [.tmp 2] F_opinfo_Pattern := fun h => R_go p_opinfo_Pattern h
theorem q_r06_Node : Qp P f_r06_Node := callF_pure p_r06_Node rfl rfl
theorem r_r06_Node : Rp P f_r06_Node 84 [.tmp 2] F_r06_Node := fun h => R_go p_r06_Node h
theorem q_slices_IndexFunc_api_Var_api_Var : Qp P f_slices_IndexFunc_api_Var_api_Var := callF_pure p_slices_IndexFunc_api_Var_api_Var rfl rfl
theorem r_slices_IndexFunc_api_Var_api_Var : Rp P f_slices_IndexFunc_api_Var_api_Var 19 [.tmp 4] F_slices_IndexFunc_api_Var_api_Var := fun h => R_go p_slices_IndexFunc_api_Var_api_Var h
theorem q_internal_bytealg_CompareString : Qp P f_internal_bytealg_CompareString := callF_pure p_internal_bytealg_CompareString rfl rfl
theorem r_internal_bytealg_CompareString : Rp P f_internal_bytealg_CompareString 8 [.tmp 4] F_internal_bytealg_CompareString := fun h => R_go p_internal_bytealg_CompareString h
theorem q_opinfo_known : Qp P f_opinfo_known := callF_pure p_opinfo_known rfl rfl
theorem r_opinfo_known : Rp P f_opinfo_known 9 [.tmp 2] F_opinfo_known := fun h => R_go p_opinfo_known h
theorem q_opinfo_inside : Qp P f_opinfo_inside := callF_pure p_opinfo_inside rfl rfl
theorem r_opinfo_inside : Rp P f_opinfo_inside 9 [.tmp 2] F_opinfo_inside := fun h => R_go p_opinfo_inside h
theorem q_opinfo_leaf : Qp P f_opinfo_leaf := callF_pure p_opinfo_leaf rfl rfl
theorem r_opinfo_leaf : Rp P f_opinfo_leaf 26 [.tmp 6, .tmp 7] F_opinfo_leaf := fun h => R_go p_opinfo_leaf h
theorem q_opinfo_resized : Qp P f_opinfo_resized := callF_pure p_opinfo_resized rfl rfl
theorem r_opinfo_resized : Rp P f_opinfo_resized 45 [.tmp 8, .tmp 9] F_opinfo_resized := fun h => R_go p_opinfo_resized h
theorem q_opinfo_agreed : Qp P f_opinfo_agreed := callF_pure p_opinfo_agreed rfl rfl
theorem r_opinfo_agreed : Rp P f_opinfo_agreed 9 [.tmp 4, .tmp 5] F_opinfo_agreed := fun h => R_go p_opinfo_agreed h
theorem q_r04_Arity : Qp P f_r04_Arity := callF_pure p_r04_Arity rfl rfl
theorem r_r04_Arity : Rp P f_r04_Arity 16 [.tmp 2] F_r04_Arity := fun h => R_go p_r04_Arity h
theorem q_r04_width : Qp P f_r04_width := callF_pure p_r04_width rfl rfl
theorem r_r04_width : Rp P f_r04_width 9 [.tmp 2] F_r04_width := fun h => R_go p_r04_width h
theorem q_r04_Leaf : Qp P f_r04_Leaf := callF_pure p_r04_Leaf rfl rfl
theorem r_r04_Leaf : Rp P f_r04_Leaf 6 [.tmp 2] F_r04_Leaf := fun h => R_go p_r04_Leaf h
theorem q_r04_leaf : Qp P f_r04_leaf := callF_pure p_r04_leaf rfl rfl
theorem r_r04_leaf : Rp P f_r04_leaf 31 [.tmp 6, .tmp 7] F_r04_leaf := fun h => R_go p_r04_leaf h
theorem q_r04_parts : Qp P f_r04_parts := callF_pure p_r04_parts rfl rfl
theorem r_r04_parts : Rp P f_r04_parts 46 [.tmp 8, .tmp 9] F_r04_parts := fun h => R_go p_r04_parts h
theorem q_cmp_isNaN_int : Qp P f_cmp_isNaN_int := callF_pure p_cmp_isNaN_int rfl rfl
theorem r_cmp_isNaN_int : Rp P f_cmp_isNaN_int 6 [.tmp 2] F_cmp_isNaN_int := fun h => R_go p_cmp_isNaN_int h
theorem q_cmp_isNaN_api_Op : Qp P f_cmp_isNaN_api_Op := callF_pure p_cmp_isNaN_api_Op rfl rfl
theorem r_cmp_isNaN_api_Op : Rp P f_cmp_isNaN_api_Op 6 [.tmp 2] F_cmp_isNaN_api_Op := fun h => R_go p_cmp_isNaN_api_Op h
theorem q_cmp_isNaN_uint64 : Qp P f_cmp_isNaN_uint64 := callF_pure p_cmp_isNaN_uint64 rfl rfl
theorem r_cmp_isNaN_uint64 : Rp P f_cmp_isNaN_uint64 6 [.tmp 2] F_cmp_isNaN_uint64 := fun h => R_go p_cmp_isNaN_uint64 h
theorem q_slices_IndexFunc_api_Term_api_Term : Qp P f_slices_IndexFunc_api_Term_api_Term := callF_pure p_slices_IndexFunc_api_Term_api_Term rfl rfl
theorem r_slices_IndexFunc_api_Term_api_Term : Rp P f_slices_IndexFunc_api_Term_api_Term 19 [.tmp 4] F_slices_IndexFunc_api_Term_api_Term := fun h => R_go p_slices_IndexFunc_api_Term_api_Term h
theorem q_r04_Pattern : Qp P f_r04_Pattern := callF_pure p_r04_Pattern rfl rfl
theorem r_r04_Pattern : Rp P f_r04_Pattern 6 [.tmp 2] F_r04_Pattern := fun h => R_go p_r04_Pattern h
theorem q_r04_Is : Qp P f_r04_Is := callF_pure p_r04_Is rfl rfl
theorem r_r04_Is : Rp P f_r04_Is 18 [.tmp 4] F_r04_Is := fun h => R_go p_r04_Is h
theorem q_slices_SortFunc_api_Var_api_Var {args : List AV} {σ : Store} : callF P f_slices_SortFunc_api_Var_api_Var args σ = (primSort 2 f_term_Vars_2 okV ltV) args σ := callF_prim rfl
theorem q_internal_bytealg_abigen_runtime_cmpstring {args : List AV} {σ : Store} : callF P f_internal_bytealg_abigen_runtime_cmpstring args σ = (purePrim primCompare) args σ := callF_prim rfl
end
end Go.AE.S
