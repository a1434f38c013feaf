/- The intermediate code of the functions that the laws reach (printed by wip/tools/Emit.lean, mkir.py). -/
import Derived.Test.YtkdaonhccijffaaP0
namespace Go.AE.S
open Go Go.AE
noncomputable section
def bs (l : List Nat) : ByteArray := ⟨(l.map UInt8.ofNat).toArray⟩
def f_law08_EvalTableWide : FuncId := 3
def f_eval_Table : FuncId := 4
def f_law08_live : FuncId := 5
def f_eval_Eval : FuncId := 6
def f_r08_Assign : FuncId := 7
def f_term_Check : FuncId := 8
def f_term_Vars : FuncId := 9
def f_eval_value : FuncId := 10
def f_eval_Table_1 : FuncId := 11
def f_law08_leaf : FuncId := 12
def f_law08_number : FuncId := 13
def f_eval_Fold : FuncId := 14
def f_r06_Same : FuncId := 15
def f_eval_Eval_1 : FuncId := 16
def f_r01_Cut : FuncId := 17
def f_term_measure : FuncId := 18
def f_term_All : FuncId := 19
def f_term_node : FuncId := 20
def f_term_preorder : FuncId := 21
def f_term_Vars_1 : FuncId := 22
def f_term_Vars_1_1 : FuncId := 23
def f_slices_ContainsFunc_api_Var_api_Var : FuncId := 24
def f_slices_SortFunc_api_Var_api_Var : FuncId := 25
def f_term_Vars_2 : FuncId := 26
def f_strings_Compare : FuncId := 27
def f_bits_Cut : FuncId := 28
def f_eval_compute : FuncId := 29
def f_term_Copy : FuncId := 30
def f_eval_fold : FuncId := 31
def f_r06_SameAll : FuncId := 32
def f_r01_W : FuncId := 33
def f_r01_Bit : FuncId := 34
def f_term_All_1 : FuncId := 35
def f_term_postorder : FuncId := 36
def f_term_All_1_1 : FuncId := 37
def f_opinfo_Arity : FuncId := 38
def f_opinfo_Pattern : FuncId := 39
def f_term_Name : FuncId := 40
def f_opinfo_Width : FuncId := 41
def f_term_widths : FuncId := 42
def f_slices_IndexFunc_api_Var_api_Var : FuncId := 43
def f_internal_bytealg_CompareString : FuncId := 46
def f_bits_Mask : FuncId := 47
def f_bits_Not : FuncId := 48
def f_bits_Neg : FuncId := 49
def f_bits_Concat : FuncId := 50
def f_bits_Extract : FuncId := 51
def f_bits_Sext : FuncId := 52
def f_eval_binary : FuncId := 53
def f_eval_Closed : FuncId := 54
def f_term_Const : FuncId := 55
def f_eval_fold_1 : FuncId := 56
def f_opinfo_known : FuncId := 57
def f_opinfo_inside : FuncId := 58
def f_opinfo_leaf : FuncId := 59
def f_opinfo_resized : FuncId := 60
def f_opinfo_agreed : FuncId := 61
def f_internal_bytealg_abigen_runtime_cmpstring : FuncId := 72
def f_bits_clamp : FuncId := 73
def f_bits_Signed : FuncId := 74
def f_bits_And : FuncId := 75
def f_bits_Or : FuncId := 76
def f_bits_Xor : FuncId := 77
def f_bits_Add : FuncId := 78
def f_bits_Sub : FuncId := 79
def f_bits_Mul : FuncId := 80
def f_bits_Udiv : FuncId := 81
def f_bits_Urem : FuncId := 82
def f_bits_Shl : FuncId := 83
def f_bits_Lshr : FuncId := 84
def f_bits_Ashr : FuncId := 85
def f_eval_word : FuncId := 86
def f_bits_Ult : FuncId := 87
def f_bits_Slt : FuncId := 88
def f_slices_ContainsFunc_api_Term_api_Term : FuncId := 89
def f_eval_Closed_1 : FuncId := 90
def f_term_clamp : FuncId := 91
def f_bits_shift : FuncId := 97
def f_bits_flag : FuncId := 98
def f_slices_IndexFunc_api_Term_api_Term : FuncId := 99
def B0_law08_EvalTableWide : K :=
  (.seq (.seq (.reg false [mvI 19 (.t 7), mvI 20 (.t 5), opI 21 (.arith .lss (.t 19) (.t 20))])
  (.cond (.t 21) .skip (.exit 0)))
  (.seq (.block 1 (.reg false [mvI 24 (.t 6), mvI 25 (.t 7), opI 26 (.arith .add (kI 97) (.t 25)), opI 27 (.conv .u8 (.t 26)), opI 28 (.bslice 1 [(.p (.int .u8 0))] 1 [(0, 1, (.t 27))]), opI 29 (.b2s (.t 28)), opI 30 (.arith .add (.c (.p (.str (bs [120])))) (.t 29)), opI 31 (.build [(.p (.str (bs []))), (.p (.int .i64 0))] [(0, 1, (.t 30)), (1, 1, (kI 1))]), opI 32 (.bslice 2 [(.p (.str (bs []))), (.p (.int .i64 0))] 1 [(0, 2, (.t 31))]), opI 33 (.append 2 24 (.t 24) (.t 32)), opI 6 (.mv (.t 33) true)]))
  (.reg false [mvI 22 (.t 7), opI 23 (.arith .add (.t 22) (kI 1)), mvI 7 (.t 23)])))
def L0_law08_EvalTableWide : K := .loop [1, 5, 6, 7] B0_law08_EvalTableWide
def F_law08_EvalTableWide : AFn := ⟨112, [.tmp 4],
  (.seq (.reg false [mvI 4 (.c (.p (.bool false)))])
  (.seq (.reg false [mvI 14 (.t 0), opI 15 (.conv .i64 (.t 14)), opI 16 (.arith .rem (.t 15) (kI 17)), opI 17 (.arith .add (kI 1) (.t 16)), mvI 5 (.t 17)])
  (.seq (.reg false [opI 18 (.bslice 2 [(.p (.str (bs []))), (.p (.int .i64 0))] 0 []), opI 6 (.mv (.t 18) true)])
  (.seq (.seq (.reg false [mvI 7 (kI 0)])
  (.block 0 L0_law08_EvalTableWide))
  (.seq (.reg false [mvI 34 (.t 6), mvI 35 (.t 5), opI 36 (.arith .sub (.t 35) (kI 1)), opI 37 (.iadrS 2 (.t 34) (.t 36)), opI 38 (.fadr 0 (.t 37)), opI 39 (.load 1 false (.t 38)), opI 40 (.build [(.p (.int .i64 0)), (.p (.int .i64 0)), (.p (.int .u64 0)), (.p (.str (bs []))), .nils] [(0, 1, (kI 1)), (1, 1, (kI 1)), (3, 1, (.t 39))]), opI 8 (.init 5 true (.t 40) true)])
  (.seq (.reg false [opI 42 (.load 5 true (.t 8)), mvI 43 (.t 6), opI 44 (.callf f_eval_Table [(.t 42), (.t 43)]), mvI 41 (.t 44), opI 45 (.extract (.t 41) 0), opI 46 (.extract (.t 41) 1), mvI 9 (.t 45), mvI 10 (.t 46)])
  (.seq (.seq (.reg false [mvI 47 (.t 5), opI 48 (.arith .gtr (.t 47) (kI 16))])
  (.cond (.t 48) (.seq (.reg false [mvI 49 (.t 10), opI 50 (.arith .eql (.t 49) (kI 7)), mvI 51 (.t 50), ⟨some 52, .mv (.t 9) false, some (51, true)⟩, ⟨some 53, .lenS (.t 52), some (51, true)⟩, ⟨some 54, .arith .eql (.t 53) (kI 0), some (51, true)⟩, opI 55 (.pick (.t 51) (.t 54) (.c (.p (.bool false)))), mvI 56 (.t 55), ⟨some 57, .callf f_law08_live [], some (56, true)⟩, opI 58 (.pick (.t 56) (.t 57) (.c (.p (.bool false)))), mvI 4 (.t 58)])
  .ret) .skip))
  (.seq (.seq (.reg false [mvI 59 (.t 10), opI 60 (.arith .neq (.t 59) (kI 0)), mvI 61 (.t 60), ⟨some 62, .mv (.t 9) false, some (61, false)⟩, ⟨some 63, .lenS (.t 62), some (61, false)⟩, ⟨some 64, .mv (.t 5) false, some (61, false)⟩, ⟨some 65, .conv .u64 (.t 64), some (61, false)⟩, ⟨some 66, .arith .shl (kI 1) (.t 65), some (61, false)⟩, ⟨some 67, .arith .neq (.t 63) (.t 66), some (61, false)⟩, opI 68 (.pick (.t 61) (.c (.p (.bool true))) (.t 67))])
  (.cond (.t 68) (.seq (.reg false [mvI 4 (.c (.p (.bool false)))])
  .ret) .skip))
  (.seq (.reg false [mvI 69 (.t 1), mvI 70 (.t 9), opI 71 (.lenS (.t 70)), opI 72 (.conv .u32 (.t 71)), opI 73 (.arith .rem (.t 69) (.t 72)), opI 74 (.conv .i64 (.t 73)), mvI 11 (.t 74)])
  (.seq (.reg true [opI 76 (.load 5 true (.t 8)), mvI 77 (.t 6), mvI 78 (.t 11), opI 79 (.conv .u64 (.t 78)), opI 80 (.callf f_r08_Assign [(.t 77), (.t 79)]), opI 81 (.callf f_eval_Eval [(.t 76), (.t 80)]), mvI 75 (.t 81), opI 82 (.extract (.t 75) 0), opI 83 (.extract (.t 75) 1), mvI 12 (.t 82), mvI 13 (.t 83)])
  (.seq (.reg false [mvI 84 (.t 13), opI 85 (.arith .eql (.t 84) (kI 0)), mvI 86 (.t 85), ⟨some 87, .mv (.t 12) false, some (86, true)⟩, ⟨some 88, .mv (.t 9) false, some (86, true)⟩, ⟨some 89, .mv (.t 11) false, some (86, true)⟩, ⟨some 90, .iadrS 1 (.t 88) (.t 89), some (86, true)⟩, ⟨some 91, .load 1 false (.t 90), some (86, true)⟩, ⟨some 92, .arith .eql (.t 87) (.t 91), some (86, true)⟩, opI 93 (.pick (.t 86) (.t 92) (.c (.p (.bool false)))), mvI 94 (.t 93), ⟨some 95, .mv (.t 9) false, some (94, true)⟩, ⟨some 96, .iadrS 1 (.t 95) (kI 0), some (94, true)⟩, ⟨some 97, .load 1 false (.t 96), some (94, true)⟩, ⟨some 98, .arith .eql (.t 97) (.c (.p (.int .u64 0))), some (94, true)⟩, opI 99 (.pick (.t 94) (.t 98) (.c (.p (.bool false)))), mvI 100 (.t 99), ⟨some 101, .mv (.t 9) false, some (100, true)⟩, ⟨some 102, .mv (.t 9) false, some (100, true)⟩, ⟨some 103, .lenS (.t 102), some (100, true)⟩, ⟨some 104, .arith .sub (.t 103) (kI 1), some (100, true)⟩, ⟨some 105, .iadrS 1 (.t 101) (.t 104), some (100, true)⟩, ⟨some 106, .load 1 false (.t 105), some (100, true)⟩, ⟨some 107, .arith .eql (.t 106) (.c (.p (.int .u64 1))), some (100, true)⟩, opI 108 (.pick (.t 100) (.t 107) (.c (.p (.bool false)))), mvI 109 (.t 108), ⟨some 110, .callf f_law08_live [], some (109, true)⟩, opI 111 (.pick (.t 109) (.t 110) (.c (.p (.bool false)))), mvI 4 (.t 111)])
  .ret))))))))))), false⟩
def B0_eval_Table : K :=
  (.seq (.reg false [opI 33 (.arith .lss (.t 32) (.t 31))])
  (.seq (.cond (.t 33) .skip (.exit 0))
  (.seq (.block 1 (.seq (.reg false [mvI 34 (.t 32), opI 35 (.iadrS 2 (.t 30) (.t 32)), opI 36 (.load 2 true (.t 35)), opI 9 (.alloc [(.p (.str (bs []))), (.p (.int .i64 0))] 2), mvI 8 (.t 34), ⟨none, .store 2 (.t 9) (.t 36), none⟩])
  (.seq (.seq (.reg false [opI 38 (.load 1 false (.t 7)), opI 39 (.fadr 0 (.t 9)), opI 40 (.load 1 false (.t 39)), opI 41 (.lookup .str (.p (.int .i64 0)) (.t 38) (.t 40) true), mvI 37 (.t 41), opI 42 (.extract (.t 37) 0), opI 43 (.extract (.t 37) 1), mvI 10 (.t 42), mvI 11 (.t 43)])
  (.seq (.reg false [mvI 44 (.t 11)])
  (.cond (.t 44) (.seq (.reg false [mvI 4 (.c .nils), mvI 5 (kI 12)])
  .ret) .skip)))
  (.reg false [opI 45 (.load 1 false (.t 7)), opI 46 (.fadr 0 (.t 9)), opI 47 (.load 1 false (.t 46)), mvI 48 (.t 8), ⟨none, .mupd .str (.t 45) (.t 47) (.t 48), none⟩]))))
  (.reg false [opI 49 (.arith .add (.t 32) (kI 1)), mvI 32 (.t 49)]))))
def L0_eval_Table : K := .loop [1, 2, 7, 30, 31, 32] B0_eval_Table
def B1_eval_Table : K :=
  (.seq (.reg false [opI 54 (.arith .lss (.t 53) (.t 52))])
  (.seq (.cond (.t 54) .skip (.exit 2))
  (.seq (.block 3 (.seq (.reg false [opI 55 (.iadrS 2 (.t 51) (.t 53)), opI 56 (.load 2 true (.t 55)), opI 13 (.init 2 true (.t 56) true)])
  (.seq (.reg false [opI 58 (.load 1 false (.t 7)), opI 59 (.fadr 0 (.t 13)), opI 60 (.load 1 false (.t 59)), opI 61 (.lookup .str (.p (.int .i64 0)) (.t 58) (.t 60) true), mvI 57 (.t 61), opI 62 (.extract (.t 57) 0), opI 63 (.extract (.t 57) 1), mvI 14 (.t 62), mvI 15 (.t 63)])
  (.seq (.reg true [mvI 64 (.t 15), opI 65 (.not (.t 64)), mvI 66 (.t 65), ⟨some 67, .mv (.t 1) false, some (66, false)⟩, ⟨some 68, .mv (.t 14) false, some (66, false)⟩, ⟨some 69, .iadrS 2 (.t 67) (.t 68), some (66, false)⟩, ⟨some 70, .fadr 1 (.t 69), some (66, false)⟩, ⟨some 71, .load 1 false (.t 70), some (66, false)⟩, ⟨some 72, .fadr 1 (.t 13), some (66, false)⟩, ⟨some 73, .load 1 false (.t 72), some (66, false)⟩, ⟨some 74, .arith .neq (.t 71) (.t 73), some (66, false)⟩, opI 75 (.pick (.t 66) (.c (.p (.bool true))) (.t 74))])
  (.cond (.t 75) (.seq (.reg false [mvI 4 (.c .nils), mvI 5 (kI 12)])
  .ret) .skip)))))
  (.reg false [opI 76 (.arith .add (.t 53) (kI 1)), mvI 53 (.t 76)]))))
def L1_eval_Table : K := .loop [1, 2, 7, 51, 52, 53] B1_eval_Table
def B2_eval_Table : K :=
  (.seq (.reg false [opI 80 (.arith .lss (.t 79) (.t 78))])
  (.seq (.cond (.t 80) .skip (.exit 4))
  (.seq (.block 5 (.seq (.reg false [opI 81 (.iadrS 2 (.t 77) (.t 79)), opI 82 (.load 2 true (.t 81)), opI 18 (.init 2 true (.t 82) true)])
  (.seq (.reg false [opI 83 (.fadr 1 (.t 18)), opI 84 (.load 1 false (.t 83)), opI 85 (.arith .lss (.t 84) (kI 1)), mvI 86 (.t 85), ⟨some 87, .fadr 1 (.t 18), some (86, false)⟩, ⟨some 88, .load 1 false (.t 87), some (86, false)⟩, ⟨some 89, .arith .gtr (.t 88) (kI 64), some (86, false)⟩, opI 90 (.pick (.t 86) (.c (.p (.bool true))) (.t 89))])
  (.cond (.t 90) (.seq (.reg false [mvI 4 (.c .nils), mvI 5 (kI 3)])
  .ret) .skip))))
  (.reg false [opI 91 (.arith .add (.t 79) (kI 1)), mvI 79 (.t 91)]))))
def L2_eval_Table : K := .loop [1, 2, 7, 16, 77, 78, 79] B2_eval_Table
def B3_eval_Table : K :=
  (.seq (.reg false [opI 98 (.arith .lss (.t 97) (.t 96))])
  (.seq (.cond (.t 98) .skip (.exit 6))
  (.seq (.block 7 (.seq (.reg false [mvI 99 (.t 97), opI 100 (.iadrS 2 (.t 95) (.t 97)), opI 101 (.load 2 true (.t 100)), opI 21 (.alloc [(.p (.str (bs []))), (.p (.int .i64 0))] 2), mvI 20 (.t 99), ⟨none, .store 2 (.t 21) (.t 101), none⟩])
  (.seq (.reg false [opI 102 (.load 1 false (.t 19)), mvI 103 (.t 20), mvI 104 (.t 16), opI 105 (.iadrS 1 (.t 102) (.t 103)), ⟨none, .store 1 (.t 105) (.t 104), none⟩])
  (.seq (.reg false [mvI 106 (.t 16), opI 107 (.fadr 1 (.t 21)), opI 108 (.load 1 false (.t 107)), opI 109 (.arith .add (.t 106) (.t 108)), mvI 16 (.t 109)])
  (.seq (.reg false [mvI 110 (.t 16), opI 111 (.arith .gtr (.t 110) (kI 16))])
  (.cond (.t 111) (.seq (.reg false [mvI 4 (.c .nils), mvI 5 (kI 7)])
  .ret) .skip))))))
  (.reg false [opI 112 (.arith .add (.t 97) (kI 1)), mvI 97 (.t 112)]))))
def L3_eval_Table : K := .loop [2, 7, 16, 19, 95, 96, 97] B3_eval_Table
def B4_eval_Table : K :=
  (.seq (.reg false [opI 119 (.arith .lss (.t 118) (.t 117))])
  (.seq (.cond (.t 119) .skip (.exit 8))
  (.seq (.block 9 (.seq (.reg false [mvI 120 (.t 118), opI 23 (.init 1 false (.t 120) true)])
  (.reg false [mvI 121 (.t 22), opI 122 (.load 5 true (.t 2)), opI 123 (.mkfn f_eval_Table_1 [(.t 23), (.t 19), (.t 7)]), opI 124 (.callf f_eval_value [(.t 122), (.t 123)]), opI 125 (.bslice 1 [(.p (.int .u64 0))] 1 [(0, 1, (.t 124))]), opI 126 (.append 1 8 (.t 121) (.t 125)), opI 22 (.mv (.t 126) true)])))
  (.reg false [opI 127 (.arith .add (.t 118) (kI 1)), mvI 118 (.t 127)]))))
def L4_eval_Table : K := .loop [2, 7, 19, 22, 117, 118] B4_eval_Table
def F_eval_Table : AFn := ⟨129, [.tmp 4, .tmp 5],
  (.seq (.reg false [opI 2 (.box 5 true (.t 0) true), mvI 4 (.c .nils), mvI 5 (kI 0)])
  (.seq (.seq (.reg false [opI 24 (.load 5 true (.t 2)), opI 25 (.callf f_term_Check [(.t 24)]), mvI 6 (.t 25)])
  (.seq (.reg false [mvI 26 (.t 6), opI 27 (.arith .neq (.t 26) (kI 0))])
  (.cond (.t 27) (.seq (.reg false [mvI 28 (.t 6), mvI 4 (.c .nils), mvI 5 (.t 28)])
  .ret) .skip)))
  (.seq (.reg false [opI 29 (.mkmap), opI 7 (.init 1 false (.t 29) true)])
  (.seq (.seq (.reg false [mvI 30 (.t 1), opI 31 (.lenS (.t 30)), mvI 32 (kI 0)])
  (.block 0 L0_eval_Table))
  (.seq (.seq (.reg false [opI 50 (.load 5 true (.t 2)), opI 51 (.callf f_term_Vars [(.t 50)]), opI 52 (.lenS (.t 51)), mvI 53 (kI 0)])
  (.block 2 L1_eval_Table))
  (.seq (.reg false [mvI 16 (kI 0)])
  (.seq (.seq (.reg false [mvI 77 (.t 1), opI 78 (.lenS (.t 77)), mvI 79 (kI 0)])
  (.block 4 L2_eval_Table))
  (.seq (.reg false [mvI 92 (.t 1), opI 93 (.lenS (.t 92)), opI 94 (.mkslice 1 8 [(.p (.int .i64 0))] (.t 93) (.t 93)), opI 19 (.init 1 false (.t 94) true)])
  (.seq (.seq (.reg false [mvI 95 (.t 1), opI 96 (.lenS (.t 95)), mvI 97 (kI 0)])
  (.block 6 L3_eval_Table))
  (.seq (.reg false [mvI 113 (.t 16), opI 114 (.arith .shl (kI 1) (.t 113)), opI 115 (.mkslice 1 8 [(.p (.int .u64 0))] (kI 0) (.t 114)), opI 22 (.mv (.t 115) true)])
  (.seq (.seq (.reg false [mvI 116 (.t 16), opI 117 (.arith .shl (kI 1) (.t 116)), mvI 118 (kI 0)])
  (.block 8 L4_eval_Table))
  (.seq (.reg false [mvI 128 (.t 22), mvI 4 (.t 128), mvI 5 (kI 0)])
  .ret)))))))))))), false⟩
def F_law08_live : AFn := ⟨46, [.tmp 0],
  (.seq (.reg false [mvI 0 (.c (.p (.bool false)))])
  (.seq (.reg false [opI 7 (.callf f_law08_leaf [(.c (.p (.str (bs [120]))))]), opI 1 (.init 5 true (.t 7) true)])
  (.seq (.reg true [opI 8 (.load 5 true (.t 1)), opI 9 (.callf f_law08_number [(.c (.p (.int .u64 3)))]), opI 10 (.blist 5 [(.p (.int .i64 0)), (.p (.int .i64 0)), (.p (.int .u64 0)), (.p (.str (bs []))), .nils] 2 [(0, 5, (.t 8)), (1, 5, (.t 9))]), opI 11 (.build [(.p (.int .i64 0)), (.p (.int .i64 0)), (.p (.int .u64 0)), (.p (.str (bs []))), .nils] [(0, 1, (kI 17)), (1, 1, (kI 1)), (4, 1, (.t 10))]), opI 2 (.alloc [(.p (.int .i64 0)), (.p (.int .i64 0)), (.p (.int .u64 0)), (.p (.str (bs []))), .nils] 5), ⟨none, .store 5 (.t 2) (.t 11), none⟩])
  (.seq (.reg true [opI 13 (.load 5 true (.t 2)), opI 14 (.callf f_law08_number [(.c (.p (.int .u64 1)))]), opI 15 (.load 5 true (.t 1)), opI 16 (.blist 5 [(.p (.int .i64 0)), (.p (.int .i64 0)), (.p (.int .u64 0)), (.p (.str (bs []))), .nils] 3 [(0, 5, (.t 13)), (1, 5, (.t 14)), (2, 5, (.t 15))]), opI 17 (.build [(.p (.int .i64 0)), (.p (.int .i64 0)), (.p (.int .u64 0)), (.p (.str (bs []))), .nils] [(0, 1, (kI 19)), (1, 1, (kI 4)), (4, 1, (.t 16))]), opI 18 (.build [(.p (.str (bs []))), (.p (.int .u64 0))] [(0, 1, (.c (.p (.str (bs [120]))))), (1, 1, (.c (.p (.int .u64 2))))]), opI 19 (.blist 2 [(.p (.str (bs []))), (.p (.int .u64 0))] 1 [(0, 2, (.t 18))]), opI 20 (.callf f_eval_Eval [(.t 17), (.t 19)]), mvI 12 (.t 20), opI 21 (.extract (.t 12) 0), opI 22 (.extract (.t 12) 1), mvI 3 (.t 21), mvI 4 (.t 22)])
  (.seq (.reg false [opI 23 (.callf f_law08_number [(.c (.p (.int .u64 2)))]), opI 24 (.callf f_law08_number [(.c (.p (.int .u64 3)))]), opI 25 (.bslice 5 [(.p (.int .i64 0)), (.p (.int .i64 0)), (.p (.int .u64 0)), (.p (.str (bs []))), .nils] 2 [(0, 5, (.t 23)), (1, 5, (.t 24))]), opI 26 (.build [(.p (.int .i64 0)), (.p (.int .i64 0)), (.p (.int .u64 0)), (.p (.str (bs []))), .nils] [(0, 1, (kI 10)), (1, 1, (kI 4)), (4, 1, (.t 25))]), opI 5 (.init 5 true (.t 26) true)])
  (.seq (.reg false [opI 27 (.load 5 true (.t 1)), opI 28 (.load 5 true (.t 5)), opI 29 (.bslice 5 [(.p (.int .i64 0)), (.p (.int .i64 0)), (.p (.int .u64 0)), (.p (.str (bs []))), .nils] 2 [(0, 5, (.t 27)), (1, 5, (.t 28))]), opI 30 (.build [(.p (.int .i64 0)), (.p (.int .i64 0)), (.p (.int .u64 0)), (.p (.str (bs []))), .nils] [(0, 1, (kI 8)), (1, 1, (kI 4)), (4, 1, (.t 29))]), opI 31 (.callf f_eval_Fold [(.t 30)]), opI 6 (.init 5 true (.t 31) true)])
  (.seq (.reg true [mvI 32 (.t 3), opI 33 (.arith .eql (.t 32) (.c (.p (.int .u64 1)))), mvI 34 (.t 33), ⟨some 35, .mv (.t 4) false, some (34, true)⟩, ⟨some 36, .arith .eql (.t 35) (kI 0), some (34, true)⟩, opI 37 (.pick (.t 34) (.t 36) (.c (.p (.bool false)))), mvI 38 (.t 37), ⟨some 39, .load 5 true (.t 6), some (38, true)⟩, ⟨some 40, .load 5 true (.t 1), some (38, true)⟩, ⟨some 41, .callf f_law08_number [(.c (.p (.int .u64 6)))], some (38, true)⟩, ⟨some 42, .bslice 5 [(.p (.int .i64 0)), (.p (.int .i64 0)), (.p (.int .u64 0)), (.p (.str (bs []))), .nils] 2 [(0, 5, (.t 40)), (1, 5, (.t 41))], some (38, true)⟩, ⟨some 43, .build [(.p (.int .i64 0)), (.p (.int .i64 0)), (.p (.int .u64 0)), (.p (.str (bs []))), .nils] [(0, 1, (kI 8)), (1, 1, (kI 4)), (4, 1, (.t 42))], some (38, true)⟩, ⟨some 44, .callf f_r06_Same [(.t 39), (.t 43)], some (38, true)⟩, opI 45 (.pick (.t 38) (.t 44) (.c (.p (.bool false)))), mvI 0 (.t 45)])
  .ret))))))), false⟩
def B0_eval_Eval : K :=
  (.seq (.reg false [opI 25 (.arith .lss (.t 24) (.t 23))])
  (.seq (.cond (.t 25) .skip (.exit 0))
  (.seq (.block 1 (.seq (.reg false [opI 26 (.iadrS 2 (.t 22) (.t 24)), opI 27 (.load 2 true (.t 26)), opI 9 (.init 2 true (.t 27) true)])
  (.seq (.reg false [opI 29 (.load 1 false (.t 7)), opI 30 (.fadr 0 (.t 9)), opI 31 (.load 1 false (.t 30)), opI 32 (.lookup .str (.p (.int .u64 0)) (.t 29) (.t 31) true), mvI 28 (.t 32), opI 33 (.extract (.t 28) 0), opI 34 (.extract (.t 28) 1), mvI 10 (.t 33), mvI 11 (.t 34)])
  (.seq (.reg false [mvI 35 (.t 11), opI 36 (.not (.t 35))])
  (.cond (.t 36) (.reg false [opI 37 (.load 1 false (.t 7)), opI 38 (.fadr 0 (.t 9)), opI 39 (.load 1 false (.t 38)), opI 40 (.fadr 1 (.t 9)), opI 41 (.load 1 false (.t 40)), ⟨none, .mupd .str (.t 37) (.t 39) (.t 41), none⟩]) .skip)))))
  (.reg false [opI 42 (.arith .add (.t 24) (kI 1)), mvI 24 (.t 42)]))))
def L0_eval_Eval : K := .loop [2, 7, 22, 23, 24] B0_eval_Eval
def B1_eval_Eval : K :=
  (.seq (.reg false [opI 47 (.arith .lss (.t 46) (.t 45))])
  (.seq (.cond (.t 47) .skip (.exit 2))
  (.seq (.block 3 (.seq (.reg false [opI 48 (.iadrS 2 (.t 44) (.t 46)), opI 49 (.load 2 true (.t 48)), opI 13 (.init 2 true (.t 49) true)])
  (.seq (.reg false [opI 51 (.load 1 false (.t 7)), opI 52 (.fadr 0 (.t 13)), opI 53 (.load 1 false (.t 52)), opI 54 (.lookup .str (.p (.int .u64 0)) (.t 51) (.t 53) true), mvI 50 (.t 54), opI 55 (.extract (.t 50) 0), opI 56 (.extract (.t 50) 1), mvI 14 (.t 55), mvI 15 (.t 56)])
  (.seq (.reg false [mvI 57 (.t 15), opI 58 (.not (.t 57))])
  (.cond (.t 58) (.seq (.reg false [mvI 4 (.c (.p (.int .u64 0))), mvI 5 (kI 12)])
  .ret) .skip)))))
  (.reg false [opI 59 (.arith .add (.t 46) (kI 1)), mvI 46 (.t 59)]))))
def L1_eval_Eval : K := .loop [2, 7, 44, 45, 46] B1_eval_Eval
def F_eval_Eval : AFn := ⟨63, [.tmp 4, .tmp 5],
  (.seq (.reg false [opI 2 (.box 5 true (.t 0) true), mvI 4 (.c (.p (.int .u64 0))), mvI 5 (kI 0)])
  (.seq (.seq (.reg false [opI 16 (.load 5 true (.t 2)), opI 17 (.callf f_term_Check [(.t 16)]), mvI 6 (.t 17)])
  (.seq (.reg false [mvI 18 (.t 6), opI 19 (.arith .neq (.t 18) (kI 0))])
  (.cond (.t 19) (.seq (.reg false [mvI 20 (.t 6), mvI 4 (.c (.p (.int .u64 0))), mvI 5 (.t 20)])
  .ret) .skip)))
  (.seq (.reg false [opI 21 (.mkmap), opI 7 (.init 1 false (.t 21) true)])
  (.seq (.seq (.reg false [mvI 22 (.t 1), opI 23 (.lenS (.t 22)), mvI 24 (kI 0)])
  (.block 0 L0_eval_Eval))
  (.seq (.seq (.reg false [opI 43 (.load 5 true (.t 2)), opI 44 (.callf f_term_Vars [(.t 43)]), opI 45 (.lenS (.t 44)), mvI 46 (kI 0)])
  (.block 2 L1_eval_Eval))
  (.seq (.reg false [opI 60 (.load 5 true (.t 2)), opI 61 (.mkfn f_eval_Eval_1 [(.t 7)]), opI 62 (.callf f_eval_value [(.t 60), (.t 61)]), mvI 4 (.t 62), mvI 5 (kI 0)])
  .ret)))))), false⟩
def B0_r08_Assign : K :=
  (.seq (.seq (.reg false [mvI 7 (.t 6), mvI 8 (.t 0), opI 9 (.lenS (.t 8)), opI 10 (.arith .lss (.t 7) (.t 9))])
  (.cond (.t 10) .skip (.exit 0)))
  (.seq (.block 1 (.seq (.reg true [mvI 13 (.t 5), mvI 14 (.t 0), mvI 15 (.t 6), opI 16 (.iadrS 2 (.t 14) (.t 15)), opI 17 (.fadr 0 (.t 16)), opI 18 (.load 1 false (.t 17)), mvI 19 (.t 0), mvI 20 (.t 6), opI 21 (.iadrS 2 (.t 19) (.t 20)), opI 22 (.fadr 1 (.t 21)), opI 23 (.load 1 false (.t 22)), mvI 24 (.t 1), opI 25 (.callf f_r01_Cut [(.t 23), (.t 24)]), opI 26 (.build [(.p (.str (bs []))), (.p (.int .u64 0))] [(0, 1, (.t 18)), (1, 1, (.t 25))]), opI 27 (.bslice 2 [(.p (.str (bs []))), (.p (.int .u64 0))] 1 [(0, 2, (.t 26))]), opI 28 (.append 2 24 (.t 13) (.t 27)), opI 5 (.mv (.t 28) true)])
  (.reg false [mvI 29 (.t 1), mvI 30 (.t 0), mvI 31 (.t 6), opI 32 (.iadrS 2 (.t 30) (.t 31)), opI 33 (.fadr 1 (.t 32)), opI 34 (.load 1 false (.t 33)), opI 35 (.conv .u64 (.t 34)), opI 36 (.arith .shr (.t 29) (.t 35)), mvI 1 (.t 36)])))
  (.reg false [mvI 11 (.t 6), opI 12 (.arith .add (.t 11) (kI 1)), mvI 6 (.t 12)])))
def L0_r08_Assign : K := .loop [0, 1, 5, 6] B0_r08_Assign
def F_r08_Assign : AFn := ⟨38, [.tmp 4],
  (.seq (.reg false [mvI 4 (.c .nils)])
  (.seq (.reg false [opI 5 (.mv (.c .nils) true)])
  (.seq (.seq (.reg false [mvI 6 (kI 0)])
  (.block 0 L0_r08_Assign))
  (.seq (.reg false [mvI 37 (.t 5), mvI 4 (.t 37)])
  .ret)))), false⟩
def A0_term_Check : K :=
  (.reg false [opI 7 (.init 5 true (.t 21) true)])
def B0_term_Check : K :=
  (.block 1 (.seq (.seq (.reg false [opI 22 (.load 5 true (.t 7)), opI 23 (.callf f_term_node [(.t 22)]), mvI 8 (.t 23)])
  (.seq (.reg false [mvI 24 (.t 8), opI 25 (.arith .neq (.t 24) (kI 0))])
  (.cond (.t 25) (.seq (.reg false [mvI 26 (.t 8), ⟨none, .store 1 (.t 2) (.t 26), none⟩])
  .ret) .skip)))
  (.seq (.reg false [opI 27 (.fadr 0 (.t 7)), opI 28 (.load 1 false (.t 27)), opI 29 (.arith .eql (.t 28) (kI 1))])
  (.cond (.t 29) (.seq (.reg false [opI 31 (.load 1 false (.t 5)), opI 32 (.fadr 3 (.t 7)), opI 33 (.load 1 false (.t 32)), opI 34 (.lookup .str (.p (.int .i64 0)) (.t 31) (.t 33) true), mvI 30 (.t 34), opI 35 (.extract (.t 30) 0), opI 36 (.extract (.t 30) 1), mvI 9 (.t 35), mvI 10 (.t 36)])
  (.seq (.reg false [opI 37 (.load 1 false (.t 6)), mvI 38 (.t 37), ⟨some 39, .mv (.t 10) false, some (38, false)⟩, ⟨some 40, .mv (.t 39) false, some (38, false)⟩, ⟨some 41, .mv (.t 9) false, some (40, true)⟩, ⟨some 42, .fadr 1 (.t 7), some (40, true)⟩, ⟨some 43, .load 1 false (.t 42), some (40, true)⟩, ⟨some 44, .arith .neq (.t 41) (.t 43), some (40, true)⟩, ⟨some 45, .pick (.t 40) (.t 44) (.c (.p (.bool false))), some (38, false)⟩, opI 46 (.pick (.t 38) (.c (.p (.bool true))) (.t 45)), ⟨none, .store 1 (.t 6) (.t 46), none⟩])
  (.reg false [opI 47 (.load 1 false (.t 5)), opI 48 (.fadr 3 (.t 7)), opI 49 (.load 1 false (.t 48)), opI 50 (.fadr 1 (.t 7)), opI 51 (.load 1 false (.t 50)), ⟨none, .mupd .str (.t 47) (.t 49) (.t 51), none⟩]))) .skip))))
def R0_term_Check : K := .range (.t 20) [21] [2, 5, 6] A0_term_Check B0_term_Check
def F_term_Check : AFn := ⟨53, [.cell 2 1 false],
  (.seq (.reg false [opI 1 (.box 5 true (.t 0) true), opI 2 (.alloc [(.p (.int .i64 0))] 1)])
  (.seq (.seq (.reg false [opI 12 (.load 5 true (.t 1)), opI 13 (.callf f_term_measure [(.t 12), (kI 4096), (kI 64)]), mvI 11 (.t 13), opI 14 (.extract (.t 11) 0), opI 15 (.extract (.t 11) 1), mvI 3 (.t 14), mvI 4 (.t 15)])
  (.seq (.reg false [mvI 16 (.t 4), opI 17 (.not (.t 16))])
  (.cond (.t 17) (.seq (.reg false [⟨none, .store 1 (.t 2) (kI 7), none⟩])
  .ret) .skip)))
  (.seq (.reg false [opI 18 (.mkmap), opI 5 (.init 1 false (.t 18) true)])
  (.seq (.reg false [opI 6 (.init 1 false (.c (.p (.bool false))) false)])
  (.seq (.seq (.reg false [opI 19 (.load 5 true (.t 1)), opI 20 (.callf f_term_All [(.t 19)])])
  (.block 0 R0_term_Check))
  (.seq (.seq (.reg false [opI 52 (.load 1 false (.t 6))])
  (.cond (.t 52) (.seq (.reg false [⟨none, .store 1 (.t 2) (kI 12), none⟩])
  .ret) .skip))
  (.seq (.reg false [⟨none, .store 1 (.t 2) (kI 0), none⟩])
  .ret))))))), false⟩
def F_term_Vars : AFn := ⟨10, [.tmp 2],
  (.seq (.reg false [opI 1 (.box 5 true (.t 0) true), mvI 2 (.c .nils)])
  (.seq (.reg false [opI 3 (.alloc [.nils] 1)])
  (.seq (.reg false [opI 4 (.load 5 true (.t 1)), opI 5 (.mkfn f_term_Vars_1 [(.t 3)]), opI 6 (.callf f_term_preorder [(.t 4), (.t 5)])])
  (.seq (.reg false [opI 7 (.load 1 false (.t 3)), opI 8 (.callf f_slices_SortFunc_api_Var_api_Var [(.t 7), (.c (.p (.fn f_term_Vars_2 [])))])])
  (.seq (.reg false [opI 9 (.load 1 false (.t 3)), mvI 2 (.t 9)])
  .ret))))), false⟩
def B0_eval_value : K :=
  (.seq (.reg false [opI 23 (.arith .lss (.t 22) (.t 21))])
  (.seq (.cond (.t 23) .skip (.exit 0))
  (.seq (.block 1 (.seq (.reg false [opI 24 (.iadrS 5 (.t 20) (.t 22)), opI 25 (.load 5 true (.t 24)), opI 8 (.init 5 true (.t 25) true)])
  (.reg true [mvI 26 (.t 6), opI 27 (.fadr 1 (.t 8)), opI 28 (.load 1 false (.t 27)), opI 29 (.load 5 true (.t 8)), mvI 30 (.t 1), opI 31 (.callf f_eval_value [(.t 29), (.t 30)]), opI 32 (.build [(.p (.int .i64 0)), (.p (.int .u64 0))] [(0, 1, (.t 28)), (1, 1, (.t 31))]), opI 33 (.bslice 2 [(.p (.int .i64 0)), (.p (.int .u64 0))] 1 [(0, 2, (.t 32))]), opI 34 (.append 2 16 (.t 26) (.t 33)), opI 6 (.mv (.t 34) true)])))
  (.reg false [opI 35 (.arith .add (.t 22) (kI 1)), mvI 22 (.t 35)]))))
def L0_eval_value : K := .loop [1, 2, 6, 20, 21, 22] B0_eval_value
def F_eval_value : AFn := ⟨44, [.tmp 4],
  (.seq (.reg false [opI 2 (.box 5 true (.t 0) true), mvI 4 (.c (.p (.int .u64 0)))])
  (.seq (.seq (.reg false [opI 9 (.fadr 0 (.t 2)), opI 10 (.load 1 false (.t 9)), opI 11 (.arith .eql (.t 10) (kI 1))])
  (.cond (.t 11) (.seq (.regD [opI 12 (.fadr 1 (.t 2)), opI 13 (.load 1 false (.t 12)), mvI 14 (.t 1), opI 15 (.load 5 true (.t 2)), opI 16 (.callv (.t 14) [(.t 15)]), opI 17 (.callf f_bits_Cut [(.t 13), (.t 16)]), mvI 4 (.t 17)] [(1, 4)])
  .ret) .skip))
  (.seq (.reg false [opI 5 (.alloc [(.p (.int .i64 0)), (.p (.int .u64 0)), (.p (.int .i64 0)), (.p (.int .u64 0)), (.p (.int .i64 0)), (.p (.int .u64 0))] 6)])
  (.seq (.reg false [opI 18 (.slcA 3 2 (.t 5) none (some (kI 0)) none), opI 6 (.mv (.t 18) true)])
  (.seq (.seq (.reg false [opI 19 (.fadr 4 (.t 2)), opI 20 (.load 1 false (.t 19)), opI 21 (.lenS (.t 20)), mvI 22 (kI 0)])
  (.block 0 L0_eval_value))
  (.seq (.reg false [opI 36 (.fadr 0 (.t 2)), opI 37 (.load 1 false (.t 36)), opI 38 (.fadr 1 (.t 2)), opI 39 (.load 1 false (.t 38)), opI 40 (.fadr 2 (.t 2)), opI 41 (.load 1 false (.t 40)), mvI 42 (.t 6), opI 43 (.callf f_eval_compute [(.t 37), (.t 39), (.t 41), (.t 42)]), mvI 4 (.t 43)])
  .ret)))))), false⟩
def F_eval_Table_1 : AFn := ⟨16, [.tmp 5],
  (.seq (.reg false [opI 4 (.box 5 true (.t 0) true), mvI 5 (.c (.p (.int .u64 0)))])
  (.seq (.reg true [opI 6 (.load 1 false (.t 1)), opI 7 (.conv .u64 (.t 6)), opI 8 (.load 1 false (.t 2)), opI 9 (.load 1 false (.t 3)), opI 10 (.fadr 3 (.t 4)), opI 11 (.load 1 false (.t 10)), opI 12 (.lookup .str (.p (.int .i64 0)) (.t 9) (.t 11) false), opI 13 (.iadrS 1 (.t 8) (.t 12)), opI 14 (.load 1 false (.t 13)), opI 15 (.arith .shr (.t 7) (.t 14)), mvI 5 (.t 15)])
  .ret)), false⟩
def F_law08_leaf : AFn := ⟨5, [.cell 2 5 true],
  (.seq (.reg false [opI 2 (.alloc [(.p (.int .i64 0)), (.p (.int .i64 0)), (.p (.int .u64 0)), (.p (.str (bs []))), .nils] 5)])
  (.seq (.reg false [mvI 3 (.t 0), opI 4 (.build [(.p (.int .i64 0)), (.p (.int .i64 0)), (.p (.int .u64 0)), (.p (.str (bs []))), .nils] [(0, 1, (kI 1)), (1, 1, (kI 4)), (3, 1, (.t 3))]), ⟨none, .store 5 (.t 2) (.t 4), none⟩])
  .ret)), false⟩
def F_law08_number : AFn := ⟨5, [.cell 2 5 true],
  (.seq (.reg false [opI 2 (.alloc [(.p (.int .i64 0)), (.p (.int .i64 0)), (.p (.int .u64 0)), (.p (.str (bs []))), .nils] 5)])
  (.seq (.reg false [mvI 3 (.t 0), opI 4 (.build [(.p (.int .i64 0)), (.p (.int .i64 0)), (.p (.int .u64 0)), (.p (.str (bs []))), .nils] [(0, 1, (kI 2)), (1, 1, (kI 4)), (2, 1, (.t 3))]), ⟨none, .store 5 (.t 2) (.t 4), none⟩])
  .ret)), false⟩
def F_eval_Fold : AFn := ⟨10, [.cell 2 5 true],
  (.seq (.reg false [opI 1 (.box 5 true (.t 0) true), opI 2 (.alloc [(.p (.int .i64 0)), (.p (.int .i64 0)), (.p (.int .u64 0)), (.p (.str (bs []))), .nils] 5)])
  (.seq (.seq (.reg false [opI 3 (.load 5 true (.t 1)), opI 4 (.callf f_term_Check [(.t 3)]), opI 5 (.arith .neq (.t 4) (kI 0))])
  (.cond (.t 5) (.seq (.reg false [opI 6 (.load 5 true (.t 1)), opI 7 (.callf f_term_Copy [(.t 6)]), ⟨none, .store 5 (.t 2) (.t 7), none⟩])
  .ret) .skip))
  (.seq (.reg false [opI 8 (.load 5 true (.t 1)), opI 9 (.callf f_eval_fold [(.t 8)]), ⟨none, .store 5 (.t 2) (.t 9), none⟩])
  .ret))), false⟩
def F_r06_Same : AFn := ⟨38, [.tmp 4],
  (.seq (.reg false [opI 2 (.box 5 true (.t 0) true), opI 3 (.box 5 true (.t 1) true), mvI 4 (.c (.p (.bool false)))])
  (.seq (.reg false [opI 5 (.fadr 0 (.t 2)), opI 6 (.load 1 false (.t 5)), opI 7 (.fadr 0 (.t 3)), opI 8 (.load 1 false (.t 7)), opI 9 (.arith .eql (.t 6) (.t 8)), mvI 10 (.t 9), ⟨some 11, .fadr 1 (.t 2), some (10, true)⟩, ⟨some 12, .load 1 false (.t 11), some (10, true)⟩, ⟨some 13, .fadr 1 (.t 3), some (10, true)⟩, ⟨some 14, .load 1 false (.t 13), some (10, true)⟩, ⟨some 15, .arith .eql (.t 12) (.t 14), some (10, true)⟩, opI 16 (.pick (.t 10) (.t 15) (.c (.p (.bool false)))), mvI 17 (.t 16), ⟨some 18, .fadr 2 (.t 2), some (17, true)⟩, ⟨some 19, .load 1 false (.t 18), some (17, true)⟩, ⟨some 20, .fadr 2 (.t 3), some (17, true)⟩, ⟨some 21, .load 1 false (.t 20), some (17, true)⟩, ⟨some 22, .arith .eql (.t 19) (.t 21), some (17, true)⟩, opI 23 (.pick (.t 17) (.t 22) (.c (.p (.bool false)))), mvI 24 (.t 23), ⟨some 25, .fadr 3 (.t 2), some (24, true)⟩, ⟨some 26, .load 1 false (.t 25), some (24, true)⟩, ⟨some 27, .fadr 3 (.t 3), some (24, true)⟩, ⟨some 28, .load 1 false (.t 27), some (24, true)⟩, ⟨some 29, .arith .eql (.t 26) (.t 28), some (24, true)⟩, opI 30 (.pick (.t 24) (.t 29) (.c (.p (.bool false)))), mvI 31 (.t 30), ⟨some 32, .fadr 4 (.t 2), some (31, true)⟩, ⟨some 33, .load 1 false (.t 32), some (31, true)⟩, ⟨some 34, .fadr 4 (.t 3), some (31, true)⟩, ⟨some 35, .load 1 false (.t 34), some (31, true)⟩, ⟨some 36, .callf f_r06_SameAll [(.t 33), (.t 35)], some (31, true)⟩, opI 37 (.pick (.t 31) (.t 36) (.c (.p (.bool false)))), mvI 4 (.t 37)])
  .ret)), false⟩
def F_eval_Eval_1 : AFn := ⟨8, [.tmp 3],
  (.seq (.reg false [opI 2 (.box 5 true (.t 0) true), mvI 3 (.c (.p (.int .u64 0)))])
  (.seq (.reg false [opI 4 (.load 1 false (.t 1)), opI 5 (.fadr 3 (.t 2)), opI 6 (.load 1 false (.t 5)), opI 7 (.lookup .str (.p (.int .u64 0)) (.t 4) (.t 6) false), mvI 3 (.t 7)])
  .ret)), false⟩
def B0_r01_Cut : K :=
  (.seq (.reg false [opI 10 (.arith .lss (.t 9) (.t 8))])
  (.seq (.cond (.t 10) .skip (.exit 0))
  (.seq (.block 1 (.seq (.reg false [mvI 11 (.t 9), mvI 6 (.t 11)])
  (.reg false [mvI 12 (.t 5), mvI 13 (.t 1), mvI 14 (.t 6), opI 15 (.callf f_r01_Bit [(.t 13), (.t 14)]), mvI 16 (.t 6), opI 17 (.conv .u64 (.t 16)), opI 18 (.arith .shl (.t 15) (.t 17)), opI 19 (.arith .or (.t 12) (.t 18)), mvI 5 (.t 19)])))
  (.reg false [opI 20 (.arith .add (.t 9) (kI 1)), mvI 9 (.t 20)]))))
def L0_r01_Cut : K := .loop [1, 5, 8, 9] B0_r01_Cut
def F_r01_Cut : AFn := ⟨22, [.tmp 4],
  (.seq (.reg false [mvI 4 (.c (.p (.int .u64 0)))])
  (.seq (.reg false [mvI 5 (.c (.p (.int .u64 0)))])
  (.seq (.seq (.reg false [mvI 7 (.t 0), opI 8 (.callf f_r01_W [(.t 7)]), mvI 9 (kI 0)])
  (.block 0 L0_r01_Cut))
  (.seq (.reg false [mvI 21 (.t 5), mvI 4 (.t 21)])
  .ret)))), false⟩
def B0_term_measure : K :=
  (.seq (.reg false [opI 24 (.arith .lss (.t 23) (.t 22))])
  (.seq (.cond (.t 24) .skip (.exit 0))
  (.seq (.block 1 (.seq (.reg false [opI 25 (.iadrS 5 (.t 21) (.t 23)), opI 26 (.load 5 true (.t 25)), opI 9 (.init 5 true (.t 26) true)])
  (.seq (.reg false [opI 28 (.load 5 true (.t 9)), mvI 29 (.t 1), mvI 30 (.t 2), opI 31 (.arith .sub (.t 30) (kI 1)), opI 32 (.callf f_term_measure [(.t 28), (.t 29), (.t 31)]), mvI 27 (.t 32), opI 33 (.extract (.t 27) 0), opI 34 (.extract (.t 27) 1), mvI 10 (.t 33), mvI 11 (.t 34)])
  (.seq (.seq (.reg false [mvI 35 (.t 11), opI 36 (.not (.t 35))])
  (.cond (.t 36) (.seq (.reg false [mvI 6 (kI 0), mvI 7 (.c (.p (.bool false)))])
  .ret) .skip))
  (.reg false [mvI 37 (.t 10), mvI 1 (.t 37)])))))
  (.reg false [opI 38 (.arith .add (.t 23) (kI 1)), mvI 23 (.t 38)]))))
def L0_term_measure : K := .loop [1, 2, 21, 22, 23] B0_term_measure
def F_term_measure : AFn := ⟨40, [.tmp 6, .tmp 7],
  (.seq (.reg false [opI 3 (.box 5 true (.t 0) true), mvI 6 (kI 0), mvI 7 (.c (.p (.bool false)))])
  (.seq (.seq (.reg false [mvI 12 (.t 1), opI 13 (.arith .lss (.t 12) (kI 1)), mvI 14 (.t 13), ⟨some 15, .mv (.t 2) false, some (14, false)⟩, ⟨some 16, .arith .lss (.t 15) (kI 1), some (14, false)⟩, opI 17 (.pick (.t 14) (.c (.p (.bool true))) (.t 16))])
  (.cond (.t 17) (.seq (.reg false [mvI 6 (kI 0), mvI 7 (.c (.p (.bool false)))])
  .ret) .skip))
  (.seq (.reg false [mvI 18 (.t 1), opI 19 (.arith .sub (.t 18) (kI 1)), mvI 1 (.t 19)])
  (.seq (.seq (.reg false [opI 20 (.fadr 4 (.t 3)), opI 21 (.load 1 false (.t 20)), opI 22 (.lenS (.t 21)), mvI 23 (kI 0)])
  (.block 0 L0_term_measure))
  (.seq (.reg false [mvI 39 (.t 1), mvI 6 (.t 39), mvI 7 (.c (.p (.bool true)))])
  .ret))))), false⟩
def F_term_All : AFn := ⟨4, [.tmp 2],
  (.seq (.reg false [opI 1 (.box 5 true (.t 0) true), mvI 2 (.c (.p .nilf))])
  (.seq (.reg false [opI 3 (.mkfn f_term_All_1 [(.t 1)]), mvI 2 (.t 3)])
  .ret)), false⟩
def F_term_node : AFn := ⟨82, [.tmp 2],
  (.seq (.reg false [opI 1 (.box 5 true (.t 0) true), mvI 2 (kI 0)])
  (.seq (.block 0 (.seq (.reg true [opI 6 (.fadr 0 (.t 1)), opI 7 (.load 1 false (.t 6)), opI 8 (.callf f_opinfo_Arity [(.t 7)]), opI 9 (.arith .lss (.t 8) (kI 0)), mvI 10 (.t 9), ⟨some 11, .fadr 0 (.t 1), some (10, false)⟩, ⟨some 12, .load 1 false (.t 11), some (10, false)⟩, ⟨some 13, .callf f_opinfo_Pattern [(.t 12)], some (10, false)⟩, opI 14 (.pick (.t 10) (.c (.p (.bool true))) (.t 13)), mvI 15 (.t 14), ⟨some 16, .fadr 4 (.t 1), some (15, false)⟩, ⟨some 17, .load 1 false (.t 16), some (15, false)⟩, ⟨some 18, .lenS (.t 17), some (15, false)⟩, ⟨some 19, .fadr 0 (.t 1), some (15, false)⟩, ⟨some 20, .load 1 false (.t 19), some (15, false)⟩, ⟨some 21, .callf f_opinfo_Arity [(.t 20)], some (15, false)⟩, ⟨some 22, .arith .neq (.t 18) (.t 21), some (15, false)⟩, opI 23 (.pick (.t 15) (.c (.p (.bool true))) (.t 22)), mvI 5 (.t 23)])
  (.cond (.t 5) (.seq (.reg false [mvI 2 (kI 4)])
  .ret) (.seq (.reg false [opI 25 (.fadr 0 (.t 1)), opI 26 (.load 1 false (.t 25)), opI 27 (.arith .neq (.t 26) (kI 1)), mvI 28 (.t 27), ⟨some 29, .fadr 3 (.t 1), some (28, true)⟩, ⟨some 30, .load 1 false (.t 29), some (28, true)⟩, ⟨some 31, .arith .neq (.t 30) (.c (.p (.str (bs [])))), some (28, true)⟩, opI 32 (.pick (.t 28) (.t 31) (.c (.p (.bool false)))), mvI 24 (.t 32)])
  (.cond (.t 24) (.seq (.reg false [mvI 2 (kI 4)])
  .ret) (.seq (.reg false [opI 34 (.fadr 0 (.t 1)), opI 35 (.load 1 false (.t 34)), opI 36 (.arith .neq (.t 35) (kI 2)), mvI 37 (.t 36), ⟨some 38, .fadr 0 (.t 1), some (37, true)⟩, ⟨some 39, .load 1 false (.t 38), some (37, true)⟩, ⟨some 40, .arith .neq (.t 39) (kI 21), some (37, true)⟩, opI 41 (.pick (.t 37) (.t 40) (.c (.p (.bool false)))), mvI 42 (.t 41), ⟨some 43, .fadr 2 (.t 1), some (42, true)⟩, ⟨some 44, .load 1 false (.t 43), some (42, true)⟩, ⟨some 45, .arith .neq (.t 44) (.c (.p (.int .u64 0))), some (42, true)⟩, opI 46 (.pick (.t 42) (.t 45) (.c (.p (.bool false)))), mvI 33 (.t 46)])
  (.cond (.t 33) (.seq (.reg false [mvI 2 (kI 4)])
  .ret) (.seq (.reg false [opI 48 (.fadr 0 (.t 1)), opI 49 (.load 1 false (.t 48)), opI 50 (.arith .eql (.t 49) (kI 1)), mvI 51 (.t 50), ⟨some 52, .fadr 3 (.t 1), some (51, true)⟩, ⟨some 53, .load 1 false (.t 52), some (51, true)⟩, ⟨some 54, .callf f_term_Name [(.t 53)], some (51, true)⟩, ⟨some 55, .not (.t 54), some (51, true)⟩, opI 56 (.pick (.t 51) (.t 55) (.c (.p (.bool false)))), mvI 47 (.t 56)])
  (.cond (.t 47) (.seq (.reg false [mvI 2 (kI 5)])
  .ret) (.seq (.reg false [opI 58 (.fadr 1 (.t 1)), opI 59 (.load 1 false (.t 58)), opI 60 (.arith .lss (.t 59) (kI 1)), mvI 57 (.t 60)])
  (.cond (.t 57) (.seq (.reg false [mvI 2 (kI 3)])
  .ret) .skip)))))))))))
  (.seq (.seq (.reg true [opI 62 (.fadr 0 (.t 1)), opI 63 (.load 1 false (.t 62)), opI 64 (.fadr 1 (.t 1)), opI 65 (.load 1 false (.t 64)), opI 66 (.fadr 2 (.t 1)), opI 67 (.load 1 false (.t 66)), opI 68 (.fadr 4 (.t 1)), opI 69 (.load 1 false (.t 68)), opI 70 (.callf f_term_widths [(.t 69)]), opI 71 (.callf f_opinfo_Width [(.t 63), (.t 65), (.t 67), (.t 70)]), mvI 61 (.t 71), opI 72 (.extract (.t 61) 0), opI 73 (.extract (.t 61) 1), mvI 3 (.t 72), mvI 4 (.t 73)])
  (.seq (.reg false [mvI 74 (.t 4), opI 75 (.arith .neq (.t 74) (kI 0)), mvI 76 (.t 75), ⟨some 77, .mv (.t 3) false, some (76, false)⟩, ⟨some 78, .fadr 1 (.t 1), some (76, false)⟩, ⟨some 79, .load 1 false (.t 78), some (76, false)⟩, ⟨some 80, .arith .neq (.t 77) (.t 79), some (76, false)⟩, opI 81 (.pick (.t 76) (.c (.p (.bool true))) (.t 80))])
  (.cond (.t 81) (.seq (.reg false [mvI 2 (kI 3)])
  .ret) .skip)))
  (.seq (.reg false [mvI 2 (kI 0)])
  .ret)))), false⟩
def B0_term_preorder : K :=
  (.seq (.reg false [opI 15 (.arith .lss (.t 14) (.t 13))])
  (.seq (.cond (.t 15) .skip (.exit 0))
  (.seq (.block 1 (.seq (.reg false [opI 16 (.iadrS 5 (.t 12) (.t 14)), opI 17 (.load 5 true (.t 16)), opI 6 (.init 5 true (.t 17) true)])
  (.seq (.reg false [opI 18 (.load 5 true (.t 6)), mvI 19 (.t 1), opI 20 (.callf f_term_preorder [(.t 18), (.t 19)]), opI 21 (.not (.t 20))])
  (.cond (.t 21) (.seq (.reg false [mvI 4 (.c (.p (.bool false)))])
  .ret) .skip))))
  (.reg false [opI 22 (.arith .add (.t 14) (kI 1)), mvI 14 (.t 22)]))))
def L0_term_preorder : K := .loop [1, 12, 13, 14] B0_term_preorder
def F_term_preorder : AFn := ⟨23, [.tmp 4],
  (.seq (.reg false [opI 2 (.box 5 true (.t 0) true), mvI 4 (.c (.p (.bool false)))])
  (.seq (.seq (.reg false [mvI 7 (.t 1), opI 8 (.load 5 true (.t 2)), opI 9 (.callv (.t 7) [(.t 8)]), opI 10 (.not (.t 9))])
  (.cond (.t 10) (.seq (.reg false [mvI 4 (.c (.p (.bool false)))])
  .ret) .skip))
  (.seq (.seq (.reg false [opI 11 (.fadr 4 (.t 2)), opI 12 (.load 1 false (.t 11)), opI 13 (.lenS (.t 12)), mvI 14 (kI 0)])
  (.block 0 L0_term_preorder))
  (.seq (.reg false [mvI 4 (.c (.p (.bool true)))])
  .ret)))), true⟩
def F_term_Vars_1 : AFn := ⟨23, [.tmp 3],
  (.seq (.reg false [opI 2 (.box 5 true (.t 0) true), mvI 3 (.c (.p (.bool false)))])
  (.seq (.reg false [opI 5 (.mkfn f_term_Vars_1_1 [(.t 2)]), mvI 4 (.t 5)])
  (.seq (.seq (.reg false [opI 6 (.fadr 0 (.t 2)), opI 7 (.load 1 false (.t 6)), opI 8 (.arith .eql (.t 7) (kI 1)), mvI 9 (.t 8), ⟨some 10, .load 1 false (.t 1), some (9, true)⟩, ⟨some 11, .mv (.t 4) false, some (9, true)⟩, ⟨some 12, .callf f_slices_ContainsFunc_api_Var_api_Var [(.t 10), (.t 11)], some (9, true)⟩, ⟨some 13, .not (.t 12), some (9, true)⟩, opI 14 (.pick (.t 9) (.t 13) (.c (.p (.bool false))))])
  (.cond (.t 14) (.reg false [opI 15 (.load 1 false (.t 1)), opI 16 (.fadr 3 (.t 2)), opI 17 (.load 1 false (.t 16)), opI 18 (.fadr 1 (.t 2)), opI 19 (.load 1 false (.t 18)), opI 20 (.build [(.p (.str (bs []))), (.p (.int .i64 0))] [(0, 1, (.t 17)), (1, 1, (.t 19))]), opI 21 (.bslice 2 [(.p (.str (bs []))), (.p (.int .i64 0))] 1 [(0, 2, (.t 20))]), opI 22 (.append 2 24 (.t 15) (.t 21)), ⟨none, .store 1 (.t 1) (.t 22), none⟩]) .skip))
  (.seq (.reg false [mvI 3 (.c (.p (.bool true)))])
  .ret)))), true⟩
def F_term_Vars_1_1 : AFn := ⟨9, [.tmp 3],
  (.seq (.reg false [opI 2 (.box 2 true (.t 0) true), mvI 3 (.c (.p (.bool false)))])
  (.seq (.reg false [opI 4 (.fadr 0 (.t 2)), opI 5 (.load 1 false (.t 4)), opI 6 (.fadr 3 (.t 1)), opI 7 (.load 1 false (.t 6)), opI 8 (.arith .eql (.t 5) (.t 7)), mvI 3 (.t 8)])
  .ret)), false⟩
def F_slices_ContainsFunc_api_Var_api_Var : AFn := ⟨9, [.tmp 4],
  (.seq (.reg false [mvI 4 (.c (.p (.bool false)))])
  (.seq (.reg false [mvI 5 (.t 0), mvI 6 (.t 1), opI 7 (.callf f_slices_IndexFunc_api_Var_api_Var [(.t 5), (.t 6)]), opI 8 (.arith .geq (.t 7) (kI 0)), mvI 4 (.t 8)])
  .ret)), false⟩
def F_term_Vars_2 : AFn := ⟨10, [.tmp 4],
  (.seq (.reg false [opI 2 (.box 2 true (.t 0) true), opI 3 (.box 2 true (.t 1) true), mvI 4 (kI 0)])
  (.seq (.reg false [opI 5 (.fadr 0 (.t 2)), opI 6 (.load 1 false (.t 5)), opI 7 (.fadr 0 (.t 3)), opI 8 (.load 1 false (.t 7)), opI 9 (.callf f_strings_Compare [(.t 6), (.t 8)]), mvI 4 (.t 9)])
  .ret)), false⟩
def F_strings_Compare : AFn := ⟨8, [.tmp 4],
  (.seq (.reg false [mvI 4 (kI 0)])
  (.seq (.reg false [mvI 5 (.t 0), mvI 6 (.t 1), opI 7 (.callf f_internal_bytealg_CompareString [(.t 5), (.t 6)]), mvI 4 (.t 7)])
  .ret)), false⟩
def F_bits_Cut : AFn := ⟨9, [.tmp 4],
  (.seq (.reg false [mvI 4 (.c (.p (.int .u64 0)))])
  (.seq (.reg false [mvI 5 (.t 1), mvI 6 (.t 0), opI 7 (.callf f_bits_Mask [(.t 6)]), opI 8 (.arith .and (.t 5) (.t 7)), mvI 4 (.t 8)])
  .ret)), false⟩
def F_eval_compute : AFn := ⟨105, [.tmp 8],
  (.seq (.reg false [mvI 8 (.c (.p (.int .u64 0)))])
  (.seq (.seq (.reg false [mvI 9 (.t 0)])
  (.block 0 (.seq (.reg false [opI 11 (.arith .eql (.t 9) (kI 2)), mvI 10 (.t 11)])
  (.cond (.t 10) (.seq (.reg false [mvI 12 (.t 2), mvI 8 (.t 12)])
  .ret) (.seq (.reg false [opI 14 (.arith .eql (.t 9) (kI 3)), mvI 13 (.t 14)])
  (.cond (.t 13) (.seq (.reg false [mvI 15 (.t 1), mvI 16 (.t 3), opI 17 (.iadrS 2 (.t 16) (kI 0)), opI 18 (.fadr 1 (.t 17)), opI 19 (.load 1 false (.t 18)), opI 20 (.callf f_bits_Not [(.t 15), (.t 19)]), mvI 8 (.t 20)])
  .ret) (.seq (.reg false [opI 22 (.arith .eql (.t 9) (kI 4)), mvI 21 (.t 22)])
  (.cond (.t 21) (.seq (.reg false [mvI 23 (.t 1), mvI 24 (.t 3), opI 25 (.iadrS 2 (.t 24) (kI 0)), opI 26 (.fadr 1 (.t 25)), opI 27 (.load 1 false (.t 26)), opI 28 (.callf f_bits_Neg [(.t 23), (.t 27)]), mvI 8 (.t 28)])
  .ret) (.seq (.reg false [opI 30 (.arith .eql (.t 9) (kI 19)), mvI 29 (.t 30)])
  (.cond (.t 29) (.seq (.seq (.reg false [mvI 31 (.t 3), opI 32 (.iadrS 2 (.t 31) (kI 0)), opI 33 (.fadr 1 (.t 32)), opI 34 (.load 1 false (.t 33)), opI 35 (.arith .eql (.t 34) (.c (.p (.int .u64 1))))])
  (.cond (.t 35) (.seq (.reg false [mvI 36 (.t 3), opI 37 (.iadrS 2 (.t 36) (kI 1)), opI 38 (.fadr 1 (.t 37)), opI 39 (.load 1 false (.t 38)), mvI 8 (.t 39)])
  .ret) .skip))
  (.seq (.reg false [mvI 40 (.t 3), opI 41 (.iadrS 2 (.t 40) (kI 2)), opI 42 (.fadr 1 (.t 41)), opI 43 (.load 1 false (.t 42)), mvI 8 (.t 43)])
  .ret)) (.seq (.reg false [opI 45 (.arith .eql (.t 9) (kI 20)), mvI 44 (.t 45)])
  (.cond (.t 44) (.seq (.reg true [mvI 46 (.t 3), opI 47 (.iadrS 2 (.t 46) (kI 0)), opI 48 (.fadr 0 (.t 47)), opI 49 (.load 1 false (.t 48)), mvI 50 (.t 3), opI 51 (.iadrS 2 (.t 50) (kI 1)), opI 52 (.fadr 0 (.t 51)), opI 53 (.load 1 false (.t 52)), mvI 54 (.t 3), opI 55 (.iadrS 2 (.t 54) (kI 0)), opI 56 (.fadr 1 (.t 55)), opI 57 (.load 1 false (.t 56)), mvI 58 (.t 3), opI 59 (.iadrS 2 (.t 58) (kI 1)), opI 60 (.fadr 1 (.t 59)), opI 61 (.load 1 false (.t 60)), opI 62 (.callf f_bits_Concat [(.t 49), (.t 53), (.t 57), (.t 61)]), mvI 8 (.t 62)])
  .ret) (.seq (.reg false [opI 64 (.arith .eql (.t 9) (kI 21)), mvI 63 (.t 64)])
  (.cond (.t 63) (.seq (.reg false [mvI 65 (.t 2), opI 66 (.conv .i64 (.t 65)), mvI 67 (.t 1), mvI 68 (.t 3), opI 69 (.iadrS 2 (.t 68) (kI 0)), opI 70 (.fadr 1 (.t 69)), opI 71 (.load 1 false (.t 70)), opI 72 (.callf f_bits_Extract [(.t 66), (.t 67), (.t 71)]), mvI 8 (.t 72)])
  .ret) (.seq (.reg false [opI 74 (.arith .eql (.t 9) (kI 22)), mvI 73 (.t 74)])
  (.cond (.t 73) (.seq (.reg false [mvI 75 (.t 3), opI 76 (.iadrS 2 (.t 75) (kI 0)), opI 77 (.fadr 1 (.t 76)), opI 78 (.load 1 false (.t 77)), mvI 8 (.t 78)])
  .ret) (.seq (.reg false [opI 80 (.arith .eql (.t 9) (kI 23)), mvI 79 (.t 80)])
  (.cond (.t 79) (.seq (.reg true [mvI 81 (.t 3), opI 82 (.iadrS 2 (.t 81) (kI 0)), opI 83 (.fadr 0 (.t 82)), opI 84 (.load 1 false (.t 83)), mvI 85 (.t 1), mvI 86 (.t 3), opI 87 (.iadrS 2 (.t 86) (kI 0)), opI 88 (.fadr 1 (.t 87)), opI 89 (.load 1 false (.t 88)), opI 90 (.callf f_bits_Sext [(.t 84), (.t 85), (.t 89)]), mvI 8 (.t 90)])
  .ret) .skip))))))))))))))))))
  (.seq (.reg true [mvI 91 (.t 0), mvI 92 (.t 3), opI 93 (.iadrS 2 (.t 92) (kI 0)), opI 94 (.fadr 0 (.t 93)), opI 95 (.load 1 false (.t 94)), mvI 96 (.t 3), opI 97 (.iadrS 2 (.t 96) (kI 0)), opI 98 (.fadr 1 (.t 97)), opI 99 (.load 1 false (.t 98)), mvI 100 (.t 3), opI 101 (.iadrS 2 (.t 100) (kI 1)), opI 102 (.fadr 1 (.t 101)), opI 103 (.load 1 false (.t 102)), opI 104 (.callf f_eval_binary [(.t 91), (.t 95), (.t 99), (.t 103)]), mvI 8 (.t 104)])
  .ret))), false⟩
def B0_term_Copy : K :=
  (.seq (.reg false [opI 12 (.arith .lss (.t 11) (.t 10))])
  (.seq (.cond (.t 12) .skip (.exit 0))
  (.seq (.block 1 (.seq (.reg false [opI 13 (.iadrS 5 (.t 9) (.t 11)), opI 14 (.load 5 true (.t 13)), opI 5 (.init 5 true (.t 14) true)])
  (.reg true [opI 15 (.fadr 4 (.t 3)), opI 16 (.load 1 false (.t 15)), opI 17 (.load 5 true (.t 5)), opI 18 (.callf f_term_Copy [(.t 17)]), opI 19 (.bslice 5 [(.p (.int .i64 0)), (.p (.int .i64 0)), (.p (.int .u64 0)), (.p (.str (bs []))), .nils] 1 [(0, 5, (.t 18))]), opI 20 (.append 5 64 (.t 16) (.t 19)), opI 21 (.fadr 4 (.t 3)), ⟨none, .store 1 (.t 21) (.t 20), none⟩])))
  (.reg false [opI 22 (.arith .add (.t 11) (kI 1)), mvI 11 (.t 22)]))))
def L0_term_Copy : K := .loop [2, 3, 9, 10, 11] B0_term_Copy
def F_term_Copy : AFn := ⟨24, [.cell 2 5 true],
  (.seq (.reg false [opI 1 (.box 5 true (.t 0) true), opI 2 (.alloc [(.p (.int .i64 0)), (.p (.int .i64 0)), (.p (.int .u64 0)), (.p (.str (bs []))), .nils] 5)])
  (.seq (.reg false [opI 6 (.load 5 true (.t 1)), opI 3 (.init 5 true (.t 6) false)])
  (.seq (.reg false [opI 7 (.fadr 4 (.t 3)), ⟨none, .store 1 (.t 7) (.c .nils), none⟩])
  (.seq (.seq (.reg false [opI 8 (.fadr 4 (.t 1)), opI 9 (.load 1 false (.t 8)), opI 10 (.lenS (.t 9)), mvI 11 (kI 0)])
  (.block 0 L0_term_Copy))
  (.seq (.reg false [opI 23 (.load 5 true (.t 3)), ⟨none, .store 5 (.t 2) (.t 23), none⟩])
  .ret))))), false⟩
def B0_eval_fold : K :=
  (.seq (.reg false [opI 19 (.arith .lss (.t 18) (.t 17))])
  (.seq (.cond (.t 19) .skip (.exit 0))
  (.seq (.block 1 (.seq (.reg false [opI 20 (.iadrS 5 (.t 16) (.t 18)), opI 21 (.load 5 true (.t 20)), opI 5 (.init 5 true (.t 21) true)])
  (.reg true [opI 22 (.fadr 4 (.t 3)), opI 23 (.load 1 false (.t 22)), opI 24 (.load 5 true (.t 5)), opI 25 (.callf f_eval_fold [(.t 24)]), opI 26 (.bslice 5 [(.p (.int .i64 0)), (.p (.int .i64 0)), (.p (.int .u64 0)), (.p (.str (bs []))), .nils] 1 [(0, 5, (.t 25))]), opI 27 (.append 5 64 (.t 23) (.t 26)), opI 28 (.fadr 4 (.t 3)), ⟨none, .store 1 (.t 28) (.t 27), none⟩])))
  (.reg false [opI 29 (.arith .add (.t 18) (kI 1)), mvI 18 (.t 29)]))))
def L0_eval_fold : K := .loop [2, 3, 16, 17, 18] B0_eval_fold
def F_eval_fold : AFn := ⟨31, [.cell 2 5 true],
  (.seq (.reg false [opI 1 (.box 5 true (.t 0) true), opI 2 (.alloc [(.p (.int .i64 0)), (.p (.int .i64 0)), (.p (.int .u64 0)), (.p (.str (bs []))), .nils] 5)])
  (.seq (.seq (.reg false [opI 6 (.load 5 true (.t 1)), opI 7 (.callf f_eval_Closed [(.t 6)])])
  (.cond (.t 7) (.seq (.reg true [opI 8 (.fadr 1 (.t 1)), opI 9 (.load 1 false (.t 8)), opI 10 (.load 5 true (.t 1)), opI 11 (.callf f_eval_value [(.t 10), (.c (.p (.fn f_eval_fold_1 [])))]), opI 12 (.callf f_term_Const [(.t 9), (.t 11)]), ⟨none, .store 5 (.t 2) (.t 12), none⟩])
  .ret) .skip))
  (.seq (.reg false [opI 13 (.load 5 true (.t 1)), opI 3 (.init 5 true (.t 13) false)])
  (.seq (.reg false [opI 14 (.fadr 4 (.t 3)), ⟨none, .store 1 (.t 14) (.c .nils), none⟩])
  (.seq (.seq (.reg false [opI 15 (.fadr 4 (.t 1)), opI 16 (.load 1 false (.t 15)), opI 17 (.lenS (.t 16)), mvI 18 (kI 0)])
  (.block 0 L0_eval_fold))
  (.seq (.reg false [opI 30 (.load 5 true (.t 3)), ⟨none, .store 5 (.t 2) (.t 30), none⟩])
  .ret)))))), false⟩
def B0_r06_SameAll : K :=
  (.seq (.seq (.reg false [mvI 11 (.t 5), mvI 12 (.t 0), opI 13 (.lenS (.t 12)), opI 14 (.arith .lss (.t 11) (.t 13))])
  (.cond (.t 14) .skip (.exit 0)))
  (.seq (.block 1 (.seq (.reg true [mvI 17 (.t 0), mvI 18 (.t 5), opI 19 (.iadrS 5 (.t 17) (.t 18)), opI 20 (.load 5 true (.t 19)), mvI 21 (.t 1), mvI 22 (.t 5), opI 23 (.iadrS 5 (.t 21) (.t 22)), opI 24 (.load 5 true (.t 23)), opI 25 (.callf f_r06_Same [(.t 20), (.t 24)]), opI 26 (.not (.t 25))])
  (.cond (.t 26) (.seq (.reg false [mvI 4 (.c (.p (.bool false)))])
  .ret) .skip)))
  (.reg false [mvI 15 (.t 5), opI 16 (.arith .add (.t 15) (kI 1)), mvI 5 (.t 16)])))
def L0_r06_SameAll : K := .loop [0, 1, 5] B0_r06_SameAll
def F_r06_SameAll : AFn := ⟨27, [.tmp 4],
  (.seq (.reg false [mvI 4 (.c (.p (.bool false)))])
  (.seq (.seq (.reg false [mvI 6 (.t 0), opI 7 (.lenS (.t 6)), mvI 8 (.t 1), opI 9 (.lenS (.t 8)), opI 10 (.arith .neq (.t 7) (.t 9))])
  (.cond (.t 10) (.seq (.reg false [mvI 4 (.c (.p (.bool false)))])
  .ret) .skip))
  (.seq (.seq (.reg false [mvI 5 (kI 0)])
  (.block 0 L0_r06_SameAll))
  (.seq (.reg false [mvI 4 (.c (.p (.bool true)))])
  .ret)))), false⟩
def F_r01_W : AFn := ⟨6, [.tmp 2],
  (.seq (.reg false [mvI 2 (kI 0)])
  (.seq (.reg false [mvI 3 (.t 0), opI 4 (.minmax true [(.t 3), (kI 1)]), opI 5 (.minmax false [(.t 4), (kI 64)]), mvI 2 (.t 5)])
  .ret)), false⟩
def F_r01_Bit : AFn := ⟨16, [.tmp 4],
  (.seq (.reg false [mvI 4 (.c (.p (.int .u64 0)))])
  (.seq (.seq (.reg false [mvI 5 (.t 1), opI 6 (.arith .lss (.t 5) (kI 0)), mvI 7 (.t 6), ⟨some 8, .mv (.t 1) false, some (7, false)⟩, ⟨some 9, .arith .gtr (.t 8) (kI 63), some (7, false)⟩, opI 10 (.pick (.t 7) (.c (.p (.bool true))) (.t 9))])
  (.cond (.t 10) (.seq (.reg false [mvI 4 (.c (.p (.int .u64 0)))])
  .ret) .skip))
  (.seq (.reg false [mvI 11 (.t 0), mvI 12 (.t 1), opI 13 (.conv .u64 (.t 12)), opI 14 (.arith .shr (.t 11) (.t 13)), opI 15 (.arith .and (.t 14) (.c (.p (.int .u64 1)))), mvI 4 (.t 15)])
  .ret))), false⟩
def F_term_All_1 : AFn := ⟨6, [],
  (.seq (.reg false [opI 2 (.box 1 false (.t 0) true)])
  (.reg false [opI 3 (.load 5 true (.t 1)), opI 4 (.mkfn f_term_All_1_1 [(.t 2)]), opI 5 (.callf f_term_postorder [(.t 3), (.t 4)])])), true⟩
def B0_term_postorder : K :=
  (.seq (.reg false [opI 11 (.arith .lss (.t 10) (.t 9))])
  (.seq (.cond (.t 11) .skip (.exit 0))
  (.seq (.block 1 (.seq (.reg false [opI 12 (.iadrS 5 (.t 8) (.t 10)), opI 13 (.load 5 true (.t 12)), opI 6 (.init 5 true (.t 13) true)])
  (.seq (.reg false [opI 14 (.load 5 true (.t 6)), mvI 15 (.t 1), opI 16 (.callf f_term_postorder [(.t 14), (.t 15)]), opI 17 (.not (.t 16))])
  (.cond (.t 17) (.seq (.reg false [mvI 4 (.c (.p (.bool false)))])
  .ret) .skip))))
  (.reg false [opI 18 (.arith .add (.t 10) (kI 1)), mvI 10 (.t 18)]))))
def L0_term_postorder : K := .loop [1, 2, 8, 9, 10] B0_term_postorder
def F_term_postorder : AFn := ⟨22, [.tmp 4],
  (.seq (.reg false [opI 2 (.box 5 true (.t 0) true), mvI 4 (.c (.p (.bool false)))])
  (.seq (.seq (.reg false [opI 7 (.fadr 4 (.t 2)), opI 8 (.load 1 false (.t 7)), opI 9 (.lenS (.t 8)), mvI 10 (kI 0)])
  (.block 0 L0_term_postorder))
  (.seq (.reg false [mvI 19 (.t 1), opI 20 (.load 5 true (.t 2)), opI 21 (.callv (.t 19) [(.t 20)]), mvI 4 (.t 21)])
  .ret))), true⟩
def F_term_All_1_1 : AFn := ⟨8, [.tmp 3],
  (.seq (.reg false [opI 2 (.box 5 true (.t 0) true), mvI 3 (.c (.p (.bool false)))])
  (.seq (.reg true [opI 4 (.load 1 false (.t 1)), opI 5 (.load 5 true (.t 2)), opI 6 (.callf f_term_Copy [(.t 5)]), opI 7 (.callv (.t 4) [(.t 6)]), mvI 3 (.t 7)])
  .ret)), true⟩
def F_opinfo_Arity : AFn := ⟨42, [.tmp 2],
  (.seq (.reg false [mvI 2 (kI 0)])
  (.seq (.reg false [mvI 3 (kI 0)])
  (.seq (.seq (.reg false [mvI 4 (.t 0)])
  (.block 0 (.seq (.block 4 (.seq (.block 3 (.seq (.block 2 (.seq (.block 1 (.seq (.seq (.seq (.reg false [opI 6 (.arith .eql (.t 4) (kI 19)), mvI 5 (.t 6)])
  (.cond (.t 5) (.exit 1) .skip))
  (.seq (.seq (.seq (.reg false [opI 8 (.arith .eql (.t 4) (kI 5)), mvI 7 (.t 8)])
  (.cond (.t 7) .skip (.seq (.reg false [opI 9 (.arith .eql (.t 4) (kI 6)), mvI 7 (.t 9)])
  (.cond (.t 7) .skip (.seq (.reg false [opI 10 (.arith .eql (.t 4) (kI 7)), mvI 7 (.t 10)])
  (.cond (.t 7) .skip (.seq (.reg false [opI 11 (.arith .eql (.t 4) (kI 8)), mvI 7 (.t 11)])
  (.cond (.t 7) .skip (.seq (.reg false [opI 12 (.arith .eql (.t 4) (kI 9)), mvI 7 (.t 12)])
  (.cond (.t 7) .skip (.seq (.reg false [opI 13 (.arith .eql (.t 4) (kI 10)), mvI 7 (.t 13)])
  (.cond (.t 7) .skip (.seq (.reg false [opI 14 (.arith .eql (.t 4) (kI 11)), mvI 7 (.t 14)])
  (.cond (.t 7) .skip (.seq (.reg false [opI 15 (.arith .eql (.t 4) (kI 12)), mvI 7 (.t 15)])
  (.cond (.t 7) .skip (.seq (.reg false [opI 16 (.arith .eql (.t 4) (kI 13)), mvI 7 (.t 16)])
  (.cond (.t 7) .skip (.seq (.reg false [opI 17 (.arith .eql (.t 4) (kI 14)), mvI 7 (.t 17)])
  (.cond (.t 7) .skip (.seq (.reg false [opI 18 (.arith .eql (.t 4) (kI 15)), mvI 7 (.t 18)])
  (.cond (.t 7) .skip (.seq (.reg false [opI 19 (.arith .eql (.t 4) (kI 16)), mvI 7 (.t 19)])
  (.cond (.t 7) .skip (.seq (.reg false [opI 20 (.arith .eql (.t 4) (kI 17)), mvI 7 (.t 20)])
  (.cond (.t 7) .skip (.seq (.reg false [opI 21 (.arith .eql (.t 4) (kI 18)), mvI 7 (.t 21)])
  (.cond (.t 7) .skip (.reg false [opI 22 (.arith .eql (.t 4) (kI 20)), mvI 7 (.t 22)])))))))))))))))))))))))))))))
  (.cond (.t 7) (.exit 2) .skip))
  (.seq (.seq (.seq (.reg false [opI 24 (.arith .eql (.t 4) (kI 3)), mvI 23 (.t 24)])
  (.cond (.t 23) .skip (.seq (.reg false [opI 25 (.arith .eql (.t 4) (kI 4)), mvI 23 (.t 25)])
  (.cond (.t 23) .skip (.seq (.reg false [opI 26 (.arith .eql (.t 4) (kI 21)), mvI 23 (.t 26)])
  (.cond (.t 23) .skip (.seq (.reg false [opI 27 (.arith .eql (.t 4) (kI 22)), mvI 23 (.t 27)])
  (.cond (.t 23) .skip (.seq (.reg false [opI 28 (.arith .eql (.t 4) (kI 23)), mvI 23 (.t 28)])
  (.cond (.t 23) .skip (.reg false [opI 29 (.arith .eql (.t 4) (kI 26)), mvI 23 (.t 29)])))))))))))
  (.cond (.t 23) (.exit 3) .skip))
  (.seq (.seq (.reg false [opI 31 (.arith .eql (.t 4) (kI 1)), mvI 30 (.t 31)])
  (.cond (.t 30) .skip (.seq (.reg false [opI 32 (.arith .eql (.t 4) (kI 2)), mvI 30 (.t 32)])
  (.cond (.t 30) .skip (.seq (.reg false [opI 33 (.arith .eql (.t 4) (kI 24)), mvI 30 (.t 33)])
  (.cond (.t 30) .skip (.reg false [opI 34 (.arith .eql (.t 4) (kI 25)), mvI 30 (.t 34)])))))))
  (.cond (.t 30) (.exit 4) .skip)))))
  (.exit 0)))
  (.reg false [mvI 35 (.t 3), opI 36 (.arith .add (.t 35) (kI 1)), mvI 3 (.t 36)])))
  (.reg false [mvI 37 (.t 3), opI 38 (.arith .add (.t 37) (kI 1)), mvI 3 (.t 38)])))
  (.reg false [mvI 39 (.t 3), opI 40 (.arith .add (.t 39) (kI 1)), mvI 3 (.t 40)])))
  (.seq (.seq (.reg false [mvI 41 (.t 3), mvI 2 (.t 41)])
  .ret)
  (.exit 0)))))
  (.seq (.reg false [mvI 2 (kI (-1))])
  .ret)))), false⟩
def F_opinfo_Pattern : AFn := ⟨9, [.tmp 2],
  (.seq (.reg false [mvI 2 (.c (.p (.bool false)))])
  (.seq (.reg false [mvI 3 (.t 0), opI 4 (.arith .geq (.t 3) (kI 24)), mvI 5 (.t 4), ⟨some 6, .mv (.t 0) false, some (5, true)⟩, ⟨some 7, .arith .leq (.t 6) (kI 26), some (5, true)⟩, opI 8 (.pick (.t 5) (.t 7) (.c (.p (.bool false)))), mvI 2 (.t 8)])
  .ret)), false⟩
def B0_term_Name : K :=
  (.seq (.reg false [opI 26 (.arith .lss (.t 25) (.t 24))])
  (.seq (.cond (.t 26) .skip (.exit 0))
  (.seq (.block 1 (.seq (.reg false [mvI 27 (.t 25), mvI 3 (.t 27)])
  (.seq (.reg false [mvI 28 (.t 0), mvI 29 (.t 3), opI 30 (.idxS (.t 28) (.t 29)), mvI 4 (.t 30)])
  (.seq (.reg false [mvI 31 (.t 4), opI 32 (.arith .lss (.t 31) (.c (.p (.int .u8 97)))), mvI 33 (.t 32), ⟨some 34, .mv (.t 4) false, some (33, false)⟩, ⟨some 35, .arith .gtr (.t 34) (.c (.p (.int .u8 122))), some (33, false)⟩, opI 36 (.pick (.t 33) (.c (.p (.bool true))) (.t 35)), mvI 37 (.t 36), ⟨some 38, .mv (.t 4) false, some (37, true)⟩, ⟨some 39, .arith .lss (.t 38) (.c (.p (.int .u8 48))), some (37, true)⟩, ⟨some 40, .mv (.t 39) false, some (37, true)⟩, ⟨some 41, .mv (.t 4) false, some (40, false)⟩, ⟨some 42, .arith .gtr (.t 41) (.c (.p (.int .u8 57))), some (40, false)⟩, ⟨some 43, .pick (.t 40) (.c (.p (.bool true))) (.t 42), some (37, true)⟩, opI 44 (.pick (.t 37) (.t 43) (.c (.p (.bool false)))), mvI 45 (.t 44), ⟨some 46, .mv (.t 4) false, some (45, true)⟩, ⟨some 47, .arith .neq (.t 46) (.c (.p (.int .u8 95))), some (45, true)⟩, opI 48 (.pick (.t 45) (.t 47) (.c (.p (.bool false))))])
  (.cond (.t 48) (.seq (.reg false [mvI 2 (.c (.p (.bool false)))])
  .ret) .skip)))))
  (.reg false [opI 49 (.arith .add (.t 25) (kI 1)), mvI 25 (.t 49)]))))
def L0_term_Name : K := .loop [0, 24, 25] B0_term_Name
def F_term_Name : AFn := ⟨50, [.tmp 2],
  (.seq (.reg false [mvI 2 (.c (.p (.bool false)))])
  (.seq (.seq (.reg false [mvI 5 (.t 0), opI 6 (.lenT (.t 5)), opI 7 (.arith .lss (.t 6) (kI 1)), mvI 8 (.t 7), ⟨some 9, .mv (.t 0) false, some (8, false)⟩, ⟨some 10, .lenT (.t 9), some (8, false)⟩, ⟨some 11, .arith .gtr (.t 10) (kI 16), some (8, false)⟩, opI 12 (.pick (.t 8) (.c (.p (.bool true))) (.t 11)), mvI 13 (.t 12), ⟨some 14, .mv (.t 0) false, some (13, false)⟩, ⟨some 15, .idxS (.t 14) (kI 0), some (13, false)⟩, ⟨some 16, .arith .lss (.t 15) (.c (.p (.int .u8 97))), some (13, false)⟩, opI 17 (.pick (.t 13) (.c (.p (.bool true))) (.t 16)), mvI 18 (.t 17), ⟨some 19, .mv (.t 0) false, some (18, false)⟩, ⟨some 20, .idxS (.t 19) (kI 0), some (18, false)⟩, ⟨some 21, .arith .gtr (.t 20) (.c (.p (.int .u8 122))), some (18, false)⟩, opI 22 (.pick (.t 18) (.c (.p (.bool true))) (.t 21))])
  (.cond (.t 22) (.seq (.reg false [mvI 2 (.c (.p (.bool false)))])
  .ret) .skip))
  (.seq (.seq (.reg false [mvI 23 (.t 0), opI 24 (.lenT (.t 23)), mvI 25 (kI 0)])
  (.block 0 L0_term_Name))
  (.seq (.reg false [mvI 2 (.c (.p (.bool true)))])
  .ret)))), false⟩
def B0_opinfo_Width : K :=
  (.seq (.reg false [opI 25 (.arith .lss (.t 24) (.t 23))])
  (.seq (.cond (.t 25) .skip (.exit 0))
  (.seq (.block 1 (.seq (.reg false [opI 26 (.iadrS 1 (.t 22) (.t 24)), opI 27 (.load 1 false (.t 26)), mvI 11 (.t 27)])
  (.seq (.reg false [mvI 28 (.t 11), opI 29 (.callf f_opinfo_inside [(.t 28)]), opI 30 (.not (.t 29))])
  (.cond (.t 30) (.seq (.reg false [mvI 8 (kI 0), mvI 9 (kI 3)])
  .ret) .skip))))
  (.reg false [opI 31 (.arith .add (.t 24) (kI 1)), mvI 24 (.t 31)]))))
def L0_opinfo_Width : K := .loop [0, 1, 2, 3, 22, 23, 24] B0_opinfo_Width
def F_opinfo_Width : AFn := ⟨144, [.tmp 8, .tmp 9],
  (.seq (.reg false [mvI 8 (kI 0), mvI 9 (kI 0)])
  (.seq (.seq (.reg false [mvI 12 (.t 0), opI 13 (.callf f_opinfo_known [(.t 12)]), opI 14 (.not (.t 13)), mvI 15 (.t 14), ⟨some 16, .mv (.t 3) false, some (15, false)⟩, ⟨some 17, .lenS (.t 16), some (15, false)⟩, ⟨some 18, .mv (.t 0) false, some (15, false)⟩, ⟨some 19, .callf f_opinfo_Arity [(.t 18)], some (15, false)⟩, ⟨some 20, .arith .neq (.t 17) (.t 19), some (15, false)⟩, opI 21 (.pick (.t 15) (.c (.p (.bool true))) (.t 20))])
  (.cond (.t 21) (.seq (.reg false [mvI 8 (kI 0), mvI 9 (kI 4)])
  .ret) .skip))
  (.seq (.seq (.reg false [mvI 22 (.t 3), opI 23 (.lenS (.t 22)), mvI 24 (kI 0)])
  (.block 0 L0_opinfo_Width))
  (.seq (.seq (.reg false [mvI 32 (.t 0)])
  (.block 2 (.seq (.seq (.reg false [opI 34 (.arith .eql (.t 32) (kI 1)), mvI 33 (.t 34)])
  (.cond (.t 33) .skip (.seq (.reg false [opI 35 (.arith .eql (.t 32) (kI 2)), mvI 33 (.t 35)])
  (.cond (.t 33) .skip (.seq (.reg false [opI 36 (.arith .eql (.t 32) (kI 24)), mvI 33 (.t 36)])
  (.cond (.t 33) .skip (.reg false [opI 37 (.arith .eql (.t 32) (kI 25)), mvI 33 (.t 37)])))))))
  (.cond (.t 33) (.seq (.reg false [mvI 38 (.t 0), mvI 39 (.t 1), mvI 40 (.t 2), opI 41 (.callf f_opinfo_leaf [(.t 38), (.t 39), (.t 40)]), opI 42 (.extract (.t 41) 0), opI 43 (.extract (.t 41) 1), mvI 8 (.t 42), mvI 9 (.t 43)])
  .ret) (.seq (.seq (.reg false [opI 45 (.arith .eql (.t 32) (kI 3)), mvI 44 (.t 45)])
  (.cond (.t 44) .skip (.seq (.reg false [opI 46 (.arith .eql (.t 32) (kI 4)), mvI 44 (.t 46)])
  (.cond (.t 44) .skip (.reg false [opI 47 (.arith .eql (.t 32) (kI 26)), mvI 44 (.t 47)])))))
  (.cond (.t 44) (.seq (.reg false [mvI 48 (.t 3), opI 49 (.iadrS 1 (.t 48) (kI 0)), opI 50 (.load 1 false (.t 49)), mvI 8 (.t 50), mvI 9 (kI 0)])
  .ret) (.seq (.seq (.reg false [opI 52 (.arith .eql (.t 32) (kI 21)), mvI 51 (.t 52)])
  (.cond (.t 51) .skip (.seq (.reg false [opI 53 (.arith .eql (.t 32) (kI 22)), mvI 51 (.t 53)])
  (.cond (.t 51) .skip (.reg false [opI 54 (.arith .eql (.t 32) (kI 23)), mvI 51 (.t 54)])))))
  (.cond (.t 51) (.seq (.reg false [mvI 55 (.t 0), mvI 56 (.t 1), mvI 57 (.t 2), mvI 58 (.t 3), opI 59 (.iadrS 1 (.t 58) (kI 0)), opI 60 (.load 1 false (.t 59)), opI 61 (.callf f_opinfo_resized [(.t 55), (.t 56), (.t 57), (.t 60)]), opI 62 (.extract (.t 61) 0), opI 63 (.extract (.t 61) 1), mvI 8 (.t 62), mvI 9 (.t 63)])
  .ret) (.seq (.reg false [opI 65 (.arith .eql (.t 32) (kI 19)), mvI 64 (.t 65)])
  (.cond (.t 64) (.seq (.reg true [mvI 66 (.t 3), opI 67 (.iadrS 1 (.t 66) (kI 0)), opI 68 (.load 1 false (.t 67)), opI 69 (.arith .eql (.t 68) (kI 1)), mvI 70 (.t 69), ⟨some 71, .mv (.t 3) false, some (70, true)⟩, ⟨some 72, .iadrS 1 (.t 71) (kI 1), some (70, true)⟩, ⟨some 73, .load 1 false (.t 72), some (70, true)⟩, ⟨some 74, .mv (.t 3) false, some (70, true)⟩, ⟨some 75, .iadrS 1 (.t 74) (kI 2), some (70, true)⟩, ⟨some 76, .load 1 false (.t 75), some (70, true)⟩, ⟨some 77, .arith .eql (.t 73) (.t 76), some (70, true)⟩, opI 78 (.pick (.t 70) (.t 77) (.c (.p (.bool false)))), mvI 79 (.t 3), opI 80 (.iadrS 1 (.t 79) (kI 1)), opI 81 (.load 1 false (.t 80)), opI 82 (.callf f_opinfo_agreed [(.t 78), (.t 81)]), opI 83 (.extract (.t 82) 0), opI 84 (.extract (.t 82) 1), mvI 8 (.t 83), mvI 9 (.t 84)])
  .ret) (.seq (.reg false [opI 86 (.arith .eql (.t 32) (kI 20)), mvI 85 (.t 86)])
  (.cond (.t 85) (.seq (.reg true [mvI 87 (.t 3), opI 88 (.iadrS 1 (.t 87) (kI 0)), opI 89 (.load 1 false (.t 88)), opI 90 (.arith .geq (.t 89) (kI 1)), mvI 91 (.t 90), ⟨some 92, .mv (.t 3) false, some (91, true)⟩, ⟨some 93, .iadrS 1 (.t 92) (kI 1), some (91, true)⟩, ⟨some 94, .load 1 false (.t 93), some (91, true)⟩, ⟨some 95, .arith .geq (.t 94) (kI 1), some (91, true)⟩, opI 96 (.pick (.t 91) (.t 95) (.c (.p (.bool false)))), mvI 97 (.t 96), ⟨some 98, .mv (.t 3) false, some (97, true)⟩, ⟨some 99, .iadrS 1 (.t 98) (kI 0), some (97, true)⟩, ⟨some 100, .load 1 false (.t 99), some (97, true)⟩, ⟨some 101, .mv (.t 3) false, some (97, true)⟩, ⟨some 102, .iadrS 1 (.t 101) (kI 1), some (97, true)⟩, ⟨some 103, .load 1 false (.t 102), some (97, true)⟩, ⟨some 104, .arith .add (.t 100) (.t 103), some (97, true)⟩, ⟨some 105, .arith .leq (.t 104) (kI 64), some (97, true)⟩, opI 106 (.pick (.t 97) (.t 105) (.c (.p (.bool false)))), mvI 107 (.t 3), opI 108 (.iadrS 1 (.t 107) (kI 0)), opI 109 (.load 1 false (.t 108)), mvI 110 (.t 3), opI 111 (.iadrS 1 (.t 110) (kI 1)), opI 112 (.load 1 false (.t 111)), opI 113 (.arith .add (.t 109) (.t 112)), opI 114 (.callf f_opinfo_agreed [(.t 106), (.t 113)]), opI 115 (.extract (.t 114) 0), opI 116 (.extract (.t 114) 1), mvI 8 (.t 115), mvI 9 (.t 116)])
  .ret) (.seq (.seq (.reg false [opI 118 (.arith .eql (.t 32) (kI 16)), mvI 117 (.t 118)])
  (.cond (.t 117) .skip (.seq (.reg false [opI 119 (.arith .eql (.t 32) (kI 17)), mvI 117 (.t 119)])
  (.cond (.t 117) .skip (.reg false [opI 120 (.arith .eql (.t 32) (kI 18)), mvI 117 (.t 120)])))))
  (.cond (.t 117) (.seq (.reg true [mvI 121 (.t 3), opI 122 (.iadrS 1 (.t 121) (kI 0)), opI 123 (.load 1 false (.t 122)), mvI 124 (.t 3), opI 125 (.iadrS 1 (.t 124) (kI 1)), opI 126 (.load 1 false (.t 125)), opI 127 (.arith .eql (.t 123) (.t 126)), opI 128 (.callf f_opinfo_agreed [(.t 127), (kI 1)]), opI 129 (.extract (.t 128) 0), opI 130 (.extract (.t 128) 1), mvI 8 (.t 129), mvI 9 (.t 130)])
  .ret) .skip))))))))))))))
  (.seq (.reg true [mvI 131 (.t 3), opI 132 (.iadrS 1 (.t 131) (kI 0)), opI 133 (.load 1 false (.t 132)), mvI 134 (.t 3), opI 135 (.iadrS 1 (.t 134) (kI 1)), opI 136 (.load 1 false (.t 135)), opI 137 (.arith .eql (.t 133) (.t 136)), mvI 138 (.t 3), opI 139 (.iadrS 1 (.t 138) (kI 0)), opI 140 (.load 1 false (.t 139)), opI 141 (.callf f_opinfo_agreed [(.t 137), (.t 140)]), opI 142 (.extract (.t 141) 0), opI 143 (.extract (.t 141) 1), mvI 8 (.t 142), mvI 9 (.t 143)])
  .ret))))), false⟩
def B0_term_widths : K :=
  (.seq (.reg false [opI 12 (.arith .lss (.t 11) (.t 10))])
  (.seq (.cond (.t 12) .skip (.exit 0))
  (.seq (.block 1 (.seq (.reg false [mvI 13 (.t 11), opI 14 (.iadrS 5 (.t 9) (.t 11)), opI 15 (.load 5 true (.t 14)), opI 5 (.alloc [(.p (.int .i64 0)), (.p (.int .i64 0)), (.p (.int .u64 0)), (.p (.str (bs []))), .nils] 5), mvI 4 (.t 13), ⟨none, .store 5 (.t 5) (.t 15), none⟩])
  (.reg false [mvI 16 (.t 3), mvI 17 (.t 4), opI 18 (.fadr 1 (.t 5)), opI 19 (.load 1 false (.t 18)), opI 20 (.iadrS 1 (.t 16) (.t 17)), ⟨none, .store 1 (.t 20) (.t 19), none⟩])))
  (.reg false [opI 21 (.arith .add (.t 11) (kI 1)), mvI 11 (.t 21)]))))
def L0_term_widths : K := .loop [3, 9, 10, 11] B0_term_widths
def F_term_widths : AFn := ⟨23, [.tmp 2],
  (.seq (.reg false [mvI 2 (.c .nils)])
  (.seq (.reg false [mvI 6 (.t 0), opI 7 (.lenS (.t 6)), opI 8 (.mkslice 1 8 [(.p (.int .i64 0))] (.t 7) (.t 7)), mvI 3 (.t 8)])
  (.seq (.seq (.reg false [mvI 9 (.t 0), opI 10 (.lenS (.t 9)), mvI 11 (kI 0)])
  (.block 0 L0_term_widths))
  (.seq (.reg false [mvI 22 (.t 3), mvI 2 (.t 22)])
  .ret)))), false⟩
def B0_slices_IndexFunc_api_Var_api_Var : K :=
  (.seq (.reg false [opI 9 (.arith .lss (.t 8) (.t 7))])
  (.seq (.cond (.t 9) .skip (.exit 0))
  (.seq (.block 1 (.seq (.reg false [mvI 10 (.t 8), mvI 5 (.t 10)])
  (.seq (.reg false [mvI 11 (.t 1), mvI 12 (.t 0), mvI 13 (.t 5), opI 14 (.iadrS 2 (.t 12) (.t 13)), opI 15 (.load 2 true (.t 14)), opI 16 (.callv (.t 11) [(.t 15)])])
  (.cond (.t 16) (.seq (.reg false [mvI 17 (.t 5), mvI 4 (.t 17)])
  .ret) .skip))))
  (.reg false [opI 18 (.arith .add (.t 8) (kI 1)), mvI 8 (.t 18)]))))
def L0_slices_IndexFunc_api_Var_api_Var : K := .loop [0, 1, 7, 8] B0_slices_IndexFunc_api_Var_api_Var
def F_slices_IndexFunc_api_Var_api_Var : AFn := ⟨19, [.tmp 4],
  (.seq (.reg false [mvI 4 (kI 0)])
  (.seq (.seq (.reg false [mvI 6 (.t 0), opI 7 (.lenS (.t 6)), mvI 8 (kI 0)])
  (.block 0 L0_slices_IndexFunc_api_Var_api_Var))
  (.seq (.reg false [mvI 4 (kI (-1))])
  .ret))), false⟩
def F_internal_bytealg_CompareString : AFn := ⟨8, [.tmp 4],
  (.seq (.reg false [mvI 4 (kI 0)])
  (.seq (.reg false [mvI 5 (.t 0), mvI 6 (.t 1), opI 7 (.callf f_internal_bytealg_abigen_runtime_cmpstring [(.t 5), (.t 6)]), mvI 4 (.t 7)])
  .ret)), false⟩
def F_bits_Mask : AFn := ⟨7, [.tmp 2],
  (.seq (.reg false [mvI 2 (.c (.p (.int .u64 0)))])
  (.seq (.reg false [mvI 3 (.t 0), opI 4 (.callf f_bits_clamp [(.t 3)]), opI 5 (.arith .sub (kI 64) (.t 4)), opI 6 (.arith .shr (.c (.p (.int .u64 18446744073709551615))) (.t 5)), mvI 2 (.t 6)])
  .ret)), false⟩
def F_bits_Not : AFn := ⟨9, [.tmp 4],
  (.seq (.reg false [mvI 4 (.c (.p (.int .u64 0)))])
  (.seq (.reg false [mvI 5 (.t 0), mvI 6 (.t 1), opI 7 (.compl (.t 6)), opI 8 (.callf f_bits_Cut [(.t 5), (.t 7)]), mvI 4 (.t 8)])
  .ret)), false⟩
def F_bits_Neg : AFn := ⟨9, [.tmp 4],
  (.seq (.reg false [mvI 4 (.c (.p (.int .u64 0)))])
  (.seq (.reg false [mvI 5 (.t 0), mvI 6 (.t 1), opI 7 (.neg (.t 6)), opI 8 (.callf f_bits_Cut [(.t 5), (.t 7)]), mvI 4 (.t 8)])
  .ret)), false⟩
def F_bits_Concat : AFn := ⟨19, [.tmp 8],
  (.seq (.reg false [mvI 8 (.c (.p (.int .u64 0)))])
  (.seq (.reg true [mvI 9 (.t 0), mvI 10 (.t 2), opI 11 (.callf f_bits_Cut [(.t 9), (.t 10)]), mvI 12 (.t 1), opI 13 (.callf f_bits_clamp [(.t 12)]), opI 14 (.arith .shl (.t 11) (.t 13)), mvI 15 (.t 1), mvI 16 (.t 3), opI 17 (.callf f_bits_Cut [(.t 15), (.t 16)]), opI 18 (.arith .or (.t 14) (.t 17)), mvI 8 (.t 18)])
  .ret)), false⟩
def F_bits_Extract : AFn := ⟨14, [.tmp 6],
  (.seq (.reg false [mvI 6 (.c (.p (.int .u64 0)))])
  (.seq (.seq (.reg false [mvI 7 (.t 0), opI 8 (.arith .lss (.t 7) (kI 0))])
  (.cond (.t 8) (.seq (.reg false [mvI 6 (.c (.p (.int .u64 0)))])
  .ret) .skip))
  (.seq (.reg false [mvI 9 (.t 1), mvI 10 (.t 2), mvI 11 (.t 0), opI 12 (.arith .shr (.t 10) (.t 11)), opI 13 (.callf f_bits_Cut [(.t 9), (.t 12)]), mvI 6 (.t 13)])
  .ret))), false⟩
def F_bits_Sext : AFn := ⟨13, [.tmp 6],
  (.seq (.reg false [mvI 6 (.c (.p (.int .u64 0)))])
  (.seq (.reg false [mvI 7 (.t 1), mvI 8 (.t 0), mvI 9 (.t 2), opI 10 (.callf f_bits_Signed [(.t 8), (.t 9)]), opI 11 (.conv .u64 (.t 10)), opI 12 (.callf f_bits_Cut [(.t 7), (.t 11)]), mvI 6 (.t 12)])
  .ret)), false⟩
def F_eval_binary : AFn := ⟨95, [.tmp 8],
  (.seq (.reg false [mvI 8 (.c (.p (.int .u64 0)))])
  (.seq (.seq (.reg false [mvI 9 (.t 0)])
  (.block 0 (.seq (.reg false [opI 11 (.arith .eql (.t 9) (kI 5)), mvI 10 (.t 11)])
  (.cond (.t 10) (.seq (.reg false [mvI 12 (.t 1), mvI 13 (.t 2), mvI 14 (.t 3), opI 15 (.callf f_bits_And [(.t 12), (.t 13), (.t 14)]), mvI 8 (.t 15)])
  .ret) (.seq (.reg false [opI 17 (.arith .eql (.t 9) (kI 6)), mvI 16 (.t 17)])
  (.cond (.t 16) (.seq (.reg false [mvI 18 (.t 1), mvI 19 (.t 2), mvI 20 (.t 3), opI 21 (.callf f_bits_Or [(.t 18), (.t 19), (.t 20)]), mvI 8 (.t 21)])
  .ret) (.seq (.reg false [opI 23 (.arith .eql (.t 9) (kI 7)), mvI 22 (.t 23)])
  (.cond (.t 22) (.seq (.reg false [mvI 24 (.t 1), mvI 25 (.t 2), mvI 26 (.t 3), opI 27 (.callf f_bits_Xor [(.t 24), (.t 25), (.t 26)]), mvI 8 (.t 27)])
  .ret) (.seq (.reg false [opI 29 (.arith .eql (.t 9) (kI 8)), mvI 28 (.t 29)])
  (.cond (.t 28) (.seq (.reg false [mvI 30 (.t 1), mvI 31 (.t 2), mvI 32 (.t 3), opI 33 (.callf f_bits_Add [(.t 30), (.t 31), (.t 32)]), mvI 8 (.t 33)])
  .ret) (.seq (.reg false [opI 35 (.arith .eql (.t 9) (kI 9)), mvI 34 (.t 35)])
  (.cond (.t 34) (.seq (.reg false [mvI 36 (.t 1), mvI 37 (.t 2), mvI 38 (.t 3), opI 39 (.callf f_bits_Sub [(.t 36), (.t 37), (.t 38)]), mvI 8 (.t 39)])
  .ret) (.seq (.reg false [opI 41 (.arith .eql (.t 9) (kI 10)), mvI 40 (.t 41)])
  (.cond (.t 40) (.seq (.reg false [mvI 42 (.t 1), mvI 43 (.t 2), mvI 44 (.t 3), opI 45 (.callf f_bits_Mul [(.t 42), (.t 43), (.t 44)]), mvI 8 (.t 45)])
  .ret) (.seq (.reg false [opI 47 (.arith .eql (.t 9) (kI 11)), mvI 46 (.t 47)])
  (.cond (.t 46) (.seq (.reg false [mvI 48 (.t 1), mvI 49 (.t 2), mvI 50 (.t 3), opI 51 (.callf f_bits_Udiv [(.t 48), (.t 49), (.t 50)]), mvI 8 (.t 51)])
  .ret) (.seq (.reg false [opI 53 (.arith .eql (.t 9) (kI 12)), mvI 52 (.t 53)])
  (.cond (.t 52) (.seq (.reg false [mvI 54 (.t 1), mvI 55 (.t 2), mvI 56 (.t 3), opI 57 (.callf f_bits_Urem [(.t 54), (.t 55), (.t 56)]), mvI 8 (.t 57)])
  .ret) (.seq (.reg false [opI 59 (.arith .eql (.t 9) (kI 13)), mvI 58 (.t 59)])
  (.cond (.t 58) (.seq (.reg false [mvI 60 (.t 1), mvI 61 (.t 2), mvI 62 (.t 3), opI 63 (.callf f_bits_Shl [(.t 60), (.t 61), (.t 62)]), mvI 8 (.t 63)])
  .ret) (.seq (.reg false [opI 65 (.arith .eql (.t 9) (kI 14)), mvI 64 (.t 65)])
  (.cond (.t 64) (.seq (.reg false [mvI 66 (.t 1), mvI 67 (.t 2), mvI 68 (.t 3), opI 69 (.callf f_bits_Lshr [(.t 66), (.t 67), (.t 68)]), mvI 8 (.t 69)])
  .ret) (.seq (.reg false [opI 71 (.arith .eql (.t 9) (kI 15)), mvI 70 (.t 71)])
  (.cond (.t 70) (.seq (.reg false [mvI 72 (.t 1), mvI 73 (.t 2), mvI 74 (.t 3), opI 75 (.callf f_bits_Ashr [(.t 72), (.t 73), (.t 74)]), mvI 8 (.t 75)])
  .ret) (.seq (.reg false [opI 77 (.arith .eql (.t 9) (kI 16)), mvI 76 (.t 77)])
  (.cond (.t 76) (.seq (.seq (.reg false [mvI 78 (.t 1), mvI 79 (.t 2), opI 80 (.callf f_eval_word [(.t 78), (.t 79)]), mvI 81 (.t 1), mvI 82 (.t 3), opI 83 (.callf f_eval_word [(.t 81), (.t 82)]), opI 84 (.eqA false [.int, .int] (.t 80) (.t 83))])
  (.cond (.t 84) (.seq (.reg false [mvI 8 (.c (.p (.int .u64 1)))])
  .ret) .skip))
  (.seq (.reg false [mvI 8 (.c (.p (.int .u64 0)))])
  .ret)) (.seq (.reg false [opI 86 (.arith .eql (.t 9) (kI 17)), mvI 85 (.t 86)])
  (.cond (.t 85) (.seq (.reg false [mvI 87 (.t 1), mvI 88 (.t 2), mvI 89 (.t 3), opI 90 (.callf f_bits_Ult [(.t 87), (.t 88), (.t 89)]), mvI 8 (.t 90)])
  .ret) .skip))))))))))))))))))))))))))))
  (.seq (.reg false [mvI 91 (.t 1), mvI 92 (.t 2), mvI 93 (.t 3), opI 94 (.callf f_bits_Slt [(.t 91), (.t 92), (.t 93)]), mvI 8 (.t 94)])
  .ret))), false⟩
def F_eval_Closed : AFn := ⟨12, [.tmp 2],
  (.seq (.reg false [opI 1 (.box 5 true (.t 0) true), mvI 2 (.c (.p (.bool false)))])
  (.seq (.reg false [opI 3 (.fadr 0 (.t 1)), opI 4 (.load 1 false (.t 3)), opI 5 (.arith .neq (.t 4) (kI 1)), mvI 6 (.t 5), ⟨some 7, .fadr 4 (.t 1), some (6, true)⟩, ⟨some 8, .load 1 false (.t 7), some (6, true)⟩, ⟨some 9, .callf f_slices_ContainsFunc_api_Term_api_Term [(.t 8), (.c (.p (.fn f_eval_Closed_1 [])))], some (6, true)⟩, ⟨some 10, .not (.t 9), some (6, true)⟩, opI 11 (.pick (.t 6) (.t 10) (.c (.p (.bool false)))), mvI 2 (.t 11)])
  .ret)), false⟩
def F_term_Const : AFn := ⟨18, [.cell 4 5 true],
  (.seq (.reg false [opI 4 (.alloc [(.p (.int .i64 0)), (.p (.int .i64 0)), (.p (.int .u64 0)), (.p (.str (bs []))), .nils] 5)])
  (.seq (.reg false [mvI 6 (.t 0), opI 7 (.callf f_term_clamp [(.t 6)]), mvI 5 (.t 7)])
  (.seq (.seq (.reg false [mvI 8 (.t 5), opI 9 (.arith .lss (.t 8) (kI 64))])
  (.cond (.t 9) (.reg false [mvI 10 (.t 1), mvI 11 (.t 5), opI 12 (.arith .shl (.c (.p (.int .u64 1))) (.t 11)), opI 13 (.arith .sub (.t 12) (.c (.p (.int .u64 1)))), opI 14 (.arith .and (.t 10) (.t 13)), mvI 1 (.t 14)]) .skip))
  (.seq (.reg false [mvI 15 (.t 5), mvI 16 (.t 1), opI 17 (.build [(.p (.int .i64 0)), (.p (.int .i64 0)), (.p (.int .u64 0)), (.p (.str (bs []))), .nils] [(0, 1, (kI 2)), (1, 1, (.t 15)), (2, 1, (.t 16))]), ⟨none, .store 5 (.t 4) (.t 17), none⟩])
  .ret)))), false⟩
def F_eval_fold_1 : AFn := ⟨3, [.tmp 2],
  (.seq (.reg false [opI 1 (.box 5 true (.t 0) true), mvI 2 (.c (.p (.int .u64 0)))])
  (.seq (.reg false [mvI 2 (.c (.p (.int .u64 0)))])
  .ret)), false⟩
def F_opinfo_known : AFn := ⟨9, [.tmp 2],
  (.seq (.reg false [mvI 2 (.c (.p (.bool false)))])
  (.seq (.reg false [mvI 3 (.t 0), opI 4 (.arith .geq (.t 3) (kI 1)), mvI 5 (.t 4), ⟨some 6, .mv (.t 0) false, some (5, true)⟩, ⟨some 7, .arith .leq (.t 6) (kI 26), some (5, true)⟩, opI 8 (.pick (.t 5) (.t 7) (.c (.p (.bool false)))), mvI 2 (.t 8)])
  .ret)), false⟩
def F_opinfo_inside : AFn := ⟨9, [.tmp 2],
  (.seq (.reg false [mvI 2 (.c (.p (.bool false)))])
  (.seq (.reg false [mvI 3 (.t 0), opI 4 (.arith .geq (.t 3) (kI 0)), mvI 5 (.t 4), ⟨some 6, .mv (.t 0) false, some (5, true)⟩, ⟨some 7, .arith .leq (.t 6) (kI 64), some (5, true)⟩, opI 8 (.pick (.t 5) (.t 7) (.c (.p (.bool false)))), mvI 2 (.t 8)])
  .ret)), false⟩
def F_opinfo_leaf : AFn := ⟨26, [.tmp 6, .tmp 7],
  (.seq (.reg false [mvI 6 (kI 0), mvI 7 (kI 0)])
  (.seq (.seq (.reg false [mvI 8 (.t 1), opI 9 (.callf f_opinfo_inside [(.t 8)]), opI 10 (.not (.t 9)), mvI 11 (.t 10), ⟨some 12, .mv (.t 0) false, some (11, false)⟩, ⟨some 13, .arith .eql (.t 12) (kI 2), some (11, false)⟩, ⟨some 14, .mv (.t 13) false, some (11, false)⟩, ⟨some 15, .mv (.t 1) false, some (14, true)⟩, ⟨some 16, .arith .gtr (.t 15) (kI 0), some (14, true)⟩, ⟨some 17, .pick (.t 14) (.t 16) (.c (.p (.bool false))), some (11, false)⟩, ⟨some 18, .mv (.t 17) false, some (11, false)⟩, ⟨some 19, .mv (.t 2) false, some (18, true)⟩, ⟨some 20, .mv (.t 1) false, some (18, true)⟩, ⟨some 21, .arith .shr (.t 19) (.t 20), some (18, true)⟩, ⟨some 22, .arith .neq (.t 21) (.c (.p (.int .u64 0))), some (18, true)⟩, ⟨some 23, .pick (.t 18) (.t 22) (.c (.p (.bool false))), some (11, false)⟩, opI 24 (.pick (.t 11) (.c (.p (.bool true))) (.t 23))])
  (.cond (.t 24) (.seq (.reg false [mvI 6 (kI 0), mvI 7 (kI 3)])
  .ret) .skip))
  (.seq (.reg false [mvI 25 (.t 1), mvI 6 (.t 25), mvI 7 (kI 0)])
  .ret))), false⟩
def F_opinfo_resized : AFn := ⟨45, [.tmp 8, .tmp 9],
  (.seq (.reg false [mvI 8 (kI 0), mvI 9 (kI 0)])
  (.seq (.seq (.reg false [mvI 10 (.t 1), opI 11 (.arith .lss (.t 10) (kI 1)), mvI 12 (.t 11), ⟨some 13, .mv (.t 1) false, some (12, false)⟩, ⟨some 14, .arith .gtr (.t 13) (kI 64), some (12, false)⟩, opI 15 (.pick (.t 12) (.c (.p (.bool true))) (.t 14)), mvI 16 (.t 15), ⟨some 17, .mv (.t 3) false, some (16, false)⟩, ⟨some 18, .arith .lss (.t 17) (kI 1), some (16, false)⟩, opI 19 (.pick (.t 16) (.c (.p (.bool true))) (.t 18))])
  (.cond (.t 19) (.seq (.reg false [mvI 8 (kI 0), mvI 9 (kI 3)])
  .ret) .skip))
  (.seq (.seq (.reg false [mvI 20 (.t 0), opI 21 (.arith .neq (.t 20) (kI 21)), mvI 22 (.t 21), ⟨some 23, .mv (.t 1) false, some (22, true)⟩, ⟨some 24, .mv (.t 3) false, some (22, true)⟩, ⟨some 25, .arith .lss (.t 23) (.t 24), some (22, true)⟩, opI 26 (.pick (.t 22) (.t 25) (.c (.p (.bool false)))), mvI 27 (.t 26), ⟨some 28, .mv (.t 0) false, some (27, false)⟩, ⟨some 29, .arith .eql (.t 28) (kI 21), some (27, false)⟩, ⟨some 30, .mv (.t 29) false, some (27, false)⟩, ⟨some 31, .mv (.t 1) false, some (30, true)⟩, ⟨some 32, .mv (.t 3) false, some (30, true)⟩, ⟨some 33, .arith .gtr (.t 31) (.t 32), some (30, true)⟩, ⟨some 34, .mv (.t 33) false, some (30, true)⟩, ⟨some 35, .mv (.t 2) false, some (34, false)⟩, ⟨some 36, .mv (.t 3) false, some (34, false)⟩, ⟨some 37, .mv (.t 1) false, some (34, false)⟩, ⟨some 38, .arith .sub (.t 36) (.t 37), some (34, false)⟩, ⟨some 39, .conv .u64 (.t 38), some (34, false)⟩, ⟨some 40, .arith .gtr (.t 35) (.t 39), some (34, false)⟩, ⟨some 41, .pick (.t 34) (.c (.p (.bool true))) (.t 40), some (30, true)⟩, ⟨some 42, .pick (.t 30) (.t 41) (.c (.p (.bool false))), some (27, false)⟩, opI 43 (.pick (.t 27) (.c (.p (.bool true))) (.t 42))])
  (.cond (.t 43) (.seq (.reg false [mvI 8 (kI 0), mvI 9 (kI 3)])
  .ret) .skip))
  (.seq (.reg false [mvI 44 (.t 1), mvI 8 (.t 44), mvI 9 (kI 0)])
  .ret)))), false⟩
def F_opinfo_agreed : AFn := ⟨9, [.tmp 4, .tmp 5],
  (.seq (.reg false [mvI 4 (kI 0), mvI 5 (kI 0)])
  (.seq (.seq (.reg false [mvI 6 (.t 0), opI 7 (.not (.t 6))])
  (.cond (.t 7) (.seq (.reg false [mvI 4 (kI 0), mvI 5 (kI 3)])
  .ret) .skip))
  (.seq (.reg false [mvI 8 (.t 1), mvI 4 (.t 8), mvI 5 (kI 0)])
  .ret))), false⟩
def F_bits_clamp : AFn := ⟨6, [.tmp 2],
  (.seq (.reg false [mvI 2 (kI 0)])
  (.seq (.reg false [mvI 3 (.t 0), opI 4 (.minmax true [(.t 3), (kI 1)]), opI 5 (.minmax false [(.t 4), (kI 64)]), mvI 2 (.t 5)])
  .ret)), false⟩
def F_bits_Signed : AFn := ⟨15, [.tmp 4],
  (.seq (.reg false [mvI 4 (kI 0)])
  (.seq (.reg false [mvI 6 (.t 0), opI 7 (.callf f_bits_clamp [(.t 6)]), opI 8 (.arith .sub (kI 64) (.t 7)), mvI 5 (.t 8)])
  (.seq (.reg false [mvI 9 (.t 1), mvI 10 (.t 5), opI 11 (.arith .shl (.t 9) (.t 10)), opI 12 (.conv .i64 (.t 11)), mvI 13 (.t 5), opI 14 (.arith .shr (.t 12) (.t 13)), mvI 4 (.t 14)])
  .ret))), false⟩
def F_bits_And : AFn := ⟨12, [.tmp 6],
  (.seq (.reg false [mvI 6 (.c (.p (.int .u64 0)))])
  (.seq (.reg false [mvI 7 (.t 0), mvI 8 (.t 1), mvI 9 (.t 2), opI 10 (.arith .and (.t 8) (.t 9)), opI 11 (.callf f_bits_Cut [(.t 7), (.t 10)]), mvI 6 (.t 11)])
  .ret)), false⟩
def F_bits_Or : AFn := ⟨12, [.tmp 6],
  (.seq (.reg false [mvI 6 (.c (.p (.int .u64 0)))])
  (.seq (.reg false [mvI 7 (.t 0), mvI 8 (.t 1), mvI 9 (.t 2), opI 10 (.arith .or (.t 8) (.t 9)), opI 11 (.callf f_bits_Cut [(.t 7), (.t 10)]), mvI 6 (.t 11)])
  .ret)), false⟩
def F_bits_Xor : AFn := ⟨12, [.tmp 6],
  (.seq (.reg false [mvI 6 (.c (.p (.int .u64 0)))])
  (.seq (.reg false [mvI 7 (.t 0), mvI 8 (.t 1), mvI 9 (.t 2), opI 10 (.arith .xor (.t 8) (.t 9)), opI 11 (.callf f_bits_Cut [(.t 7), (.t 10)]), mvI 6 (.t 11)])
  .ret)), false⟩
def F_bits_Add : AFn := ⟨12, [.tmp 6],
  (.seq (.reg false [mvI 6 (.c (.p (.int .u64 0)))])
  (.seq (.reg false [mvI 7 (.t 0), mvI 8 (.t 1), mvI 9 (.t 2), opI 10 (.arith .add (.t 8) (.t 9)), opI 11 (.callf f_bits_Cut [(.t 7), (.t 10)]), mvI 6 (.t 11)])
  .ret)), false⟩
def F_bits_Sub : AFn := ⟨12, [.tmp 6],
  (.seq (.reg false [mvI 6 (.c (.p (.int .u64 0)))])
  (.seq (.reg false [mvI 7 (.t 0), mvI 8 (.t 1), mvI 9 (.t 2), opI 10 (.arith .sub (.t 8) (.t 9)), opI 11 (.callf f_bits_Cut [(.t 7), (.t 10)]), mvI 6 (.t 11)])
  .ret)), false⟩
def F_bits_Mul : AFn := ⟨12, [.tmp 6],
  (.seq (.reg false [mvI 6 (.c (.p (.int .u64 0)))])
  (.seq (.reg false [mvI 7 (.t 0), mvI 8 (.t 1), mvI 9 (.t 2), opI 10 (.arith .mul (.t 8) (.t 9)), opI 11 (.callf f_bits_Cut [(.t 7), (.t 10)]), mvI 6 (.t 11)])
  .ret)), false⟩
def F_bits_Udiv : AFn := ⟨22, [.tmp 6],
  (.seq (.reg false [mvI 6 (.c (.p (.int .u64 0)))])
  (.seq (.reg false [mvI 9 (.t 0), mvI 10 (.t 1), opI 11 (.callf f_bits_Cut [(.t 9), (.t 10)]), mvI 12 (.t 0), mvI 13 (.t 2), opI 14 (.callf f_bits_Cut [(.t 12), (.t 13)]), mvI 7 (.t 11), mvI 8 (.t 14)])
  (.seq (.seq (.reg false [mvI 15 (.t 8), opI 16 (.arith .eql (.t 15) (.c (.p (.int .u64 0))))])
  (.cond (.t 16) (.seq (.reg false [mvI 17 (.t 0), opI 18 (.callf f_bits_Mask [(.t 17)]), mvI 6 (.t 18)])
  .ret) .skip))
  (.seq (.reg false [mvI 19 (.t 7), mvI 20 (.t 8), opI 21 (.arith .quo (.t 19) (.t 20)), mvI 6 (.t 21)])
  .ret)))), false⟩
def F_bits_Urem : AFn := ⟨21, [.tmp 6],
  (.seq (.reg false [mvI 6 (.c (.p (.int .u64 0)))])
  (.seq (.reg false [mvI 9 (.t 0), mvI 10 (.t 1), opI 11 (.callf f_bits_Cut [(.t 9), (.t 10)]), mvI 12 (.t 0), mvI 13 (.t 2), opI 14 (.callf f_bits_Cut [(.t 12), (.t 13)]), mvI 7 (.t 11), mvI 8 (.t 14)])
  (.seq (.seq (.reg false [mvI 15 (.t 8), opI 16 (.arith .eql (.t 15) (.c (.p (.int .u64 0))))])
  (.cond (.t 16) (.seq (.reg false [mvI 17 (.t 7), mvI 6 (.t 17)])
  .ret) .skip))
  (.seq (.reg false [mvI 18 (.t 7), mvI 19 (.t 8), opI 20 (.arith .rem (.t 18) (.t 19)), mvI 6 (.t 20)])
  .ret)))), false⟩
def F_bits_Shl : AFn := ⟨11, [.tmp 6],
  (.seq (.reg false [mvI 6 (.c (.p (.int .u64 0)))])
  (.seq (.reg false [mvI 7 (.t 0), mvI 8 (.t 1), mvI 9 (.t 2), opI 10 (.callf f_bits_shift [(kI 0), (.t 7), (.t 8), (.t 9)]), mvI 6 (.t 10)])
  .ret)), false⟩
def F_bits_Lshr : AFn := ⟨11, [.tmp 6],
  (.seq (.reg false [mvI 6 (.c (.p (.int .u64 0)))])
  (.seq (.reg false [mvI 7 (.t 0), mvI 8 (.t 1), mvI 9 (.t 2), opI 10 (.callf f_bits_shift [(kI 1), (.t 7), (.t 8), (.t 9)]), mvI 6 (.t 10)])
  .ret)), false⟩
def F_bits_Ashr : AFn := ⟨11, [.tmp 6],
  (.seq (.reg false [mvI 6 (.c (.p (.int .u64 0)))])
  (.seq (.reg false [mvI 7 (.t 0), mvI 8 (.t 1), mvI 9 (.t 2), opI 10 (.callf f_bits_shift [(kI 2), (.t 7), (.t 8), (.t 9)]), mvI 6 (.t 10)])
  .ret)), false⟩
def F_eval_word : AFn := ⟨10, [.cell 4 2 true],
  (.seq (.reg false [opI 4 (.alloc [(.p (.int .i64 0)), (.p (.int .u64 0))] 2)])
  (.seq (.reg false [mvI 5 (.t 0), mvI 6 (.t 0), mvI 7 (.t 1), opI 8 (.callf f_bits_Cut [(.t 6), (.t 7)]), opI 9 (.build [(.p (.int .i64 0)), (.p (.int .u64 0))] [(0, 1, (.t 5)), (1, 1, (.t 8))]), ⟨none, .store 2 (.t 4) (.t 9), none⟩])
  .ret)), false⟩
def F_bits_Ult : AFn := ⟨15, [.tmp 6],
  (.seq (.reg false [mvI 6 (.c (.p (.int .u64 0)))])
  (.seq (.reg false [mvI 7 (.t 0), mvI 8 (.t 1), opI 9 (.callf f_bits_Cut [(.t 7), (.t 8)]), mvI 10 (.t 0), mvI 11 (.t 2), opI 12 (.callf f_bits_Cut [(.t 10), (.t 11)]), opI 13 (.arith .lss (.t 9) (.t 12)), opI 14 (.callf f_bits_flag [(.t 13)]), mvI 6 (.t 14)])
  .ret)), false⟩
def F_bits_Slt : AFn := ⟨15, [.tmp 6],
  (.seq (.reg false [mvI 6 (.c (.p (.int .u64 0)))])
  (.seq (.reg false [mvI 7 (.t 0), mvI 8 (.t 1), opI 9 (.callf f_bits_Signed [(.t 7), (.t 8)]), mvI 10 (.t 0), mvI 11 (.t 2), opI 12 (.callf f_bits_Signed [(.t 10), (.t 11)]), opI 13 (.arith .lss (.t 9) (.t 12)), opI 14 (.callf f_bits_flag [(.t 13)]), mvI 6 (.t 14)])
  .ret)), false⟩
def F_slices_ContainsFunc_api_Term_api_Term : AFn := ⟨9, [.tmp 4],
  (.seq (.reg false [mvI 4 (.c (.p (.bool false)))])
  (.seq (.reg false [mvI 5 (.t 0), mvI 6 (.t 1), opI 7 (.callf f_slices_IndexFunc_api_Term_api_Term [(.t 5), (.t 6)]), opI 8 (.arith .geq (.t 7) (kI 0)), mvI 4 (.t 8)])
  .ret)), false⟩
def F_eval_Closed_1 : AFn := ⟨6, [.tmp 2],
  (.seq (.reg false [opI 1 (.box 5 true (.t 0) true), mvI 2 (.c (.p (.bool false)))])
  (.seq (.reg false [opI 3 (.load 5 true (.t 1)), opI 4 (.callf f_eval_Closed [(.t 3)]), opI 5 (.not (.t 4)), mvI 2 (.t 5)])
  .ret)), false⟩
def F_term_clamp : AFn := ⟨6, [.tmp 2],
  (.seq (.reg false [mvI 2 (kI 0)])
  (.seq (.reg false [mvI 3 (.t 0), opI 4 (.minmax false [(.t 3), (kI 64)]), opI 5 (.minmax true [(kI 1), (.t 4)]), mvI 2 (.t 5)])
  .ret)), false⟩
def F_bits_shift : AFn := ⟨53, [.tmp 8],
  (.seq (.reg false [mvI 8 (.c (.p (.int .u64 0)))])
  (.seq (.reg false [mvI 12 (.t 1), mvI 13 (.t 2), opI 14 (.callf f_bits_Cut [(.t 12), (.t 13)]), mvI 15 (.t 1), mvI 16 (.t 3), opI 17 (.callf f_bits_Cut [(.t 15), (.t 16)]), mvI 9 (.t 14), mvI 10 (.t 17)])
  (.seq (.reg false [mvI 18 (.t 10), mvI 19 (.t 1), opI 20 (.callf f_bits_clamp [(.t 19)]), opI 21 (.conv .u64 (.t 20)), opI 22 (.arith .geq (.t 18) (.t 21)), mvI 11 (.t 22)])
  (.seq (.seq (.reg false [mvI 23 (.t 0)])
  (.block 0 (.seq (.block 2 (.seq (.block 1 (.seq (.seq (.seq (.reg false [opI 25 (.arith .eql (.t 23) (kI 2)), mvI 24 (.t 25)])
  (.cond (.t 24) (.exit 1) .skip))
  (.seq (.reg false [opI 27 (.arith .eql (.t 23) (kI 1)), mvI 26 (.t 27)])
  (.cond (.t 26) (.exit 2) .skip)))
  (.exit 0)))
  (.seq (.reg false [mvI 28 (.t 1), mvI 29 (.t 9), opI 30 (.callf f_bits_Signed [(.t 28), (.t 29)]), opI 31 (.arith .lss (.t 30) (kI 0))])
  (.cond (.t 31) (.seq (.seq (.reg false [mvI 32 (.t 11)])
  (.cond (.t 32) (.seq (.reg false [mvI 33 (.t 1), opI 34 (.callf f_bits_Mask [(.t 33)]), mvI 8 (.t 34)])
  .ret) .skip))
  (.seq (.reg false [mvI 35 (.t 1), mvI 36 (.t 1), mvI 37 (.t 9), opI 38 (.callf f_bits_Signed [(.t 36), (.t 37)]), mvI 39 (.t 10), opI 40 (.arith .shr (.t 38) (.t 39)), opI 41 (.conv .u64 (.t 40)), opI 42 (.callf f_bits_Cut [(.t 35), (.t 41)]), mvI 8 (.t 42)])
  .ret)) .skip))))
  (.seq (.seq (.seq (.reg false [mvI 43 (.t 11)])
  (.cond (.t 43) (.seq (.reg false [mvI 8 (.c (.p (.int .u64 0)))])
  .ret) .skip))
  (.seq (.reg false [mvI 44 (.t 9), mvI 45 (.t 10), opI 46 (.arith .shr (.t 44) (.t 45)), mvI 8 (.t 46)])
  .ret))
  (.exit 0)))))
  (.seq (.seq (.reg false [mvI 47 (.t 11)])
  (.cond (.t 47) (.seq (.reg false [mvI 8 (.c (.p (.int .u64 0)))])
  .ret) .skip))
  (.seq (.reg false [mvI 48 (.t 1), mvI 49 (.t 9), mvI 50 (.t 10), opI 51 (.arith .shl (.t 49) (.t 50)), opI 52 (.callf f_bits_Cut [(.t 48), (.t 51)]), mvI 8 (.t 52)])
  .ret)))))), false⟩
def F_bits_flag : AFn := ⟨4, [.tmp 2],
  (.seq (.reg false [mvI 2 (.c (.p (.int .u64 0)))])
  (.seq (.seq (.reg false [mvI 3 (.t 0)])
  (.cond (.t 3) (.seq (.reg false [mvI 2 (.c (.p (.int .u64 1)))])
  .ret) .skip))
  (.seq (.reg false [mvI 2 (.c (.p (.int .u64 0)))])
  .ret))), false⟩
def B0_slices_IndexFunc_api_Term_api_Term : K :=
  (.seq (.reg false [opI 9 (.arith .lss (.t 8) (.t 7))])
  (.seq (.cond (.t 9) .skip (.exit 0))
  (.seq (.block 1 (.seq (.reg false [mvI 10 (.t 8), mvI 5 (.t 10)])
  (.seq (.reg false [mvI 11 (.t 1), mvI 12 (.t 0), mvI 13 (.t 5), opI 14 (.iadrS 5 (.t 12) (.t 13)), opI 15 (.load 5 true (.t 14)), opI 16 (.callv (.t 11) [(.t 15)])])
  (.cond (.t 16) (.seq (.reg false [mvI 17 (.t 5), mvI 4 (.t 17)])
  .ret) .skip))))
  (.reg false [opI 18 (.arith .add (.t 8) (kI 1)), mvI 8 (.t 18)]))))
def L0_slices_IndexFunc_api_Term_api_Term : K := .loop [0, 1, 7, 8] B0_slices_IndexFunc_api_Term_api_Term
def F_slices_IndexFunc_api_Term_api_Term : AFn := ⟨19, [.tmp 4],
  (.seq (.reg false [mvI 4 (kI 0)])
  (.seq (.seq (.reg false [mvI 6 (.t 0), opI 7 (.lenS (.t 6)), mvI 8 (kI 0)])
  (.block 0 L0_slices_IndexFunc_api_Term_api_Term))
  (.seq (.reg false [mvI 4 (kI (-1))])
  .ret))), false⟩
def tbl : List (FuncId × AFn) := [
  (f_law08_EvalTableWide, F_law08_EvalTableWide),
  (f_eval_Table, F_eval_Table),
  (f_law08_live, F_law08_live),
  (f_eval_Eval, F_eval_Eval),
  (f_r08_Assign, F_r08_Assign),
  (f_term_Check, F_term_Check),
  (f_term_Vars, F_term_Vars),
  (f_eval_value, F_eval_value),
  (f_eval_Table_1, F_eval_Table_1),
  (f_law08_leaf, F_law08_leaf),
  (f_law08_number, F_law08_number),
  (f_eval_Fold, F_eval_Fold),
  (f_r06_Same, F_r06_Same),
  (f_eval_Eval_1, F_eval_Eval_1),
  (f_r01_Cut, F_r01_Cut),
  (f_term_measure, F_term_measure),
  (f_term_All, F_term_All),
  (f_term_node, F_term_node),
  (f_term_preorder, F_term_preorder),
  (f_term_Vars_1, F_term_Vars_1),
  (f_term_Vars_1_1, F_term_Vars_1_1),
  (f_slices_ContainsFunc_api_Var_api_Var, F_slices_ContainsFunc_api_Var_api_Var),
  (f_term_Vars_2, F_term_Vars_2),
  (f_strings_Compare, F_strings_Compare),
  (f_bits_Cut, F_bits_Cut),
  (f_eval_compute, F_eval_compute),
  (f_term_Copy, F_term_Copy),
  (f_eval_fold, F_eval_fold),
  (f_r06_SameAll, F_r06_SameAll),
  (f_r01_W, F_r01_W),
  (f_r01_Bit, F_r01_Bit),
  (f_term_All_1, F_term_All_1),
  (f_term_postorder, F_term_postorder),
  (f_term_All_1_1, F_term_All_1_1),
  (f_opinfo_Arity, F_opinfo_Arity),
  (f_opinfo_Pattern, F_opinfo_Pattern),
  (f_term_Name, F_term_Name),
  (f_opinfo_Width, F_opinfo_Width),
  (f_term_widths, F_term_widths),
  (f_slices_IndexFunc_api_Var_api_Var, F_slices_IndexFunc_api_Var_api_Var),
  (f_internal_bytealg_CompareString, F_internal_bytealg_CompareString),
  (f_bits_Mask, F_bits_Mask),
  (f_bits_Not, F_bits_Not),
  (f_bits_Neg, F_bits_Neg),
  (f_bits_Concat, F_bits_Concat),
  (f_bits_Extract, F_bits_Extract),
  (f_bits_Sext, F_bits_Sext),
  (f_eval_binary, F_eval_binary),
  (f_eval_Closed, F_eval_Closed),
  (f_term_Const, F_term_Const),
  (f_eval_fold_1, F_eval_fold_1),
  (f_opinfo_known, F_opinfo_known),
  (f_opinfo_inside, F_opinfo_inside),
  (f_opinfo_leaf, F_opinfo_leaf),
  (f_opinfo_resized, F_opinfo_resized),
  (f_opinfo_agreed, F_opinfo_agreed),
  (f_bits_clamp, F_bits_clamp),
  (f_bits_Signed, F_bits_Signed),
  (f_bits_And, F_bits_And),
  (f_bits_Or, F_bits_Or),
  (f_bits_Xor, F_bits_Xor),
  (f_bits_Add, F_bits_Add),
  (f_bits_Sub, F_bits_Sub),
  (f_bits_Mul, F_bits_Mul),
  (f_bits_Udiv, F_bits_Udiv),
  (f_bits_Urem, F_bits_Urem),
  (f_bits_Shl, F_bits_Shl),
  (f_bits_Lshr, F_bits_Lshr),
  (f_bits_Ashr, F_bits_Ashr),
  (f_eval_word, F_eval_word),
  (f_bits_Ult, F_bits_Ult),
  (f_bits_Slt, F_bits_Slt),
  (f_slices_ContainsFunc_api_Term_api_Term, F_slices_ContainsFunc_api_Term_api_Term),
  (f_eval_Closed_1, F_eval_Closed_1),
  (f_term_clamp, F_term_clamp),
  (f_bits_shift, F_bits_shift),
  (f_bits_flag, F_bits_flag),
  (f_slices_IndexFunc_api_Term_api_Term, F_slices_IndexFunc_api_Term_api_Term)]
def P : Prog := { fn := fun f => tbl.lookup f, prim := fun f => if f = f_slices_SortFunc_api_Var_api_Var then some (primSort 2 f_term_Vars_2 okV ltV) else if f = f_internal_bytealg_abigen_runtime_cmpstring then some (purePrim primCompare) else none }
theorem p_law08_EvalTableWide : P.fn f_law08_EvalTableWide = some F_law08_EvalTableWide := rfl
theorem p_eval_Table : P.fn f_eval_Table = some F_eval_Table := rfl
theorem p_law08_live : P.fn f_law08_live = some F_law08_live := rfl
theorem p_eval_Eval : P.fn f_eval_Eval = some F_eval_Eval := rfl
theorem p_r08_Assign : P.fn f_r08_Assign = some F_r08_Assign := rfl
theorem p_term_Check : P.fn f_term_Check = some F_term_Check := rfl
theorem p_term_Vars : P.fn f_term_Vars = some F_term_Vars := rfl
theorem p_eval_value : P.fn f_eval_value = some F_eval_value := rfl
theorem p_eval_Table_1 : P.fn f_eval_Table_1 = some F_eval_Table_1 := rfl
theorem p_law08_leaf : P.fn f_law08_leaf = some F_law08_leaf := rfl
theorem p_law08_number : P.fn f_law08_number = some F_law08_number := rfl
theorem p_eval_Fold : P.fn f_eval_Fold = some F_eval_Fold := rfl
theorem p_r06_Same : P.fn f_r06_Same = some F_r06_Same := rfl
theorem p_eval_Eval_1 : P.fn f_eval_Eval_1 = some F_eval_Eval_1 := rfl
theorem p_r01_Cut : P.fn f_r01_Cut = some F_r01_Cut := rfl
theorem p_term_measure : P.fn f_term_measure = some F_term_measure := rfl
theorem p_term_All : P.fn f_term_All = some F_term_All := rfl
theorem p_term_node : P.fn f_term_node = some F_term_node := rfl
theorem p_term_preorder : P.fn f_term_preorder = some F_term_preorder := rfl
theorem p_term_Vars_1 : P.fn f_term_Vars_1 = some F_term_Vars_1 := rfl
theorem p_term_Vars_1_1 : P.fn f_term_Vars_1_1 = some F_term_Vars_1_1 := rfl
theorem p_slices_ContainsFunc_api_Var_api_Var : P.fn f_slices_ContainsFunc_api_Var_api_Var = some F_slices_ContainsFunc_api_Var_api_Var := rfl
theorem p_bits_Cut : P.fn f_bits_Cut = some F_bits_Cut := rfl
theorem p_eval_compute : P.fn f_eval_compute = some F_eval_compute := rfl
theorem p_term_Copy : P.fn f_term_Copy = some F_term_Copy := rfl
theorem p_eval_fold : P.fn f_eval_fold = some F_eval_fold := rfl
theorem p_r06_SameAll : P.fn f_r06_SameAll = some F_r06_SameAll := rfl
theorem p_r01_W : P.fn f_r01_W = some F_r01_W := rfl
theorem p_r01_Bit : P.fn f_r01_Bit = some F_r01_Bit := rfl
theorem p_term_All_1 : P.fn f_term_All_1 = some F_term_All_1 := rfl
theorem p_term_postorder : P.fn f_term_postorder = some F_term_postorder := rfl
theorem p_term_All_1_1 : P.fn f_term_All_1_1 = some F_term_All_1_1 := rfl
theorem p_opinfo_Arity : P.fn f_opinfo_Arity = some F_opinfo_Arity := rfl
theorem p_opinfo_Pattern : P.fn f_opinfo_Pattern = some F_opinfo_Pattern := rfl
theorem p_term_Name : P.fn f_term_Name = some F_term_Name := rfl
theorem p_opinfo_Width : P.fn f_opinfo_Width = some F_opinfo_Width := rfl
theorem p_term_widths : P.fn f_term_widths = some F_term_widths := rfl
theorem p_slices_IndexFunc_api_Var_api_Var : P.fn f_slices_IndexFunc_api_Var_api_Var = some F_slices_IndexFunc_api_Var_api_Var := rfl
theorem p_bits_Mask : P.fn f_bits_Mask = some F_bits_Mask := rfl
theorem p_bits_Not : P.fn f_bits_Not = some F_bits_Not := rfl
theorem p_bits_Neg : P.fn f_bits_Neg = some F_bits_Neg := rfl
theorem p_bits_Concat : P.fn f_bits_Concat = some F_bits_Concat := rfl
theorem p_bits_Extract : P.fn f_bits_Extract = some F_bits_Extract := rfl
theorem p_bits_Sext : P.fn f_bits_Sext = some F_bits_Sext := rfl
theorem p_eval_binary : P.fn f_eval_binary = some F_eval_binary := rfl
theorem p_eval_Closed : P.fn f_eval_Closed = some F_eval_Closed := rfl
theorem p_term_Const : P.fn f_term_Const = some F_term_Const := rfl
theorem p_eval_fold_1 : P.fn f_eval_fold_1 = some F_eval_fold_1 := rfl
theorem p_opinfo_known : P.fn f_opinfo_known = some F_opinfo_known := rfl
theorem p_opinfo_inside : P.fn f_opinfo_inside = some F_opinfo_inside := rfl
theorem p_opinfo_leaf : P.fn f_opinfo_leaf = some F_opinfo_leaf := rfl
theorem p_opinfo_resized : P.fn f_opinfo_resized = some F_opinfo_resized := rfl
theorem p_opinfo_agreed : P.fn f_opinfo_agreed = some F_opinfo_agreed := rfl
theorem p_bits_clamp : P.fn f_bits_clamp = some F_bits_clamp := rfl
theorem p_bits_Signed : P.fn f_bits_Signed = some F_bits_Signed := rfl
theorem p_bits_And : P.fn f_bits_And = some F_bits_And := rfl
theorem p_bits_Or : P.fn f_bits_Or = some F_bits_Or := rfl
theorem p_bits_Xor : P.fn f_bits_Xor = some F_bits_Xor := rfl
theorem p_bits_Add : P.fn f_bits_Add = some F_bits_Add := rfl
theorem p_bits_Sub : P.fn f_bits_Sub = some F_bits_Sub := rfl
theorem p_bits_Mul : P.fn f_bits_Mul = some F_bits_Mul := rfl
theorem p_bits_Udiv : P.fn f_bits_Udiv = some F_bits_Udiv := rfl
theorem p_bits_Urem : P.fn f_bits_Urem = some F_bits_Urem := rfl
theorem p_bits_Shl : P.fn f_bits_Shl = some F_bits_Shl := rfl
theorem p_bits_Lshr : P.fn f_bits_Lshr = some F_bits_Lshr := rfl
theorem p_bits_Ashr : P.fn f_bits_Ashr = some F_bits_Ashr := rfl
theorem p_eval_word : P.fn f_eval_word = some F_eval_word := rfl
theorem p_bits_Ult : P.fn f_bits_Ult = some F_bits_Ult := rfl
theorem p_bits_Slt : P.fn f_bits_Slt = some F_bits_Slt := rfl
theorem p_slices_ContainsFunc_api_Term_api_Term : P.fn f_slices_ContainsFunc_api_Term_api_Term = some F_slices_ContainsFunc_api_Term_api_Term := rfl
theorem p_eval_Closed_1 : P.fn f_eval_Closed_1 = some F_eval_Closed_1 := rfl
theorem p_term_clamp : P.fn f_term_clamp = some F_term_clamp := rfl
theorem p_bits_shift : P.fn f_bits_shift = some F_bits_shift := rfl
theorem p_bits_flag : P.fn f_bits_flag = some F_bits_flag := rfl
theorem p_slices_IndexFunc_api_Term_api_Term : P.fn f_slices_IndexFunc_api_Term_api_Term = some F_slices_IndexFunc_api_Term_api_Term := rfl
theorem k0_law08_EvalTableWide : Kp P L0_law08_EvalTableWide [1, 5, 6, 7] := loop_kept
theorem k0_eval_Table : Kp P L0_eval_Table [1, 2, 7, 30, 31, 32] := loop_kept
theorem k1_eval_Table : Kp P L1_eval_Table [1, 2, 7, 51, 52, 53] := loop_kept
theorem k2_eval_Table : Kp P L2_eval_Table [1, 2, 7, 16, 77, 78, 79] := loop_kept
theorem k3_eval_Table : Kp P L3_eval_Table [2, 7, 16, 19, 95, 96, 97] := loop_kept
theorem k4_eval_Table : Kp P L4_eval_Table [2, 7, 19, 22, 117, 118] := loop_kept
theorem k0_eval_Eval : Kp P L0_eval_Eval [2, 7, 22, 23, 24] := loop_kept
theorem k1_eval_Eval : Kp P L1_eval_Eval [2, 7, 44, 45, 46] := loop_kept
theorem k0_r08_Assign : Kp P L0_r08_Assign [0, 1, 5, 6] := loop_kept
theorem k0_eval_value : Kp P L0_eval_value [1, 2, 6, 20, 21, 22] := loop_kept
theorem k0_r01_Cut : Kp P L0_r01_Cut [1, 5, 8, 9] := loop_kept
theorem k0_term_measure : Kp P L0_term_measure [1, 2, 21, 22, 23] := loop_kept
theorem k0_term_preorder : Kp P L0_term_preorder [1, 12, 13, 14] := loop_kept
theorem k0_term_Copy : Kp P L0_term_Copy [2, 3, 9, 10, 11] := loop_kept
theorem k0_eval_fold : Kp P L0_eval_fold [2, 3, 16, 17, 18] := loop_kept
theorem k0_r06_SameAll : Kp P L0_r06_SameAll [0, 1, 5] := loop_kept
theorem k0_term_postorder : Kp P L0_term_postorder [1, 2, 8, 9, 10] := loop_kept
theorem k0_term_Name : Kp P L0_term_Name [0, 24, 25] := loop_kept
theorem k0_opinfo_Width : Kp P L0_opinfo_Width [0, 1, 2, 3, 22, 23, 24] := loop_kept
theorem k0_term_widths : Kp P L0_term_widths [3, 9, 10, 11] := loop_kept
theorem k0_slices_IndexFunc_api_Var_api_Var : Kp P L0_slices_IndexFunc_api_Var_api_Var [0, 1, 7, 8] := loop_kept
theorem k0_slices_IndexFunc_api_Term_api_Term : Kp P L0_slices_IndexFunc_api_Term_api_Term [0, 1, 7, 8] := loop_kept
theorem kR0_term_Check {τ : Tm} {σ : Store} {nt : Nat} {rd : Option Nat} : exec P R0_term_Check ⟨τ, σ, nt, rd⟩ = rangeK τ nt rd (rangeR P [21] A0_term_Check B0_term_Check ((O.t 20).val τ) (τ.kept [2, 5, 6]) σ nt rd) := range_go
theorem r_law08_EvalTableWide : Rp P f_law08_EvalTableWide 112 [.tmp 4] F_law08_EvalTableWide := fun h => R_go p_law08_EvalTableWide h
theorem q_eval_Table : Qp P f_eval_Table := callF_pure p_eval_Table rfl rfl
theorem r_eval_Table : Rp P f_eval_Table 129 [.tmp 4, .tmp 5] F_eval_Table := fun h => R_go p_eval_Table h
theorem q_law08_live : Qp P f_law08_live := callF_pure p_law08_live rfl rfl
theorem r_law08_live : Rp P f_law08_live 46 [.tmp 0] F_law08_live := fun h => R_go p_law08_live h
theorem q_eval_Eval : Qp P f_eval_Eval := callF_pure p_eval_Eval rfl rfl
theorem r_eval_Eval : Rp P f_eval_Eval 63 [.tmp 4, .tmp 5] F_eval_Eval := fun h => R_go p_eval_Eval h
theorem q_r08_Assign : Qp P f_r08_Assign := callF_pure p_r08_Assign rfl rfl
theorem r_r08_Assign : Rp P f_r08_Assign 38 [.tmp 4] F_r08_Assign := fun h => R_go p_r08_Assign h
theorem q_term_Check : Qp P f_term_Check := callF_pure p_term_Check rfl rfl
theorem r_term_Check : Rp P f_term_Check 53 [.cell 2 1 false] F_term_Check := fun h => R_go p_term_Check h
theorem q_term_Vars : Qp P f_term_Vars := callF_pure p_term_Vars rfl rfl
theorem r_term_Vars : Rp P f_term_Vars 10 [.tmp 2] F_term_Vars := fun h => R_go p_term_Vars h
theorem q_eval_value : Qp P f_eval_value := callF_pure p_eval_value rfl rfl
theorem r_eval_value : Rp P f_eval_value 44 [.tmp 4] F_eval_value := fun h => R_go p_eval_value h
theorem q_eval_Table_1 : Qp P f_eval_Table_1 := callF_pure p_eval_Table_1 rfl rfl
theorem r_eval_Table_1 : Rp P f_eval_Table_1 16 [.tmp 5] F_eval_Table_1 := fun h => R_go p_eval_Table_1 h
theorem q_law08_leaf : Qp P f_law08_leaf := callF_pure p_law08_leaf rfl rfl
theorem r_law08_leaf : Rp P f_law08_leaf 5 [.cell 2 5 true] F_law08_leaf := fun h => R_go p_law08_leaf h
theorem q_law08_number : Qp P f_law08_number := callF_pure p_law08_number rfl rfl
theorem r_law08_number : Rp P f_law08_number 5 [.cell 2 5 true] F_law08_number := fun h => R_go p_law08_number h
theorem q_eval_Fold : Qp P f_eval_Fold := callF_pure p_eval_Fold rfl rfl
theorem r_eval_Fold : Rp P f_eval_Fold 10 [.cell 2 5 true] F_eval_Fold := fun h => R_go p_eval_Fold h
theorem q_r06_Same : Qp P f_r06_Same := callF_pure p_r06_Same rfl rfl
theorem r_r06_Same : Rp P f_r06_Same 38 [.tmp 4] F_r06_Same := fun h => R_go p_r06_Same h
theorem q_eval_Eval_1 : Qp P f_eval_Eval_1 := callF_pure p_eval_Eval_1 rfl rfl
theorem r_eval_Eval_1 : Rp P f_eval_Eval_1 8 [.tmp 3] F_eval_Eval_1 := fun h => R_go p_eval_Eval_1 h
theorem q_r01_Cut : Qp P f_r01_Cut := callF_pure p_r01_Cut rfl rfl
theorem r_r01_Cut : Rp P f_r01_Cut 22 [.tmp 4] F_r01_Cut := fun h => R_go p_r01_Cut h
theorem q_term_measure : Qp P f_term_measure := callF_pure p_term_measure rfl rfl
theorem r_term_measure : Rp P f_term_measure 40 [.tmp 6, .tmp 7] F_term_measure := fun h => R_go p_term_measure h
theorem q_term_All : Qp P f_term_All := callF_pure p_term_All rfl rfl
theorem r_term_All : Rp P f_term_All 4 [.tmp 2] F_term_All := fun h => R_go p_term_All h
theorem q_term_node : Qp P f_term_node := callF_pure p_term_node rfl rfl
theorem r_term_node : Rp P f_term_node 82 [.tmp 2] F_term_node := fun h => R_go p_term_node h
theorem q_term_preorder : Qi P f_term_preorder F_term_preorder := callF_imp p_term_preorder rfl rfl
theorem q_term_Vars_1 : Qi P f_term_Vars_1 F_term_Vars_1 := callF_imp p_term_Vars_1 rfl rfl
theorem q_term_Vars_1_1 : Qp P f_term_Vars_1_1 := callF_pure p_term_Vars_1_1 rfl rfl
theorem r_term_Vars_1_1 : Rp P f_term_Vars_1_1 9 [.tmp 3] F_term_Vars_1_1 := fun h => R_go p_term_Vars_1_1 h
theorem q_slices_ContainsFunc_api_Var_api_Var : Qp P f_slices_ContainsFunc_api_Var_api_Var := callF_pure p_slices_ContainsFunc_api_Var_api_Var rfl rfl
theorem r_slices_ContainsFunc_api_Var_api_Var : Rp P f_slices_ContainsFunc_api_Var_api_Var 9 [.tmp 4] F_slices_ContainsFunc_api_Var_api_Var := fun h => R_go p_slices_ContainsFunc_api_Var_api_Var h
theorem q_bits_Cut : Qp P f_bits_Cut := callF_pure p_bits_Cut rfl rfl
theorem r_bits_Cut : Rp P f_bits_Cut 9 [.tmp 4] F_bits_Cut := fun h => R_go p_bits_Cut h
theorem q_eval_compute : Qp P f_eval_compute := callF_pure p_eval_compute rfl rfl
theorem r_eval_compute : Rp P f_eval_compute 105 [.tmp 8] F_eval_compute := fun h => R_go p_eval_compute h
theorem q_term_Copy : Qp P f_term_Copy := callF_pure p_term_Copy rfl rfl
theorem r_term_Copy : Rp P f_term_Copy 24 [.cell 2 5 true] F_term_Copy := fun h => R_go p_term_Copy h
theorem q_eval_fold : Qp P f_eval_fold := callF_pure p_eval_fold rfl rfl
theorem r_eval_fold : Rp P f_eval_fold 31 [.cell 2 5 true] F_eval_fold := fun h => R_go p_eval_fold h
theorem q_r06_SameAll : Qp P f_r06_SameAll := callF_pure p_r06_SameAll rfl rfl
theorem r_r06_SameAll : Rp P f_r06_SameAll 27 [.tmp 4] F_r06_SameAll := fun h => R_go p_r06_SameAll h
theorem q_r01_W : Qp P f_r01_W := callF_pure p_r01_W rfl rfl
theorem r_r01_W : Rp P f_r01_W 6 [.tmp 2] F_r01_W := fun h => R_go p_r01_W h
theorem q_r01_Bit : Qp P f_r01_Bit := callF_pure p_r01_Bit rfl rfl
theorem r_r01_Bit : Rp P f_r01_Bit 16 [.tmp 4] F_r01_Bit := fun h => R_go p_r01_Bit h
theorem q_term_postorder : Qi P f_term_postorder F_term_postorder := callF_imp p_term_postorder rfl rfl
theorem q_term_All_1_1 : Qi P f_term_All_1_1 F_term_All_1_1 := callF_imp p_term_All_1_1 rfl rfl
theorem q_opinfo_Arity : Qp P f_opinfo_Arity := callF_pure p_opinfo_Arity rfl rfl
theorem r_opinfo_Arity : Rp P f_opinfo_Arity 42 [.tmp 2] F_opinfo_Arity := fun h => R_go p_opinfo_Arity h
theorem q_opinfo_Pattern : Qp P f_opinfo_Pattern := callF_pure p_opinfo_Pattern rfl rfl
theorem r_opinfo_Pattern : Rp P f_opinfo_Pattern 9 [.tmp 2] F_opinfo_Pattern := fun h => R_go p_opinfo_Pattern h
theorem q_term_Name : Qp P f_term_Name := callF_pure p_term_Name rfl rfl
theorem r_term_Name : Rp P f_term_Name 50 [.tmp 2] F_term_Name := fun h => R_go p_term_Name h
theorem q_opinfo_Width : Qp P f_opinfo_Width := callF_pure p_opinfo_Width rfl rfl
theorem r_opinfo_Width : Rp P f_opinfo_Width 144 [.tmp 8, .tmp 9] F_opinfo_Width := fun h => R_go p_opinfo_Width h
theorem q_term_widths : Qp P f_term_widths := callF_pure p_term_widths rfl rfl
theorem r_term_widths : Rp P f_term_widths 23 [.tmp 2] F_term_widths := fun h => R_go p_term_widths h
theorem q_slices_IndexFunc_api_Var_api_Var : Qp P f_slices_IndexFunc_api_Var_api_Var := callF_pure p_slices_IndexFunc_api_Var_api_Var rfl rfl
theorem r_slices_IndexFunc_api_Var_api_Var : Rp P f_slices_IndexFunc_api_Var_api_Var 19 [.tmp 4] F_slices_IndexFunc_api_Var_api_Var := fun h => R_go p_slices_IndexFunc_api_Var_api_Var h
theorem q_bits_Mask : Qp P f_bits_Mask := callF_pure p_bits_Mask rfl rfl
theorem r_bits_Mask : Rp P f_bits_Mask 7 [.tmp 2] F_bits_Mask := fun h => R_go p_bits_Mask h
theorem q_bits_Not : Qp P f_bits_Not := callF_pure p_bits_Not rfl rfl
theorem r_bits_Not : Rp P f_bits_Not 9 [.tmp 4] F_bits_Not := fun h => R_go p_bits_Not h
theorem q_bits_Neg : Qp P f_bits_Neg := callF_pure p_bits_Neg rfl rfl
theorem r_bits_Neg : Rp P f_bits_Neg 9 [.tmp 4] F_bits_Neg := fun h => R_go p_bits_Neg h
theorem q_bits_Concat : Qp P f_bits_Concat := callF_pure p_bits_Concat rfl rfl
theorem r_bits_Concat : Rp P f_bits_Concat 19 [.tmp 8] F_bits_Concat := fun h => R_go p_bits_Concat h
theorem q_bits_Extract : Qp P f_bits_Extract := callF_pure p_bits_Extract rfl rfl
theorem r_bits_Extract : Rp P f_bits_Extract 14 [.tmp 6] F_bits_Extract := fun h => R_go p_bits_Extract h
theorem q_bits_Sext : Qp P f_bits_Sext := callF_pure p_bits_Sext rfl rfl
theorem r_bits_Sext : Rp P f_bits_Sext 13 [.tmp 6] F_bits_Sext := fun h => R_go p_bits_Sext h
theorem q_eval_binary : Qp P f_eval_binary := callF_pure p_eval_binary rfl rfl
theorem r_eval_binary : Rp P f_eval_binary 95 [.tmp 8] F_eval_binary := fun h => R_go p_eval_binary h
theorem q_eval_Closed : Qp P f_eval_Closed := callF_pure p_eval_Closed rfl rfl
theorem r_eval_Closed : Rp P f_eval_Closed 12 [.tmp 2] F_eval_Closed := fun h => R_go p_eval_Closed h
theorem q_term_Const : Qp P f_term_Const := callF_pure p_term_Const rfl rfl
theorem r_term_Const : Rp P f_term_Const 18 [.cell 4 5 true] F_term_Const := fun h => R_go p_term_Const h
theorem q_eval_fold_1 : Qp P f_eval_fold_1 := callF_pure p_eval_fold_1 rfl rfl
theorem r_eval_fold_1 : Rp P f_eval_fold_1 3 [.tmp 2] F_eval_fold_1 := fun h => R_go p_eval_fold_1 h
theorem q_opinfo_known : Qp P f_opinfo_known := callF_pure p_opinfo_known rfl rfl
theorem r_opinfo_known : Rp P f_opinfo_known 9 [.tmp 2] F_opinfo_known := fun h => R_go p_opinfo_known h
theorem q_opinfo_inside : Qp P f_opinfo_inside := callF_pure p_opinfo_inside rfl rfl
theorem r_opinfo_inside : Rp P f_opinfo_inside 9 [.tmp 2] F_opinfo_inside := fun h => R_go p_opinfo_inside h
theorem q_opinfo_leaf : Qp P f_opinfo_leaf := callF_pure p_opinfo_leaf rfl rfl
theorem r_opinfo_leaf : Rp P f_opinfo_leaf 26 [.tmp 6, .tmp 7] F_opinfo_leaf := fun h => R_go p_opinfo_leaf h
theorem q_opinfo_resized : Qp P f_opinfo_resized := callF_pure p_opinfo_resized rfl rfl
theorem r_opinfo_resized : Rp P f_opinfo_resized 45 [.tmp 8, .tmp 9] F_opinfo_resized := fun h => R_go p_opinfo_resized h
theorem q_opinfo_agreed : Qp P f_opinfo_agreed := callF_pure p_opinfo_agreed rfl rfl
theorem r_opinfo_agreed : Rp P f_opinfo_agreed 9 [.tmp 4, .tmp 5] F_opinfo_agreed := fun h => R_go p_opinfo_agreed h
theorem q_bits_clamp : Qp P f_bits_clamp := callF_pure p_bits_clamp rfl rfl
theorem r_bits_clamp : Rp P f_bits_clamp 6 [.tmp 2] F_bits_clamp := fun h => R_go p_bits_clamp h
theorem q_bits_Signed : Qp P f_bits_Signed := callF_pure p_bits_Signed rfl rfl
theorem r_bits_Signed : Rp P f_bits_Signed 15 [.tmp 4] F_bits_Signed := fun h => R_go p_bits_Signed h
theorem q_bits_And : Qp P f_bits_And := callF_pure p_bits_And rfl rfl
theorem r_bits_And : Rp P f_bits_And 12 [.tmp 6] F_bits_And := fun h => R_go p_bits_And h
theorem q_bits_Or : Qp P f_bits_Or := callF_pure p_bits_Or rfl rfl
theorem r_bits_Or : Rp P f_bits_Or 12 [.tmp 6] F_bits_Or := fun h => R_go p_bits_Or h
theorem q_bits_Xor : Qp P f_bits_Xor := callF_pure p_bits_Xor rfl rfl
theorem r_bits_Xor : Rp P f_bits_Xor 12 [.tmp 6] F_bits_Xor := fun h => R_go p_bits_Xor h
theorem q_bits_Add : Qp P f_bits_Add := callF_pure p_bits_Add rfl rfl
theorem r_bits_Add : Rp P f_bits_Add 12 [.tmp 6] F_bits_Add := fun h => R_go p_bits_Add h
theorem q_bits_Sub : Qp P f_bits_Sub := callF_pure p_bits_Sub rfl rfl
theorem r_bits_Sub : Rp P f_bits_Sub 12 [.tmp 6] F_bits_Sub := fun h => R_go p_bits_Sub h
theorem q_bits_Mul : Qp P f_bits_Mul := callF_pure p_bits_Mul rfl rfl
theorem r_bits_Mul : Rp P f_bits_Mul 12 [.tmp 6] F_bits_Mul := fun h => R_go p_bits_Mul h
theorem q_bits_Udiv : Qp P f_bits_Udiv := callF_pure p_bits_Udiv rfl rfl
theorem r_bits_Udiv : Rp P f_bits_Udiv 22 [.tmp 6] F_bits_Udiv := fun h => R_go p_bits_Udiv h
theorem q_bits_Urem : Qp P f_bits_Urem := callF_pure p_bits_Urem rfl rfl
theorem r_bits_Urem : Rp P f_bits_Urem 21 [.tmp 6] F_bits_Urem := fun h => R_go p_bits_Urem h
theorem q_bits_Shl : Qp P f_bits_Shl := callF_pure p_bits_Shl rfl rfl
theorem r_bits_Shl : Rp P f_bits_Shl 11 [.tmp 6] F_bits_Shl := fun h => R_go p_bits_Shl h
theorem q_bits_Lshr : Qp P f_bits_Lshr := callF_pure p_bits_Lshr rfl rfl
theorem r_bits_Lshr : Rp P f_bits_Lshr 11 [.tmp 6] F_bits_Lshr := fun h => R_go p_bits_Lshr h
theorem q_bits_Ashr : Qp P f_bits_Ashr := callF_pure p_bits_Ashr rfl rfl
theorem r_bits_Ashr : Rp P f_bits_Ashr 11 [.tmp 6] F_bits_Ashr := fun h => R_go p_bits_Ashr h
theorem q_eval_word : Qp P f_eval_word := callF_pure p_eval_word rfl rfl
theorem r_eval_word : Rp P f_eval_word 10 [.cell 4 2 true] F_eval_word := fun h => R_go p_eval_word h
theorem q_bits_Ult : Qp P f_bits_Ult := callF_pure p_bits_Ult rfl rfl
theorem r_bits_Ult : Rp P f_bits_Ult 15 [.tmp 6] F_bits_Ult := fun h => R_go p_bits_Ult h
theorem q_bits_Slt : Qp P f_bits_Slt := callF_pure p_bits_Slt rfl rfl
theorem r_bits_Slt : Rp P f_bits_Slt 15 [.tmp 6] F_bits_Slt := fun h => R_go p_bits_Slt h
theorem q_slices_ContainsFunc_api_Term_api_Term : Qp P f_slices_ContainsFunc_api_Term_api_Term := callF_pure p_slices_ContainsFunc_api_Term_api_Term rfl rfl
theorem r_slices_ContainsFunc_api_Term_api_Term : Rp P f_slices_ContainsFunc_api_Term_api_Term 9 [.tmp 4] F_slices_ContainsFunc_api_Term_api_Term := fun h => R_go p_slices_ContainsFunc_api_Term_api_Term h
theorem q_eval_Closed_1 : Qp P f_eval_Closed_1 := callF_pure p_eval_Closed_1 rfl rfl
theorem r_eval_Closed_1 : Rp P f_eval_Closed_1 6 [.tmp 2] F_eval_Closed_1 := fun h => R_go p_eval_Closed_1 h
theorem q_term_clamp : Qp P f_term_clamp := callF_pure p_term_clamp rfl rfl
theorem r_term_clamp : Rp P f_term_clamp 6 [.tmp 2] F_term_clamp := fun h => R_go p_term_clamp h
theorem q_bits_shift : Qp P f_bits_shift := callF_pure p_bits_shift rfl rfl
theorem r_bits_shift : Rp P f_bits_shift 53 [.tmp 8] F_bits_shift := fun h => R_go p_bits_shift h
theorem q_bits_flag : Qp P f_bits_flag := callF_pure p_bits_flag rfl rfl
theorem r_bits_flag : Rp P f_bits_flag 4 [.tmp 2] F_bits_flag := fun h => R_go p_bits_flag h
theorem q_slices_IndexFunc_api_Term_api_Term : Qp P f_slices_IndexFunc_api_Term_api_Term := callF_pure p_slices_IndexFunc_api_Term_api_Term rfl rfl
theorem r_slices_IndexFunc_api_Term_api_Term : Rp P f_slices_IndexFunc_api_Term_api_Term 19 [.tmp 4] F_slices_IndexFunc_api_Term_api_Term := fun h => R_go p_slices_IndexFunc_api_Term_api_Term h
theorem q_slices_SortFunc_api_Var_api_Var {args : List AV} {σ : Store} : callF P f_slices_SortFunc_api_Var_api_Var args σ = (primSort 2 f_term_Vars_2 okV ltV) args σ := callF_prim rfl
end
end Go.AE.S
