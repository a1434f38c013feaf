import Derived.Test.YtiinicliedpmjaaGreatP0
namespace Go.AE.S
open Go Go.AE
noncomputable section
def bs (l:List Nat):ByteArray:=⟨(l.map UInt8.ofNat).toArray⟩
def f_law11_ExhaustWitness:FuncId:=7
def f_r11_Few:FuncId:=12
def f_law11_live:FuncId:=13
def f_exhaust_Vars:FuncId:=14
def f_r11_Vars:FuncId:=15
def f_r11_Small:FuncId:=17
def f_exhaust_Equal:FuncId:=18
def f_exhaust_Valid:FuncId:=21
def f_exhaust_Sat:FuncId:=23
def f_exhaust_Count:FuncId:=25
def f_r08_Eval:FuncId:=27
def f_law11_two:FuncId:=31
def f_r08_Bits:FuncId:=33
def f_r06_Light:FuncId:=34
def f_term_Check:FuncId:=35
def f_term_Vars:FuncId:=36
def f_slices_SortFunc_api_Var_api_Var:FuncId:=37
def f_exhaust_Vars_1:FuncId:=38
def f_cmp_Or_int:FuncId:=39
def f_cmp_Compare_string:FuncId:=40
def f_cmp_Compare_int:FuncId:=41
def f_slices_Compact_api_Var_api_Var:FuncId:=42
def f_r06_Check:FuncId:=43
def f_r11_all:FuncId:=44
def f_slices_Clone_api_Term_api_Term:FuncId:=45
def f_slices_ContainsFunc_api_Term_api_Term:FuncId:=46
def f_exhaust_Valid_1:FuncId:=47
def f_exhaust_tables:FuncId:=48
def f_exhaust_assignments:FuncId:=49
def f_exhaust_condition:FuncId:=54
def f_r08_Value:FuncId:=55
def f_r06_count:FuncId:=56
def f_term_measure:FuncId:=57
def f_term_All:FuncId:=58
def f_term_node:FuncId:=59
def f_term_preorder:FuncId:=60
def f_term_Vars_1:FuncId:=61
def f_term_Vars_1_1:FuncId:=62
def f_slices_ContainsFunc_api_Var_api_Var:FuncId:=63
def f_term_Vars_2:FuncId:=64
def f_strings_Compare:FuncId:=65
def f_cmp_isNaN_string:FuncId:=68
def f_cmp_isNaN_int:FuncId:=69
def f_r06_nodes:FuncId:=70
def f_r06_Post:FuncId:=71
def f_r06_Vars:FuncId:=72
def f_slices_IndexFunc_api_Term_api_Term:FuncId:=73
def f_eval_Table:FuncId:=74
def f_exhaust_assignments_1:FuncId:=75
def f_exhaust_assignments_1_1:FuncId:=76
def f_r01_Cut:FuncId:=77
def f_r08_Look:FuncId:=78
def f_r08_value:FuncId:=79
def f_term_All_1:FuncId:=80
def f_term_postorder:FuncId:=81
def f_term_All_1_1:FuncId:=82
def f_term_Copy:FuncId:=83
def f_opinfo_Arity:FuncId:=84
def f_opinfo_Pattern:FuncId:=85
def f_term_Name:FuncId:=86
def f_opinfo_Width:FuncId:=87
def f_term_widths:FuncId:=88
def f_slices_IndexFunc_api_Var_api_Var:FuncId:=89
def f_internal_bytealg_CompareString:FuncId:=90
def f_r06_Node:FuncId:=101
def f_r06_Pre:FuncId:=102
def f_eval_value:FuncId:=103
def f_eval_Table_1:FuncId:=104
def f_r01_W:FuncId:=105
def f_r01_Bit:FuncId:=106
def f_r08_one:FuncId:=107
def f_r01_Concat:FuncId:=108
def f_r08_two:FuncId:=109
def f_opinfo_known:FuncId:=110
def f_opinfo_inside:FuncId:=111
def f_opinfo_leaf:FuncId:=112
def f_opinfo_resized:FuncId:=113
def f_opinfo_agreed:FuncId:=114
def f_internal_bytealg_abigen_runtime_cmpstring:FuncId:=115
def f_r04_Arity:FuncId:=121
def f_r04_Pattern:FuncId:=122
def f_r06_Name:FuncId:=123
def f_r04_Width:FuncId:=124
def f_r06_Widths:FuncId:=125
def f_bits_Cut:FuncId:=126
def f_eval_compute:FuncId:=127
def f_r01_Not:FuncId:=128
def f_r01_Neg:FuncId:=129
def f_r01_Extract:FuncId:=130
def f_r01_Sext:FuncId:=131
def f_r01_And:FuncId:=132
def f_r01_Or:FuncId:=133
def f_r01_Xor:FuncId:=134
def f_r01_Add:FuncId:=135
def f_r01_Sub:FuncId:=136
def f_r01_Mul:FuncId:=137
def f_r01_Udiv:FuncId:=138
def f_r01_Urem:FuncId:=139
def f_r01_Shl:FuncId:=140
def f_r01_Lshr:FuncId:=141
def f_r01_Ashr:FuncId:=142
def f_r01_Eq:FuncId:=143
def f_r01_Ult:FuncId:=144
def f_r01_Slt:FuncId:=145
def f_r04_Leaf:FuncId:=147
def f_r04_Is:FuncId:=148
def f_r04_width:FuncId:=149
def f_r04_leaf:FuncId:=150
def f_r04_parts:FuncId:=151
def f_bits_Mask:FuncId:=152
def f_bits_Not:FuncId:=153
def f_bits_Neg:FuncId:=154
def f_bits_Concat:FuncId:=155
def f_bits_Extract:FuncId:=156
def f_bits_Sext:FuncId:=157
def f_eval_binary:FuncId:=158
def f_r01_Mask:FuncId:=159
def f_r01_divide:FuncId:=160
def f_r01_shift:FuncId:=161
def f_r01_by:FuncId:=162
def f_r01_truth:FuncId:=163
def f_r01_Signed:FuncId:=164
def f_bits_clamp:FuncId:=165
def f_bits_Signed:FuncId:=166
def f_bits_And:FuncId:=167
def f_bits_Or:FuncId:=168
def f_bits_Xor:FuncId:=169
def f_bits_Add:FuncId:=170
def f_bits_Sub:FuncId:=171
def f_bits_Mul:FuncId:=172
def f_bits_Udiv:FuncId:=173
def f_bits_Urem:FuncId:=174
def f_bits_Shl:FuncId:=175
def f_bits_Lshr:FuncId:=176
def f_bits_Ashr:FuncId:=177
def f_eval_word:FuncId:=178
def f_bits_Ult:FuncId:=179
def f_bits_Slt:FuncId:=180
def f_r01_Negative:FuncId:=181
def f_bits_shift:FuncId:=182
def f_bits_flag:FuncId:=183
def F_law11_ExhaustWitness:AFn:=⟨103,[.tmp 6],
  (.seq (.reg false [opI 3 (.box 5 true (.t 0) true),opI 4 (.box 5 true (.t 1) true),mvI 6 (.c (.p (.bool false)))])
  (.seq (.reg false [opI 19 (.load 5 true (.t 3)),opI 20 (.load 5 true (.t 4)),opI 21 (.bslice 5 [(.p (.int .i64 0)),(.p (.int .i64 0)),(.p (.int .u64 0)),(.p (.str (bs []))),.nils] 2 [(0,5,(.t 19)),(1,5,(.t 20))]),mvI 7 (.t 21)])
  (.seq (.seq (.reg false [mvI 22 (.t 7),opI 23 (.callf f_r11_Small [(.t 22)]),opI 24 (.not (.t 23))])
  (.cond (.t 24) (.seq (.reg false [opI 25 (.callf f_law11_live []),mvI 6 (.t 25)])
  .ret) .skip))
  (.seq (.reg false [opI 27 (.load 5 true (.t 3)),opI 28 (.load 5 true (.t 4)),opI 29 (.callf f_exhaust_Equal [(.t 27),(.t 28)]),mvI 26 (.t 29),opI 30 (.extract (.t 26) 0),opI 31 (.extract (.t 26) 1),opI 32 (.extract (.t 26) 2),mvI 8 (.t 30),mvI 9 (.t 31),mvI 10 (.t 32)])
  (.seq (.seq (.reg false [mvI 33 (.t 10),opI 34 (.arith .neq (.t 33) (kI 0))])
  (.cond (.t 34) (.seq (.reg false [mvI 35 (.t 8),opI 36 (.not (.t 35)),mvI 37 (.t 36),⟨some 38,.mv (.t 9) false,some (37,true)⟩,⟨some 39,.lenS (.t 38),some (37,true)⟩,⟨some 40,.arith .eql (.t 39) (kI 0),some (37,true)⟩,opI 41 (.pick (.t 37) (.t 40) (.c (.p (.bool false)))),mvI 42 (.t 41),⟨some 43,.callf f_law11_live [],some (42,true)⟩,opI 44 (.pick (.t 42) (.t 43) (.c (.p (.bool false)))),mvI 6 (.t 44)])
  .ret) .skip))
  (.seq (.seq (.reg false [mvI 45 (.t 8)])
  (.cond (.t 45) (.seq (.reg false [opI 47 (.load 5 true (.t 3)),mvI 48 (.t 2),opI 49 (.callf f_r08_Eval [(.t 47),(.t 48)]),mvI 46 (.t 49),opI 50 (.extract (.t 46) 0),opI 51 (.extract (.t 46) 1),mvI 11 (.t 50),mvI 12 (.t 51)])
  (.seq (.reg false [opI 53 (.load 5 true (.t 4)),mvI 54 (.t 2),opI 55 (.callf f_r08_Eval [(.t 53),(.t 54)]),mvI 52 (.t 55),opI 56 (.extract (.t 52) 0),opI 57 (.extract (.t 52) 1),mvI 13 (.t 56),mvI 14 (.t 57)])
  (.seq (.reg false [mvI 58 (.t 12),opI 59 (.arith .neq (.t 58) (kI 0)),mvI 60 (.t 59),⟨some 61,.mv (.t 14) false,some (60,false)⟩,⟨some 62,.arith .neq (.t 61) (kI 0),some (60,false)⟩,opI 63 (.pick (.t 60) (.c (.p (.bool true))) (.t 62)),mvI 64 (.t 63),⟨some 65,.mv (.t 11) false,some (64,false)⟩,⟨some 66,.mv (.t 13) false,some (64,false)⟩,⟨some 67,.arith .eql (.t 65) (.t 66),some (64,false)⟩,opI 68 (.pick (.t 64) (.c (.p (.bool true))) (.t 67)),mvI 69 (.t 68),⟨some 70,.mv (.t 9) false,some (69,true)⟩,⟨some 71,.lenS (.t 70),some (69,true)⟩,⟨some 72,.arith .eql (.t 71) (kI 0),some (69,true)⟩,opI 73 (.pick (.t 69) (.t 72) (.c (.p (.bool false)))),mvI 74 (.t 73),⟨some 75,.callf f_law11_live [],some (74,true)⟩,opI 76 (.pick (.t 74) (.t 75) (.c (.p (.bool false)))),mvI 6 (.t 76)])
  .ret))) .skip))
  (.seq (.reg false [opI 78 (.load 5 true (.t 3)),mvI 79 (.t 9),opI 80 (.callf f_r08_Eval [(.t 78),(.t 79)]),mvI 77 (.t 80),opI 81 (.extract (.t 77) 0),opI 82 (.extract (.t 77) 1),mvI 15 (.t 81),mvI 16 (.t 82)])
  (.seq (.reg false [opI 84 (.load 5 true (.t 4)),mvI 85 (.t 9),opI 86 (.callf f_r08_Eval [(.t 84),(.t 85)]),mvI 83 (.t 86),opI 87 (.extract (.t 83) 0),opI 88 (.extract (.t 83) 1),mvI 17 (.t 87),mvI 18 (.t 88)])
  (.seq (.reg false [mvI 89 (.t 16),opI 90 (.arith .eql (.t 89) (kI 0)),mvI 91 (.t 90),⟨some 92,.mv (.t 18) false,some (91,true)⟩,⟨some 93,.arith .eql (.t 92) (kI 0),some (91,true)⟩,opI 94 (.pick (.t 91) (.t 93) (.c (.p (.bool false)))),mvI 95 (.t 94),⟨some 96,.mv (.t 15) false,some (95,true)⟩,⟨some 97,.mv (.t 17) false,some (95,true)⟩,⟨some 98,.arith .neq (.t 96) (.t 97),some (95,true)⟩,opI 99 (.pick (.t 95) (.t 98) (.c (.p (.bool false)))),mvI 100 (.t 99),⟨some 101,.callf f_law11_live [],some (100,true)⟩,opI 102 (.pick (.t 100) (.t 101) (.c (.p (.bool false)))),mvI 6 (.t 102)])
  .ret))))))))),false⟩
def B0_r11_Few:K :=
  (.seq (.seq (.reg false [mvI 6 (.t 3),mvI 7 (.t 0),opI 8 (.lenS (.t 7)),opI 9 (.arith .lss (.t 6) (.t 8))])
  (.cond (.t 9) .skip (.exit 0)))
  (.seq (.block 1 (.seq (.reg false [mvI 13 (.t 0),mvI 14 (.t 3),opI 15 (.iadrS 5 (.t 13) (.t 14)),opI 16 (.load 5 true (.t 15)),opI 17 (.callf f_r06_Light [(.t 16),(kI 66),(kI 40)]),mvI 12 (.t 17),opI 18 (.extract (.t 12) 0),opI 19 (.extract (.t 12) 1),opI 4 (.init 5 true (.t 18) true),mvI 5 (.t 19)])
  (.seq (.reg false [mvI 20 (.t 5),opI 21 (.not (.t 20))])
  (.cond (.t 21) (.seq (.reg false [mvI 2 (.c (.p (.bool false)))])
  .ret) .skip))))
  (.reg false [mvI 10 (.t 3),opI 11 (.arith .add (.t 10) (kI 1)),mvI 3 (.t 11)])))
def L0_r11_Few:K:=.loop [0,3] B0_r11_Few
def F_r11_Few:AFn:=⟨25,[.tmp 2],
  (.seq (.reg false [mvI 2 (.c (.p (.bool false)))])
  (.seq (.seq (.reg false [mvI 3 (kI 0)])
  (.block 0 L0_r11_Few))
  (.seq (.reg false [mvI 22 (.t 0),opI 23 (.lenS (.t 22)),opI 24 (.arith .leq (.t 23) (kI 6)),mvI 2 (.t 24)])
  .ret))),false⟩
def F_law11_live:AFn:=⟨136,[.tmp 0],
  (.seq (.reg false [mvI 0 (.c (.p (.bool false)))])
  (.seq (.reg false [opI 20 (.build [(.p (.int .i64 0)),(.p (.int .i64 0)),(.p (.int .u64 0)),(.p (.str (bs []))),.nils] [(0,1,(kI 1)),(1,1,(kI 4)),(3,1,(.c (.p (.str (bs [120])))))]),opI 1 (.init 5 true (.t 20) false)])
  (.seq (.reg true [opI 22 (.load 5 true (.t 1)),opI 23 (.load 5 true (.t 1)),opI 24 (.callf f_law11_two [(kI 8),(kI 4),(.t 22),(.t 23)]),opI 25 (.load 5 true (.t 1)),opI 26 (.build [(.p (.int .i64 0)),(.p (.int .i64 0)),(.p (.int .u64 0)),(.p (.str (bs []))),.nils] [(0,1,(kI 2)),(1,1,(kI 4)),(2,1,(.c (.p (.int .u64 1))))]),opI 27 (.callf f_law11_two [(kI 13),(kI 4),(.t 25),(.t 26)]),opI 28 (.callf f_exhaust_Equal [(.t 24),(.t 27)]),mvI 21 (.t 28),opI 29 (.extract (.t 21) 0),opI 30 (.extract (.t 21) 1),opI 31 (.extract (.t 21) 2),mvI 2 (.t 29),mvI 3 (.t 30),mvI 4 (.t 31)])
  (.seq (.reg false [opI 32 (.fadr 1 (.t 1)),⟨none,.store 1 (.t 32) (kI 2),none⟩])
  (.seq (.reg false [opI 33 (.build [(.p (.int .i64 0)),(.p (.int .i64 0)),(.p (.int .u64 0)),(.p (.str (bs []))),.nils] [(0,1,(kI 2)),(1,1,(kI 2)),(2,1,(.c (.p (.int .u64 1))))]),opI 5 (.init 5 true (.t 33) true)])
  (.seq (.reg false [opI 34 (.load 5 true (.t 1)),opI 35 (.load 5 true (.t 5)),opI 36 (.callf f_law11_two [(kI 9),(kI 2),(.t 34),(.t 35)]),opI 6 (.init 5 true (.t 36) true)])
  (.seq (.reg false [opI 37 (.load 5 true (.t 1)),opI 38 (.load 5 true (.t 5)),opI 39 (.callf f_law11_two [(kI 7),(kI 2),(.t 37),(.t 38)]),opI 7 (.init 5 true (.t 39) true)])
  (.seq (.reg true [opI 40 (.load 5 true (.t 1)),opI 41 (.load 5 true (.t 5)),opI 42 (.callf f_law11_two [(kI 5),(kI 2),(.t 40),(.t 41)]),opI 43 (.load 5 true (.t 5)),opI 44 (.callf f_law11_two [(kI 16),(kI 1),(.t 42),(.t 43)]),opI 8 (.alloc [(.p (.int .i64 0)),(.p (.int .i64 0)),(.p (.int .u64 0)),(.p (.str (bs []))),.nils] 5),⟨none,.store 5 (.t 8) (.t 44),none⟩])
  (.seq (.reg false [opI 46 (.load 5 true (.t 6)),opI 47 (.load 5 true (.t 7)),opI 48 (.callf f_exhaust_Equal [(.t 46),(.t 47)]),mvI 45 (.t 48),opI 49 (.extract (.t 45) 0),opI 50 (.extract (.t 45) 1),opI 51 (.extract (.t 45) 2),mvI 9 (.t 49),mvI 10 (.t 50),mvI 11 (.t 51)])
  (.seq (.reg false [opI 53 (.load 5 true (.t 8)),opI 54 (.bslice 5 [(.p (.int .i64 0)),(.p (.int .i64 0)),(.p (.int .u64 0)),(.p (.str (bs []))),.nils] 1 [(0,5,(.t 53))]),opI 55 (.load 5 true (.t 6)),opI 56 (.load 5 true (.t 7)),opI 57 (.callf f_exhaust_Valid [(.t 54),(.t 55),(.t 56)]),mvI 52 (.t 57),opI 58 (.extract (.t 52) 0),opI 59 (.extract (.t 52) 1),opI 60 (.extract (.t 52) 2),mvI 12 (.t 58),mvI 13 (.t 59),mvI 14 (.t 60)])
  (.seq (.reg false [opI 62 (.load 5 true (.t 8)),opI 63 (.callf f_exhaust_Count [(.t 62)]),mvI 61 (.t 63),opI 64 (.extract (.t 61) 0),opI 65 (.extract (.t 61) 1),mvI 15 (.t 64),mvI 16 (.t 65)])
  (.seq (.reg false [opI 67 (.load 5 true (.t 8)),opI 68 (.callf f_exhaust_Sat [(.t 67)]),mvI 66 (.t 68),opI 69 (.extract (.t 66) 0),opI 70 (.extract (.t 66) 1),opI 71 (.extract (.t 66) 2),mvI 17 (.t 69),mvI 18 (.t 70),mvI 19 (.t 71)])
  (.seq (.reg false [mvI 72 (.t 2),mvI 73 (.t 72),⟨some 74,.mv (.t 3) false,some (73,true)⟩,⟨some 75,.lenS (.t 74),some (73,true)⟩,⟨some 76,.arith .eql (.t 75) (kI 0),some (73,true)⟩,opI 77 (.pick (.t 73) (.t 76) (.c (.p (.bool false)))),mvI 78 (.t 77),⟨some 79,.mv (.t 4) false,some (78,true)⟩,⟨some 80,.arith .eql (.t 79) (kI 0),some (78,true)⟩,opI 81 (.pick (.t 78) (.t 80) (.c (.p (.bool false)))),mvI 82 (.t 81),⟨some 83,.mv (.t 9) false,some (82,true)⟩,⟨some 84,.not (.t 83),some (82,true)⟩,opI 85 (.pick (.t 82) (.t 84) (.c (.p (.bool false)))),mvI 86 (.t 85),⟨some 87,.mv (.t 10) false,some (86,true)⟩,⟨some 88,.lenS (.t 87),some (86,true)⟩,⟨some 89,.arith .eql (.t 88) (kI 1),some (86,true)⟩,opI 90 (.pick (.t 86) (.t 89) (.c (.p (.bool false)))),mvI 91 (.t 90),⟨some 92,.mv (.t 10) false,some (91,true)⟩,⟨some 93,.iadrS 2 (.t 92) (kI 0),some (91,true)⟩,⟨some 94,.load 2 true (.t 93),some (91,true)⟩,⟨some 95,.build [(.p (.str (bs []))),(.p (.int .u64 0))] [(0,1,(.c (.p (.str (bs [120])))))],some (91,true)⟩,⟨some 96,.eqA false [.str,.int] (.t 94) (.t 95),some (91,true)⟩,opI 97 (.pick (.t 91) (.t 96) (.c (.p (.bool false)))),mvI 98 (.t 97),⟨some 99,.mv (.t 11) false,some (98,true)⟩,⟨some 100,.arith .eql (.t 99) (kI 0),some (98,true)⟩,opI 101 (.pick (.t 98) (.t 100) (.c (.p (.bool false)))),mvI 102 (.t 101),⟨some 103,.mv (.t 12) false,some (102,true)⟩,opI 104 (.pick (.t 102) (.t 103) (.c (.p (.bool false)))),mvI 105 (.t 104),⟨some 106,.mv (.t 14) false,some (105,true)⟩,⟨some 107,.arith .eql (.t 106) (kI 0),some (105,true)⟩,opI 108 (.pick (.t 105) (.t 107) (.c (.p (.bool false)))),mvI 109 (.t 108),⟨some 110,.mv (.t 15) false,some (109,true)⟩,⟨some 111,.arith .eql (.t 110) (kI 2),some (109,true)⟩,opI 112 (.pick (.t 109) (.t 111) (.c (.p (.bool false)))),mvI 113 (.t 112),⟨some 114,.mv (.t 16) false,some (113,true)⟩,⟨some 115,.arith .eql (.t 114) (kI 0),some (113,true)⟩,opI 116 (.pick (.t 113) (.t 115) (.c (.p (.bool false)))),mvI 117 (.t 116),⟨some 118,.mv (.t 17) false,some (117,true)⟩,opI 119 (.pick (.t 117) (.t 118) (.c (.p (.bool false)))),mvI 120 (.t 119),⟨some 121,.mv (.t 18) false,some (120,true)⟩,⟨some 122,.lenS (.t 121),some (120,true)⟩,⟨some 123,.arith .eql (.t 122) (kI 1),some (120,true)⟩,opI 124 (.pick (.t 120) (.t 123) (.c (.p (.bool false)))),mvI 125 (.t 124),⟨some 126,.mv (.t 18) false,some (125,true)⟩,⟨some 127,.iadrS 2 (.t 126) (kI 0),some (125,true)⟩,⟨some 128,.load 2 true (.t 127),some (125,true)⟩,⟨some 129,.build [(.p (.str (bs []))),(.p (.int .u64 0))] [(0,1,(.c (.p (.str (bs [120]))))),(1,1,(.c (.p (.int .u64 1))))],some (125,true)⟩,⟨some 130,.eqA false [.str,.int] (.t 128) (.t 129),some (125,true)⟩,opI 131 (.pick (.t 125) (.t 130) (.c (.p (.bool false)))),mvI 132 (.t 131),⟨some 133,.mv (.t 19) false,some (132,true)⟩,⟨some 134,.arith .eql (.t 133) (kI 0),some (132,true)⟩,opI 135 (.pick (.t 132) (.t 134) (.c (.p (.bool false)))),mvI 0 (.t 135)])
  .ret))))))))))))),false⟩
def B0_exhaust_Vars:K :=
  (.seq (.reg false [opI 16 (.arith .lss (.t 15) (.t 14))])
  (.seq (.cond (.t 16) .skip (.exit 0))
  (.seq (.block 1 (.seq (.reg false [opI 17 (.iadrS 5 (.t 13) (.t 15)),opI 18 (.load 5 true (.t 17)),opI 5 (.init 5 true (.t 18) true)])
  (.seq (.reg false [opI 19 (.load 5 true (.t 5)),opI 20 (.callf f_term_Check [(.t 19)]),mvI 6 (.t 20)])
  (.seq (.reg false [mvI 21 (.t 6),opI 22 (.arith .neq (.t 21) (kI 0))])
  (.cond (.t 22) (.seq (.reg false [mvI 23 (.t 6),mvI 2 (.c .nils),mvI 3 (.t 23)])
  .ret) .skip)))))
  (.reg false [opI 24 (.arith .add (.t 15) (kI 1)),mvI 15 (.t 24)]))))
def L0_exhaust_Vars:K:=.loop [0,13,14,15] B0_exhaust_Vars
def B1_exhaust_Vars:K :=
  (.seq (.reg false [opI 28 (.arith .lss (.t 27) (.t 26))])
  (.seq (.cond (.t 28) .skip (.exit 2))
  (.seq (.block 3 (.seq (.reg false [opI 29 (.iadrS 5 (.t 25) (.t 27)),opI 30 (.load 5 true (.t 29)),opI 9 (.init 5 true (.t 30) true)])
  (.reg false [mvI 31 (.t 7),opI 32 (.load 5 true (.t 9)),opI 33 (.callf f_term_Vars [(.t 32)]),opI 34 (.append 2 24 (.t 31) (.t 33)),opI 7 (.mv (.t 34) true)])))
  (.reg false [opI 35 (.arith .add (.t 27) (kI 1)),mvI 27 (.t 35)]))))
def L1_exhaust_Vars:K:=.loop [7,25,26,27] B1_exhaust_Vars
def B2_exhaust_Vars:K :=
  (.seq (.reg false [opI 43 (.arith .lss (.t 42) (.t 41))])
  (.seq (.cond (.t 43) .skip (.exit 4))
  (.seq (.block 5 (.seq (.reg false [mvI 44 (.t 42),opI 45 (.iadrS 2 (.t 40) (.t 42)),opI 46 (.load 2 true (.t 45)),opI 12 (.alloc [(.p (.str (bs []))),(.p (.int .i64 0))] 2),mvI 11 (.t 44),⟨none,.store 2 (.t 12) (.t 46),none⟩])
  (.seq (.seq (.reg true [mvI 47 (.t 11),opI 48 (.arith .gtr (.t 47) (kI 0)),mvI 49 (.t 48),⟨some 50,.mv (.t 7) false,some (49,true)⟩,⟨some 51,.mv (.t 11) false,some (49,true)⟩,⟨some 52,.arith .sub (.t 51) (kI 1),some (49,true)⟩,⟨some 53,.iadrS 2 (.t 50) (.t 52),some (49,true)⟩,⟨some 54,.fadr 0 (.t 53),some (49,true)⟩,⟨some 55,.load 1 false (.t 54),some (49,true)⟩,⟨some 56,.fadr 0 (.t 12),some (49,true)⟩,⟨some 57,.load 1 false (.t 56),some (49,true)⟩,⟨some 58,.arith .eql (.t 55) (.t 57),some (49,true)⟩,opI 59 (.pick (.t 49) (.t 58) (.c (.p (.bool false))))])
  (.cond (.t 59) (.seq (.reg false [mvI 2 (.c .nils),mvI 3 (kI 12)])
  .ret) .skip))
  (.reg false [mvI 60 (.t 10),opI 61 (.fadr 1 (.t 12)),opI 62 (.load 1 false (.t 61)),opI 63 (.arith .add (.t 60) (.t 62)),mvI 10 (.t 63)]))))
  (.reg false [opI 64 (.arith .add (.t 42) (kI 1)),mvI 42 (.t 64)]))))
def L2_exhaust_Vars:K:=.loop [7,10,40,41,42] B2_exhaust_Vars
def F_exhaust_Vars:AFn:=⟨68,[.tmp 2,.tmp 3],
  (.seq (.reg false [mvI 2 (.c .nils),mvI 3 (kI 0)])
  (.seq (.seq (.reg false [mvI 13 (.t 0),opI 14 (.lenS (.t 13)),mvI 15 (kI 0)])
  (.block 0 L0_exhaust_Vars))
  (.seq (.reg false [opI 7 (.mv (.c .nils) true)])
  (.seq (.seq (.reg false [mvI 25 (.t 0),opI 26 (.lenS (.t 25)),mvI 27 (kI 0)])
  (.block 2 L1_exhaust_Vars))
  (.seq (.reg false [mvI 36 (.t 7),opI 37 (.callf f_slices_SortFunc_api_Var_api_Var [(.t 36),(.c (.p (.fn f_exhaust_Vars_1 [])))])])
  (.seq (.reg false [mvI 38 (.t 7),opI 39 (.callf f_slices_Compact_api_Var_api_Var [(.t 38)]),opI 7 (.mv (.t 39) true)])
  (.seq (.reg false [mvI 10 (kI 0)])
  (.seq (.seq (.reg false [mvI 40 (.t 7),opI 41 (.lenS (.t 40)),mvI 42 (kI 0)])
  (.block 4 L2_exhaust_Vars))
  (.seq (.seq (.reg false [mvI 65 (.t 10),opI 66 (.arith .gtr (.t 65) (kI 16))])
  (.cond (.t 66) (.seq (.reg false [mvI 2 (.c .nils),mvI 3 (kI 7)])
  .ret) .skip))
  (.seq (.reg false [mvI 67 (.t 7),mvI 2 (.t 67),mvI 3 (kI 0)])
  .ret)))))))))),false⟩
def B0_r11_Vars:K :=
  (.seq (.seq (.reg false [mvI 8 (.t 4),mvI 9 (.t 0),opI 10 (.lenS (.t 9)),opI 11 (.arith .lss (.t 8) (.t 10))])
  (.cond (.t 11) .skip (.exit 0)))
  (.seq (.block 1 (.seq (.reg false [mvI 14 (.t 0),mvI 15 (.t 4),opI 16 (.iadrS 5 (.t 14) (.t 15)),opI 17 (.load 5 true (.t 16)),opI 18 (.callf f_r06_Check [(.t 17)]),mvI 5 (.t 18)])
  (.seq (.reg false [mvI 19 (.t 5),opI 20 (.arith .neq (.t 19) (kI 0))])
  (.cond (.t 20) (.seq (.reg false [mvI 21 (.t 5),mvI 2 (.c .nils),mvI 3 (.t 21)])
  .ret) .skip))))
  (.reg false [mvI 12 (.t 4),opI 13 (.arith .add (.t 12) (kI 1)),mvI 4 (.t 13)])))
def L0_r11_Vars:K:=.loop [0,4] B0_r11_Vars
def F_r11_Vars:AFn:=⟨33,[.tmp 2,.tmp 3],
  (.seq (.reg false [mvI 2 (.c .nils),mvI 3 (kI 0)])
  (.seq (.seq (.reg false [mvI 4 (kI 0)])
  (.block 0 L0_r11_Vars))
  (.seq (.reg false [mvI 23 (.t 0),opI 24 (.callf f_r11_all [(.t 23)]),mvI 22 (.t 24),opI 25 (.extract (.t 22) 0),opI 26 (.extract (.t 22) 1),mvI 6 (.t 25),mvI 7 (.t 26)])
  (.seq (.seq (.reg false [mvI 27 (.t 7),opI 28 (.not (.t 27))])
  (.cond (.t 28) (.seq (.reg false [mvI 2 (.c .nils),mvI 3 (kI 12)])
  .ret) .skip))
  (.seq (.seq (.reg false [mvI 29 (.t 6),opI 30 (.callf f_r08_Bits [(.t 29)]),opI 31 (.arith .gtr (.t 30) (kI 16))])
  (.cond (.t 31) (.seq (.reg false [mvI 2 (.c .nils),mvI 3 (kI 7)])
  .ret) .skip))
  (.seq (.reg false [mvI 32 (.t 6),mvI 2 (.t 32),mvI 3 (kI 0)])
  .ret)))))),false⟩
def F_r11_Small:AFn:=⟨20,[.tmp 2],
  (.seq (.reg false [mvI 2 (.c (.p (.bool false)))])
  (.seq (.seq (.reg false [mvI 5 (.t 0),opI 6 (.callf f_r11_Few [(.t 5)]),opI 7 (.not (.t 6))])
  (.cond (.t 7) (.seq (.reg false [mvI 2 (.c (.p (.bool false)))])
  .ret) .skip))
  (.seq (.reg false [mvI 9 (.t 0),opI 10 (.callf f_r11_Vars [(.t 9)]),mvI 8 (.t 10),opI 11 (.extract (.t 8) 0),opI 12 (.extract (.t 8) 1),mvI 3 (.t 11),mvI 4 (.t 12)])
  (.seq (.reg false [mvI 13 (.t 4),opI 14 (.arith .neq (.t 13) (kI 0)),mvI 15 (.t 14),⟨some 16,.mv (.t 3) false,some (15,false)⟩,⟨some 17,.callf f_r08_Bits [(.t 16)],some (15,false)⟩,⟨some 18,.arith .leq (.t 17) (kI 7),some (15,false)⟩,opI 19 (.pick (.t 15) (.c (.p (.bool true))) (.t 18)),mvI 2 (.t 19)])
  .ret)))),false⟩
def F_exhaust_Equal:AFn:=⟨13,[.tmp 4,.tmp 5,.tmp 6],
  (.seq (.reg false [opI 2 (.box 5 true (.t 0) true),opI 3 (.box 5 true (.t 1) true),mvI 4 (.c (.p (.bool false))),mvI 5 (.c .nils),mvI 6 (kI 0)])
  (.seq (.reg false [opI 7 (.load 5 true (.t 2)),opI 8 (.load 5 true (.t 3)),opI 9 (.callf f_exhaust_Valid [(.c .nils),(.t 7),(.t 8)]),opI 10 (.extract (.t 9) 0),opI 11 (.extract (.t 9) 1),opI 12 (.extract (.t 9) 2),mvI 4 (.t 10),mvI 5 (.t 11),mvI 6 (.t 12)])
  .ret)),false⟩
def B1_exhaust_Valid:K :=
  (.seq (.reg false [opI 55 (.arith .lss (.t 54) (.t 53))])
  (.seq (.cond (.t 55) .skip (.exit 2))
  (.seq (.block 3 (.seq (.reg false [opI 56 (.iadrS 1 (.t 52) (.t 54)),opI 57 (.load 1 false (.t 56)),mvI 17 (.t 57)])
  (.seq (.reg false [mvI 58 (.t 17),mvI 59 (.t 14),opI 60 (.iadrS 1 (.t 58) (.t 59)),opI 61 (.load 1 false (.t 60)),opI 62 (.arith .neq (.t 61) (.c (.p (.int .u64 1))))])
  (.cond (.t 62) (.exit 1) .skip))))
  (.reg false [opI 63 (.arith .add (.t 54) (kI 1)),mvI 54 (.t 63)]))))
def L1_exhaust_Valid:K:=.loop [6,7,8,12,13,14,15,52,53,54] B1_exhaust_Valid
def A0_exhaust_Valid:K :=
  (.seq (.reg false [mvI 14 (.t 48)])
  (.reg false [mvI 15 (.t 49)]))
def B0_exhaust_Valid:K :=
  (.block 1 (.seq (.seq (.reg false [opI 50 (.load 1 false (.t 12)),opI 51 (.load 1 false (.t 13)),opI 52 (.slcS 1 (.t 50) none (some (.t 51)) none),opI 53 (.lenS (.t 52)),mvI 54 (kI 0)])
  (.block 2 L1_exhaust_Valid))
  (.seq (.reg true [opI 64 (.load 1 false (.t 12)),opI 65 (.load 1 false (.t 13)),opI 66 (.iadrS 1 (.t 64) (.t 65)),opI 67 (.load 1 false (.t 66)),mvI 68 (.t 14),opI 69 (.iadrS 1 (.t 67) (.t 68)),opI 70 (.load 1 false (.t 69)),opI 71 (.load 1 false (.t 12)),opI 72 (.load 1 false (.t 13)),opI 73 (.arith .add (.t 72) (kI 1)),opI 74 (.iadrS 1 (.t 71) (.t 73)),opI 75 (.load 1 false (.t 74)),mvI 76 (.t 14),opI 77 (.iadrS 1 (.t 75) (.t 76)),opI 78 (.load 1 false (.t 77)),opI 79 (.arith .neq (.t 70) (.t 78))])
  (.cond (.t 79) (.seq (.reg false [mvI 80 (.t 15),opI 81 (.callv (.t 80) []),⟨none,.store 1 (.t 6) (.c (.p (.bool false))),none⟩,⟨none,.store 1 (.t 7) (.t 81),none⟩,⟨none,.store 1 (.t 8) (kI 0),none⟩])
  .ret) .skip))))
def R0_exhaust_Valid:K:=.range (.t 47) [48,49] [6,7,8,12,13] A0_exhaust_Valid B0_exhaust_Valid
def F_exhaust_Valid:AFn:=⟨82,[.cell 6 1 false,.cell 7 1 false,.cell 8 1 false],
  (.seq (.reg false [opI 4 (.box 5 true (.t 1) true),opI 5 (.box 5 true (.t 2) true),opI 6 (.alloc [(.p (.bool false))] 1),opI 7 (.alloc [.nils] 1),opI 8 (.alloc [(.p (.int .i64 0))] 1)])
  (.seq .skip
  (.seq (.regD [mvI 18 (.t 0),opI 19 (.callf f_slices_Clone_api_Term_api_Term [(.t 18)]),opI 20 (.load 5 true (.t 4)),opI 21 (.load 5 true (.t 5)),opI 22 (.blist 5 [(.p (.int .i64 0)),(.p (.int .i64 0)),(.p (.int .u64 0)),(.p (.str (bs []))),.nils] 2 [(0,5,(.t 20)),(1,5,(.t 21))]),opI 23 (.append 5 64 (.t 19) (.t 22)),mvI 9 (.t 23)] [(1,2),(1,3)])
  (.seq (.reg false [mvI 25 (.t 9),opI 26 (.callf f_exhaust_Vars [(.t 25)]),mvI 24 (.t 26),opI 27 (.extract (.t 24) 0),opI 28 (.extract (.t 24) 1),mvI 10 (.t 27),mvI 11 (.t 28)])
  (.seq (.seq (.reg false [mvI 29 (.t 11),opI 30 (.arith .neq (.t 29) (kI 0))])
  (.cond (.t 30) (.seq (.reg false [mvI 31 (.t 11),⟨none,.store 1 (.t 6) (.c (.p (.bool false))),none⟩,⟨none,.store 1 (.t 7) (.c .nils),none⟩,⟨none,.store 1 (.t 8) (.t 31),none⟩])
  .ret) .skip))
  (.seq (.seq (.reg false [opI 32 (.fadr 1 (.t 4)),opI 33 (.load 1 false (.t 32)),opI 34 (.fadr 1 (.t 5)),opI 35 (.load 1 false (.t 34)),opI 36 (.arith .neq (.t 33) (.t 35)),mvI 37 (.t 36),⟨some 38,.mv (.t 0) false,some (37,false)⟩,⟨some 39,.callf f_slices_ContainsFunc_api_Term_api_Term [(.t 38),(.c (.p (.fn f_exhaust_Valid_1 [])))],some (37,false)⟩,opI 40 (.pick (.t 37) (.c (.p (.bool true))) (.t 39))])
  (.cond (.t 40) (.seq (.reg false [⟨none,.store 1 (.t 6) (.c (.p (.bool false))),none⟩,⟨none,.store 1 (.t 7) (.c .nils),none⟩,⟨none,.store 1 (.t 8) (kI 3),none⟩])
  .ret) .skip))
  (.seq (.reg false [mvI 41 (.t 10),mvI 42 (.t 9),opI 43 (.callf f_exhaust_tables [(.t 41),(.t 42)]),opI 12 (.init 1 false (.t 43) true)])
  (.seq (.reg false [mvI 44 (.t 0),opI 45 (.lenS (.t 44)),opI 13 (.init 1 false (.t 45) true)])
  (.seq .skip
  (.seq (.seq (.reg false [mvI 46 (.t 10),opI 47 (.callf f_exhaust_assignments [(.t 46)])])
  (.block 0 R0_exhaust_Valid))
  (.seq (.reg false [⟨none,.store 1 (.t 6) (.c (.p (.bool true))),none⟩,⟨none,.store 1 (.t 7) (.c .nils),none⟩,⟨none,.store 1 (.t 8) (kI 0),none⟩])
  .ret))))))))))),false⟩
def A0_exhaust_Sat:K :=
  (.seq (.reg false [mvI 8 (.t 21)])
  (.reg false [mvI 9 (.t 22)]))
def B0_exhaust_Sat:K :=
  (.block 1 (.seq (.reg false [opI 23 (.load 1 false (.t 6)),mvI 24 (.t 8),opI 25 (.iadrS 1 (.t 23) (.t 24)),opI 26 (.load 1 false (.t 25)),opI 27 (.arith .eql (.t 26) (.c (.p (.int .u64 1))))])
  (.cond (.t 27) (.seq (.reg false [mvI 28 (.t 9),opI 29 (.callv (.t 28) []),⟨none,.store 1 (.t 2) (.c (.p (.bool true))),none⟩,⟨none,.store 1 (.t 3) (.t 29),none⟩,⟨none,.store 1 (.t 4) (kI 0),none⟩])
  .ret) .skip)))
def R0_exhaust_Sat:K:=.range (.t 20) [21,22] [2,3,4,6] A0_exhaust_Sat B0_exhaust_Sat
def F_exhaust_Sat:AFn:=⟨30,[.cell 2 1 false,.cell 3 1 false,.cell 4 1 false],
  (.seq (.reg false [opI 1 (.box 5 true (.t 0) true),opI 2 (.alloc [(.p (.bool false))] 1),opI 3 (.alloc [.nils] 1),opI 4 (.alloc [(.p (.int .i64 0))] 1)])
  (.seq (.reg false [opI 11 (.load 5 true (.t 1)),opI 12 (.callf f_exhaust_condition [(.t 11)]),mvI 10 (.t 12),opI 13 (.extract (.t 10) 0),opI 14 (.extract (.t 10) 1),opI 15 (.extract (.t 10) 2),opI 6 (.alloc [.nils] 1),mvI 5 (.t 13),⟨none,.store 1 (.t 6) (.t 14),none⟩,mvI 7 (.t 15)])
  (.seq (.seq (.reg false [mvI 16 (.t 7),opI 17 (.arith .neq (.t 16) (kI 0))])
  (.cond (.t 17) (.seq (.reg false [mvI 18 (.t 7),⟨none,.store 1 (.t 2) (.c (.p (.bool false))),none⟩,⟨none,.store 1 (.t 3) (.c .nils),none⟩,⟨none,.store 1 (.t 4) (.t 18),none⟩])
  .ret) .skip))
  (.seq (.seq (.reg false [mvI 19 (.t 5),opI 20 (.callf f_exhaust_assignments [(.t 19)])])
  (.block 0 R0_exhaust_Sat))
  (.seq (.reg false [⟨none,.store 1 (.t 2) (.c (.p (.bool false))),none⟩,⟨none,.store 1 (.t 3) (.c .nils),none⟩,⟨none,.store 1 (.t 4) (kI 0),none⟩])
  .ret))))),false⟩
def B0_exhaust_Count:K :=
  (.seq (.reg false [opI 19 (.arith .lss (.t 18) (.t 17))])
  (.seq (.cond (.t 19) .skip (.exit 0))
  (.seq (.block 1 (.seq (.reg false [opI 20 (.iadrS 1 (.t 16) (.t 18)),opI 21 (.load 1 false (.t 20)),mvI 9 (.t 21)])
  (.reg false [mvI 22 (.t 7),mvI 23 (.t 9),opI 24 (.conv .i64 (.t 23)),opI 25 (.arith .add (.t 22) (.t 24)),mvI 7 (.t 25)])))
  (.reg false [opI 26 (.arith .add (.t 18) (kI 1)),mvI 18 (.t 26)]))))
def L0_exhaust_Count:K:=.loop [6,7,16,17,18] B0_exhaust_Count
def F_exhaust_Count:AFn:=⟨29,[.tmp 2,.tmp 3],
  (.seq (.reg false [opI 1 (.box 5 true (.t 0) true),mvI 2 (kI 0),mvI 3 (kI 0)])
  (.seq (.reg false [opI 11 (.load 5 true (.t 1)),opI 12 (.callf f_exhaust_condition [(.t 11)]),mvI 10 (.t 12),opI 13 (.extract (.t 10) 0),opI 14 (.extract (.t 10) 1),opI 15 (.extract (.t 10) 2),mvI 4 (.t 13),mvI 5 (.t 14),mvI 6 (.t 15)])
  (.seq (.reg false [mvI 7 (kI 0)])
  (.seq (.seq (.reg false [mvI 16 (.t 5),opI 17 (.lenS (.t 16)),mvI 18 (kI 0)])
  (.block 0 L0_exhaust_Count))
  (.seq (.reg false [mvI 27 (.t 7),mvI 28 (.t 6),mvI 2 (.t 27),mvI 3 (.t 28)])
  .ret))))),false⟩
def F_r08_Eval:AFn:=⟨23,[.tmp 4,.tmp 5],
  (.seq (.reg false [opI 2 (.box 5 true (.t 0) true),mvI 4 (.c (.p (.int .u64 0))),mvI 5 (kI 0)])
  (.seq (.reg false [opI 9 (.load 5 true (.t 2)),opI 10 (.callf f_r06_Check [(.t 9)]),mvI 6 (.t 10)])
  (.seq (.seq (.reg false [mvI 11 (.t 6),opI 12 (.arith .neq (.t 11) (kI 0))])
  (.cond (.t 12) (.seq (.reg false [mvI 13 (.t 6),mvI 4 (.c (.p (.int .u64 0))),mvI 5 (.t 13)])
  .ret) .skip))
  (.seq (.reg false [opI 15 (.load 5 true (.t 2)),mvI 16 (.t 1),opI 17 (.callf f_r08_Value [(.t 15),(.t 16)]),mvI 14 (.t 17),opI 18 (.extract (.t 14) 0),opI 19 (.extract (.t 14) 1),mvI 7 (.t 18),mvI 8 (.t 19)])
  (.seq (.seq (.reg false [mvI 20 (.t 8),opI 21 (.not (.t 20))])
  (.cond (.t 21) (.seq (.reg false [mvI 4 (.c (.p (.int .u64 0))),mvI 5 (kI 12)])
  .ret) .skip))
  (.seq (.reg false [mvI 22 (.t 7),mvI 4 (.t 22),mvI 5 (kI 0)])
  .ret)))))),false⟩
def F_law11_two:AFn:=⟨15,[.cell 8 5 true],
  (.seq (.reg false [opI 6 (.box 5 true (.t 2) true),opI 7 (.box 5 true (.t 3) true),opI 8 (.alloc [(.p (.int .i64 0)),(.p (.int .i64 0)),(.p (.int .u64 0)),(.p (.str (bs []))),.nils] 5)])
  (.seq (.reg false [mvI 9 (.t 0),mvI 10 (.t 1),opI 11 (.load 5 true (.t 6)),opI 12 (.load 5 true (.t 7)),opI 13 (.bslice 5 [(.p (.int .i64 0)),(.p (.int .i64 0)),(.p (.int .u64 0)),(.p (.str (bs []))),.nils] 2 [(0,5,(.t 11)),(1,5,(.t 12))]),opI 14 (.build [(.p (.int .i64 0)),(.p (.int .i64 0)),(.p (.int .u64 0)),(.p (.str (bs []))),.nils] [(0,1,(.t 9)),(1,1,(.t 10)),(4,1,(.t 13))]),⟨none,.store 5 (.t 8) (.t 14),none⟩])
  .ret)),false⟩
def B0_r08_Bits:K :=
  (.seq (.seq (.reg false [mvI 5 (.t 4),mvI 6 (.t 0),opI 7 (.lenS (.t 6)),opI 8 (.arith .lss (.t 5) (.t 7)),mvI 9 (.t 8),⟨some 10,.mv (.t 3) false,some (9,true)⟩,⟨some 11,.arith .leq (.t 10) (kI 16),some (9,true)⟩,opI 12 (.pick (.t 9) (.t 11) (.c (.p (.bool false))))])
  (.cond (.t 12) .skip (.exit 0)))
  (.seq (.block 1 (.reg false [mvI 15 (.t 3),mvI 16 (.t 0),mvI 17 (.t 4),opI 18 (.iadrS 2 (.t 16) (.t 17)),opI 19 (.fadr 1 (.t 18)),opI 20 (.load 1 false (.t 19)),opI 21 (.arith .add (.t 15) (.t 20)),mvI 3 (.t 21)]))
  (.reg false [mvI 13 (.t 4),opI 14 (.arith .add (.t 13) (kI 1)),mvI 4 (.t 14)])))
def L0_r08_Bits:K:=.loop [0,3,4] B0_r08_Bits
def F_r08_Bits:AFn:=⟨24,[.tmp 2],
  (.seq (.reg false [mvI 2 (kI 0)])
  (.seq (.reg false [mvI 3 (kI 0)])
  (.seq (.seq (.reg false [mvI 4 (kI 0)])
  (.block 0 L0_r08_Bits))
  (.seq (.reg false [mvI 22 (.t 3),opI 23 (.minmax false [(.t 22),(kI 17)]),mvI 2 (.t 23)])
  .ret)))),false⟩
def F_r06_Light:AFn:=⟨15,[.cell 6 5 true,.tmp 7],
  (.seq (.reg false [opI 3 (.box 5 true (.t 0) true),opI 6 (.alloc [(.p (.int .i64 0)),(.p (.int .i64 0)),(.p (.int .u64 0)),(.p (.str (bs []))),.nils] 5),mvI 7 (.c (.p (.bool false)))])
  (.seq (.seq (.reg false [opI 8 (.load 5 true (.t 3)),mvI 9 (.t 1),mvI 10 (.t 2),opI 11 (.callf f_r06_count [(.t 8),(.t 9),(.t 10)]),opI 12 (.arith .lss (.t 11) (kI 0))])
  (.cond (.t 12) (.seq (.reg false [opI 13 (.build [(.p (.int .i64 0)),(.p (.int .i64 0)),(.p (.int .u64 0)),(.p (.str (bs []))),.nils] []),⟨none,.store 5 (.t 6) (.t 13),none⟩,mvI 7 (.c (.p (.bool false)))])
  .ret) .skip))
  (.seq (.reg false [opI 14 (.load 5 true (.t 3)),⟨none,.store 5 (.t 6) (.t 14),none⟩,mvI 7 (.c (.p (.bool true)))])
  .ret))),false⟩
def A0_term_Check:K :=
  (.reg false [opI 7 (.init 5 true (.t 21) true)])
def B0_term_Check:K :=
  (.block 1 (.seq (.seq (.reg false [opI 22 (.load 5 true (.t 7)),opI 23 (.callf f_term_node [(.t 22)]),mvI 8 (.t 23)])
  (.seq (.reg false [mvI 24 (.t 8),opI 25 (.arith .neq (.t 24) (kI 0))])
  (.cond (.t 25) (.seq (.reg false [mvI 26 (.t 8),⟨none,.store 1 (.t 2) (.t 26),none⟩])
  .ret) .skip)))
  (.seq (.reg false [opI 27 (.fadr 0 (.t 7)),opI 28 (.load 1 false (.t 27)),opI 29 (.arith .eql (.t 28) (kI 1))])
  (.cond (.t 29) (.seq (.reg false [opI 31 (.load 1 false (.t 5)),opI 32 (.fadr 3 (.t 7)),opI 33 (.load 1 false (.t 32)),opI 34 (.lookup .str (.p (.int .i64 0)) (.t 31) (.t 33) true),mvI 30 (.t 34),opI 35 (.extract (.t 30) 0),opI 36 (.extract (.t 30) 1),mvI 9 (.t 35),mvI 10 (.t 36)])
  (.seq (.reg false [opI 37 (.load 1 false (.t 6)),mvI 38 (.t 37),⟨some 39,.mv (.t 10) false,some (38,false)⟩,⟨some 40,.mv (.t 39) false,some (38,false)⟩,⟨some 41,.mv (.t 9) false,some (40,true)⟩,⟨some 42,.fadr 1 (.t 7),some (40,true)⟩,⟨some 43,.load 1 false (.t 42),some (40,true)⟩,⟨some 44,.arith .neq (.t 41) (.t 43),some (40,true)⟩,⟨some 45,.pick (.t 40) (.t 44) (.c (.p (.bool false))),some (38,false)⟩,opI 46 (.pick (.t 38) (.c (.p (.bool true))) (.t 45)),⟨none,.store 1 (.t 6) (.t 46),none⟩])
  (.reg false [opI 47 (.load 1 false (.t 5)),opI 48 (.fadr 3 (.t 7)),opI 49 (.load 1 false (.t 48)),opI 50 (.fadr 1 (.t 7)),opI 51 (.load 1 false (.t 50)),⟨none,.mupd .str (.t 47) (.t 49) (.t 51),none⟩]))) .skip))))
def R0_term_Check:K:=.range (.t 20) [21] [2,5,6] A0_term_Check B0_term_Check
def F_term_Check:AFn:=⟨53,[.cell 2 1 false],
  (.seq (.reg false [opI 1 (.box 5 true (.t 0) true),opI 2 (.alloc [(.p (.int .i64 0))] 1)])
  (.seq (.seq (.reg false [opI 12 (.load 5 true (.t 1)),opI 13 (.callf f_term_measure [(.t 12),(kI 4096),(kI 64)]),mvI 11 (.t 13),opI 14 (.extract (.t 11) 0),opI 15 (.extract (.t 11) 1),mvI 3 (.t 14),mvI 4 (.t 15)])
  (.seq (.reg false [mvI 16 (.t 4),opI 17 (.not (.t 16))])
  (.cond (.t 17) (.seq (.reg false [⟨none,.store 1 (.t 2) (kI 7),none⟩])
  .ret) .skip)))
  (.seq (.reg false [opI 18 (.mkmap),opI 5 (.init 1 false (.t 18) true)])
  (.seq (.reg false [opI 6 (.init 1 false (.c (.p (.bool false))) false)])
  (.seq (.seq (.reg false [opI 19 (.load 5 true (.t 1)),opI 20 (.callf f_term_All [(.t 19)])])
  (.block 0 R0_term_Check))
  (.seq (.seq (.reg false [opI 52 (.load 1 false (.t 6))])
  (.cond (.t 52) (.seq (.reg false [⟨none,.store 1 (.t 2) (kI 12),none⟩])
  .ret) .skip))
  (.seq (.reg false [⟨none,.store 1 (.t 2) (kI 0),none⟩])
  .ret))))))),false⟩
def F_term_Vars:AFn:=⟨10,[.tmp 2],
  (.seq (.reg false [opI 1 (.box 5 true (.t 0) true),mvI 2 (.c .nils)])
  (.seq (.reg false [opI 3 (.alloc [.nils] 1)])
  (.seq (.reg false [opI 4 (.load 5 true (.t 1)),opI 5 (.mkfn f_term_Vars_1 [(.t 3)]),opI 6 (.callf f_term_preorder [(.t 4),(.t 5)])])
  (.seq (.reg false [opI 7 (.load 1 false (.t 3)),opI 8 (.callf f_slices_SortFunc_api_Var_api_Var [(.t 7),(.c (.p (.fn f_term_Vars_2 [])))])])
  (.seq (.reg false [opI 9 (.load 1 false (.t 3)),mvI 2 (.t 9)])
  .ret))))),false⟩
def F_exhaust_Vars_1:AFn:=⟨17,[.tmp 4],
  (.seq (.reg false [opI 2 (.box 2 true (.t 0) true),opI 3 (.box 2 true (.t 1) true),mvI 4 (kI 0)])
  (.seq (.reg true [opI 5 (.fadr 0 (.t 2)),opI 6 (.load 1 false (.t 5)),opI 7 (.fadr 0 (.t 3)),opI 8 (.load 1 false (.t 7)),opI 9 (.callf f_cmp_Compare_string [(.t 6),(.t 8)]),opI 10 (.fadr 1 (.t 2)),opI 11 (.load 1 false (.t 10)),opI 12 (.fadr 1 (.t 3)),opI 13 (.load 1 false (.t 12)),opI 14 (.callf f_cmp_Compare_int [(.t 11),(.t 13)]),opI 15 (.bslice 1 [(.p (.int .i64 0))] 2 [(0,1,(.t 9)),(1,1,(.t 14))]),opI 16 (.callf f_cmp_Or_int [(.t 15)]),mvI 4 (.t 16)])
  .ret)),false⟩
def B0_cmp_Or_int:K :=
  (.seq (.reg false [opI 9 (.arith .lss (.t 8) (.t 7))])
  (.seq (.cond (.t 9) .skip (.exit 0))
  (.seq (.block 1 (.seq (.reg false [opI 10 (.iadrS 1 (.t 6) (.t 8)),opI 11 (.load 1 false (.t 10)),mvI 5 (.t 11)])
  (.seq (.reg false [mvI 12 (.t 5),mvI 13 (.t 3),opI 14 (.arith .neq (.t 12) (.t 13))])
  (.cond (.t 14) (.seq (.reg false [mvI 15 (.t 5),mvI 2 (.t 15)])
  .ret) .skip))))
  (.reg false [opI 16 (.arith .add (.t 8) (kI 1)),mvI 8 (.t 16)]))))
def L0_cmp_Or_int:K:=.loop [3,6,7,8] B0_cmp_Or_int
def F_cmp_Or_int:AFn:=⟨18,[.tmp 2],
  (.seq (.reg false [mvI 2 (kI 0)])
  (.seq (.reg false [mvI 3 (kI 0)])
  (.seq (.seq (.reg false [mvI 6 (.t 0),opI 7 (.lenS (.t 6)),mvI 8 (kI 0)])
  (.block 0 L0_cmp_Or_int))
  (.seq (.reg false [mvI 17 (.t 3),mvI 2 (.t 17)])
  .ret)))),false⟩
def F_cmp_Compare_string:AFn:=⟨20,[.tmp 4],
  (.seq (.reg false [mvI 4 (kI 0)])
  (.seq (.reg false [mvI 7 (.t 0),opI 8 (.callf f_cmp_isNaN_string [(.t 7)]),mvI 5 (.t 8)])
  (.seq (.reg false [mvI 9 (.t 1),opI 10 (.callf f_cmp_isNaN_string [(.t 9)]),mvI 6 (.t 10)])
  (.seq (.seq (.reg false [mvI 11 (.t 5)])
  (.cond (.t 11) (.seq (.seq (.reg false [mvI 12 (.t 6)])
  (.cond (.t 12) (.seq (.reg false [mvI 4 (kI 0)])
  .ret) .skip))
  (.seq (.reg false [mvI 4 (kI (-1))])
  .ret)) .skip))
  (.seq (.seq (.reg false [mvI 13 (.t 6)])
  (.cond (.t 13) (.seq (.reg false [mvI 4 (kI 1)])
  .ret) .skip))
  (.seq (.seq (.reg false [mvI 14 (.t 0),mvI 15 (.t 1),opI 16 (.arith .lss (.t 14) (.t 15))])
  (.cond (.t 16) (.seq (.reg false [mvI 4 (kI (-1))])
  .ret) .skip))
  (.seq (.seq (.reg false [mvI 17 (.t 0),mvI 18 (.t 1),opI 19 (.arith .gtr (.t 17) (.t 18))])
  (.cond (.t 19) (.seq (.reg false [mvI 4 (kI 1)])
  .ret) .skip))
  (.seq (.reg false [mvI 4 (kI 0)])
  .ret)))))))),false⟩
def F_cmp_Compare_int:AFn:=⟨20,[.tmp 4],
  (.seq (.reg false [mvI 4 (kI 0)])
  (.seq (.reg false [mvI 7 (.t 0),opI 8 (.callf f_cmp_isNaN_int [(.t 7)]),mvI 5 (.t 8)])
  (.seq (.reg false [mvI 9 (.t 1),opI 10 (.callf f_cmp_isNaN_int [(.t 9)]),mvI 6 (.t 10)])
  (.seq (.seq (.reg false [mvI 11 (.t 5)])
  (.cond (.t 11) (.seq (.seq (.reg false [mvI 12 (.t 6)])
  (.cond (.t 12) (.seq (.reg false [mvI 4 (kI 0)])
  .ret) .skip))
  (.seq (.reg false [mvI 4 (kI (-1))])
  .ret)) .skip))
  (.seq (.seq (.reg false [mvI 13 (.t 6)])
  (.cond (.t 13) (.seq (.reg false [mvI 4 (kI 1)])
  .ret) .skip))
  (.seq (.seq (.reg false [mvI 14 (.t 0),mvI 15 (.t 1),opI 16 (.arith .lss (.t 14) (.t 15))])
  (.cond (.t 16) (.seq (.reg false [mvI 4 (kI (-1))])
  .ret) .skip))
  (.seq (.seq (.reg false [mvI 17 (.t 0),mvI 18 (.t 1),opI 19 (.arith .gtr (.t 17) (.t 18))])
  (.cond (.t 19) (.seq (.reg false [mvI 4 (kI 1)])
  .ret) .skip))
  (.seq (.reg false [mvI 4 (kI 0)])
  .ret)))))))),false⟩
def B1_r06_Check:K :=
  (.seq (.seq (.reg false [mvI 23 (.t 6),mvI 24 (.t 5),opI 25 (.arith .lss (.t 23) (.t 24))])
  (.cond (.t 25) .skip (.exit 2)))
  (.seq (.block 3 (.seq (.reg true [mvI 28 (.t 4),mvI 29 (.t 5),opI 30 (.iadrS 5 (.t 28) (.t 29)),opI 31 (.fadr 0 (.t 30)),opI 32 (.load 1 false (.t 31)),opI 33 (.arith .eql (.t 32) (kI 1)),mvI 34 (.t 33),⟨some 35,.mv (.t 4) false,some (34,true)⟩,⟨some 36,.mv (.t 6) false,some (34,true)⟩,⟨some 37,.iadrS 5 (.t 35) (.t 36),some (34,true)⟩,⟨some 38,.fadr 0 (.t 37),some (34,true)⟩,⟨some 39,.load 1 false (.t 38),some (34,true)⟩,⟨some 40,.arith .eql (.t 39) (kI 1),some (34,true)⟩,opI 41 (.pick (.t 34) (.t 40) (.c (.p (.bool false)))),mvI 42 (.t 41),⟨some 43,.mv (.t 4) false,some (42,true)⟩,⟨some 44,.mv (.t 5) false,some (42,true)⟩,⟨some 45,.iadrS 5 (.t 43) (.t 44),some (42,true)⟩,⟨some 46,.fadr 3 (.t 45),some (42,true)⟩,⟨some 47,.load 1 false (.t 46),some (42,true)⟩,⟨some 48,.mv (.t 4) false,some (42,true)⟩,⟨some 49,.mv (.t 6) false,some (42,true)⟩,⟨some 50,.iadrS 5 (.t 48) (.t 49),some (42,true)⟩,⟨some 51,.fadr 3 (.t 50),some (42,true)⟩,⟨some 52,.load 1 false (.t 51),some (42,true)⟩,⟨some 53,.arith .eql (.t 47) (.t 52),some (42,true)⟩,opI 54 (.pick (.t 42) (.t 53) (.c (.p (.bool false)))),mvI 55 (.t 54),⟨some 56,.mv (.t 4) false,some (55,true)⟩,⟨some 57,.mv (.t 5) false,some (55,true)⟩,⟨some 58,.iadrS 5 (.t 56) (.t 57),some (55,true)⟩,⟨some 59,.fadr 1 (.t 58),some (55,true)⟩,⟨some 60,.load 1 false (.t 59),some (55,true)⟩,⟨some 61,.mv (.t 4) false,some (55,true)⟩,⟨some 62,.mv (.t 6) false,some (55,true)⟩,⟨some 63,.iadrS 5 (.t 61) (.t 62),some (55,true)⟩,⟨some 64,.fadr 1 (.t 63),some (55,true)⟩,⟨some 65,.load 1 false (.t 64),some (55,true)⟩,⟨some 66,.arith .neq (.t 60) (.t 65),some (55,true)⟩,opI 67 (.pick (.t 55) (.t 66) (.c (.p (.bool false))))])
  (.cond (.t 67) (.seq (.reg false [mvI 2 (kI 12)])
  .ret) .skip)))
  (.reg false [mvI 26 (.t 6),opI 27 (.arith .add (.t 26) (kI 1)),mvI 6 (.t 27)])))
def L1_r06_Check:K:=.loop [4,5,6] B1_r06_Check
def B0_r06_Check:K :=
  (.seq (.seq (.reg false [mvI 17 (.t 5),mvI 18 (.t 4),opI 19 (.lenS (.t 18)),opI 20 (.arith .lss (.t 17) (.t 19))])
  (.cond (.t 20) .skip (.exit 0)))
  (.seq (.block 1 (.seq (.reg false [mvI 6 (kI 0)])
  (.block 2 L1_r06_Check)))
  (.reg false [mvI 21 (.t 5),opI 22 (.arith .add (.t 21) (kI 1)),mvI 5 (.t 22)])))
def L0_r06_Check:K:=.loop [4,5] B0_r06_Check
def F_r06_Check:AFn:=⟨68,[.tmp 2],
  (.seq (.reg false [opI 1 (.box 5 true (.t 0) true),mvI 2 (kI 0)])
  (.seq (.seq (.reg false [opI 7 (.load 5 true (.t 1)),opI 8 (.callf f_r06_count [(.t 7),(kI 64),(kI 4096)]),opI 9 (.arith .lss (.t 8) (kI 0))])
  (.cond (.t 9) (.seq (.reg false [mvI 2 (kI 7)])
  .ret) .skip))
  (.seq (.reg false [opI 10 (.load 5 true (.t 1)),opI 11 (.callf f_r06_nodes [(.t 10)]),mvI 3 (.t 11)])
  (.seq (.seq (.reg false [mvI 12 (.t 3),opI 13 (.arith .neq (.t 12) (kI 0))])
  (.cond (.t 13) (.seq (.reg false [mvI 14 (.t 3),mvI 2 (.t 14)])
  .ret) .skip))
  (.seq (.reg false [opI 15 (.load 5 true (.t 1)),opI 16 (.callf f_r06_Post [(.t 15)]),mvI 4 (.t 16)])
  (.seq (.seq (.reg false [mvI 5 (kI 0)])
  (.block 0 L0_r06_Check))
  (.seq (.reg false [mvI 2 (kI 0)])
  .ret))))))),false⟩
def B2_r11_all:K :=
  (.seq (.seq (.reg true [mvI 27 (.t 8),mvI 28 (.t 4),opI 29 (.lenS (.t 28)),opI 30 (.arith .lss (.t 27) (.t 29)),mvI 31 (.t 30),⟨some 32,.mv (.t 4) false,some (31,true)⟩,⟨some 33,.mv (.t 8) false,some (31,true)⟩,⟨some 34,.iadrS 2 (.t 32) (.t 33),some (31,true)⟩,⟨some 35,.fadr 0 (.t 34),some (31,true)⟩,⟨some 36,.load 1 false (.t 35),some (31,true)⟩,⟨some 37,.mv (.t 6) false,some (31,true)⟩,⟨some 38,.mv (.t 7) false,some (31,true)⟩,⟨some 39,.iadrS 2 (.t 37) (.t 38),some (31,true)⟩,⟨some 40,.fadr 0 (.t 39),some (31,true)⟩,⟨some 41,.load 1 false (.t 40),some (31,true)⟩,⟨some 42,.arith .lss (.t 36) (.t 41),some (31,true)⟩,opI 43 (.pick (.t 31) (.t 42) (.c (.p (.bool false))))])
  (.cond (.t 43) .skip (.exit 4)))
  (.block 5 (.reg false [mvI 44 (.t 8),opI 45 (.arith .add (.t 44) (kI 1)),mvI 8 (.t 45)])))
def L2_r11_all:K:=.loop [0,4,5,6,7,8] B2_r11_all
def B1_r11_all:K :=
  (.seq (.seq (.reg false [mvI 21 (.t 7),mvI 22 (.t 6),opI 23 (.lenS (.t 22)),opI 24 (.arith .lss (.t 21) (.t 23))])
  (.cond (.t 24) .skip (.exit 2)))
  (.seq (.block 3 (.seq (.reg false [mvI 8 (kI 0)])
  (.seq (.block 4 L2_r11_all)
  (.seq (.seq (.reg true [mvI 46 (.t 8),mvI 47 (.t 4),opI 48 (.lenS (.t 47)),opI 49 (.arith .lss (.t 46) (.t 48)),mvI 50 (.t 49),⟨some 51,.mv (.t 4) false,some (50,true)⟩,⟨some 52,.mv (.t 8) false,some (50,true)⟩,⟨some 53,.iadrS 2 (.t 51) (.t 52),some (50,true)⟩,⟨some 54,.fadr 0 (.t 53),some (50,true)⟩,⟨some 55,.load 1 false (.t 54),some (50,true)⟩,⟨some 56,.mv (.t 6) false,some (50,true)⟩,⟨some 57,.mv (.t 7) false,some (50,true)⟩,⟨some 58,.iadrS 2 (.t 56) (.t 57),some (50,true)⟩,⟨some 59,.fadr 0 (.t 58),some (50,true)⟩,⟨some 60,.load 1 false (.t 59),some (50,true)⟩,⟨some 61,.arith .eql (.t 55) (.t 60),some (50,true)⟩,opI 62 (.pick (.t 50) (.t 61) (.c (.p (.bool false))))])
  (.cond (.t 62) (.seq (.seq (.reg true [mvI 63 (.t 4),mvI 64 (.t 8),opI 65 (.iadrS 2 (.t 63) (.t 64)),opI 66 (.fadr 1 (.t 65)),opI 67 (.load 1 false (.t 66)),mvI 68 (.t 6),mvI 69 (.t 7),opI 70 (.iadrS 2 (.t 68) (.t 69)),opI 71 (.fadr 1 (.t 70)),opI 72 (.load 1 false (.t 71)),opI 73 (.arith .neq (.t 67) (.t 72))])
  (.cond (.t 73) (.seq (.reg false [mvI 2 (.c .nils),mvI 3 (.c (.p (.bool false)))])
  .ret) .skip))
  (.exit 3)) .skip))
  (.seq (.reg false [opI 9 (.mv (.c .nils) true)])
  (.seq (.reg false [mvI 74 (.t 9),opI 75 (.frz (.t 4)),mvI 76 (.t 8),opI 77 (.slcS 2 (.t 75) none (some (.t 76)) none),opI 78 (.append 2 24 (.t 74) (.t 77)),opI 9 (.mv (.t 78) true)])
  (.seq (.reg false [mvI 79 (.t 9),mvI 80 (.t 6),mvI 81 (.t 7),opI 82 (.iadrS 2 (.t 80) (.t 81)),opI 83 (.load 2 true (.t 82)),opI 84 (.bslice 2 [(.p (.str (bs []))),(.p (.int .i64 0))] 1 [(0,2,(.t 83))]),opI 85 (.append 2 24 (.t 79) (.t 84)),opI 9 (.mv (.t 85) true)])
  (.reg false [mvI 86 (.t 9),opI 87 (.frz (.t 4)),mvI 88 (.t 8),opI 89 (.slcS 2 (.t 87) (some (.t 88)) none none),opI 90 (.append 2 24 (.t 86) (.t 89)),mvI 4 (.t 90)]))))))))
  (.reg false [mvI 25 (.t 7),opI 26 (.arith .add (.t 25) (kI 1)),mvI 7 (.t 26)])))
def L1_r11_all:K:=.loop [0,4,5,6,7] B1_r11_all
def B0_r11_all:K :=
  (.seq (.seq (.reg false [mvI 10 (.t 5),mvI 11 (.t 0),opI 12 (.lenS (.t 11)),opI 13 (.arith .lss (.t 10) (.t 12))])
  (.cond (.t 13) .skip (.exit 0)))
  (.seq (.block 1 (.seq (.reg false [mvI 16 (.t 0),mvI 17 (.t 5),opI 18 (.iadrS 5 (.t 16) (.t 17)),opI 19 (.load 5 true (.t 18)),opI 20 (.callf f_r06_Vars [(.t 19)]),mvI 6 (.t 20)])
  (.seq (.reg false [mvI 7 (kI 0)])
  (.block 2 L1_r11_all))))
  (.reg false [mvI 14 (.t 5),opI 15 (.arith .add (.t 14) (kI 1)),mvI 5 (.t 15)])))
def L0_r11_all:K:=.loop [0,4,5] B0_r11_all
def F_r11_all:AFn:=⟨92,[.tmp 2,.tmp 3],
  (.seq (.reg false [mvI 2 (.c .nils),mvI 3 (.c (.p (.bool false)))])
  (.seq (.reg false [mvI 4 (.c .nils)])
  (.seq (.seq (.reg false [mvI 5 (kI 0)])
  (.block 0 L0_r11_all))
  (.seq (.reg false [mvI 91 (.t 4),mvI 2 (.t 91),mvI 3 (.c (.p (.bool true)))])
  .ret)))),false⟩
def F_slices_ContainsFunc_api_Term_api_Term:AFn:=⟨9,[.tmp 4],
  (.seq (.reg false [mvI 4 (.c (.p (.bool false)))])
  (.seq (.reg false [mvI 5 (.t 0),mvI 6 (.t 1),opI 7 (.callf f_slices_IndexFunc_api_Term_api_Term [(.t 5),(.t 6)]),opI 8 (.arith .geq (.t 7) (kI 0)),mvI 4 (.t 8)])
  .ret)),false⟩
def F_exhaust_Valid_1:AFn:=⟨6,[.tmp 2],
  (.seq (.reg false [opI 1 (.box 5 true (.t 0) true),mvI 2 (.c (.p (.bool false)))])
  (.seq (.reg false [opI 3 (.fadr 1 (.t 1)),opI 4 (.load 1 false (.t 3)),opI 5 (.arith .neq (.t 4) (kI 1)),mvI 2 (.t 5)])
  .ret)),false⟩
def B0_exhaust_tables:K :=
  (.seq (.reg false [opI 13 (.arith .lss (.t 12) (.t 11))])
  (.seq (.cond (.t 13) .skip (.exit 0))
  (.seq (.block 1 (.seq (.reg false [opI 14 (.iadrS 5 (.t 10) (.t 12)),opI 15 (.load 5 true (.t 14)),opI 7 (.init 5 true (.t 15) true)])
  (.seq (.reg false [opI 17 (.load 5 true (.t 7)),mvI 18 (.t 0),opI 19 (.callf f_eval_Table [(.t 17),(.t 18)]),mvI 16 (.t 19),opI 20 (.extract (.t 16) 0),opI 21 (.extract (.t 16) 1),mvI 8 (.t 20),mvI 9 (.t 21)])
  (.reg false [mvI 22 (.t 5),mvI 23 (.t 8),opI 24 (.bslice 1 [.nils] 1 [(0,1,(.t 23))]),opI 25 (.append 1 24 (.t 22) (.t 24)),opI 5 (.mv (.t 25) true)]))))
  (.reg false [opI 26 (.arith .add (.t 12) (kI 1)),mvI 12 (.t 26)]))))
def L0_exhaust_tables:K:=.loop [0,5,10,11,12] B0_exhaust_tables
def F_exhaust_tables:AFn:=⟨28,[.tmp 4],
  (.seq (.reg false [mvI 4 (.c .nils)])
  (.seq (.reg false [opI 5 (.mv (.c .nils) true)])
  (.seq (.seq (.reg false [mvI 10 (.t 1),opI 11 (.lenS (.t 10)),mvI 12 (kI 0)])
  (.block 0 L0_exhaust_tables))
  (.seq (.reg false [mvI 27 (.t 5),mvI 4 (.t 27)])
  .ret)))),false⟩
def B0_exhaust_assignments:K :=
  (.seq (.reg false [opI 9 (.arith .lss (.t 8) (.t 7))])
  (.seq (.cond (.t 9) .skip (.exit 0))
  (.seq (.block 1 (.seq (.reg false [opI 10 (.iadrS 2 (.t 6) (.t 8)),opI 11 (.load 2 true (.t 10)),opI 5 (.init 2 true (.t 11) true)])
  (.reg false [opI 12 (.load 1 false (.t 3)),opI 13 (.fadr 1 (.t 5)),opI 14 (.load 1 false (.t 13)),opI 15 (.arith .add (.t 12) (.t 14)),⟨none,.store 1 (.t 3) (.t 15),none⟩])))
  (.reg false [opI 16 (.arith .add (.t 8) (kI 1)),mvI 8 (.t 16)]))))
def L0_exhaust_assignments:K:=.loop [1,3,6,7,8] B0_exhaust_assignments
def F_exhaust_assignments:AFn:=⟨18,[.tmp 2],
  (.seq (.reg false [opI 1 (.box 1 false (.t 0) true),mvI 2 (.c (.p .nilf))])
  (.seq (.reg false [opI 3 (.init 1 false (kI 0) false)])
  (.seq (.seq (.reg false [opI 6 (.load 1 false (.t 1)),opI 7 (.lenS (.t 6)),mvI 8 (kI 0)])
  (.block 0 L0_exhaust_assignments))
  (.seq (.reg false [opI 17 (.mkfn f_exhaust_assignments_1 [(.t 3),(.t 1)]),mvI 2 (.t 17)])
  .ret)))),false⟩
def F_exhaust_condition:AFn:=⟨26,[.tmp 2,.tmp 3,.tmp 4],
  (.seq (.reg false [opI 1 (.box 5 true (.t 0) true),mvI 2 (.c .nils),mvI 3 (.c .nils),mvI 4 (kI 0)])
  (.seq (.reg false [opI 8 (.load 5 true (.t 1)),opI 9 (.bslice 5 [(.p (.int .i64 0)),(.p (.int .i64 0)),(.p (.int .u64 0)),(.p (.str (bs []))),.nils] 1 [(0,5,(.t 8))]),opI 10 (.callf f_exhaust_Vars [(.t 9)]),mvI 7 (.t 10),opI 11 (.extract (.t 7) 0),opI 12 (.extract (.t 7) 1),mvI 5 (.t 11),mvI 6 (.t 12)])
  (.seq (.seq (.reg false [mvI 13 (.t 6),opI 14 (.arith .neq (.t 13) (kI 0))])
  (.cond (.t 14) (.seq (.reg false [mvI 15 (.t 6),mvI 2 (.c .nils),mvI 3 (.c .nils),mvI 4 (.t 15)])
  .ret) .skip))
  (.seq (.seq (.reg false [opI 16 (.fadr 1 (.t 1)),opI 17 (.load 1 false (.t 16)),opI 18 (.arith .neq (.t 17) (kI 1))])
  (.cond (.t 18) (.seq (.reg false [mvI 2 (.c .nils),mvI 3 (.c .nils),mvI 4 (kI 3)])
  .ret) .skip))
  (.seq (.reg true [mvI 19 (.t 5),mvI 20 (.t 5),opI 21 (.load 5 true (.t 1)),opI 22 (.bslice 5 [(.p (.int .i64 0)),(.p (.int .i64 0)),(.p (.int .u64 0)),(.p (.str (bs []))),.nils] 1 [(0,5,(.t 21))]),opI 23 (.callf f_exhaust_tables [(.t 20),(.t 22)]),opI 24 (.iadrS 1 (.t 23) (kI 0)),opI 25 (.load 1 false (.t 24)),mvI 2 (.t 19),mvI 3 (.t 25),mvI 4 (kI 0)])
  .ret))))),false⟩
def B0_r08_Value:K :=
  (.seq (.seq (.reg false [mvI 28 (.t 9),opI 29 (.fadr 4 (.t 2)),opI 30 (.load 1 false (.t 29)),opI 31 (.lenS (.t 30)),opI 32 (.arith .lss (.t 28) (.t 31))])
  (.cond (.t 32) .skip (.exit 0)))
  (.seq (.block 1 (.seq (.reg false [opI 36 (.fadr 4 (.t 2)),opI 37 (.load 1 false (.t 36)),mvI 38 (.t 9),opI 39 (.iadrS 5 (.t 37) (.t 38)),opI 40 (.load 5 true (.t 39)),mvI 41 (.t 1),opI 42 (.callf f_r08_Value [(.t 40),(.t 41)]),mvI 35 (.t 42),opI 43 (.extract (.t 35) 0),opI 44 (.extract (.t 35) 1),mvI 10 (.t 43),mvI 11 (.t 44)])
  (.seq (.seq (.reg false [mvI 45 (.t 11),opI 46 (.not (.t 45))])
  (.cond (.t 46) (.seq (.reg false [mvI 4 (.c (.p (.int .u64 0))),mvI 5 (.c (.p (.bool false)))])
  .ret) .skip))
  (.reg false [mvI 47 (.t 8),opI 48 (.fadr 4 (.t 2)),opI 49 (.load 1 false (.t 48)),mvI 50 (.t 9),opI 51 (.iadrS 5 (.t 49) (.t 50)),opI 52 (.fadr 1 (.t 51)),opI 53 (.load 1 false (.t 52)),mvI 54 (.t 10),opI 55 (.build [(.p (.int .i64 0)),(.p (.int .u64 0))] [(0,1,(.t 53)),(1,1,(.t 54))]),opI 56 (.bslice 2 [(.p (.int .i64 0)),(.p (.int .u64 0))] 1 [(0,2,(.t 55))]),opI 57 (.append 2 16 (.t 47) (.t 56)),opI 8 (.mv (.t 57) true)]))))
  (.reg false [mvI 33 (.t 9),opI 34 (.arith .add (.t 33) (kI 1)),mvI 9 (.t 34)])))
def L0_r08_Value:K:=.loop [1,2,8,9] B0_r08_Value
def F_r08_Value:AFn:=⟨66,[.tmp 4,.tmp 5],
  (.seq (.reg false [opI 2 (.box 5 true (.t 0) true),mvI 4 (.c (.p (.int .u64 0))),mvI 5 (.c (.p (.bool false)))])
  (.seq (.seq (.reg false [opI 12 (.fadr 0 (.t 2)),opI 13 (.load 1 false (.t 12)),opI 14 (.arith .eql (.t 13) (kI 1))])
  (.cond (.t 14) (.seq (.reg false [mvI 16 (.t 1),opI 17 (.fadr 3 (.t 2)),opI 18 (.load 1 false (.t 17)),opI 19 (.callf f_r08_Look [(.t 16),(.t 18)]),mvI 15 (.t 19),opI 20 (.extract (.t 15) 0),opI 21 (.extract (.t 15) 1),mvI 6 (.t 20),mvI 7 (.t 21)])
  (.seq (.seq (.reg false [mvI 22 (.t 7),opI 23 (.not (.t 22))])
  (.cond (.t 23) (.seq (.reg false [mvI 4 (.c (.p (.int .u64 0))),mvI 5 (.c (.p (.bool false)))])
  .ret) .skip))
  (.seq (.reg false [opI 24 (.fadr 1 (.t 2)),opI 25 (.load 1 false (.t 24)),mvI 26 (.t 6),opI 27 (.callf f_r01_Cut [(.t 25),(.t 26)]),mvI 4 (.t 27),mvI 5 (.c (.p (.bool true)))])
  .ret))) .skip))
  (.seq (.reg false [opI 8 (.mv (.c .nils) true)])
  (.seq (.seq (.reg false [mvI 9 (kI 0)])
  (.block 0 L0_r08_Value))
  (.seq (.reg false [opI 58 (.fadr 0 (.t 2)),opI 59 (.load 1 false (.t 58)),opI 60 (.fadr 1 (.t 2)),opI 61 (.load 1 false (.t 60)),opI 62 (.fadr 2 (.t 2)),opI 63 (.load 1 false (.t 62)),mvI 64 (.t 8),opI 65 (.callf f_r08_value [(.t 59),(.t 61),(.t 63),(.t 64)]),mvI 4 (.t 65),mvI 5 (.c (.p (.bool true)))])
  .ret))))),false⟩
def B0_r06_count:K :=
  (.seq (.seq (.reg false [mvI 16 (.t 7),opI 17 (.fadr 4 (.t 3)),opI 18 (.load 1 false (.t 17)),opI 19 (.lenS (.t 18)),opI 20 (.arith .lss (.t 16) (.t 19)),mvI 21 (.t 20),⟨some 22,.mv (.t 2) false,some (21,true)⟩,⟨some 23,.arith .geq (.t 22) (kI 0),some (21,true)⟩,opI 24 (.pick (.t 21) (.t 23) (.c (.p (.bool false))))])
  (.cond (.t 24) .skip (.exit 0)))
  (.seq (.block 1 (.reg false [opI 27 (.fadr 4 (.t 3)),opI 28 (.load 1 false (.t 27)),mvI 29 (.t 7),opI 30 (.iadrS 5 (.t 28) (.t 29)),opI 31 (.load 5 true (.t 30)),mvI 32 (.t 1),opI 33 (.arith .sub (.t 32) (kI 1)),mvI 34 (.t 2),opI 35 (.callf f_r06_count [(.t 31),(.t 33),(.t 34)]),mvI 2 (.t 35)]))
  (.reg false [mvI 25 (.t 7),opI 26 (.arith .add (.t 25) (kI 1)),mvI 7 (.t 26)])))
def L0_r06_count:K:=.loop [1,2,3,7] B0_r06_count
def F_r06_count:AFn:=⟨37,[.tmp 6],
  (.seq (.reg false [opI 3 (.box 5 true (.t 0) true),mvI 6 (kI 0)])
  (.seq (.seq (.reg false [mvI 8 (.t 1),opI 9 (.arith .lss (.t 8) (kI 1)),mvI 10 (.t 9),⟨some 11,.mv (.t 2) false,some (10,false)⟩,⟨some 12,.arith .lss (.t 11) (kI 1),some (10,false)⟩,opI 13 (.pick (.t 10) (.c (.p (.bool true))) (.t 12))])
  (.cond (.t 13) (.seq (.reg false [mvI 6 (kI (-1))])
  .ret) .skip))
  (.seq (.reg false [mvI 14 (.t 2),opI 15 (.arith .sub (.t 14) (kI 1)),mvI 2 (.t 15)])
  (.seq (.seq (.reg false [mvI 7 (kI 0)])
  (.block 0 L0_r06_count))
  (.seq (.reg false [mvI 36 (.t 2),mvI 6 (.t 36)])
  .ret))))),false⟩
def B0_term_measure:K :=
  (.seq (.reg false [opI 24 (.arith .lss (.t 23) (.t 22))])
  (.seq (.cond (.t 24) .skip (.exit 0))
  (.seq (.block 1 (.seq (.reg false [opI 25 (.iadrS 5 (.t 21) (.t 23)),opI 26 (.load 5 true (.t 25)),opI 9 (.init 5 true (.t 26) true)])
  (.seq (.reg false [opI 28 (.load 5 true (.t 9)),mvI 29 (.t 1),mvI 30 (.t 2),opI 31 (.arith .sub (.t 30) (kI 1)),opI 32 (.callf f_term_measure [(.t 28),(.t 29),(.t 31)]),mvI 27 (.t 32),opI 33 (.extract (.t 27) 0),opI 34 (.extract (.t 27) 1),mvI 10 (.t 33),mvI 11 (.t 34)])
  (.seq (.seq (.reg false [mvI 35 (.t 11),opI 36 (.not (.t 35))])
  (.cond (.t 36) (.seq (.reg false [mvI 6 (kI 0),mvI 7 (.c (.p (.bool false)))])
  .ret) .skip))
  (.reg false [mvI 37 (.t 10),mvI 1 (.t 37)])))))
  (.reg false [opI 38 (.arith .add (.t 23) (kI 1)),mvI 23 (.t 38)]))))
def L0_term_measure:K:=.loop [1,2,21,22,23] B0_term_measure
def F_term_measure:AFn:=⟨40,[.tmp 6,.tmp 7],
  (.seq (.reg false [opI 3 (.box 5 true (.t 0) true),mvI 6 (kI 0),mvI 7 (.c (.p (.bool false)))])
  (.seq (.seq (.reg false [mvI 12 (.t 1),opI 13 (.arith .lss (.t 12) (kI 1)),mvI 14 (.t 13),⟨some 15,.mv (.t 2) false,some (14,false)⟩,⟨some 16,.arith .lss (.t 15) (kI 1),some (14,false)⟩,opI 17 (.pick (.t 14) (.c (.p (.bool true))) (.t 16))])
  (.cond (.t 17) (.seq (.reg false [mvI 6 (kI 0),mvI 7 (.c (.p (.bool false)))])
  .ret) .skip))
  (.seq (.reg false [mvI 18 (.t 1),opI 19 (.arith .sub (.t 18) (kI 1)),mvI 1 (.t 19)])
  (.seq (.seq (.reg false [opI 20 (.fadr 4 (.t 3)),opI 21 (.load 1 false (.t 20)),opI 22 (.lenS (.t 21)),mvI 23 (kI 0)])
  (.block 0 L0_term_measure))
  (.seq (.reg false [mvI 39 (.t 1),mvI 6 (.t 39),mvI 7 (.c (.p (.bool true)))])
  .ret))))),false⟩
def F_term_All:AFn:=⟨4,[.tmp 2],
  (.seq (.reg false [opI 1 (.box 5 true (.t 0) true),mvI 2 (.c (.p .nilf))])
  (.seq (.reg false [opI 3 (.mkfn f_term_All_1 [(.t 1)]),mvI 2 (.t 3)])
  .ret)),false⟩
def F_term_node:AFn:=⟨82,[.tmp 2],
  (.seq (.reg false [opI 1 (.box 5 true (.t 0) true),mvI 2 (kI 0)])
  (.seq (.block 0 (.seq (.reg true [opI 6 (.fadr 0 (.t 1)),opI 7 (.load 1 false (.t 6)),opI 8 (.callf f_opinfo_Arity [(.t 7)]),opI 9 (.arith .lss (.t 8) (kI 0)),mvI 10 (.t 9),⟨some 11,.fadr 0 (.t 1),some (10,false)⟩,⟨some 12,.load 1 false (.t 11),some (10,false)⟩,⟨some 13,.callf f_opinfo_Pattern [(.t 12)],some (10,false)⟩,opI 14 (.pick (.t 10) (.c (.p (.bool true))) (.t 13)),mvI 15 (.t 14),⟨some 16,.fadr 4 (.t 1),some (15,false)⟩,⟨some 17,.load 1 false (.t 16),some (15,false)⟩,⟨some 18,.lenS (.t 17),some (15,false)⟩,⟨some 19,.fadr 0 (.t 1),some (15,false)⟩,⟨some 20,.load 1 false (.t 19),some (15,false)⟩,⟨some 21,.callf f_opinfo_Arity [(.t 20)],some (15,false)⟩,⟨some 22,.arith .neq (.t 18) (.t 21),some (15,false)⟩,opI 23 (.pick (.t 15) (.c (.p (.bool true))) (.t 22)),mvI 5 (.t 23)])
  (.cond (.t 5) (.seq (.reg false [mvI 2 (kI 4)])
  .ret) (.seq (.reg false [opI 25 (.fadr 0 (.t 1)),opI 26 (.load 1 false (.t 25)),opI 27 (.arith .neq (.t 26) (kI 1)),mvI 28 (.t 27),⟨some 29,.fadr 3 (.t 1),some (28,true)⟩,⟨some 30,.load 1 false (.t 29),some (28,true)⟩,⟨some 31,.arith .neq (.t 30) (.c (.p (.str (bs [])))),some (28,true)⟩,opI 32 (.pick (.t 28) (.t 31) (.c (.p (.bool false)))),mvI 24 (.t 32)])
  (.cond (.t 24) (.seq (.reg false [mvI 2 (kI 4)])
  .ret) (.seq (.reg false [opI 34 (.fadr 0 (.t 1)),opI 35 (.load 1 false (.t 34)),opI 36 (.arith .neq (.t 35) (kI 2)),mvI 37 (.t 36),⟨some 38,.fadr 0 (.t 1),some (37,true)⟩,⟨some 39,.load 1 false (.t 38),some (37,true)⟩,⟨some 40,.arith .neq (.t 39) (kI 21),some (37,true)⟩,opI 41 (.pick (.t 37) (.t 40) (.c (.p (.bool false)))),mvI 42 (.t 41),⟨some 43,.fadr 2 (.t 1),some (42,true)⟩,⟨some 44,.load 1 false (.t 43),some (42,true)⟩,⟨some 45,.arith .neq (.t 44) (.c (.p (.int .u64 0))),some (42,true)⟩,opI 46 (.pick (.t 42) (.t 45) (.c (.p (.bool false)))),mvI 33 (.t 46)])
  (.cond (.t 33) (.seq (.reg false [mvI 2 (kI 4)])
  .ret) (.seq (.reg false [opI 48 (.fadr 0 (.t 1)),opI 49 (.load 1 false (.t 48)),opI 50 (.arith .eql (.t 49) (kI 1)),mvI 51 (.t 50),⟨some 52,.fadr 3 (.t 1),some (51,true)⟩,⟨some 53,.load 1 false (.t 52),some (51,true)⟩,⟨some 54,.callf f_term_Name [(.t 53)],some (51,true)⟩,⟨some 55,.not (.t 54),some (51,true)⟩,opI 56 (.pick (.t 51) (.t 55) (.c (.p (.bool false)))),mvI 47 (.t 56)])
  (.cond (.t 47) (.seq (.reg false [mvI 2 (kI 5)])
  .ret) (.seq (.reg false [opI 58 (.fadr 1 (.t 1)),opI 59 (.load 1 false (.t 58)),opI 60 (.arith .lss (.t 59) (kI 1)),mvI 57 (.t 60)])
  (.cond (.t 57) (.seq (.reg false [mvI 2 (kI 3)])
  .ret) .skip)))))))))))
  (.seq (.seq (.reg true [opI 62 (.fadr 0 (.t 1)),opI 63 (.load 1 false (.t 62)),opI 64 (.fadr 1 (.t 1)),opI 65 (.load 1 false (.t 64)),opI 66 (.fadr 2 (.t 1)),opI 67 (.load 1 false (.t 66)),opI 68 (.fadr 4 (.t 1)),opI 69 (.load 1 false (.t 68)),opI 70 (.callf f_term_widths [(.t 69)]),opI 71 (.callf f_opinfo_Width [(.t 63),(.t 65),(.t 67),(.t 70)]),mvI 61 (.t 71),opI 72 (.extract (.t 61) 0),opI 73 (.extract (.t 61) 1),mvI 3 (.t 72),mvI 4 (.t 73)])
  (.seq (.reg false [mvI 74 (.t 4),opI 75 (.arith .neq (.t 74) (kI 0)),mvI 76 (.t 75),⟨some 77,.mv (.t 3) false,some (76,false)⟩,⟨some 78,.fadr 1 (.t 1),some (76,false)⟩,⟨some 79,.load 1 false (.t 78),some (76,false)⟩,⟨some 80,.arith .neq (.t 77) (.t 79),some (76,false)⟩,opI 81 (.pick (.t 76) (.c (.p (.bool true))) (.t 80))])
  (.cond (.t 81) (.seq (.reg false [mvI 2 (kI 3)])
  .ret) .skip)))
  (.seq (.reg false [mvI 2 (kI 0)])
  .ret)))),false⟩
def B0_term_preorder:K :=
  (.seq (.reg false [opI 15 (.arith .lss (.t 14) (.t 13))])
  (.seq (.cond (.t 15) .skip (.exit 0))
  (.seq (.block 1 (.seq (.reg false [opI 16 (.iadrS 5 (.t 12) (.t 14)),opI 17 (.load 5 true (.t 16)),opI 6 (.init 5 true (.t 17) true)])
  (.seq (.reg false [opI 18 (.load 5 true (.t 6)),mvI 19 (.t 1),opI 20 (.callf f_term_preorder [(.t 18),(.t 19)]),opI 21 (.not (.t 20))])
  (.cond (.t 21) (.seq (.reg false [mvI 4 (.c (.p (.bool false)))])
  .ret) .skip))))
  (.reg false [opI 22 (.arith .add (.t 14) (kI 1)),mvI 14 (.t 22)]))))
def L0_term_preorder:K:=.loop [1,12,13,14] B0_term_preorder
def F_term_preorder:AFn:=⟨23,[.tmp 4],
  (.seq (.reg false [opI 2 (.box 5 true (.t 0) true),mvI 4 (.c (.p (.bool false)))])
  (.seq (.seq (.reg false [mvI 7 (.t 1),opI 8 (.load 5 true (.t 2)),opI 9 (.callv (.t 7) [(.t 8)]),opI 10 (.not (.t 9))])
  (.cond (.t 10) (.seq (.reg false [mvI 4 (.c (.p (.bool false)))])
  .ret) .skip))
  (.seq (.seq (.reg false [opI 11 (.fadr 4 (.t 2)),opI 12 (.load 1 false (.t 11)),opI 13 (.lenS (.t 12)),mvI 14 (kI 0)])
  (.block 0 L0_term_preorder))
  (.seq (.reg false [mvI 4 (.c (.p (.bool true)))])
  .ret)))),true⟩
def F_term_Vars_1:AFn:=⟨23,[.tmp 3],
  (.seq (.reg false [opI 2 (.box 5 true (.t 0) true),mvI 3 (.c (.p (.bool false)))])
  (.seq (.reg false [opI 5 (.mkfn f_term_Vars_1_1 [(.t 2)]),mvI 4 (.t 5)])
  (.seq (.seq (.reg false [opI 6 (.fadr 0 (.t 2)),opI 7 (.load 1 false (.t 6)),opI 8 (.arith .eql (.t 7) (kI 1)),mvI 9 (.t 8),⟨some 10,.load 1 false (.t 1),some (9,true)⟩,⟨some 11,.mv (.t 4) false,some (9,true)⟩,⟨some 12,.callf f_slices_ContainsFunc_api_Var_api_Var [(.t 10),(.t 11)],some (9,true)⟩,⟨some 13,.not (.t 12),some (9,true)⟩,opI 14 (.pick (.t 9) (.t 13) (.c (.p (.bool false))))])
  (.cond (.t 14) (.reg false [opI 15 (.load 1 false (.t 1)),opI 16 (.fadr 3 (.t 2)),opI 17 (.load 1 false (.t 16)),opI 18 (.fadr 1 (.t 2)),opI 19 (.load 1 false (.t 18)),opI 20 (.build [(.p (.str (bs []))),(.p (.int .i64 0))] [(0,1,(.t 17)),(1,1,(.t 19))]),opI 21 (.bslice 2 [(.p (.str (bs []))),(.p (.int .i64 0))] 1 [(0,2,(.t 20))]),opI 22 (.append 2 24 (.t 15) (.t 21)),⟨none,.store 1 (.t 1) (.t 22),none⟩]) .skip))
  (.seq (.reg false [mvI 3 (.c (.p (.bool true)))])
  .ret)))),true⟩
def F_term_Vars_1_1:AFn:=⟨9,[.tmp 3],
  (.seq (.reg false [opI 2 (.box 2 true (.t 0) true),mvI 3 (.c (.p (.bool false)))])
  (.seq (.reg false [opI 4 (.fadr 0 (.t 2)),opI 5 (.load 1 false (.t 4)),opI 6 (.fadr 3 (.t 1)),opI 7 (.load 1 false (.t 6)),opI 8 (.arith .eql (.t 5) (.t 7)),mvI 3 (.t 8)])
  .ret)),false⟩
def F_slices_ContainsFunc_api_Var_api_Var:AFn:=⟨9,[.tmp 4],
  (.seq (.reg false [mvI 4 (.c (.p (.bool false)))])
  (.seq (.reg false [mvI 5 (.t 0),mvI 6 (.t 1),opI 7 (.callf f_slices_IndexFunc_api_Var_api_Var [(.t 5),(.t 6)]),opI 8 (.arith .geq (.t 7) (kI 0)),mvI 4 (.t 8)])
  .ret)),false⟩
def F_term_Vars_2:AFn:=⟨10,[.tmp 4],
  (.seq (.reg false [opI 2 (.box 2 true (.t 0) true),opI 3 (.box 2 true (.t 1) true),mvI 4 (kI 0)])
  (.seq (.reg false [opI 5 (.fadr 0 (.t 2)),opI 6 (.load 1 false (.t 5)),opI 7 (.fadr 0 (.t 3)),opI 8 (.load 1 false (.t 7)),opI 9 (.callf f_strings_Compare [(.t 6),(.t 8)]),mvI 4 (.t 9)])
  .ret)),false⟩
def F_strings_Compare:AFn:=⟨8,[.tmp 4],
  (.seq (.reg false [mvI 4 (kI 0)])
  (.seq (.reg false [mvI 5 (.t 0),mvI 6 (.t 1),opI 7 (.callf f_internal_bytealg_CompareString [(.t 5),(.t 6)]),mvI 4 (.t 7)])
  .ret)),false⟩
def F_cmp_isNaN_string:AFn:=⟨6,[.tmp 2],
  (.seq (.reg false [mvI 2 (.c (.p (.bool false)))])
  (.seq (.reg false [mvI 3 (.t 0),mvI 4 (.t 0),opI 5 (.arith .neq (.t 3) (.t 4)),mvI 2 (.t 5)])
  .ret)),false⟩
def F_cmp_isNaN_int:AFn:=⟨6,[.tmp 2],
  (.seq (.reg false [mvI 2 (.c (.p (.bool false)))])
  (.seq (.reg false [mvI 3 (.t 0),mvI 4 (.t 0),opI 5 (.arith .neq (.t 3) (.t 4)),mvI 2 (.t 5)])
  .ret)),false⟩
def B0_r06_nodes:K :=
  (.seq (.seq (.reg false [mvI 5 (.t 3),opI 6 (.fadr 4 (.t 1)),opI 7 (.load 1 false (.t 6)),opI 8 (.lenS (.t 7)),opI 9 (.arith .lss (.t 5) (.t 8))])
  (.cond (.t 9) .skip (.exit 0)))
  (.seq (.block 1 (.seq (.reg false [opI 12 (.fadr 4 (.t 1)),opI 13 (.load 1 false (.t 12)),mvI 14 (.t 3),opI 15 (.iadrS 5 (.t 13) (.t 14)),opI 16 (.load 5 true (.t 15)),opI 17 (.callf f_r06_nodes [(.t 16)]),mvI 4 (.t 17)])
  (.seq (.reg false [mvI 18 (.t 4),opI 19 (.arith .neq (.t 18) (kI 0))])
  (.cond (.t 19) (.seq (.reg false [mvI 20 (.t 4),mvI 2 (.t 20)])
  .ret) .skip))))
  (.reg false [mvI 10 (.t 3),opI 11 (.arith .add (.t 10) (kI 1)),mvI 3 (.t 11)])))
def L0_r06_nodes:K:=.loop [1,3] B0_r06_nodes
def F_r06_nodes:AFn:=⟨23,[.tmp 2],
  (.seq (.reg false [opI 1 (.box 5 true (.t 0) true),mvI 2 (kI 0)])
  (.seq (.seq (.reg false [mvI 3 (kI 0)])
  (.block 0 L0_r06_nodes))
  (.seq (.reg false [opI 21 (.load 5 true (.t 1)),opI 22 (.callf f_r06_Node [(.t 21)]),mvI 2 (.t 22)])
  .ret))),false⟩
def B0_r06_Post:K :=
  (.seq (.seq (.reg false [mvI 5 (.t 4),opI 6 (.fadr 4 (.t 1)),opI 7 (.load 1 false (.t 6)),opI 8 (.lenS (.t 7)),opI 9 (.arith .lss (.t 5) (.t 8))])
  (.cond (.t 9) .skip (.exit 0)))
  (.seq (.block 1 (.reg false [mvI 12 (.t 3),opI 13 (.fadr 4 (.t 1)),opI 14 (.load 1 false (.t 13)),mvI 15 (.t 4),opI 16 (.iadrS 5 (.t 14) (.t 15)),opI 17 (.load 5 true (.t 16)),opI 18 (.callf f_r06_Post [(.t 17)]),opI 19 (.append 5 64 (.t 12) (.t 18)),opI 3 (.mv (.t 19) true)]))
  (.reg false [mvI 10 (.t 4),opI 11 (.arith .add (.t 10) (kI 1)),mvI 4 (.t 11)])))
def L0_r06_Post:K:=.loop [1,3,4] B0_r06_Post
def F_r06_Post:AFn:=⟨24,[.tmp 2],
  (.seq (.reg false [opI 1 (.box 5 true (.t 0) true),mvI 2 (.c .nils)])
  (.seq (.reg false [opI 3 (.mv (.c .nils) true)])
  (.seq (.seq (.reg false [mvI 4 (kI 0)])
  (.block 0 L0_r06_Post))
  (.seq (.reg false [mvI 20 (.t 3),opI 21 (.load 5 true (.t 1)),opI 22 (.bslice 5 [(.p (.int .i64 0)),(.p (.int .i64 0)),(.p (.int .u64 0)),(.p (.str (bs []))),.nils] 1 [(0,5,(.t 21))]),opI 23 (.append 5 64 (.t 20) (.t 22)),mvI 2 (.t 23)])
  .ret)))),false⟩
def B1_r06_Vars:K :=
  (.seq (.seq (.reg true [mvI 22 (.t 6),mvI 23 (.t 3),opI 24 (.lenS (.t 23)),opI 25 (.arith .lss (.t 22) (.t 24)),mvI 26 (.t 25),⟨some 27,.mv (.t 3) false,some (26,true)⟩,⟨some 28,.mv (.t 6) false,some (26,true)⟩,⟨some 29,.iadrS 2 (.t 27) (.t 28),some (26,true)⟩,⟨some 30,.fadr 0 (.t 29),some (26,true)⟩,⟨some 31,.load 1 false (.t 30),some (26,true)⟩,⟨some 32,.mv (.t 4) false,some (26,true)⟩,⟨some 33,.mv (.t 5) false,some (26,true)⟩,⟨some 34,.iadrS 5 (.t 32) (.t 33),some (26,true)⟩,⟨some 35,.fadr 3 (.t 34),some (26,true)⟩,⟨some 36,.load 1 false (.t 35),some (26,true)⟩,⟨some 37,.arith .lss (.t 31) (.t 36),some (26,true)⟩,opI 38 (.pick (.t 26) (.t 37) (.c (.p (.bool false))))])
  (.cond (.t 38) .skip (.exit 2)))
  (.block 3 (.reg false [mvI 39 (.t 6),opI 40 (.arith .add (.t 39) (kI 1)),mvI 6 (.t 40)])))
def L1_r06_Vars:K:=.loop [3,4,5,6] B1_r06_Vars
def B0_r06_Vars:K :=
  (.seq (.seq (.reg false [mvI 10 (.t 5),mvI 11 (.t 4),opI 12 (.lenS (.t 11)),opI 13 (.arith .lss (.t 10) (.t 12))])
  (.cond (.t 13) .skip (.exit 0)))
  (.seq (.block 1 (.seq (.seq (.reg false [mvI 16 (.t 4),mvI 17 (.t 5),opI 18 (.iadrS 5 (.t 16) (.t 17)),opI 19 (.fadr 0 (.t 18)),opI 20 (.load 1 false (.t 19)),opI 21 (.arith .neq (.t 20) (kI 1))])
  (.cond (.t 21) (.exit 1) .skip))
  (.seq (.reg false [mvI 6 (kI 0)])
  (.seq (.block 2 L1_r06_Vars)
  (.seq (.seq (.reg true [mvI 41 (.t 6),mvI 42 (.t 3),opI 43 (.lenS (.t 42)),opI 44 (.arith .lss (.t 41) (.t 43)),mvI 45 (.t 44),⟨some 46,.mv (.t 3) false,some (45,true)⟩,⟨some 47,.mv (.t 6) false,some (45,true)⟩,⟨some 48,.iadrS 2 (.t 46) (.t 47),some (45,true)⟩,⟨some 49,.fadr 0 (.t 48),some (45,true)⟩,⟨some 50,.load 1 false (.t 49),some (45,true)⟩,⟨some 51,.mv (.t 4) false,some (45,true)⟩,⟨some 52,.mv (.t 5) false,some (45,true)⟩,⟨some 53,.iadrS 5 (.t 51) (.t 52),some (45,true)⟩,⟨some 54,.fadr 3 (.t 53),some (45,true)⟩,⟨some 55,.load 1 false (.t 54),some (45,true)⟩,⟨some 56,.arith .eql (.t 50) (.t 55),some (45,true)⟩,opI 57 (.pick (.t 45) (.t 56) (.c (.p (.bool false))))])
  (.cond (.t 57) (.exit 1) .skip))
  (.seq (.reg false [opI 7 (.mv (.c .nils) true)])
  (.seq (.reg false [mvI 58 (.t 7),opI 59 (.frz (.t 3)),mvI 60 (.t 6),opI 61 (.slcS 2 (.t 59) none (some (.t 60)) none),opI 62 (.append 2 24 (.t 58) (.t 61)),opI 7 (.mv (.t 62) true)])
  (.seq (.reg true [mvI 63 (.t 7),mvI 64 (.t 4),mvI 65 (.t 5),opI 66 (.iadrS 5 (.t 64) (.t 65)),opI 67 (.fadr 3 (.t 66)),opI 68 (.load 1 false (.t 67)),mvI 69 (.t 4),mvI 70 (.t 5),opI 71 (.iadrS 5 (.t 69) (.t 70)),opI 72 (.fadr 1 (.t 71)),opI 73 (.load 1 false (.t 72)),opI 74 (.build [(.p (.str (bs []))),(.p (.int .i64 0))] [(0,1,(.t 68)),(1,1,(.t 73))]),opI 75 (.bslice 2 [(.p (.str (bs []))),(.p (.int .i64 0))] 1 [(0,2,(.t 74))]),opI 76 (.append 2 24 (.t 63) (.t 75)),opI 7 (.mv (.t 76) true)])
  (.reg false [mvI 77 (.t 7),opI 78 (.frz (.t 3)),mvI 79 (.t 6),opI 80 (.slcS 2 (.t 78) (some (.t 79)) none none),opI 81 (.append 2 24 (.t 77) (.t 80)),mvI 3 (.t 81)])))))))))
  (.reg false [mvI 14 (.t 5),opI 15 (.arith .add (.t 14) (kI 1)),mvI 5 (.t 15)])))
def L0_r06_Vars:K:=.loop [3,4,5] B0_r06_Vars
def F_r06_Vars:AFn:=⟨83,[.tmp 2],
  (.seq (.reg false [opI 1 (.box 5 true (.t 0) true),mvI 2 (.c .nils)])
  (.seq (.reg false [mvI 3 (.c .nils)])
  (.seq (.reg false [opI 8 (.load 5 true (.t 1)),opI 9 (.callf f_r06_Pre [(.t 8)]),mvI 4 (.t 9)])
  (.seq (.seq (.reg false [mvI 5 (kI 0)])
  (.block 0 L0_r06_Vars))
  (.seq (.reg false [mvI 82 (.t 3),mvI 2 (.t 82)])
  .ret))))),false⟩
def B0_slices_IndexFunc_api_Term_api_Term:K :=
  (.seq (.reg false [opI 9 (.arith .lss (.t 8) (.t 7))])
  (.seq (.cond (.t 9) .skip (.exit 0))
  (.seq (.block 1 (.seq (.reg false [mvI 10 (.t 8),mvI 5 (.t 10)])
  (.seq (.reg false [mvI 11 (.t 1),mvI 12 (.t 0),mvI 13 (.t 5),opI 14 (.iadrS 5 (.t 12) (.t 13)),opI 15 (.load 5 true (.t 14)),opI 16 (.callv (.t 11) [(.t 15)])])
  (.cond (.t 16) (.seq (.reg false [mvI 17 (.t 5),mvI 4 (.t 17)])
  .ret) .skip))))
  (.reg false [opI 18 (.arith .add (.t 8) (kI 1)),mvI 8 (.t 18)]))))
def L0_slices_IndexFunc_api_Term_api_Term:K:=.loop [0,1,7,8] B0_slices_IndexFunc_api_Term_api_Term
def F_slices_IndexFunc_api_Term_api_Term:AFn:=⟨19,[.tmp 4],
  (.seq (.reg false [mvI 4 (kI 0)])
  (.seq (.seq (.reg false [mvI 6 (.t 0),opI 7 (.lenS (.t 6)),mvI 8 (kI 0)])
  (.block 0 L0_slices_IndexFunc_api_Term_api_Term))
  (.seq (.reg false [mvI 4 (kI (-1))])
  .ret))),false⟩
def B0_eval_Table:K :=
  (.seq (.reg false [opI 33 (.arith .lss (.t 32) (.t 31))])
  (.seq (.cond (.t 33) .skip (.exit 0))
  (.seq (.block 1 (.seq (.reg false [mvI 34 (.t 32),opI 35 (.iadrS 2 (.t 30) (.t 32)),opI 36 (.load 2 true (.t 35)),opI 9 (.alloc [(.p (.str (bs []))),(.p (.int .i64 0))] 2),mvI 8 (.t 34),⟨none,.store 2 (.t 9) (.t 36),none⟩])
  (.seq (.seq (.reg false [opI 38 (.load 1 false (.t 7)),opI 39 (.fadr 0 (.t 9)),opI 40 (.load 1 false (.t 39)),opI 41 (.lookup .str (.p (.int .i64 0)) (.t 38) (.t 40) true),mvI 37 (.t 41),opI 42 (.extract (.t 37) 0),opI 43 (.extract (.t 37) 1),mvI 10 (.t 42),mvI 11 (.t 43)])
  (.seq (.reg false [mvI 44 (.t 11)])
  (.cond (.t 44) (.seq (.reg false [mvI 4 (.c .nils),mvI 5 (kI 12)])
  .ret) .skip)))
  (.reg false [opI 45 (.load 1 false (.t 7)),opI 46 (.fadr 0 (.t 9)),opI 47 (.load 1 false (.t 46)),mvI 48 (.t 8),⟨none,.mupd .str (.t 45) (.t 47) (.t 48),none⟩]))))
  (.reg false [opI 49 (.arith .add (.t 32) (kI 1)),mvI 32 (.t 49)]))))
def L0_eval_Table:K:=.loop [1,2,7,30,31,32] B0_eval_Table
def B1_eval_Table:K :=
  (.seq (.reg false [opI 54 (.arith .lss (.t 53) (.t 52))])
  (.seq (.cond (.t 54) .skip (.exit 2))
  (.seq (.block 3 (.seq (.reg false [opI 55 (.iadrS 2 (.t 51) (.t 53)),opI 56 (.load 2 true (.t 55)),opI 13 (.init 2 true (.t 56) true)])
  (.seq (.reg false [opI 58 (.load 1 false (.t 7)),opI 59 (.fadr 0 (.t 13)),opI 60 (.load 1 false (.t 59)),opI 61 (.lookup .str (.p (.int .i64 0)) (.t 58) (.t 60) true),mvI 57 (.t 61),opI 62 (.extract (.t 57) 0),opI 63 (.extract (.t 57) 1),mvI 14 (.t 62),mvI 15 (.t 63)])
  (.seq (.reg true [mvI 64 (.t 15),opI 65 (.not (.t 64)),mvI 66 (.t 65),⟨some 67,.mv (.t 1) false,some (66,false)⟩,⟨some 68,.mv (.t 14) false,some (66,false)⟩,⟨some 69,.iadrS 2 (.t 67) (.t 68),some (66,false)⟩,⟨some 70,.fadr 1 (.t 69),some (66,false)⟩,⟨some 71,.load 1 false (.t 70),some (66,false)⟩,⟨some 72,.fadr 1 (.t 13),some (66,false)⟩,⟨some 73,.load 1 false (.t 72),some (66,false)⟩,⟨some 74,.arith .neq (.t 71) (.t 73),some (66,false)⟩,opI 75 (.pick (.t 66) (.c (.p (.bool true))) (.t 74))])
  (.cond (.t 75) (.seq (.reg false [mvI 4 (.c .nils),mvI 5 (kI 12)])
  .ret) .skip)))))
  (.reg false [opI 76 (.arith .add (.t 53) (kI 1)),mvI 53 (.t 76)]))))
def L1_eval_Table:K:=.loop [1,2,7,51,52,53] B1_eval_Table
def B2_eval_Table:K :=
  (.seq (.reg false [opI 80 (.arith .lss (.t 79) (.t 78))])
  (.seq (.cond (.t 80) .skip (.exit 4))
  (.seq (.block 5 (.seq (.reg false [opI 81 (.iadrS 2 (.t 77) (.t 79)),opI 82 (.load 2 true (.t 81)),opI 18 (.init 2 true (.t 82) true)])
  (.seq (.reg false [opI 83 (.fadr 1 (.t 18)),opI 84 (.load 1 false (.t 83)),opI 85 (.arith .lss (.t 84) (kI 1)),mvI 86 (.t 85),⟨some 87,.fadr 1 (.t 18),some (86,false)⟩,⟨some 88,.load 1 false (.t 87),some (86,false)⟩,⟨some 89,.arith .gtr (.t 88) (kI 64),some (86,false)⟩,opI 90 (.pick (.t 86) (.c (.p (.bool true))) (.t 89))])
  (.cond (.t 90) (.seq (.reg false [mvI 4 (.c .nils),mvI 5 (kI 3)])
  .ret) .skip))))
  (.reg false [opI 91 (.arith .add (.t 79) (kI 1)),mvI 79 (.t 91)]))))
def L2_eval_Table:K:=.loop [1,2,7,16,77,78,79] B2_eval_Table
def B3_eval_Table:K :=
  (.seq (.reg false [opI 98 (.arith .lss (.t 97) (.t 96))])
  (.seq (.cond (.t 98) .skip (.exit 6))
  (.seq (.block 7 (.seq (.reg false [mvI 99 (.t 97),opI 100 (.iadrS 2 (.t 95) (.t 97)),opI 101 (.load 2 true (.t 100)),opI 21 (.alloc [(.p (.str (bs []))),(.p (.int .i64 0))] 2),mvI 20 (.t 99),⟨none,.store 2 (.t 21) (.t 101),none⟩])
  (.seq (.reg false [opI 102 (.load 1 false (.t 19)),mvI 103 (.t 20),mvI 104 (.t 16),opI 105 (.iadrS 1 (.t 102) (.t 103)),⟨none,.store 1 (.t 105) (.t 104),none⟩])
  (.seq (.reg false [mvI 106 (.t 16),opI 107 (.fadr 1 (.t 21)),opI 108 (.load 1 false (.t 107)),opI 109 (.arith .add (.t 106) (.t 108)),mvI 16 (.t 109)])
  (.seq (.reg false [mvI 110 (.t 16),opI 111 (.arith .gtr (.t 110) (kI 16))])
  (.cond (.t 111) (.seq (.reg false [mvI 4 (.c .nils),mvI 5 (kI 7)])
  .ret) .skip))))))
  (.reg false [opI 112 (.arith .add (.t 97) (kI 1)),mvI 97 (.t 112)]))))
def L3_eval_Table:K:=.loop [2,7,16,19,95,96,97] B3_eval_Table
def B4_eval_Table:K :=
  (.seq (.reg false [opI 119 (.arith .lss (.t 118) (.t 117))])
  (.seq (.cond (.t 119) .skip (.exit 8))
  (.seq (.block 9 (.seq (.reg false [mvI 120 (.t 118),opI 23 (.init 1 false (.t 120) true)])
  (.reg false [mvI 121 (.t 22),opI 122 (.load 5 true (.t 2)),opI 123 (.mkfn f_eval_Table_1 [(.t 23),(.t 19),(.t 7)]),opI 124 (.callf f_eval_value [(.t 122),(.t 123)]),opI 125 (.bslice 1 [(.p (.int .u64 0))] 1 [(0,1,(.t 124))]),opI 126 (.append 1 8 (.t 121) (.t 125)),opI 22 (.mv (.t 126) true)])))
  (.reg false [opI 127 (.arith .add (.t 118) (kI 1)),mvI 118 (.t 127)]))))
def L4_eval_Table:K:=.loop [2,7,19,22,117,118] B4_eval_Table
def F_eval_Table:AFn:=⟨129,[.tmp 4,.tmp 5],
  (.seq (.reg false [opI 2 (.box 5 true (.t 0) true),mvI 4 (.c .nils),mvI 5 (kI 0)])
  (.seq (.seq (.reg false [opI 24 (.load 5 true (.t 2)),opI 25 (.callf f_term_Check [(.t 24)]),mvI 6 (.t 25)])
  (.seq (.reg false [mvI 26 (.t 6),opI 27 (.arith .neq (.t 26) (kI 0))])
  (.cond (.t 27) (.seq (.reg false [mvI 28 (.t 6),mvI 4 (.c .nils),mvI 5 (.t 28)])
  .ret) .skip)))
  (.seq (.reg false [opI 29 (.mkmap),opI 7 (.init 1 false (.t 29) true)])
  (.seq (.seq (.reg false [mvI 30 (.t 1),opI 31 (.lenS (.t 30)),mvI 32 (kI 0)])
  (.block 0 L0_eval_Table))
  (.seq (.seq (.reg false [opI 50 (.load 5 true (.t 2)),opI 51 (.callf f_term_Vars [(.t 50)]),opI 52 (.lenS (.t 51)),mvI 53 (kI 0)])
  (.block 2 L1_eval_Table))
  (.seq (.reg false [mvI 16 (kI 0)])
  (.seq (.seq (.reg false [mvI 77 (.t 1),opI 78 (.lenS (.t 77)),mvI 79 (kI 0)])
  (.block 4 L2_eval_Table))
  (.seq (.reg false [mvI 92 (.t 1),opI 93 (.lenS (.t 92)),opI 94 (.mkslice 1 8 [(.p (.int .i64 0))] (.t 93) (.t 93)),opI 19 (.init 1 false (.t 94) true)])
  (.seq (.seq (.reg false [mvI 95 (.t 1),opI 96 (.lenS (.t 95)),mvI 97 (kI 0)])
  (.block 6 L3_eval_Table))
  (.seq (.reg false [mvI 113 (.t 16),opI 114 (.arith .shl (kI 1) (.t 113)),opI 115 (.mkslice 1 8 [(.p (.int .u64 0))] (kI 0) (.t 114)),opI 22 (.mv (.t 115) true)])
  (.seq (.seq (.reg false [mvI 116 (.t 16),opI 117 (.arith .shl (kI 1) (.t 116)),mvI 118 (kI 0)])
  (.block 8 L4_eval_Table))
  (.seq (.reg false [mvI 128 (.t 22),mvI 4 (.t 128),mvI 5 (kI 0)])
  .ret)))))))))))),false⟩
def B0_exhaust_assignments_1:K :=
  (.seq (.reg false [opI 9 (.arith .lss (.t 8) (.t 7))])
  (.seq (.cond (.t 9) .skip (.exit 0))
  (.seq (.block 1 (.seq (.reg false [mvI 10 (.t 8),opI 4 (.init 1 false (.t 10) true)])
  (.seq (.reg false [opI 11 (.mkfn f_exhaust_assignments_1_1 [(.t 4),(.t 2)]),mvI 5 (.t 11)])
  (.seq (.reg false [mvI 12 (.t 0),opI 13 (.load 1 false (.t 4)),mvI 14 (.t 5),opI 15 (.callv (.t 12) [(.t 13),(.t 14)]),opI 16 (.not (.t 15))])
  (.cond (.t 16) .ret .skip)))))
  (.reg false [opI 17 (.arith .add (.t 8) (kI 1)),mvI 8 (.t 17)]))))
def L0_exhaust_assignments_1:K:=.loop [0,2,7,8] B0_exhaust_assignments_1
def F_exhaust_assignments_1:AFn:=⟨18,[],
  (.seq (.reg false [opI 6 (.load 1 false (.t 1)),opI 7 (.arith .shl (kI 1) (.t 6)),mvI 8 (kI 0)])
  (.block 0 L0_exhaust_assignments_1)),true⟩
def B0_exhaust_assignments_1_1:K :=
  (.seq (.reg false [opI 12 (.arith .lss (.t 11) (.t 10))])
  (.seq (.cond (.t 12) .skip (.exit 0))
  (.seq (.block 1 (.seq (.reg false [opI 13 (.iadrS 2 (.t 9) (.t 11)),opI 14 (.load 2 true (.t 13)),opI 6 (.init 2 true (.t 14) true)])
  (.seq (.reg true [mvI 15 (.t 3),opI 16 (.fadr 0 (.t 6)),opI 17 (.load 1 false (.t 16)),mvI 18 (.t 4),opI 19 (.fadr 1 (.t 6)),opI 20 (.load 1 false (.t 19)),opI 21 (.arith .shl (.c (.p (.int .u64 1))) (.t 20)),opI 22 (.arith .sub (.t 21) (.c (.p (.int .u64 1)))),opI 23 (.arith .and (.t 18) (.t 22)),opI 24 (.build [(.p (.str (bs []))),(.p (.int .u64 0))] [(0,1,(.t 17)),(1,1,(.t 23))]),opI 25 (.bslice 2 [(.p (.str (bs []))),(.p (.int .u64 0))] 1 [(0,2,(.t 24))]),opI 26 (.append 2 24 (.t 15) (.t 25)),opI 3 (.mv (.t 26) true)])
  (.reg false [mvI 27 (.t 4),opI 28 (.fadr 1 (.t 6)),opI 29 (.load 1 false (.t 28)),opI 30 (.arith .shr (.t 27) (.t 29)),mvI 4 (.t 30)]))))
  (.reg false [opI 31 (.arith .add (.t 11) (kI 1)),mvI 11 (.t 31)]))))
def L0_exhaust_assignments_1_1:K:=.loop [3,4,9,10,11] B0_exhaust_assignments_1_1
def F_exhaust_assignments_1_1:AFn:=⟨33,[.tmp 2],
  (.seq (.reg false [mvI 2 (.c .nils)])
  (.seq (.reg false [opI 3 (.mv (.c .nils) true)])
  (.seq (.reg false [opI 7 (.load 1 false (.t 0)),opI 8 (.conv .u64 (.t 7)),mvI 4 (.t 8)])
  (.seq (.seq (.reg false [opI 9 (.load 1 false (.t 1)),opI 10 (.lenS (.t 9)),mvI 11 (kI 0)])
  (.block 0 L0_exhaust_assignments_1_1))
  (.seq (.reg false [mvI 32 (.t 3),mvI 2 (.t 32)])
  .ret))))),false⟩
def B0_r01_Cut:K :=
  (.seq (.reg false [opI 10 (.arith .lss (.t 9) (.t 8))])
  (.seq (.cond (.t 10) .skip (.exit 0))
  (.seq (.block 1 (.seq (.reg false [mvI 11 (.t 9),mvI 6 (.t 11)])
  (.reg false [mvI 12 (.t 5),mvI 13 (.t 1),mvI 14 (.t 6),opI 15 (.callf f_r01_Bit [(.t 13),(.t 14)]),mvI 16 (.t 6),opI 17 (.conv .u64 (.t 16)),opI 18 (.arith .shl (.t 15) (.t 17)),opI 19 (.arith .or (.t 12) (.t 18)),mvI 5 (.t 19)])))
  (.reg false [opI 20 (.arith .add (.t 9) (kI 1)),mvI 9 (.t 20)]))))
def L0_r01_Cut:K:=.loop [1,5,8,9] B0_r01_Cut
def F_r01_Cut:AFn:=⟨22,[.tmp 4],
  (.seq (.reg false [mvI 4 (.c (.p (.int .u64 0)))])
  (.seq (.reg false [mvI 5 (.c (.p (.int .u64 0)))])
  (.seq (.seq (.reg false [mvI 7 (.t 0),opI 8 (.callf f_r01_W [(.t 7)]),mvI 9 (kI 0)])
  (.block 0 L0_r01_Cut))
  (.seq (.reg false [mvI 21 (.t 5),mvI 4 (.t 21)])
  .ret)))),false⟩
def B0_r08_Look:K :=
  (.seq (.seq (.reg false [mvI 7 (.t 6),mvI 8 (.t 0),opI 9 (.lenS (.t 8)),opI 10 (.arith .lss (.t 7) (.t 9))])
  (.cond (.t 10) .skip (.exit 0)))
  (.seq (.block 1 (.seq (.reg false [mvI 13 (.t 0),mvI 14 (.t 6),opI 15 (.iadrS 2 (.t 13) (.t 14)),opI 16 (.fadr 0 (.t 15)),opI 17 (.load 1 false (.t 16)),mvI 18 (.t 1),opI 19 (.arith .eql (.t 17) (.t 18))])
  (.cond (.t 19) (.seq (.reg false [mvI 20 (.t 0),mvI 21 (.t 6),opI 22 (.iadrS 2 (.t 20) (.t 21)),opI 23 (.fadr 1 (.t 22)),opI 24 (.load 1 false (.t 23)),mvI 4 (.t 24),mvI 5 (.c (.p (.bool true)))])
  .ret) .skip)))
  (.reg false [mvI 11 (.t 6),opI 12 (.arith .add (.t 11) (kI 1)),mvI 6 (.t 12)])))
def L0_r08_Look:K:=.loop [0,1,6] B0_r08_Look
def F_r08_Look:AFn:=⟨25,[.tmp 4,.tmp 5],
  (.seq (.reg false [mvI 4 (.c (.p (.int .u64 0))),mvI 5 (.c (.p (.bool false)))])
  (.seq (.seq (.reg false [mvI 6 (kI 0)])
  (.block 0 L0_r08_Look))
  (.seq (.reg false [mvI 4 (.c (.p (.int .u64 0))),mvI 5 (.c (.p (.bool false)))])
  .ret))),false⟩
def B0_r08_value:K :=
  (.seq (.seq (.reg false [mvI 11 (.t 10),mvI 12 (.t 3),opI 13 (.lenS (.t 12)),opI 14 (.arith .lss (.t 11) (.t 13))])
  (.cond (.t 14) .skip (.exit 0)))
  (.seq (.block 1 (.reg true [mvI 17 (.t 9),mvI 18 (.t 3),mvI 19 (.t 10),opI 20 (.iadrS 2 (.t 18) (.t 19)),opI 21 (.fadr 0 (.t 20)),opI 22 (.load 1 false (.t 21)),mvI 23 (.t 3),mvI 24 (.t 10),opI 25 (.iadrS 2 (.t 23) (.t 24)),opI 26 (.fadr 1 (.t 25)),opI 27 (.load 1 false (.t 26)),opI 28 (.callf f_r01_Cut [(.t 22),(.t 27)]),opI 29 (.bslice 1 [(.p (.int .u64 0))] 1 [(0,1,(.t 28))]),opI 30 (.append 1 8 (.t 17) (.t 29)),opI 9 (.mv (.t 30) true)]))
  (.reg false [mvI 15 (.t 10),opI 16 (.arith .add (.t 15) (kI 1)),mvI 10 (.t 16)])))
def L0_r08_value:K:=.loop [0,1,2,3,9,10] B0_r08_value
def F_r08_value:AFn:=⟨90,[.tmp 8],
  (.seq (.reg false [mvI 8 (.c (.p (.int .u64 0)))])
  (.seq (.reg false [opI 9 (.mv (.c .nils) true)])
  (.seq (.seq (.reg false [mvI 10 (kI 0)])
  (.block 0 L0_r08_value))
  (.seq (.seq (.reg false [mvI 31 (.t 9),opI 32 (.lenS (.t 31))])
  (.block 2 (.seq (.reg false [opI 34 (.arith .eql (.t 32) (kI 0)),mvI 33 (.t 34)])
  (.cond (.t 33) (.seq (.reg false [mvI 35 (.t 2),mvI 8 (.t 35)])
  .ret) (.seq (.reg false [opI 37 (.arith .eql (.t 32) (kI 1)),mvI 36 (.t 37)])
  (.cond (.t 36) (.seq (.reg true [mvI 38 (.t 0),mvI 39 (.t 1),mvI 40 (.t 2),mvI 41 (.t 3),opI 42 (.iadrS 2 (.t 41) (kI 0)),opI 43 (.fadr 0 (.t 42)),opI 44 (.load 1 false (.t 43)),mvI 45 (.t 9),opI 46 (.iadrS 1 (.t 45) (kI 0)),opI 47 (.load 1 false (.t 46)),opI 48 (.callf f_r08_one [(.t 38),(.t 39),(.t 40),(.t 44),(.t 47)]),mvI 8 (.t 48)])
  .ret) (.seq (.reg false [opI 50 (.arith .eql (.t 32) (kI 3)),mvI 49 (.t 50)])
  (.cond (.t 49) (.seq (.seq (.reg false [mvI 51 (.t 9),opI 52 (.iadrS 1 (.t 51) (kI 0)),opI 53 (.load 1 false (.t 52)),opI 54 (.arith .eql (.t 53) (.c (.p (.int .u64 1))))])
  (.cond (.t 54) (.seq (.reg false [mvI 55 (.t 9),opI 56 (.iadrS 1 (.t 55) (kI 1)),opI 57 (.load 1 false (.t 56)),mvI 8 (.t 57)])
  .ret) .skip))
  (.seq (.reg false [mvI 58 (.t 9),opI 59 (.iadrS 1 (.t 58) (kI 2)),opI 60 (.load 1 false (.t 59)),mvI 8 (.t 60)])
  .ret)) .skip))))))))
  (.seq (.seq (.reg false [mvI 61 (.t 0),opI 62 (.arith .eql (.t 61) (kI 20))])
  (.cond (.t 62) (.seq (.reg true [mvI 63 (.t 3),opI 64 (.iadrS 2 (.t 63) (kI 0)),opI 65 (.fadr 0 (.t 64)),opI 66 (.load 1 false (.t 65)),mvI 67 (.t 3),opI 68 (.iadrS 2 (.t 67) (kI 1)),opI 69 (.fadr 0 (.t 68)),opI 70 (.load 1 false (.t 69)),mvI 71 (.t 9),opI 72 (.iadrS 1 (.t 71) (kI 0)),opI 73 (.load 1 false (.t 72)),mvI 74 (.t 9),opI 75 (.iadrS 1 (.t 74) (kI 1)),opI 76 (.load 1 false (.t 75)),opI 77 (.callf f_r01_Concat [(.t 66),(.t 70),(.t 73),(.t 76)]),mvI 8 (.t 77)])
  .ret) .skip))
  (.seq (.reg true [mvI 78 (.t 0),mvI 79 (.t 3),opI 80 (.iadrS 2 (.t 79) (kI 0)),opI 81 (.fadr 0 (.t 80)),opI 82 (.load 1 false (.t 81)),mvI 83 (.t 9),opI 84 (.iadrS 1 (.t 83) (kI 0)),opI 85 (.load 1 false (.t 84)),mvI 86 (.t 9),opI 87 (.iadrS 1 (.t 86) (kI 1)),opI 88 (.load 1 false (.t 87)),opI 89 (.callf f_r08_two [(.t 78),(.t 82),(.t 85),(.t 88)]),mvI 8 (.t 89)])
  .ret)))))),false⟩
def F_term_All_1:AFn:=⟨6,[],
  (.seq (.reg false [opI 2 (.box 1 false (.t 0) true)])
  (.reg false [opI 3 (.load 5 true (.t 1)),opI 4 (.mkfn f_term_All_1_1 [(.t 2)]),opI 5 (.callf f_term_postorder [(.t 3),(.t 4)])])),true⟩
def B0_term_postorder:K :=
  (.seq (.reg false [opI 11 (.arith .lss (.t 10) (.t 9))])
  (.seq (.cond (.t 11) .skip (.exit 0))
  (.seq (.block 1 (.seq (.reg false [opI 12 (.iadrS 5 (.t 8) (.t 10)),opI 13 (.load 5 true (.t 12)),opI 6 (.init 5 true (.t 13) true)])
  (.seq (.reg false [opI 14 (.load 5 true (.t 6)),mvI 15 (.t 1),opI 16 (.callf f_term_postorder [(.t 14),(.t 15)]),opI 17 (.not (.t 16))])
  (.cond (.t 17) (.seq (.reg false [mvI 4 (.c (.p (.bool false)))])
  .ret) .skip))))
  (.reg false [opI 18 (.arith .add (.t 10) (kI 1)),mvI 10 (.t 18)]))))
def L0_term_postorder:K:=.loop [1,2,8,9,10] B0_term_postorder
def F_term_postorder:AFn:=⟨22,[.tmp 4],
  (.seq (.reg false [opI 2 (.box 5 true (.t 0) true),mvI 4 (.c (.p (.bool false)))])
  (.seq (.seq (.reg false [opI 7 (.fadr 4 (.t 2)),opI 8 (.load 1 false (.t 7)),opI 9 (.lenS (.t 8)),mvI 10 (kI 0)])
  (.block 0 L0_term_postorder))
  (.seq (.reg false [mvI 19 (.t 1),opI 20 (.load 5 true (.t 2)),opI 21 (.callv (.t 19) [(.t 20)]),mvI 4 (.t 21)])
  .ret))),true⟩
def F_term_All_1_1:AFn:=⟨8,[.tmp 3],
  (.seq (.reg false [opI 2 (.box 5 true (.t 0) true),mvI 3 (.c (.p (.bool false)))])
  (.seq (.reg true [opI 4 (.load 1 false (.t 1)),opI 5 (.load 5 true (.t 2)),opI 6 (.callf f_term_Copy [(.t 5)]),opI 7 (.callv (.t 4) [(.t 6)]),mvI 3 (.t 7)])
  .ret)),true⟩
def B0_term_Copy:K :=
  (.seq (.reg false [opI 12 (.arith .lss (.t 11) (.t 10))])
  (.seq (.cond (.t 12) .skip (.exit 0))
  (.seq (.block 1 (.seq (.reg false [opI 13 (.iadrS 5 (.t 9) (.t 11)),opI 14 (.load 5 true (.t 13)),opI 5 (.init 5 true (.t 14) true)])
  (.reg true [opI 15 (.fadr 4 (.t 3)),opI 16 (.load 1 false (.t 15)),opI 17 (.load 5 true (.t 5)),opI 18 (.callf f_term_Copy [(.t 17)]),opI 19 (.bslice 5 [(.p (.int .i64 0)),(.p (.int .i64 0)),(.p (.int .u64 0)),(.p (.str (bs []))),.nils] 1 [(0,5,(.t 18))]),opI 20 (.append 5 64 (.t 16) (.t 19)),opI 21 (.fadr 4 (.t 3)),⟨none,.store 1 (.t 21) (.t 20),none⟩])))
  (.reg false [opI 22 (.arith .add (.t 11) (kI 1)),mvI 11 (.t 22)]))))
def L0_term_Copy:K:=.loop [2,3,9,10,11] B0_term_Copy
def F_term_Copy:AFn:=⟨24,[.cell 2 5 true],
  (.seq (.reg false [opI 1 (.box 5 true (.t 0) true),opI 2 (.alloc [(.p (.int .i64 0)),(.p (.int .i64 0)),(.p (.int .u64 0)),(.p (.str (bs []))),.nils] 5)])
  (.seq (.reg false [opI 6 (.load 5 true (.t 1)),opI 3 (.init 5 true (.t 6) false)])
  (.seq (.reg false [opI 7 (.fadr 4 (.t 3)),⟨none,.store 1 (.t 7) (.c .nils),none⟩])
  (.seq (.seq (.reg false [opI 8 (.fadr 4 (.t 1)),opI 9 (.load 1 false (.t 8)),opI 10 (.lenS (.t 9)),mvI 11 (kI 0)])
  (.block 0 L0_term_Copy))
  (.seq (.reg false [opI 23 (.load 5 true (.t 3)),⟨none,.store 5 (.t 2) (.t 23),none⟩])
  .ret))))),false⟩
def F_opinfo_Arity:AFn:=⟨42,[.tmp 2],
  (.seq (.reg false [mvI 2 (kI 0)])
  (.seq (.reg false [mvI 3 (kI 0)])
  (.seq (.seq (.reg false [mvI 4 (.t 0)])
  (.block 0 (.seq (.block 4 (.seq (.block 3 (.seq (.block 2 (.seq (.block 1 (.seq (.seq (.seq (.reg false [opI 6 (.arith .eql (.t 4) (kI 19)),mvI 5 (.t 6)])
  (.cond (.t 5) (.exit 1) .skip))
  (.seq (.seq (.seq (.reg false [opI 8 (.arith .eql (.t 4) (kI 5)),mvI 7 (.t 8)])
  (.cond (.t 7) .skip (.seq (.reg false [opI 9 (.arith .eql (.t 4) (kI 6)),mvI 7 (.t 9)])
  (.cond (.t 7) .skip (.seq (.reg false [opI 10 (.arith .eql (.t 4) (kI 7)),mvI 7 (.t 10)])
  (.cond (.t 7) .skip (.seq (.reg false [opI 11 (.arith .eql (.t 4) (kI 8)),mvI 7 (.t 11)])
  (.cond (.t 7) .skip (.seq (.reg false [opI 12 (.arith .eql (.t 4) (kI 9)),mvI 7 (.t 12)])
  (.cond (.t 7) .skip (.seq (.reg false [opI 13 (.arith .eql (.t 4) (kI 10)),mvI 7 (.t 13)])
  (.cond (.t 7) .skip (.seq (.reg false [opI 14 (.arith .eql (.t 4) (kI 11)),mvI 7 (.t 14)])
  (.cond (.t 7) .skip (.seq (.reg false [opI 15 (.arith .eql (.t 4) (kI 12)),mvI 7 (.t 15)])
  (.cond (.t 7) .skip (.seq (.reg false [opI 16 (.arith .eql (.t 4) (kI 13)),mvI 7 (.t 16)])
  (.cond (.t 7) .skip (.seq (.reg false [opI 17 (.arith .eql (.t 4) (kI 14)),mvI 7 (.t 17)])
  (.cond (.t 7) .skip (.seq (.reg false [opI 18 (.arith .eql (.t 4) (kI 15)),mvI 7 (.t 18)])
  (.cond (.t 7) .skip (.seq (.reg false [opI 19 (.arith .eql (.t 4) (kI 16)),mvI 7 (.t 19)])
  (.cond (.t 7) .skip (.seq (.reg false [opI 20 (.arith .eql (.t 4) (kI 17)),mvI 7 (.t 20)])
  (.cond (.t 7) .skip (.seq (.reg false [opI 21 (.arith .eql (.t 4) (kI 18)),mvI 7 (.t 21)])
  (.cond (.t 7) .skip (.reg false [opI 22 (.arith .eql (.t 4) (kI 20)),mvI 7 (.t 22)])))))))))))))))))))))))))))))
  (.cond (.t 7) (.exit 2) .skip))
  (.seq (.seq (.seq (.reg false [opI 24 (.arith .eql (.t 4) (kI 3)),mvI 23 (.t 24)])
  (.cond (.t 23) .skip (.seq (.reg false [opI 25 (.arith .eql (.t 4) (kI 4)),mvI 23 (.t 25)])
  (.cond (.t 23) .skip (.seq (.reg false [opI 26 (.arith .eql (.t 4) (kI 21)),mvI 23 (.t 26)])
  (.cond (.t 23) .skip (.seq (.reg false [opI 27 (.arith .eql (.t 4) (kI 22)),mvI 23 (.t 27)])
  (.cond (.t 23) .skip (.seq (.reg false [opI 28 (.arith .eql (.t 4) (kI 23)),mvI 23 (.t 28)])
  (.cond (.t 23) .skip (.reg false [opI 29 (.arith .eql (.t 4) (kI 26)),mvI 23 (.t 29)])))))))))))
  (.cond (.t 23) (.exit 3) .skip))
  (.seq (.seq (.reg false [opI 31 (.arith .eql (.t 4) (kI 1)),mvI 30 (.t 31)])
  (.cond (.t 30) .skip (.seq (.reg false [opI 32 (.arith .eql (.t 4) (kI 2)),mvI 30 (.t 32)])
  (.cond (.t 30) .skip (.seq (.reg false [opI 33 (.arith .eql (.t 4) (kI 24)),mvI 30 (.t 33)])
  (.cond (.t 30) .skip (.reg false [opI 34 (.arith .eql (.t 4) (kI 25)),mvI 30 (.t 34)])))))))
  (.cond (.t 30) (.exit 4) .skip)))))
  (.exit 0)))
  (.reg false [mvI 35 (.t 3),opI 36 (.arith .add (.t 35) (kI 1)),mvI 3 (.t 36)])))
  (.reg false [mvI 37 (.t 3),opI 38 (.arith .add (.t 37) (kI 1)),mvI 3 (.t 38)])))
  (.reg false [mvI 39 (.t 3),opI 40 (.arith .add (.t 39) (kI 1)),mvI 3 (.t 40)])))
  (.seq (.seq (.reg false [mvI 41 (.t 3),mvI 2 (.t 41)])
  .ret)
  (.exit 0)))))
  (.seq (.reg false [mvI 2 (kI (-1))])
  .ret)))),false⟩
def F_opinfo_Pattern:AFn:=⟨9,[.tmp 2],
  (.seq (.reg false [mvI 2 (.c (.p (.bool false)))])
  (.seq (.reg false [mvI 3 (.t 0),opI 4 (.arith .geq (.t 3) (kI 24)),mvI 5 (.t 4),⟨some 6,.mv (.t 0) false,some (5,true)⟩,⟨some 7,.arith .leq (.t 6) (kI 26),some (5,true)⟩,opI 8 (.pick (.t 5) (.t 7) (.c (.p (.bool false)))),mvI 2 (.t 8)])
  .ret)),false⟩
def B0_term_Name:K :=
  (.seq (.reg false [opI 26 (.arith .lss (.t 25) (.t 24))])
  (.seq (.cond (.t 26) .skip (.exit 0))
  (.seq (.block 1 (.seq (.reg false [mvI 27 (.t 25),mvI 3 (.t 27)])
  (.seq (.reg false [mvI 28 (.t 0),mvI 29 (.t 3),opI 30 (.idxS (.t 28) (.t 29)),mvI 4 (.t 30)])
  (.seq (.reg false [mvI 31 (.t 4),opI 32 (.arith .lss (.t 31) (.c (.p (.int .u8 97)))),mvI 33 (.t 32),⟨some 34,.mv (.t 4) false,some (33,false)⟩,⟨some 35,.arith .gtr (.t 34) (.c (.p (.int .u8 122))),some (33,false)⟩,opI 36 (.pick (.t 33) (.c (.p (.bool true))) (.t 35)),mvI 37 (.t 36),⟨some 38,.mv (.t 4) false,some (37,true)⟩,⟨some 39,.arith .lss (.t 38) (.c (.p (.int .u8 48))),some (37,true)⟩,⟨some 40,.mv (.t 39) false,some (37,true)⟩,⟨some 41,.mv (.t 4) false,some (40,false)⟩,⟨some 42,.arith .gtr (.t 41) (.c (.p (.int .u8 57))),some (40,false)⟩,⟨some 43,.pick (.t 40) (.c (.p (.bool true))) (.t 42),some (37,true)⟩,opI 44 (.pick (.t 37) (.t 43) (.c (.p (.bool false)))),mvI 45 (.t 44),⟨some 46,.mv (.t 4) false,some (45,true)⟩,⟨some 47,.arith .neq (.t 46) (.c (.p (.int .u8 95))),some (45,true)⟩,opI 48 (.pick (.t 45) (.t 47) (.c (.p (.bool false))))])
  (.cond (.t 48) (.seq (.reg false [mvI 2 (.c (.p (.bool false)))])
  .ret) .skip)))))
  (.reg false [opI 49 (.arith .add (.t 25) (kI 1)),mvI 25 (.t 49)]))))
def L0_term_Name:K:=.loop [0,24,25] B0_term_Name
def F_term_Name:AFn:=⟨50,[.tmp 2],
  (.seq (.reg false [mvI 2 (.c (.p (.bool false)))])
  (.seq (.seq (.reg false [mvI 5 (.t 0),opI 6 (.lenT (.t 5)),opI 7 (.arith .lss (.t 6) (kI 1)),mvI 8 (.t 7),⟨some 9,.mv (.t 0) false,some (8,false)⟩,⟨some 10,.lenT (.t 9),some (8,false)⟩,⟨some 11,.arith .gtr (.t 10) (kI 16),some (8,false)⟩,opI 12 (.pick (.t 8) (.c (.p (.bool true))) (.t 11)),mvI 13 (.t 12),⟨some 14,.mv (.t 0) false,some (13,false)⟩,⟨some 15,.idxS (.t 14) (kI 0),some (13,false)⟩,⟨some 16,.arith .lss (.t 15) (.c (.p (.int .u8 97))),some (13,false)⟩,opI 17 (.pick (.t 13) (.c (.p (.bool true))) (.t 16)),mvI 18 (.t 17),⟨some 19,.mv (.t 0) false,some (18,false)⟩,⟨some 20,.idxS (.t 19) (kI 0),some (18,false)⟩,⟨some 21,.arith .gtr (.t 20) (.c (.p (.int .u8 122))),some (18,false)⟩,opI 22 (.pick (.t 18) (.c (.p (.bool true))) (.t 21))])
  (.cond (.t 22) (.seq (.reg false [mvI 2 (.c (.p (.bool false)))])
  .ret) .skip))
  (.seq (.seq (.reg false [mvI 23 (.t 0),opI 24 (.lenT (.t 23)),mvI 25 (kI 0)])
  (.block 0 L0_term_Name))
  (.seq (.reg false [mvI 2 (.c (.p (.bool true)))])
  .ret)))),false⟩
def B0_opinfo_Width:K :=
  (.seq (.reg false [opI 25 (.arith .lss (.t 24) (.t 23))])
  (.seq (.cond (.t 25) .skip (.exit 0))
  (.seq (.block 1 (.seq (.reg false [opI 26 (.iadrS 1 (.t 22) (.t 24)),opI 27 (.load 1 false (.t 26)),mvI 11 (.t 27)])
  (.seq (.reg false [mvI 28 (.t 11),opI 29 (.callf f_opinfo_inside [(.t 28)]),opI 30 (.not (.t 29))])
  (.cond (.t 30) (.seq (.reg false [mvI 8 (kI 0),mvI 9 (kI 3)])
  .ret) .skip))))
  (.reg false [opI 31 (.arith .add (.t 24) (kI 1)),mvI 24 (.t 31)]))))
def L0_opinfo_Width:K:=.loop [0,1,2,3,22,23,24] B0_opinfo_Width
def F_opinfo_Width:AFn:=⟨144,[.tmp 8,.tmp 9],
  (.seq (.reg false [mvI 8 (kI 0),mvI 9 (kI 0)])
  (.seq (.seq (.reg false [mvI 12 (.t 0),opI 13 (.callf f_opinfo_known [(.t 12)]),opI 14 (.not (.t 13)),mvI 15 (.t 14),⟨some 16,.mv (.t 3) false,some (15,false)⟩,⟨some 17,.lenS (.t 16),some (15,false)⟩,⟨some 18,.mv (.t 0) false,some (15,false)⟩,⟨some 19,.callf f_opinfo_Arity [(.t 18)],some (15,false)⟩,⟨some 20,.arith .neq (.t 17) (.t 19),some (15,false)⟩,opI 21 (.pick (.t 15) (.c (.p (.bool true))) (.t 20))])
  (.cond (.t 21) (.seq (.reg false [mvI 8 (kI 0),mvI 9 (kI 4)])
  .ret) .skip))
  (.seq (.seq (.reg false [mvI 22 (.t 3),opI 23 (.lenS (.t 22)),mvI 24 (kI 0)])
  (.block 0 L0_opinfo_Width))
  (.seq (.seq (.reg false [mvI 32 (.t 0)])
  (.block 2 (.seq (.seq (.reg false [opI 34 (.arith .eql (.t 32) (kI 1)),mvI 33 (.t 34)])
  (.cond (.t 33) .skip (.seq (.reg false [opI 35 (.arith .eql (.t 32) (kI 2)),mvI 33 (.t 35)])
  (.cond (.t 33) .skip (.seq (.reg false [opI 36 (.arith .eql (.t 32) (kI 24)),mvI 33 (.t 36)])
  (.cond (.t 33) .skip (.reg false [opI 37 (.arith .eql (.t 32) (kI 25)),mvI 33 (.t 37)])))))))
  (.cond (.t 33) (.seq (.reg false [mvI 38 (.t 0),mvI 39 (.t 1),mvI 40 (.t 2),opI 41 (.callf f_opinfo_leaf [(.t 38),(.t 39),(.t 40)]),opI 42 (.extract (.t 41) 0),opI 43 (.extract (.t 41) 1),mvI 8 (.t 42),mvI 9 (.t 43)])
  .ret) (.seq (.seq (.reg false [opI 45 (.arith .eql (.t 32) (kI 3)),mvI 44 (.t 45)])
  (.cond (.t 44) .skip (.seq (.reg false [opI 46 (.arith .eql (.t 32) (kI 4)),mvI 44 (.t 46)])
  (.cond (.t 44) .skip (.reg false [opI 47 (.arith .eql (.t 32) (kI 26)),mvI 44 (.t 47)])))))
  (.cond (.t 44) (.seq (.reg false [mvI 48 (.t 3),opI 49 (.iadrS 1 (.t 48) (kI 0)),opI 50 (.load 1 false (.t 49)),mvI 8 (.t 50),mvI 9 (kI 0)])
  .ret) (.seq (.seq (.reg false [opI 52 (.arith .eql (.t 32) (kI 21)),mvI 51 (.t 52)])
  (.cond (.t 51) .skip (.seq (.reg false [opI 53 (.arith .eql (.t 32) (kI 22)),mvI 51 (.t 53)])
  (.cond (.t 51) .skip (.reg false [opI 54 (.arith .eql (.t 32) (kI 23)),mvI 51 (.t 54)])))))
  (.cond (.t 51) (.seq (.reg false [mvI 55 (.t 0),mvI 56 (.t 1),mvI 57 (.t 2),mvI 58 (.t 3),opI 59 (.iadrS 1 (.t 58) (kI 0)),opI 60 (.load 1 false (.t 59)),opI 61 (.callf f_opinfo_resized [(.t 55),(.t 56),(.t 57),(.t 60)]),opI 62 (.extract (.t 61) 0),opI 63 (.extract (.t 61) 1),mvI 8 (.t 62),mvI 9 (.t 63)])
  .ret) (.seq (.reg false [opI 65 (.arith .eql (.t 32) (kI 19)),mvI 64 (.t 65)])
  (.cond (.t 64) (.seq (.reg true [mvI 66 (.t 3),opI 67 (.iadrS 1 (.t 66) (kI 0)),opI 68 (.load 1 false (.t 67)),opI 69 (.arith .eql (.t 68) (kI 1)),mvI 70 (.t 69),⟨some 71,.mv (.t 3) false,some (70,true)⟩,⟨some 72,.iadrS 1 (.t 71) (kI 1),some (70,true)⟩,⟨some 73,.load 1 false (.t 72),some (70,true)⟩,⟨some 74,.mv (.t 3) false,some (70,true)⟩,⟨some 75,.iadrS 1 (.t 74) (kI 2),some (70,true)⟩,⟨some 76,.load 1 false (.t 75),some (70,true)⟩,⟨some 77,.arith .eql (.t 73) (.t 76),some (70,true)⟩,opI 78 (.pick (.t 70) (.t 77) (.c (.p (.bool false)))),mvI 79 (.t 3),opI 80 (.iadrS 1 (.t 79) (kI 1)),opI 81 (.load 1 false (.t 80)),opI 82 (.callf f_opinfo_agreed [(.t 78),(.t 81)]),opI 83 (.extract (.t 82) 0),opI 84 (.extract (.t 82) 1),mvI 8 (.t 83),mvI 9 (.t 84)])
  .ret) (.seq (.reg false [opI 86 (.arith .eql (.t 32) (kI 20)),mvI 85 (.t 86)])
  (.cond (.t 85) (.seq (.reg true [mvI 87 (.t 3),opI 88 (.iadrS 1 (.t 87) (kI 0)),opI 89 (.load 1 false (.t 88)),opI 90 (.arith .geq (.t 89) (kI 1)),mvI 91 (.t 90),⟨some 92,.mv (.t 3) false,some (91,true)⟩,⟨some 93,.iadrS 1 (.t 92) (kI 1),some (91,true)⟩,⟨some 94,.load 1 false (.t 93),some (91,true)⟩,⟨some 95,.arith .geq (.t 94) (kI 1),some (91,true)⟩,opI 96 (.pick (.t 91) (.t 95) (.c (.p (.bool false)))),mvI 97 (.t 96),⟨some 98,.mv (.t 3) false,some (97,true)⟩,⟨some 99,.iadrS 1 (.t 98) (kI 0),some (97,true)⟩,⟨some 100,.load 1 false (.t 99),some (97,true)⟩,⟨some 101,.mv (.t 3) false,some (97,true)⟩,⟨some 102,.iadrS 1 (.t 101) (kI 1),some (97,true)⟩,⟨some 103,.load 1 false (.t 102),some (97,true)⟩,⟨some 104,.arith .add (.t 100) (.t 103),some (97,true)⟩,⟨some 105,.arith .leq (.t 104) (kI 64),some (97,true)⟩,opI 106 (.pick (.t 97) (.t 105) (.c (.p (.bool false)))),mvI 107 (.t 3),opI 108 (.iadrS 1 (.t 107) (kI 0)),opI 109 (.load 1 false (.t 108)),mvI 110 (.t 3),opI 111 (.iadrS 1 (.t 110) (kI 1)),opI 112 (.load 1 false (.t 111)),opI 113 (.arith .add (.t 109) (.t 112)),opI 114 (.callf f_opinfo_agreed [(.t 106),(.t 113)]),opI 115 (.extract (.t 114) 0),opI 116 (.extract (.t 114) 1),mvI 8 (.t 115),mvI 9 (.t 116)])
  .ret) (.seq (.seq (.reg false [opI 118 (.arith .eql (.t 32) (kI 16)),mvI 117 (.t 118)])
  (.cond (.t 117) .skip (.seq (.reg false [opI 119 (.arith .eql (.t 32) (kI 17)),mvI 117 (.t 119)])
  (.cond (.t 117) .skip (.reg false [opI 120 (.arith .eql (.t 32) (kI 18)),mvI 117 (.t 120)])))))
  (.cond (.t 117) (.seq (.reg true [mvI 121 (.t 3),opI 122 (.iadrS 1 (.t 121) (kI 0)),opI 123 (.load 1 false (.t 122)),mvI 124 (.t 3),opI 125 (.iadrS 1 (.t 124) (kI 1)),opI 126 (.load 1 false (.t 125)),opI 127 (.arith .eql (.t 123) (.t 126)),opI 128 (.callf f_opinfo_agreed [(.t 127),(kI 1)]),opI 129 (.extract (.t 128) 0),opI 130 (.extract (.t 128) 1),mvI 8 (.t 129),mvI 9 (.t 130)])
  .ret) .skip))))))))))))))
  (.seq (.reg true [mvI 131 (.t 3),opI 132 (.iadrS 1 (.t 131) (kI 0)),opI 133 (.load 1 false (.t 132)),mvI 134 (.t 3),opI 135 (.iadrS 1 (.t 134) (kI 1)),opI 136 (.load 1 false (.t 135)),opI 137 (.arith .eql (.t 133) (.t 136)),mvI 138 (.t 3),opI 139 (.iadrS 1 (.t 138) (kI 0)),opI 140 (.load 1 false (.t 139)),opI 141 (.callf f_opinfo_agreed [(.t 137),(.t 140)]),opI 142 (.extract (.t 141) 0),opI 143 (.extract (.t 141) 1),mvI 8 (.t 142),mvI 9 (.t 143)])
  .ret))))),false⟩
def B0_term_widths:K :=
  (.seq (.reg false [opI 12 (.arith .lss (.t 11) (.t 10))])
  (.seq (.cond (.t 12) .skip (.exit 0))
  (.seq (.block 1 (.seq (.reg false [mvI 13 (.t 11),opI 14 (.iadrS 5 (.t 9) (.t 11)),opI 15 (.load 5 true (.t 14)),opI 5 (.alloc [(.p (.int .i64 0)),(.p (.int .i64 0)),(.p (.int .u64 0)),(.p (.str (bs []))),.nils] 5),mvI 4 (.t 13),⟨none,.store 5 (.t 5) (.t 15),none⟩])
  (.reg false [mvI 16 (.t 3),mvI 17 (.t 4),opI 18 (.fadr 1 (.t 5)),opI 19 (.load 1 false (.t 18)),opI 20 (.iadrS 1 (.t 16) (.t 17)),⟨none,.store 1 (.t 20) (.t 19),none⟩])))
  (.reg false [opI 21 (.arith .add (.t 11) (kI 1)),mvI 11 (.t 21)]))))
def L0_term_widths:K:=.loop [3,9,10,11] B0_term_widths
def F_term_widths:AFn:=⟨23,[.tmp 2],
  (.seq (.reg false [mvI 2 (.c .nils)])
  (.seq (.reg false [mvI 6 (.t 0),opI 7 (.lenS (.t 6)),opI 8 (.mkslice 1 8 [(.p (.int .i64 0))] (.t 7) (.t 7)),mvI 3 (.t 8)])
  (.seq (.seq (.reg false [mvI 9 (.t 0),opI 10 (.lenS (.t 9)),mvI 11 (kI 0)])
  (.block 0 L0_term_widths))
  (.seq (.reg false [mvI 22 (.t 3),mvI 2 (.t 22)])
  .ret)))),false⟩
def B0_slices_IndexFunc_api_Var_api_Var:K :=
  (.seq (.reg false [opI 9 (.arith .lss (.t 8) (.t 7))])
  (.seq (.cond (.t 9) .skip (.exit 0))
  (.seq (.block 1 (.seq (.reg false [mvI 10 (.t 8),mvI 5 (.t 10)])
  (.seq (.reg false [mvI 11 (.t 1),mvI 12 (.t 0),mvI 13 (.t 5),opI 14 (.iadrS 2 (.t 12) (.t 13)),opI 15 (.load 2 true (.t 14)),opI 16 (.callv (.t 11) [(.t 15)])])
  (.cond (.t 16) (.seq (.reg false [mvI 17 (.t 5),mvI 4 (.t 17)])
  .ret) .skip))))
  (.reg false [opI 18 (.arith .add (.t 8) (kI 1)),mvI 8 (.t 18)]))))
def L0_slices_IndexFunc_api_Var_api_Var:K:=.loop [0,1,7,8] B0_slices_IndexFunc_api_Var_api_Var
def F_slices_IndexFunc_api_Var_api_Var:AFn:=⟨19,[.tmp 4],
  (.seq (.reg false [mvI 4 (kI 0)])
  (.seq (.seq (.reg false [mvI 6 (.t 0),opI 7 (.lenS (.t 6)),mvI 8 (kI 0)])
  (.block 0 L0_slices_IndexFunc_api_Var_api_Var))
  (.seq (.reg false [mvI 4 (kI (-1))])
  .ret))),false⟩
def F_internal_bytealg_CompareString:AFn:=⟨8,[.tmp 4],
  (.seq (.reg false [mvI 4 (kI 0)])
  (.seq (.reg false [mvI 5 (.t 0),mvI 6 (.t 1),opI 7 (.callf f_internal_bytealg_abigen_runtime_cmpstring [(.t 5),(.t 6)]),mvI 4 (.t 7)])
  .ret)),false⟩
def F_r06_Node:AFn:=⟨84,[.tmp 2],
  (.seq (.reg false [opI 1 (.box 5 true (.t 0) true),mvI 2 (kI 0)])
  (.seq (.block 0 (.seq (.reg true [opI 6 (.fadr 0 (.t 1)),opI 7 (.load 1 false (.t 6)),opI 8 (.callf f_r04_Arity [(.t 7)]),opI 9 (.arith .lss (.t 8) (kI 0)),mvI 10 (.t 9),⟨some 11,.fadr 0 (.t 1),some (10,false)⟩,⟨some 12,.load 1 false (.t 11),some (10,false)⟩,⟨some 13,.callf f_r04_Pattern [(.t 12)],some (10,false)⟩,opI 14 (.pick (.t 10) (.c (.p (.bool true))) (.t 13)),mvI 15 (.t 14),⟨some 16,.fadr 4 (.t 1),some (15,false)⟩,⟨some 17,.load 1 false (.t 16),some (15,false)⟩,⟨some 18,.lenS (.t 17),some (15,false)⟩,⟨some 19,.fadr 0 (.t 1),some (15,false)⟩,⟨some 20,.load 1 false (.t 19),some (15,false)⟩,⟨some 21,.callf f_r04_Arity [(.t 20)],some (15,false)⟩,⟨some 22,.arith .neq (.t 18) (.t 21),some (15,false)⟩,opI 23 (.pick (.t 15) (.c (.p (.bool true))) (.t 22)),mvI 24 (.t 23),⟨some 25,.fadr 3 (.t 1),some (24,false)⟩,⟨some 26,.load 1 false (.t 25),some (24,false)⟩,⟨some 27,.arith .neq (.t 26) (.c (.p (.str (bs [])))),some (24,false)⟩,⟨some 28,.mv (.t 27) false,some (24,false)⟩,⟨some 29,.fadr 0 (.t 1),some (28,true)⟩,⟨some 30,.load 1 false (.t 29),some (28,true)⟩,⟨some 31,.arith .neq (.t 30) (kI 1),some (28,true)⟩,⟨some 32,.pick (.t 28) (.t 31) (.c (.p (.bool false))),some (24,false)⟩,opI 33 (.pick (.t 24) (.c (.p (.bool true))) (.t 32)),mvI 34 (.t 33),⟨some 35,.fadr 2 (.t 1),some (34,false)⟩,⟨some 36,.load 1 false (.t 35),some (34,false)⟩,⟨some 37,.arith .neq (.t 36) (.c (.p (.int .u64 0))),some (34,false)⟩,⟨some 38,.mv (.t 37) false,some (34,false)⟩,⟨some 39,.fadr 0 (.t 1),some (38,true)⟩,⟨some 40,.load 1 false (.t 39),some (38,true)⟩,⟨some 41,.arith .neq (.t 40) (kI 2),some (38,true)⟩,⟨some 42,.pick (.t 38) (.t 41) (.c (.p (.bool false))),some (34,false)⟩,⟨some 43,.mv (.t 42) false,some (34,false)⟩,⟨some 44,.fadr 0 (.t 1),some (43,true)⟩,⟨some 45,.load 1 false (.t 44),some (43,true)⟩,⟨some 46,.arith .neq (.t 45) (kI 21),some (43,true)⟩,⟨some 47,.pick (.t 43) (.t 46) (.c (.p (.bool false))),some (34,false)⟩,opI 48 (.pick (.t 34) (.c (.p (.bool true))) (.t 47)),mvI 5 (.t 48)])
  (.cond (.t 5) (.seq (.reg false [mvI 2 (kI 4)])
  .ret) (.seq (.reg false [opI 50 (.fadr 0 (.t 1)),opI 51 (.load 1 false (.t 50)),opI 52 (.arith .eql (.t 51) (kI 1)),mvI 53 (.t 52),⟨some 54,.fadr 3 (.t 1),some (53,true)⟩,⟨some 55,.load 1 false (.t 54),some (53,true)⟩,⟨some 56,.callf f_r06_Name [(.t 55)],some (53,true)⟩,⟨some 57,.not (.t 56),some (53,true)⟩,opI 58 (.pick (.t 53) (.t 57) (.c (.p (.bool false)))),mvI 49 (.t 58)])
  (.cond (.t 49) (.seq (.reg false [mvI 2 (kI 5)])
  .ret) (.seq (.reg false [opI 60 (.fadr 1 (.t 1)),opI 61 (.load 1 false (.t 60)),opI 62 (.arith .lss (.t 61) (kI 1)),mvI 59 (.t 62)])
  (.cond (.t 59) (.seq (.reg false [mvI 2 (kI 3)])
  .ret) .skip)))))))
  (.seq (.reg true [opI 64 (.fadr 0 (.t 1)),opI 65 (.load 1 false (.t 64)),opI 66 (.fadr 1 (.t 1)),opI 67 (.load 1 false (.t 66)),opI 68 (.fadr 2 (.t 1)),opI 69 (.load 1 false (.t 68)),opI 70 (.fadr 4 (.t 1)),opI 71 (.load 1 false (.t 70)),opI 72 (.callf f_r06_Widths [(.t 71)]),opI 73 (.callf f_r04_Width [(.t 65),(.t 67),(.t 69),(.t 72)]),mvI 63 (.t 73),opI 74 (.extract (.t 63) 0),opI 75 (.extract (.t 63) 1),mvI 3 (.t 74),mvI 4 (.t 75)])
  (.seq (.seq (.reg false [mvI 76 (.t 4),opI 77 (.arith .neq (.t 76) (kI 0)),mvI 78 (.t 77),⟨some 79,.mv (.t 3) false,some (78,false)⟩,⟨some 80,.fadr 1 (.t 1),some (78,false)⟩,⟨some 81,.load 1 false (.t 80),some (78,false)⟩,⟨some 82,.arith .neq (.t 79) (.t 81),some (78,false)⟩,opI 83 (.pick (.t 78) (.c (.p (.bool true))) (.t 82))])
  (.cond (.t 83) (.seq (.reg false [mvI 2 (kI 3)])
  .ret) .skip))
  (.seq (.reg false [mvI 2 (kI 0)])
  .ret))))),false⟩
def B0_r06_Pre:K :=
  (.seq (.seq (.reg false [mvI 7 (.t 4),opI 8 (.fadr 4 (.t 1)),opI 9 (.load 1 false (.t 8)),opI 10 (.lenS (.t 9)),opI 11 (.arith .lss (.t 7) (.t 10))])
  (.cond (.t 11) .skip (.exit 0)))
  (.seq (.block 1 (.reg false [mvI 14 (.t 3),opI 15 (.fadr 4 (.t 1)),opI 16 (.load 1 false (.t 15)),mvI 17 (.t 4),opI 18 (.iadrS 5 (.t 16) (.t 17)),opI 19 (.load 5 true (.t 18)),opI 20 (.callf f_r06_Pre [(.t 19)]),opI 21 (.append 5 64 (.t 14) (.t 20)),opI 3 (.mv (.t 21) true)]))
  (.reg false [mvI 12 (.t 4),opI 13 (.arith .add (.t 12) (kI 1)),mvI 4 (.t 13)])))
def L0_r06_Pre:K:=.loop [1,3,4] B0_r06_Pre
def F_r06_Pre:AFn:=⟨23,[.tmp 2],
  (.seq (.reg false [opI 1 (.box 5 true (.t 0) true),mvI 2 (.c .nils)])
  (.seq (.reg false [opI 5 (.load 5 true (.t 1)),opI 6 (.bslice 5 [(.p (.int .i64 0)),(.p (.int .i64 0)),(.p (.int .u64 0)),(.p (.str (bs []))),.nils] 1 [(0,5,(.t 5))]),opI 3 (.mv (.t 6) true)])
  (.seq (.seq (.reg false [mvI 4 (kI 0)])
  (.block 0 L0_r06_Pre))
  (.seq (.reg false [mvI 22 (.t 3),mvI 2 (.t 22)])
  .ret)))),false⟩
def B0_eval_value:K :=
  (.seq (.reg false [opI 23 (.arith .lss (.t 22) (.t 21))])
  (.seq (.cond (.t 23) .skip (.exit 0))
  (.seq (.block 1 (.seq (.reg false [opI 24 (.iadrS 5 (.t 20) (.t 22)),opI 25 (.load 5 true (.t 24)),opI 8 (.init 5 true (.t 25) true)])
  (.reg true [mvI 26 (.t 6),opI 27 (.fadr 1 (.t 8)),opI 28 (.load 1 false (.t 27)),opI 29 (.load 5 true (.t 8)),mvI 30 (.t 1),opI 31 (.callf f_eval_value [(.t 29),(.t 30)]),opI 32 (.build [(.p (.int .i64 0)),(.p (.int .u64 0))] [(0,1,(.t 28)),(1,1,(.t 31))]),opI 33 (.bslice 2 [(.p (.int .i64 0)),(.p (.int .u64 0))] 1 [(0,2,(.t 32))]),opI 34 (.append 2 16 (.t 26) (.t 33)),opI 6 (.mv (.t 34) true)])))
  (.reg false [opI 35 (.arith .add (.t 22) (kI 1)),mvI 22 (.t 35)]))))
def L0_eval_value:K:=.loop [1,2,6,20,21,22] B0_eval_value
def F_eval_value:AFn:=⟨44,[.tmp 4],
  (.seq (.reg false [opI 2 (.box 5 true (.t 0) true),mvI 4 (.c (.p (.int .u64 0)))])
  (.seq (.seq (.reg false [opI 9 (.fadr 0 (.t 2)),opI 10 (.load 1 false (.t 9)),opI 11 (.arith .eql (.t 10) (kI 1))])
  (.cond (.t 11) (.seq (.regD [opI 12 (.fadr 1 (.t 2)),opI 13 (.load 1 false (.t 12)),mvI 14 (.t 1),opI 15 (.load 5 true (.t 2)),opI 16 (.callv (.t 14) [(.t 15)]),opI 17 (.callf f_bits_Cut [(.t 13),(.t 16)]),mvI 4 (.t 17)] [(1,4)])
  .ret) .skip))
  (.seq (.reg false [opI 5 (.alloc [(.p (.int .i64 0)),(.p (.int .u64 0)),(.p (.int .i64 0)),(.p (.int .u64 0)),(.p (.int .i64 0)),(.p (.int .u64 0))] 6)])
  (.seq (.reg false [opI 18 (.slcA 3 2 (.t 5) none (some (kI 0)) none),opI 6 (.mv (.t 18) true)])
  (.seq (.seq (.reg false [opI 19 (.fadr 4 (.t 2)),opI 20 (.load 1 false (.t 19)),opI 21 (.lenS (.t 20)),mvI 22 (kI 0)])
  (.block 0 L0_eval_value))
  (.seq (.reg false [opI 36 (.fadr 0 (.t 2)),opI 37 (.load 1 false (.t 36)),opI 38 (.fadr 1 (.t 2)),opI 39 (.load 1 false (.t 38)),opI 40 (.fadr 2 (.t 2)),opI 41 (.load 1 false (.t 40)),mvI 42 (.t 6),opI 43 (.callf f_eval_compute [(.t 37),(.t 39),(.t 41),(.t 42)]),mvI 4 (.t 43)])
  .ret)))))),false⟩
def F_eval_Table_1:AFn:=⟨16,[.tmp 5],
  (.seq (.reg false [opI 4 (.box 5 true (.t 0) true),mvI 5 (.c (.p (.int .u64 0)))])
  (.seq (.reg true [opI 6 (.load 1 false (.t 1)),opI 7 (.conv .u64 (.t 6)),opI 8 (.load 1 false (.t 2)),opI 9 (.load 1 false (.t 3)),opI 10 (.fadr 3 (.t 4)),opI 11 (.load 1 false (.t 10)),opI 12 (.lookup .str (.p (.int .i64 0)) (.t 9) (.t 11) false),opI 13 (.iadrS 1 (.t 8) (.t 12)),opI 14 (.load 1 false (.t 13)),opI 15 (.arith .shr (.t 7) (.t 14)),mvI 5 (.t 15)])
  .ret)),false⟩
def F_r01_W:AFn:=⟨6,[.tmp 2],
  (.seq (.reg false [mvI 2 (kI 0)])
  (.seq (.reg false [mvI 3 (.t 0),opI 4 (.minmax true [(.t 3),(kI 1)]),opI 5 (.minmax false [(.t 4),(kI 64)]),mvI 2 (.t 5)])
  .ret)),false⟩
def F_r01_Bit:AFn:=⟨16,[.tmp 4],
  (.seq (.reg false [mvI 4 (.c (.p (.int .u64 0)))])
  (.seq (.seq (.reg false [mvI 5 (.t 1),opI 6 (.arith .lss (.t 5) (kI 0)),mvI 7 (.t 6),⟨some 8,.mv (.t 1) false,some (7,false)⟩,⟨some 9,.arith .gtr (.t 8) (kI 63),some (7,false)⟩,opI 10 (.pick (.t 7) (.c (.p (.bool true))) (.t 9))])
  (.cond (.t 10) (.seq (.reg false [mvI 4 (.c (.p (.int .u64 0)))])
  .ret) .skip))
  (.seq (.reg false [mvI 11 (.t 0),mvI 12 (.t 1),opI 13 (.conv .u64 (.t 12)),opI 14 (.arith .shr (.t 11) (.t 13)),opI 15 (.arith .and (.t 14) (.c (.p (.int .u64 1)))),mvI 4 (.t 15)])
  .ret))),false⟩
def F_r08_one:AFn:=⟨36,[.tmp 10],
  (.seq (.reg false [mvI 10 (.c (.p (.int .u64 0)))])
  (.seq (.seq (.reg false [mvI 11 (.t 0)])
  (.block 0 (.seq (.reg false [opI 13 (.arith .eql (.t 11) (kI 3)),mvI 12 (.t 13)])
  (.cond (.t 12) (.seq (.reg false [mvI 14 (.t 3),mvI 15 (.t 4),opI 16 (.callf f_r01_Not [(.t 14),(.t 15)]),mvI 10 (.t 16)])
  .ret) (.seq (.reg false [opI 18 (.arith .eql (.t 11) (kI 4)),mvI 17 (.t 18)])
  (.cond (.t 17) (.seq (.reg false [mvI 19 (.t 3),mvI 20 (.t 4),opI 21 (.callf f_r01_Neg [(.t 19),(.t 20)]),mvI 10 (.t 21)])
  .ret) (.seq (.reg false [opI 23 (.arith .eql (.t 11) (kI 21)),mvI 22 (.t 23)])
  (.cond (.t 22) (.seq (.reg false [mvI 24 (.t 2),opI 25 (.conv .i64 (.t 24)),mvI 26 (.t 1),mvI 27 (.t 4),opI 28 (.callf f_r01_Extract [(.t 25),(.t 26),(.t 27)]),mvI 10 (.t 28)])
  .ret) (.seq (.reg false [opI 30 (.arith .eql (.t 11) (kI 23)),mvI 29 (.t 30)])
  (.cond (.t 29) (.seq (.reg false [mvI 31 (.t 3),mvI 32 (.t 1),mvI 33 (.t 4),opI 34 (.callf f_r01_Sext [(.t 31),(.t 32),(.t 33)]),mvI 10 (.t 34)])
  .ret) .skip))))))))))
  (.seq (.reg false [mvI 35 (.t 4),mvI 10 (.t 35)])
  .ret))),false⟩
def B0_r01_Concat:K :=
  (.seq (.reg false [opI 17 (.arith .lss (.t 16) (.t 15))])
  (.seq (.cond (.t 17) .skip (.exit 0))
  (.seq (.block 1 (.seq (.reg false [mvI 18 (.t 16),mvI 10 (.t 18)])
  (.seq (.reg false [mvI 19 (.t 10),mvI 20 (.t 1),opI 21 (.callf f_r01_W [(.t 20)]),opI 22 (.arith .add (.t 19) (.t 21)),opI 23 (.arith .lss (.t 22) (kI 64))])
  (.cond (.t 23) (.reg false [mvI 24 (.t 9),mvI 25 (.t 2),mvI 26 (.t 10),opI 27 (.callf f_r01_Bit [(.t 25),(.t 26)]),mvI 28 (.t 10),mvI 29 (.t 1),opI 30 (.callf f_r01_W [(.t 29)]),opI 31 (.arith .add (.t 28) (.t 30)),opI 32 (.conv .u64 (.t 31)),opI 33 (.arith .shl (.t 27) (.t 32)),opI 34 (.arith .or (.t 24) (.t 33)),mvI 9 (.t 34)]) .skip))))
  (.reg false [opI 35 (.arith .add (.t 16) (kI 1)),mvI 16 (.t 35)]))))
def L0_r01_Concat:K:=.loop [1,2,9,15,16] B0_r01_Concat
def F_r01_Concat:AFn:=⟨37,[.tmp 8],
  (.seq (.reg false [mvI 8 (.c (.p (.int .u64 0)))])
  (.seq (.reg false [mvI 11 (.t 1),mvI 12 (.t 3),opI 13 (.callf f_r01_Cut [(.t 11),(.t 12)]),mvI 9 (.t 13)])
  (.seq (.seq (.reg false [mvI 14 (.t 0),opI 15 (.callf f_r01_W [(.t 14)]),mvI 16 (kI 0)])
  (.block 0 L0_r01_Concat))
  (.seq (.reg false [mvI 36 (.t 9),mvI 8 (.t 36)])
  .ret)))),false⟩
def F_r08_two:AFn:=⟨92,[.tmp 8],
  (.seq (.reg false [mvI 8 (.c (.p (.int .u64 0)))])
  (.seq (.seq (.reg false [mvI 9 (.t 0)])
  (.block 0 (.seq (.reg false [opI 11 (.arith .eql (.t 9) (kI 5)),mvI 10 (.t 11)])
  (.cond (.t 10) (.seq (.reg false [mvI 12 (.t 1),mvI 13 (.t 2),mvI 14 (.t 3),opI 15 (.callf f_r01_And [(.t 12),(.t 13),(.t 14)]),mvI 8 (.t 15)])
  .ret) (.seq (.reg false [opI 17 (.arith .eql (.t 9) (kI 6)),mvI 16 (.t 17)])
  (.cond (.t 16) (.seq (.reg false [mvI 18 (.t 1),mvI 19 (.t 2),mvI 20 (.t 3),opI 21 (.callf f_r01_Or [(.t 18),(.t 19),(.t 20)]),mvI 8 (.t 21)])
  .ret) (.seq (.reg false [opI 23 (.arith .eql (.t 9) (kI 7)),mvI 22 (.t 23)])
  (.cond (.t 22) (.seq (.reg false [mvI 24 (.t 1),mvI 25 (.t 2),mvI 26 (.t 3),opI 27 (.callf f_r01_Xor [(.t 24),(.t 25),(.t 26)]),mvI 8 (.t 27)])
  .ret) (.seq (.reg false [opI 29 (.arith .eql (.t 9) (kI 8)),mvI 28 (.t 29)])
  (.cond (.t 28) (.seq (.reg false [mvI 30 (.t 1),mvI 31 (.t 2),mvI 32 (.t 3),opI 33 (.callf f_r01_Add [(.t 30),(.t 31),(.t 32)]),mvI 8 (.t 33)])
  .ret) (.seq (.reg false [opI 35 (.arith .eql (.t 9) (kI 9)),mvI 34 (.t 35)])
  (.cond (.t 34) (.seq (.reg false [mvI 36 (.t 1),mvI 37 (.t 2),mvI 38 (.t 3),opI 39 (.callf f_r01_Sub [(.t 36),(.t 37),(.t 38)]),mvI 8 (.t 39)])
  .ret) (.seq (.reg false [opI 41 (.arith .eql (.t 9) (kI 10)),mvI 40 (.t 41)])
  (.cond (.t 40) (.seq (.reg false [mvI 42 (.t 1),mvI 43 (.t 2),mvI 44 (.t 3),opI 45 (.callf f_r01_Mul [(.t 42),(.t 43),(.t 44)]),mvI 8 (.t 45)])
  .ret) (.seq (.reg false [opI 47 (.arith .eql (.t 9) (kI 11)),mvI 46 (.t 47)])
  (.cond (.t 46) (.seq (.reg false [mvI 48 (.t 1),mvI 49 (.t 2),mvI 50 (.t 3),opI 51 (.callf f_r01_Udiv [(.t 48),(.t 49),(.t 50)]),mvI 8 (.t 51)])
  .ret) (.seq (.reg false [opI 53 (.arith .eql (.t 9) (kI 12)),mvI 52 (.t 53)])
  (.cond (.t 52) (.seq (.reg false [mvI 54 (.t 1),mvI 55 (.t 2),mvI 56 (.t 3),opI 57 (.callf f_r01_Urem [(.t 54),(.t 55),(.t 56)]),mvI 8 (.t 57)])
  .ret) (.seq (.reg false [opI 59 (.arith .eql (.t 9) (kI 13)),mvI 58 (.t 59)])
  (.cond (.t 58) (.seq (.reg false [mvI 60 (.t 1),mvI 61 (.t 2),mvI 62 (.t 3),opI 63 (.callf f_r01_Shl [(.t 60),(.t 61),(.t 62)]),mvI 8 (.t 63)])
  .ret) (.seq (.reg false [opI 65 (.arith .eql (.t 9) (kI 14)),mvI 64 (.t 65)])
  (.cond (.t 64) (.seq (.reg false [mvI 66 (.t 1),mvI 67 (.t 2),mvI 68 (.t 3),opI 69 (.callf f_r01_Lshr [(.t 66),(.t 67),(.t 68)]),mvI 8 (.t 69)])
  .ret) (.seq (.reg false [opI 71 (.arith .eql (.t 9) (kI 15)),mvI 70 (.t 71)])
  (.cond (.t 70) (.seq (.reg false [mvI 72 (.t 1),mvI 73 (.t 2),mvI 74 (.t 3),opI 75 (.callf f_r01_Ashr [(.t 72),(.t 73),(.t 74)]),mvI 8 (.t 75)])
  .ret) (.seq (.reg false [opI 77 (.arith .eql (.t 9) (kI 16)),mvI 76 (.t 77)])
  (.cond (.t 76) (.seq (.reg false [mvI 78 (.t 1),mvI 79 (.t 2),mvI 80 (.t 3),opI 81 (.callf f_r01_Eq [(.t 78),(.t 79),(.t 80)]),mvI 8 (.t 81)])
  .ret) (.seq (.reg false [opI 83 (.arith .eql (.t 9) (kI 17)),mvI 82 (.t 83)])
  (.cond (.t 82) (.seq (.reg false [mvI 84 (.t 1),mvI 85 (.t 2),mvI 86 (.t 3),opI 87 (.callf f_r01_Ult [(.t 84),(.t 85),(.t 86)]),mvI 8 (.t 87)])
  .ret) .skip))))))))))))))))))))))))))))
  (.seq (.reg false [mvI 88 (.t 1),mvI 89 (.t 2),mvI 90 (.t 3),opI 91 (.callf f_r01_Slt [(.t 88),(.t 89),(.t 90)]),mvI 8 (.t 91)])
  .ret))),false⟩
def F_opinfo_known:AFn:=⟨9,[.tmp 2],
  (.seq (.reg false [mvI 2 (.c (.p (.bool false)))])
  (.seq (.reg false [mvI 3 (.t 0),opI 4 (.arith .geq (.t 3) (kI 1)),mvI 5 (.t 4),⟨some 6,.mv (.t 0) false,some (5,true)⟩,⟨some 7,.arith .leq (.t 6) (kI 26),some (5,true)⟩,opI 8 (.pick (.t 5) (.t 7) (.c (.p (.bool false)))),mvI 2 (.t 8)])
  .ret)),false⟩
def F_opinfo_inside:AFn:=⟨9,[.tmp 2],
  (.seq (.reg false [mvI 2 (.c (.p (.bool false)))])
  (.seq (.reg false [mvI 3 (.t 0),opI 4 (.arith .geq (.t 3) (kI 0)),mvI 5 (.t 4),⟨some 6,.mv (.t 0) false,some (5,true)⟩,⟨some 7,.arith .leq (.t 6) (kI 64),some (5,true)⟩,opI 8 (.pick (.t 5) (.t 7) (.c (.p (.bool false)))),mvI 2 (.t 8)])
  .ret)),false⟩
def F_opinfo_leaf:AFn:=⟨26,[.tmp 6,.tmp 7],
  (.seq (.reg false [mvI 6 (kI 0),mvI 7 (kI 0)])
  (.seq (.seq (.reg false [mvI 8 (.t 1),opI 9 (.callf f_opinfo_inside [(.t 8)]),opI 10 (.not (.t 9)),mvI 11 (.t 10),⟨some 12,.mv (.t 0) false,some (11,false)⟩,⟨some 13,.arith .eql (.t 12) (kI 2),some (11,false)⟩,⟨some 14,.mv (.t 13) false,some (11,false)⟩,⟨some 15,.mv (.t 1) false,some (14,true)⟩,⟨some 16,.arith .gtr (.t 15) (kI 0),some (14,true)⟩,⟨some 17,.pick (.t 14) (.t 16) (.c (.p (.bool false))),some (11,false)⟩,⟨some 18,.mv (.t 17) false,some (11,false)⟩,⟨some 19,.mv (.t 2) false,some (18,true)⟩,⟨some 20,.mv (.t 1) false,some (18,true)⟩,⟨some 21,.arith .shr (.t 19) (.t 20),some (18,true)⟩,⟨some 22,.arith .neq (.t 21) (.c (.p (.int .u64 0))),some (18,true)⟩,⟨some 23,.pick (.t 18) (.t 22) (.c (.p (.bool false))),some (11,false)⟩,opI 24 (.pick (.t 11) (.c (.p (.bool true))) (.t 23))])
  (.cond (.t 24) (.seq (.reg false [mvI 6 (kI 0),mvI 7 (kI 3)])
  .ret) .skip))
  (.seq (.reg false [mvI 25 (.t 1),mvI 6 (.t 25),mvI 7 (kI 0)])
  .ret))),false⟩
def F_opinfo_resized:AFn:=⟨45,[.tmp 8,.tmp 9],
  (.seq (.reg false [mvI 8 (kI 0),mvI 9 (kI 0)])
  (.seq (.seq (.reg false [mvI 10 (.t 1),opI 11 (.arith .lss (.t 10) (kI 1)),mvI 12 (.t 11),⟨some 13,.mv (.t 1) false,some (12,false)⟩,⟨some 14,.arith .gtr (.t 13) (kI 64),some (12,false)⟩,opI 15 (.pick (.t 12) (.c (.p (.bool true))) (.t 14)),mvI 16 (.t 15),⟨some 17,.mv (.t 3) false,some (16,false)⟩,⟨some 18,.arith .lss (.t 17) (kI 1),some (16,false)⟩,opI 19 (.pick (.t 16) (.c (.p (.bool true))) (.t 18))])
  (.cond (.t 19) (.seq (.reg false [mvI 8 (kI 0),mvI 9 (kI 3)])
  .ret) .skip))
  (.seq (.seq (.reg false [mvI 20 (.t 0),opI 21 (.arith .neq (.t 20) (kI 21)),mvI 22 (.t 21),⟨some 23,.mv (.t 1) false,some (22,true)⟩,⟨some 24,.mv (.t 3) false,some (22,true)⟩,⟨some 25,.arith .lss (.t 23) (.t 24),some (22,true)⟩,opI 26 (.pick (.t 22) (.t 25) (.c (.p (.bool false)))),mvI 27 (.t 26),⟨some 28,.mv (.t 0) false,some (27,false)⟩,⟨some 29,.arith .eql (.t 28) (kI 21),some (27,false)⟩,⟨some 30,.mv (.t 29) false,some (27,false)⟩,⟨some 31,.mv (.t 1) false,some (30,true)⟩,⟨some 32,.mv (.t 3) false,some (30,true)⟩,⟨some 33,.arith .gtr (.t 31) (.t 32),some (30,true)⟩,⟨some 34,.mv (.t 33) false,some (30,true)⟩,⟨some 35,.mv (.t 2) false,some (34,false)⟩,⟨some 36,.mv (.t 3) false,some (34,false)⟩,⟨some 37,.mv (.t 1) false,some (34,false)⟩,⟨some 38,.arith .sub (.t 36) (.t 37),some (34,false)⟩,⟨some 39,.conv .u64 (.t 38),some (34,false)⟩,⟨some 40,.arith .gtr (.t 35) (.t 39),some (34,false)⟩,⟨some 41,.pick (.t 34) (.c (.p (.bool true))) (.t 40),some (30,true)⟩,⟨some 42,.pick (.t 30) (.t 41) (.c (.p (.bool false))),some (27,false)⟩,opI 43 (.pick (.t 27) (.c (.p (.bool true))) (.t 42))])
  (.cond (.t 43) (.seq (.reg false [mvI 8 (kI 0),mvI 9 (kI 3)])
  .ret) .skip))
  (.seq (.reg false [mvI 44 (.t 1),mvI 8 (.t 44),mvI 9 (kI 0)])
  .ret)))),false⟩
def F_opinfo_agreed:AFn:=⟨9,[.tmp 4,.tmp 5],
  (.seq (.reg false [mvI 4 (kI 0),mvI 5 (kI 0)])
  (.seq (.seq (.reg false [mvI 6 (.t 0),opI 7 (.not (.t 6))])
  (.cond (.t 7) (.seq (.reg false [mvI 4 (kI 0),mvI 5 (kI 3)])
  .ret) .skip))
  (.seq (.reg false [mvI 8 (.t 1),mvI 4 (.t 8),mvI 5 (kI 0)])
  .ret))),false⟩
def F_r04_Arity:AFn:=⟨16,[.tmp 2],
  (.seq (.reg false [mvI 2 (kI 0)])
  (.seq (.seq (.reg false [mvI 3 (.t 0),opI 4 (.arith .lss (.t 3) (kI 1)),mvI 5 (.t 4),⟨some 6,.mv (.t 0) false,some (5,false)⟩,⟨some 7,.arith .gtr (.t 6) (kI 26),some (5,false)⟩,opI 8 (.pick (.t 5) (.c (.p (.bool true))) (.t 7))])
  (.cond (.t 8) (.seq (.reg false [mvI 2 (kI (-1))])
  .ret) .skip))
  (.seq (.seq (.reg false [mvI 9 (.t 0),opI 10 (.callf f_r04_Leaf [(.t 9)])])
  (.cond (.t 10) (.seq (.reg false [mvI 2 (kI 0)])
  .ret) .skip))
  (.seq (.seq (.reg false [mvI 11 (.t 0),opI 12 (.bslice 1 [(.p (.int .i64 0))] 6 [(0,1,(kI 3)),(1,1,(kI 4)),(2,1,(kI 21)),(3,1,(kI 22)),(4,1,(kI 23)),(5,1,(kI 26))]),opI 13 (.callf f_r04_Is [(.t 11),(.t 12)])])
  (.cond (.t 13) (.seq (.reg false [mvI 2 (kI 1)])
  .ret) .skip))
  (.seq (.seq (.reg false [mvI 14 (.t 0),opI 15 (.arith .eql (.t 14) (kI 19))])
  (.cond (.t 15) (.seq (.reg false [mvI 2 (kI 3)])
  .ret) .skip))
  (.seq (.reg false [mvI 2 (kI 2)])
  .ret)))))),false⟩
def F_r04_Pattern:AFn:=⟨6,[.tmp 2],
  (.seq (.reg false [mvI 2 (.c (.p (.bool false)))])
  (.seq (.reg false [mvI 3 (.t 0),opI 4 (.bslice 1 [(.p (.int .i64 0))] 3 [(0,1,(kI 24)),(1,1,(kI 25)),(2,1,(kI 26))]),opI 5 (.callf f_r04_Is [(.t 3),(.t 4)]),mvI 2 (.t 5)])
  .ret)),false⟩
def B0_r06_Name:K :=
  (.seq (.seq (.reg false [mvI 22 (.t 3),mvI 23 (.t 0),opI 24 (.lenT (.t 23)),opI 25 (.arith .lss (.t 22) (.t 24))])
  (.cond (.t 25) .skip (.exit 0)))
  (.seq (.block 1 (.seq (.reg false [mvI 28 (.t 0),mvI 29 (.t 3),opI 30 (.idxS (.t 28) (.t 29)),opI 31 (.arith .lss (.t 30) (.c (.p (.int .u8 97)))),mvI 32 (.t 31),⟨some 33,.mv (.t 0) false,some (32,false)⟩,⟨some 34,.mv (.t 3) false,some (32,false)⟩,⟨some 35,.idxS (.t 33) (.t 34),some (32,false)⟩,⟨some 36,.arith .gtr (.t 35) (.c (.p (.int .u8 122))),some (32,false)⟩,opI 37 (.pick (.t 32) (.c (.p (.bool true))) (.t 36)),mvI 38 (.t 37),⟨some 39,.mv (.t 0) false,some (38,true)⟩,⟨some 40,.mv (.t 3) false,some (38,true)⟩,⟨some 41,.idxS (.t 39) (.t 40),some (38,true)⟩,⟨some 42,.arith .lss (.t 41) (.c (.p (.int .u8 48))),some (38,true)⟩,⟨some 43,.mv (.t 42) false,some (38,true)⟩,⟨some 44,.mv (.t 0) false,some (43,false)⟩,⟨some 45,.mv (.t 3) false,some (43,false)⟩,⟨some 46,.idxS (.t 44) (.t 45),some (43,false)⟩,⟨some 47,.arith .gtr (.t 46) (.c (.p (.int .u8 57))),some (43,false)⟩,⟨some 48,.pick (.t 43) (.c (.p (.bool true))) (.t 47),some (38,true)⟩,opI 49 (.pick (.t 38) (.t 48) (.c (.p (.bool false)))),mvI 50 (.t 49),⟨some 51,.mv (.t 0) false,some (50,true)⟩,⟨some 52,.mv (.t 3) false,some (50,true)⟩,⟨some 53,.idxS (.t 51) (.t 52),some (50,true)⟩,⟨some 54,.arith .neq (.t 53) (.c (.p (.int .u8 95))),some (50,true)⟩,opI 55 (.pick (.t 50) (.t 54) (.c (.p (.bool false))))])
  (.cond (.t 55) (.seq (.reg false [mvI 2 (.c (.p (.bool false)))])
  .ret) .skip)))
  (.reg false [mvI 26 (.t 3),opI 27 (.arith .add (.t 26) (kI 1)),mvI 3 (.t 27)])))
def L0_r06_Name:K:=.loop [0,3] B0_r06_Name
def F_r06_Name:AFn:=⟨56,[.tmp 2],
  (.seq (.reg false [mvI 2 (.c (.p (.bool false)))])
  (.seq (.seq (.reg false [mvI 4 (.t 0),opI 5 (.lenT (.t 4)),opI 6 (.arith .lss (.t 5) (kI 1)),mvI 7 (.t 6),⟨some 8,.mv (.t 0) false,some (7,false)⟩,⟨some 9,.lenT (.t 8),some (7,false)⟩,⟨some 10,.arith .gtr (.t 9) (kI 16),some (7,false)⟩,opI 11 (.pick (.t 7) (.c (.p (.bool true))) (.t 10)),mvI 12 (.t 11),⟨some 13,.mv (.t 0) false,some (12,false)⟩,⟨some 14,.idxS (.t 13) (kI 0),some (12,false)⟩,⟨some 15,.arith .lss (.t 14) (.c (.p (.int .u8 97))),some (12,false)⟩,opI 16 (.pick (.t 12) (.c (.p (.bool true))) (.t 15)),mvI 17 (.t 16),⟨some 18,.mv (.t 0) false,some (17,false)⟩,⟨some 19,.idxS (.t 18) (kI 0),some (17,false)⟩,⟨some 20,.arith .gtr (.t 19) (.c (.p (.int .u8 122))),some (17,false)⟩,opI 21 (.pick (.t 17) (.c (.p (.bool true))) (.t 20))])
  (.cond (.t 21) (.seq (.reg false [mvI 2 (.c (.p (.bool false)))])
  .ret) .skip))
  (.seq (.seq (.reg false [mvI 3 (kI 0)])
  (.block 0 L0_r06_Name))
  (.seq (.reg false [mvI 2 (.c (.p (.bool true)))])
  .ret)))),false⟩
def B0_r04_Width:K :=
  (.seq (.reg false [opI 24 (.arith .lss (.t 23) (.t 22))])
  (.seq (.cond (.t 24) .skip (.exit 0))
  (.seq (.block 1 (.seq (.reg false [mvI 25 (.t 23),mvI 10 (.t 25)])
  (.seq (.reg false [mvI 26 (.t 3),mvI 27 (.t 10),opI 28 (.iadrS 1 (.t 26) (.t 27)),opI 29 (.load 1 false (.t 28)),opI 30 (.callf f_r04_width [(.t 29)]),opI 31 (.not (.t 30))])
  (.cond (.t 31) (.seq (.reg false [mvI 8 (kI 0),mvI 9 (kI 3)])
  .ret) .skip))))
  (.reg false [opI 32 (.arith .add (.t 23) (kI 1)),mvI 23 (.t 32)]))))
def L0_r04_Width:K:=.loop [0,1,2,3,22,23] B0_r04_Width
def F_r04_Width:AFn:=⟨133,[.tmp 8,.tmp 9],
  (.seq (.reg false [mvI 8 (kI 0),mvI 9 (kI 0)])
  (.seq (.seq (.reg false [mvI 11 (.t 0),opI 12 (.callf f_r04_Arity [(.t 11)]),opI 13 (.arith .lss (.t 12) (kI 0)),mvI 14 (.t 13),⟨some 15,.mv (.t 3) false,some (14,false)⟩,⟨some 16,.lenS (.t 15),some (14,false)⟩,⟨some 17,.mv (.t 0) false,some (14,false)⟩,⟨some 18,.callf f_r04_Arity [(.t 17)],some (14,false)⟩,⟨some 19,.arith .neq (.t 16) (.t 18),some (14,false)⟩,opI 20 (.pick (.t 14) (.c (.p (.bool true))) (.t 19))])
  (.cond (.t 20) (.seq (.reg false [mvI 8 (kI 0),mvI 9 (kI 4)])
  .ret) .skip))
  (.seq (.seq (.reg false [mvI 21 (.t 3),opI 22 (.lenS (.t 21)),mvI 23 (kI 0)])
  (.block 0 L0_r04_Width))
  (.seq (.seq (.reg false [mvI 33 (.t 0),opI 34 (.callf f_r04_Leaf [(.t 33)])])
  (.cond (.t 34) (.seq (.reg false [mvI 35 (.t 0),mvI 36 (.t 1),mvI 37 (.t 2),opI 38 (.callf f_r04_leaf [(.t 35),(.t 36),(.t 37)]),opI 39 (.extract (.t 38) 0),opI 40 (.extract (.t 38) 1),mvI 8 (.t 39),mvI 9 (.t 40)])
  .ret) .skip))
  (.seq (.seq (.reg false [mvI 41 (.t 0),opI 42 (.arith .eql (.t 41) (kI 21)),mvI 43 (.t 42),⟨some 44,.mv (.t 0) false,some (43,false)⟩,⟨some 45,.arith .eql (.t 44) (kI 22),some (43,false)⟩,opI 46 (.pick (.t 43) (.c (.p (.bool true))) (.t 45)),mvI 47 (.t 46),⟨some 48,.mv (.t 0) false,some (47,false)⟩,⟨some 49,.arith .eql (.t 48) (kI 23),some (47,false)⟩,opI 50 (.pick (.t 47) (.c (.p (.bool true))) (.t 49))])
  (.cond (.t 50) (.seq (.reg false [mvI 51 (.t 0),mvI 52 (.t 1),mvI 53 (.t 2),mvI 54 (.t 3),opI 55 (.iadrS 1 (.t 54) (kI 0)),opI 56 (.load 1 false (.t 55)),opI 57 (.callf f_r04_parts [(.t 51),(.t 52),(.t 53),(.t 56)]),opI 58 (.extract (.t 57) 0),opI 59 (.extract (.t 57) 1),mvI 8 (.t 58),mvI 9 (.t 59)])
  .ret) .skip))
  (.seq (.seq (.reg false [mvI 60 (.t 3),opI 61 (.lenS (.t 60)),opI 62 (.arith .eql (.t 61) (kI 1))])
  (.cond (.t 62) (.seq (.reg false [mvI 63 (.t 3),opI 64 (.iadrS 1 (.t 63) (kI 0)),opI 65 (.load 1 false (.t 64)),mvI 8 (.t 65),mvI 9 (kI 0)])
  .ret) .skip))
  (.seq (.seq (.reg false [mvI 66 (.t 0),opI 67 (.arith .eql (.t 66) (kI 20))])
  (.cond (.t 67) (.seq (.seq (.reg true [mvI 68 (.t 3),opI 69 (.iadrS 1 (.t 68) (kI 0)),opI 70 (.load 1 false (.t 69)),opI 71 (.arith .lss (.t 70) (kI 1)),mvI 72 (.t 71),⟨some 73,.mv (.t 3) false,some (72,false)⟩,⟨some 74,.iadrS 1 (.t 73) (kI 1),some (72,false)⟩,⟨some 75,.load 1 false (.t 74),some (72,false)⟩,⟨some 76,.arith .lss (.t 75) (kI 1),some (72,false)⟩,opI 77 (.pick (.t 72) (.c (.p (.bool true))) (.t 76)),mvI 78 (.t 77),⟨some 79,.mv (.t 3) false,some (78,false)⟩,⟨some 80,.iadrS 1 (.t 79) (kI 0),some (78,false)⟩,⟨some 81,.load 1 false (.t 80),some (78,false)⟩,⟨some 82,.mv (.t 3) false,some (78,false)⟩,⟨some 83,.iadrS 1 (.t 82) (kI 1),some (78,false)⟩,⟨some 84,.load 1 false (.t 83),some (78,false)⟩,⟨some 85,.arith .add (.t 81) (.t 84),some (78,false)⟩,⟨some 86,.arith .gtr (.t 85) (kI 64),some (78,false)⟩,opI 87 (.pick (.t 78) (.c (.p (.bool true))) (.t 86))])
  (.cond (.t 87) (.seq (.reg false [mvI 8 (kI 0),mvI 9 (kI 3)])
  .ret) .skip))
  (.seq (.reg true [mvI 88 (.t 3),opI 89 (.iadrS 1 (.t 88) (kI 0)),opI 90 (.load 1 false (.t 89)),mvI 91 (.t 3),opI 92 (.iadrS 1 (.t 91) (kI 1)),opI 93 (.load 1 false (.t 92)),opI 94 (.arith .add (.t 90) (.t 93)),mvI 8 (.t 94),mvI 9 (kI 0)])
  .ret)) .skip))
  (.seq (.seq (.reg false [mvI 95 (.t 0),opI 96 (.arith .eql (.t 95) (kI 19))])
  (.cond (.t 96) (.seq (.seq (.reg true [mvI 97 (.t 3),opI 98 (.iadrS 1 (.t 97) (kI 0)),opI 99 (.load 1 false (.t 98)),opI 100 (.arith .neq (.t 99) (kI 1)),mvI 101 (.t 100),⟨some 102,.mv (.t 3) false,some (101,false)⟩,⟨some 103,.iadrS 1 (.t 102) (kI 1),some (101,false)⟩,⟨some 104,.load 1 false (.t 103),some (101,false)⟩,⟨some 105,.mv (.t 3) false,some (101,false)⟩,⟨some 106,.iadrS 1 (.t 105) (kI 2),some (101,false)⟩,⟨some 107,.load 1 false (.t 106),some (101,false)⟩,⟨some 108,.arith .neq (.t 104) (.t 107),some (101,false)⟩,opI 109 (.pick (.t 101) (.c (.p (.bool true))) (.t 108))])
  (.cond (.t 109) (.seq (.reg false [mvI 8 (kI 0),mvI 9 (kI 3)])
  .ret) .skip))
  (.seq (.reg false [mvI 110 (.t 3),opI 111 (.iadrS 1 (.t 110) (kI 1)),opI 112 (.load 1 false (.t 111)),mvI 8 (.t 112),mvI 9 (kI 0)])
  .ret)) .skip))
  (.seq (.seq (.reg true [mvI 113 (.t 3),opI 114 (.iadrS 1 (.t 113) (kI 0)),opI 115 (.load 1 false (.t 114)),mvI 116 (.t 3),opI 117 (.iadrS 1 (.t 116) (kI 1)),opI 118 (.load 1 false (.t 117)),opI 119 (.arith .neq (.t 115) (.t 118))])
  (.cond (.t 119) (.seq (.reg false [mvI 8 (kI 0),mvI 9 (kI 3)])
  .ret) .skip))
  (.seq (.seq (.reg false [mvI 120 (.t 0),opI 121 (.arith .eql (.t 120) (kI 16)),mvI 122 (.t 121),⟨some 123,.mv (.t 0) false,some (122,false)⟩,⟨some 124,.arith .eql (.t 123) (kI 17),some (122,false)⟩,opI 125 (.pick (.t 122) (.c (.p (.bool true))) (.t 124)),mvI 126 (.t 125),⟨some 127,.mv (.t 0) false,some (126,false)⟩,⟨some 128,.arith .eql (.t 127) (kI 18),some (126,false)⟩,opI 129 (.pick (.t 126) (.c (.p (.bool true))) (.t 128))])
  (.cond (.t 129) (.seq (.reg false [mvI 8 (kI 1),mvI 9 (kI 0)])
  .ret) .skip))
  (.seq (.reg false [mvI 130 (.t 3),opI 131 (.iadrS 1 (.t 130) (kI 0)),opI 132 (.load 1 false (.t 131)),mvI 8 (.t 132),mvI 9 (kI 0)])
  .ret))))))))))),false⟩
def B0_r06_Widths:K :=
  (.seq (.seq (.reg false [mvI 5 (.t 4),mvI 6 (.t 0),opI 7 (.lenS (.t 6)),opI 8 (.arith .lss (.t 5) (.t 7))])
  (.cond (.t 8) .skip (.exit 0)))
  (.seq (.block 1 (.reg false [mvI 11 (.t 3),mvI 12 (.t 0),mvI 13 (.t 4),opI 14 (.iadrS 5 (.t 12) (.t 13)),opI 15 (.fadr 1 (.t 14)),opI 16 (.load 1 false (.t 15)),opI 17 (.bslice 1 [(.p (.int .i64 0))] 1 [(0,1,(.t 16))]),opI 18 (.append 1 8 (.t 11) (.t 17)),opI 3 (.mv (.t 18) true)]))
  (.reg false [mvI 9 (.t 4),opI 10 (.arith .add (.t 9) (kI 1)),mvI 4 (.t 10)])))
def L0_r06_Widths:K:=.loop [0,3,4] B0_r06_Widths
def F_r06_Widths:AFn:=⟨20,[.tmp 2],
  (.seq (.reg false [mvI 2 (.c .nils)])
  (.seq (.reg false [opI 3 (.mv (.c .nils) true)])
  (.seq (.seq (.reg false [mvI 4 (kI 0)])
  (.block 0 L0_r06_Widths))
  (.seq (.reg false [mvI 19 (.t 3),mvI 2 (.t 19)])
  .ret)))),false⟩
def F_bits_Cut:AFn:=⟨9,[.tmp 4],
  (.seq (.reg false [mvI 4 (.c (.p (.int .u64 0)))])
  (.seq (.reg false [mvI 5 (.t 1),mvI 6 (.t 0),opI 7 (.callf f_bits_Mask [(.t 6)]),opI 8 (.arith .and (.t 5) (.t 7)),mvI 4 (.t 8)])
  .ret)),false⟩
def F_eval_compute:AFn:=⟨105,[.tmp 8],
  (.seq (.reg false [mvI 8 (.c (.p (.int .u64 0)))])
  (.seq (.seq (.reg false [mvI 9 (.t 0)])
  (.block 0 (.seq (.reg false [opI 11 (.arith .eql (.t 9) (kI 2)),mvI 10 (.t 11)])
  (.cond (.t 10) (.seq (.reg false [mvI 12 (.t 2),mvI 8 (.t 12)])
  .ret) (.seq (.reg false [opI 14 (.arith .eql (.t 9) (kI 3)),mvI 13 (.t 14)])
  (.cond (.t 13) (.seq (.reg false [mvI 15 (.t 1),mvI 16 (.t 3),opI 17 (.iadrS 2 (.t 16) (kI 0)),opI 18 (.fadr 1 (.t 17)),opI 19 (.load 1 false (.t 18)),opI 20 (.callf f_bits_Not [(.t 15),(.t 19)]),mvI 8 (.t 20)])
  .ret) (.seq (.reg false [opI 22 (.arith .eql (.t 9) (kI 4)),mvI 21 (.t 22)])
  (.cond (.t 21) (.seq (.reg false [mvI 23 (.t 1),mvI 24 (.t 3),opI 25 (.iadrS 2 (.t 24) (kI 0)),opI 26 (.fadr 1 (.t 25)),opI 27 (.load 1 false (.t 26)),opI 28 (.callf f_bits_Neg [(.t 23),(.t 27)]),mvI 8 (.t 28)])
  .ret) (.seq (.reg false [opI 30 (.arith .eql (.t 9) (kI 19)),mvI 29 (.t 30)])
  (.cond (.t 29) (.seq (.seq (.reg false [mvI 31 (.t 3),opI 32 (.iadrS 2 (.t 31) (kI 0)),opI 33 (.fadr 1 (.t 32)),opI 34 (.load 1 false (.t 33)),opI 35 (.arith .eql (.t 34) (.c (.p (.int .u64 1))))])
  (.cond (.t 35) (.seq (.reg false [mvI 36 (.t 3),opI 37 (.iadrS 2 (.t 36) (kI 1)),opI 38 (.fadr 1 (.t 37)),opI 39 (.load 1 false (.t 38)),mvI 8 (.t 39)])
  .ret) .skip))
  (.seq (.reg false [mvI 40 (.t 3),opI 41 (.iadrS 2 (.t 40) (kI 2)),opI 42 (.fadr 1 (.t 41)),opI 43 (.load 1 false (.t 42)),mvI 8 (.t 43)])
  .ret)) (.seq (.reg false [opI 45 (.arith .eql (.t 9) (kI 20)),mvI 44 (.t 45)])
  (.cond (.t 44) (.seq (.reg true [mvI 46 (.t 3),opI 47 (.iadrS 2 (.t 46) (kI 0)),opI 48 (.fadr 0 (.t 47)),opI 49 (.load 1 false (.t 48)),mvI 50 (.t 3),opI 51 (.iadrS 2 (.t 50) (kI 1)),opI 52 (.fadr 0 (.t 51)),opI 53 (.load 1 false (.t 52)),mvI 54 (.t 3),opI 55 (.iadrS 2 (.t 54) (kI 0)),opI 56 (.fadr 1 (.t 55)),opI 57 (.load 1 false (.t 56)),mvI 58 (.t 3),opI 59 (.iadrS 2 (.t 58) (kI 1)),opI 60 (.fadr 1 (.t 59)),opI 61 (.load 1 false (.t 60)),opI 62 (.callf f_bits_Concat [(.t 49),(.t 53),(.t 57),(.t 61)]),mvI 8 (.t 62)])
  .ret) (.seq (.reg false [opI 64 (.arith .eql (.t 9) (kI 21)),mvI 63 (.t 64)])
  (.cond (.t 63) (.seq (.reg false [mvI 65 (.t 2),opI 66 (.conv .i64 (.t 65)),mvI 67 (.t 1),mvI 68 (.t 3),opI 69 (.iadrS 2 (.t 68) (kI 0)),opI 70 (.fadr 1 (.t 69)),opI 71 (.load 1 false (.t 70)),opI 72 (.callf f_bits_Extract [(.t 66),(.t 67),(.t 71)]),mvI 8 (.t 72)])
  .ret) (.seq (.reg false [opI 74 (.arith .eql (.t 9) (kI 22)),mvI 73 (.t 74)])
  (.cond (.t 73) (.seq (.reg false [mvI 75 (.t 3),opI 76 (.iadrS 2 (.t 75) (kI 0)),opI 77 (.fadr 1 (.t 76)),opI 78 (.load 1 false (.t 77)),mvI 8 (.t 78)])
  .ret) (.seq (.reg false [opI 80 (.arith .eql (.t 9) (kI 23)),mvI 79 (.t 80)])
  (.cond (.t 79) (.seq (.reg true [mvI 81 (.t 3),opI 82 (.iadrS 2 (.t 81) (kI 0)),opI 83 (.fadr 0 (.t 82)),opI 84 (.load 1 false (.t 83)),mvI 85 (.t 1),mvI 86 (.t 3),opI 87 (.iadrS 2 (.t 86) (kI 0)),opI 88 (.fadr 1 (.t 87)),opI 89 (.load 1 false (.t 88)),opI 90 (.callf f_bits_Sext [(.t 84),(.t 85),(.t 89)]),mvI 8 (.t 90)])
  .ret) .skip))))))))))))))))))
  (.seq (.reg true [mvI 91 (.t 0),mvI 92 (.t 3),opI 93 (.iadrS 2 (.t 92) (kI 0)),opI 94 (.fadr 0 (.t 93)),opI 95 (.load 1 false (.t 94)),mvI 96 (.t 3),opI 97 (.iadrS 2 (.t 96) (kI 0)),opI 98 (.fadr 1 (.t 97)),opI 99 (.load 1 false (.t 98)),mvI 100 (.t 3),opI 101 (.iadrS 2 (.t 100) (kI 1)),opI 102 (.fadr 1 (.t 101)),opI 103 (.load 1 false (.t 102)),opI 104 (.callf f_eval_binary [(.t 91),(.t 95),(.t 99),(.t 103)]),mvI 8 (.t 104)])
  .ret))),false⟩
def F_r01_Not:AFn:=⟨11,[.tmp 4],
  (.seq (.reg false [mvI 4 (.c (.p (.int .u64 0)))])
  (.seq (.reg false [mvI 5 (.t 0),opI 6 (.callf f_r01_Mask [(.t 5)]),mvI 7 (.t 0),mvI 8 (.t 1),opI 9 (.callf f_r01_Cut [(.t 7),(.t 8)]),opI 10 (.arith .sub (.t 6) (.t 9)),mvI 4 (.t 10)])
  .ret)),false⟩
def F_r01_Neg:AFn:=⟨10,[.tmp 4],
  (.seq (.reg false [mvI 4 (.c (.p (.int .u64 0)))])
  (.seq (.reg false [mvI 5 (.t 0),mvI 6 (.t 0),mvI 7 (.t 1),opI 8 (.callf f_r01_Not [(.t 6),(.t 7)]),opI 9 (.callf f_r01_Add [(.t 5),(.t 8),(.c (.p (.int .u64 1)))]),mvI 4 (.t 9)])
  .ret)),false⟩
def B0_r01_Extract:K :=
  (.seq (.reg false [opI 18 (.arith .lss (.t 17) (.t 16))])
  (.seq (.cond (.t 18) .skip (.exit 0))
  (.seq (.block 1 (.seq (.reg false [mvI 19 (.t 17),mvI 8 (.t 19)])
  (.reg false [mvI 20 (.t 7),mvI 21 (.t 2),mvI 22 (.t 0),mvI 23 (.t 8),opI 24 (.arith .add (.t 22) (.t 23)),opI 25 (.callf f_r01_Bit [(.t 21),(.t 24)]),mvI 26 (.t 8),opI 27 (.conv .u64 (.t 26)),opI 28 (.arith .shl (.t 25) (.t 27)),opI 29 (.arith .or (.t 20) (.t 28)),mvI 7 (.t 29)])))
  (.reg false [opI 30 (.arith .add (.t 17) (kI 1)),mvI 17 (.t 30)]))))
def L0_r01_Extract:K:=.loop [0,2,7,16,17] B0_r01_Extract
def F_r01_Extract:AFn:=⟨32,[.tmp 6],
  (.seq (.reg false [mvI 6 (.c (.p (.int .u64 0)))])
  (.seq (.reg false [mvI 7 (.c (.p (.int .u64 0)))])
  (.seq (.seq (.reg false [mvI 9 (.t 0),opI 10 (.arith .lss (.t 9) (kI 0)),mvI 11 (.t 10),⟨some 12,.mv (.t 0) false,some (11,false)⟩,⟨some 13,.arith .gtr (.t 12) (kI 63),some (11,false)⟩,opI 14 (.pick (.t 11) (.c (.p (.bool true))) (.t 13))])
  (.cond (.t 14) (.seq (.reg false [mvI 6 (.c (.p (.int .u64 0)))])
  .ret) .skip))
  (.seq (.seq (.reg false [mvI 15 (.t 1),opI 16 (.callf f_r01_W [(.t 15)]),mvI 17 (kI 0)])
  (.block 0 L0_r01_Extract))
  (.seq (.reg false [mvI 31 (.t 7),mvI 6 (.t 31)])
  .ret))))),false⟩
def B0_r01_Sext:K :=
  (.seq (.reg false [opI 12 (.arith .lss (.t 11) (.t 10))])
  (.seq (.cond (.t 12) .skip (.exit 0))
  (.seq (.block 1 (.seq (.reg false [mvI 13 (.t 11),mvI 8 (.t 13)])
  (.reg false [mvI 14 (.t 7),mvI 15 (.t 2),mvI 16 (.t 8),mvI 17 (.t 0),opI 18 (.callf f_r01_W [(.t 17)]),opI 19 (.arith .sub (.t 18) (kI 1)),opI 20 (.minmax false [(.t 16),(.t 19)]),opI 21 (.callf f_r01_Bit [(.t 15),(.t 20)]),mvI 22 (.t 8),opI 23 (.conv .u64 (.t 22)),opI 24 (.arith .shl (.t 21) (.t 23)),opI 25 (.arith .or (.t 14) (.t 24)),mvI 7 (.t 25)])))
  (.reg false [opI 26 (.arith .add (.t 11) (kI 1)),mvI 11 (.t 26)]))))
def L0_r01_Sext:K:=.loop [0,2,7,10,11] B0_r01_Sext
def F_r01_Sext:AFn:=⟨28,[.tmp 6],
  (.seq (.reg false [mvI 6 (.c (.p (.int .u64 0)))])
  (.seq (.reg false [mvI 7 (.c (.p (.int .u64 0)))])
  (.seq (.seq (.reg false [mvI 9 (.t 1),opI 10 (.callf f_r01_W [(.t 9)]),mvI 11 (kI 0)])
  (.block 0 L0_r01_Sext))
  (.seq (.reg false [mvI 27 (.t 7),mvI 6 (.t 27)])
  .ret)))),false⟩
def B0_r01_And:K :=
  (.seq (.reg false [opI 12 (.arith .lss (.t 11) (.t 10))])
  (.seq (.cond (.t 12) .skip (.exit 0))
  (.seq (.block 1 (.seq (.reg false [mvI 13 (.t 11),mvI 8 (.t 13)])
  (.seq (.reg false [mvI 14 (.t 1),mvI 15 (.t 8),opI 16 (.callf f_r01_Bit [(.t 14),(.t 15)]),opI 17 (.arith .eql (.t 16) (.c (.p (.int .u64 1)))),mvI 18 (.t 17),⟨some 19,.mv (.t 2) false,some (18,true)⟩,⟨some 20,.mv (.t 8) false,some (18,true)⟩,⟨some 21,.callf f_r01_Bit [(.t 19),(.t 20)],some (18,true)⟩,⟨some 22,.arith .eql (.t 21) (.c (.p (.int .u64 1))),some (18,true)⟩,opI 23 (.pick (.t 18) (.t 22) (.c (.p (.bool false))))])
  (.cond (.t 23) (.reg false [mvI 24 (.t 7),mvI 25 (.t 8),opI 26 (.conv .u64 (.t 25)),opI 27 (.arith .shl (.c (.p (.int .u64 1))) (.t 26)),opI 28 (.arith .or (.t 24) (.t 27)),mvI 7 (.t 28)]) .skip))))
  (.reg false [opI 29 (.arith .add (.t 11) (kI 1)),mvI 11 (.t 29)]))))
def L0_r01_And:K:=.loop [1,2,7,10,11] B0_r01_And
def F_r01_And:AFn:=⟨31,[.tmp 6],
  (.seq (.reg false [mvI 6 (.c (.p (.int .u64 0)))])
  (.seq (.reg false [mvI 7 (.c (.p (.int .u64 0)))])
  (.seq (.seq (.reg false [mvI 9 (.t 0),opI 10 (.callf f_r01_W [(.t 9)]),mvI 11 (kI 0)])
  (.block 0 L0_r01_And))
  (.seq (.reg false [mvI 30 (.t 7),mvI 6 (.t 30)])
  .ret)))),false⟩
def F_r01_Or:AFn:=⟨17,[.tmp 6],
  (.seq (.reg false [mvI 6 (.c (.p (.int .u64 0)))])
  (.seq (.reg false [mvI 7 (.t 0),mvI 8 (.t 0),mvI 9 (.t 0),mvI 10 (.t 1),opI 11 (.callf f_r01_Not [(.t 9),(.t 10)]),mvI 12 (.t 0),mvI 13 (.t 2),opI 14 (.callf f_r01_Not [(.t 12),(.t 13)]),opI 15 (.callf f_r01_And [(.t 8),(.t 11),(.t 14)]),opI 16 (.callf f_r01_Not [(.t 7),(.t 15)]),mvI 6 (.t 16)])
  .ret)),false⟩
def F_r01_Xor:AFn:=⟨16,[.tmp 6],
  (.seq (.reg false [mvI 6 (.c (.p (.int .u64 0)))])
  (.seq (.reg false [mvI 7 (.t 0),mvI 8 (.t 1),mvI 9 (.t 2),opI 10 (.callf f_r01_Or [(.t 7),(.t 8),(.t 9)]),mvI 11 (.t 0),mvI 12 (.t 1),mvI 13 (.t 2),opI 14 (.callf f_r01_And [(.t 11),(.t 12),(.t 13)]),opI 15 (.arith .sub (.t 10) (.t 14)),mvI 6 (.t 15)])
  .ret)),false⟩
def B0_r01_Add:K :=
  (.seq (.reg false [opI 14 (.arith .lss (.t 13) (.t 12))])
  (.seq (.cond (.t 14) .skip (.exit 0))
  (.seq (.block 1 (.seq (.reg false [mvI 15 (.t 13),mvI 9 (.t 15)])
  (.seq (.reg false [mvI 16 (.t 1),mvI 17 (.t 9),opI 18 (.callf f_r01_Bit [(.t 16),(.t 17)]),mvI 19 (.t 2),mvI 20 (.t 9),opI 21 (.callf f_r01_Bit [(.t 19),(.t 20)]),opI 22 (.arith .add (.t 18) (.t 21)),mvI 23 (.t 8),opI 24 (.arith .add (.t 22) (.t 23)),mvI 10 (.t 24)])
  (.seq (.reg false [mvI 25 (.t 7),mvI 26 (.t 10),opI 27 (.arith .rem (.t 26) (.c (.p (.int .u64 2)))),mvI 28 (.t 9),opI 29 (.conv .u64 (.t 28)),opI 30 (.arith .shl (.t 27) (.t 29)),opI 31 (.arith .or (.t 25) (.t 30)),mvI 7 (.t 31)])
  (.reg false [mvI 32 (.t 10),opI 33 (.arith .quo (.t 32) (.c (.p (.int .u64 2)))),mvI 8 (.t 33)])))))
  (.reg false [opI 34 (.arith .add (.t 13) (kI 1)),mvI 13 (.t 34)]))))
def L0_r01_Add:K:=.loop [1,2,7,8,12,13] B0_r01_Add
def F_r01_Add:AFn:=⟨36,[.tmp 6],
  (.seq (.reg false [mvI 6 (.c (.p (.int .u64 0)))])
  (.seq (.reg false [mvI 7 (.c (.p (.int .u64 0))),mvI 8 (.c (.p (.int .u64 0)))])
  (.seq (.seq (.reg false [mvI 11 (.t 0),opI 12 (.callf f_r01_W [(.t 11)]),mvI 13 (kI 0)])
  (.block 0 L0_r01_Add))
  (.seq (.reg false [mvI 35 (.t 7),mvI 6 (.t 35)])
  .ret)))),false⟩
def F_r01_Sub:AFn:=⟨13,[.tmp 6],
  (.seq (.reg false [mvI 6 (.c (.p (.int .u64 0)))])
  (.seq (.reg false [mvI 7 (.t 0),mvI 8 (.t 1),mvI 9 (.t 0),mvI 10 (.t 2),opI 11 (.callf f_r01_Neg [(.t 9),(.t 10)]),opI 12 (.callf f_r01_Add [(.t 7),(.t 8),(.t 11)]),mvI 6 (.t 12)])
  .ret)),false⟩
def B0_r01_Mul:K :=
  (.seq (.seq (.reg false [mvI 12 (.t 8),opI 13 (.arith .geq (.t 12) (kI 0))])
  (.cond (.t 13) .skip (.exit 0)))
  (.seq (.block 1 (.seq (.reg false [mvI 16 (.t 0),mvI 17 (.t 7),mvI 18 (.t 7),opI 19 (.callf f_r01_Add [(.t 16),(.t 17),(.t 18)]),mvI 7 (.t 19)])
  (.seq (.reg false [mvI 20 (.t 2),mvI 21 (.t 8),opI 22 (.callf f_r01_Bit [(.t 20),(.t 21)]),opI 23 (.arith .eql (.t 22) (.c (.p (.int .u64 1))))])
  (.cond (.t 23) (.reg false [mvI 24 (.t 0),mvI 25 (.t 7),mvI 26 (.t 1),opI 27 (.callf f_r01_Add [(.t 24),(.t 25),(.t 26)]),mvI 7 (.t 27)]) .skip))))
  (.reg false [mvI 14 (.t 8),opI 15 (.arith .sub (.t 14) (kI 1)),mvI 8 (.t 15)])))
def L0_r01_Mul:K:=.loop [0,1,2,7,8] B0_r01_Mul
def F_r01_Mul:AFn:=⟨29,[.tmp 6],
  (.seq (.reg false [mvI 6 (.c (.p (.int .u64 0)))])
  (.seq (.reg false [mvI 7 (.c (.p (.int .u64 0)))])
  (.seq (.seq (.reg false [mvI 9 (.t 0),opI 10 (.callf f_r01_W [(.t 9)]),opI 11 (.arith .sub (.t 10) (kI 1)),mvI 8 (.t 11)])
  (.block 0 L0_r01_Mul))
  (.seq (.reg false [mvI 28 (.t 7),mvI 6 (.t 28)])
  .ret)))),false⟩
def F_r01_Udiv:AFn:=⟨26,[.tmp 6],
  (.seq (.reg false [mvI 6 (.c (.p (.int .u64 0)))])
  (.seq (.seq (.reg false [mvI 9 (.t 0),mvI 10 (.t 2),opI 11 (.callf f_r01_Cut [(.t 9),(.t 10)]),opI 12 (.arith .eql (.t 11) (.c (.p (.int .u64 0))))])
  (.cond (.t 12) (.seq (.reg false [mvI 13 (.t 0),opI 14 (.callf f_r01_Mask [(.t 13)]),mvI 6 (.t 14)])
  .ret) .skip))
  (.seq (.reg false [mvI 16 (.t 0),mvI 17 (.t 1),opI 18 (.callf f_r01_Cut [(.t 16),(.t 17)]),mvI 19 (.t 0),mvI 20 (.t 2),opI 21 (.callf f_r01_Cut [(.t 19),(.t 20)]),opI 22 (.callf f_r01_divide [(.t 18),(.t 21)]),mvI 15 (.t 22),opI 23 (.extract (.t 15) 0),opI 24 (.extract (.t 15) 1),mvI 7 (.t 23),mvI 8 (.t 24)])
  (.seq (.reg false [mvI 25 (.t 7),mvI 6 (.t 25)])
  .ret)))),false⟩
def F_r01_Urem:AFn:=⟨27,[.tmp 6],
  (.seq (.reg false [mvI 6 (.c (.p (.int .u64 0)))])
  (.seq (.seq (.reg false [mvI 9 (.t 0),mvI 10 (.t 2),opI 11 (.callf f_r01_Cut [(.t 9),(.t 10)]),opI 12 (.arith .eql (.t 11) (.c (.p (.int .u64 0))))])
  (.cond (.t 12) (.seq (.reg false [mvI 13 (.t 0),mvI 14 (.t 1),opI 15 (.callf f_r01_Cut [(.t 13),(.t 14)]),mvI 6 (.t 15)])
  .ret) .skip))
  (.seq (.reg false [mvI 17 (.t 0),mvI 18 (.t 1),opI 19 (.callf f_r01_Cut [(.t 17),(.t 18)]),mvI 20 (.t 0),mvI 21 (.t 2),opI 22 (.callf f_r01_Cut [(.t 20),(.t 21)]),opI 23 (.callf f_r01_divide [(.t 19),(.t 22)]),mvI 16 (.t 23),opI 24 (.extract (.t 16) 0),opI 25 (.extract (.t 16) 1),mvI 7 (.t 24),mvI 8 (.t 25)])
  (.seq (.reg false [mvI 26 (.t 8),mvI 6 (.t 26)])
  .ret)))),false⟩
def F_r01_Shl:AFn:=⟨14,[.tmp 6],
  (.seq (.reg false [mvI 6 (.c (.p (.int .u64 0)))])
  (.seq (.reg false [mvI 7 (.t 0),mvI 8 (.t 1),mvI 9 (.t 0),mvI 10 (.t 2),opI 11 (.callf f_r01_by [(.t 9),(.t 10)]),opI 12 (.arith .sub (kI 0) (.t 11)),opI 13 (.callf f_r01_shift [(.t 7),(.t 8),(.t 12),(.c (.p (.int .u64 0)))]),mvI 6 (.t 13)])
  .ret)),false⟩
def F_r01_Lshr:AFn:=⟨13,[.tmp 6],
  (.seq (.reg false [mvI 6 (.c (.p (.int .u64 0)))])
  (.seq (.reg false [mvI 7 (.t 0),mvI 8 (.t 1),mvI 9 (.t 0),mvI 10 (.t 2),opI 11 (.callf f_r01_by [(.t 9),(.t 10)]),opI 12 (.callf f_r01_shift [(.t 7),(.t 8),(.t 11),(.c (.p (.int .u64 0)))]),mvI 6 (.t 12)])
  .ret)),false⟩
def F_r01_Ashr:AFn:=⟨18,[.tmp 6],
  (.seq (.reg false [mvI 6 (.c (.p (.int .u64 0)))])
  (.seq (.reg false [mvI 7 (.t 0),mvI 8 (.t 1),mvI 9 (.t 0),mvI 10 (.t 2),opI 11 (.callf f_r01_by [(.t 9),(.t 10)]),mvI 12 (.t 1),mvI 13 (.t 0),opI 14 (.callf f_r01_W [(.t 13)]),opI 15 (.arith .sub (.t 14) (kI 1)),opI 16 (.callf f_r01_Bit [(.t 12),(.t 15)]),opI 17 (.callf f_r01_shift [(.t 7),(.t 8),(.t 11),(.t 16)]),mvI 6 (.t 17)])
  .ret)),false⟩
def F_r01_Eq:AFn:=⟨15,[.tmp 6],
  (.seq (.reg false [mvI 6 (.c (.p (.int .u64 0)))])
  (.seq (.reg false [mvI 7 (.t 0),mvI 8 (.t 1),opI 9 (.callf f_r01_Cut [(.t 7),(.t 8)]),mvI 10 (.t 0),mvI 11 (.t 2),opI 12 (.callf f_r01_Cut [(.t 10),(.t 11)]),opI 13 (.arith .eql (.t 9) (.t 12)),opI 14 (.callf f_r01_truth [(.t 13)]),mvI 6 (.t 14)])
  .ret)),false⟩
def F_r01_Ult:AFn:=⟨15,[.tmp 6],
  (.seq (.reg false [mvI 6 (.c (.p (.int .u64 0)))])
  (.seq (.reg false [mvI 7 (.t 0),mvI 8 (.t 1),opI 9 (.callf f_r01_Cut [(.t 7),(.t 8)]),mvI 10 (.t 0),mvI 11 (.t 2),opI 12 (.callf f_r01_Cut [(.t 10),(.t 11)]),opI 13 (.arith .lss (.t 9) (.t 12)),opI 14 (.callf f_r01_truth [(.t 13)]),mvI 6 (.t 14)])
  .ret)),false⟩
def F_r01_Slt:AFn:=⟨15,[.tmp 6],
  (.seq (.reg false [mvI 6 (.c (.p (.int .u64 0)))])
  (.seq (.reg false [mvI 7 (.t 0),mvI 8 (.t 1),opI 9 (.callf f_r01_Signed [(.t 7),(.t 8)]),mvI 10 (.t 0),mvI 11 (.t 2),opI 12 (.callf f_r01_Signed [(.t 10),(.t 11)]),opI 13 (.arith .lss (.t 9) (.t 12)),opI 14 (.callf f_r01_truth [(.t 13)]),mvI 6 (.t 14)])
  .ret)),false⟩
def F_r04_Leaf:AFn:=⟨6,[.tmp 2],
  (.seq (.reg false [mvI 2 (.c (.p (.bool false)))])
  (.seq (.reg false [mvI 3 (.t 0),opI 4 (.bslice 1 [(.p (.int .i64 0))] 4 [(0,1,(kI 1)),(1,1,(kI 2)),(2,1,(kI 24)),(3,1,(kI 25))]),opI 5 (.callf f_r04_Is [(.t 3),(.t 4)]),mvI 2 (.t 5)])
  .ret)),false⟩
def B0_r04_Is:K :=
  (.seq (.reg false [opI 9 (.arith .lss (.t 8) (.t 7))])
  (.seq (.cond (.t 9) .skip (.exit 0))
  (.seq (.block 1 (.seq (.reg false [mvI 10 (.t 8),mvI 5 (.t 10)])
  (.seq (.reg false [mvI 11 (.t 1),mvI 12 (.t 5),opI 13 (.iadrS 1 (.t 11) (.t 12)),opI 14 (.load 1 false (.t 13)),mvI 15 (.t 0),opI 16 (.arith .eql (.t 14) (.t 15))])
  (.cond (.t 16) (.seq (.reg false [mvI 4 (.c (.p (.bool true)))])
  .ret) .skip))))
  (.reg false [opI 17 (.arith .add (.t 8) (kI 1)),mvI 8 (.t 17)]))))
def L0_r04_Is:K:=.loop [0,1,7,8] B0_r04_Is
def F_r04_Is:AFn:=⟨18,[.tmp 4],
  (.seq (.reg false [mvI 4 (.c (.p (.bool false)))])
  (.seq (.seq (.reg false [mvI 6 (.t 1),opI 7 (.lenS (.t 6)),mvI 8 (kI 0)])
  (.block 0 L0_r04_Is))
  (.seq (.reg false [mvI 4 (.c (.p (.bool false)))])
  .ret))),false⟩
def F_r04_width:AFn:=⟨9,[.tmp 2],
  (.seq (.reg false [mvI 2 (.c (.p (.bool false)))])
  (.seq (.reg false [mvI 3 (.t 0),opI 4 (.arith .geq (.t 3) (kI 0)),mvI 5 (.t 4),⟨some 6,.mv (.t 0) false,some (5,true)⟩,⟨some 7,.arith .leq (.t 6) (kI 64),some (5,true)⟩,opI 8 (.pick (.t 5) (.t 7) (.c (.p (.bool false)))),mvI 2 (.t 8)])
  .ret)),false⟩
def F_r04_leaf:AFn:=⟨31,[.tmp 6,.tmp 7],
  (.seq (.reg false [mvI 6 (kI 0),mvI 7 (kI 0)])
  (.seq (.seq (.reg false [mvI 8 (.t 1),opI 9 (.callf f_r04_width [(.t 8)]),opI 10 (.not (.t 9)),mvI 11 (.t 10),⟨some 12,.mv (.t 0) false,some (11,false)⟩,⟨some 13,.arith .eql (.t 12) (kI 2),some (11,false)⟩,⟨some 14,.mv (.t 13) false,some (11,false)⟩,⟨some 15,.mv (.t 1) false,some (14,true)⟩,⟨some 16,.arith .gtr (.t 15) (kI 0),some (14,true)⟩,⟨some 17,.pick (.t 14) (.t 16) (.c (.p (.bool false))),some (11,false)⟩,⟨some 18,.mv (.t 17) false,some (11,false)⟩,⟨some 19,.mv (.t 1) false,some (18,true)⟩,⟨some 20,.arith .lss (.t 19) (kI 64),some (18,true)⟩,⟨some 21,.pick (.t 18) (.t 20) (.c (.p (.bool false))),some (11,false)⟩,⟨some 22,.mv (.t 21) false,some (11,false)⟩,⟨some 23,.mv (.t 2) false,some (22,true)⟩,⟨some 24,.mv (.t 1) false,some (22,true)⟩,⟨some 25,.conv .u64 (.t 24),some (22,true)⟩,⟨some 26,.arith .shl (.c (.p (.int .u64 1))) (.t 25),some (22,true)⟩,⟨some 27,.arith .geq (.t 23) (.t 26),some (22,true)⟩,⟨some 28,.pick (.t 22) (.t 27) (.c (.p (.bool false))),some (11,false)⟩,opI 29 (.pick (.t 11) (.c (.p (.bool true))) (.t 28))])
  (.cond (.t 29) (.seq (.reg false [mvI 6 (kI 0),mvI 7 (kI 3)])
  .ret) .skip))
  (.seq (.reg false [mvI 30 (.t 1),mvI 6 (.t 30),mvI 7 (kI 0)])
  .ret))),false⟩
def F_r04_parts:AFn:=⟨46,[.tmp 8,.tmp 9],
  (.seq (.reg false [mvI 8 (kI 0),mvI 9 (kI 0)])
  (.seq (.seq (.reg false [mvI 10 (.t 1),opI 11 (.callf f_r04_width [(.t 10)]),opI 12 (.not (.t 11)),mvI 13 (.t 12),⟨some 14,.mv (.t 1) false,some (13,false)⟩,⟨some 15,.arith .lss (.t 14) (kI 1),some (13,false)⟩,opI 16 (.pick (.t 13) (.c (.p (.bool true))) (.t 15)),mvI 17 (.t 16),⟨some 18,.mv (.t 3) false,some (17,false)⟩,⟨some 19,.arith .lss (.t 18) (kI 1),some (17,false)⟩,opI 20 (.pick (.t 17) (.c (.p (.bool true))) (.t 19))])
  (.cond (.t 20) (.seq (.reg false [mvI 8 (kI 0),mvI 9 (kI 3)])
  .ret) .skip))
  (.seq (.seq (.reg false [mvI 21 (.t 0),opI 22 (.arith .eql (.t 21) (kI 21)),mvI 23 (.t 22),⟨some 24,.mv (.t 1) false,some (23,true)⟩,⟨some 25,.mv (.t 3) false,some (23,true)⟩,⟨some 26,.arith .gtr (.t 24) (.t 25),some (23,true)⟩,⟨some 27,.mv (.t 26) false,some (23,true)⟩,⟨some 28,.mv (.t 2) false,some (27,false)⟩,⟨some 29,.mv (.t 3) false,some (27,false)⟩,⟨some 30,.mv (.t 1) false,some (27,false)⟩,⟨some 31,.arith .sub (.t 29) (.t 30),some (27,false)⟩,⟨some 32,.conv .u64 (.t 31),some (27,false)⟩,⟨some 33,.arith .gtr (.t 28) (.t 32),some (27,false)⟩,⟨some 34,.pick (.t 27) (.c (.p (.bool true))) (.t 33),some (23,true)⟩,opI 35 (.pick (.t 23) (.t 34) (.c (.p (.bool false)))),mvI 36 (.t 35),⟨some 37,.mv (.t 0) false,some (36,false)⟩,⟨some 38,.arith .neq (.t 37) (kI 21),some (36,false)⟩,⟨some 39,.mv (.t 38) false,some (36,false)⟩,⟨some 40,.mv (.t 1) false,some (39,true)⟩,⟨some 41,.mv (.t 3) false,some (39,true)⟩,⟨some 42,.arith .lss (.t 40) (.t 41),some (39,true)⟩,⟨some 43,.pick (.t 39) (.t 42) (.c (.p (.bool false))),some (36,false)⟩,opI 44 (.pick (.t 36) (.c (.p (.bool true))) (.t 43))])
  (.cond (.t 44) (.seq (.reg false [mvI 8 (kI 0),mvI 9 (kI 3)])
  .ret) .skip))
  (.seq (.reg false [mvI 45 (.t 1),mvI 8 (.t 45),mvI 9 (kI 0)])
  .ret)))),false⟩
def F_bits_Mask:AFn:=⟨7,[.tmp 2],
  (.seq (.reg false [mvI 2 (.c (.p (.int .u64 0)))])
  (.seq (.reg false [mvI 3 (.t 0),opI 4 (.callf f_bits_clamp [(.t 3)]),opI 5 (.arith .sub (kI 64) (.t 4)),opI 6 (.arith .shr (.c (.p (.int .u64 18446744073709551615))) (.t 5)),mvI 2 (.t 6)])
  .ret)),false⟩
def F_bits_Not:AFn:=⟨9,[.tmp 4],
  (.seq (.reg false [mvI 4 (.c (.p (.int .u64 0)))])
  (.seq (.reg false [mvI 5 (.t 0),mvI 6 (.t 1),opI 7 (.compl (.t 6)),opI 8 (.callf f_bits_Cut [(.t 5),(.t 7)]),mvI 4 (.t 8)])
  .ret)),false⟩
def F_bits_Neg:AFn:=⟨9,[.tmp 4],
  (.seq (.reg false [mvI 4 (.c (.p (.int .u64 0)))])
  (.seq (.reg false [mvI 5 (.t 0),mvI 6 (.t 1),opI 7 (.neg (.t 6)),opI 8 (.callf f_bits_Cut [(.t 5),(.t 7)]),mvI 4 (.t 8)])
  .ret)),false⟩
def F_bits_Concat:AFn:=⟨19,[.tmp 8],
  (.seq (.reg false [mvI 8 (.c (.p (.int .u64 0)))])
  (.seq (.reg true [mvI 9 (.t 0),mvI 10 (.t 2),opI 11 (.callf f_bits_Cut [(.t 9),(.t 10)]),mvI 12 (.t 1),opI 13 (.callf f_bits_clamp [(.t 12)]),opI 14 (.arith .shl (.t 11) (.t 13)),mvI 15 (.t 1),mvI 16 (.t 3),opI 17 (.callf f_bits_Cut [(.t 15),(.t 16)]),opI 18 (.arith .or (.t 14) (.t 17)),mvI 8 (.t 18)])
  .ret)),false⟩
def F_bits_Extract:AFn:=⟨14,[.tmp 6],
  (.seq (.reg false [mvI 6 (.c (.p (.int .u64 0)))])
  (.seq (.seq (.reg false [mvI 7 (.t 0),opI 8 (.arith .lss (.t 7) (kI 0))])
  (.cond (.t 8) (.seq (.reg false [mvI 6 (.c (.p (.int .u64 0)))])
  .ret) .skip))
  (.seq (.reg false [mvI 9 (.t 1),mvI 10 (.t 2),mvI 11 (.t 0),opI 12 (.arith .shr (.t 10) (.t 11)),opI 13 (.callf f_bits_Cut [(.t 9),(.t 12)]),mvI 6 (.t 13)])
  .ret))),false⟩
def F_bits_Sext:AFn:=⟨13,[.tmp 6],
  (.seq (.reg false [mvI 6 (.c (.p (.int .u64 0)))])
  (.seq (.reg false [mvI 7 (.t 1),mvI 8 (.t 0),mvI 9 (.t 2),opI 10 (.callf f_bits_Signed [(.t 8),(.t 9)]),opI 11 (.conv .u64 (.t 10)),opI 12 (.callf f_bits_Cut [(.t 7),(.t 11)]),mvI 6 (.t 12)])
  .ret)),false⟩
def F_eval_binary:AFn:=⟨95,[.tmp 8],
  (.seq (.reg false [mvI 8 (.c (.p (.int .u64 0)))])
  (.seq (.seq (.reg false [mvI 9 (.t 0)])
  (.block 0 (.seq (.reg false [opI 11 (.arith .eql (.t 9) (kI 5)),mvI 10 (.t 11)])
  (.cond (.t 10) (.seq (.reg false [mvI 12 (.t 1),mvI 13 (.t 2),mvI 14 (.t 3),opI 15 (.callf f_bits_And [(.t 12),(.t 13),(.t 14)]),mvI 8 (.t 15)])
  .ret) (.seq (.reg false [opI 17 (.arith .eql (.t 9) (kI 6)),mvI 16 (.t 17)])
  (.cond (.t 16) (.seq (.reg false [mvI 18 (.t 1),mvI 19 (.t 2),mvI 20 (.t 3),opI 21 (.callf f_bits_Or [(.t 18),(.t 19),(.t 20)]),mvI 8 (.t 21)])
  .ret) (.seq (.reg false [opI 23 (.arith .eql (.t 9) (kI 7)),mvI 22 (.t 23)])
  (.cond (.t 22) (.seq (.reg false [mvI 24 (.t 1),mvI 25 (.t 2),mvI 26 (.t 3),opI 27 (.callf f_bits_Xor [(.t 24),(.t 25),(.t 26)]),mvI 8 (.t 27)])
  .ret) (.seq (.reg false [opI 29 (.arith .eql (.t 9) (kI 8)),mvI 28 (.t 29)])
  (.cond (.t 28) (.seq (.reg false [mvI 30 (.t 1),mvI 31 (.t 2),mvI 32 (.t 3),opI 33 (.callf f_bits_Add [(.t 30),(.t 31),(.t 32)]),mvI 8 (.t 33)])
  .ret) (.seq (.reg false [opI 35 (.arith .eql (.t 9) (kI 9)),mvI 34 (.t 35)])
  (.cond (.t 34) (.seq (.reg false [mvI 36 (.t 1),mvI 37 (.t 2),mvI 38 (.t 3),opI 39 (.callf f_bits_Sub [(.t 36),(.t 37),(.t 38)]),mvI 8 (.t 39)])
  .ret) (.seq (.reg false [opI 41 (.arith .eql (.t 9) (kI 10)),mvI 40 (.t 41)])
  (.cond (.t 40) (.seq (.reg false [mvI 42 (.t 1),mvI 43 (.t 2),mvI 44 (.t 3),opI 45 (.callf f_bits_Mul [(.t 42),(.t 43),(.t 44)]),mvI 8 (.t 45)])
  .ret) (.seq (.reg false [opI 47 (.arith .eql (.t 9) (kI 11)),mvI 46 (.t 47)])
  (.cond (.t 46) (.seq (.reg false [mvI 48 (.t 1),mvI 49 (.t 2),mvI 50 (.t 3),opI 51 (.callf f_bits_Udiv [(.t 48),(.t 49),(.t 50)]),mvI 8 (.t 51)])
  .ret) (.seq (.reg false [opI 53 (.arith .eql (.t 9) (kI 12)),mvI 52 (.t 53)])
  (.cond (.t 52) (.seq (.reg false [mvI 54 (.t 1),mvI 55 (.t 2),mvI 56 (.t 3),opI 57 (.callf f_bits_Urem [(.t 54),(.t 55),(.t 56)]),mvI 8 (.t 57)])
  .ret) (.seq (.reg false [opI 59 (.arith .eql (.t 9) (kI 13)),mvI 58 (.t 59)])
  (.cond (.t 58) (.seq (.reg false [mvI 60 (.t 1),mvI 61 (.t 2),mvI 62 (.t 3),opI 63 (.callf f_bits_Shl [(.t 60),(.t 61),(.t 62)]),mvI 8 (.t 63)])
  .ret) (.seq (.reg false [opI 65 (.arith .eql (.t 9) (kI 14)),mvI 64 (.t 65)])
  (.cond (.t 64) (.seq (.reg false [mvI 66 (.t 1),mvI 67 (.t 2),mvI 68 (.t 3),opI 69 (.callf f_bits_Lshr [(.t 66),(.t 67),(.t 68)]),mvI 8 (.t 69)])
  .ret) (.seq (.reg false [opI 71 (.arith .eql (.t 9) (kI 15)),mvI 70 (.t 71)])
  (.cond (.t 70) (.seq (.reg false [mvI 72 (.t 1),mvI 73 (.t 2),mvI 74 (.t 3),opI 75 (.callf f_bits_Ashr [(.t 72),(.t 73),(.t 74)]),mvI 8 (.t 75)])
  .ret) (.seq (.reg false [opI 77 (.arith .eql (.t 9) (kI 16)),mvI 76 (.t 77)])
  (.cond (.t 76) (.seq (.seq (.reg false [mvI 78 (.t 1),mvI 79 (.t 2),opI 80 (.callf f_eval_word [(.t 78),(.t 79)]),mvI 81 (.t 1),mvI 82 (.t 3),opI 83 (.callf f_eval_word [(.t 81),(.t 82)]),opI 84 (.eqA false [.int,.int] (.t 80) (.t 83))])
  (.cond (.t 84) (.seq (.reg false [mvI 8 (.c (.p (.int .u64 1)))])
  .ret) .skip))
  (.seq (.reg false [mvI 8 (.c (.p (.int .u64 0)))])
  .ret)) (.seq (.reg false [opI 86 (.arith .eql (.t 9) (kI 17)),mvI 85 (.t 86)])
  (.cond (.t 85) (.seq (.reg false [mvI 87 (.t 1),mvI 88 (.t 2),mvI 89 (.t 3),opI 90 (.callf f_bits_Ult [(.t 87),(.t 88),(.t 89)]),mvI 8 (.t 90)])
  .ret) .skip))))))))))))))))))))))))))))
  (.seq (.reg false [mvI 91 (.t 1),mvI 92 (.t 2),mvI 93 (.t 3),opI 94 (.callf f_bits_Slt [(.t 91),(.t 92),(.t 93)]),mvI 8 (.t 94)])
  .ret))),false⟩
def B0_r01_Mask:K :=
  (.seq (.reg false [opI 7 (.arith .lss (.t 6) (.t 5))])
  (.seq (.cond (.t 7) .skip (.exit 0))
  (.seq (.block 1 (.reg false [mvI 8 (.t 3),opI 9 (.arith .mul (.t 8) (.c (.p (.int .u64 2)))),opI 10 (.arith .add (.t 9) (.c (.p (.int .u64 1)))),mvI 3 (.t 10)]))
  (.reg false [opI 11 (.arith .add (.t 6) (kI 1)),mvI 6 (.t 11)]))))
def L0_r01_Mask:K:=.loop [3,5,6] B0_r01_Mask
def F_r01_Mask:AFn:=⟨13,[.tmp 2],
  (.seq (.reg false [mvI 2 (.c (.p (.int .u64 0)))])
  (.seq (.reg false [mvI 3 (.c (.p (.int .u64 0)))])
  (.seq (.seq (.reg false [mvI 4 (.t 0),opI 5 (.callf f_r01_W [(.t 4)]),mvI 6 (kI 0)])
  (.block 0 L0_r01_Mask))
  (.seq (.reg false [mvI 12 (.t 3),mvI 2 (.t 12)])
  .ret)))),false⟩
def B0_r01_divide:K :=
  (.seq (.seq (.reg false [mvI 10 (.t 8),opI 11 (.arith .geq (.t 10) (kI 0))])
  (.cond (.t 11) .skip (.exit 0)))
  (.seq (.block 1 (.seq (.reg false [mvI 14 (.t 7),opI 15 (.callf f_r01_Bit [(.t 14),(kI 63)]),opI 16 (.arith .eql (.t 15) (.c (.p (.int .u64 1)))),mvI 9 (.t 16)])
  (.seq (.reg false [mvI 17 (.t 7),opI 18 (.arith .mul (.t 17) (.c (.p (.int .u64 2)))),mvI 19 (.t 0),mvI 20 (.t 8),opI 21 (.callf f_r01_Bit [(.t 19),(.t 20)]),opI 22 (.arith .add (.t 18) (.t 21)),mvI 7 (.t 22)])
  (.seq (.reg false [mvI 23 (.t 9),mvI 24 (.t 23),⟨some 25,.mv (.t 7) false,some (24,false)⟩,⟨some 26,.mv (.t 1) false,some (24,false)⟩,⟨some 27,.arith .geq (.t 25) (.t 26),some (24,false)⟩,opI 28 (.pick (.t 24) (.c (.p (.bool true))) (.t 27))])
  (.cond (.t 28) (.seq (.reg false [mvI 29 (.t 7),mvI 30 (.t 1),opI 31 (.arith .sub (.t 29) (.t 30)),mvI 7 (.t 31)])
  (.reg false [mvI 32 (.t 6),mvI 33 (.t 8),opI 34 (.conv .u64 (.t 33)),opI 35 (.arith .shl (.c (.p (.int .u64 1))) (.t 34)),opI 36 (.arith .or (.t 32) (.t 35)),mvI 6 (.t 36)])) .skip)))))
  (.reg false [mvI 12 (.t 8),opI 13 (.arith .sub (.t 12) (kI 1)),mvI 8 (.t 13)])))
def L0_r01_divide:K:=.loop [0,1,6,7,8] B0_r01_divide
def F_r01_divide:AFn:=⟨39,[.tmp 4,.tmp 5],
  (.seq (.reg false [mvI 4 (.c (.p (.int .u64 0))),mvI 5 (.c (.p (.int .u64 0)))])
  (.seq (.reg false [mvI 6 (.c (.p (.int .u64 0))),mvI 7 (.c (.p (.int .u64 0)))])
  (.seq (.seq (.reg false [mvI 8 (kI 63)])
  (.block 0 L0_r01_divide))
  (.seq (.reg false [mvI 37 (.t 6),mvI 38 (.t 7),mvI 4 (.t 37),mvI 5 (.t 38)])
  .ret)))),false⟩
def B0_r01_shift:K :=
  (.seq (.reg false [opI 15 (.arith .lss (.t 14) (.t 13))])
  (.seq (.cond (.t 15) .skip (.exit 0))
  (.seq (.block 1 (.seq (.reg false [mvI 16 (.t 14),mvI 10 (.t 16)])
  (.seq (.reg false [mvI 17 (.t 3),mvI 11 (.t 17)])
  (.seq (.seq (.reg false [mvI 18 (.t 10),mvI 19 (.t 2),opI 20 (.arith .add (.t 18) (.t 19)),mvI 21 (.t 0),opI 22 (.callf f_r01_W [(.t 21)]),opI 23 (.arith .lss (.t 20) (.t 22))])
  (.cond (.t 23) (.reg false [mvI 24 (.t 1),mvI 25 (.t 10),mvI 26 (.t 2),opI 27 (.arith .add (.t 25) (.t 26)),opI 28 (.callf f_r01_Bit [(.t 24),(.t 27)]),mvI 11 (.t 28)]) .skip))
  (.reg false [mvI 29 (.t 9),mvI 30 (.t 11),mvI 31 (.t 10),opI 32 (.conv .u64 (.t 31)),opI 33 (.arith .shl (.t 30) (.t 32)),opI 34 (.arith .or (.t 29) (.t 33)),mvI 9 (.t 34)])))))
  (.reg false [opI 35 (.arith .add (.t 14) (kI 1)),mvI 14 (.t 35)]))))
def L0_r01_shift:K:=.loop [0,1,2,3,9,13,14] B0_r01_shift
def F_r01_shift:AFn:=⟨37,[.tmp 8],
  (.seq (.reg false [mvI 8 (.c (.p (.int .u64 0)))])
  (.seq (.reg false [mvI 9 (.c (.p (.int .u64 0)))])
  (.seq (.seq (.reg false [mvI 12 (.t 0),opI 13 (.callf f_r01_W [(.t 12)]),mvI 14 (kI 0)])
  (.block 0 L0_r01_shift))
  (.seq (.reg false [mvI 36 (.t 9),mvI 8 (.t 36)])
  .ret)))),false⟩
def F_r01_by:AFn:=⟨10,[.tmp 4],
  (.seq (.reg false [mvI 4 (kI 0)])
  (.seq (.reg false [mvI 5 (.t 0),mvI 6 (.t 1),opI 7 (.callf f_r01_Cut [(.t 5),(.t 6)]),opI 8 (.minmax false [(.t 7),(.c (.p (.int .u64 64)))]),opI 9 (.conv .i64 (.t 8)),mvI 4 (.t 9)])
  .ret)),false⟩
def F_r01_truth:AFn:=⟨4,[.tmp 2],
  (.seq (.reg false [mvI 2 (.c (.p (.int .u64 0)))])
  (.seq (.seq (.reg false [mvI 3 (.t 0)])
  (.cond (.t 3) (.seq (.reg false [mvI 2 (.c (.p (.int .u64 1)))])
  .ret) .skip))
  (.seq (.reg false [mvI 2 (.c (.p (.int .u64 0)))])
  .ret))),false⟩
def F_r01_Signed:AFn:=⟨21,[.tmp 4],
  (.seq (.reg false [mvI 4 (kI 0)])
  (.seq (.reg false [mvI 6 (.t 0),mvI 7 (.t 1),opI 8 (.callf f_r01_Cut [(.t 6),(.t 7)]),mvI 5 (.t 8)])
  (.seq (.seq (.reg false [mvI 9 (.t 0),mvI 10 (.t 1),opI 11 (.callf f_r01_Negative [(.t 9),(.t 10)])])
  (.cond (.t 11) (.seq (.reg false [mvI 12 (.t 0),opI 13 (.callf f_r01_Mask [(.t 12)]),mvI 14 (.t 5),opI 15 (.arith .sub (.t 13) (.t 14)),opI 16 (.conv .i64 (.t 15)),opI 17 (.neg (.t 16)),opI 18 (.arith .sub (.t 17) (kI 1)),mvI 4 (.t 18)])
  .ret) .skip))
  (.seq (.reg false [mvI 19 (.t 5),opI 20 (.conv .i64 (.t 19)),mvI 4 (.t 20)])
  .ret)))),false⟩
def F_bits_clamp:AFn:=⟨6,[.tmp 2],
  (.seq (.reg false [mvI 2 (kI 0)])
  (.seq (.reg false [mvI 3 (.t 0),opI 4 (.minmax true [(.t 3),(kI 1)]),opI 5 (.minmax false [(.t 4),(kI 64)]),mvI 2 (.t 5)])
  .ret)),false⟩
def F_bits_Signed:AFn:=⟨15,[.tmp 4],
  (.seq (.reg false [mvI 4 (kI 0)])
  (.seq (.reg false [mvI 6 (.t 0),opI 7 (.callf f_bits_clamp [(.t 6)]),opI 8 (.arith .sub (kI 64) (.t 7)),mvI 5 (.t 8)])
  (.seq (.reg false [mvI 9 (.t 1),mvI 10 (.t 5),opI 11 (.arith .shl (.t 9) (.t 10)),opI 12 (.conv .i64 (.t 11)),mvI 13 (.t 5),opI 14 (.arith .shr (.t 12) (.t 13)),mvI 4 (.t 14)])
  .ret))),false⟩
def F_bits_And:AFn:=⟨12,[.tmp 6],
  (.seq (.reg false [mvI 6 (.c (.p (.int .u64 0)))])
  (.seq (.reg false [mvI 7 (.t 0),mvI 8 (.t 1),mvI 9 (.t 2),opI 10 (.arith .and (.t 8) (.t 9)),opI 11 (.callf f_bits_Cut [(.t 7),(.t 10)]),mvI 6 (.t 11)])
  .ret)),false⟩
def F_bits_Or:AFn:=⟨12,[.tmp 6],
  (.seq (.reg false [mvI 6 (.c (.p (.int .u64 0)))])
  (.seq (.reg false [mvI 7 (.t 0),mvI 8 (.t 1),mvI 9 (.t 2),opI 10 (.arith .or (.t 8) (.t 9)),opI 11 (.callf f_bits_Cut [(.t 7),(.t 10)]),mvI 6 (.t 11)])
  .ret)),false⟩
def F_bits_Xor:AFn:=⟨12,[.tmp 6],
  (.seq (.reg false [mvI 6 (.c (.p (.int .u64 0)))])
  (.seq (.reg false [mvI 7 (.t 0),mvI 8 (.t 1),mvI 9 (.t 2),opI 10 (.arith .xor (.t 8) (.t 9)),opI 11 (.callf f_bits_Cut [(.t 7),(.t 10)]),mvI 6 (.t 11)])
  .ret)),false⟩
def F_bits_Add:AFn:=⟨12,[.tmp 6],
  (.seq (.reg false [mvI 6 (.c (.p (.int .u64 0)))])
  (.seq (.reg false [mvI 7 (.t 0),mvI 8 (.t 1),mvI 9 (.t 2),opI 10 (.arith .add (.t 8) (.t 9)),opI 11 (.callf f_bits_Cut [(.t 7),(.t 10)]),mvI 6 (.t 11)])
  .ret)),false⟩
def F_bits_Sub:AFn:=⟨12,[.tmp 6],
  (.seq (.reg false [mvI 6 (.c (.p (.int .u64 0)))])
  (.seq (.reg false [mvI 7 (.t 0),mvI 8 (.t 1),mvI 9 (.t 2),opI 10 (.arith .sub (.t 8) (.t 9)),opI 11 (.callf f_bits_Cut [(.t 7),(.t 10)]),mvI 6 (.t 11)])
  .ret)),false⟩
def F_bits_Mul:AFn:=⟨12,[.tmp 6],
  (.seq (.reg false [mvI 6 (.c (.p (.int .u64 0)))])
  (.seq (.reg false [mvI 7 (.t 0),mvI 8 (.t 1),mvI 9 (.t 2),opI 10 (.arith .mul (.t 8) (.t 9)),opI 11 (.callf f_bits_Cut [(.t 7),(.t 10)]),mvI 6 (.t 11)])
  .ret)),false⟩
def F_bits_Udiv:AFn:=⟨22,[.tmp 6],
  (.seq (.reg false [mvI 6 (.c (.p (.int .u64 0)))])
  (.seq (.reg false [mvI 9 (.t 0),mvI 10 (.t 1),opI 11 (.callf f_bits_Cut [(.t 9),(.t 10)]),mvI 12 (.t 0),mvI 13 (.t 2),opI 14 (.callf f_bits_Cut [(.t 12),(.t 13)]),mvI 7 (.t 11),mvI 8 (.t 14)])
  (.seq (.seq (.reg false [mvI 15 (.t 8),opI 16 (.arith .eql (.t 15) (.c (.p (.int .u64 0))))])
  (.cond (.t 16) (.seq (.reg false [mvI 17 (.t 0),opI 18 (.callf f_bits_Mask [(.t 17)]),mvI 6 (.t 18)])
  .ret) .skip))
  (.seq (.reg false [mvI 19 (.t 7),mvI 20 (.t 8),opI 21 (.arith .quo (.t 19) (.t 20)),mvI 6 (.t 21)])
  .ret)))),false⟩
def F_bits_Urem:AFn:=⟨21,[.tmp 6],
  (.seq (.reg false [mvI 6 (.c (.p (.int .u64 0)))])
  (.seq (.reg false [mvI 9 (.t 0),mvI 10 (.t 1),opI 11 (.callf f_bits_Cut [(.t 9),(.t 10)]),mvI 12 (.t 0),mvI 13 (.t 2),opI 14 (.callf f_bits_Cut [(.t 12),(.t 13)]),mvI 7 (.t 11),mvI 8 (.t 14)])
  (.seq (.seq (.reg false [mvI 15 (.t 8),opI 16 (.arith .eql (.t 15) (.c (.p (.int .u64 0))))])
  (.cond (.t 16) (.seq (.reg false [mvI 17 (.t 7),mvI 6 (.t 17)])
  .ret) .skip))
  (.seq (.reg false [mvI 18 (.t 7),mvI 19 (.t 8),opI 20 (.arith .rem (.t 18) (.t 19)),mvI 6 (.t 20)])
  .ret)))),false⟩
def F_bits_Shl:AFn:=⟨11,[.tmp 6],
  (.seq (.reg false [mvI 6 (.c (.p (.int .u64 0)))])
  (.seq (.reg false [mvI 7 (.t 0),mvI 8 (.t 1),mvI 9 (.t 2),opI 10 (.callf f_bits_shift [(kI 0),(.t 7),(.t 8),(.t 9)]),mvI 6 (.t 10)])
  .ret)),false⟩
def F_bits_Lshr:AFn:=⟨11,[.tmp 6],
  (.seq (.reg false [mvI 6 (.c (.p (.int .u64 0)))])
  (.seq (.reg false [mvI 7 (.t 0),mvI 8 (.t 1),mvI 9 (.t 2),opI 10 (.callf f_bits_shift [(kI 1),(.t 7),(.t 8),(.t 9)]),mvI 6 (.t 10)])
  .ret)),false⟩
def F_bits_Ashr:AFn:=⟨11,[.tmp 6],
  (.seq (.reg false [mvI 6 (.c (.p (.int .u64 0)))])
  (.seq (.reg false [mvI 7 (.t 0),mvI 8 (.t 1),mvI 9 (.t 2),opI 10 (.callf f_bits_shift [(kI 2),(.t 7),(.t 8),(.t 9)]),mvI 6 (.t 10)])
  .ret)),false⟩
def F_eval_word:AFn:=⟨10,[.cell 4 2 true],
  (.seq (.reg false [opI 4 (.alloc [(.p (.int .i64 0)),(.p (.int .u64 0))] 2)])
  (.seq (.reg false [mvI 5 (.t 0),mvI 6 (.t 0),mvI 7 (.t 1),opI 8 (.callf f_bits_Cut [(.t 6),(.t 7)]),opI 9 (.build [(.p (.int .i64 0)),(.p (.int .u64 0))] [(0,1,(.t 5)),(1,1,(.t 8))]),⟨none,.store 2 (.t 4) (.t 9),none⟩])
  .ret)),false⟩
def F_bits_Ult:AFn:=⟨15,[.tmp 6],
  (.seq (.reg false [mvI 6 (.c (.p (.int .u64 0)))])
  (.seq (.reg false [mvI 7 (.t 0),mvI 8 (.t 1),opI 9 (.callf f_bits_Cut [(.t 7),(.t 8)]),mvI 10 (.t 0),mvI 11 (.t 2),opI 12 (.callf f_bits_Cut [(.t 10),(.t 11)]),opI 13 (.arith .lss (.t 9) (.t 12)),opI 14 (.callf f_bits_flag [(.t 13)]),mvI 6 (.t 14)])
  .ret)),false⟩
def F_bits_Slt:AFn:=⟨15,[.tmp 6],
  (.seq (.reg false [mvI 6 (.c (.p (.int .u64 0)))])
  (.seq (.reg false [mvI 7 (.t 0),mvI 8 (.t 1),opI 9 (.callf f_bits_Signed [(.t 7),(.t 8)]),mvI 10 (.t 0),mvI 11 (.t 2),opI 12 (.callf f_bits_Signed [(.t 10),(.t 11)]),opI 13 (.arith .lss (.t 9) (.t 12)),opI 14 (.callf f_bits_flag [(.t 13)]),mvI 6 (.t 14)])
  .ret)),false⟩
def F_r01_Negative:AFn:=⟨11,[.tmp 4],
  (.seq (.reg false [mvI 4 (.c (.p (.bool false)))])
  (.seq (.reg false [mvI 5 (.t 1),mvI 6 (.t 0),opI 7 (.callf f_r01_W [(.t 6)]),opI 8 (.arith .sub (.t 7) (kI 1)),opI 9 (.callf f_r01_Bit [(.t 5),(.t 8)]),opI 10 (.arith .eql (.t 9) (.c (.p (.int .u64 1)))),mvI 4 (.t 10)])
  .ret)),false⟩
def F_bits_shift:AFn:=⟨53,[.tmp 8],
  (.seq (.reg false [mvI 8 (.c (.p (.int .u64 0)))])
  (.seq (.reg false [mvI 12 (.t 1),mvI 13 (.t 2),opI 14 (.callf f_bits_Cut [(.t 12),(.t 13)]),mvI 15 (.t 1),mvI 16 (.t 3),opI 17 (.callf f_bits_Cut [(.t 15),(.t 16)]),mvI 9 (.t 14),mvI 10 (.t 17)])
  (.seq (.reg false [mvI 18 (.t 10),mvI 19 (.t 1),opI 20 (.callf f_bits_clamp [(.t 19)]),opI 21 (.conv .u64 (.t 20)),opI 22 (.arith .geq (.t 18) (.t 21)),mvI 11 (.t 22)])
  (.seq (.seq (.reg false [mvI 23 (.t 0)])
  (.block 0 (.seq (.block 2 (.seq (.block 1 (.seq (.seq (.seq (.reg false [opI 25 (.arith .eql (.t 23) (kI 2)),mvI 24 (.t 25)])
  (.cond (.t 24) (.exit 1) .skip))
  (.seq (.reg false [opI 27 (.arith .eql (.t 23) (kI 1)),mvI 26 (.t 27)])
  (.cond (.t 26) (.exit 2) .skip)))
  (.exit 0)))
  (.seq (.reg false [mvI 28 (.t 1),mvI 29 (.t 9),opI 30 (.callf f_bits_Signed [(.t 28),(.t 29)]),opI 31 (.arith .lss (.t 30) (kI 0))])
  (.cond (.t 31) (.seq (.seq (.reg false [mvI 32 (.t 11)])
  (.cond (.t 32) (.seq (.reg false [mvI 33 (.t 1),opI 34 (.callf f_bits_Mask [(.t 33)]),mvI 8 (.t 34)])
  .ret) .skip))
  (.seq (.reg false [mvI 35 (.t 1),mvI 36 (.t 1),mvI 37 (.t 9),opI 38 (.callf f_bits_Signed [(.t 36),(.t 37)]),mvI 39 (.t 10),opI 40 (.arith .shr (.t 38) (.t 39)),opI 41 (.conv .u64 (.t 40)),opI 42 (.callf f_bits_Cut [(.t 35),(.t 41)]),mvI 8 (.t 42)])
  .ret)) .skip))))
  (.seq (.seq (.seq (.reg false [mvI 43 (.t 11)])
  (.cond (.t 43) (.seq (.reg false [mvI 8 (.c (.p (.int .u64 0)))])
  .ret) .skip))
  (.seq (.reg false [mvI 44 (.t 9),mvI 45 (.t 10),opI 46 (.arith .shr (.t 44) (.t 45)),mvI 8 (.t 46)])
  .ret))
  (.exit 0)))))
  (.seq (.seq (.reg false [mvI 47 (.t 11)])
  (.cond (.t 47) (.seq (.reg false [mvI 8 (.c (.p (.int .u64 0)))])
  .ret) .skip))
  (.seq (.reg false [mvI 48 (.t 1),mvI 49 (.t 9),mvI 50 (.t 10),opI 51 (.arith .shl (.t 49) (.t 50)),opI 52 (.callf f_bits_Cut [(.t 48),(.t 51)]),mvI 8 (.t 52)])
  .ret)))))),false⟩
def F_bits_flag:AFn:=⟨4,[.tmp 2],
  (.seq (.reg false [mvI 2 (.c (.p (.int .u64 0)))])
  (.seq (.seq (.reg false [mvI 3 (.t 0)])
  (.cond (.t 3) (.seq (.reg false [mvI 2 (.c (.p (.int .u64 1)))])
  .ret) .skip))
  (.seq (.reg false [mvI 2 (.c (.p (.int .u64 0)))])
  .ret))),false⟩
def tbl:List (FuncId×AFn):=[
  (f_law11_ExhaustWitness,F_law11_ExhaustWitness),
  (f_r11_Few,F_r11_Few),
  (f_law11_live,F_law11_live),
  (f_exhaust_Vars,F_exhaust_Vars),
  (f_r11_Vars,F_r11_Vars),
  (f_r11_Small,F_r11_Small),
  (f_exhaust_Equal,F_exhaust_Equal),
  (f_exhaust_Valid,F_exhaust_Valid),
  (f_exhaust_Sat,F_exhaust_Sat),
  (f_exhaust_Count,F_exhaust_Count),
  (f_r08_Eval,F_r08_Eval),
  (f_law11_two,F_law11_two),
  (f_r08_Bits,F_r08_Bits),
  (f_r06_Light,F_r06_Light),
  (f_term_Check,F_term_Check),
  (f_term_Vars,F_term_Vars),
  (f_exhaust_Vars_1,F_exhaust_Vars_1),
  (f_cmp_Or_int,F_cmp_Or_int),
  (f_cmp_Compare_string,F_cmp_Compare_string),
  (f_cmp_Compare_int,F_cmp_Compare_int),
  (f_r06_Check,F_r06_Check),
  (f_r11_all,F_r11_all),
  (f_slices_ContainsFunc_api_Term_api_Term,F_slices_ContainsFunc_api_Term_api_Term),
  (f_exhaust_Valid_1,F_exhaust_Valid_1),
  (f_exhaust_tables,F_exhaust_tables),
  (f_exhaust_assignments,F_exhaust_assignments),
  (f_exhaust_condition,F_exhaust_condition),
  (f_r08_Value,F_r08_Value),
  (f_r06_count,F_r06_count),
  (f_term_measure,F_term_measure),
  (f_term_All,F_term_All),
  (f_term_node,F_term_node),
  (f_term_preorder,F_term_preorder),
  (f_term_Vars_1,F_term_Vars_1),
  (f_term_Vars_1_1,F_term_Vars_1_1),
  (f_slices_ContainsFunc_api_Var_api_Var,F_slices_ContainsFunc_api_Var_api_Var),
  (f_term_Vars_2,F_term_Vars_2),
  (f_strings_Compare,F_strings_Compare),
  (f_cmp_isNaN_string,F_cmp_isNaN_string),
  (f_cmp_isNaN_int,F_cmp_isNaN_int),
  (f_r06_nodes,F_r06_nodes),
  (f_r06_Post,F_r06_Post),
  (f_r06_Vars,F_r06_Vars),
  (f_slices_IndexFunc_api_Term_api_Term,F_slices_IndexFunc_api_Term_api_Term),
  (f_eval_Table,F_eval_Table),
  (f_exhaust_assignments_1,F_exhaust_assignments_1),
  (f_exhaust_assignments_1_1,F_exhaust_assignments_1_1),
  (f_r01_Cut,F_r01_Cut),
  (f_r08_Look,F_r08_Look),
  (f_r08_value,F_r08_value),
  (f_term_All_1,F_term_All_1),
  (f_term_postorder,F_term_postorder),
  (f_term_All_1_1,F_term_All_1_1),
  (f_term_Copy,F_term_Copy),
  (f_opinfo_Arity,F_opinfo_Arity),
  (f_opinfo_Pattern,F_opinfo_Pattern),
  (f_term_Name,F_term_Name),
  (f_opinfo_Width,F_opinfo_Width),
  (f_term_widths,F_term_widths),
  (f_slices_IndexFunc_api_Var_api_Var,F_slices_IndexFunc_api_Var_api_Var),
  (f_internal_bytealg_CompareString,F_internal_bytealg_CompareString),
  (f_r06_Node,F_r06_Node),
  (f_r06_Pre,F_r06_Pre),
  (f_eval_value,F_eval_value),
  (f_eval_Table_1,F_eval_Table_1),
  (f_r01_W,F_r01_W),
  (f_r01_Bit,F_r01_Bit),
  (f_r08_one,F_r08_one),
  (f_r01_Concat,F_r01_Concat),
  (f_r08_two,F_r08_two),
  (f_opinfo_known,F_opinfo_known),
  (f_opinfo_inside,F_opinfo_inside),
  (f_opinfo_leaf,F_opinfo_leaf),
  (f_opinfo_resized,F_opinfo_resized),
  (f_opinfo_agreed,F_opinfo_agreed),
  (f_r04_Arity,F_r04_Arity),
  (f_r04_Pattern,F_r04_Pattern),
  (f_r06_Name,F_r06_Name),
  (f_r04_Width,F_r04_Width),
  (f_r06_Widths,F_r06_Widths),
  (f_bits_Cut,F_bits_Cut),
  (f_eval_compute,F_eval_compute),
  (f_r01_Not,F_r01_Not),
  (f_r01_Neg,F_r01_Neg),
  (f_r01_Extract,F_r01_Extract),
  (f_r01_Sext,F_r01_Sext),
  (f_r01_And,F_r01_And),
  (f_r01_Or,F_r01_Or),
  (f_r01_Xor,F_r01_Xor),
  (f_r01_Add,F_r01_Add),
  (f_r01_Sub,F_r01_Sub),
  (f_r01_Mul,F_r01_Mul),
  (f_r01_Udiv,F_r01_Udiv),
  (f_r01_Urem,F_r01_Urem),
  (f_r01_Shl,F_r01_Shl),
  (f_r01_Lshr,F_r01_Lshr),
  (f_r01_Ashr,F_r01_Ashr),
  (f_r01_Eq,F_r01_Eq),
  (f_r01_Ult,F_r01_Ult),
  (f_r01_Slt,F_r01_Slt),
  (f_r04_Leaf,F_r04_Leaf),
  (f_r04_Is,F_r04_Is),
  (f_r04_width,F_r04_width),
  (f_r04_leaf,F_r04_leaf),
  (f_r04_parts,F_r04_parts),
  (f_bits_Mask,F_bits_Mask),
  (f_bits_Not,F_bits_Not),
  (f_bits_Neg,F_bits_Neg),
  (f_bits_Concat,F_bits_Concat),
  (f_bits_Extract,F_bits_Extract),
  (f_bits_Sext,F_bits_Sext),
  (f_eval_binary,F_eval_binary),
  (f_r01_Mask,F_r01_Mask),
  (f_r01_divide,F_r01_divide),
  (f_r01_shift,F_r01_shift),
  (f_r01_by,F_r01_by),
  (f_r01_truth,F_r01_truth),
  (f_r01_Signed,F_r01_Signed),
  (f_bits_clamp,F_bits_clamp),
  (f_bits_Signed,F_bits_Signed),
  (f_bits_And,F_bits_And),
  (f_bits_Or,F_bits_Or),
  (f_bits_Xor,F_bits_Xor),
  (f_bits_Add,F_bits_Add),
  (f_bits_Sub,F_bits_Sub),
  (f_bits_Mul,F_bits_Mul),
  (f_bits_Udiv,F_bits_Udiv),
  (f_bits_Urem,F_bits_Urem),
  (f_bits_Shl,F_bits_Shl),
  (f_bits_Lshr,F_bits_Lshr),
  (f_bits_Ashr,F_bits_Ashr),
  (f_eval_word,F_eval_word),
  (f_bits_Ult,F_bits_Ult),
  (f_bits_Slt,F_bits_Slt),
  (f_r01_Negative,F_r01_Negative),
  (f_bits_shift,F_bits_shift),
  (f_bits_flag,F_bits_flag)]
def P:Prog:={ fn:=fun f=>tbl.lookup f,prim:=fun f=>if f=f_slices_SortFunc_api_Var_api_Var then some (primSort2 f_term_Vars_2 f_exhaust_Vars_1) else if f=f_slices_Compact_api_Var_api_Var then some (primCompact 2 okV) else if f=f_slices_Clone_api_Term_api_Term then some (primClone) else if f=f_internal_bytealg_abigen_runtime_cmpstring then some (purePrim primCompare) else none }
theorem p_law11_ExhaustWitness:P.fn f_law11_ExhaustWitness=some F_law11_ExhaustWitness:=rfl
theorem p_r11_Few:P.fn f_r11_Few=some F_r11_Few:=rfl
theorem p_law11_live:P.fn f_law11_live=some F_law11_live:=rfl
theorem p_exhaust_Vars:P.fn f_exhaust_Vars=some F_exhaust_Vars:=rfl
theorem p_r11_Vars:P.fn f_r11_Vars=some F_r11_Vars:=rfl
theorem p_r11_Small:P.fn f_r11_Small=some F_r11_Small:=rfl
theorem p_exhaust_Equal:P.fn f_exhaust_Equal=some F_exhaust_Equal:=rfl
theorem p_exhaust_Valid:P.fn f_exhaust_Valid=some F_exhaust_Valid:=rfl
theorem p_exhaust_Sat:P.fn f_exhaust_Sat=some F_exhaust_Sat:=rfl
theorem p_exhaust_Count:P.fn f_exhaust_Count=some F_exhaust_Count:=rfl
theorem p_r08_Eval:P.fn f_r08_Eval=some F_r08_Eval:=rfl
theorem p_law11_two:P.fn f_law11_two=some F_law11_two:=rfl
theorem p_r08_Bits:P.fn f_r08_Bits=some F_r08_Bits:=rfl
theorem p_r06_Light:P.fn f_r06_Light=some F_r06_Light:=rfl
theorem p_term_Check:P.fn f_term_Check=some F_term_Check:=rfl
theorem p_term_Vars:P.fn f_term_Vars=some F_term_Vars:=rfl
theorem p_r06_Check:P.fn f_r06_Check=some F_r06_Check:=rfl
theorem p_r11_all:P.fn f_r11_all=some F_r11_all:=rfl
theorem p_slices_ContainsFunc_api_Term_api_Term:P.fn f_slices_ContainsFunc_api_Term_api_Term=some F_slices_ContainsFunc_api_Term_api_Term:=rfl
theorem p_exhaust_Valid_1:P.fn f_exhaust_Valid_1=some F_exhaust_Valid_1:=rfl
theorem p_exhaust_tables:P.fn f_exhaust_tables=some F_exhaust_tables:=rfl
theorem p_exhaust_assignments:P.fn f_exhaust_assignments=some F_exhaust_assignments:=rfl
theorem p_exhaust_condition:P.fn f_exhaust_condition=some F_exhaust_condition:=rfl
theorem p_r08_Value:P.fn f_r08_Value=some F_r08_Value:=rfl
theorem p_r06_count:P.fn f_r06_count=some F_r06_count:=rfl
theorem p_term_measure:P.fn f_term_measure=some F_term_measure:=rfl
theorem p_term_All:P.fn f_term_All=some F_term_All:=rfl
theorem p_term_node:P.fn f_term_node=some F_term_node:=rfl
theorem p_term_preorder:P.fn f_term_preorder=some F_term_preorder:=rfl
theorem p_term_Vars_1:P.fn f_term_Vars_1=some F_term_Vars_1:=rfl
theorem p_term_Vars_1_1:P.fn f_term_Vars_1_1=some F_term_Vars_1_1:=rfl
theorem p_slices_ContainsFunc_api_Var_api_Var:P.fn f_slices_ContainsFunc_api_Var_api_Var=some F_slices_ContainsFunc_api_Var_api_Var:=rfl
theorem p_r06_nodes:P.fn f_r06_nodes=some F_r06_nodes:=rfl
theorem p_r06_Post:P.fn f_r06_Post=some F_r06_Post:=rfl
theorem p_r06_Vars:P.fn f_r06_Vars=some F_r06_Vars:=rfl
theorem p_slices_IndexFunc_api_Term_api_Term:P.fn f_slices_IndexFunc_api_Term_api_Term=some F_slices_IndexFunc_api_Term_api_Term:=rfl
theorem p_eval_Table:P.fn f_eval_Table=some F_eval_Table:=rfl
theorem p_exhaust_assignments_1:P.fn f_exhaust_assignments_1=some F_exhaust_assignments_1:=rfl
theorem p_exhaust_assignments_1_1:P.fn f_exhaust_assignments_1_1=some F_exhaust_assignments_1_1:=rfl
theorem p_r01_Cut:P.fn f_r01_Cut=some F_r01_Cut:=rfl
theorem p_r08_Look:P.fn f_r08_Look=some F_r08_Look:=rfl
theorem p_r08_value:P.fn f_r08_value=some F_r08_value:=rfl
theorem p_term_All_1:P.fn f_term_All_1=some F_term_All_1:=rfl
theorem p_term_postorder:P.fn f_term_postorder=some F_term_postorder:=rfl
theorem p_term_All_1_1:P.fn f_term_All_1_1=some F_term_All_1_1:=rfl
theorem p_term_Copy:P.fn f_term_Copy=some F_term_Copy:=rfl
theorem p_opinfo_Arity:P.fn f_opinfo_Arity=some F_opinfo_Arity:=rfl
theorem p_opinfo_Pattern:P.fn f_opinfo_Pattern=some F_opinfo_Pattern:=rfl
theorem p_term_Name:P.fn f_term_Name=some F_term_Name:=rfl
theorem p_opinfo_Width:P.fn f_opinfo_Width=some F_opinfo_Width:=rfl
theorem p_term_widths:P.fn f_term_widths=some F_term_widths:=rfl
theorem p_slices_IndexFunc_api_Var_api_Var:P.fn f_slices_IndexFunc_api_Var_api_Var=some F_slices_IndexFunc_api_Var_api_Var:=rfl
theorem p_r06_Node:P.fn f_r06_Node=some F_r06_Node:=rfl
theorem p_r06_Pre:P.fn f_r06_Pre=some F_r06_Pre:=rfl
theorem p_eval_value:P.fn f_eval_value=some F_eval_value:=rfl
theorem p_eval_Table_1:P.fn f_eval_Table_1=some F_eval_Table_1:=rfl
theorem p_r01_W:P.fn f_r01_W=some F_r01_W:=rfl
theorem p_r01_Bit:P.fn f_r01_Bit=some F_r01_Bit:=rfl
theorem p_r08_one:P.fn f_r08_one=some F_r08_one:=rfl
theorem p_r01_Concat:P.fn f_r01_Concat=some F_r01_Concat:=rfl
theorem p_r08_two:P.fn f_r08_two=some F_r08_two:=rfl
theorem p_opinfo_known:P.fn f_opinfo_known=some F_opinfo_known:=rfl
theorem p_opinfo_inside:P.fn f_opinfo_inside=some F_opinfo_inside:=rfl
theorem p_opinfo_leaf:P.fn f_opinfo_leaf=some F_opinfo_leaf:=rfl
theorem p_opinfo_resized:P.fn f_opinfo_resized=some F_opinfo_resized:=rfl
theorem p_opinfo_agreed:P.fn f_opinfo_agreed=some F_opinfo_agreed:=rfl
theorem p_r04_Arity:P.fn f_r04_Arity=some F_r04_Arity:=rfl
theorem p_r04_Pattern:P.fn f_r04_Pattern=some F_r04_Pattern:=rfl
theorem p_r06_Name:P.fn f_r06_Name=some F_r06_Name:=rfl
theorem p_r04_Width:P.fn f_r04_Width=some F_r04_Width:=rfl
theorem p_r06_Widths:P.fn f_r06_Widths=some F_r06_Widths:=rfl
theorem p_bits_Cut:P.fn f_bits_Cut=some F_bits_Cut:=rfl
theorem p_eval_compute:P.fn f_eval_compute=some F_eval_compute:=rfl
theorem p_r01_Not:P.fn f_r01_Not=some F_r01_Not:=rfl
theorem p_r01_Neg:P.fn f_r01_Neg=some F_r01_Neg:=rfl
theorem p_r01_Extract:P.fn f_r01_Extract=some F_r01_Extract:=rfl
theorem p_r01_Sext:P.fn f_r01_Sext=some F_r01_Sext:=rfl
theorem p_r01_And:P.fn f_r01_And=some F_r01_And:=rfl
theorem p_r01_Or:P.fn f_r01_Or=some F_r01_Or:=rfl
theorem p_r01_Xor:P.fn f_r01_Xor=some F_r01_Xor:=rfl
theorem p_r01_Add:P.fn f_r01_Add=some F_r01_Add:=rfl
theorem p_r01_Sub:P.fn f_r01_Sub=some F_r01_Sub:=rfl
theorem p_r01_Mul:P.fn f_r01_Mul=some F_r01_Mul:=rfl
theorem p_r01_Udiv:P.fn f_r01_Udiv=some F_r01_Udiv:=rfl
theorem p_r01_Urem:P.fn f_r01_Urem=some F_r01_Urem:=rfl
theorem p_r01_Shl:P.fn f_r01_Shl=some F_r01_Shl:=rfl
theorem p_r01_Lshr:P.fn f_r01_Lshr=some F_r01_Lshr:=rfl
theorem p_r01_Ashr:P.fn f_r01_Ashr=some F_r01_Ashr:=rfl
theorem p_r01_Eq:P.fn f_r01_Eq=some F_r01_Eq:=rfl
theorem p_r01_Ult:P.fn f_r01_Ult=some F_r01_Ult:=rfl
theorem p_r01_Slt:P.fn f_r01_Slt=some F_r01_Slt:=rfl
theorem p_r04_Leaf:P.fn f_r04_Leaf=some F_r04_Leaf:=rfl
theorem p_r04_Is:P.fn f_r04_Is=some F_r04_Is:=rfl
theorem p_r04_width:P.fn f_r04_width=some F_r04_width:=rfl
theorem p_r04_leaf:P.fn f_r04_leaf=some F_r04_leaf:=rfl
theorem p_r04_parts:P.fn f_r04_parts=some F_r04_parts:=rfl
theorem p_bits_Mask:P.fn f_bits_Mask=some F_bits_Mask:=rfl
theorem p_bits_Not:P.fn f_bits_Not=some F_bits_Not:=rfl
theorem p_bits_Neg:P.fn f_bits_Neg=some F_bits_Neg:=rfl
theorem p_bits_Concat:P.fn f_bits_Concat=some F_bits_Concat:=rfl
theorem p_bits_Extract:P.fn f_bits_Extract=some F_bits_Extract:=rfl
theorem p_bits_Sext:P.fn f_bits_Sext=some F_bits_Sext:=rfl
theorem p_eval_binary:P.fn f_eval_binary=some F_eval_binary:=rfl
theorem p_r01_Mask:P.fn f_r01_Mask=some F_r01_Mask:=rfl
theorem p_r01_divide:P.fn f_r01_divide=some F_r01_divide:=rfl
theorem p_r01_shift:P.fn f_r01_shift=some F_r01_shift:=rfl
theorem p_r01_by:P.fn f_r01_by=some F_r01_by:=rfl
theorem p_r01_truth:P.fn f_r01_truth=some F_r01_truth:=rfl
theorem p_r01_Signed:P.fn f_r01_Signed=some F_r01_Signed:=rfl
theorem p_bits_clamp:P.fn f_bits_clamp=some F_bits_clamp:=rfl
theorem p_bits_Signed:P.fn f_bits_Signed=some F_bits_Signed:=rfl
theorem p_bits_And:P.fn f_bits_And=some F_bits_And:=rfl
theorem p_bits_Or:P.fn f_bits_Or=some F_bits_Or:=rfl
theorem p_bits_Xor:P.fn f_bits_Xor=some F_bits_Xor:=rfl
theorem p_bits_Add:P.fn f_bits_Add=some F_bits_Add:=rfl
theorem p_bits_Sub:P.fn f_bits_Sub=some F_bits_Sub:=rfl
theorem p_bits_Mul:P.fn f_bits_Mul=some F_bits_Mul:=rfl
theorem p_bits_Udiv:P.fn f_bits_Udiv=some F_bits_Udiv:=rfl
theorem p_bits_Urem:P.fn f_bits_Urem=some F_bits_Urem:=rfl
theorem p_bits_Shl:P.fn f_bits_Shl=some F_bits_Shl:=rfl
theorem p_bits_Lshr:P.fn f_bits_Lshr=some F_bits_Lshr:=rfl
theorem p_bits_Ashr:P.fn f_bits_Ashr=some F_bits_Ashr:=rfl
theorem p_eval_word:P.fn f_eval_word=some F_eval_word:=rfl
theorem p_bits_Ult:P.fn f_bits_Ult=some F_bits_Ult:=rfl
theorem p_bits_Slt:P.fn f_bits_Slt=some F_bits_Slt:=rfl
theorem p_r01_Negative:P.fn f_r01_Negative=some F_r01_Negative:=rfl
theorem p_bits_shift:P.fn f_bits_shift=some F_bits_shift:=rfl
theorem p_bits_flag:P.fn f_bits_flag=some F_bits_flag:=rfl
theorem k0_r11_Few:Kp P L0_r11_Few [0,3]:=loop_kept
theorem k0_exhaust_Vars:Kp P L0_exhaust_Vars [0,13,14,15]:=loop_kept
theorem k1_exhaust_Vars:Kp P L1_exhaust_Vars [7,25,26,27]:=loop_kept
theorem k2_exhaust_Vars:Kp P L2_exhaust_Vars [7,10,40,41,42]:=loop_kept
theorem k0_r11_Vars:Kp P L0_r11_Vars [0,4]:=loop_kept
theorem k1_exhaust_Valid:Kp P L1_exhaust_Valid [6,7,8,12,13,14,15,52,53,54]:=loop_kept
theorem k0_exhaust_Count:Kp P L0_exhaust_Count [6,7,16,17,18]:=loop_kept
theorem k0_r08_Bits:Kp P L0_r08_Bits [0,3,4]:=loop_kept
theorem k1_r06_Check:Kp P L1_r06_Check [4,5,6]:=loop_kept
theorem k0_r06_Check:Kp P L0_r06_Check [4,5]:=loop_kept
theorem k2_r11_all:Kp P L2_r11_all [0,4,5,6,7,8]:=loop_kept
theorem k1_r11_all:Kp P L1_r11_all [0,4,5,6,7]:=loop_kept
theorem k0_r11_all:Kp P L0_r11_all [0,4,5]:=loop_kept
theorem k0_exhaust_tables:Kp P L0_exhaust_tables [0,5,10,11,12]:=loop_kept
theorem k0_exhaust_assignments:Kp P L0_exhaust_assignments [1,3,6,7,8]:=loop_kept
theorem k0_r08_Value:Kp P L0_r08_Value [1,2,8,9]:=loop_kept
theorem k0_r06_count:Kp P L0_r06_count [1,2,3,7]:=loop_kept
theorem k0_term_measure:Kp P L0_term_measure [1,2,21,22,23]:=loop_kept
theorem k0_term_preorder:Kp P L0_term_preorder [1,12,13,14]:=loop_kept
theorem k0_r06_nodes:Kp P L0_r06_nodes [1,3]:=loop_kept
theorem k0_r06_Post:Kp P L0_r06_Post [1,3,4]:=loop_kept
theorem k1_r06_Vars:Kp P L1_r06_Vars [3,4,5,6]:=loop_kept
theorem k0_r06_Vars:Kp P L0_r06_Vars [3,4,5]:=loop_kept
theorem k0_slices_IndexFunc_api_Term_api_Term:Kp P L0_slices_IndexFunc_api_Term_api_Term [0,1,7,8]:=loop_kept
theorem k0_eval_Table:Kp P L0_eval_Table [1,2,7,30,31,32]:=loop_kept
theorem k1_eval_Table:Kp P L1_eval_Table [1,2,7,51,52,53]:=loop_kept
theorem k2_eval_Table:Kp P L2_eval_Table [1,2,7,16,77,78,79]:=loop_kept
theorem k3_eval_Table:Kp P L3_eval_Table [2,7,16,19,95,96,97]:=loop_kept
theorem k4_eval_Table:Kp P L4_eval_Table [2,7,19,22,117,118]:=loop_kept
theorem k0_exhaust_assignments_1:Kp P L0_exhaust_assignments_1 [0,2,7,8]:=loop_kept
theorem k0_exhaust_assignments_1_1:Kp P L0_exhaust_assignments_1_1 [3,4,9,10,11]:=loop_kept
theorem k0_r01_Cut:Kp P L0_r01_Cut [1,5,8,9]:=loop_kept
theorem k0_r08_Look:Kp P L0_r08_Look [0,1,6]:=loop_kept
theorem k0_r08_value:Kp P L0_r08_value [0,1,2,3,9,10]:=loop_kept
theorem k0_term_postorder:Kp P L0_term_postorder [1,2,8,9,10]:=loop_kept
theorem k0_term_Copy:Kp P L0_term_Copy [2,3,9,10,11]:=loop_kept
theorem k0_term_Name:Kp P L0_term_Name [0,24,25]:=loop_kept
theorem k0_opinfo_Width:Kp P L0_opinfo_Width [0,1,2,3,22,23,24]:=loop_kept
theorem k0_term_widths:Kp P L0_term_widths [3,9,10,11]:=loop_kept
theorem k0_slices_IndexFunc_api_Var_api_Var:Kp P L0_slices_IndexFunc_api_Var_api_Var [0,1,7,8]:=loop_kept
theorem k0_r06_Pre:Kp P L0_r06_Pre [1,3,4]:=loop_kept
theorem k0_eval_value:Kp P L0_eval_value [1,2,6,20,21,22]:=loop_kept
theorem k0_r01_Concat:Kp P L0_r01_Concat [1,2,9,15,16]:=loop_kept
theorem k0_r06_Name:Kp P L0_r06_Name [0,3]:=loop_kept
theorem k0_r04_Width:Kp P L0_r04_Width [0,1,2,3,22,23]:=loop_kept
theorem k0_r06_Widths:Kp P L0_r06_Widths [0,3,4]:=loop_kept
theorem k0_r01_Extract:Kp P L0_r01_Extract [0,2,7,16,17]:=loop_kept
theorem k0_r01_Sext:Kp P L0_r01_Sext [0,2,7,10,11]:=loop_kept
theorem k0_r01_And:Kp P L0_r01_And [1,2,7,10,11]:=loop_kept
theorem k0_r01_Add:Kp P L0_r01_Add [1,2,7,8,12,13]:=loop_kept
theorem k0_r01_Mul:Kp P L0_r01_Mul [0,1,2,7,8]:=loop_kept
theorem k0_r04_Is:Kp P L0_r04_Is [0,1,7,8]:=loop_kept
theorem k0_r01_Mask:Kp P L0_r01_Mask [3,5,6]:=loop_kept
theorem k0_r01_divide:Kp P L0_r01_divide [0,1,6,7,8]:=loop_kept
theorem k0_r01_shift:Kp P L0_r01_shift [0,1,2,3,9,13,14]:=loop_kept
theorem kR0_exhaust_Valid {τ:Tm} {σ:Store} {nt:Nat} {rd:Option Nat}:exec P R0_exhaust_Valid ⟨τ,σ,nt,rd⟩=rangeK τ nt rd (rangeR P [48,49] A0_exhaust_Valid B0_exhaust_Valid ((O.t 47).val τ) (τ.kept [6,7,8,12,13]) σ nt rd):=range_go
theorem kR0_exhaust_Sat {τ:Tm} {σ:Store} {nt:Nat} {rd:Option Nat}:exec P R0_exhaust_Sat ⟨τ,σ,nt,rd⟩=rangeK τ nt rd (rangeR P [21,22] A0_exhaust_Sat B0_exhaust_Sat ((O.t 20).val τ) (τ.kept [2,3,4,6]) σ nt rd):=range_go
theorem kR0_term_Check {τ:Tm} {σ:Store} {nt:Nat} {rd:Option Nat}:exec P R0_term_Check ⟨τ,σ,nt,rd⟩=rangeK τ nt rd (rangeR P [21] A0_term_Check B0_term_Check ((O.t 20).val τ) (τ.kept [2,5,6]) σ nt rd):=range_go
theorem r_law11_ExhaustWitness:Rp P f_law11_ExhaustWitness 103 [.tmp 6] F_law11_ExhaustWitness:=fun h=>R_go p_law11_ExhaustWitness h
theorem q_r11_Few:Qp P f_r11_Few:=callF_pure p_r11_Few rfl rfl
theorem r_r11_Few:Rp P f_r11_Few 25 [.tmp 2] F_r11_Few:=fun h=>R_go p_r11_Few h
theorem q_law11_live:Qp P f_law11_live:=callF_pure p_law11_live rfl rfl
theorem r_law11_live:Rp P f_law11_live 136 [.tmp 0] F_law11_live:=fun h=>R_go p_law11_live h
theorem q_exhaust_Vars:Qp P f_exhaust_Vars:=callF_pure p_exhaust_Vars rfl rfl
theorem r_exhaust_Vars:Rp P f_exhaust_Vars 68 [.tmp 2,.tmp 3] F_exhaust_Vars:=fun h=>R_go p_exhaust_Vars h
theorem q_r11_Vars:Qp P f_r11_Vars:=callF_pure p_r11_Vars rfl rfl
theorem r_r11_Vars:Rp P f_r11_Vars 33 [.tmp 2,.tmp 3] F_r11_Vars:=fun h=>R_go p_r11_Vars h
theorem q_r11_Small:Qp P f_r11_Small:=callF_pure p_r11_Small rfl rfl
theorem r_r11_Small:Rp P f_r11_Small 20 [.tmp 2] F_r11_Small:=fun h=>R_go p_r11_Small h
theorem q_exhaust_Equal:Qp P f_exhaust_Equal:=callF_pure p_exhaust_Equal rfl rfl
theorem r_exhaust_Equal:Rp P f_exhaust_Equal 13 [.tmp 4,.tmp 5,.tmp 6] F_exhaust_Equal:=fun h=>R_go p_exhaust_Equal h
theorem q_exhaust_Valid:Qp P f_exhaust_Valid:=callF_pure p_exhaust_Valid rfl rfl
theorem r_exhaust_Valid:Rp P f_exhaust_Valid 82 [.cell 6 1 false,.cell 7 1 false,.cell 8 1 false] F_exhaust_Valid:=fun h=>R_go p_exhaust_Valid h
theorem q_exhaust_Sat:Qp P f_exhaust_Sat:=callF_pure p_exhaust_Sat rfl rfl
theorem r_exhaust_Sat:Rp P f_exhaust_Sat 30 [.cell 2 1 false,.cell 3 1 false,.cell 4 1 false] F_exhaust_Sat:=fun h=>R_go p_exhaust_Sat h
theorem q_exhaust_Count:Qp P f_exhaust_Count:=callF_pure p_exhaust_Count rfl rfl
theorem r_exhaust_Count:Rp P f_exhaust_Count 29 [.tmp 2,.tmp 3] F_exhaust_Count:=fun h=>R_go p_exhaust_Count h
theorem q_r08_Eval:Qp P f_r08_Eval:=callF_pure p_r08_Eval rfl rfl
theorem r_r08_Eval:Rp P f_r08_Eval 23 [.tmp 4,.tmp 5] F_r08_Eval:=fun h=>R_go p_r08_Eval h
theorem q_law11_two:Qp P f_law11_two:=callF_pure p_law11_two rfl rfl
theorem r_law11_two:Rp P f_law11_two 15 [.cell 8 5 true] F_law11_two:=fun h=>R_go p_law11_two h
theorem q_r08_Bits:Qp P f_r08_Bits:=callF_pure p_r08_Bits rfl rfl
theorem r_r08_Bits:Rp P f_r08_Bits 24 [.tmp 2] F_r08_Bits:=fun h=>R_go p_r08_Bits h
theorem q_r06_Light:Qp P f_r06_Light:=callF_pure p_r06_Light rfl rfl
theorem r_r06_Light:Rp P f_r06_Light 15 [.cell 6 5 true,.tmp 7] F_r06_Light:=fun h=>R_go p_r06_Light h
theorem q_term_Check:Qp P f_term_Check:=callF_pure p_term_Check rfl rfl
theorem r_term_Check:Rp P f_term_Check 53 [.cell 2 1 false] F_term_Check:=fun h=>R_go p_term_Check h
theorem q_term_Vars:Qp P f_term_Vars:=callF_pure p_term_Vars rfl rfl
theorem r_term_Vars:Rp P f_term_Vars 10 [.tmp 2] F_term_Vars:=fun h=>R_go p_term_Vars h
theorem q_r06_Check:Qp P f_r06_Check:=callF_pure p_r06_Check rfl rfl
theorem r_r06_Check:Rp P f_r06_Check 68 [.tmp 2] F_r06_Check:=fun h=>R_go p_r06_Check h
theorem q_r11_all:Qp P f_r11_all:=callF_pure p_r11_all rfl rfl
theorem r_r11_all:Rp P f_r11_all 92 [.tmp 2,.tmp 3] F_r11_all:=fun h=>R_go p_r11_all h
theorem q_slices_ContainsFunc_api_Term_api_Term:Qp P f_slices_ContainsFunc_api_Term_api_Term:=callF_pure p_slices_ContainsFunc_api_Term_api_Term rfl rfl
theorem r_slices_ContainsFunc_api_Term_api_Term:Rp P f_slices_ContainsFunc_api_Term_api_Term 9 [.tmp 4] F_slices_ContainsFunc_api_Term_api_Term:=fun h=>R_go p_slices_ContainsFunc_api_Term_api_Term h
theorem q_exhaust_Valid_1:Qp P f_exhaust_Valid_1:=callF_pure p_exhaust_Valid_1 rfl rfl
theorem r_exhaust_Valid_1:Rp P f_exhaust_Valid_1 6 [.tmp 2] F_exhaust_Valid_1:=fun h=>R_go p_exhaust_Valid_1 h
theorem q_exhaust_tables:Qp P f_exhaust_tables:=callF_pure p_exhaust_tables rfl rfl
theorem r_exhaust_tables:Rp P f_exhaust_tables 28 [.tmp 4] F_exhaust_tables:=fun h=>R_go p_exhaust_tables h
theorem q_exhaust_assignments:Qp P f_exhaust_assignments:=callF_pure p_exhaust_assignments rfl rfl
theorem r_exhaust_assignments:Rp P f_exhaust_assignments 18 [.tmp 2] F_exhaust_assignments:=fun h=>R_go p_exhaust_assignments h
theorem q_exhaust_condition:Qp P f_exhaust_condition:=callF_pure p_exhaust_condition rfl rfl
theorem r_exhaust_condition:Rp P f_exhaust_condition 26 [.tmp 2,.tmp 3,.tmp 4] F_exhaust_condition:=fun h=>R_go p_exhaust_condition h
theorem q_r08_Value:Qp P f_r08_Value:=callF_pure p_r08_Value rfl rfl
theorem r_r08_Value:Rp P f_r08_Value 66 [.tmp 4,.tmp 5] F_r08_Value:=fun h=>R_go p_r08_Value h
theorem q_r06_count:Qp P f_r06_count:=callF_pure p_r06_count rfl rfl
theorem r_r06_count:Rp P f_r06_count 37 [.tmp 6] F_r06_count:=fun h=>R_go p_r06_count h
theorem q_term_measure:Qp P f_term_measure:=callF_pure p_term_measure rfl rfl
theorem r_term_measure:Rp P f_term_measure 40 [.tmp 6,.tmp 7] F_term_measure:=fun h=>R_go p_term_measure h
theorem q_term_All:Qp P f_term_All:=callF_pure p_term_All rfl rfl
theorem r_term_All:Rp P f_term_All 4 [.tmp 2] F_term_All:=fun h=>R_go p_term_All h
theorem q_term_node:Qp P f_term_node:=callF_pure p_term_node rfl rfl
theorem r_term_node:Rp P f_term_node 82 [.tmp 2] F_term_node:=fun h=>R_go p_term_node h
theorem q_term_preorder:Qi P f_term_preorder F_term_preorder:=callF_imp p_term_preorder rfl rfl
theorem q_term_Vars_1:Qi P f_term_Vars_1 F_term_Vars_1:=callF_imp p_term_Vars_1 rfl rfl
theorem q_term_Vars_1_1:Qp P f_term_Vars_1_1:=callF_pure p_term_Vars_1_1 rfl rfl
theorem r_term_Vars_1_1:Rp P f_term_Vars_1_1 9 [.tmp 3] F_term_Vars_1_1:=fun h=>R_go p_term_Vars_1_1 h
theorem q_slices_ContainsFunc_api_Var_api_Var:Qp P f_slices_ContainsFunc_api_Var_api_Var:=callF_pure p_slices_ContainsFunc_api_Var_api_Var rfl rfl
theorem r_slices_ContainsFunc_api_Var_api_Var:Rp P f_slices_ContainsFunc_api_Var_api_Var 9 [.tmp 4] F_slices_ContainsFunc_api_Var_api_Var:=fun h=>R_go p_slices_ContainsFunc_api_Var_api_Var h
theorem q_r06_nodes:Qp P f_r06_nodes:=callF_pure p_r06_nodes rfl rfl
theorem r_r06_nodes:Rp P f_r06_nodes 23 [.tmp 2] F_r06_nodes:=fun h=>R_go p_r06_nodes h
theorem q_r06_Post:Qp P f_r06_Post:=callF_pure p_r06_Post rfl rfl
theorem r_r06_Post:Rp P f_r06_Post 24 [.tmp 2] F_r06_Post:=fun h=>R_go p_r06_Post h
theorem q_r06_Vars:Qp P f_r06_Vars:=callF_pure p_r06_Vars rfl rfl
theorem r_r06_Vars:Rp P f_r06_Vars 83 [.tmp 2] F_r06_Vars:=fun h=>R_go p_r06_Vars h
theorem q_slices_IndexFunc_api_Term_api_Term:Qp P f_slices_IndexFunc_api_Term_api_Term:=callF_pure p_slices_IndexFunc_api_Term_api_Term rfl rfl
theorem r_slices_IndexFunc_api_Term_api_Term:Rp P f_slices_IndexFunc_api_Term_api_Term 19 [.tmp 4] F_slices_IndexFunc_api_Term_api_Term:=fun h=>R_go p_slices_IndexFunc_api_Term_api_Term h
theorem q_eval_Table:Qp P f_eval_Table:=callF_pure p_eval_Table rfl rfl
theorem r_eval_Table:Rp P f_eval_Table 129 [.tmp 4,.tmp 5] F_eval_Table:=fun h=>R_go p_eval_Table h
theorem q_exhaust_assignments_1_1:Qp P f_exhaust_assignments_1_1:=callF_pure p_exhaust_assignments_1_1 rfl rfl
theorem r_exhaust_assignments_1_1:Rp P f_exhaust_assignments_1_1 33 [.tmp 2] F_exhaust_assignments_1_1:=fun h=>R_go p_exhaust_assignments_1_1 h
theorem q_r01_Cut:Qp P f_r01_Cut:=callF_pure p_r01_Cut rfl rfl
theorem r_r01_Cut:Rp P f_r01_Cut 22 [.tmp 4] F_r01_Cut:=fun h=>R_go p_r01_Cut h
theorem q_r08_Look:Qp P f_r08_Look:=callF_pure p_r08_Look rfl rfl
theorem r_r08_Look:Rp P f_r08_Look 25 [.tmp 4,.tmp 5] F_r08_Look:=fun h=>R_go p_r08_Look h
theorem q_r08_value:Qp P f_r08_value:=callF_pure p_r08_value rfl rfl
theorem r_r08_value:Rp P f_r08_value 90 [.tmp 8] F_r08_value:=fun h=>R_go p_r08_value h
theorem q_term_postorder:Qi P f_term_postorder F_term_postorder:=callF_imp p_term_postorder rfl rfl
theorem q_term_All_1_1:Qi P f_term_All_1_1 F_term_All_1_1:=callF_imp p_term_All_1_1 rfl rfl
theorem q_term_Copy:Qp P f_term_Copy:=callF_pure p_term_Copy rfl rfl
theorem r_term_Copy:Rp P f_term_Copy 24 [.cell 2 5 true] F_term_Copy:=fun h=>R_go p_term_Copy h
theorem q_opinfo_Arity:Qp P f_opinfo_Arity:=callF_pure p_opinfo_Arity rfl rfl
theorem r_opinfo_Arity:Rp P f_opinfo_Arity 42 [.tmp 2] F_opinfo_Arity:=fun h=>R_go p_opinfo_Arity h
theorem q_opinfo_Pattern:Qp P f_opinfo_Pattern:=callF_pure p_opinfo_Pattern rfl rfl
theorem r_opinfo_Pattern:Rp P f_opinfo_Pattern 9 [.tmp 2] F_opinfo_Pattern:=fun h=>R_go p_opinfo_Pattern h
theorem q_term_Name:Qp P f_term_Name:=callF_pure p_term_Name rfl rfl
theorem r_term_Name:Rp P f_term_Name 50 [.tmp 2] F_term_Name:=fun h=>R_go p_term_Name h
theorem q_opinfo_Width:Qp P f_opinfo_Width:=callF_pure p_opinfo_Width rfl rfl
theorem r_opinfo_Width:Rp P f_opinfo_Width 144 [.tmp 8,.tmp 9] F_opinfo_Width:=fun h=>R_go p_opinfo_Width h
theorem q_term_widths:Qp P f_term_widths:=callF_pure p_term_widths rfl rfl
theorem r_term_widths:Rp P f_term_widths 23 [.tmp 2] F_term_widths:=fun h=>R_go p_term_widths h
theorem q_slices_IndexFunc_api_Var_api_Var:Qp P f_slices_IndexFunc_api_Var_api_Var:=callF_pure p_slices_IndexFunc_api_Var_api_Var rfl rfl
theorem r_slices_IndexFunc_api_Var_api_Var:Rp P f_slices_IndexFunc_api_Var_api_Var 19 [.tmp 4] F_slices_IndexFunc_api_Var_api_Var:=fun h=>R_go p_slices_IndexFunc_api_Var_api_Var h
theorem q_r06_Node:Qp P f_r06_Node:=callF_pure p_r06_Node rfl rfl
theorem r_r06_Node:Rp P f_r06_Node 84 [.tmp 2] F_r06_Node:=fun h=>R_go p_r06_Node h
theorem q_r06_Pre:Qp P f_r06_Pre:=callF_pure p_r06_Pre rfl rfl
theorem r_r06_Pre:Rp P f_r06_Pre 23 [.tmp 2] F_r06_Pre:=fun h=>R_go p_r06_Pre h
theorem q_eval_value:Qp P f_eval_value:=callF_pure p_eval_value rfl rfl
theorem r_eval_value:Rp P f_eval_value 44 [.tmp 4] F_eval_value:=fun h=>R_go p_eval_value h
theorem q_eval_Table_1:Qp P f_eval_Table_1:=callF_pure p_eval_Table_1 rfl rfl
theorem r_eval_Table_1:Rp P f_eval_Table_1 16 [.tmp 5] F_eval_Table_1:=fun h=>R_go p_eval_Table_1 h
theorem q_r01_W:Qp P f_r01_W:=callF_pure p_r01_W rfl rfl
theorem r_r01_W:Rp P f_r01_W 6 [.tmp 2] F_r01_W:=fun h=>R_go p_r01_W h
theorem q_r01_Bit:Qp P f_r01_Bit:=callF_pure p_r01_Bit rfl rfl
theorem r_r01_Bit:Rp P f_r01_Bit 16 [.tmp 4] F_r01_Bit:=fun h=>R_go p_r01_Bit h
theorem q_r08_one:Qp P f_r08_one:=callF_pure p_r08_one rfl rfl
theorem r_r08_one:Rp P f_r08_one 36 [.tmp 10] F_r08_one:=fun h=>R_go p_r08_one h
theorem q_r01_Concat:Qp P f_r01_Concat:=callF_pure p_r01_Concat rfl rfl
theorem r_r01_Concat:Rp P f_r01_Concat 37 [.tmp 8] F_r01_Concat:=fun h=>R_go p_r01_Concat h
theorem q_r08_two:Qp P f_r08_two:=callF_pure p_r08_two rfl rfl
theorem r_r08_two:Rp P f_r08_two 92 [.tmp 8] F_r08_two:=fun h=>R_go p_r08_two h
theorem q_opinfo_known:Qp P f_opinfo_known:=callF_pure p_opinfo_known rfl rfl
theorem r_opinfo_known:Rp P f_opinfo_known 9 [.tmp 2] F_opinfo_known:=fun h=>R_go p_opinfo_known h
theorem q_opinfo_inside:Qp P f_opinfo_inside:=callF_pure p_opinfo_inside rfl rfl
theorem r_opinfo_inside:Rp P f_opinfo_inside 9 [.tmp 2] F_opinfo_inside:=fun h=>R_go p_opinfo_inside h
theorem q_opinfo_leaf:Qp P f_opinfo_leaf:=callF_pure p_opinfo_leaf rfl rfl
theorem r_opinfo_leaf:Rp P f_opinfo_leaf 26 [.tmp 6,.tmp 7] F_opinfo_leaf:=fun h=>R_go p_opinfo_leaf h
theorem q_opinfo_resized:Qp P f_opinfo_resized:=callF_pure p_opinfo_resized rfl rfl
theorem r_opinfo_resized:Rp P f_opinfo_resized 45 [.tmp 8,.tmp 9] F_opinfo_resized:=fun h=>R_go p_opinfo_resized h
theorem q_opinfo_agreed:Qp P f_opinfo_agreed:=callF_pure p_opinfo_agreed rfl rfl
theorem r_opinfo_agreed:Rp P f_opinfo_agreed 9 [.tmp 4,.tmp 5] F_opinfo_agreed:=fun h=>R_go p_opinfo_agreed h
theorem q_r04_Arity:Qp P f_r04_Arity:=callF_pure p_r04_Arity rfl rfl
theorem r_r04_Arity:Rp P f_r04_Arity 16 [.tmp 2] F_r04_Arity:=fun h=>R_go p_r04_Arity h
theorem q_r04_Pattern:Qp P f_r04_Pattern:=callF_pure p_r04_Pattern rfl rfl
theorem r_r04_Pattern:Rp P f_r04_Pattern 6 [.tmp 2] F_r04_Pattern:=fun h=>R_go p_r04_Pattern h
theorem q_r06_Name:Qp P f_r06_Name:=callF_pure p_r06_Name rfl rfl
theorem r_r06_Name:Rp P f_r06_Name 56 [.tmp 2] F_r06_Name:=fun h=>R_go p_r06_Name h
theorem q_r04_Width:Qp P f_r04_Width:=callF_pure p_r04_Width rfl rfl
theorem r_r04_Width:Rp P f_r04_Width 133 [.tmp 8,.tmp 9] F_r04_Width:=fun h=>R_go p_r04_Width h
theorem q_r06_Widths:Qp P f_r06_Widths:=callF_pure p_r06_Widths rfl rfl
theorem r_r06_Widths:Rp P f_r06_Widths 20 [.tmp 2] F_r06_Widths:=fun h=>R_go p_r06_Widths h
theorem q_bits_Cut:Qp P f_bits_Cut:=callF_pure p_bits_Cut rfl rfl
theorem r_bits_Cut:Rp P f_bits_Cut 9 [.tmp 4] F_bits_Cut:=fun h=>R_go p_bits_Cut h
theorem q_eval_compute:Qp P f_eval_compute:=callF_pure p_eval_compute rfl rfl
theorem r_eval_compute:Rp P f_eval_compute 105 [.tmp 8] F_eval_compute:=fun h=>R_go p_eval_compute h
theorem q_r01_Not:Qp P f_r01_Not:=callF_pure p_r01_Not rfl rfl
theorem r_r01_Not:Rp P f_r01_Not 11 [.tmp 4] F_r01_Not:=fun h=>R_go p_r01_Not h
theorem q_r01_Neg:Qp P f_r01_Neg:=callF_pure p_r01_Neg rfl rfl
theorem r_r01_Neg:Rp P f_r01_Neg 10 [.tmp 4] F_r01_Neg:=fun h=>R_go p_r01_Neg h
theorem q_r01_Extract:Qp P f_r01_Extract:=callF_pure p_r01_Extract rfl rfl
theorem r_r01_Extract:Rp P f_r01_Extract 32 [.tmp 6] F_r01_Extract:=fun h=>R_go p_r01_Extract h
theorem q_r01_Sext:Qp P f_r01_Sext:=callF_pure p_r01_Sext rfl rfl
theorem r_r01_Sext:Rp P f_r01_Sext 28 [.tmp 6] F_r01_Sext:=fun h=>R_go p_r01_Sext h
theorem q_r01_And:Qp P f_r01_And:=callF_pure p_r01_And rfl rfl
theorem r_r01_And:Rp P f_r01_And 31 [.tmp 6] F_r01_And:=fun h=>R_go p_r01_And h
theorem q_r01_Or:Qp P f_r01_Or:=callF_pure p_r01_Or rfl rfl
theorem r_r01_Or:Rp P f_r01_Or 17 [.tmp 6] F_r01_Or:=fun h=>R_go p_r01_Or h
theorem q_r01_Xor:Qp P f_r01_Xor:=callF_pure p_r01_Xor rfl rfl
theorem r_r01_Xor:Rp P f_r01_Xor 16 [.tmp 6] F_r01_Xor:=fun h=>R_go p_r01_Xor h
theorem q_r01_Add:Qp P f_r01_Add:=callF_pure p_r01_Add rfl rfl
theorem r_r01_Add:Rp P f_r01_Add 36 [.tmp 6] F_r01_Add:=fun h=>R_go p_r01_Add h
theorem q_r01_Sub:Qp P f_r01_Sub:=callF_pure p_r01_Sub rfl rfl
theorem r_r01_Sub:Rp P f_r01_Sub 13 [.tmp 6] F_r01_Sub:=fun h=>R_go p_r01_Sub h
theorem q_r01_Mul:Qp P f_r01_Mul:=callF_pure p_r01_Mul rfl rfl
theorem r_r01_Mul:Rp P f_r01_Mul 29 [.tmp 6] F_r01_Mul:=fun h=>R_go p_r01_Mul h
theorem q_r01_Udiv:Qp P f_r01_Udiv:=callF_pure p_r01_Udiv rfl rfl
theorem r_r01_Udiv:Rp P f_r01_Udiv 26 [.tmp 6] F_r01_Udiv:=fun h=>R_go p_r01_Udiv h
theorem q_r01_Urem:Qp P f_r01_Urem:=callF_pure p_r01_Urem rfl rfl
theorem r_r01_Urem:Rp P f_r01_Urem 27 [.tmp 6] F_r01_Urem:=fun h=>R_go p_r01_Urem h
theorem q_r01_Shl:Qp P f_r01_Shl:=callF_pure p_r01_Shl rfl rfl
theorem r_r01_Shl:Rp P f_r01_Shl 14 [.tmp 6] F_r01_Shl:=fun h=>R_go p_r01_Shl h
theorem q_r01_Lshr:Qp P f_r01_Lshr:=callF_pure p_r01_Lshr rfl rfl
theorem r_r01_Lshr:Rp P f_r01_Lshr 13 [.tmp 6] F_r01_Lshr:=fun h=>R_go p_r01_Lshr h
theorem q_r01_Ashr:Qp P f_r01_Ashr:=callF_pure p_r01_Ashr rfl rfl
theorem r_r01_Ashr:Rp P f_r01_Ashr 18 [.tmp 6] F_r01_Ashr:=fun h=>R_go p_r01_Ashr h
theorem q_r01_Eq:Qp P f_r01_Eq:=callF_pure p_r01_Eq rfl rfl
theorem r_r01_Eq:Rp P f_r01_Eq 15 [.tmp 6] F_r01_Eq:=fun h=>R_go p_r01_Eq h
theorem q_r01_Ult:Qp P f_r01_Ult:=callF_pure p_r01_Ult rfl rfl
theorem r_r01_Ult:Rp P f_r01_Ult 15 [.tmp 6] F_r01_Ult:=fun h=>R_go p_r01_Ult h
theorem q_r01_Slt:Qp P f_r01_Slt:=callF_pure p_r01_Slt rfl rfl
theorem r_r01_Slt:Rp P f_r01_Slt 15 [.tmp 6] F_r01_Slt:=fun h=>R_go p_r01_Slt h
theorem q_r04_Leaf:Qp P f_r04_Leaf:=callF_pure p_r04_Leaf rfl rfl
theorem r_r04_Leaf:Rp P f_r04_Leaf 6 [.tmp 2] F_r04_Leaf:=fun h=>R_go p_r04_Leaf h
theorem q_r04_Is:Qp P f_r04_Is:=callF_pure p_r04_Is rfl rfl
theorem r_r04_Is:Rp P f_r04_Is 18 [.tmp 4] F_r04_Is:=fun h=>R_go p_r04_Is h
theorem q_r04_width:Qp P f_r04_width:=callF_pure p_r04_width rfl rfl
theorem r_r04_width:Rp P f_r04_width 9 [.tmp 2] F_r04_width:=fun h=>R_go p_r04_width h
theorem q_r04_leaf:Qp P f_r04_leaf:=callF_pure p_r04_leaf rfl rfl
theorem r_r04_leaf:Rp P f_r04_leaf 31 [.tmp 6,.tmp 7] F_r04_leaf:=fun h=>R_go p_r04_leaf h
theorem q_r04_parts:Qp P f_r04_parts:=callF_pure p_r04_parts rfl rfl
theorem r_r04_parts:Rp P f_r04_parts 46 [.tmp 8,.tmp 9] F_r04_parts:=fun h=>R_go p_r04_parts h
theorem q_bits_Mask:Qp P f_bits_Mask:=callF_pure p_bits_Mask rfl rfl
theorem r_bits_Mask:Rp P f_bits_Mask 7 [.tmp 2] F_bits_Mask:=fun h=>R_go p_bits_Mask h
theorem q_bits_Not:Qp P f_bits_Not:=callF_pure p_bits_Not rfl rfl
theorem r_bits_Not:Rp P f_bits_Not 9 [.tmp 4] F_bits_Not:=fun h=>R_go p_bits_Not h
theorem q_bits_Neg:Qp P f_bits_Neg:=callF_pure p_bits_Neg rfl rfl
theorem r_bits_Neg:Rp P f_bits_Neg 9 [.tmp 4] F_bits_Neg:=fun h=>R_go p_bits_Neg h
theorem q_bits_Concat:Qp P f_bits_Concat:=callF_pure p_bits_Concat rfl rfl
theorem r_bits_Concat:Rp P f_bits_Concat 19 [.tmp 8] F_bits_Concat:=fun h=>R_go p_bits_Concat h
theorem q_bits_Extract:Qp P f_bits_Extract:=callF_pure p_bits_Extract rfl rfl
theorem r_bits_Extract:Rp P f_bits_Extract 14 [.tmp 6] F_bits_Extract:=fun h=>R_go p_bits_Extract h
theorem q_bits_Sext:Qp P f_bits_Sext:=callF_pure p_bits_Sext rfl rfl
theorem r_bits_Sext:Rp P f_bits_Sext 13 [.tmp 6] F_bits_Sext:=fun h=>R_go p_bits_Sext h
theorem q_eval_binary:Qp P f_eval_binary:=callF_pure p_eval_binary rfl rfl
theorem r_eval_binary:Rp P f_eval_binary 95 [.tmp 8] F_eval_binary:=fun h=>R_go p_eval_binary h
theorem q_r01_Mask:Qp P f_r01_Mask:=callF_pure p_r01_Mask rfl rfl
theorem r_r01_Mask:Rp P f_r01_Mask 13 [.tmp 2] F_r01_Mask:=fun h=>R_go p_r01_Mask h
theorem q_r01_divide:Qp P f_r01_divide:=callF_pure p_r01_divide rfl rfl
theorem r_r01_divide:Rp P f_r01_divide 39 [.tmp 4,.tmp 5] F_r01_divide:=fun h=>R_go p_r01_divide h
theorem q_r01_shift:Qp P f_r01_shift:=callF_pure p_r01_shift rfl rfl
theorem r_r01_shift:Rp P f_r01_shift 37 [.tmp 8] F_r01_shift:=fun h=>R_go p_r01_shift h
theorem q_r01_by:Qp P f_r01_by:=callF_pure p_r01_by rfl rfl
theorem r_r01_by:Rp P f_r01_by 10 [.tmp 4] F_r01_by:=fun h=>R_go p_r01_by h
theorem q_r01_truth:Qp P f_r01_truth:=callF_pure p_r01_truth rfl rfl
theorem r_r01_truth:Rp P f_r01_truth 4 [.tmp 2] F_r01_truth:=fun h=>R_go p_r01_truth h
theorem q_r01_Signed:Qp P f_r01_Signed:=callF_pure p_r01_Signed rfl rfl
theorem r_r01_Signed:Rp P f_r01_Signed 21 [.tmp 4] F_r01_Signed:=fun h=>R_go p_r01_Signed h
theorem q_bits_clamp:Qp P f_bits_clamp:=callF_pure p_bits_clamp rfl rfl
theorem r_bits_clamp:Rp P f_bits_clamp 6 [.tmp 2] F_bits_clamp:=fun h=>R_go p_bits_clamp h
theorem q_bits_Signed:Qp P f_bits_Signed:=callF_pure p_bits_Signed rfl rfl
theorem r_bits_Signed:Rp P f_bits_Signed 15 [.tmp 4] F_bits_Signed:=fun h=>R_go p_bits_Signed h
theorem q_bits_And:Qp P f_bits_And:=callF_pure p_bits_And rfl rfl
theorem r_bits_And:Rp P f_bits_And 12 [.tmp 6] F_bits_And:=fun h=>R_go p_bits_And h
theorem q_bits_Or:Qp P f_bits_Or:=callF_pure p_bits_Or rfl rfl
theorem r_bits_Or:Rp P f_bits_Or 12 [.tmp 6] F_bits_Or:=fun h=>R_go p_bits_Or h
theorem q_bits_Xor:Qp P f_bits_Xor:=callF_pure p_bits_Xor rfl rfl
theorem r_bits_Xor:Rp P f_bits_Xor 12 [.tmp 6] F_bits_Xor:=fun h=>R_go p_bits_Xor h
theorem q_bits_Add:Qp P f_bits_Add:=callF_pure p_bits_Add rfl rfl
theorem r_bits_Add:Rp P f_bits_Add 12 [.tmp 6] F_bits_Add:=fun h=>R_go p_bits_Add h
theorem q_bits_Sub:Qp P f_bits_Sub:=callF_pure p_bits_Sub rfl rfl
theorem r_bits_Sub:Rp P f_bits_Sub 12 [.tmp 6] F_bits_Sub:=fun h=>R_go p_bits_Sub h
theorem q_bits_Mul:Qp P f_bits_Mul:=callF_pure p_bits_Mul rfl rfl
theorem r_bits_Mul:Rp P f_bits_Mul 12 [.tmp 6] F_bits_Mul:=fun h=>R_go p_bits_Mul h
theorem q_bits_Udiv:Qp P f_bits_Udiv:=callF_pure p_bits_Udiv rfl rfl
theorem r_bits_Udiv:Rp P f_bits_Udiv 22 [.tmp 6] F_bits_Udiv:=fun h=>R_go p_bits_Udiv h
theorem q_bits_Urem:Qp P f_bits_Urem:=callF_pure p_bits_Urem rfl rfl
theorem r_bits_Urem:Rp P f_bits_Urem 21 [.tmp 6] F_bits_Urem:=fun h=>R_go p_bits_Urem h
theorem q_bits_Shl:Qp P f_bits_Shl:=callF_pure p_bits_Shl rfl rfl
theorem r_bits_Shl:Rp P f_bits_Shl 11 [.tmp 6] F_bits_Shl:=fun h=>R_go p_bits_Shl h
theorem q_bits_Lshr:Qp P f_bits_Lshr:=callF_pure p_bits_Lshr rfl rfl
theorem r_bits_Lshr:Rp P f_bits_Lshr 11 [.tmp 6] F_bits_Lshr:=fun h=>R_go p_bits_Lshr h
theorem q_bits_Ashr:Qp P f_bits_Ashr:=callF_pure p_bits_Ashr rfl rfl
theorem r_bits_Ashr:Rp P f_bits_Ashr 11 [.tmp 6] F_bits_Ashr:=fun h=>R_go p_bits_Ashr h
theorem q_eval_word:Qp P f_eval_word:=callF_pure p_eval_word rfl rfl
theorem r_eval_word:Rp P f_eval_word 10 [.cell 4 2 true] F_eval_word:=fun h=>R_go p_eval_word h
theorem q_bits_Ult:Qp P f_bits_Ult:=callF_pure p_bits_Ult rfl rfl
theorem r_bits_Ult:Rp P f_bits_Ult 15 [.tmp 6] F_bits_Ult:=fun h=>R_go p_bits_Ult h
theorem q_bits_Slt:Qp P f_bits_Slt:=callF_pure p_bits_Slt rfl rfl
theorem r_bits_Slt:Rp P f_bits_Slt 15 [.tmp 6] F_bits_Slt:=fun h=>R_go p_bits_Slt h
theorem q_r01_Negative:Qp P f_r01_Negative:=callF_pure p_r01_Negative rfl rfl
theorem r_r01_Negative:Rp P f_r01_Negative 11 [.tmp 4] F_r01_Negative:=fun h=>R_go p_r01_Negative h
theorem q_bits_shift:Qp P f_bits_shift:=callF_pure p_bits_shift rfl rfl
theorem r_bits_shift:Rp P f_bits_shift 53 [.tmp 8] F_bits_shift:=fun h=>R_go p_bits_shift h
theorem q_bits_flag:Qp P f_bits_flag:=callF_pure p_bits_flag rfl rfl
theorem r_bits_flag:Rp P f_bits_flag 4 [.tmp 2] F_bits_flag:=fun h=>R_go p_bits_flag h
theorem q_slices_SortFunc_api_Var_api_Var {args:List AV} {σ:Store}:callF P f_slices_SortFunc_api_Var_api_Var args σ=(primSort2 f_term_Vars_2 f_exhaust_Vars_1) args σ:=callF_prim rfl
theorem q_slices_Compact_api_Var_api_Var {args:List AV} {σ:Store}:callF P f_slices_Compact_api_Var_api_Var args σ=(primCompact 2 okV) args σ:=callF_prim rfl
theorem q_slices_Clone_api_Term_api_Term {args:List AV} {σ:Store}:callF P f_slices_Clone_api_Term_api_Term args σ=(primClone) args σ:=callF_prim rfl
end
end Go.AE.S
