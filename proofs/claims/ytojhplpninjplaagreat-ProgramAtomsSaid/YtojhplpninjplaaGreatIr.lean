import Derived.Test.YtojhplpninjplaaGreatP0
namespace Go.AE.S
open Go Go.AE
noncomputable section
def bs (l:List Nat):ByteArray:=⟨(l.map UInt8.ofNat).toArray⟩
def f_law25_ProgramAtoms:FuncId:=3
def f_r25_Light:FuncId:=7
def f_law25_lives:FuncId:=8
def f_program_Names:FuncId:=9
def f_r25_Names:FuncId:=10
def f_program_CheckAtoms:FuncId:=11
def f_r25_CheckAtoms:FuncId:=12
def f_r06_SameVars:FuncId:=13
def f_program_Compile:FuncId:=14
def f_program_Check:FuncId:=18
def f_r06_Light:FuncId:=22
def f_law25_twice:FuncId:=23
def f_program_mentions:FuncId:=24
def f_program_Names_1:FuncId:=25
def f_slices_ContainsFunc_api_Var_api_Var:FuncId:=26
def f_slices_SortFunc_api_Var_api_Var:FuncId:=27
def f_program_Names_2:FuncId:=28
def f_strings_Compare:FuncId:=29
def f_r25_all:FuncId:=30
def f_r25_names:FuncId:=31
def f_pattern_Check:FuncId:=32
def f_pattern_Generic:FuncId:=33
def f_term_Name:FuncId:=34
def f_r24_Check:FuncId:=35
def f_r24_Generic:FuncId:=36
def f_r06_Name:FuncId:=37
def f_program_compiler_register:FuncId:=38
def f_program_compiler_emit:FuncId:=39
def f_program_compiler_hole:FuncId:=40
def f_program_compiler_pattern:FuncId:=41
def f_program_checker_instruction:FuncId:=49
def f_program_slots:FuncId:=50
def f_term_Copy:FuncId:=53
def f_r06_count:FuncId:=54
def f_law25_hole:FuncId:=55
def f_program_mentions_1:FuncId:=56
def f_slices_IndexFunc_api_Var_api_Var:FuncId:=57
def f_internal_bytealg_CompareString:FuncId:=60
def f_r25_uses:FuncId:=61
def f_term_Size:FuncId:=62
def f_term_Depth:FuncId:=63
def f_pattern_nodes:FuncId:=64
def f_pattern_preorder:FuncId:=65
def f_pattern_variable:FuncId:=66
def f_r10_Small:FuncId:=67
def f_r07_Deep:FuncId:=68
def f_r24_Postorder:FuncId:=69
def f_r24_node:FuncId:=70
def f_r24_names:FuncId:=71
def f_r24_Preorder:FuncId:=72
def f_program_compiler_width:FuncId:=73
def f_program_compiler_num:FuncId:=74
def f_pattern_Ground:FuncId:=75
def f_program_determined:FuncId:=76
def f_program_checker_set:FuncId:=83
def f_opinfo_Arity:FuncId:=84
def f_opinfo_Pattern:FuncId:=85
def f_program_checker_setAll:FuncId:=86
def f_term_Check:FuncId:=87
def f_internal_bytealg_abigen_runtime_cmpstring:FuncId:=98
def f_r06_Pre:FuncId:=99
def f_pattern_node:FuncId:=100
def f_pattern_preorder_1:FuncId:=101
def f_pattern_visit:FuncId:=102
def f_r10_left:FuncId:=103
def f_r04_Arity:FuncId:=104
def f_r24_variable:FuncId:=105
def f_r07_Name:FuncId:=106
def f_r04_Width:FuncId:=107
def f_r24_widths:FuncId:=108
def f_pattern_has:FuncId:=109
def f_term_measure:FuncId:=115
def f_term_All:FuncId:=116
def f_term_node:FuncId:=117
def f_opinfo_Width:FuncId:=123
def f_pattern_widths:FuncId:=124
def f_r04_Leaf:FuncId:=125
def f_r04_Is:FuncId:=126
def f_r04_width:FuncId:=127
def f_r04_leaf:FuncId:=128
def f_r04_parts:FuncId:=129
def f_slices_Contains_api_Op_api_Op:FuncId:=130
def f_term_All_1:FuncId:=133
def f_term_postorder:FuncId:=134
def f_term_All_1_1:FuncId:=135
def f_term_widths:FuncId:=136
def f_opinfo_known:FuncId:=138
def f_opinfo_inside:FuncId:=139
def f_opinfo_leaf:FuncId:=140
def f_opinfo_resized:FuncId:=141
def f_opinfo_agreed:FuncId:=142
def f_slices_Index_api_Op_api_Op:FuncId:=143
def F_law25_ProgramAtoms:AFn:=⟨39,[.tmp 2],
  (.seq (.reg false [mvI 2 (.c (.p (.bool false)))])
  (.seq (.seq (.reg false [mvI 7 (.t 0),opI 8 (.callf f_r25_Light [(.t 7)]),opI 9 (.not (.t 8))])
  (.cond (.t 9) (.seq (.reg false [opI 10 (.callf f_law25_lives []),mvI 2 (.t 10)])
  .ret) .skip))
  (.seq (.reg false [mvI 12 (.t 0),opI 13 (.callf f_program_Names [(.t 12)]),mvI 11 (.t 13),opI 14 (.extract (.t 11) 0),opI 15 (.extract (.t 11) 1),mvI 3 (.t 14),mvI 4 (.t 15)])
  (.seq (.reg false [mvI 17 (.t 0),opI 18 (.callf f_r25_Names [(.t 17)]),mvI 16 (.t 18),opI 19 (.extract (.t 16) 0),opI 20 (.extract (.t 16) 1),mvI 5 (.t 19),mvI 6 (.t 20)])
  (.seq (.reg false [mvI 21 (.t 0),opI 22 (.callf f_program_CheckAtoms [(.t 21)]),mvI 23 (.t 0),opI 24 (.callf f_r25_CheckAtoms [(.t 23)]),opI 25 (.arith .eql (.t 22) (.t 24)),mvI 26 (.t 25),⟨some 27,.mv (.t 3) false,some (26,true)⟩,⟨some 28,.mv (.t 5) false,some (26,true)⟩,⟨some 29,.callf f_r06_SameVars [(.t 27),(.t 28)],some (26,true)⟩,opI 30 (.pick (.t 26) (.t 29) (.c (.p (.bool false)))),mvI 31 (.t 30),⟨some 32,.mv (.t 4) false,some (31,true)⟩,⟨some 33,.mv (.t 6) false,some (31,true)⟩,⟨some 34,.callf f_r06_SameVars [(.t 32),(.t 33)],some (31,true)⟩,opI 35 (.pick (.t 31) (.t 34) (.c (.p (.bool false)))),mvI 36 (.t 35),⟨some 37,.callf f_law25_lives [],some (36,true)⟩,opI 38 (.pick (.t 36) (.t 37) (.c (.p (.bool false)))),mvI 2 (.t 38)])
  .ret))))),false⟩
def B0_r25_Light:K :=
  (.seq (.seq (.reg false [mvI 9 (.t 3),mvI 10 (.t 0),opI 11 (.lenS (.t 10)),opI 12 (.arith .lss (.t 9) (.t 11))])
  (.cond (.t 12) .skip (.exit 0)))
  (.seq (.block 1 (.seq (.reg false [mvI 16 (.t 0),mvI 17 (.t 3),opI 18 (.iadrS 6 (.t 16) (.t 17)),opI 19 (.fadr 1 (.t 18)),opI 20 (.load 5 true (.t 19)),opI 21 (.callf f_r06_Light [(.t 20),(kI 12),(kI 20)]),mvI 15 (.t 21),opI 22 (.extract (.t 15) 0),opI 23 (.extract (.t 15) 1),opI 4 (.init 5 true (.t 22) true),mvI 5 (.t 23)])
  (.seq (.reg false [mvI 24 (.t 5),opI 25 (.not (.t 24)),mvI 26 (.t 25),⟨some 27,.mv (.t 0) false,some (26,false)⟩,⟨some 28,.mv (.t 3) false,some (26,false)⟩,⟨some 29,.iadrS 6 (.t 27) (.t 28),some (26,false)⟩,⟨some 30,.fadr 0 (.t 29),some (26,false)⟩,⟨some 31,.load 1 false (.t 30),some (26,false)⟩,⟨some 32,.lenT (.t 31),some (26,false)⟩,⟨some 33,.arith .gtr (.t 32) (kI 100),some (26,false)⟩,opI 34 (.pick (.t 26) (.c (.p (.bool true))) (.t 33))])
  (.cond (.t 34) (.seq (.reg false [mvI 2 (.c (.p (.bool false)))])
  .ret) .skip))))
  (.reg false [mvI 13 (.t 3),opI 14 (.arith .add (.t 13) (kI 1)),mvI 3 (.t 14)])))
def L0_r25_Light:K:=.loop [0,3] B0_r25_Light
def F_r25_Light:AFn:=⟨35,[.tmp 2],
  (.seq (.reg false [mvI 2 (.c (.p (.bool false)))])
  (.seq (.seq (.reg false [mvI 6 (.t 0),opI 7 (.lenS (.t 6)),opI 8 (.arith .gtr (.t 7) (kI 6))])
  (.cond (.t 8) (.seq (.reg false [mvI 2 (.c (.p (.bool false)))])
  .ret) .skip))
  (.seq (.seq (.reg false [mvI 3 (kI 0)])
  (.block 0 L0_r25_Light))
  (.seq (.reg false [mvI 2 (.c (.p (.bool true)))])
  .ret)))),false⟩
def F_law25_lives:AFn:=⟨88,[.tmp 0],
  (.seq (.reg false [mvI 0 (.c (.p (.bool false)))])
  (.seq (.reg false [opI 11 (.callf f_law25_twice []),opI 12 (.callf f_program_Compile [(.t 11)]),mvI 10 (.t 12),opI 13 (.extract (.t 10) 0),opI 14 (.extract (.t 10) 1),opI 1 (.init 5 true (.t 13) true),mvI 2 (.t 14)])
  (.seq (.reg false [opI 16 (.callf f_program_Compile [(.c .nils)]),mvI 15 (.t 16),opI 17 (.extract (.t 15) 0),opI 18 (.extract (.t 15) 1),opI 3 (.init 5 true (.t 17) true),mvI 4 (.t 18)])
  (.seq (.reg false [opI 20 (.callf f_law25_twice []),opI 21 (.callf f_program_Names [(.t 20)]),mvI 19 (.t 21),opI 22 (.extract (.t 19) 0),opI 23 (.extract (.t 19) 1),mvI 5 (.t 22),mvI 6 (.t 23)])
  (.seq (.reg false [opI 24 (.build [(.p (.int .i64 0)),(.p (.int .i64 0)),(.p (.int .u64 0)),(.p (.str (bs []))),.nils] [(0,1,(kI 8)),(1,1,(kI 8))]),opI 7 (.init 5 true (.t 24) true)])
  (.seq (.reg false [opI 25 (.build [(.p (.int .i64 0)),(.p (.int .i64 0)),(.p (.int .i64 0)),(.p (.int .i64 0)),(.p (.int .i64 0)),(.p (.int .u64 0)),(.p (.str (bs []))),.nils,(.p (.int .i64 0)),(.p (.int .i64 0)),(.p (.int .u64 0)),(.p (.str (bs []))),.nils,(.p (.str (bs [])))] [(0,1,(kI 1))]),opI 26 (.load 5 true (.t 7)),opI 27 (.build [(.p (.int .i64 0)),(.p (.int .i64 0)),(.p (.int .i64 0)),(.p (.int .i64 0)),(.p (.int .i64 0)),(.p (.int .u64 0)),(.p (.str (bs []))),.nils,(.p (.int .i64 0)),(.p (.int .i64 0)),(.p (.int .u64 0)),(.p (.str (bs []))),.nils,(.p (.str (bs [])))] [(0,1,(kI 2)),(2,1,(kI 1)),(3,5,(.t 26))]),opI 28 (.build [(.p (.int .i64 0)),(.p (.int .i64 0)),(.p (.int .i64 0)),(.p (.int .i64 0)),(.p (.int .i64 0)),(.p (.int .u64 0)),(.p (.str (bs []))),.nils,(.p (.int .i64 0)),(.p (.int .i64 0)),(.p (.int .u64 0)),(.p (.str (bs []))),.nils,(.p (.str (bs [])))] [(0,1,(kI 3)),(1,1,(kI 1)),(2,1,(kI 2))]),opI 29 (.bslice 14 [(.p (.int .i64 0)),(.p (.int .i64 0)),(.p (.int .i64 0)),(.p (.int .i64 0)),(.p (.int .i64 0)),(.p (.int .u64 0)),(.p (.str (bs []))),.nils,(.p (.int .i64 0)),(.p (.int .i64 0)),(.p (.int .u64 0)),(.p (.str (bs []))),.nils,(.p (.str (bs [])))] 3 [(0,14,(.t 25)),(1,14,(.t 27)),(2,14,(.t 28))]),opI 30 (.bslice 1 [(.p (.int .i64 0))] 1 [(0,1,(kI 0))]),opI 31 (.build [(.p (.str (bs []))),(.p (.int .i64 0))] [(0,1,(.c (.p (.str (bs [97]))))),(1,1,(kI 1))]),opI 32 (.bslice 2 [(.p (.str (bs []))),(.p (.int .i64 0))] 1 [(0,2,(.t 31))]),opI 33 (.build [.nils,(.p (.int .i64 0)),.nils,.nils,.nils] [(0,1,(.t 29)),(1,1,(kI 3)),(2,1,(.t 30)),(3,1,(.t 32))]),opI 8 (.init 5 true (.t 33) true)])
  (.seq (.reg false [opI 34 (.build [(.p (.int .i64 0)),(.p (.int .i64 0)),(.p (.int .i64 0)),(.p (.int .i64 0)),(.p (.int .i64 0)),(.p (.int .u64 0)),(.p (.str (bs []))),.nils,(.p (.int .i64 0)),(.p (.int .i64 0)),(.p (.int .u64 0)),(.p (.str (bs []))),.nils,(.p (.str (bs [])))] [(0,1,(kI 3))]),opI 35 (.bslice 14 [(.p (.int .i64 0)),(.p (.int .i64 0)),(.p (.int .i64 0)),(.p (.int .i64 0)),(.p (.int .i64 0)),(.p (.int .u64 0)),(.p (.str (bs []))),.nils,(.p (.int .i64 0)),(.p (.int .i64 0)),(.p (.int .u64 0)),(.p (.str (bs []))),.nils,(.p (.str (bs [])))] 1 [(0,14,(.t 34))]),opI 36 (.bslice 1 [(.p (.int .i64 0))] 1 [(0,1,(kI 0))]),opI 37 (.build [.nils,(.p (.int .i64 0)),.nils,.nils,.nils] [(0,1,(.t 35)),(1,1,(kI 1)),(2,1,(.t 36))]),opI 9 (.init 5 true (.t 37) true)])
  (.seq (.reg false [mvI 38 (.t 2),opI 39 (.arith .eql (.t 38) (kI 0)),mvI 40 (.t 39),⟨some 41,.mv (.t 4) false,some (40,true)⟩,⟨some 42,.arith .eql (.t 41) (kI 7),some (40,true)⟩,opI 43 (.pick (.t 40) (.t 42) (.c (.p (.bool false)))),mvI 44 (.t 43),⟨some 45,.fadr 0 (.t 1),some (44,true)⟩,⟨some 46,.load 1 false (.t 45),some (44,true)⟩,⟨some 47,.lenS (.t 46),some (44,true)⟩,⟨some 48,.arith .gtr (.t 47) (kI 0),some (44,true)⟩,opI 49 (.pick (.t 44) (.t 48) (.c (.p (.bool false)))),mvI 50 (.t 49),⟨some 51,.fadr 2 (.t 1),some (50,true)⟩,⟨some 52,.load 1 false (.t 51),some (50,true)⟩,⟨some 53,.lenS (.t 52),some (50,true)⟩,⟨some 54,.arith .eql (.t 53) (kI 1),some (50,true)⟩,opI 55 (.pick (.t 50) (.t 54) (.c (.p (.bool false)))),mvI 56 (.t 55),⟨some 57,.mv (.t 5) false,some (56,true)⟩,⟨some 58,.lenS (.t 57),some (56,true)⟩,⟨some 59,.arith .eql (.t 58) (kI 1),some (56,true)⟩,opI 60 (.pick (.t 56) (.t 59) (.c (.p (.bool false)))),mvI 61 (.t 60),⟨some 62,.mv (.t 5) false,some (61,true)⟩,⟨some 63,.iadrS 2 (.t 62) (kI 0),some (61,true)⟩,⟨some 64,.load 2 true (.t 63),some (61,true)⟩,⟨some 65,.build [(.p (.str (bs []))),(.p (.int .i64 0))] [(0,1,(.c (.p (.str (bs [97]))))),(1,1,(kI 8))],some (61,true)⟩,⟨some 66,.eqA false [.str,.int] (.t 64) (.t 65),some (61,true)⟩,opI 67 (.pick (.t 61) (.t 66) (.c (.p (.bool false)))),mvI 68 (.t 67),⟨some 69,.mv (.t 6) false,some (68,true)⟩,⟨some 70,.lenS (.t 69),some (68,true)⟩,⟨some 71,.arith .eql (.t 70) (kI 0),some (68,true)⟩,opI 72 (.pick (.t 68) (.t 71) (.c (.p (.bool false)))),mvI 73 (.t 72),⟨some 74,.load 5 true (.t 8),some (73,true)⟩,⟨some 75,.callf f_program_Check [(.t 74)],some (73,true)⟩,⟨some 76,.arith .eql (.t 75) (kI 0),some (73,true)⟩,opI 77 (.pick (.t 73) (.t 76) (.c (.p (.bool false)))),mvI 78 (.t 77),⟨some 79,.load 5 true (.t 9),some (78,true)⟩,⟨some 80,.callf f_program_Check [(.t 79)],some (78,true)⟩,⟨some 81,.arith .eql (.t 80) (kI 19),some (78,true)⟩,opI 82 (.pick (.t 78) (.t 81) (.c (.p (.bool false)))),mvI 83 (.t 82),⟨some 84,.callf f_law25_twice [],some (83,true)⟩,⟨some 85,.callf f_program_CheckAtoms [(.t 84)],some (83,true)⟩,⟨some 86,.arith .eql (.t 85) (kI 0),some (83,true)⟩,opI 87 (.pick (.t 83) (.t 86) (.c (.p (.bool false)))),mvI 0 (.t 87)])
  .ret)))))))),false⟩
def B0_program_Names:K :=
  (.seq (.reg false [opI 14 (.arith .lss (.t 13) (.t 12))])
  (.seq (.cond (.t 14) .skip (.exit 0))
  (.seq (.block 1 (.seq (.reg false [opI 15 (.iadrS 3 (.t 11) (.t 13)),opI 16 (.load 3 true (.t 15)),opI 6 (.init 3 true (.t 16) true)])
  (.seq (.reg false [opI 17 (.mkfn f_program_Names_1 [(.t 6)]),mvI 7 (.t 17)])
  (.seq (.reg false [opI 18 (.fadr 2 (.t 6)),opI 19 (.load 1 false (.t 18)),opI 20 (.iadrA 2 1 (.t 4) (.t 19)),opI 21 (.load 1 false (.t 20)),mvI 22 (.t 7),opI 23 (.callf f_slices_ContainsFunc_api_Var_api_Var [(.t 21),(.t 22)]),opI 24 (.not (.t 23))])
  (.cond (.t 24) (.regD [opI 25 (.fadr 2 (.t 6)),opI 26 (.load 1 false (.t 25)),opI 27 (.fadr 2 (.t 6)),opI 28 (.load 1 false (.t 27)),opI 29 (.iadrA 2 1 (.t 4) (.t 28)),opI 30 (.load 1 false (.t 29)),opI 31 (.fadr 0 (.t 6)),opI 32 (.load 2 true (.t 31)),opI 33 (.bslice 2 [(.p (.str (bs []))),(.p (.int .i64 0))] 1 [(0,2,(.t 32))]),opI 34 (.append 2 24 (.t 30) (.t 33)),opI 35 (.iadrA 2 1 (.t 4) (.t 26)),⟨none,.store 1 (.t 35) (.t 34),none⟩] [(1,9)]) .skip)))))
  (.reg false [opI 36 (.arith .add (.t 13) (kI 1)),mvI 13 (.t 36)]))))
def L0_program_Names:K:=.loop [4,11,12,13] B0_program_Names
def B1_program_Names:K :=
  (.seq (.reg false [opI 39 (.arith .lss (.t 38) (kI 2))])
  (.seq (.cond (.t 39) .skip (.exit 2))
  (.seq (.block 3 (.seq (.reg false [opI 40 (.idxA 2 1 false (.t 37) (.t 38)),mvI 9 (.t 40)])
  (.reg false [mvI 41 (.t 9),opI 42 (.callf f_slices_SortFunc_api_Var_api_Var [(.t 41),(.c (.p (.fn f_program_Names_2 [])))])])))
  (.reg false [opI 43 (.arith .add (.t 38) (kI 1)),mvI 38 (.t 43)]))))
def L1_program_Names:K:=.loop [4,37,38] B1_program_Names
def F_program_Names:AFn:=⟨48,[.tmp 2,.tmp 3],
  (.seq (.reg false [mvI 2 (.c .nils),mvI 3 (.c .nils)])
  (.seq (.reg false [opI 4 (.alloc [.nils,.nils] 2)])
  (.seq (.seq (.reg false [mvI 10 (.t 0),opI 11 (.callf f_program_mentions [(.t 10)]),opI 12 (.lenS (.t 11)),mvI 13 (kI 0)])
  (.block 0 L0_program_Names))
  (.seq (.seq (.reg false [opI 37 (.load 2 true (.t 4)),mvI 38 (kI 0)])
  (.block 2 L1_program_Names))
  (.seq (.reg true [opI 44 (.iadrA 2 1 (.t 4) (kI 0)),opI 45 (.load 1 false (.t 44)),opI 46 (.iadrA 2 1 (.t 4) (kI 1)),opI 47 (.load 1 false (.t 46)),mvI 2 (.t 45),mvI 3 (.t 47)])
  .ret))))),false⟩
def F_r25_Names:AFn:=⟨11,[.tmp 2,.tmp 3],
  (.seq (.reg false [mvI 2 (.c .nils),mvI 3 (.c .nils)])
  (.seq (.reg false [mvI 5 (.t 0),opI 6 (.callf f_r25_all [(.t 5)]),mvI 4 (.t 6)])
  (.seq (.reg false [mvI 7 (.t 4),opI 8 (.callf f_r25_names [(.t 7),(kI 24)]),mvI 9 (.t 4),opI 10 (.callf f_r25_names [(.t 9),(kI 25)]),mvI 2 (.t 8),mvI 3 (.t 10)])
  .ret))),false⟩
def B0_program_CheckAtoms:K :=
  (.seq (.reg false [opI 22 (.arith .lss (.t 21) (.t 20))])
  (.seq (.cond (.t 22) .skip (.exit 0))
  (.seq (.block 1 (.seq (.reg false [opI 23 (.iadrS 6 (.t 19) (.t 21)),opI 24 (.load 6 true (.t 23)),opI 4 (.init 6 true (.t 24) true)])
  (.seq (.seq (.reg false [opI 25 (.fadr 1 (.t 4)),opI 26 (.load 5 true (.t 25)),opI 27 (.callf f_pattern_Check [(.t 26),(.c (.p (.bool false)))]),mvI 5 (.t 27)])
  (.seq (.reg false [mvI 28 (.t 5),opI 29 (.arith .neq (.t 28) (kI 0))])
  (.cond (.t 29) (.seq (.reg false [mvI 30 (.t 5),mvI 2 (.t 30)])
  .ret) .skip)))
  (.seq (.seq (.reg false [opI 31 (.fadr 1 (.t 4)),opI 32 (.load 5 true (.t 31)),opI 33 (.callf f_pattern_Generic [(.t 32)])])
  (.cond (.t 33) (.seq (.reg false [mvI 2 (kI 3)])
  .ret) .skip))
  (.seq (.reg false [opI 34 (.fadr 0 (.t 4)),opI 35 (.load 1 false (.t 34)),opI 36 (.arith .neq (.t 35) (.c (.p (.str (bs []))))),mvI 37 (.t 36),⟨some 38,.fadr 0 (.t 4),some (37,true)⟩,⟨some 39,.load 1 false (.t 38),some (37,true)⟩,⟨some 40,.callf f_term_Name [(.t 39)],some (37,true)⟩,⟨some 41,.not (.t 40),some (37,true)⟩,opI 42 (.pick (.t 37) (.t 41) (.c (.p (.bool false))))])
  (.cond (.t 42) (.seq (.reg false [mvI 2 (kI 5)])
  .ret) .skip))))))
  (.reg false [opI 43 (.arith .add (.t 21) (kI 1)),mvI 21 (.t 43)]))))
def L0_program_CheckAtoms:K:=.loop [0,19,20,21] B0_program_CheckAtoms
def B1_program_CheckAtoms:K :=
  (.seq (.reg false [opI 49 (.arith .lss (.t 48) (.t 47))])
  (.seq (.cond (.t 49) .skip (.exit 2))
  (.seq (.block 3 (.seq (.reg false [opI 50 (.iadrS 3 (.t 46) (.t 48)),opI 51 (.load 3 true (.t 50)),opI 8 (.init 3 true (.t 51) true)])
  (.seq (.reg false [mvI 53 (.t 6),opI 54 (.fadr 0 (.t 8)),opI 55 (.fadr 0 (.t 54)),opI 56 (.load 1 false (.t 55)),opI 57 (.lookup .str (.p (.agg [(.str (bs [])),(.int .i64 0),(.int .i64 0)])) (.t 53) (.t 56) true),mvI 52 (.t 57),opI 58 (.extract (.t 52) 0),opI 59 (.extract (.t 52) 1),opI 9 (.init 3 true (.t 58) true),mvI 10 (.t 59)])
  (.seq (.seq (.reg false [mvI 60 (.t 10),mvI 61 (.t 60),⟨some 62,.load 3 true (.t 9),some (61,true)⟩,⟨some 63,.load 3 true (.t 8),some (61,true)⟩,⟨some 64,.eqA true [.str,.int,.int] (.t 62) (.t 63),some (61,true)⟩,opI 65 (.pick (.t 61) (.t 64) (.c (.p (.bool false))))])
  (.cond (.t 65) (.seq (.reg false [mvI 2 (kI 12)])
  .ret) .skip))
  (.reg false [mvI 66 (.t 6),opI 67 (.fadr 0 (.t 8)),opI 68 (.fadr 0 (.t 67)),opI 69 (.load 1 false (.t 68)),opI 70 (.load 3 true (.t 8)),⟨none,.mupd .str (.t 66) (.t 69) (.t 70),none⟩])))))
  (.reg false [opI 71 (.arith .add (.t 48) (kI 1)),mvI 48 (.t 71)]))))
def L1_program_CheckAtoms:K:=.loop [6,46,47,48] B1_program_CheckAtoms
def F_program_CheckAtoms:AFn:=⟨75,[.tmp 2],
  (.seq (.reg false [mvI 2 (kI 0)])
  (.seq (.seq (.reg false [mvI 11 (.t 0),opI 12 (.lenS (.t 11)),opI 13 (.arith .lss (.t 12) (kI 1)),mvI 14 (.t 13),⟨some 15,.mv (.t 0) false,some (14,false)⟩,⟨some 16,.lenS (.t 15),some (14,false)⟩,⟨some 17,.arith .gtr (.t 16) (kI 4),some (14,false)⟩,opI 18 (.pick (.t 14) (.c (.p (.bool true))) (.t 17))])
  (.cond (.t 18) (.seq (.reg false [mvI 2 (kI 7)])
  .ret) .skip))
  (.seq (.seq (.reg false [mvI 19 (.t 0),opI 20 (.lenS (.t 19)),mvI 21 (kI 0)])
  (.block 0 L0_program_CheckAtoms))
  (.seq (.reg false [opI 44 (.mkmap),mvI 6 (.t 44)])
  (.seq (.seq (.reg false [mvI 45 (.t 0),opI 46 (.callf f_program_mentions [(.t 45)]),opI 47 (.lenS (.t 46)),mvI 48 (kI 0)])
  (.block 2 L1_program_CheckAtoms))
  (.seq (.seq (.reg false [mvI 72 (.t 6),opI 73 (.lenM (.t 72)),opI 74 (.arith .gtr (.t 73) (kI 16))])
  (.cond (.t 74) (.seq (.reg false [mvI 2 (kI 7)])
  .ret) .skip))
  (.seq (.reg false [mvI 2 (kI 0)])
  .ret))))))),false⟩
def B0_r25_CheckAtoms:K :=
  (.seq (.seq (.reg false [mvI 16 (.t 3),mvI 17 (.t 0),opI 18 (.lenS (.t 17)),opI 19 (.arith .lss (.t 16) (.t 18))])
  (.cond (.t 19) .skip (.exit 0)))
  (.seq (.block 1 (.seq (.reg false [mvI 22 (.t 0),mvI 23 (.t 3),opI 24 (.iadrS 6 (.t 22) (.t 23)),opI 25 (.fadr 1 (.t 24)),opI 26 (.load 5 true (.t 25)),opI 27 (.callf f_r24_Check [(.t 26),(.c (.p (.bool false)))]),mvI 4 (.t 27)])
  (.block 2 (.seq (.reg false [mvI 29 (.t 4),opI 30 (.arith .neq (.t 29) (kI 0)),mvI 28 (.t 30)])
  (.cond (.t 28) (.seq (.reg false [mvI 31 (.t 4),mvI 2 (.t 31)])
  .ret) (.seq (.reg false [mvI 33 (.t 0),mvI 34 (.t 3),opI 35 (.iadrS 6 (.t 33) (.t 34)),opI 36 (.fadr 1 (.t 35)),opI 37 (.load 5 true (.t 36)),opI 38 (.callf f_r24_Generic [(.t 37)]),mvI 32 (.t 38)])
  (.cond (.t 32) (.seq (.reg false [mvI 2 (kI 3)])
  .ret) (.seq (.reg false [mvI 40 (.t 0),mvI 41 (.t 3),opI 42 (.iadrS 6 (.t 40) (.t 41)),opI 43 (.fadr 0 (.t 42)),opI 44 (.load 1 false (.t 43)),opI 45 (.arith .neq (.t 44) (.c (.p (.str (bs []))))),mvI 46 (.t 45),⟨some 47,.mv (.t 0) false,some (46,true)⟩,⟨some 48,.mv (.t 3) false,some (46,true)⟩,⟨some 49,.iadrS 6 (.t 47) (.t 48),some (46,true)⟩,⟨some 50,.fadr 0 (.t 49),some (46,true)⟩,⟨some 51,.load 1 false (.t 50),some (46,true)⟩,⟨some 52,.callf f_r06_Name [(.t 51)],some (46,true)⟩,⟨some 53,.not (.t 52),some (46,true)⟩,opI 54 (.pick (.t 46) (.t 53) (.c (.p (.bool false)))),mvI 39 (.t 54)])
  (.cond (.t 39) (.seq (.reg false [mvI 2 (kI 5)])
  .ret) .skip)))))))))
  (.reg false [mvI 20 (.t 3),opI 21 (.arith .add (.t 20) (kI 1)),mvI 3 (.t 21)])))
def L0_r25_CheckAtoms:K:=.loop [0,3] B0_r25_CheckAtoms
def B2_r25_CheckAtoms:K :=
  (.seq (.seq (.reg false [mvI 63 (.t 7),mvI 64 (.t 6),opI 65 (.arith .lss (.t 63) (.t 64))])
  (.cond (.t 65) .skip (.exit 5)))
  (.seq (.block 6 (.seq (.reg true [mvI 68 (.t 5),mvI 69 (.t 6),opI 70 (.iadrS 3 (.t 68) (.t 69)),opI 71 (.fadr 0 (.t 70)),opI 72 (.load 1 false (.t 71)),mvI 73 (.t 5),mvI 74 (.t 7),opI 75 (.iadrS 3 (.t 73) (.t 74)),opI 76 (.fadr 0 (.t 75)),opI 77 (.load 1 false (.t 76)),opI 78 (.arith .eql (.t 72) (.t 77)),mvI 79 (.t 78),⟨some 80,.mv (.t 5) false,some (79,true)⟩,⟨some 81,.mv (.t 6) false,some (79,true)⟩,⟨some 82,.iadrS 3 (.t 80) (.t 81),some (79,true)⟩,⟨some 83,.load 3 true (.t 82),some (79,true)⟩,⟨some 84,.mv (.t 5) false,some (79,true)⟩,⟨some 85,.mv (.t 7) false,some (79,true)⟩,⟨some 86,.iadrS 3 (.t 84) (.t 85),some (79,true)⟩,⟨some 87,.load 3 true (.t 86),some (79,true)⟩,⟨some 88,.eqA true [.str,.int,.int] (.t 83) (.t 87),some (79,true)⟩,opI 89 (.pick (.t 79) (.t 88) (.c (.p (.bool false))))])
  (.cond (.t 89) (.seq (.reg false [mvI 2 (kI 12)])
  .ret) .skip)))
  (.reg false [mvI 66 (.t 7),opI 67 (.arith .add (.t 66) (kI 1)),mvI 7 (.t 67)])))
def L2_r25_CheckAtoms:K:=.loop [5,6,7] B2_r25_CheckAtoms
def B1_r25_CheckAtoms:K :=
  (.seq (.seq (.reg false [mvI 57 (.t 6),mvI 58 (.t 5),opI 59 (.lenS (.t 58)),opI 60 (.arith .lss (.t 57) (.t 59))])
  (.cond (.t 60) .skip (.exit 3)))
  (.seq (.block 4 (.seq (.reg false [mvI 7 (kI 0)])
  (.block 5 L2_r25_CheckAtoms)))
  (.reg false [mvI 61 (.t 6),opI 62 (.arith .add (.t 61) (kI 1)),mvI 6 (.t 62)])))
def L1_r25_CheckAtoms:K:=.loop [5,6] B1_r25_CheckAtoms
def F_r25_CheckAtoms:AFn:=⟨98,[.tmp 2],
  (.seq (.reg false [mvI 2 (kI 0)])
  (.seq (.seq (.reg false [mvI 8 (.t 0),opI 9 (.lenS (.t 8)),opI 10 (.arith .lss (.t 9) (kI 1)),mvI 11 (.t 10),⟨some 12,.mv (.t 0) false,some (11,false)⟩,⟨some 13,.lenS (.t 12),some (11,false)⟩,⟨some 14,.arith .gtr (.t 13) (kI 4),some (11,false)⟩,opI 15 (.pick (.t 11) (.c (.p (.bool true))) (.t 14))])
  (.cond (.t 15) (.seq (.reg false [mvI 2 (kI 7)])
  .ret) .skip))
  (.seq (.seq (.reg false [mvI 3 (kI 0)])
  (.block 0 L0_r25_CheckAtoms))
  (.seq (.reg false [mvI 55 (.t 0),opI 56 (.callf f_r25_all [(.t 55)]),mvI 5 (.t 56)])
  (.seq (.seq (.reg false [mvI 6 (kI 0)])
  (.block 3 L1_r25_CheckAtoms))
  (.seq (.seq (.reg false [mvI 90 (.t 5),opI 91 (.callf f_r25_names [(.t 90),(kI 24)]),opI 92 (.lenS (.t 91)),mvI 93 (.t 5),opI 94 (.callf f_r25_names [(.t 93),(kI 25)]),opI 95 (.lenS (.t 94)),opI 96 (.arith .add (.t 92) (.t 95)),opI 97 (.arith .gtr (.t 96) (kI 16))])
  (.cond (.t 97) (.seq (.reg false [mvI 2 (kI 7)])
  .ret) .skip))
  (.seq (.reg false [mvI 2 (kI 0)])
  .ret))))))),false⟩
def B0_r06_SameVars:K :=
  (.seq (.seq (.reg false [mvI 11 (.t 5),mvI 12 (.t 0),opI 13 (.lenS (.t 12)),opI 14 (.arith .lss (.t 11) (.t 13))])
  (.cond (.t 14) .skip (.exit 0)))
  (.seq (.block 1 (.seq (.reg true [mvI 17 (.t 0),mvI 18 (.t 5),opI 19 (.iadrS 2 (.t 17) (.t 18)),opI 20 (.load 2 true (.t 19)),mvI 21 (.t 1),mvI 22 (.t 5),opI 23 (.iadrS 2 (.t 21) (.t 22)),opI 24 (.load 2 true (.t 23)),opI 25 (.eqA true [.str,.int] (.t 20) (.t 24))])
  (.cond (.t 25) (.seq (.reg false [mvI 4 (.c (.p (.bool false)))])
  .ret) .skip)))
  (.reg false [mvI 15 (.t 5),opI 16 (.arith .add (.t 15) (kI 1)),mvI 5 (.t 16)])))
def L0_r06_SameVars:K:=.loop [0,1,5] B0_r06_SameVars
def F_r06_SameVars:AFn:=⟨26,[.tmp 4],
  (.seq (.reg false [mvI 4 (.c (.p (.bool false)))])
  (.seq (.seq (.reg false [mvI 6 (.t 0),opI 7 (.lenS (.t 6)),mvI 8 (.t 1),opI 9 (.lenS (.t 8)),opI 10 (.arith .neq (.t 7) (.t 9))])
  (.cond (.t 10) (.seq (.reg false [mvI 4 (.c (.p (.bool false)))])
  .ret) .skip))
  (.seq (.seq (.reg false [mvI 5 (kI 0)])
  (.block 0 L0_r06_SameVars))
  (.seq (.reg false [mvI 4 (.c (.p (.bool true)))])
  .ret)))),false⟩
def B0_program_Compile:K :=
  (.seq (.reg false [opI 29 (.arith .lss (.t 28) (.t 27))])
  (.seq (.cond (.t 29) .skip (.exit 0))
  (.seq (.block 1 (.seq (.reg false [opI 30 (.iadrS 6 (.t 26) (.t 28)),opI 31 (.load 6 true (.t 30)),opI 7 (.init 6 true (.t 31) true)])
  (.seq (.reg false [mvI 32 (.t 5),opI 33 (.callf f_program_compiler_register [(.t 32)]),mvI 8 (.t 33)])
  (.seq (.reg false [mvI 34 (.t 5),mvI 35 (.t 8),opI 36 (.callf f_program_compiler_emit [(.t 34),(kI 1),(.t 35),(kI 0)])])
  (.seq (.seq (.reg false [opI 37 (.fadr 0 (.t 7)),opI 38 (.load 1 false (.t 37)),opI 39 (.arith .neq (.t 38) (.c (.p (.str (bs [])))))])
  (.cond (.t 39) (.reg false [mvI 40 (.t 5),opI 41 (.fadr 0 (.t 7)),opI 42 (.load 1 false (.t 41)),opI 43 (.fadr 1 (.t 7)),opI 44 (.fadr 1 (.t 43)),opI 45 (.load 1 false (.t 44)),mvI 46 (.t 8),opI 47 (.callf f_program_compiler_hole [(.t 40),(.t 42),(.t 45),(.t 46),(.c (.p (.bool false)))])]) .skip))
  (.seq (.reg false [mvI 48 (.t 5),opI 49 (.fadr 1 (.t 7)),opI 50 (.load 5 true (.t 49)),mvI 51 (.t 8),opI 52 (.fadr 0 (.t 7)),opI 53 (.load 1 false (.t 52)),opI 54 (.arith .neq (.t 53) (.c (.p (.str (bs []))))),opI 55 (.callf f_program_compiler_pattern [(.t 48),(.t 50),(.t 51),(.t 54)])])
  (.reg false [mvI 56 (.t 5),mvI 57 (.t 5),opI 58 (.nilchk (.t 57)),opI 59 (.fadr 0 (.t 58)),opI 60 (.fadr 2 (.t 59)),opI 61 (.load 1 false (.t 60)),mvI 62 (.t 8),opI 63 (.bslice 1 [(.p (.int .i64 0))] 1 [(0,1,(.t 62))]),opI 64 (.append 1 8 (.t 61) (.t 63)),opI 65 (.nilchk (.t 56)),opI 66 (.fadr 0 (.t 65)),opI 67 (.fadr 2 (.t 66)),⟨none,.store 1 (.t 67) (.t 64),none⟩])))))))
  (.reg false [opI 68 (.arith .add (.t 28) (kI 1)),mvI 28 (.t 68)]))))
def L0_program_Compile:K:=.loop [0,2,5,26,27,28] B0_program_Compile
def B1_program_Compile:K :=
  (.seq (.reg false [opI 77 (.arith .lss (.t 76) (.t 75))])
  (.seq (.cond (.t 77) .skip (.exit 2))
  (.seq (.block 3 (.seq (.reg false [opI 78 (.iadrS 2 (.t 74) (.t 76)),opI 79 (.load 2 true (.t 78)),opI 12 (.init 2 true (.t 79) true)])
  (.reg true [mvI 80 (.t 5),mvI 81 (.t 5),opI 82 (.nilchk (.t 81)),opI 83 (.fadr 0 (.t 82)),opI 84 (.fadr 3 (.t 83)),opI 85 (.load 1 false (.t 84)),opI 86 (.fadr 0 (.t 12)),opI 87 (.load 1 false (.t 86)),mvI 88 (.t 5),opI 89 (.nilchk (.t 88)),opI 90 (.fadr 5 (.t 89)),opI 91 (.load 1 false (.t 90)),opI 92 (.fadr 0 (.t 12)),opI 93 (.load 1 false (.t 92)),opI 94 (.lookup .str (.p (.int .i64 0)) (.t 91) (.t 93) false),opI 95 (.build [(.p (.str (bs []))),(.p (.int .i64 0))] [(0,1,(.t 87)),(1,1,(.t 94))]),opI 96 (.bslice 2 [(.p (.str (bs []))),(.p (.int .i64 0))] 1 [(0,2,(.t 95))]),opI 97 (.append 2 24 (.t 85) (.t 96)),opI 98 (.nilchk (.t 80)),opI 99 (.fadr 0 (.t 98)),opI 100 (.fadr 3 (.t 99)),⟨none,.store 1 (.t 100) (.t 97),none⟩])))
  (.reg false [opI 101 (.arith .add (.t 76) (kI 1)),mvI 76 (.t 101)]))))
def L1_program_Compile:K:=.loop [2,5,10,74,75,76] B1_program_Compile
def B2_program_Compile:K :=
  (.seq (.reg false [opI 105 (.arith .lss (.t 104) (.t 103))])
  (.seq (.cond (.t 105) .skip (.exit 4))
  (.seq (.block 5 (.seq (.reg false [opI 106 (.iadrS 2 (.t 102) (.t 104)),opI 107 (.load 2 true (.t 106)),opI 14 (.init 2 true (.t 107) true)])
  (.reg true [mvI 108 (.t 5),mvI 109 (.t 5),opI 110 (.nilchk (.t 109)),opI 111 (.fadr 0 (.t 110)),opI 112 (.fadr 4 (.t 111)),opI 113 (.load 1 false (.t 112)),opI 114 (.fadr 0 (.t 14)),opI 115 (.load 1 false (.t 114)),mvI 116 (.t 5),opI 117 (.nilchk (.t 116)),opI 118 (.fadr 7 (.t 117)),opI 119 (.load 1 false (.t 118)),opI 120 (.fadr 0 (.t 14)),opI 121 (.load 1 false (.t 120)),opI 122 (.lookup .str (.p (.int .i64 0)) (.t 119) (.t 121) false),opI 123 (.build [(.p (.str (bs []))),(.p (.int .i64 0))] [(0,1,(.t 115)),(1,1,(.t 122))]),opI 124 (.bslice 2 [(.p (.str (bs []))),(.p (.int .i64 0))] 1 [(0,2,(.t 123))]),opI 125 (.append 2 24 (.t 113) (.t 124)),opI 126 (.nilchk (.t 108)),opI 127 (.fadr 0 (.t 126)),opI 128 (.fadr 4 (.t 127)),⟨none,.store 1 (.t 128) (.t 125),none⟩])))
  (.reg false [opI 129 (.arith .add (.t 104) (kI 1)),mvI 104 (.t 129)]))))
def L2_program_Compile:K:=.loop [2,5,102,103,104] B2_program_Compile
def F_program_Compile:AFn:=⟨134,[.cell 2 5 true,.tmp 3],
  (.seq (.reg false [opI 2 (.alloc [.nils,(.p (.int .i64 0)),.nils,.nils,.nils] 5),mvI 3 (kI 0)])
  (.seq (.seq (.reg false [mvI 15 (.t 0),opI 16 (.callf f_program_CheckAtoms [(.t 15)]),mvI 4 (.t 16)])
  (.seq (.reg false [mvI 17 (.t 4),opI 18 (.arith .neq (.t 17) (kI 0))])
  (.cond (.t 18) (.seq (.reg false [opI 19 (.build [.nils,(.p (.int .i64 0)),.nils,.nils,.nils] []),mvI 20 (.t 4),⟨none,.store 5 (.t 2) (.t 19),none⟩,mvI 3 (.t 20)])
  .ret) .skip)))
  (.seq (.reg false [opI 21 (.mkmap),opI 22 (.mkmap),opI 23 (.mkmap),opI 24 (.build [.nils,(.p (.int .i64 0)),.nils,.nils,.nils,(.p .nilm),(.p .nilm),(.p .nilm)] [(5,1,(.t 21)),(6,1,(.t 22)),(7,1,(.t 23))]),opI 25 (.box 8 true (.t 24) false),mvI 5 (.t 25)])
  (.seq (.seq (.reg false [mvI 26 (.t 0),opI 27 (.lenS (.t 26)),mvI 28 (kI 0)])
  (.block 0 L0_program_Compile))
  (.seq (.reg false [mvI 70 (.t 0),opI 71 (.callf f_program_Names [(.t 70)]),mvI 69 (.t 71),opI 72 (.extract (.t 69) 0),opI 73 (.extract (.t 69) 1),mvI 9 (.t 72),mvI 10 (.t 73)])
  (.seq (.seq (.reg false [mvI 74 (.t 9),opI 75 (.lenS (.t 74)),mvI 76 (kI 0)])
  (.block 2 L1_program_Compile))
  (.seq (.seq (.reg false [mvI 102 (.t 10),opI 103 (.lenS (.t 102)),mvI 104 (kI 0)])
  (.block 4 L2_program_Compile))
  (.seq (.reg false [mvI 130 (.t 5),opI 131 (.nilchk (.t 130)),opI 132 (.fadr 0 (.t 131)),opI 133 (.load 5 true (.t 132)),⟨none,.store 5 (.t 2) (.t 133),none⟩,mvI 3 (kI 0)])
  .ret)))))))),false⟩
def B0_program_Check:K :=
  (.seq (.reg false [opI 32 (.arith .lss (.t 31) (.t 30))])
  (.seq (.cond (.t 32) .skip (.exit 0))
  (.seq (.block 1 (.seq (.reg false [opI 33 (.iadrS 14 (.t 29) (.t 31)),opI 34 (.load 14 true (.t 33)),opI 5 (.init 14 true (.t 34) true)])
  (.seq (.reg false [mvI 35 (.t 3),opI 36 (.load 14 true (.t 5)),opI 37 (.callf f_program_checker_instruction [(.t 35),(.t 36)]),opI 38 (.not (.t 37))])
  (.cond (.t 38) (.seq (.reg false [mvI 2 (kI 19)])
  .ret) .skip))))
  (.reg false [opI 39 (.arith .add (.t 31) (kI 1)),mvI 31 (.t 39)]))))
def L0_program_Check:K:=.loop [1,3,29,30,31] B0_program_Check
def B1_program_Check:K :=
  (.seq (.reg false [opI 44 (.arith .lss (.t 43) (.t 42))])
  (.seq (.cond (.t 44) .skip (.exit 2))
  (.seq (.block 3 (.seq (.reg false [opI 45 (.iadrS 1 (.t 41) (.t 43)),opI 46 (.load 1 false (.t 45)),mvI 7 (.t 46)])
  (.seq (.reg false [mvI 47 (.t 3),opI 48 (.nilchk (.t 47)),opI 49 (.fadr 0 (.t 48)),opI 50 (.load 1 false (.t 49)),mvI 51 (.t 7),opI 52 (.lookup .int (.p (.bool false)) (.t 50) (.t 51) false),opI 53 (.not (.t 52))])
  (.cond (.t 53) (.seq (.reg false [mvI 2 (kI 19)])
  .ret) .skip))))
  (.reg false [opI 54 (.arith .add (.t 43) (kI 1)),mvI 43 (.t 54)]))))
def L1_program_Check:K:=.loop [1,3,41,42,43] B1_program_Check
def F_program_Check:AFn:=⟨95,[.tmp 2],
  (.seq (.reg false [opI 1 (.box 5 true (.t 0) true),mvI 2 (kI 0)])
  (.seq (.seq (.reg false [opI 8 (.fadr 1 (.t 1)),opI 9 (.load 1 false (.t 8)),opI 10 (.arith .lss (.t 9) (kI 0)),mvI 11 (.t 10),⟨some 12,.fadr 1 (.t 1),some (11,false)⟩,⟨some 13,.load 1 false (.t 12),some (11,false)⟩,⟨some 14,.arith .gtr (.t 13) (kI 4096),some (11,false)⟩,opI 15 (.pick (.t 11) (.c (.p (.bool true))) (.t 14)),mvI 16 (.t 15),⟨some 17,.fadr 0 (.t 1),some (16,false)⟩,⟨some 18,.load 1 false (.t 17),some (16,false)⟩,⟨some 19,.lenS (.t 18),some (16,false)⟩,⟨some 20,.arith .gtr (.t 19) (kI 8192),some (16,false)⟩,opI 21 (.pick (.t 16) (.c (.p (.bool true))) (.t 20))])
  (.cond (.t 21) (.seq (.reg false [mvI 2 (kI 19)])
  .ret) .skip))
  (.seq (.reg false [opI 22 (.mkmap),opI 23 (.mkmap),opI 24 (.fadr 1 (.t 1)),opI 25 (.load 1 false (.t 24)),opI 26 (.build [(.p .nilm),(.p .nilm),(.p (.int .i64 0))] [(0,1,(.t 22)),(1,1,(.t 23)),(2,1,(.t 25))]),opI 27 (.box 3 true (.t 26) false),mvI 3 (.t 27)])
  (.seq (.seq (.reg false [opI 28 (.fadr 0 (.t 1)),opI 29 (.load 1 false (.t 28)),opI 30 (.lenS (.t 29)),mvI 31 (kI 0)])
  (.block 0 L0_program_Check))
  (.seq (.seq (.reg false [opI 40 (.fadr 2 (.t 1)),opI 41 (.load 1 false (.t 40)),opI 42 (.lenS (.t 41)),mvI 43 (kI 0)])
  (.block 2 L1_program_Check))
  (.seq (.seq (.reg true [opI 55 (.fadr 2 (.t 1)),opI 56 (.load 1 false (.t 55)),opI 57 (.lenS (.t 56)),opI 58 (.arith .lss (.t 57) (kI 1)),mvI 59 (.t 58),⟨some 60,.fadr 2 (.t 1),some (59,false)⟩,⟨some 61,.load 1 false (.t 60),some (59,false)⟩,⟨some 62,.lenS (.t 61),some (59,false)⟩,⟨some 63,.arith .gtr (.t 62) (kI 4),some (59,false)⟩,opI 64 (.pick (.t 59) (.c (.p (.bool true))) (.t 63)),mvI 65 (.t 64),⟨some 66,.fadr 3 (.t 1),some (65,false)⟩,⟨some 67,.load 1 false (.t 66),some (65,false)⟩,⟨some 68,.lenS (.t 67),some (65,false)⟩,⟨some 69,.fadr 4 (.t 1),some (65,false)⟩,⟨some 70,.load 1 false (.t 69),some (65,false)⟩,⟨some 71,.lenS (.t 70),some (65,false)⟩,⟨some 72,.arith .add (.t 68) (.t 71),some (65,false)⟩,⟨some 73,.arith .gtr (.t 72) (kI 16),some (65,false)⟩,opI 74 (.pick (.t 65) (.c (.p (.bool true))) (.t 73)),mvI 75 (.t 74),⟨some 76,.fadr 3 (.t 1),some (75,false)⟩,⟨some 77,.load 1 false (.t 76),some (75,false)⟩,⟨some 78,.mv (.t 3) false,some (75,false)⟩,⟨some 79,.nilchk (.t 78),some (75,false)⟩,⟨some 80,.fadr 0 (.t 79),some (75,false)⟩,⟨some 81,.load 1 false (.t 80),some (75,false)⟩,⟨some 82,.callf f_program_slots [(.t 77),(.t 81)],some (75,false)⟩,⟨some 83,.not (.t 82),some (75,false)⟩,opI 84 (.pick (.t 75) (.c (.p (.bool true))) (.t 83)),mvI 85 (.t 84),⟨some 86,.fadr 4 (.t 1),some (85,false)⟩,⟨some 87,.load 1 false (.t 86),some (85,false)⟩,⟨some 88,.mv (.t 3) false,some (85,false)⟩,⟨some 89,.nilchk (.t 88),some (85,false)⟩,⟨some 90,.fadr 1 (.t 89),some (85,false)⟩,⟨some 91,.load 1 false (.t 90),some (85,false)⟩,⟨some 92,.callf f_program_slots [(.t 87),(.t 91)],some (85,false)⟩,⟨some 93,.not (.t 92),some (85,false)⟩,opI 94 (.pick (.t 85) (.c (.p (.bool true))) (.t 93))])
  (.cond (.t 94) (.seq (.reg false [mvI 2 (kI 19)])
  .ret) .skip))
  (.seq (.reg false [mvI 2 (kI 0)])
  .ret))))))),false⟩
def F_r06_Light:AFn:=⟨15,[.cell 6 5 true,.tmp 7],
  (.seq (.reg false [opI 3 (.box 5 true (.t 0) true),opI 6 (.alloc [(.p (.int .i64 0)),(.p (.int .i64 0)),(.p (.int .u64 0)),(.p (.str (bs []))),.nils] 5),mvI 7 (.c (.p (.bool false)))])
  (.seq (.seq (.reg false [opI 8 (.load 5 true (.t 3)),mvI 9 (.t 1),mvI 10 (.t 2),opI 11 (.callf f_r06_count [(.t 8),(.t 9),(.t 10)]),opI 12 (.arith .lss (.t 11) (kI 0))])
  (.cond (.t 12) (.seq (.reg false [opI 13 (.build [(.p (.int .i64 0)),(.p (.int .i64 0)),(.p (.int .u64 0)),(.p (.str (bs []))),.nils] []),⟨none,.store 5 (.t 6) (.t 13),none⟩,mvI 7 (.c (.p (.bool false)))])
  .ret) .skip))
  (.seq (.reg false [opI 14 (.load 5 true (.t 3)),⟨none,.store 5 (.t 6) (.t 14),none⟩,mvI 7 (.c (.p (.bool true)))])
  .ret))),false⟩
def F_law25_twice:AFn:=⟨7,[.tmp 0],
  (.seq (.reg false [mvI 0 (.c .nils)])
  (.seq (.reg false [opI 1 (.callf f_law25_hole [(.c (.p (.str (bs [97]))))]),opI 2 (.callf f_law25_hole [(.c (.p (.str (bs [97]))))]),opI 3 (.bslice 5 [(.p (.int .i64 0)),(.p (.int .i64 0)),(.p (.int .u64 0)),(.p (.str (bs []))),.nils] 2 [(0,5,(.t 1)),(1,5,(.t 2))]),opI 4 (.build [(.p (.int .i64 0)),(.p (.int .i64 0)),(.p (.int .u64 0)),(.p (.str (bs []))),.nils] [(0,1,(kI 8)),(1,1,(kI 8)),(4,1,(.t 3))]),opI 5 (.build [(.p (.str (bs []))),(.p (.int .i64 0)),(.p (.int .i64 0)),(.p (.int .u64 0)),(.p (.str (bs []))),.nils] [(1,5,(.t 4))]),opI 6 (.bslice 6 [(.p (.str (bs []))),(.p (.int .i64 0)),(.p (.int .i64 0)),(.p (.int .u64 0)),(.p (.str (bs []))),.nils] 1 [(0,6,(.t 5))]),mvI 0 (.t 6)])
  .ret)),false⟩
def B0_program_mentions:K :=
  (.seq (.reg false [opI 11 (.arith .lss (.t 10) (.t 9))])
  (.seq (.cond (.t 11) .skip (.exit 0))
  (.seq (.block 1 (.seq (.reg false [opI 12 (.iadrS 6 (.t 8) (.t 10)),opI 13 (.load 6 true (.t 12)),opI 6 (.init 6 true (.t 13) true)])
  (.seq (.seq (.reg false [opI 14 (.fadr 0 (.t 6)),opI 15 (.load 1 false (.t 14)),opI 16 (.arith .neq (.t 15) (.c (.p (.str (bs [])))))])
  (.cond (.t 16) (.reg false [opI 17 (.load 1 false (.t 3)),opI 18 (.fadr 0 (.t 6)),opI 19 (.load 1 false (.t 18)),opI 20 (.fadr 1 (.t 6)),opI 21 (.fadr 1 (.t 20)),opI 22 (.load 1 false (.t 21)),opI 23 (.build [(.p (.str (bs []))),(.p (.int .i64 0))] [(0,1,(.t 19)),(1,1,(.t 22))]),opI 24 (.build [(.p (.str (bs []))),(.p (.int .i64 0)),(.p (.int .i64 0))] [(0,2,(.t 23)),(2,1,(kI 0))]),opI 25 (.blist 3 [(.p (.str (bs []))),(.p (.int .i64 0)),(.p (.int .i64 0))] 1 [(0,3,(.t 24))]),opI 26 (.append 3 32 (.t 17) (.t 25)),⟨none,.store 1 (.t 3) (.t 26),none⟩]) .skip))
  (.reg false [opI 27 (.load 1 false (.t 4)),opI 28 (.fadr 1 (.t 6)),opI 29 (.load 5 true (.t 28)),opI 30 (.callv (.t 27) [(.t 29)])]))))
  (.reg false [opI 31 (.arith .add (.t 10) (kI 1)),mvI 10 (.t 31)]))))
def L0_program_mentions:K:=.loop [3,4,8,9,10] B0_program_mentions
def F_program_mentions:AFn:=⟨33,[.tmp 2],
  (.seq (.reg false [mvI 2 (.c .nils)])
  (.seq (.reg false [opI 3 (.alloc [.nils] 1)])
  (.seq (.reg false [opI 4 (.alloc [(.p .nilf)] 1)])
  (.seq (.reg false [opI 7 (.mkfn f_program_mentions_1 [(.t 3),(.t 4)]),⟨none,.store 1 (.t 4) (.t 7),none⟩])
  (.seq (.seq (.reg false [mvI 8 (.t 0),opI 9 (.lenS (.t 8)),mvI 10 (kI 0)])
  (.block 0 L0_program_mentions))
  (.seq (.reg false [opI 32 (.load 1 false (.t 3)),mvI 2 (.t 32)])
  .ret)))))),false⟩
def F_program_Names_1:AFn:=⟨10,[.tmp 3],
  (.seq (.reg false [opI 2 (.box 2 true (.t 0) true),mvI 3 (.c (.p (.bool false)))])
  (.seq (.reg false [opI 4 (.fadr 0 (.t 2)),opI 5 (.load 1 false (.t 4)),opI 6 (.fadr 0 (.t 1)),opI 7 (.fadr 0 (.t 6)),opI 8 (.load 1 false (.t 7)),opI 9 (.arith .eql (.t 5) (.t 8)),mvI 3 (.t 9)])
  .ret)),false⟩
def F_slices_ContainsFunc_api_Var_api_Var:AFn:=⟨9,[.tmp 4],
  (.seq (.reg false [mvI 4 (.c (.p (.bool false)))])
  (.seq (.reg false [mvI 5 (.t 0),mvI 6 (.t 1),opI 7 (.callf f_slices_IndexFunc_api_Var_api_Var [(.t 5),(.t 6)]),opI 8 (.arith .geq (.t 7) (kI 0)),mvI 4 (.t 8)])
  .ret)),false⟩
def F_program_Names_2:AFn:=⟨10,[.tmp 4],
  (.seq (.reg false [opI 2 (.box 2 true (.t 0) true),opI 3 (.box 2 true (.t 1) true),mvI 4 (kI 0)])
  (.seq (.reg false [opI 5 (.fadr 0 (.t 2)),opI 6 (.load 1 false (.t 5)),opI 7 (.fadr 0 (.t 3)),opI 8 (.load 1 false (.t 7)),opI 9 (.callf f_strings_Compare [(.t 6),(.t 8)]),mvI 4 (.t 9)])
  .ret)),false⟩
def F_strings_Compare:AFn:=⟨8,[.tmp 4],
  (.seq (.reg false [mvI 4 (kI 0)])
  (.seq (.reg false [mvI 5 (.t 0),mvI 6 (.t 1),opI 7 (.callf f_internal_bytealg_CompareString [(.t 5),(.t 6)]),mvI 4 (.t 7)])
  .ret)),false⟩
def B0_r25_all:K :=
  (.seq (.seq (.reg false [mvI 5 (.t 4),mvI 6 (.t 0),opI 7 (.lenS (.t 6)),opI 8 (.arith .lss (.t 5) (.t 7))])
  (.cond (.t 8) .skip (.exit 0)))
  (.seq (.block 1 (.reg false [mvI 11 (.t 3),mvI 12 (.t 0),mvI 13 (.t 4),opI 14 (.iadrS 6 (.t 12) (.t 13)),opI 15 (.load 6 true (.t 14)),opI 16 (.callf f_r25_uses [(.t 15)]),opI 17 (.append 3 32 (.t 11) (.t 16)),opI 3 (.mv (.t 17) true)]))
  (.reg false [mvI 9 (.t 4),opI 10 (.arith .add (.t 9) (kI 1)),mvI 4 (.t 10)])))
def L0_r25_all:K:=.loop [0,3,4] B0_r25_all
def F_r25_all:AFn:=⟨19,[.tmp 2],
  (.seq (.reg false [mvI 2 (.c .nils)])
  (.seq (.reg false [opI 3 (.mv (.c .nils) true)])
  (.seq (.seq (.reg false [mvI 4 (kI 0)])
  (.block 0 L0_r25_all))
  (.seq (.reg false [mvI 18 (.t 3),mvI 2 (.t 18)])
  .ret)))),false⟩
def B1_r25_names:K :=
  (.seq (.seq (.reg true [mvI 22 (.t 7),mvI 23 (.t 5),opI 24 (.lenS (.t 23)),opI 25 (.arith .lss (.t 22) (.t 24)),mvI 26 (.t 25),⟨some 27,.mv (.t 5) false,some (26,true)⟩,⟨some 28,.mv (.t 7) false,some (26,true)⟩,⟨some 29,.iadrS 2 (.t 27) (.t 28),some (26,true)⟩,⟨some 30,.fadr 0 (.t 29),some (26,true)⟩,⟨some 31,.load 1 false (.t 30),some (26,true)⟩,⟨some 32,.mv (.t 0) false,some (26,true)⟩,⟨some 33,.mv (.t 6) false,some (26,true)⟩,⟨some 34,.iadrS 3 (.t 32) (.t 33),some (26,true)⟩,⟨some 35,.fadr 0 (.t 34),some (26,true)⟩,⟨some 36,.load 1 false (.t 35),some (26,true)⟩,⟨some 37,.arith .lss (.t 31) (.t 36),some (26,true)⟩,opI 38 (.pick (.t 26) (.t 37) (.c (.p (.bool false))))])
  (.cond (.t 38) .skip (.exit 2)))
  (.block 3 (.reg false [mvI 39 (.t 7),opI 40 (.arith .add (.t 39) (kI 1)),mvI 7 (.t 40)])))
def L1_r25_names:K:=.loop [0,1,5,6,7] B1_r25_names
def B0_r25_names:K :=
  (.seq (.seq (.reg false [mvI 9 (.t 6),mvI 10 (.t 0),opI 11 (.lenS (.t 10)),opI 12 (.arith .lss (.t 9) (.t 11))])
  (.cond (.t 12) .skip (.exit 0)))
  (.seq (.block 1 (.seq (.seq (.reg false [mvI 15 (.t 0),mvI 16 (.t 6),opI 17 (.iadrS 3 (.t 15) (.t 16)),opI 18 (.fadr 1 (.t 17)),opI 19 (.load 1 false (.t 18)),mvI 20 (.t 1),opI 21 (.arith .neq (.t 19) (.t 20))])
  (.cond (.t 21) (.exit 1) .skip))
  (.seq (.reg false [mvI 7 (kI 0)])
  (.seq (.block 2 L1_r25_names)
  (.seq (.seq (.reg true [mvI 41 (.t 7),mvI 42 (.t 5),opI 43 (.lenS (.t 42)),opI 44 (.arith .lss (.t 41) (.t 43)),mvI 45 (.t 44),⟨some 46,.mv (.t 5) false,some (45,true)⟩,⟨some 47,.mv (.t 7) false,some (45,true)⟩,⟨some 48,.iadrS 2 (.t 46) (.t 47),some (45,true)⟩,⟨some 49,.fadr 0 (.t 48),some (45,true)⟩,⟨some 50,.load 1 false (.t 49),some (45,true)⟩,⟨some 51,.mv (.t 0) false,some (45,true)⟩,⟨some 52,.mv (.t 6) false,some (45,true)⟩,⟨some 53,.iadrS 3 (.t 51) (.t 52),some (45,true)⟩,⟨some 54,.fadr 0 (.t 53),some (45,true)⟩,⟨some 55,.load 1 false (.t 54),some (45,true)⟩,⟨some 56,.arith .eql (.t 50) (.t 55),some (45,true)⟩,opI 57 (.pick (.t 45) (.t 56) (.c (.p (.bool false))))])
  (.cond (.t 57) (.exit 1) .skip))
  (.seq (.reg false [opI 8 (.mv (.c .nils) true)])
  (.seq (.reg false [mvI 58 (.t 8),opI 59 (.frz (.t 5)),mvI 60 (.t 7),opI 61 (.slcS 2 (.t 59) none (some (.t 60)) none),opI 62 (.append 2 24 (.t 58) (.t 61)),opI 8 (.mv (.t 62) true)])
  (.seq (.reg true [mvI 63 (.t 8),mvI 64 (.t 0),mvI 65 (.t 6),opI 66 (.iadrS 3 (.t 64) (.t 65)),opI 67 (.fadr 0 (.t 66)),opI 68 (.load 1 false (.t 67)),mvI 69 (.t 0),mvI 70 (.t 6),opI 71 (.iadrS 3 (.t 69) (.t 70)),opI 72 (.fadr 2 (.t 71)),opI 73 (.load 1 false (.t 72)),opI 74 (.build [(.p (.str (bs []))),(.p (.int .i64 0))] [(0,1,(.t 68)),(1,1,(.t 73))]),opI 75 (.bslice 2 [(.p (.str (bs []))),(.p (.int .i64 0))] 1 [(0,2,(.t 74))]),opI 76 (.append 2 24 (.t 63) (.t 75)),opI 8 (.mv (.t 76) true)])
  (.reg false [mvI 77 (.t 8),opI 78 (.frz (.t 5)),mvI 79 (.t 7),opI 80 (.slcS 2 (.t 78) (some (.t 79)) none none),opI 81 (.append 2 24 (.t 77) (.t 80)),mvI 5 (.t 81)])))))))))
  (.reg false [mvI 13 (.t 6),opI 14 (.arith .add (.t 13) (kI 1)),mvI 6 (.t 14)])))
def L0_r25_names:K:=.loop [0,1,5,6] B0_r25_names
def F_r25_names:AFn:=⟨83,[.tmp 4],
  (.seq (.reg false [mvI 4 (.c .nils)])
  (.seq (.reg false [mvI 5 (.c .nils)])
  (.seq (.seq (.reg false [mvI 6 (kI 0)])
  (.block 0 L0_r25_names))
  (.seq (.reg false [mvI 82 (.t 5),mvI 4 (.t 82)])
  .ret)))),false⟩
def A0_pattern_Check:K :=
  (.reg false [opI 7 (.init 5 true (.t 27) true)])
def B0_pattern_Check:K :=
  (.block 1 (.seq (.seq (.reg false [opI 28 (.fadr 0 (.t 7)),opI 29 (.load 1 false (.t 28)),opI 30 (.callf f_pattern_variable [(.t 29)]),opI 31 (.not (.t 30))])
  (.cond (.t 31) (.exit 1) .skip))
  (.seq (.reg false [opI 33 (.load 1 false (.t 6)),opI 34 (.fadr 3 (.t 7)),opI 35 (.load 1 false (.t 34)),opI 36 (.lookup .str (.agg [(.p (.int .i64 0)),(.p (.int .i64 0)),(.p (.int .u64 0)),(.p (.str (bs []))),.nils]) (.t 33) (.t 35) true),mvI 32 (.t 36),opI 37 (.extract (.t 32) 0),opI 38 (.extract (.t 32) 1),opI 8 (.init 5 true (.t 37) true),mvI 9 (.t 38)])
  (.seq (.seq (.reg false [mvI 39 (.t 9),mvI 40 (.t 39),⟨some 41,.fadr 0 (.t 8),some (40,true)⟩,⟨some 42,.load 1 false (.t 41),some (40,true)⟩,⟨some 43,.fadr 0 (.t 7),some (40,true)⟩,⟨some 44,.load 1 false (.t 43),some (40,true)⟩,⟨some 45,.arith .neq (.t 42) (.t 44),some (40,true)⟩,⟨some 46,.mv (.t 45) false,some (40,true)⟩,⟨some 47,.fadr 1 (.t 8),some (46,false)⟩,⟨some 48,.load 1 false (.t 47),some (46,false)⟩,⟨some 49,.fadr 1 (.t 7),some (46,false)⟩,⟨some 50,.load 1 false (.t 49),some (46,false)⟩,⟨some 51,.arith .neq (.t 48) (.t 50),some (46,false)⟩,⟨some 52,.pick (.t 46) (.c (.p (.bool true))) (.t 51),some (40,true)⟩,opI 53 (.pick (.t 40) (.t 52) (.c (.p (.bool false))))])
  (.cond (.t 53) (.seq (.reg false [⟨none,.store 1 (.t 4) (kI 12),none⟩])
  .ret) .skip))
  (.reg false [opI 54 (.load 1 false (.t 6)),opI 55 (.fadr 3 (.t 7)),opI 56 (.load 1 false (.t 55)),opI 57 (.load 5 true (.t 7)),⟨none,.mupd .str (.t 54) (.t 56) (.t 57),none⟩])))))
def R0_pattern_Check:K:=.range (.t 26) [27] [4,6] A0_pattern_Check B0_pattern_Check
def F_pattern_Check:AFn:=⟨61,[.cell 4 1 false],
  (.seq (.reg false [opI 2 (.box 5 true (.t 0) true),opI 4 (.alloc [(.p (.int .i64 0))] 1)])
  (.seq (.seq (.reg false [opI 10 (.load 5 true (.t 2)),opI 11 (.callf f_term_Size [(.t 10)]),opI 12 (.arith .gtr (.t 11) (kI 4096)),mvI 13 (.t 12),⟨some 14,.load 5 true (.t 2),some (13,false)⟩,⟨some 15,.callf f_term_Depth [(.t 14)],some (13,false)⟩,⟨some 16,.arith .gtr (.t 15) (kI 64),some (13,false)⟩,opI 17 (.pick (.t 13) (.c (.p (.bool true))) (.t 16))])
  (.cond (.t 17) (.seq (.reg false [⟨none,.store 1 (.t 4) (kI 7),none⟩])
  .ret) .skip))
  (.seq (.seq (.reg false [opI 18 (.load 5 true (.t 2)),mvI 19 (.t 1),opI 20 (.callf f_pattern_nodes [(.t 18),(.t 19)]),mvI 5 (.t 20)])
  (.seq (.reg false [mvI 21 (.t 5),opI 22 (.arith .neq (.t 21) (kI 0))])
  (.cond (.t 22) (.seq (.reg false [mvI 23 (.t 5),⟨none,.store 1 (.t 4) (.t 23),none⟩])
  .ret) .skip)))
  (.seq (.reg false [opI 24 (.mkmap),opI 6 (.init 1 false (.t 24) true)])
  (.seq (.seq (.reg false [opI 25 (.load 5 true (.t 2)),opI 26 (.callf f_pattern_preorder [(.t 25)])])
  (.block 0 R0_pattern_Check))
  (.seq (.seq (.reg false [opI 58 (.load 1 false (.t 6)),opI 59 (.lenM (.t 58)),opI 60 (.arith .gtr (.t 59) (kI 16))])
  (.cond (.t 60) (.seq (.reg false [⟨none,.store 1 (.t 4) (kI 7),none⟩])
  .ret) .skip))
  (.seq (.reg false [⟨none,.store 1 (.t 4) (kI 0),none⟩])
  .ret))))))),false⟩
def A0_pattern_Generic:K :=
  (.reg false [opI 3 (.init 5 true (.t 6) true)])
def B0_pattern_Generic:K :=
  (.block 1 (.seq (.reg false [opI 7 (.fadr 1 (.t 3)),opI 8 (.load 1 false (.t 7)),opI 9 (.arith .eql (.t 8) (kI 0))])
  (.cond (.t 9) (.seq (.reg false [⟨none,.store 1 (.t 2) (.c (.p (.bool true))),none⟩])
  .ret) .skip)))
def R0_pattern_Generic:K:=.range (.t 5) [6] [2] A0_pattern_Generic B0_pattern_Generic
def F_pattern_Generic:AFn:=⟨10,[.cell 2 1 false],
  (.seq (.reg false [opI 1 (.box 5 true (.t 0) true),opI 2 (.alloc [(.p (.bool false))] 1)])
  (.seq (.seq (.reg false [opI 4 (.load 5 true (.t 1)),opI 5 (.callf f_pattern_preorder [(.t 4)])])
  (.block 0 R0_pattern_Generic))
  (.seq (.reg false [⟨none,.store 1 (.t 2) (.c (.p (.bool false))),none⟩])
  .ret))),false⟩
def B0_term_Name:K :=
  (.seq (.reg false [opI 26 (.arith .lss (.t 25) (.t 24))])
  (.seq (.cond (.t 26) .skip (.exit 0))
  (.seq (.block 1 (.seq (.reg false [mvI 27 (.t 25),mvI 3 (.t 27)])
  (.seq (.reg false [mvI 28 (.t 0),mvI 29 (.t 3),opI 30 (.idxS (.t 28) (.t 29)),mvI 4 (.t 30)])
  (.seq (.reg false [mvI 31 (.t 4),opI 32 (.arith .lss (.t 31) (.c (.p (.int .u8 97)))),mvI 33 (.t 32),⟨some 34,.mv (.t 4) false,some (33,false)⟩,⟨some 35,.arith .gtr (.t 34) (.c (.p (.int .u8 122))),some (33,false)⟩,opI 36 (.pick (.t 33) (.c (.p (.bool true))) (.t 35)),mvI 37 (.t 36),⟨some 38,.mv (.t 4) false,some (37,true)⟩,⟨some 39,.arith .lss (.t 38) (.c (.p (.int .u8 48))),some (37,true)⟩,⟨some 40,.mv (.t 39) false,some (37,true)⟩,⟨some 41,.mv (.t 4) false,some (40,false)⟩,⟨some 42,.arith .gtr (.t 41) (.c (.p (.int .u8 57))),some (40,false)⟩,⟨some 43,.pick (.t 40) (.c (.p (.bool true))) (.t 42),some (37,true)⟩,opI 44 (.pick (.t 37) (.t 43) (.c (.p (.bool false)))),mvI 45 (.t 44),⟨some 46,.mv (.t 4) false,some (45,true)⟩,⟨some 47,.arith .neq (.t 46) (.c (.p (.int .u8 95))),some (45,true)⟩,opI 48 (.pick (.t 45) (.t 47) (.c (.p (.bool false))))])
  (.cond (.t 48) (.seq (.reg false [mvI 2 (.c (.p (.bool false)))])
  .ret) .skip)))))
  (.reg false [opI 49 (.arith .add (.t 25) (kI 1)),mvI 25 (.t 49)]))))
def L0_term_Name:K:=.loop [0,24,25] B0_term_Name
def F_term_Name:AFn:=⟨50,[.tmp 2],
  (.seq (.reg false [mvI 2 (.c (.p (.bool false)))])
  (.seq (.seq (.reg false [mvI 5 (.t 0),opI 6 (.lenT (.t 5)),opI 7 (.arith .lss (.t 6) (kI 1)),mvI 8 (.t 7),⟨some 9,.mv (.t 0) false,some (8,false)⟩,⟨some 10,.lenT (.t 9),some (8,false)⟩,⟨some 11,.arith .gtr (.t 10) (kI 16),some (8,false)⟩,opI 12 (.pick (.t 8) (.c (.p (.bool true))) (.t 11)),mvI 13 (.t 12),⟨some 14,.mv (.t 0) false,some (13,false)⟩,⟨some 15,.idxS (.t 14) (kI 0),some (13,false)⟩,⟨some 16,.arith .lss (.t 15) (.c (.p (.int .u8 97))),some (13,false)⟩,opI 17 (.pick (.t 13) (.c (.p (.bool true))) (.t 16)),mvI 18 (.t 17),⟨some 19,.mv (.t 0) false,some (18,false)⟩,⟨some 20,.idxS (.t 19) (kI 0),some (18,false)⟩,⟨some 21,.arith .gtr (.t 20) (.c (.p (.int .u8 122))),some (18,false)⟩,opI 22 (.pick (.t 18) (.c (.p (.bool true))) (.t 21))])
  (.cond (.t 22) (.seq (.reg false [mvI 2 (.c (.p (.bool false)))])
  .ret) .skip))
  (.seq (.seq (.reg false [mvI 23 (.t 0),opI 24 (.lenT (.t 23)),mvI 25 (kI 0)])
  (.block 0 L0_term_Name))
  (.seq (.reg false [mvI 2 (.c (.p (.bool true)))])
  .ret)))),false⟩
def B0_r24_Check:K :=
  (.seq (.seq (.reg false [mvI 19 (.t 6),mvI 20 (.t 5),opI 21 (.lenS (.t 20)),opI 22 (.arith .lss (.t 19) (.t 21))])
  (.cond (.t 22) .skip (.exit 0)))
  (.seq (.block 1 (.seq (.reg false [mvI 25 (.t 5),mvI 26 (.t 6),opI 27 (.iadrS 5 (.t 25) (.t 26)),opI 28 (.load 5 true (.t 27)),mvI 29 (.t 1),opI 30 (.callf f_r24_node [(.t 28),(.t 29)]),mvI 7 (.t 30)])
  (.seq (.reg false [mvI 31 (.t 7),opI 32 (.arith .neq (.t 31) (kI 0))])
  (.cond (.t 32) (.seq (.reg false [mvI 33 (.t 7),mvI 4 (.t 33)])
  .ret) .skip))))
  (.reg false [mvI 23 (.t 6),opI 24 (.arith .add (.t 23) (kI 1)),mvI 6 (.t 24)])))
def L0_r24_Check:K:=.loop [1,2,5,6] B0_r24_Check
def F_r24_Check:AFn:=⟨44,[.tmp 4],
  (.seq (.reg false [opI 2 (.box 5 true (.t 0) true),mvI 4 (kI 0)])
  (.seq (.seq (.reg false [opI 10 (.load 5 true (.t 2)),opI 11 (.callf f_r10_Small [(.t 10),(kI 4096)]),opI 12 (.not (.t 11)),mvI 13 (.t 12),⟨some 14,.load 5 true (.t 2),some (13,false)⟩,⟨some 15,.callf f_r07_Deep [(.t 14),(kI 64)],some (13,false)⟩,opI 16 (.pick (.t 13) (.c (.p (.bool true))) (.t 15))])
  (.cond (.t 16) (.seq (.reg false [mvI 4 (kI 7)])
  .ret) .skip))
  (.seq (.reg false [opI 17 (.load 5 true (.t 2)),opI 18 (.callf f_r24_Postorder [(.t 17)]),mvI 5 (.t 18)])
  (.seq (.seq (.reg false [mvI 6 (kI 0)])
  (.block 0 L0_r24_Check))
  (.seq (.reg false [opI 35 (.load 5 true (.t 2)),opI 36 (.callf f_r24_names [(.t 35)]),mvI 34 (.t 36),opI 37 (.extract (.t 34) 0),opI 38 (.extract (.t 34) 1),mvI 8 (.t 37),mvI 9 (.t 38)])
  (.seq (.seq (.reg false [mvI 39 (.t 9),opI 40 (.not (.t 39))])
  (.cond (.t 40) (.seq (.reg false [mvI 4 (kI 12)])
  .ret) .skip))
  (.seq (.seq (.reg false [mvI 41 (.t 8),opI 42 (.lenS (.t 41)),opI 43 (.arith .gtr (.t 42) (kI 16))])
  (.cond (.t 43) (.seq (.reg false [mvI 4 (kI 7)])
  .ret) .skip))
  (.seq (.reg false [mvI 4 (kI 0)])
  .ret)))))))),false⟩
def B0_r24_Generic:K :=
  (.seq (.seq (.reg false [mvI 7 (.t 4),mvI 8 (.t 3),opI 9 (.lenS (.t 8)),opI 10 (.arith .lss (.t 7) (.t 9))])
  (.cond (.t 10) .skip (.exit 0)))
  (.seq (.block 1 (.seq (.reg false [mvI 13 (.t 3),mvI 14 (.t 4),opI 15 (.iadrS 5 (.t 13) (.t 14)),opI 16 (.fadr 1 (.t 15)),opI 17 (.load 1 false (.t 16)),opI 18 (.arith .eql (.t 17) (kI 0))])
  (.cond (.t 18) (.seq (.reg false [mvI 2 (.c (.p (.bool true)))])
  .ret) .skip)))
  (.reg false [mvI 11 (.t 4),opI 12 (.arith .add (.t 11) (kI 1)),mvI 4 (.t 12)])))
def L0_r24_Generic:K:=.loop [3,4] B0_r24_Generic
def F_r24_Generic:AFn:=⟨19,[.tmp 2],
  (.seq (.reg false [opI 1 (.box 5 true (.t 0) true),mvI 2 (.c (.p (.bool false)))])
  (.seq (.reg false [opI 5 (.load 5 true (.t 1)),opI 6 (.callf f_r24_Preorder [(.t 5)]),mvI 3 (.t 6)])
  (.seq (.seq (.reg false [mvI 4 (kI 0)])
  (.block 0 L0_r24_Generic))
  (.seq (.reg false [mvI 2 (.c (.p (.bool false)))])
  .ret)))),false⟩
def B0_r06_Name:K :=
  (.seq (.seq (.reg false [mvI 22 (.t 3),mvI 23 (.t 0),opI 24 (.lenT (.t 23)),opI 25 (.arith .lss (.t 22) (.t 24))])
  (.cond (.t 25) .skip (.exit 0)))
  (.seq (.block 1 (.seq (.reg false [mvI 28 (.t 0),mvI 29 (.t 3),opI 30 (.idxS (.t 28) (.t 29)),opI 31 (.arith .lss (.t 30) (.c (.p (.int .u8 97)))),mvI 32 (.t 31),⟨some 33,.mv (.t 0) false,some (32,false)⟩,⟨some 34,.mv (.t 3) false,some (32,false)⟩,⟨some 35,.idxS (.t 33) (.t 34),some (32,false)⟩,⟨some 36,.arith .gtr (.t 35) (.c (.p (.int .u8 122))),some (32,false)⟩,opI 37 (.pick (.t 32) (.c (.p (.bool true))) (.t 36)),mvI 38 (.t 37),⟨some 39,.mv (.t 0) false,some (38,true)⟩,⟨some 40,.mv (.t 3) false,some (38,true)⟩,⟨some 41,.idxS (.t 39) (.t 40),some (38,true)⟩,⟨some 42,.arith .lss (.t 41) (.c (.p (.int .u8 48))),some (38,true)⟩,⟨some 43,.mv (.t 42) false,some (38,true)⟩,⟨some 44,.mv (.t 0) false,some (43,false)⟩,⟨some 45,.mv (.t 3) false,some (43,false)⟩,⟨some 46,.idxS (.t 44) (.t 45),some (43,false)⟩,⟨some 47,.arith .gtr (.t 46) (.c (.p (.int .u8 57))),some (43,false)⟩,⟨some 48,.pick (.t 43) (.c (.p (.bool true))) (.t 47),some (38,true)⟩,opI 49 (.pick (.t 38) (.t 48) (.c (.p (.bool false)))),mvI 50 (.t 49),⟨some 51,.mv (.t 0) false,some (50,true)⟩,⟨some 52,.mv (.t 3) false,some (50,true)⟩,⟨some 53,.idxS (.t 51) (.t 52),some (50,true)⟩,⟨some 54,.arith .neq (.t 53) (.c (.p (.int .u8 95))),some (50,true)⟩,opI 55 (.pick (.t 50) (.t 54) (.c (.p (.bool false))))])
  (.cond (.t 55) (.seq (.reg false [mvI 2 (.c (.p (.bool false)))])
  .ret) .skip)))
  (.reg false [mvI 26 (.t 3),opI 27 (.arith .add (.t 26) (kI 1)),mvI 3 (.t 27)])))
def L0_r06_Name:K:=.loop [0,3] B0_r06_Name
def F_r06_Name:AFn:=⟨56,[.tmp 2],
  (.seq (.reg false [mvI 2 (.c (.p (.bool false)))])
  (.seq (.seq (.reg false [mvI 4 (.t 0),opI 5 (.lenT (.t 4)),opI 6 (.arith .lss (.t 5) (kI 1)),mvI 7 (.t 6),⟨some 8,.mv (.t 0) false,some (7,false)⟩,⟨some 9,.lenT (.t 8),some (7,false)⟩,⟨some 10,.arith .gtr (.t 9) (kI 16),some (7,false)⟩,opI 11 (.pick (.t 7) (.c (.p (.bool true))) (.t 10)),mvI 12 (.t 11),⟨some 13,.mv (.t 0) false,some (12,false)⟩,⟨some 14,.idxS (.t 13) (kI 0),some (12,false)⟩,⟨some 15,.arith .lss (.t 14) (.c (.p (.int .u8 97))),some (12,false)⟩,opI 16 (.pick (.t 12) (.c (.p (.bool true))) (.t 15)),mvI 17 (.t 16),⟨some 18,.mv (.t 0) false,some (17,false)⟩,⟨some 19,.idxS (.t 18) (kI 0),some (17,false)⟩,⟨some 20,.arith .gtr (.t 19) (.c (.p (.int .u8 122))),some (17,false)⟩,opI 21 (.pick (.t 17) (.c (.p (.bool true))) (.t 20))])
  (.cond (.t 21) (.seq (.reg false [mvI 2 (.c (.p (.bool false)))])
  .ret) .skip))
  (.seq (.seq (.reg false [mvI 3 (kI 0)])
  (.block 0 L0_r06_Name))
  (.seq (.reg false [mvI 2 (.c (.p (.bool true)))])
  .ret)))),false⟩
def F_program_compiler_register:AFn:=⟨18,[.tmp 2],
  (.seq (.reg false [mvI 2 (kI 0)])
  (.seq (.reg false [mvI 3 (.t 0),opI 4 (.nilchk (.t 3)),opI 5 (.fadr 0 (.t 4)),opI 6 (.fadr 1 (.t 5)),opI 7 (.load 1 false (.t 6)),opI 8 (.arith .add (.t 7) (kI 1)),opI 9 (.nilchk (.t 3)),opI 10 (.fadr 0 (.t 9)),opI 11 (.fadr 1 (.t 10)),⟨none,.store 1 (.t 11) (.t 8),none⟩])
  (.seq (.reg false [mvI 12 (.t 0),opI 13 (.nilchk (.t 12)),opI 14 (.fadr 0 (.t 13)),opI 15 (.fadr 1 (.t 14)),opI 16 (.load 1 false (.t 15)),opI 17 (.arith .sub (.t 16) (kI 1)),mvI 2 (.t 17)])
  .ret))),true⟩
def F_program_compiler_emit:AFn:=⟨23,[],
  (.reg false [mvI 8 (.t 0),mvI 9 (.t 0),opI 10 (.nilchk (.t 9)),opI 11 (.fadr 0 (.t 10)),opI 12 (.fadr 0 (.t 11)),opI 13 (.load 1 false (.t 12)),mvI 14 (.t 1),mvI 15 (.t 2),mvI 16 (.t 3),opI 17 (.build [(.p (.int .i64 0)),(.p (.int .i64 0)),(.p (.int .i64 0)),(.p (.int .i64 0)),(.p (.int .i64 0)),(.p (.int .u64 0)),(.p (.str (bs []))),.nils,(.p (.int .i64 0)),(.p (.int .i64 0)),(.p (.int .u64 0)),(.p (.str (bs []))),.nils,(.p (.str (bs [])))] [(0,1,(.t 14)),(1,1,(.t 15)),(2,1,(.t 16))]),opI 18 (.bslice 14 [(.p (.int .i64 0)),(.p (.int .i64 0)),(.p (.int .i64 0)),(.p (.int .i64 0)),(.p (.int .i64 0)),(.p (.int .u64 0)),(.p (.str (bs []))),.nils,(.p (.int .i64 0)),(.p (.int .i64 0)),(.p (.int .u64 0)),(.p (.str (bs []))),.nils,(.p (.str (bs [])))] 1 [(0,14,(.t 17))]),opI 19 (.append 14 168 (.t 13) (.t 18)),opI 20 (.nilchk (.t 8)),opI 21 (.fadr 0 (.t 20)),opI 22 (.fadr 0 (.t 21)),⟨none,.store 1 (.t 22) (.t 19),none⟩]),true⟩
def F_program_compiler_hole:AFn:=⟨37,[],
  (.seq (.seq (.reg false [mvI 13 (.t 0),opI 14 (.nilchk (.t 13)),opI 15 (.fadr 5 (.t 14)),opI 16 (.load 1 false (.t 15)),mvI 17 (.t 1),opI 18 (.lookup .str (.p (.int .i64 0)) (.t 16) (.t 17) true),mvI 12 (.t 18),opI 19 (.extract (.t 12) 0),opI 20 (.extract (.t 12) 1),mvI 10 (.t 19),mvI 11 (.t 20)])
  (.seq (.reg false [mvI 21 (.t 11)])
  (.cond (.t 21) (.seq (.reg false [mvI 22 (.t 0),mvI 23 (.t 10),mvI 24 (.t 3),opI 25 (.callf f_program_compiler_emit [(.t 22),(kI 3),(.t 23),(.t 24)])])
  .ret) .skip)))
  (.seq (.reg false [mvI 26 (.t 0),mvI 27 (.t 3),mvI 28 (.t 2),mvI 29 (.t 4),opI 30 (.callf f_program_compiler_width [(.t 26),(.t 27),(.t 28),(.t 29)])])
  (.reg false [mvI 31 (.t 0),opI 32 (.nilchk (.t 31)),opI 33 (.fadr 5 (.t 32)),opI 34 (.load 1 false (.t 33)),mvI 35 (.t 1),mvI 36 (.t 3),⟨none,.mupd .str (.t 34) (.t 35) (.t 36),none⟩]))),true⟩
def B0_program_compiler_pattern:K :=
  (.seq (.reg false [opI 97 (.arith .lss (.t 96) (.t 95))])
  (.seq (.cond (.t 97) .skip (.exit 1))
  (.seq (.block 2 (.seq (.reg false [mvI 98 (.t 96),opI 99 (.iadrS 5 (.t 94) (.t 96)),opI 100 (.load 5 true (.t 99)),opI 10 (.alloc [(.p (.int .i64 0)),(.p (.int .i64 0)),(.p (.int .u64 0)),(.p (.str (bs []))),.nils] 5),mvI 9 (.t 98),⟨none,.store 5 (.t 10) (.t 100),none⟩])
  (.reg true [mvI 101 (.t 0),opI 102 (.load 5 true (.t 10)),mvI 103 (.t 8),mvI 104 (.t 9),opI 105 (.arith .add (.t 103) (.t 104)),opI 106 (.fadr 0 (.t 5)),opI 107 (.load 1 false (.t 106)),opI 108 (.callf f_program_determined [(.t 107)]),opI 109 (.callf f_program_compiler_pattern [(.t 101),(.t 102),(.t 105),(.t 108)])])))
  (.reg false [opI 110 (.arith .add (.t 96) (kI 1)),mvI 96 (.t 110)]))))
def L0_program_compiler_pattern:K:=.loop [0,5,8,94,95,96] B0_program_compiler_pattern
def F_program_compiler_pattern:AFn:=⟨111,[],
  (.seq (.reg false [opI 5 (.box 5 true (.t 1) true)])
  (.seq (.block 0 (.seq (.reg false [opI 12 (.fadr 0 (.t 5)),opI 13 (.load 1 false (.t 12)),opI 14 (.arith .eql (.t 13) (kI 24)),mvI 11 (.t 14)])
  (.cond (.t 11) (.seq (.reg false [mvI 15 (.t 0),opI 16 (.fadr 3 (.t 5)),opI 17 (.load 1 false (.t 16)),opI 18 (.fadr 1 (.t 5)),opI 19 (.load 1 false (.t 18)),mvI 20 (.t 2),mvI 21 (.t 3),opI 22 (.callf f_program_compiler_hole [(.t 15),(.t 17),(.t 19),(.t 20),(.t 21)])])
  .ret) (.seq (.reg false [opI 24 (.fadr 0 (.t 5)),opI 25 (.load 1 false (.t 24)),opI 26 (.arith .eql (.t 25) (kI 25)),mvI 23 (.t 26)])
  (.cond (.t 23) (.seq (.reg false [mvI 27 (.t 0),opI 28 (.fadr 3 (.t 5)),opI 29 (.load 1 false (.t 28)),opI 30 (.fadr 1 (.t 5)),opI 31 (.load 1 false (.t 30)),mvI 32 (.t 2),mvI 33 (.t 3),opI 34 (.callf f_program_compiler_num [(.t 27),(.t 29),(.t 31),(.t 32),(.t 33)])])
  .ret) (.seq (.reg false [opI 36 (.load 5 true (.t 5)),opI 37 (.callf f_pattern_Ground [(.t 36)]),mvI 35 (.t 37)])
  (.cond (.t 35) (.seq (.reg true [mvI 38 (.t 0),mvI 39 (.t 0),opI 40 (.nilchk (.t 39)),opI 41 (.fadr 0 (.t 40)),opI 42 (.fadr 0 (.t 41)),opI 43 (.load 1 false (.t 42)),mvI 44 (.t 2),opI 45 (.load 5 true (.t 5)),opI 46 (.callf f_term_Copy [(.t 45)]),opI 47 (.build [(.p (.int .i64 0)),(.p (.int .i64 0)),(.p (.int .i64 0)),(.p (.int .i64 0)),(.p (.int .i64 0)),(.p (.int .u64 0)),(.p (.str (bs []))),.nils,(.p (.int .i64 0)),(.p (.int .i64 0)),(.p (.int .u64 0)),(.p (.str (bs []))),.nils,(.p (.str (bs [])))] [(0,1,(kI 5)),(1,1,(.t 44)),(8,5,(.t 46))]),opI 48 (.bslice 14 [(.p (.int .i64 0)),(.p (.int .i64 0)),(.p (.int .i64 0)),(.p (.int .i64 0)),(.p (.int .i64 0)),(.p (.int .u64 0)),(.p (.str (bs []))),.nils,(.p (.int .i64 0)),(.p (.int .i64 0)),(.p (.int .u64 0)),(.p (.str (bs []))),.nils,(.p (.str (bs [])))] 1 [(0,14,(.t 47))]),opI 49 (.append 14 168 (.t 43) (.t 48)),opI 50 (.nilchk (.t 38)),opI 51 (.fadr 0 (.t 50)),opI 52 (.fadr 0 (.t 51)),⟨none,.store 1 (.t 52) (.t 49),none⟩])
  .ret) .skip)))))))
  (.seq (.reg false [mvI 53 (.t 0),opI 54 (.nilchk (.t 53)),opI 55 (.fadr 0 (.t 54)),opI 56 (.fadr 1 (.t 55)),opI 57 (.load 1 false (.t 56)),mvI 8 (.t 57)])
  (.seq (.reg true [mvI 58 (.t 0),opI 59 (.nilchk (.t 58)),opI 60 (.fadr 0 (.t 59)),opI 61 (.fadr 1 (.t 60)),opI 62 (.load 1 false (.t 61)),opI 63 (.fadr 4 (.t 5)),opI 64 (.load 1 false (.t 63)),opI 65 (.lenS (.t 64)),opI 66 (.arith .add (.t 62) (.t 65)),opI 67 (.nilchk (.t 58)),opI 68 (.fadr 0 (.t 67)),opI 69 (.fadr 1 (.t 68)),⟨none,.store 1 (.t 69) (.t 66),none⟩])
  (.seq (.reg true [mvI 70 (.t 0),mvI 71 (.t 0),opI 72 (.nilchk (.t 71)),opI 73 (.fadr 0 (.t 72)),opI 74 (.fadr 0 (.t 73)),opI 75 (.load 1 false (.t 74)),mvI 76 (.t 2),mvI 77 (.t 8),opI 78 (.fadr 0 (.t 5)),opI 79 (.load 1 false (.t 78)),opI 80 (.fadr 1 (.t 5)),opI 81 (.load 1 false (.t 80)),opI 82 (.fadr 2 (.t 5)),opI 83 (.load 1 false (.t 82)),opI 84 (.fadr 3 (.t 5)),opI 85 (.load 1 false (.t 84)),opI 86 (.build [(.p (.int .i64 0)),(.p (.int .i64 0)),(.p (.int .u64 0)),(.p (.str (bs []))),.nils] [(0,1,(.t 79)),(1,1,(.t 81)),(2,1,(.t 83)),(3,1,(.t 85))]),opI 87 (.build [(.p (.int .i64 0)),(.p (.int .i64 0)),(.p (.int .i64 0)),(.p (.int .i64 0)),(.p (.int .i64 0)),(.p (.int .u64 0)),(.p (.str (bs []))),.nils,(.p (.int .i64 0)),(.p (.int .i64 0)),(.p (.int .u64 0)),(.p (.str (bs []))),.nils,(.p (.str (bs [])))] [(0,1,(kI 2)),(1,1,(.t 76)),(2,1,(.t 77)),(3,5,(.t 86))]),opI 88 (.bslice 14 [(.p (.int .i64 0)),(.p (.int .i64 0)),(.p (.int .i64 0)),(.p (.int .i64 0)),(.p (.int .i64 0)),(.p (.int .u64 0)),(.p (.str (bs []))),.nils,(.p (.int .i64 0)),(.p (.int .i64 0)),(.p (.int .u64 0)),(.p (.str (bs []))),.nils,(.p (.str (bs [])))] 1 [(0,14,(.t 87))]),opI 89 (.append 14 168 (.t 75) (.t 88)),opI 90 (.nilchk (.t 70)),opI 91 (.fadr 0 (.t 90)),opI 92 (.fadr 0 (.t 91)),⟨none,.store 1 (.t 92) (.t 89),none⟩])
  (.seq (.reg false [opI 93 (.fadr 4 (.t 5)),opI 94 (.load 1 false (.t 93)),opI 95 (.lenS (.t 94)),mvI 96 (kI 0)])
  (.block 1 L0_program_compiler_pattern))))))),true⟩
def F_program_checker_instruction:AFn:=⟨105,[.tmp 4],
  (.seq (.reg false [opI 3 (.box 14 true (.t 1) true),mvI 4 (.c (.p (.bool false)))])
  (.seq (.seq (.reg false [opI 7 (.fadr 0 (.t 3)),opI 8 (.load 1 false (.t 7)),opI 9 (.arith .eql (.t 8) (kI 1))])
  (.cond (.t 9) (.seq (.reg false [mvI 10 (.t 0),opI 11 (.fadr 1 (.t 3)),opI 12 (.load 1 false (.t 11)),opI 13 (.callf f_program_checker_set [(.t 10),(.t 12)]),mvI 4 (.t 13)])
  .ret) .skip))
  (.seq (.seq (.reg true [mvI 14 (.t 0),opI 15 (.nilchk (.t 14)),opI 16 (.fadr 0 (.t 15)),opI 17 (.load 1 false (.t 16)),opI 18 (.fadr 1 (.t 3)),opI 19 (.load 1 false (.t 18)),opI 20 (.lookup .int (.p (.bool false)) (.t 17) (.t 19) false),opI 21 (.not (.t 20))])
  (.cond (.t 21) (.seq (.reg false [mvI 4 (.c (.p (.bool false)))])
  .ret) .skip))
  (.seq (.seq (.reg false [opI 22 (.fadr 0 (.t 3)),opI 23 (.load 1 false (.t 22))])
  (.block 0 (.seq (.reg false [opI 25 (.arith .eql (.t 23) (kI 2)),mvI 24 (.t 25)])
  (.cond (.t 24) (.seq (.reg false [opI 26 (.fadr 3 (.t 3)),opI 27 (.fadr 0 (.t 26)),opI 28 (.load 1 false (.t 27)),opI 29 (.callf f_opinfo_Arity [(.t 28)]),mvI 5 (.t 29)])
  (.seq (.reg false [mvI 30 (.t 5),opI 31 (.arith .geq (.t 30) (kI 0)),mvI 32 (.t 31),⟨some 33,.fadr 3 (.t 3),some (32,true)⟩,⟨some 34,.fadr 0 (.t 33),some (32,true)⟩,⟨some 35,.load 1 false (.t 34),some (32,true)⟩,⟨some 36,.callf f_opinfo_Pattern [(.t 35)],some (32,true)⟩,⟨some 37,.not (.t 36),some (32,true)⟩,opI 38 (.pick (.t 32) (.t 37) (.c (.p (.bool false)))),mvI 39 (.t 38),⟨some 40,.fadr 3 (.t 3),some (39,true)⟩,⟨some 41,.fadr 4 (.t 40),some (39,true)⟩,⟨some 42,.load 1 false (.t 41),some (39,true)⟩,⟨some 43,.lenS (.t 42),some (39,true)⟩,⟨some 44,.arith .eql (.t 43) (kI 0),some (39,true)⟩,opI 45 (.pick (.t 39) (.t 44) (.c (.p (.bool false)))),mvI 46 (.t 45),⟨some 47,.mv (.t 0) false,some (46,true)⟩,⟨some 48,.fadr 2 (.t 3),some (46,true)⟩,⟨some 49,.load 1 false (.t 48),some (46,true)⟩,⟨some 50,.mv (.t 5) false,some (46,true)⟩,⟨some 51,.callf f_program_checker_setAll [(.t 47),(.t 49),(.t 50)],some (46,true)⟩,opI 52 (.pick (.t 46) (.t 51) (.c (.p (.bool false)))),mvI 4 (.t 52)])
  .ret)) (.seq (.reg false [opI 54 (.arith .eql (.t 23) (kI 3)),mvI 53 (.t 54)])
  (.cond (.t 53) (.seq (.reg true [mvI 55 (.t 0),opI 56 (.nilchk (.t 55)),opI 57 (.fadr 0 (.t 56)),opI 58 (.load 1 false (.t 57)),opI 59 (.fadr 2 (.t 3)),opI 60 (.load 1 false (.t 59)),opI 61 (.lookup .int (.p (.bool false)) (.t 58) (.t 60) false),mvI 4 (.t 61)])
  .ret) (.seq (.reg false [opI 63 (.arith .eql (.t 23) (kI 4)),mvI 62 (.t 63)])
  (.cond (.t 62) (.seq (.reg true [opI 64 (.fadr 2 (.t 3)),opI 65 (.load 1 false (.t 64)),opI 66 (.arith .geq (.t 65) (kI 0)),mvI 67 (.t 66),⟨some 68,.fadr 2 (.t 3),some (67,true)⟩,⟨some 69,.load 1 false (.t 68),some (67,true)⟩,⟨some 70,.arith .lss (.t 69) (kI 16),some (67,true)⟩,opI 71 (.pick (.t 67) (.t 70) (.c (.p (.bool false)))),mvI 72 (.t 71),⟨some 73,.mv (.t 0) false,some (72,true)⟩,⟨some 74,.nilchk (.t 73),some (72,true)⟩,⟨some 75,.fadr 1 (.t 74),some (72,true)⟩,⟨some 76,.load 1 false (.t 75),some (72,true)⟩,⟨some 77,.fadr 2 (.t 3),some (72,true)⟩,⟨some 78,.load 1 false (.t 77),some (72,true)⟩,⟨some 79,.lookup .int (.p (.bool false)) (.t 76) (.t 78) false,some (72,true)⟩,⟨some 80,.not (.t 79),some (72,true)⟩,opI 81 (.pick (.t 72) (.t 80) (.c (.p (.bool false)))),mvI 6 (.t 81)])
  (.seq (.reg true [mvI 82 (.t 0),opI 83 (.nilchk (.t 82)),opI 84 (.fadr 1 (.t 83)),opI 85 (.load 1 false (.t 84)),opI 86 (.fadr 2 (.t 3)),opI 87 (.load 1 false (.t 86)),⟨none,.mupd .int (.t 85) (.t 87) (.c (.p (.bool true))),none⟩])
  (.seq (.reg false [mvI 88 (.t 6),mvI 4 (.t 88)])
  .ret))) (.seq (.reg false [opI 90 (.arith .eql (.t 23) (kI 5)),mvI 89 (.t 90)])
  (.cond (.t 89) (.seq (.reg false [opI 91 (.fadr 8 (.t 3)),opI 92 (.load 5 true (.t 91)),opI 93 (.callf f_term_Check [(.t 92)]),opI 94 (.arith .eql (.t 93) (kI 0)),mvI 4 (.t 94)])
  .ret) (.seq (.reg false [opI 96 (.arith .eql (.t 23) (kI 6)),mvI 95 (.t 96)])
  (.cond (.t 95) (.seq (.reg false [opI 97 (.fadr 2 (.t 3)),opI 98 (.load 1 false (.t 97)),opI 99 (.arith .geq (.t 98) (kI 1)),mvI 100 (.t 99),⟨some 101,.fadr 2 (.t 3),some (100,true)⟩,⟨some 102,.load 1 false (.t 101),some (100,true)⟩,⟨some 103,.arith .leq (.t 102) (kI 64),some (100,true)⟩,opI 104 (.pick (.t 100) (.t 103) (.c (.p (.bool false)))),mvI 4 (.t 104)])
  .ret) .skip))))))))))))
  (.seq (.reg false [mvI 4 (.c (.p (.bool false)))])
  .ret))))),true⟩
def B0_program_slots:K :=
  (.seq (.reg false [opI 10 (.arith .lss (.t 9) (.t 8))])
  (.seq (.cond (.t 10) .skip (.exit 0))
  (.seq (.block 1 (.seq (.reg false [mvI 11 (.t 9),opI 12 (.iadrS 2 (.t 7) (.t 9)),opI 13 (.load 2 true (.t 12)),opI 6 (.alloc [(.p (.str (bs []))),(.p (.int .i64 0))] 2),mvI 5 (.t 11),⟨none,.store 2 (.t 6) (.t 13),none⟩])
  (.seq (.reg true [mvI 14 (.t 1),opI 15 (.fadr 1 (.t 6)),opI 16 (.load 1 false (.t 15)),opI 17 (.lookup .int (.p (.bool false)) (.t 14) (.t 16) false),opI 18 (.not (.t 17)),mvI 19 (.t 18),⟨some 20,.mv (.t 5) false,some (19,false)⟩,⟨some 21,.arith .gtr (.t 20) (kI 0),some (19,false)⟩,⟨some 22,.mv (.t 21) false,some (19,false)⟩,⟨some 23,.mv (.t 0) false,some (22,true)⟩,⟨some 24,.mv (.t 5) false,some (22,true)⟩,⟨some 25,.arith .sub (.t 24) (kI 1),some (22,true)⟩,⟨some 26,.iadrS 2 (.t 23) (.t 25),some (22,true)⟩,⟨some 27,.fadr 0 (.t 26),some (22,true)⟩,⟨some 28,.load 1 false (.t 27),some (22,true)⟩,⟨some 29,.fadr 0 (.t 6),some (22,true)⟩,⟨some 30,.load 1 false (.t 29),some (22,true)⟩,⟨some 31,.arith .geq (.t 28) (.t 30),some (22,true)⟩,⟨some 32,.pick (.t 22) (.t 31) (.c (.p (.bool false))),some (19,false)⟩,opI 33 (.pick (.t 19) (.c (.p (.bool true))) (.t 32))])
  (.cond (.t 33) (.seq (.reg false [mvI 4 (.c (.p (.bool false)))])
  .ret) .skip))))
  (.reg false [opI 34 (.arith .add (.t 9) (kI 1)),mvI 9 (.t 34)]))))
def L0_program_slots:K:=.loop [0,1,7,8,9] B0_program_slots
def F_program_slots:AFn:=⟨35,[.tmp 4],
  (.seq (.reg false [mvI 4 (.c (.p (.bool false)))])
  (.seq (.seq (.reg false [mvI 7 (.t 0),opI 8 (.lenS (.t 7)),mvI 9 (kI 0)])
  (.block 0 L0_program_slots))
  (.seq (.reg false [mvI 4 (.c (.p (.bool true)))])
  .ret))),false⟩
def B0_term_Copy:K :=
  (.seq (.reg false [opI 12 (.arith .lss (.t 11) (.t 10))])
  (.seq (.cond (.t 12) .skip (.exit 0))
  (.seq (.block 1 (.seq (.reg false [opI 13 (.iadrS 5 (.t 9) (.t 11)),opI 14 (.load 5 true (.t 13)),opI 5 (.init 5 true (.t 14) true)])
  (.reg true [opI 15 (.fadr 4 (.t 3)),opI 16 (.load 1 false (.t 15)),opI 17 (.load 5 true (.t 5)),opI 18 (.callf f_term_Copy [(.t 17)]),opI 19 (.bslice 5 [(.p (.int .i64 0)),(.p (.int .i64 0)),(.p (.int .u64 0)),(.p (.str (bs []))),.nils] 1 [(0,5,(.t 18))]),opI 20 (.append 5 64 (.t 16) (.t 19)),opI 21 (.fadr 4 (.t 3)),⟨none,.store 1 (.t 21) (.t 20),none⟩])))
  (.reg false [opI 22 (.arith .add (.t 11) (kI 1)),mvI 11 (.t 22)]))))
def L0_term_Copy:K:=.loop [2,3,9,10,11] B0_term_Copy
def F_term_Copy:AFn:=⟨24,[.cell 2 5 true],
  (.seq (.reg false [opI 1 (.box 5 true (.t 0) true),opI 2 (.alloc [(.p (.int .i64 0)),(.p (.int .i64 0)),(.p (.int .u64 0)),(.p (.str (bs []))),.nils] 5)])
  (.seq (.reg false [opI 6 (.load 5 true (.t 1)),opI 3 (.init 5 true (.t 6) false)])
  (.seq (.reg false [opI 7 (.fadr 4 (.t 3)),⟨none,.store 1 (.t 7) (.c .nils),none⟩])
  (.seq (.seq (.reg false [opI 8 (.fadr 4 (.t 1)),opI 9 (.load 1 false (.t 8)),opI 10 (.lenS (.t 9)),mvI 11 (kI 0)])
  (.block 0 L0_term_Copy))
  (.seq (.reg false [opI 23 (.load 5 true (.t 3)),⟨none,.store 5 (.t 2) (.t 23),none⟩])
  .ret))))),false⟩
def B0_r06_count:K :=
  (.seq (.seq (.reg false [mvI 16 (.t 7),opI 17 (.fadr 4 (.t 3)),opI 18 (.load 1 false (.t 17)),opI 19 (.lenS (.t 18)),opI 20 (.arith .lss (.t 16) (.t 19)),mvI 21 (.t 20),⟨some 22,.mv (.t 2) false,some (21,true)⟩,⟨some 23,.arith .geq (.t 22) (kI 0),some (21,true)⟩,opI 24 (.pick (.t 21) (.t 23) (.c (.p (.bool false))))])
  (.cond (.t 24) .skip (.exit 0)))
  (.seq (.block 1 (.reg false [opI 27 (.fadr 4 (.t 3)),opI 28 (.load 1 false (.t 27)),mvI 29 (.t 7),opI 30 (.iadrS 5 (.t 28) (.t 29)),opI 31 (.load 5 true (.t 30)),mvI 32 (.t 1),opI 33 (.arith .sub (.t 32) (kI 1)),mvI 34 (.t 2),opI 35 (.callf f_r06_count [(.t 31),(.t 33),(.t 34)]),mvI 2 (.t 35)]))
  (.reg false [mvI 25 (.t 7),opI 26 (.arith .add (.t 25) (kI 1)),mvI 7 (.t 26)])))
def L0_r06_count:K:=.loop [1,2,3,7] B0_r06_count
def F_r06_count:AFn:=⟨37,[.tmp 6],
  (.seq (.reg false [opI 3 (.box 5 true (.t 0) true),mvI 6 (kI 0)])
  (.seq (.seq (.reg false [mvI 8 (.t 1),opI 9 (.arith .lss (.t 8) (kI 1)),mvI 10 (.t 9),⟨some 11,.mv (.t 2) false,some (10,false)⟩,⟨some 12,.arith .lss (.t 11) (kI 1),some (10,false)⟩,opI 13 (.pick (.t 10) (.c (.p (.bool true))) (.t 12))])
  (.cond (.t 13) (.seq (.reg false [mvI 6 (kI (-1))])
  .ret) .skip))
  (.seq (.reg false [mvI 14 (.t 2),opI 15 (.arith .sub (.t 14) (kI 1)),mvI 2 (.t 15)])
  (.seq (.seq (.reg false [mvI 7 (kI 0)])
  (.block 0 L0_r06_count))
  (.seq (.reg false [mvI 36 (.t 2),mvI 6 (.t 36)])
  .ret))))),false⟩
def F_law25_hole:AFn:=⟨5,[.cell 2 5 true],
  (.seq (.reg false [opI 2 (.alloc [(.p (.int .i64 0)),(.p (.int .i64 0)),(.p (.int .u64 0)),(.p (.str (bs []))),.nils] 5)])
  (.seq (.reg false [mvI 3 (.t 0),opI 4 (.build [(.p (.int .i64 0)),(.p (.int .i64 0)),(.p (.int .u64 0)),(.p (.str (bs []))),.nils] [(0,1,(kI 24)),(1,1,(kI 8)),(3,1,(.t 3))]),⟨none,.store 5 (.t 2) (.t 4),none⟩])
  .ret)),false⟩
def B0_program_mentions_1:K :=
  (.seq (.reg false [opI 34 (.arith .lss (.t 33) (.t 32))])
  (.seq (.cond (.t 34) .skip (.exit 1))
  (.seq (.block 2 (.seq (.reg false [opI 35 (.iadrS 5 (.t 31) (.t 33)),opI 36 (.load 5 true (.t 35)),opI 5 (.init 5 true (.t 36) true)])
  (.reg false [opI 37 (.load 1 false (.t 2)),opI 38 (.load 5 true (.t 5)),opI 39 (.callv (.t 37) [(.t 38)])])))
  (.reg false [opI 40 (.arith .add (.t 33) (kI 1)),mvI 33 (.t 40)]))))
def L0_program_mentions_1:K:=.loop [2,31,32,33] B0_program_mentions_1
def F_program_mentions_1:AFn:=⟨41,[],
  (.seq (.reg false [opI 3 (.box 5 true (.t 0) true)])
  (.seq (.seq (.reg false [opI 6 (.fadr 0 (.t 3)),opI 7 (.load 1 false (.t 6))])
  (.block 0 (.seq (.reg false [opI 9 (.arith .eql (.t 7) (kI 24)),mvI 8 (.t 9)])
  (.cond (.t 8) (.reg false [opI 10 (.load 1 false (.t 1)),opI 11 (.fadr 3 (.t 3)),opI 12 (.load 1 false (.t 11)),opI 13 (.fadr 1 (.t 3)),opI 14 (.load 1 false (.t 13)),opI 15 (.build [(.p (.str (bs []))),(.p (.int .i64 0))] [(0,1,(.t 12)),(1,1,(.t 14))]),opI 16 (.build [(.p (.str (bs []))),(.p (.int .i64 0)),(.p (.int .i64 0))] [(0,2,(.t 15)),(2,1,(kI 0))]),opI 17 (.blist 3 [(.p (.str (bs []))),(.p (.int .i64 0)),(.p (.int .i64 0))] 1 [(0,3,(.t 16))]),opI 18 (.append 3 32 (.t 10) (.t 17)),⟨none,.store 1 (.t 1) (.t 18),none⟩]) (.seq (.reg false [opI 20 (.arith .eql (.t 7) (kI 25)),mvI 19 (.t 20)])
  (.cond (.t 19) (.reg false [opI 21 (.load 1 false (.t 1)),opI 22 (.fadr 3 (.t 3)),opI 23 (.load 1 false (.t 22)),opI 24 (.fadr 1 (.t 3)),opI 25 (.load 1 false (.t 24)),opI 26 (.build [(.p (.str (bs []))),(.p (.int .i64 0))] [(0,1,(.t 23)),(1,1,(.t 25))]),opI 27 (.build [(.p (.str (bs []))),(.p (.int .i64 0)),(.p (.int .i64 0))] [(0,2,(.t 26)),(2,1,(kI 1))]),opI 28 (.blist 3 [(.p (.str (bs []))),(.p (.int .i64 0)),(.p (.int .i64 0))] 1 [(0,3,(.t 27))]),opI 29 (.append 3 32 (.t 21) (.t 28)),⟨none,.store 1 (.t 1) (.t 29),none⟩]) .skip))))))
  (.seq (.reg false [opI 30 (.fadr 4 (.t 3)),opI 31 (.load 1 false (.t 30)),opI 32 (.lenS (.t 31)),mvI 33 (kI 0)])
  (.block 1 L0_program_mentions_1)))),true⟩
def B0_slices_IndexFunc_api_Var_api_Var:K :=
  (.seq (.reg false [opI 9 (.arith .lss (.t 8) (.t 7))])
  (.seq (.cond (.t 9) .skip (.exit 0))
  (.seq (.block 1 (.seq (.reg false [mvI 10 (.t 8),mvI 5 (.t 10)])
  (.seq (.reg false [mvI 11 (.t 1),mvI 12 (.t 0),mvI 13 (.t 5),opI 14 (.iadrS 2 (.t 12) (.t 13)),opI 15 (.load 2 true (.t 14)),opI 16 (.callv (.t 11) [(.t 15)])])
  (.cond (.t 16) (.seq (.reg false [mvI 17 (.t 5),mvI 4 (.t 17)])
  .ret) .skip))))
  (.reg false [opI 18 (.arith .add (.t 8) (kI 1)),mvI 8 (.t 18)]))))
def L0_slices_IndexFunc_api_Var_api_Var:K:=.loop [0,1,7,8] B0_slices_IndexFunc_api_Var_api_Var
def F_slices_IndexFunc_api_Var_api_Var:AFn:=⟨19,[.tmp 4],
  (.seq (.reg false [mvI 4 (kI 0)])
  (.seq (.seq (.reg false [mvI 6 (.t 0),opI 7 (.lenS (.t 6)),mvI 8 (kI 0)])
  (.block 0 L0_slices_IndexFunc_api_Var_api_Var))
  (.seq (.reg false [mvI 4 (kI (-1))])
  .ret))),false⟩
def F_internal_bytealg_CompareString:AFn:=⟨8,[.tmp 4],
  (.seq (.reg false [mvI 4 (kI 0)])
  (.seq (.reg false [mvI 5 (.t 0),mvI 6 (.t 1),opI 7 (.callf f_internal_bytealg_abigen_runtime_cmpstring [(.t 5),(.t 6)]),mvI 4 (.t 7)])
  .ret)),false⟩
def B0_r25_uses:K :=
  (.seq (.seq (.reg false [mvI 21 (.t 5),mvI 22 (.t 4),opI 23 (.lenS (.t 22)),opI 24 (.arith .lss (.t 21) (.t 23))])
  (.cond (.t 24) .skip (.exit 0)))
  (.seq (.block 1 (.seq (.reg false [mvI 27 (.t 4),mvI 28 (.t 5),opI 29 (.iadrS 5 (.t 27) (.t 28)),opI 30 (.fadr 0 (.t 29)),opI 31 (.load 1 false (.t 30)),opI 32 (.arith .eql (.t 31) (kI 24)),mvI 33 (.t 32),⟨some 34,.mv (.t 4) false,some (33,false)⟩,⟨some 35,.mv (.t 5) false,some (33,false)⟩,⟨some 36,.iadrS 5 (.t 34) (.t 35),some (33,false)⟩,⟨some 37,.fadr 0 (.t 36),some (33,false)⟩,⟨some 38,.load 1 false (.t 37),some (33,false)⟩,⟨some 39,.arith .eql (.t 38) (kI 25),some (33,false)⟩,opI 40 (.pick (.t 33) (.c (.p (.bool true))) (.t 39))])
  (.cond (.t 40) (.reg true [mvI 41 (.t 3),mvI 42 (.t 4),mvI 43 (.t 5),opI 44 (.iadrS 5 (.t 42) (.t 43)),opI 45 (.fadr 3 (.t 44)),opI 46 (.load 1 false (.t 45)),mvI 47 (.t 4),mvI 48 (.t 5),opI 49 (.iadrS 5 (.t 47) (.t 48)),opI 50 (.fadr 0 (.t 49)),opI 51 (.load 1 false (.t 50)),mvI 52 (.t 4),mvI 53 (.t 5),opI 54 (.iadrS 5 (.t 52) (.t 53)),opI 55 (.fadr 1 (.t 54)),opI 56 (.load 1 false (.t 55)),opI 57 (.build [(.p (.str (bs []))),(.p (.int .i64 0)),(.p (.int .i64 0))] [(0,1,(.t 46)),(1,1,(.t 51)),(2,1,(.t 56))]),opI 58 (.bslice 3 [(.p (.str (bs []))),(.p (.int .i64 0)),(.p (.int .i64 0))] 1 [(0,3,(.t 57))]),opI 59 (.append 3 32 (.t 41) (.t 58)),opI 3 (.mv (.t 59) true)]) .skip)))
  (.reg false [mvI 25 (.t 5),opI 26 (.arith .add (.t 25) (kI 1)),mvI 5 (.t 26)])))
def L0_r25_uses:K:=.loop [3,4,5] B0_r25_uses
def F_r25_uses:AFn:=⟨61,[.tmp 2],
  (.seq (.reg false [opI 1 (.box 6 true (.t 0) true),mvI 2 (.c .nils)])
  (.seq (.reg false [opI 3 (.mv (.c .nils) true)])
  (.seq (.seq (.reg false [opI 6 (.fadr 0 (.t 1)),opI 7 (.load 1 false (.t 6)),opI 8 (.arith .neq (.t 7) (.c (.p (.str (bs [])))))])
  (.cond (.t 8) (.reg false [mvI 9 (.t 3),opI 10 (.fadr 0 (.t 1)),opI 11 (.load 1 false (.t 10)),opI 12 (.fadr 1 (.t 1)),opI 13 (.fadr 1 (.t 12)),opI 14 (.load 1 false (.t 13)),opI 15 (.build [(.p (.str (bs []))),(.p (.int .i64 0)),(.p (.int .i64 0))] [(0,1,(.t 11)),(1,1,(kI 24)),(2,1,(.t 14))]),opI 16 (.bslice 3 [(.p (.str (bs []))),(.p (.int .i64 0)),(.p (.int .i64 0))] 1 [(0,3,(.t 15))]),opI 17 (.append 3 32 (.t 9) (.t 16)),opI 3 (.mv (.t 17) true)]) .skip))
  (.seq (.reg false [opI 18 (.fadr 1 (.t 1)),opI 19 (.load 5 true (.t 18)),opI 20 (.callf f_r06_Pre [(.t 19)]),mvI 4 (.t 20)])
  (.seq (.seq (.reg false [mvI 5 (kI 0)])
  (.block 0 L0_r25_uses))
  (.seq (.reg false [mvI 60 (.t 3),mvI 2 (.t 60)])
  .ret)))))),false⟩
def B0_term_Size:K :=
  (.seq (.reg false [opI 10 (.arith .lss (.t 9) (.t 8))])
  (.seq (.cond (.t 10) .skip (.exit 0))
  (.seq (.block 1 (.seq (.reg false [opI 11 (.iadrS 5 (.t 7) (.t 9)),opI 12 (.load 5 true (.t 11)),opI 5 (.init 5 true (.t 12) true)])
  (.reg false [mvI 13 (.t 3),opI 14 (.load 5 true (.t 5)),opI 15 (.callf f_term_Size [(.t 14)]),opI 16 (.arith .add (.t 13) (.t 15)),mvI 3 (.t 16)])))
  (.reg false [opI 17 (.arith .add (.t 9) (kI 1)),mvI 9 (.t 17)]))))
def L0_term_Size:K:=.loop [3,7,8,9] B0_term_Size
def F_term_Size:AFn:=⟨19,[.tmp 2],
  (.seq (.reg false [opI 1 (.box 5 true (.t 0) true),mvI 2 (kI 0)])
  (.seq (.reg false [mvI 3 (kI 1)])
  (.seq (.seq (.reg false [opI 6 (.fadr 4 (.t 1)),opI 7 (.load 1 false (.t 6)),opI 8 (.lenS (.t 7)),mvI 9 (kI 0)])
  (.block 0 L0_term_Size))
  (.seq (.reg false [mvI 18 (.t 3),mvI 2 (.t 18)])
  .ret)))),false⟩
def B0_term_Depth:K :=
  (.seq (.reg false [opI 10 (.arith .lss (.t 9) (.t 8))])
  (.seq (.cond (.t 10) .skip (.exit 0))
  (.seq (.block 1 (.seq (.reg false [opI 11 (.iadrS 5 (.t 7) (.t 9)),opI 12 (.load 5 true (.t 11)),opI 5 (.init 5 true (.t 12) true)])
  (.reg false [mvI 13 (.t 3),opI 14 (.load 5 true (.t 5)),opI 15 (.callf f_term_Depth [(.t 14)]),opI 16 (.minmax true [(.t 13),(.t 15)]),mvI 3 (.t 16)])))
  (.reg false [opI 17 (.arith .add (.t 9) (kI 1)),mvI 9 (.t 17)]))))
def L0_term_Depth:K:=.loop [3,7,8,9] B0_term_Depth
def F_term_Depth:AFn:=⟨20,[.tmp 2],
  (.seq (.reg false [opI 1 (.box 5 true (.t 0) true),mvI 2 (kI 0)])
  (.seq (.reg false [mvI 3 (kI 0)])
  (.seq (.seq (.reg false [opI 6 (.fadr 4 (.t 1)),opI 7 (.load 1 false (.t 6)),opI 8 (.lenS (.t 7)),mvI 9 (kI 0)])
  (.block 0 L0_term_Depth))
  (.seq (.reg false [mvI 18 (.t 3),opI 19 (.arith .add (.t 18) (kI 1)),mvI 2 (.t 19)])
  .ret)))),false⟩
def B0_pattern_nodes:K :=
  (.seq (.reg false [opI 12 (.arith .lss (.t 11) (.t 10))])
  (.seq (.cond (.t 12) .skip (.exit 0))
  (.seq (.block 1 (.seq (.reg false [opI 13 (.iadrS 5 (.t 9) (.t 11)),opI 14 (.load 5 true (.t 13)),opI 6 (.init 5 true (.t 14) true)])
  (.seq (.reg false [opI 15 (.load 5 true (.t 6)),mvI 16 (.t 1),opI 17 (.callf f_pattern_nodes [(.t 15),(.t 16)]),mvI 7 (.t 17)])
  (.seq (.reg false [mvI 18 (.t 7),opI 19 (.arith .neq (.t 18) (kI 0))])
  (.cond (.t 19) (.seq (.reg false [mvI 20 (.t 7),mvI 4 (.t 20)])
  .ret) .skip)))))
  (.reg false [opI 21 (.arith .add (.t 11) (kI 1)),mvI 11 (.t 21)]))))
def L0_pattern_nodes:K:=.loop [1,2,9,10,11] B0_pattern_nodes
def F_pattern_nodes:AFn:=⟨25,[.tmp 4],
  (.seq (.reg false [opI 2 (.box 5 true (.t 0) true),mvI 4 (kI 0)])
  (.seq (.seq (.reg false [opI 8 (.fadr 4 (.t 2)),opI 9 (.load 1 false (.t 8)),opI 10 (.lenS (.t 9)),mvI 11 (kI 0)])
  (.block 0 L0_pattern_nodes))
  (.seq (.reg false [opI 22 (.load 5 true (.t 2)),mvI 23 (.t 1),opI 24 (.callf f_pattern_node [(.t 22),(.t 23)]),mvI 4 (.t 24)])
  .ret))),false⟩
def F_pattern_preorder:AFn:=⟨4,[.tmp 2],
  (.seq (.reg false [opI 1 (.box 5 true (.t 0) true),mvI 2 (.c (.p .nilf))])
  (.seq (.reg false [opI 3 (.mkfn f_pattern_preorder_1 [(.t 1)]),mvI 2 (.t 3)])
  .ret)),false⟩
def F_pattern_variable:AFn:=⟨9,[.tmp 2],
  (.seq (.reg false [mvI 2 (.c (.p (.bool false)))])
  (.seq (.reg false [mvI 3 (.t 0),opI 4 (.arith .eql (.t 3) (kI 24)),mvI 5 (.t 4),⟨some 6,.mv (.t 0) false,some (5,false)⟩,⟨some 7,.arith .eql (.t 6) (kI 25),some (5,false)⟩,opI 8 (.pick (.t 5) (.c (.p (.bool true))) (.t 7)),mvI 2 (.t 8)])
  .ret)),false⟩
def F_r10_Small:AFn:=⟨9,[.tmp 4],
  (.seq (.reg false [opI 2 (.box 5 true (.t 0) true),mvI 4 (.c (.p (.bool false)))])
  (.seq (.reg false [opI 5 (.load 5 true (.t 2)),mvI 6 (.t 1),opI 7 (.callf f_r10_left [(.t 5),(.t 6)]),opI 8 (.arith .geq (.t 7) (kI 0)),mvI 4 (.t 8)])
  .ret)),false⟩
def B0_r07_Deep:K :=
  (.seq (.seq (.reg false [mvI 8 (.t 5),opI 9 (.fadr 4 (.t 2)),opI 10 (.load 1 false (.t 9)),opI 11 (.lenS (.t 10)),opI 12 (.arith .lss (.t 8) (.t 11))])
  (.cond (.t 12) .skip (.exit 0)))
  (.seq (.block 1 (.seq (.reg false [opI 15 (.fadr 4 (.t 2)),opI 16 (.load 1 false (.t 15)),mvI 17 (.t 5),opI 18 (.iadrS 5 (.t 16) (.t 17)),opI 19 (.load 5 true (.t 18)),mvI 20 (.t 1),opI 21 (.arith .sub (.t 20) (kI 1)),opI 22 (.callf f_r07_Deep [(.t 19),(.t 21)])])
  (.cond (.t 22) (.seq (.reg false [mvI 4 (.c (.p (.bool true)))])
  .ret) .skip)))
  (.reg false [mvI 13 (.t 5),opI 14 (.arith .add (.t 13) (kI 1)),mvI 5 (.t 14)])))
def L0_r07_Deep:K:=.loop [1,2,5] B0_r07_Deep
def F_r07_Deep:AFn:=⟨23,[.tmp 4],
  (.seq (.reg false [opI 2 (.box 5 true (.t 0) true),mvI 4 (.c (.p (.bool false)))])
  (.seq (.seq (.reg false [mvI 6 (.t 1),opI 7 (.arith .lss (.t 6) (kI 1))])
  (.cond (.t 7) (.seq (.reg false [mvI 4 (.c (.p (.bool true)))])
  .ret) .skip))
  (.seq (.seq (.reg false [mvI 5 (kI 0)])
  (.block 0 L0_r07_Deep))
  (.seq (.reg false [mvI 4 (.c (.p (.bool false)))])
  .ret)))),false⟩
def B0_r24_Postorder:K :=
  (.seq (.seq (.reg false [mvI 6 (.t 4),opI 7 (.fadr 4 (.t 1)),opI 8 (.load 1 false (.t 7)),opI 9 (.lenS (.t 8)),opI 10 (.arith .lss (.t 6) (.t 9))])
  (.cond (.t 10) .skip (.exit 0)))
  (.seq (.block 1 (.reg false [mvI 13 (.t 3),opI 14 (.fadr 4 (.t 1)),opI 15 (.load 1 false (.t 14)),mvI 16 (.t 4),opI 17 (.iadrS 5 (.t 15) (.t 16)),opI 18 (.load 5 true (.t 17)),opI 19 (.callf f_r24_Postorder [(.t 18)]),opI 20 (.append 5 64 (.t 13) (.t 19)),opI 3 (.mv (.t 20) true)]))
  (.reg false [mvI 11 (.t 4),opI 12 (.arith .add (.t 11) (kI 1)),mvI 4 (.t 12)])))
def L0_r24_Postorder:K:=.loop [1,3,4] B0_r24_Postorder
def F_r24_Postorder:AFn:=⟨26,[.tmp 2],
  (.seq (.reg false [opI 1 (.box 5 true (.t 0) true),mvI 2 (.c .nils)])
  (.seq (.reg false [opI 5 (.bslice 5 [(.p (.int .i64 0)),(.p (.int .i64 0)),(.p (.int .u64 0)),(.p (.str (bs []))),.nils] 0 []),opI 3 (.mv (.t 5) true)])
  (.seq (.seq (.reg false [mvI 4 (kI 0)])
  (.block 0 L0_r24_Postorder))
  (.seq (.reg false [mvI 21 (.t 3),opI 22 (.load 5 true (.t 1)),opI 23 (.bslice 5 [(.p (.int .i64 0)),(.p (.int .i64 0)),(.p (.int .u64 0)),(.p (.str (bs []))),.nils] 1 [(0,5,(.t 22))]),opI 24 (.append 5 64 (.t 21) (.t 23)),opI 3 (.mv (.t 24) true)])
  (.seq (.reg false [mvI 25 (.t 3),mvI 2 (.t 25)])
  .ret))))),false⟩
def B0_r24_node:K :=
  (.seq (.seq (.reg false [mvI 95 (.t 8),mvI 96 (.t 7),opI 97 (.lenS (.t 96)),opI 98 (.arith .lss (.t 95) (.t 97))])
  (.cond (.t 98) .skip (.exit 0)))
  (.seq (.block 1 (.seq (.reg false [mvI 101 (.t 7),mvI 102 (.t 8),opI 103 (.iadrS 5 (.t 101) (.t 102)),opI 104 (.fadr 0 (.t 103)),opI 105 (.load 1 false (.t 104)),opI 106 (.arith .eql (.t 105) (kI 24)),mvI 107 (.t 106),⟨some 108,.mv (.t 7) false,some (107,false)⟩,⟨some 109,.mv (.t 8) false,some (107,false)⟩,⟨some 110,.iadrS 5 (.t 108) (.t 109),some (107,false)⟩,⟨some 111,.fadr 0 (.t 110),some (107,false)⟩,⟨some 112,.load 1 false (.t 111),some (107,false)⟩,⟨some 113,.arith .eql (.t 112) (kI 26),some (107,false)⟩,opI 114 (.pick (.t 107) (.c (.p (.bool true))) (.t 113))])
  (.cond (.t 114) (.seq (.reg false [mvI 4 (kI 12)])
  .ret) .skip)))
  (.reg false [mvI 99 (.t 8),opI 100 (.arith .add (.t 99) (kI 1)),mvI 8 (.t 100)])))
def L0_r24_node:K:=.loop [7,8] B0_r24_node
def F_r24_node:AFn:=⟨115,[.tmp 4],
  (.seq (.reg false [opI 2 (.box 5 true (.t 0) true),mvI 4 (kI 0)])
  (.seq (.seq (.reg true [opI 9 (.fadr 0 (.t 2)),opI 10 (.load 1 false (.t 9)),opI 11 (.callf f_r04_Arity [(.t 10)]),opI 12 (.arith .lss (.t 11) (kI 0)),mvI 13 (.t 12),⟨some 14,.fadr 0 (.t 2),some (13,false)⟩,⟨some 15,.load 1 false (.t 14),some (13,false)⟩,⟨some 16,.arith .eql (.t 15) (kI 1),some (13,false)⟩,opI 17 (.pick (.t 13) (.c (.p (.bool true))) (.t 16)),mvI 18 (.t 17),⟨some 19,.fadr 0 (.t 2),some (18,false)⟩,⟨some 20,.load 1 false (.t 19),some (18,false)⟩,⟨some 21,.arith .eql (.t 20) (kI 26),some (18,false)⟩,⟨some 22,.mv (.t 21) false,some (18,false)⟩,⟨some 23,.mv (.t 1) false,some (22,true)⟩,⟨some 24,.not (.t 23),some (22,true)⟩,⟨some 25,.pick (.t 22) (.t 24) (.c (.p (.bool false))),some (18,false)⟩,opI 26 (.pick (.t 18) (.c (.p (.bool true))) (.t 25)),mvI 27 (.t 26),⟨some 28,.fadr 4 (.t 2),some (27,false)⟩,⟨some 29,.load 1 false (.t 28),some (27,false)⟩,⟨some 30,.lenS (.t 29),some (27,false)⟩,⟨some 31,.fadr 0 (.t 2),some (27,false)⟩,⟨some 32,.load 1 false (.t 31),some (27,false)⟩,⟨some 33,.callf f_r04_Arity [(.t 32)],some (27,false)⟩,⟨some 34,.arith .neq (.t 30) (.t 33),some (27,false)⟩,opI 35 (.pick (.t 27) (.c (.p (.bool true))) (.t 34))])
  (.cond (.t 35) (.seq (.reg false [mvI 4 (kI 4)])
  .ret) .skip))
  (.seq (.seq (.reg false [opI 36 (.load 5 true (.t 2)),opI 37 (.callf f_r24_variable [(.t 36)]),opI 38 (.not (.t 37)),mvI 39 (.t 38),⟨some 40,.fadr 3 (.t 2),some (39,true)⟩,⟨some 41,.load 1 false (.t 40),some (39,true)⟩,⟨some 42,.arith .neq (.t 41) (.c (.p (.str (bs [])))),some (39,true)⟩,opI 43 (.pick (.t 39) (.t 42) (.c (.p (.bool false)))),mvI 44 (.t 43),⟨some 45,.fadr 0 (.t 2),some (44,false)⟩,⟨some 46,.load 1 false (.t 45),some (44,false)⟩,⟨some 47,.arith .neq (.t 46) (kI 2),some (44,false)⟩,⟨some 48,.mv (.t 47) false,some (44,false)⟩,⟨some 49,.fadr 0 (.t 2),some (48,true)⟩,⟨some 50,.load 1 false (.t 49),some (48,true)⟩,⟨some 51,.arith .neq (.t 50) (kI 21),some (48,true)⟩,⟨some 52,.pick (.t 48) (.t 51) (.c (.p (.bool false))),some (44,false)⟩,⟨some 53,.mv (.t 52) false,some (44,false)⟩,⟨some 54,.fadr 2 (.t 2),some (53,true)⟩,⟨some 55,.load 1 false (.t 54),some (53,true)⟩,⟨some 56,.arith .neq (.t 55) (.c (.p (.int .u64 0))),some (53,true)⟩,⟨some 57,.pick (.t 53) (.t 56) (.c (.p (.bool false))),some (44,false)⟩,opI 58 (.pick (.t 44) (.c (.p (.bool true))) (.t 57))])
  (.cond (.t 58) (.seq (.reg false [mvI 4 (kI 4)])
  .ret) .skip))
  (.seq (.seq (.reg false [opI 59 (.load 5 true (.t 2)),opI 60 (.callf f_r24_variable [(.t 59)]),mvI 61 (.t 60),⟨some 62,.fadr 3 (.t 2),some (61,true)⟩,⟨some 63,.load 1 false (.t 62),some (61,true)⟩,⟨some 64,.callf f_r07_Name [(.t 63)],some (61,true)⟩,⟨some 65,.not (.t 64),some (61,true)⟩,opI 66 (.pick (.t 61) (.t 65) (.c (.p (.bool false))))])
  (.cond (.t 66) (.seq (.reg false [mvI 4 (kI 5)])
  .ret) .skip))
  (.seq (.reg true [opI 68 (.fadr 0 (.t 2)),opI 69 (.load 1 false (.t 68)),opI 70 (.fadr 1 (.t 2)),opI 71 (.load 1 false (.t 70)),opI 72 (.fadr 2 (.t 2)),opI 73 (.load 1 false (.t 72)),opI 74 (.load 5 true (.t 2)),opI 75 (.callf f_r24_widths [(.t 74)]),opI 76 (.callf f_r04_Width [(.t 69),(.t 71),(.t 73),(.t 75)]),mvI 67 (.t 76),opI 77 (.extract (.t 67) 0),opI 78 (.extract (.t 67) 1),mvI 5 (.t 77),mvI 6 (.t 78)])
  (.seq (.seq (.reg false [mvI 79 (.t 6),opI 80 (.arith .neq (.t 79) (kI 0)),mvI 81 (.t 80),⟨some 82,.mv (.t 5) false,some (81,false)⟩,⟨some 83,.fadr 1 (.t 2),some (81,false)⟩,⟨some 84,.load 1 false (.t 83),some (81,false)⟩,⟨some 85,.arith .neq (.t 82) (.t 84),some (81,false)⟩,opI 86 (.pick (.t 81) (.c (.p (.bool true))) (.t 85))])
  (.cond (.t 86) (.seq (.reg false [mvI 4 (kI 3)])
  .ret) .skip))
  (.seq (.seq (.reg false [opI 87 (.fadr 0 (.t 2)),opI 88 (.load 1 false (.t 87)),opI 89 (.arith .neq (.t 88) (kI 26))])
  (.cond (.t 89) (.seq (.reg false [mvI 4 (kI 0)])
  .ret) .skip))
  (.seq (.reg false [opI 90 (.fadr 4 (.t 2)),opI 91 (.load 1 false (.t 90)),opI 92 (.iadrS 5 (.t 91) (kI 0)),opI 93 (.load 5 true (.t 92)),opI 94 (.callf f_r24_Postorder [(.t 93)]),mvI 7 (.t 94)])
  (.seq (.seq (.reg false [mvI 8 (kI 0)])
  (.block 0 L0_r24_node))
  (.seq (.reg false [mvI 4 (kI 0)])
  .ret)))))))))),false⟩
def B1_r24_names:K :=
  (.seq (.seq (.reg false [mvI 24 (.t 8),mvI 25 (.t 6),opI 26 (.arith .lss (.t 24) (.t 25))])
  (.cond (.t 26) .skip (.exit 2)))
  (.seq (.block 3 (.seq (.reg true [mvI 29 (.t 4),mvI 30 (.t 8),opI 31 (.iadrS 5 (.t 29) (.t 30)),opI 32 (.load 5 true (.t 31)),opI 33 (.callf f_r24_variable [(.t 32)]),mvI 34 (.t 33),⟨some 35,.mv (.t 4) false,some (34,true)⟩,⟨some 36,.mv (.t 8) false,some (34,true)⟩,⟨some 37,.iadrS 5 (.t 35) (.t 36),some (34,true)⟩,⟨some 38,.fadr 3 (.t 37),some (34,true)⟩,⟨some 39,.load 1 false (.t 38),some (34,true)⟩,⟨some 40,.mv (.t 4) false,some (34,true)⟩,⟨some 41,.mv (.t 6) false,some (34,true)⟩,⟨some 42,.iadrS 5 (.t 40) (.t 41),some (34,true)⟩,⟨some 43,.fadr 3 (.t 42),some (34,true)⟩,⟨some 44,.load 1 false (.t 43),some (34,true)⟩,⟨some 45,.arith .eql (.t 39) (.t 44),some (34,true)⟩,opI 46 (.pick (.t 34) (.t 45) (.c (.p (.bool false))))])
  (.cond (.t 46) (.seq (.reg false [mvI 7 (.c (.p (.bool true)))])
  (.seq (.reg true [mvI 47 (.t 4),mvI 48 (.t 8),opI 49 (.iadrS 5 (.t 47) (.t 48)),opI 50 (.fadr 1 (.t 49)),opI 51 (.load 1 false (.t 50)),mvI 52 (.t 4),mvI 53 (.t 6),opI 54 (.iadrS 5 (.t 52) (.t 53)),opI 55 (.fadr 1 (.t 54)),opI 56 (.load 1 false (.t 55)),opI 57 (.arith .neq (.t 51) (.t 56)),mvI 58 (.t 57),⟨some 59,.mv (.t 4) false,some (58,false)⟩,⟨some 60,.mv (.t 8) false,some (58,false)⟩,⟨some 61,.iadrS 5 (.t 59) (.t 60),some (58,false)⟩,⟨some 62,.fadr 0 (.t 61),some (58,false)⟩,⟨some 63,.load 1 false (.t 62),some (58,false)⟩,⟨some 64,.mv (.t 4) false,some (58,false)⟩,⟨some 65,.mv (.t 6) false,some (58,false)⟩,⟨some 66,.iadrS 5 (.t 64) (.t 65),some (58,false)⟩,⟨some 67,.fadr 0 (.t 66),some (58,false)⟩,⟨some 68,.load 1 false (.t 67),some (58,false)⟩,⟨some 69,.arith .neq (.t 63) (.t 68),some (58,false)⟩,opI 70 (.pick (.t 58) (.c (.p (.bool true))) (.t 69))])
  (.cond (.t 70) (.seq (.reg false [mvI 2 (.c .nils),mvI 3 (.c (.p (.bool false)))])
  .ret) .skip))) .skip)))
  (.reg false [mvI 27 (.t 8),opI 28 (.arith .add (.t 27) (kI 1)),mvI 8 (.t 28)])))
def L1_r24_names:K:=.loop [4,5,6,7,8] B1_r24_names
def B0_r24_names:K :=
  (.seq (.seq (.reg false [mvI 12 (.t 6),mvI 13 (.t 4),opI 14 (.lenS (.t 13)),opI 15 (.arith .lss (.t 12) (.t 14))])
  (.cond (.t 15) .skip (.exit 0)))
  (.seq (.block 1 (.seq (.seq (.reg false [mvI 18 (.t 4),mvI 19 (.t 6),opI 20 (.iadrS 5 (.t 18) (.t 19)),opI 21 (.load 5 true (.t 20)),opI 22 (.callf f_r24_variable [(.t 21)]),opI 23 (.not (.t 22))])
  (.cond (.t 23) (.exit 1) .skip))
  (.seq (.reg false [mvI 7 (.c (.p (.bool false)))])
  (.seq (.seq (.reg false [mvI 8 (kI 0)])
  (.block 2 L1_r24_names))
  (.seq (.reg false [mvI 71 (.t 7),opI 72 (.not (.t 71))])
  (.cond (.t 72) (.reg false [mvI 73 (.t 5),mvI 74 (.t 4),mvI 75 (.t 6),opI 76 (.iadrS 5 (.t 74) (.t 75)),opI 77 (.fadr 3 (.t 76)),opI 78 (.load 1 false (.t 77)),opI 79 (.bslice 1 [(.p (.str (bs [])))] 1 [(0,1,(.t 78))]),opI 80 (.append 1 16 (.t 73) (.t 79)),opI 5 (.mv (.t 80) true)]) .skip))))))
  (.reg false [mvI 16 (.t 6),opI 17 (.arith .add (.t 16) (kI 1)),mvI 6 (.t 17)])))
def L0_r24_names:K:=.loop [4,5,6] B0_r24_names
def F_r24_names:AFn:=⟨82,[.tmp 2,.tmp 3],
  (.seq (.reg false [opI 1 (.box 5 true (.t 0) true),mvI 2 (.c .nils),mvI 3 (.c (.p (.bool false)))])
  (.seq (.reg false [opI 9 (.load 5 true (.t 1)),opI 10 (.callf f_r24_Preorder [(.t 9)]),mvI 4 (.t 10)])
  (.seq (.reg false [opI 11 (.bslice 1 [(.p (.str (bs [])))] 0 []),opI 5 (.mv (.t 11) true)])
  (.seq (.seq (.reg false [mvI 6 (kI 0)])
  (.block 0 L0_r24_names))
  (.seq (.reg false [mvI 81 (.t 5),mvI 2 (.t 81),mvI 3 (.c (.p (.bool true)))])
  .ret))))),false⟩
def B0_r24_Preorder:K :=
  (.seq (.seq (.reg false [mvI 7 (.t 4),opI 8 (.fadr 4 (.t 1)),opI 9 (.load 1 false (.t 8)),opI 10 (.lenS (.t 9)),opI 11 (.arith .lss (.t 7) (.t 10))])
  (.cond (.t 11) .skip (.exit 0)))
  (.seq (.block 1 (.reg false [mvI 14 (.t 3),opI 15 (.fadr 4 (.t 1)),opI 16 (.load 1 false (.t 15)),mvI 17 (.t 4),opI 18 (.iadrS 5 (.t 16) (.t 17)),opI 19 (.load 5 true (.t 18)),opI 20 (.callf f_r24_Preorder [(.t 19)]),opI 21 (.append 5 64 (.t 14) (.t 20)),opI 3 (.mv (.t 21) true)]))
  (.reg false [mvI 12 (.t 4),opI 13 (.arith .add (.t 12) (kI 1)),mvI 4 (.t 13)])))
def L0_r24_Preorder:K:=.loop [1,3,4] B0_r24_Preorder
def F_r24_Preorder:AFn:=⟨23,[.tmp 2],
  (.seq (.reg false [opI 1 (.box 5 true (.t 0) true),mvI 2 (.c .nils)])
  (.seq (.reg false [opI 5 (.load 5 true (.t 1)),opI 6 (.bslice 5 [(.p (.int .i64 0)),(.p (.int .i64 0)),(.p (.int .u64 0)),(.p (.str (bs []))),.nils] 1 [(0,5,(.t 5))]),opI 3 (.mv (.t 6) true)])
  (.seq (.seq (.reg false [mvI 4 (kI 0)])
  (.block 0 L0_r24_Preorder))
  (.seq (.reg false [mvI 22 (.t 3),mvI 2 (.t 22)])
  .ret)))),false⟩
def F_program_compiler_width:AFn:=⟨14,[],
  (.seq (.reg false [mvI 8 (.t 3),opI 9 (.not (.t 8))])
  (.cond (.t 9) (.reg false [mvI 10 (.t 0),mvI 11 (.t 1),mvI 12 (.t 2),opI 13 (.callf f_program_compiler_emit [(.t 10),(kI 6),(.t 11),(.t 12)])]) .skip)),true⟩
def F_pattern_Ground:AFn:=⟨7,[.tmp 2],
  (.seq (.reg false [opI 1 (.box 5 true (.t 0) true),mvI 2 (.c (.p (.bool false)))])
  (.seq (.reg false [opI 3 (.load 5 true (.t 1)),opI 4 (.bslice 1 [(.p (.int .i64 0))] 3 [(0,1,(kI 24)),(1,1,(kI 25)),(2,1,(kI 26))]),opI 5 (.callf f_pattern_has [(.t 3),(.t 4)]),opI 6 (.not (.t 5)),mvI 2 (.t 6)])
  .ret)),false⟩
def F_program_determined:AFn:=⟨12,[.tmp 2],
  (.seq (.reg false [mvI 2 (.c (.p (.bool false)))])
  (.seq (.seq (.reg false [mvI 3 (.t 0)])
  (.block 0 (.seq (.seq (.reg false [opI 5 (.arith .eql (.t 3) (kI 16)),mvI 4 (.t 5)])
  (.cond (.t 4) .skip (.seq (.reg false [opI 6 (.arith .eql (.t 3) (kI 17)),mvI 4 (.t 6)])
  (.cond (.t 4) .skip (.seq (.reg false [opI 7 (.arith .eql (.t 3) (kI 18)),mvI 4 (.t 7)])
  (.cond (.t 4) .skip (.seq (.reg false [opI 8 (.arith .eql (.t 3) (kI 20)),mvI 4 (.t 8)])
  (.cond (.t 4) .skip (.seq (.reg false [opI 9 (.arith .eql (.t 3) (kI 21)),mvI 4 (.t 9)])
  (.cond (.t 4) .skip (.seq (.reg false [opI 10 (.arith .eql (.t 3) (kI 22)),mvI 4 (.t 10)])
  (.cond (.t 4) .skip (.reg false [opI 11 (.arith .eql (.t 3) (kI 23)),mvI 4 (.t 11)])))))))))))))
  (.cond (.t 4) (.seq (.reg false [mvI 2 (.c (.p (.bool false)))])
  .ret) .skip))))
  (.seq (.reg false [mvI 2 (.c (.p (.bool true)))])
  .ret))),false⟩
def F_program_checker_set:AFn:=⟨31,[.tmp 4],
  (.seq (.reg false [mvI 4 (.c (.p (.bool false)))])
  (.seq (.reg false [mvI 6 (.t 1),opI 7 (.arith .geq (.t 6) (kI 0)),mvI 8 (.t 7),⟨some 9,.mv (.t 1) false,some (8,true)⟩,⟨some 10,.mv (.t 0) false,some (8,true)⟩,⟨some 11,.nilchk (.t 10),some (8,true)⟩,⟨some 12,.fadr 2 (.t 11),some (8,true)⟩,⟨some 13,.load 1 false (.t 12),some (8,true)⟩,⟨some 14,.arith .lss (.t 9) (.t 13),some (8,true)⟩,opI 15 (.pick (.t 8) (.t 14) (.c (.p (.bool false)))),mvI 16 (.t 15),⟨some 17,.mv (.t 0) false,some (16,true)⟩,⟨some 18,.nilchk (.t 17),some (16,true)⟩,⟨some 19,.fadr 0 (.t 18),some (16,true)⟩,⟨some 20,.load 1 false (.t 19),some (16,true)⟩,⟨some 21,.mv (.t 1) false,some (16,true)⟩,⟨some 22,.lookup .int (.p (.bool false)) (.t 20) (.t 21) false,some (16,true)⟩,⟨some 23,.not (.t 22),some (16,true)⟩,opI 24 (.pick (.t 16) (.t 23) (.c (.p (.bool false)))),mvI 5 (.t 24)])
  (.seq (.reg false [mvI 25 (.t 0),opI 26 (.nilchk (.t 25)),opI 27 (.fadr 0 (.t 26)),opI 28 (.load 1 false (.t 27)),mvI 29 (.t 1),⟨none,.mupd .int (.t 28) (.t 29) (.c (.p (.bool true))),none⟩])
  (.seq (.reg false [mvI 30 (.t 5),mvI 4 (.t 30)])
  .ret)))),true⟩
def F_opinfo_Arity:AFn:=⟨42,[.tmp 2],
  (.seq (.reg false [mvI 2 (kI 0)])
  (.seq (.reg false [mvI 3 (kI 0)])
  (.seq (.seq (.reg false [mvI 4 (.t 0)])
  (.block 0 (.seq (.block 4 (.seq (.block 3 (.seq (.block 2 (.seq (.block 1 (.seq (.seq (.seq (.reg false [opI 6 (.arith .eql (.t 4) (kI 19)),mvI 5 (.t 6)])
  (.cond (.t 5) (.exit 1) .skip))
  (.seq (.seq (.seq (.reg false [opI 8 (.arith .eql (.t 4) (kI 5)),mvI 7 (.t 8)])
  (.cond (.t 7) .skip (.seq (.reg false [opI 9 (.arith .eql (.t 4) (kI 6)),mvI 7 (.t 9)])
  (.cond (.t 7) .skip (.seq (.reg false [opI 10 (.arith .eql (.t 4) (kI 7)),mvI 7 (.t 10)])
  (.cond (.t 7) .skip (.seq (.reg false [opI 11 (.arith .eql (.t 4) (kI 8)),mvI 7 (.t 11)])
  (.cond (.t 7) .skip (.seq (.reg false [opI 12 (.arith .eql (.t 4) (kI 9)),mvI 7 (.t 12)])
  (.cond (.t 7) .skip (.seq (.reg false [opI 13 (.arith .eql (.t 4) (kI 10)),mvI 7 (.t 13)])
  (.cond (.t 7) .skip (.seq (.reg false [opI 14 (.arith .eql (.t 4) (kI 11)),mvI 7 (.t 14)])
  (.cond (.t 7) .skip (.seq (.reg false [opI 15 (.arith .eql (.t 4) (kI 12)),mvI 7 (.t 15)])
  (.cond (.t 7) .skip (.seq (.reg false [opI 16 (.arith .eql (.t 4) (kI 13)),mvI 7 (.t 16)])
  (.cond (.t 7) .skip (.seq (.reg false [opI 17 (.arith .eql (.t 4) (kI 14)),mvI 7 (.t 17)])
  (.cond (.t 7) .skip (.seq (.reg false [opI 18 (.arith .eql (.t 4) (kI 15)),mvI 7 (.t 18)])
  (.cond (.t 7) .skip (.seq (.reg false [opI 19 (.arith .eql (.t 4) (kI 16)),mvI 7 (.t 19)])
  (.cond (.t 7) .skip (.seq (.reg false [opI 20 (.arith .eql (.t 4) (kI 17)),mvI 7 (.t 20)])
  (.cond (.t 7) .skip (.seq (.reg false [opI 21 (.arith .eql (.t 4) (kI 18)),mvI 7 (.t 21)])
  (.cond (.t 7) .skip (.reg false [opI 22 (.arith .eql (.t 4) (kI 20)),mvI 7 (.t 22)])))))))))))))))))))))))))))))
  (.cond (.t 7) (.exit 2) .skip))
  (.seq (.seq (.seq (.reg false [opI 24 (.arith .eql (.t 4) (kI 3)),mvI 23 (.t 24)])
  (.cond (.t 23) .skip (.seq (.reg false [opI 25 (.arith .eql (.t 4) (kI 4)),mvI 23 (.t 25)])
  (.cond (.t 23) .skip (.seq (.reg false [opI 26 (.arith .eql (.t 4) (kI 21)),mvI 23 (.t 26)])
  (.cond (.t 23) .skip (.seq (.reg false [opI 27 (.arith .eql (.t 4) (kI 22)),mvI 23 (.t 27)])
  (.cond (.t 23) .skip (.seq (.reg false [opI 28 (.arith .eql (.t 4) (kI 23)),mvI 23 (.t 28)])
  (.cond (.t 23) .skip (.reg false [opI 29 (.arith .eql (.t 4) (kI 26)),mvI 23 (.t 29)])))))))))))
  (.cond (.t 23) (.exit 3) .skip))
  (.seq (.seq (.reg false [opI 31 (.arith .eql (.t 4) (kI 1)),mvI 30 (.t 31)])
  (.cond (.t 30) .skip (.seq (.reg false [opI 32 (.arith .eql (.t 4) (kI 2)),mvI 30 (.t 32)])
  (.cond (.t 30) .skip (.seq (.reg false [opI 33 (.arith .eql (.t 4) (kI 24)),mvI 30 (.t 33)])
  (.cond (.t 30) .skip (.reg false [opI 34 (.arith .eql (.t 4) (kI 25)),mvI 30 (.t 34)])))))))
  (.cond (.t 30) (.exit 4) .skip)))))
  (.exit 0)))
  (.reg false [mvI 35 (.t 3),opI 36 (.arith .add (.t 35) (kI 1)),mvI 3 (.t 36)])))
  (.reg false [mvI 37 (.t 3),opI 38 (.arith .add (.t 37) (kI 1)),mvI 3 (.t 38)])))
  (.reg false [mvI 39 (.t 3),opI 40 (.arith .add (.t 39) (kI 1)),mvI 3 (.t 40)])))
  (.seq (.seq (.reg false [mvI 41 (.t 3),mvI 2 (.t 41)])
  .ret)
  (.exit 0)))))
  (.seq (.reg false [mvI 2 (kI (-1))])
  .ret)))),false⟩
def F_opinfo_Pattern:AFn:=⟨9,[.tmp 2],
  (.seq (.reg false [mvI 2 (.c (.p (.bool false)))])
  (.seq (.reg false [mvI 3 (.t 0),opI 4 (.arith .geq (.t 3) (kI 24)),mvI 5 (.t 4),⟨some 6,.mv (.t 0) false,some (5,true)⟩,⟨some 7,.arith .leq (.t 6) (kI 26),some (5,true)⟩,opI 8 (.pick (.t 5) (.t 7) (.c (.p (.bool false)))),mvI 2 (.t 8)])
  .ret)),false⟩
def B0_program_checker_setAll:K :=
  (.seq (.reg false [opI 10 (.arith .lss (.t 9) (.t 8))])
  (.seq (.cond (.t 10) .skip (.exit 0))
  (.seq (.block 1 (.seq (.reg false [mvI 11 (.t 9),mvI 7 (.t 11)])
  (.seq (.reg false [mvI 12 (.t 1),mvI 13 (.t 0),opI 14 (.nilchk (.t 13)),opI 15 (.fadr 2 (.t 14)),opI 16 (.load 1 false (.t 15)),opI 17 (.arith .gtr (.t 12) (.t 16)),mvI 18 (.t 17),⟨some 19,.mv (.t 0) false,some (18,false)⟩,⟨some 20,.mv (.t 1) false,some (18,false)⟩,⟨some 21,.mv (.t 7) false,some (18,false)⟩,⟨some 22,.arith .add (.t 20) (.t 21),some (18,false)⟩,⟨some 23,.callf f_program_checker_set [(.t 19),(.t 22)],some (18,false)⟩,⟨some 24,.not (.t 23),some (18,false)⟩,opI 25 (.pick (.t 18) (.c (.p (.bool true))) (.t 24))])
  (.cond (.t 25) (.seq (.reg false [mvI 6 (.c (.p (.bool false)))])
  .ret) .skip))))
  (.reg false [opI 26 (.arith .add (.t 9) (kI 1)),mvI 9 (.t 26)]))))
def L0_program_checker_setAll:K:=.loop [0,1,8,9] B0_program_checker_setAll
def F_program_checker_setAll:AFn:=⟨27,[.tmp 6],
  (.seq (.reg false [mvI 6 (.c (.p (.bool false)))])
  (.seq (.seq (.reg false [mvI 8 (.t 2),mvI 9 (kI 0)])
  (.block 0 L0_program_checker_setAll))
  (.seq (.reg false [mvI 6 (.c (.p (.bool true)))])
  .ret))),true⟩
def A0_term_Check:K :=
  (.reg false [opI 7 (.init 5 true (.t 21) true)])
def B0_term_Check:K :=
  (.block 1 (.seq (.seq (.reg false [opI 22 (.load 5 true (.t 7)),opI 23 (.callf f_term_node [(.t 22)]),mvI 8 (.t 23)])
  (.seq (.reg false [mvI 24 (.t 8),opI 25 (.arith .neq (.t 24) (kI 0))])
  (.cond (.t 25) (.seq (.reg false [mvI 26 (.t 8),⟨none,.store 1 (.t 2) (.t 26),none⟩])
  .ret) .skip)))
  (.seq (.reg false [opI 27 (.fadr 0 (.t 7)),opI 28 (.load 1 false (.t 27)),opI 29 (.arith .eql (.t 28) (kI 1))])
  (.cond (.t 29) (.seq (.reg false [opI 31 (.load 1 false (.t 5)),opI 32 (.fadr 3 (.t 7)),opI 33 (.load 1 false (.t 32)),opI 34 (.lookup .str (.p (.int .i64 0)) (.t 31) (.t 33) true),mvI 30 (.t 34),opI 35 (.extract (.t 30) 0),opI 36 (.extract (.t 30) 1),mvI 9 (.t 35),mvI 10 (.t 36)])
  (.seq (.reg false [opI 37 (.load 1 false (.t 6)),mvI 38 (.t 37),⟨some 39,.mv (.t 10) false,some (38,false)⟩,⟨some 40,.mv (.t 39) false,some (38,false)⟩,⟨some 41,.mv (.t 9) false,some (40,true)⟩,⟨some 42,.fadr 1 (.t 7),some (40,true)⟩,⟨some 43,.load 1 false (.t 42),some (40,true)⟩,⟨some 44,.arith .neq (.t 41) (.t 43),some (40,true)⟩,⟨some 45,.pick (.t 40) (.t 44) (.c (.p (.bool false))),some (38,false)⟩,opI 46 (.pick (.t 38) (.c (.p (.bool true))) (.t 45)),⟨none,.store 1 (.t 6) (.t 46),none⟩])
  (.reg false [opI 47 (.load 1 false (.t 5)),opI 48 (.fadr 3 (.t 7)),opI 49 (.load 1 false (.t 48)),opI 50 (.fadr 1 (.t 7)),opI 51 (.load 1 false (.t 50)),⟨none,.mupd .str (.t 47) (.t 49) (.t 51),none⟩]))) .skip))))
def R0_term_Check:K:=.range (.t 20) [21] [2,5,6] A0_term_Check B0_term_Check
def F_term_Check:AFn:=⟨53,[.cell 2 1 false],
  (.seq (.reg false [opI 1 (.box 5 true (.t 0) true),opI 2 (.alloc [(.p (.int .i64 0))] 1)])
  (.seq (.seq (.reg false [opI 12 (.load 5 true (.t 1)),opI 13 (.callf f_term_measure [(.t 12),(kI 4096),(kI 64)]),mvI 11 (.t 13),opI 14 (.extract (.t 11) 0),opI 15 (.extract (.t 11) 1),mvI 3 (.t 14),mvI 4 (.t 15)])
  (.seq (.reg false [mvI 16 (.t 4),opI 17 (.not (.t 16))])
  (.cond (.t 17) (.seq (.reg false [⟨none,.store 1 (.t 2) (kI 7),none⟩])
  .ret) .skip)))
  (.seq (.reg false [opI 18 (.mkmap),opI 5 (.init 1 false (.t 18) true)])
  (.seq (.reg false [opI 6 (.init 1 false (.c (.p (.bool false))) false)])
  (.seq (.seq (.reg false [opI 19 (.load 5 true (.t 1)),opI 20 (.callf f_term_All [(.t 19)])])
  (.block 0 R0_term_Check))
  (.seq (.seq (.reg false [opI 52 (.load 1 false (.t 6))])
  (.cond (.t 52) (.seq (.reg false [⟨none,.store 1 (.t 2) (kI 12),none⟩])
  .ret) .skip))
  (.seq (.reg false [⟨none,.store 1 (.t 2) (kI 0),none⟩])
  .ret))))))),false⟩
def B0_r06_Pre:K :=
  (.seq (.seq (.reg false [mvI 7 (.t 4),opI 8 (.fadr 4 (.t 1)),opI 9 (.load 1 false (.t 8)),opI 10 (.lenS (.t 9)),opI 11 (.arith .lss (.t 7) (.t 10))])
  (.cond (.t 11) .skip (.exit 0)))
  (.seq (.block 1 (.reg false [mvI 14 (.t 3),opI 15 (.fadr 4 (.t 1)),opI 16 (.load 1 false (.t 15)),mvI 17 (.t 4),opI 18 (.iadrS 5 (.t 16) (.t 17)),opI 19 (.load 5 true (.t 18)),opI 20 (.callf f_r06_Pre [(.t 19)]),opI 21 (.append 5 64 (.t 14) (.t 20)),opI 3 (.mv (.t 21) true)]))
  (.reg false [mvI 12 (.t 4),opI 13 (.arith .add (.t 12) (kI 1)),mvI 4 (.t 13)])))
def L0_r06_Pre:K:=.loop [1,3,4] B0_r06_Pre
def F_r06_Pre:AFn:=⟨23,[.tmp 2],
  (.seq (.reg false [opI 1 (.box 5 true (.t 0) true),mvI 2 (.c .nils)])
  (.seq (.reg false [opI 5 (.load 5 true (.t 1)),opI 6 (.bslice 5 [(.p (.int .i64 0)),(.p (.int .i64 0)),(.p (.int .u64 0)),(.p (.str (bs []))),.nils] 1 [(0,5,(.t 5))]),opI 3 (.mv (.t 6) true)])
  (.seq (.seq (.reg false [mvI 4 (kI 0)])
  (.block 0 L0_r06_Pre))
  (.seq (.reg false [mvI 22 (.t 3),mvI 2 (.t 22)])
  .ret)))),false⟩
def F_pattern_node:AFn:=⟨102,[.tmp 4],
  (.seq (.reg false [opI 2 (.box 5 true (.t 0) true),mvI 4 (kI 0)])
  (.seq (.reg false [opI 8 (.fadr 0 (.t 2)),opI 9 (.load 1 false (.t 8)),opI 10 (.callf f_opinfo_Arity [(.t 9)]),mvI 5 (.t 10)])
  (.seq (.block 0 (.seq (.reg false [mvI 12 (.t 5),opI 13 (.arith .lss (.t 12) (kI 0)),mvI 14 (.t 13),⟨some 15,.fadr 0 (.t 2),some (14,false)⟩,⟨some 16,.load 1 false (.t 15),some (14,false)⟩,⟨some 17,.arith .eql (.t 16) (kI 1),some (14,false)⟩,opI 18 (.pick (.t 14) (.c (.p (.bool true))) (.t 17)),mvI 19 (.t 18),⟨some 20,.fadr 0 (.t 2),some (19,false)⟩,⟨some 21,.load 1 false (.t 20),some (19,false)⟩,⟨some 22,.arith .eql (.t 21) (kI 26),some (19,false)⟩,⟨some 23,.mv (.t 22) false,some (19,false)⟩,⟨some 24,.mv (.t 1) false,some (23,true)⟩,⟨some 25,.not (.t 24),some (23,true)⟩,⟨some 26,.pick (.t 23) (.t 25) (.c (.p (.bool false))),some (19,false)⟩,opI 27 (.pick (.t 19) (.c (.p (.bool true))) (.t 26)),mvI 28 (.t 27),⟨some 29,.fadr 4 (.t 2),some (28,false)⟩,⟨some 30,.load 1 false (.t 29),some (28,false)⟩,⟨some 31,.lenS (.t 30),some (28,false)⟩,⟨some 32,.mv (.t 5) false,some (28,false)⟩,⟨some 33,.arith .neq (.t 31) (.t 32),some (28,false)⟩,opI 34 (.pick (.t 28) (.c (.p (.bool true))) (.t 33)),mvI 11 (.t 34)])
  (.cond (.t 11) (.seq (.reg false [mvI 4 (kI 4)])
  .ret) (.seq (.reg false [opI 36 (.fadr 3 (.t 2)),opI 37 (.load 1 false (.t 36)),opI 38 (.arith .neq (.t 37) (.c (.p (.str (bs []))))),mvI 39 (.t 38),⟨some 40,.fadr 0 (.t 2),some (39,true)⟩,⟨some 41,.load 1 false (.t 40),some (39,true)⟩,⟨some 42,.callf f_pattern_variable [(.t 41)],some (39,true)⟩,⟨some 43,.not (.t 42),some (39,true)⟩,opI 44 (.pick (.t 39) (.t 43) (.c (.p (.bool false)))),mvI 45 (.t 44),⟨some 46,.fadr 2 (.t 2),some (45,false)⟩,⟨some 47,.load 1 false (.t 46),some (45,false)⟩,⟨some 48,.arith .neq (.t 47) (.c (.p (.int .u64 0))),some (45,false)⟩,⟨some 49,.mv (.t 48) false,some (45,false)⟩,⟨some 50,.fadr 0 (.t 2),some (49,true)⟩,⟨some 51,.load 1 false (.t 50),some (49,true)⟩,⟨some 52,.arith .neq (.t 51) (kI 2),some (49,true)⟩,⟨some 53,.pick (.t 49) (.t 52) (.c (.p (.bool false))),some (45,false)⟩,⟨some 54,.mv (.t 53) false,some (45,false)⟩,⟨some 55,.fadr 0 (.t 2),some (54,true)⟩,⟨some 56,.load 1 false (.t 55),some (54,true)⟩,⟨some 57,.arith .neq (.t 56) (kI 21),some (54,true)⟩,⟨some 58,.pick (.t 54) (.t 57) (.c (.p (.bool false))),some (45,false)⟩,opI 59 (.pick (.t 45) (.c (.p (.bool true))) (.t 58)),mvI 35 (.t 59)])
  (.cond (.t 35) (.seq (.reg false [mvI 4 (kI 4)])
  .ret) (.seq (.reg false [opI 61 (.fadr 0 (.t 2)),opI 62 (.load 1 false (.t 61)),opI 63 (.callf f_pattern_variable [(.t 62)]),mvI 64 (.t 63),⟨some 65,.fadr 3 (.t 2),some (64,true)⟩,⟨some 66,.load 1 false (.t 65),some (64,true)⟩,⟨some 67,.callf f_term_Name [(.t 66)],some (64,true)⟩,⟨some 68,.not (.t 67),some (64,true)⟩,opI 69 (.pick (.t 64) (.t 68) (.c (.p (.bool false)))),mvI 60 (.t 69)])
  (.cond (.t 60) (.seq (.reg false [mvI 4 (kI 5)])
  .ret) .skip)))))))
  (.seq (.reg true [opI 71 (.fadr 0 (.t 2)),opI 72 (.load 1 false (.t 71)),opI 73 (.fadr 1 (.t 2)),opI 74 (.load 1 false (.t 73)),opI 75 (.fadr 2 (.t 2)),opI 76 (.load 1 false (.t 75)),opI 77 (.fadr 4 (.t 2)),opI 78 (.load 1 false (.t 77)),opI 79 (.callf f_pattern_widths [(.t 78)]),opI 80 (.callf f_opinfo_Width [(.t 72),(.t 74),(.t 76),(.t 79)]),mvI 70 (.t 80),opI 81 (.extract (.t 70) 0),opI 82 (.extract (.t 70) 1),mvI 6 (.t 81),mvI 7 (.t 82)])
  (.seq (.seq (.reg false [mvI 83 (.t 7),opI 84 (.arith .neq (.t 83) (kI 0)),mvI 85 (.t 84),⟨some 86,.mv (.t 6) false,some (85,false)⟩,⟨some 87,.fadr 1 (.t 2),some (85,false)⟩,⟨some 88,.load 1 false (.t 87),some (85,false)⟩,⟨some 89,.arith .neq (.t 86) (.t 88),some (85,false)⟩,opI 90 (.pick (.t 85) (.c (.p (.bool true))) (.t 89))])
  (.cond (.t 90) (.seq (.reg false [mvI 4 (kI 3)])
  .ret) .skip))
  (.seq (.seq (.reg false [opI 91 (.fadr 0 (.t 2)),opI 92 (.load 1 false (.t 91)),opI 93 (.arith .eql (.t 92) (kI 26)),mvI 94 (.t 93),⟨some 95,.fadr 4 (.t 2),some (94,true)⟩,⟨some 96,.load 1 false (.t 95),some (94,true)⟩,⟨some 97,.iadrS 5 (.t 96) (kI 0),some (94,true)⟩,⟨some 98,.load 5 true (.t 97),some (94,true)⟩,⟨some 99,.bslice 1 [(.p (.int .i64 0))] 2 [(0,1,(kI 24)),(1,1,(kI 26))],some (94,true)⟩,⟨some 100,.callf f_pattern_has [(.t 98),(.t 99)],some (94,true)⟩,opI 101 (.pick (.t 94) (.t 100) (.c (.p (.bool false))))])
  (.cond (.t 101) (.seq (.reg false [mvI 4 (kI 12)])
  .ret) .skip))
  (.seq (.reg false [mvI 4 (kI 0)])
  .ret))))))),false⟩
def F_pattern_preorder_1:AFn:=⟨6,[],
  (.reg false [opI 3 (.load 5 true (.t 1)),mvI 4 (.t 0),opI 5 (.callf f_pattern_visit [(.t 3),(.t 4)])]),true⟩
def B0_pattern_visit:K :=
  (.seq (.reg false [opI 15 (.arith .lss (.t 14) (.t 13))])
  (.seq (.cond (.t 15) .skip (.exit 0))
  (.seq (.block 1 (.seq (.reg false [opI 16 (.iadrS 5 (.t 12) (.t 14)),opI 17 (.load 5 true (.t 16)),opI 6 (.init 5 true (.t 17) true)])
  (.seq (.reg false [opI 18 (.load 5 true (.t 6)),mvI 19 (.t 1),opI 20 (.callf f_pattern_visit [(.t 18),(.t 19)]),opI 21 (.not (.t 20))])
  (.cond (.t 21) (.seq (.reg false [mvI 4 (.c (.p (.bool false)))])
  .ret) .skip))))
  (.reg false [opI 22 (.arith .add (.t 14) (kI 1)),mvI 14 (.t 22)]))))
def L0_pattern_visit:K:=.loop [1,12,13,14] B0_pattern_visit
def F_pattern_visit:AFn:=⟨23,[.tmp 4],
  (.seq (.reg false [opI 2 (.box 5 true (.t 0) true),mvI 4 (.c (.p (.bool false)))])
  (.seq (.seq (.reg false [mvI 7 (.t 1),opI 8 (.load 5 true (.t 2)),opI 9 (.callv (.t 7) [(.t 8)]),opI 10 (.not (.t 9))])
  (.cond (.t 10) (.seq (.reg false [mvI 4 (.c (.p (.bool false)))])
  .ret) .skip))
  (.seq (.seq (.reg false [opI 11 (.fadr 4 (.t 2)),opI 12 (.load 1 false (.t 11)),opI 13 (.lenS (.t 12)),mvI 14 (kI 0)])
  (.block 0 L0_pattern_visit))
  (.seq (.reg false [mvI 4 (.c (.p (.bool true)))])
  .ret)))),true⟩
def B0_r10_left:K :=
  (.seq (.reg false [opI 12 (.arith .lss (.t 11) (.t 10))])
  (.seq (.cond (.t 12) .skip (.exit 0))
  (.seq (.block 1 (.seq (.reg false [mvI 13 (.t 11),mvI 5 (.t 13)])
  (.seq (.seq (.reg false [mvI 14 (.t 1),opI 15 (.arith .lss (.t 14) (kI 0))])
  (.cond (.t 15) (.seq (.reg false [mvI 4 (kI (-1))])
  .ret) .skip))
  (.reg false [opI 16 (.fadr 4 (.t 2)),opI 17 (.load 1 false (.t 16)),mvI 18 (.t 5),opI 19 (.iadrS 5 (.t 17) (.t 18)),opI 20 (.load 5 true (.t 19)),mvI 21 (.t 1),opI 22 (.callf f_r10_left [(.t 20),(.t 21)]),mvI 1 (.t 22)]))))
  (.reg false [opI 23 (.arith .add (.t 11) (kI 1)),mvI 11 (.t 23)]))))
def L0_r10_left:K:=.loop [1,2,10,11] B0_r10_left
def F_r10_left:AFn:=⟨25,[.tmp 4],
  (.seq (.reg false [opI 2 (.box 5 true (.t 0) true),mvI 4 (kI 0)])
  (.seq (.reg false [mvI 6 (.t 1),opI 7 (.arith .sub (.t 6) (kI 1)),mvI 1 (.t 7)])
  (.seq (.seq (.reg false [opI 8 (.fadr 4 (.t 2)),opI 9 (.load 1 false (.t 8)),opI 10 (.lenS (.t 9)),mvI 11 (kI 0)])
  (.block 0 L0_r10_left))
  (.seq (.reg false [mvI 24 (.t 1),mvI 4 (.t 24)])
  .ret)))),false⟩
def F_r04_Arity:AFn:=⟨16,[.tmp 2],
  (.seq (.reg false [mvI 2 (kI 0)])
  (.seq (.seq (.reg false [mvI 3 (.t 0),opI 4 (.arith .lss (.t 3) (kI 1)),mvI 5 (.t 4),⟨some 6,.mv (.t 0) false,some (5,false)⟩,⟨some 7,.arith .gtr (.t 6) (kI 26),some (5,false)⟩,opI 8 (.pick (.t 5) (.c (.p (.bool true))) (.t 7))])
  (.cond (.t 8) (.seq (.reg false [mvI 2 (kI (-1))])
  .ret) .skip))
  (.seq (.seq (.reg false [mvI 9 (.t 0),opI 10 (.callf f_r04_Leaf [(.t 9)])])
  (.cond (.t 10) (.seq (.reg false [mvI 2 (kI 0)])
  .ret) .skip))
  (.seq (.seq (.reg false [mvI 11 (.t 0),opI 12 (.bslice 1 [(.p (.int .i64 0))] 6 [(0,1,(kI 3)),(1,1,(kI 4)),(2,1,(kI 21)),(3,1,(kI 22)),(4,1,(kI 23)),(5,1,(kI 26))]),opI 13 (.callf f_r04_Is [(.t 11),(.t 12)])])
  (.cond (.t 13) (.seq (.reg false [mvI 2 (kI 1)])
  .ret) .skip))
  (.seq (.seq (.reg false [mvI 14 (.t 0),opI 15 (.arith .eql (.t 14) (kI 19))])
  (.cond (.t 15) (.seq (.reg false [mvI 2 (kI 3)])
  .ret) .skip))
  (.seq (.reg false [mvI 2 (kI 2)])
  .ret)))))),false⟩
def F_r24_variable:AFn:=⟨11,[.tmp 2],
  (.seq (.reg false [opI 1 (.box 5 true (.t 0) true),mvI 2 (.c (.p (.bool false)))])
  (.seq (.reg false [opI 3 (.fadr 0 (.t 1)),opI 4 (.load 1 false (.t 3)),opI 5 (.arith .eql (.t 4) (kI 24)),mvI 6 (.t 5),⟨some 7,.fadr 0 (.t 1),some (6,false)⟩,⟨some 8,.load 1 false (.t 7),some (6,false)⟩,⟨some 9,.arith .eql (.t 8) (kI 25),some (6,false)⟩,opI 10 (.pick (.t 6) (.c (.p (.bool true))) (.t 9)),mvI 2 (.t 10)])
  .ret)),false⟩
def B0_r07_Name:K :=
  (.seq (.seq (.reg false [mvI 23 (.t 3),mvI 24 (.t 0),opI 25 (.lenT (.t 24)),opI 26 (.arith .lss (.t 23) (.t 25))])
  (.cond (.t 26) .skip (.exit 0)))
  (.seq (.block 1 (.seq (.reg false [mvI 29 (.t 0),mvI 30 (.t 3),opI 31 (.idxS (.t 29) (.t 30)),mvI 4 (.t 31)])
  (.seq (.reg false [mvI 32 (.t 4),opI 33 (.arith .geq (.t 32) (.c (.p (.int .u8 97)))),mvI 34 (.t 33),⟨some 35,.mv (.t 4) false,some (34,true)⟩,⟨some 36,.arith .leq (.t 35) (.c (.p (.int .u8 122))),some (34,true)⟩,opI 37 (.pick (.t 34) (.t 36) (.c (.p (.bool false)))),opI 38 (.not (.t 37)),mvI 39 (.t 38),⟨some 40,.mv (.t 4) false,some (39,true)⟩,⟨some 41,.arith .geq (.t 40) (.c (.p (.int .u8 48))),some (39,true)⟩,⟨some 42,.mv (.t 41) false,some (39,true)⟩,⟨some 43,.mv (.t 4) false,some (42,true)⟩,⟨some 44,.arith .leq (.t 43) (.c (.p (.int .u8 57))),some (42,true)⟩,⟨some 45,.pick (.t 42) (.t 44) (.c (.p (.bool false))),some (39,true)⟩,⟨some 46,.not (.t 45),some (39,true)⟩,opI 47 (.pick (.t 39) (.t 46) (.c (.p (.bool false)))),mvI 48 (.t 47),⟨some 49,.mv (.t 4) false,some (48,true)⟩,⟨some 50,.arith .neq (.t 49) (.c (.p (.int .u8 95))),some (48,true)⟩,opI 51 (.pick (.t 48) (.t 50) (.c (.p (.bool false))))])
  (.cond (.t 51) (.seq (.reg false [mvI 2 (.c (.p (.bool false)))])
  .ret) .skip))))
  (.reg false [mvI 27 (.t 3),opI 28 (.arith .add (.t 27) (kI 1)),mvI 3 (.t 28)])))
def L0_r07_Name:K:=.loop [0,3] B0_r07_Name
def F_r07_Name:AFn:=⟨52,[.tmp 2],
  (.seq (.reg false [mvI 2 (.c (.p (.bool false)))])
  (.seq (.seq (.reg false [mvI 5 (.t 0),opI 6 (.lenT (.t 5)),opI 7 (.arith .lss (.t 6) (kI 1)),mvI 8 (.t 7),⟨some 9,.mv (.t 0) false,some (8,false)⟩,⟨some 10,.lenT (.t 9),some (8,false)⟩,⟨some 11,.arith .gtr (.t 10) (kI 16),some (8,false)⟩,opI 12 (.pick (.t 8) (.c (.p (.bool true))) (.t 11)),mvI 13 (.t 12),⟨some 14,.mv (.t 0) false,some (13,false)⟩,⟨some 15,.idxS (.t 14) (kI 0),some (13,false)⟩,⟨some 16,.arith .lss (.t 15) (.c (.p (.int .u8 97))),some (13,false)⟩,opI 17 (.pick (.t 13) (.c (.p (.bool true))) (.t 16)),mvI 18 (.t 17),⟨some 19,.mv (.t 0) false,some (18,false)⟩,⟨some 20,.idxS (.t 19) (kI 0),some (18,false)⟩,⟨some 21,.arith .gtr (.t 20) (.c (.p (.int .u8 122))),some (18,false)⟩,opI 22 (.pick (.t 18) (.c (.p (.bool true))) (.t 21))])
  (.cond (.t 22) (.seq (.reg false [mvI 2 (.c (.p (.bool false)))])
  .ret) .skip))
  (.seq (.seq (.reg false [mvI 3 (kI 0)])
  (.block 0 L0_r07_Name))
  (.seq (.reg false [mvI 2 (.c (.p (.bool true)))])
  .ret)))),false⟩
def B0_r04_Width:K :=
  (.seq (.reg false [opI 24 (.arith .lss (.t 23) (.t 22))])
  (.seq (.cond (.t 24) .skip (.exit 0))
  (.seq (.block 1 (.seq (.reg false [mvI 25 (.t 23),mvI 10 (.t 25)])
  (.seq (.reg false [mvI 26 (.t 3),mvI 27 (.t 10),opI 28 (.iadrS 1 (.t 26) (.t 27)),opI 29 (.load 1 false (.t 28)),opI 30 (.callf f_r04_width [(.t 29)]),opI 31 (.not (.t 30))])
  (.cond (.t 31) (.seq (.reg false [mvI 8 (kI 0),mvI 9 (kI 3)])
  .ret) .skip))))
  (.reg false [opI 32 (.arith .add (.t 23) (kI 1)),mvI 23 (.t 32)]))))
def L0_r04_Width:K:=.loop [0,1,2,3,22,23] B0_r04_Width
def F_r04_Width:AFn:=⟨133,[.tmp 8,.tmp 9],
  (.seq (.reg false [mvI 8 (kI 0),mvI 9 (kI 0)])
  (.seq (.seq (.reg false [mvI 11 (.t 0),opI 12 (.callf f_r04_Arity [(.t 11)]),opI 13 (.arith .lss (.t 12) (kI 0)),mvI 14 (.t 13),⟨some 15,.mv (.t 3) false,some (14,false)⟩,⟨some 16,.lenS (.t 15),some (14,false)⟩,⟨some 17,.mv (.t 0) false,some (14,false)⟩,⟨some 18,.callf f_r04_Arity [(.t 17)],some (14,false)⟩,⟨some 19,.arith .neq (.t 16) (.t 18),some (14,false)⟩,opI 20 (.pick (.t 14) (.c (.p (.bool true))) (.t 19))])
  (.cond (.t 20) (.seq (.reg false [mvI 8 (kI 0),mvI 9 (kI 4)])
  .ret) .skip))
  (.seq (.seq (.reg false [mvI 21 (.t 3),opI 22 (.lenS (.t 21)),mvI 23 (kI 0)])
  (.block 0 L0_r04_Width))
  (.seq (.seq (.reg false [mvI 33 (.t 0),opI 34 (.callf f_r04_Leaf [(.t 33)])])
  (.cond (.t 34) (.seq (.reg false [mvI 35 (.t 0),mvI 36 (.t 1),mvI 37 (.t 2),opI 38 (.callf f_r04_leaf [(.t 35),(.t 36),(.t 37)]),opI 39 (.extract (.t 38) 0),opI 40 (.extract (.t 38) 1),mvI 8 (.t 39),mvI 9 (.t 40)])
  .ret) .skip))
  (.seq (.seq (.reg false [mvI 41 (.t 0),opI 42 (.arith .eql (.t 41) (kI 21)),mvI 43 (.t 42),⟨some 44,.mv (.t 0) false,some (43,false)⟩,⟨some 45,.arith .eql (.t 44) (kI 22),some (43,false)⟩,opI 46 (.pick (.t 43) (.c (.p (.bool true))) (.t 45)),mvI 47 (.t 46),⟨some 48,.mv (.t 0) false,some (47,false)⟩,⟨some 49,.arith .eql (.t 48) (kI 23),some (47,false)⟩,opI 50 (.pick (.t 47) (.c (.p (.bool true))) (.t 49))])
  (.cond (.t 50) (.seq (.reg false [mvI 51 (.t 0),mvI 52 (.t 1),mvI 53 (.t 2),mvI 54 (.t 3),opI 55 (.iadrS 1 (.t 54) (kI 0)),opI 56 (.load 1 false (.t 55)),opI 57 (.callf f_r04_parts [(.t 51),(.t 52),(.t 53),(.t 56)]),opI 58 (.extract (.t 57) 0),opI 59 (.extract (.t 57) 1),mvI 8 (.t 58),mvI 9 (.t 59)])
  .ret) .skip))
  (.seq (.seq (.reg false [mvI 60 (.t 3),opI 61 (.lenS (.t 60)),opI 62 (.arith .eql (.t 61) (kI 1))])
  (.cond (.t 62) (.seq (.reg false [mvI 63 (.t 3),opI 64 (.iadrS 1 (.t 63) (kI 0)),opI 65 (.load 1 false (.t 64)),mvI 8 (.t 65),mvI 9 (kI 0)])
  .ret) .skip))
  (.seq (.seq (.reg false [mvI 66 (.t 0),opI 67 (.arith .eql (.t 66) (kI 20))])
  (.cond (.t 67) (.seq (.seq (.reg true [mvI 68 (.t 3),opI 69 (.iadrS 1 (.t 68) (kI 0)),opI 70 (.load 1 false (.t 69)),opI 71 (.arith .lss (.t 70) (kI 1)),mvI 72 (.t 71),⟨some 73,.mv (.t 3) false,some (72,false)⟩,⟨some 74,.iadrS 1 (.t 73) (kI 1),some (72,false)⟩,⟨some 75,.load 1 false (.t 74),some (72,false)⟩,⟨some 76,.arith .lss (.t 75) (kI 1),some (72,false)⟩,opI 77 (.pick (.t 72) (.c (.p (.bool true))) (.t 76)),mvI 78 (.t 77),⟨some 79,.mv (.t 3) false,some (78,false)⟩,⟨some 80,.iadrS 1 (.t 79) (kI 0),some (78,false)⟩,⟨some 81,.load 1 false (.t 80),some (78,false)⟩,⟨some 82,.mv (.t 3) false,some (78,false)⟩,⟨some 83,.iadrS 1 (.t 82) (kI 1),some (78,false)⟩,⟨some 84,.load 1 false (.t 83),some (78,false)⟩,⟨some 85,.arith .add (.t 81) (.t 84),some (78,false)⟩,⟨some 86,.arith .gtr (.t 85) (kI 64),some (78,false)⟩,opI 87 (.pick (.t 78) (.c (.p (.bool true))) (.t 86))])
  (.cond (.t 87) (.seq (.reg false [mvI 8 (kI 0),mvI 9 (kI 3)])
  .ret) .skip))
  (.seq (.reg true [mvI 88 (.t 3),opI 89 (.iadrS 1 (.t 88) (kI 0)),opI 90 (.load 1 false (.t 89)),mvI 91 (.t 3),opI 92 (.iadrS 1 (.t 91) (kI 1)),opI 93 (.load 1 false (.t 92)),opI 94 (.arith .add (.t 90) (.t 93)),mvI 8 (.t 94),mvI 9 (kI 0)])
  .ret)) .skip))
  (.seq (.seq (.reg false [mvI 95 (.t 0),opI 96 (.arith .eql (.t 95) (kI 19))])
  (.cond (.t 96) (.seq (.seq (.reg true [mvI 97 (.t 3),opI 98 (.iadrS 1 (.t 97) (kI 0)),opI 99 (.load 1 false (.t 98)),opI 100 (.arith .neq (.t 99) (kI 1)),mvI 101 (.t 100),⟨some 102,.mv (.t 3) false,some (101,false)⟩,⟨some 103,.iadrS 1 (.t 102) (kI 1),some (101,false)⟩,⟨some 104,.load 1 false (.t 103),some (101,false)⟩,⟨some 105,.mv (.t 3) false,some (101,false)⟩,⟨some 106,.iadrS 1 (.t 105) (kI 2),some (101,false)⟩,⟨some 107,.load 1 false (.t 106),some (101,false)⟩,⟨some 108,.arith .neq (.t 104) (.t 107),some (101,false)⟩,opI 109 (.pick (.t 101) (.c (.p (.bool true))) (.t 108))])
  (.cond (.t 109) (.seq (.reg false [mvI 8 (kI 0),mvI 9 (kI 3)])
  .ret) .skip))
  (.seq (.reg false [mvI 110 (.t 3),opI 111 (.iadrS 1 (.t 110) (kI 1)),opI 112 (.load 1 false (.t 111)),mvI 8 (.t 112),mvI 9 (kI 0)])
  .ret)) .skip))
  (.seq (.seq (.reg true [mvI 113 (.t 3),opI 114 (.iadrS 1 (.t 113) (kI 0)),opI 115 (.load 1 false (.t 114)),mvI 116 (.t 3),opI 117 (.iadrS 1 (.t 116) (kI 1)),opI 118 (.load 1 false (.t 117)),opI 119 (.arith .neq (.t 115) (.t 118))])
  (.cond (.t 119) (.seq (.reg false [mvI 8 (kI 0),mvI 9 (kI 3)])
  .ret) .skip))
  (.seq (.seq (.reg false [mvI 120 (.t 0),opI 121 (.arith .eql (.t 120) (kI 16)),mvI 122 (.t 121),⟨some 123,.mv (.t 0) false,some (122,false)⟩,⟨some 124,.arith .eql (.t 123) (kI 17),some (122,false)⟩,opI 125 (.pick (.t 122) (.c (.p (.bool true))) (.t 124)),mvI 126 (.t 125),⟨some 127,.mv (.t 0) false,some (126,false)⟩,⟨some 128,.arith .eql (.t 127) (kI 18),some (126,false)⟩,opI 129 (.pick (.t 126) (.c (.p (.bool true))) (.t 128))])
  (.cond (.t 129) (.seq (.reg false [mvI 8 (kI 1),mvI 9 (kI 0)])
  .ret) .skip))
  (.seq (.reg false [mvI 130 (.t 3),opI 131 (.iadrS 1 (.t 130) (kI 0)),opI 132 (.load 1 false (.t 131)),mvI 8 (.t 132),mvI 9 (kI 0)])
  .ret))))))))))),false⟩
def B0_r24_widths:K :=
  (.seq (.seq (.reg false [mvI 6 (.t 4),opI 7 (.fadr 4 (.t 1)),opI 8 (.load 1 false (.t 7)),opI 9 (.lenS (.t 8)),opI 10 (.arith .lss (.t 6) (.t 9))])
  (.cond (.t 10) .skip (.exit 0)))
  (.seq (.block 1 (.reg false [mvI 13 (.t 3),opI 14 (.fadr 4 (.t 1)),opI 15 (.load 1 false (.t 14)),mvI 16 (.t 4),opI 17 (.iadrS 5 (.t 15) (.t 16)),opI 18 (.fadr 1 (.t 17)),opI 19 (.load 1 false (.t 18)),opI 20 (.bslice 1 [(.p (.int .i64 0))] 1 [(0,1,(.t 19))]),opI 21 (.append 1 8 (.t 13) (.t 20)),opI 3 (.mv (.t 21) true)]))
  (.reg false [mvI 11 (.t 4),opI 12 (.arith .add (.t 11) (kI 1)),mvI 4 (.t 12)])))
def L0_r24_widths:K:=.loop [1,3,4] B0_r24_widths
def F_r24_widths:AFn:=⟨23,[.tmp 2],
  (.seq (.reg false [opI 1 (.box 5 true (.t 0) true),mvI 2 (.c .nils)])
  (.seq (.reg false [opI 5 (.bslice 1 [(.p (.int .i64 0))] 0 []),opI 3 (.mv (.t 5) true)])
  (.seq (.seq (.reg false [mvI 4 (kI 0)])
  (.block 0 L0_r24_widths))
  (.seq (.reg false [mvI 22 (.t 3),mvI 2 (.t 22)])
  .ret)))),false⟩
def A0_pattern_has:K :=
  (.reg false [opI 5 (.init 5 true (.t 8) true)])
def B0_pattern_has:K :=
  (.block 1 (.seq (.reg false [opI 9 (.load 1 false (.t 3)),opI 10 (.fadr 0 (.t 5)),opI 11 (.load 1 false (.t 10)),opI 12 (.callf f_slices_Contains_api_Op_api_Op [(.t 9),(.t 11)])])
  (.cond (.t 12) (.seq (.reg false [⟨none,.store 1 (.t 4) (.c (.p (.bool true))),none⟩])
  .ret) .skip)))
def R0_pattern_has:K:=.range (.t 7) [8] [3,4] A0_pattern_has B0_pattern_has
def F_pattern_has:AFn:=⟨13,[.cell 4 1 false],
  (.seq (.reg false [opI 2 (.box 5 true (.t 0) true),opI 3 (.box 1 false (.t 1) true),opI 4 (.alloc [(.p (.bool false))] 1)])
  (.seq (.seq (.reg false [opI 6 (.load 5 true (.t 2)),opI 7 (.callf f_pattern_preorder [(.t 6)])])
  (.block 0 R0_pattern_has))
  (.seq (.reg false [⟨none,.store 1 (.t 4) (.c (.p (.bool false))),none⟩])
  .ret))),false⟩
def B0_term_measure:K :=
  (.seq (.reg false [opI 24 (.arith .lss (.t 23) (.t 22))])
  (.seq (.cond (.t 24) .skip (.exit 0))
  (.seq (.block 1 (.seq (.reg false [opI 25 (.iadrS 5 (.t 21) (.t 23)),opI 26 (.load 5 true (.t 25)),opI 9 (.init 5 true (.t 26) true)])
  (.seq (.reg false [opI 28 (.load 5 true (.t 9)),mvI 29 (.t 1),mvI 30 (.t 2),opI 31 (.arith .sub (.t 30) (kI 1)),opI 32 (.callf f_term_measure [(.t 28),(.t 29),(.t 31)]),mvI 27 (.t 32),opI 33 (.extract (.t 27) 0),opI 34 (.extract (.t 27) 1),mvI 10 (.t 33),mvI 11 (.t 34)])
  (.seq (.seq (.reg false [mvI 35 (.t 11),opI 36 (.not (.t 35))])
  (.cond (.t 36) (.seq (.reg false [mvI 6 (kI 0),mvI 7 (.c (.p (.bool false)))])
  .ret) .skip))
  (.reg false [mvI 37 (.t 10),mvI 1 (.t 37)])))))
  (.reg false [opI 38 (.arith .add (.t 23) (kI 1)),mvI 23 (.t 38)]))))
def L0_term_measure:K:=.loop [1,2,21,22,23] B0_term_measure
def F_term_measure:AFn:=⟨40,[.tmp 6,.tmp 7],
  (.seq (.reg false [opI 3 (.box 5 true (.t 0) true),mvI 6 (kI 0),mvI 7 (.c (.p (.bool false)))])
  (.seq (.seq (.reg false [mvI 12 (.t 1),opI 13 (.arith .lss (.t 12) (kI 1)),mvI 14 (.t 13),⟨some 15,.mv (.t 2) false,some (14,false)⟩,⟨some 16,.arith .lss (.t 15) (kI 1),some (14,false)⟩,opI 17 (.pick (.t 14) (.c (.p (.bool true))) (.t 16))])
  (.cond (.t 17) (.seq (.reg false [mvI 6 (kI 0),mvI 7 (.c (.p (.bool false)))])
  .ret) .skip))
  (.seq (.reg false [mvI 18 (.t 1),opI 19 (.arith .sub (.t 18) (kI 1)),mvI 1 (.t 19)])
  (.seq (.seq (.reg false [opI 20 (.fadr 4 (.t 3)),opI 21 (.load 1 false (.t 20)),opI 22 (.lenS (.t 21)),mvI 23 (kI 0)])
  (.block 0 L0_term_measure))
  (.seq (.reg false [mvI 39 (.t 1),mvI 6 (.t 39),mvI 7 (.c (.p (.bool true)))])
  .ret))))),false⟩
def F_term_All:AFn:=⟨4,[.tmp 2],
  (.seq (.reg false [opI 1 (.box 5 true (.t 0) true),mvI 2 (.c (.p .nilf))])
  (.seq (.reg false [opI 3 (.mkfn f_term_All_1 [(.t 1)]),mvI 2 (.t 3)])
  .ret)),false⟩
def F_term_node:AFn:=⟨82,[.tmp 2],
  (.seq (.reg false [opI 1 (.box 5 true (.t 0) true),mvI 2 (kI 0)])
  (.seq (.block 0 (.seq (.reg true [opI 6 (.fadr 0 (.t 1)),opI 7 (.load 1 false (.t 6)),opI 8 (.callf f_opinfo_Arity [(.t 7)]),opI 9 (.arith .lss (.t 8) (kI 0)),mvI 10 (.t 9),⟨some 11,.fadr 0 (.t 1),some (10,false)⟩,⟨some 12,.load 1 false (.t 11),some (10,false)⟩,⟨some 13,.callf f_opinfo_Pattern [(.t 12)],some (10,false)⟩,opI 14 (.pick (.t 10) (.c (.p (.bool true))) (.t 13)),mvI 15 (.t 14),⟨some 16,.fadr 4 (.t 1),some (15,false)⟩,⟨some 17,.load 1 false (.t 16),some (15,false)⟩,⟨some 18,.lenS (.t 17),some (15,false)⟩,⟨some 19,.fadr 0 (.t 1),some (15,false)⟩,⟨some 20,.load 1 false (.t 19),some (15,false)⟩,⟨some 21,.callf f_opinfo_Arity [(.t 20)],some (15,false)⟩,⟨some 22,.arith .neq (.t 18) (.t 21),some (15,false)⟩,opI 23 (.pick (.t 15) (.c (.p (.bool true))) (.t 22)),mvI 5 (.t 23)])
  (.cond (.t 5) (.seq (.reg false [mvI 2 (kI 4)])
  .ret) (.seq (.reg false [opI 25 (.fadr 0 (.t 1)),opI 26 (.load 1 false (.t 25)),opI 27 (.arith .neq (.t 26) (kI 1)),mvI 28 (.t 27),⟨some 29,.fadr 3 (.t 1),some (28,true)⟩,⟨some 30,.load 1 false (.t 29),some (28,true)⟩,⟨some 31,.arith .neq (.t 30) (.c (.p (.str (bs [])))),some (28,true)⟩,opI 32 (.pick (.t 28) (.t 31) (.c (.p (.bool false)))),mvI 24 (.t 32)])
  (.cond (.t 24) (.seq (.reg false [mvI 2 (kI 4)])
  .ret) (.seq (.reg false [opI 34 (.fadr 0 (.t 1)),opI 35 (.load 1 false (.t 34)),opI 36 (.arith .neq (.t 35) (kI 2)),mvI 37 (.t 36),⟨some 38,.fadr 0 (.t 1),some (37,true)⟩,⟨some 39,.load 1 false (.t 38),some (37,true)⟩,⟨some 40,.arith .neq (.t 39) (kI 21),some (37,true)⟩,opI 41 (.pick (.t 37) (.t 40) (.c (.p (.bool false)))),mvI 42 (.t 41),⟨some 43,.fadr 2 (.t 1),some (42,true)⟩,⟨some 44,.load 1 false (.t 43),some (42,true)⟩,⟨some 45,.arith .neq (.t 44) (.c (.p (.int .u64 0))),some (42,true)⟩,opI 46 (.pick (.t 42) (.t 45) (.c (.p (.bool false)))),mvI 33 (.t 46)])
  (.cond (.t 33) (.seq (.reg false [mvI 2 (kI 4)])
  .ret) (.seq (.reg false [opI 48 (.fadr 0 (.t 1)),opI 49 (.load 1 false (.t 48)),opI 50 (.arith .eql (.t 49) (kI 1)),mvI 51 (.t 50),⟨some 52,.fadr 3 (.t 1),some (51,true)⟩,⟨some 53,.load 1 false (.t 52),some (51,true)⟩,⟨some 54,.callf f_term_Name [(.t 53)],some (51,true)⟩,⟨some 55,.not (.t 54),some (51,true)⟩,opI 56 (.pick (.t 51) (.t 55) (.c (.p (.bool false)))),mvI 47 (.t 56)])
  (.cond (.t 47) (.seq (.reg false [mvI 2 (kI 5)])
  .ret) (.seq (.reg false [opI 58 (.fadr 1 (.t 1)),opI 59 (.load 1 false (.t 58)),opI 60 (.arith .lss (.t 59) (kI 1)),mvI 57 (.t 60)])
  (.cond (.t 57) (.seq (.reg false [mvI 2 (kI 3)])
  .ret) .skip)))))))))))
  (.seq (.seq (.reg true [opI 62 (.fadr 0 (.t 1)),opI 63 (.load 1 false (.t 62)),opI 64 (.fadr 1 (.t 1)),opI 65 (.load 1 false (.t 64)),opI 66 (.fadr 2 (.t 1)),opI 67 (.load 1 false (.t 66)),opI 68 (.fadr 4 (.t 1)),opI 69 (.load 1 false (.t 68)),opI 70 (.callf f_term_widths [(.t 69)]),opI 71 (.callf f_opinfo_Width [(.t 63),(.t 65),(.t 67),(.t 70)]),mvI 61 (.t 71),opI 72 (.extract (.t 61) 0),opI 73 (.extract (.t 61) 1),mvI 3 (.t 72),mvI 4 (.t 73)])
  (.seq (.reg false [mvI 74 (.t 4),opI 75 (.arith .neq (.t 74) (kI 0)),mvI 76 (.t 75),⟨some 77,.mv (.t 3) false,some (76,false)⟩,⟨some 78,.fadr 1 (.t 1),some (76,false)⟩,⟨some 79,.load 1 false (.t 78),some (76,false)⟩,⟨some 80,.arith .neq (.t 77) (.t 79),some (76,false)⟩,opI 81 (.pick (.t 76) (.c (.p (.bool true))) (.t 80))])
  (.cond (.t 81) (.seq (.reg false [mvI 2 (kI 3)])
  .ret) .skip)))
  (.seq (.reg false [mvI 2 (kI 0)])
  .ret)))),false⟩
def B0_opinfo_Width:K :=
  (.seq (.reg false [opI 25 (.arith .lss (.t 24) (.t 23))])
  (.seq (.cond (.t 25) .skip (.exit 0))
  (.seq (.block 1 (.seq (.reg false [opI 26 (.iadrS 1 (.t 22) (.t 24)),opI 27 (.load 1 false (.t 26)),mvI 11 (.t 27)])
  (.seq (.reg false [mvI 28 (.t 11),opI 29 (.callf f_opinfo_inside [(.t 28)]),opI 30 (.not (.t 29))])
  (.cond (.t 30) (.seq (.reg false [mvI 8 (kI 0),mvI 9 (kI 3)])
  .ret) .skip))))
  (.reg false [opI 31 (.arith .add (.t 24) (kI 1)),mvI 24 (.t 31)]))))
def L0_opinfo_Width:K:=.loop [0,1,2,3,22,23,24] B0_opinfo_Width
def F_opinfo_Width:AFn:=⟨144,[.tmp 8,.tmp 9],
  (.seq (.reg false [mvI 8 (kI 0),mvI 9 (kI 0)])
  (.seq (.seq (.reg false [mvI 12 (.t 0),opI 13 (.callf f_opinfo_known [(.t 12)]),opI 14 (.not (.t 13)),mvI 15 (.t 14),⟨some 16,.mv (.t 3) false,some (15,false)⟩,⟨some 17,.lenS (.t 16),some (15,false)⟩,⟨some 18,.mv (.t 0) false,some (15,false)⟩,⟨some 19,.callf f_opinfo_Arity [(.t 18)],some (15,false)⟩,⟨some 20,.arith .neq (.t 17) (.t 19),some (15,false)⟩,opI 21 (.pick (.t 15) (.c (.p (.bool true))) (.t 20))])
  (.cond (.t 21) (.seq (.reg false [mvI 8 (kI 0),mvI 9 (kI 4)])
  .ret) .skip))
  (.seq (.seq (.reg false [mvI 22 (.t 3),opI 23 (.lenS (.t 22)),mvI 24 (kI 0)])
  (.block 0 L0_opinfo_Width))
  (.seq (.seq (.reg false [mvI 32 (.t 0)])
  (.block 2 (.seq (.seq (.reg false [opI 34 (.arith .eql (.t 32) (kI 1)),mvI 33 (.t 34)])
  (.cond (.t 33) .skip (.seq (.reg false [opI 35 (.arith .eql (.t 32) (kI 2)),mvI 33 (.t 35)])
  (.cond (.t 33) .skip (.seq (.reg false [opI 36 (.arith .eql (.t 32) (kI 24)),mvI 33 (.t 36)])
  (.cond (.t 33) .skip (.reg false [opI 37 (.arith .eql (.t 32) (kI 25)),mvI 33 (.t 37)])))))))
  (.cond (.t 33) (.seq (.reg false [mvI 38 (.t 0),mvI 39 (.t 1),mvI 40 (.t 2),opI 41 (.callf f_opinfo_leaf [(.t 38),(.t 39),(.t 40)]),opI 42 (.extract (.t 41) 0),opI 43 (.extract (.t 41) 1),mvI 8 (.t 42),mvI 9 (.t 43)])
  .ret) (.seq (.seq (.reg false [opI 45 (.arith .eql (.t 32) (kI 3)),mvI 44 (.t 45)])
  (.cond (.t 44) .skip (.seq (.reg false [opI 46 (.arith .eql (.t 32) (kI 4)),mvI 44 (.t 46)])
  (.cond (.t 44) .skip (.reg false [opI 47 (.arith .eql (.t 32) (kI 26)),mvI 44 (.t 47)])))))
  (.cond (.t 44) (.seq (.reg false [mvI 48 (.t 3),opI 49 (.iadrS 1 (.t 48) (kI 0)),opI 50 (.load 1 false (.t 49)),mvI 8 (.t 50),mvI 9 (kI 0)])
  .ret) (.seq (.seq (.reg false [opI 52 (.arith .eql (.t 32) (kI 21)),mvI 51 (.t 52)])
  (.cond (.t 51) .skip (.seq (.reg false [opI 53 (.arith .eql (.t 32) (kI 22)),mvI 51 (.t 53)])
  (.cond (.t 51) .skip (.reg false [opI 54 (.arith .eql (.t 32) (kI 23)),mvI 51 (.t 54)])))))
  (.cond (.t 51) (.seq (.reg false [mvI 55 (.t 0),mvI 56 (.t 1),mvI 57 (.t 2),mvI 58 (.t 3),opI 59 (.iadrS 1 (.t 58) (kI 0)),opI 60 (.load 1 false (.t 59)),opI 61 (.callf f_opinfo_resized [(.t 55),(.t 56),(.t 57),(.t 60)]),opI 62 (.extract (.t 61) 0),opI 63 (.extract (.t 61) 1),mvI 8 (.t 62),mvI 9 (.t 63)])
  .ret) (.seq (.reg false [opI 65 (.arith .eql (.t 32) (kI 19)),mvI 64 (.t 65)])
  (.cond (.t 64) (.seq (.reg true [mvI 66 (.t 3),opI 67 (.iadrS 1 (.t 66) (kI 0)),opI 68 (.load 1 false (.t 67)),opI 69 (.arith .eql (.t 68) (kI 1)),mvI 70 (.t 69),⟨some 71,.mv (.t 3) false,some (70,true)⟩,⟨some 72,.iadrS 1 (.t 71) (kI 1),some (70,true)⟩,⟨some 73,.load 1 false (.t 72),some (70,true)⟩,⟨some 74,.mv (.t 3) false,some (70,true)⟩,⟨some 75,.iadrS 1 (.t 74) (kI 2),some (70,true)⟩,⟨some 76,.load 1 false (.t 75),some (70,true)⟩,⟨some 77,.arith .eql (.t 73) (.t 76),some (70,true)⟩,opI 78 (.pick (.t 70) (.t 77) (.c (.p (.bool false)))),mvI 79 (.t 3),opI 80 (.iadrS 1 (.t 79) (kI 1)),opI 81 (.load 1 false (.t 80)),opI 82 (.callf f_opinfo_agreed [(.t 78),(.t 81)]),opI 83 (.extract (.t 82) 0),opI 84 (.extract (.t 82) 1),mvI 8 (.t 83),mvI 9 (.t 84)])
  .ret) (.seq (.reg false [opI 86 (.arith .eql (.t 32) (kI 20)),mvI 85 (.t 86)])
  (.cond (.t 85) (.seq (.reg true [mvI 87 (.t 3),opI 88 (.iadrS 1 (.t 87) (kI 0)),opI 89 (.load 1 false (.t 88)),opI 90 (.arith .geq (.t 89) (kI 1)),mvI 91 (.t 90),⟨some 92,.mv (.t 3) false,some (91,true)⟩,⟨some 93,.iadrS 1 (.t 92) (kI 1),some (91,true)⟩,⟨some 94,.load 1 false (.t 93),some (91,true)⟩,⟨some 95,.arith .geq (.t 94) (kI 1),some (91,true)⟩,opI 96 (.pick (.t 91) (.t 95) (.c (.p (.bool false)))),mvI 97 (.t 96),⟨some 98,.mv (.t 3) false,some (97,true)⟩,⟨some 99,.iadrS 1 (.t 98) (kI 0),some (97,true)⟩,⟨some 100,.load 1 false (.t 99),some (97,true)⟩,⟨some 101,.mv (.t 3) false,some (97,true)⟩,⟨some 102,.iadrS 1 (.t 101) (kI 1),some (97,true)⟩,⟨some 103,.load 1 false (.t 102),some (97,true)⟩,⟨some 104,.arith .add (.t 100) (.t 103),some (97,true)⟩,⟨some 105,.arith .leq (.t 104) (kI 64),some (97,true)⟩,opI 106 (.pick (.t 97) (.t 105) (.c (.p (.bool false)))),mvI 107 (.t 3),opI 108 (.iadrS 1 (.t 107) (kI 0)),opI 109 (.load 1 false (.t 108)),mvI 110 (.t 3),opI 111 (.iadrS 1 (.t 110) (kI 1)),opI 112 (.load 1 false (.t 111)),opI 113 (.arith .add (.t 109) (.t 112)),opI 114 (.callf f_opinfo_agreed [(.t 106),(.t 113)]),opI 115 (.extract (.t 114) 0),opI 116 (.extract (.t 114) 1),mvI 8 (.t 115),mvI 9 (.t 116)])
  .ret) (.seq (.seq (.reg false [opI 118 (.arith .eql (.t 32) (kI 16)),mvI 117 (.t 118)])
  (.cond (.t 117) .skip (.seq (.reg false [opI 119 (.arith .eql (.t 32) (kI 17)),mvI 117 (.t 119)])
  (.cond (.t 117) .skip (.reg false [opI 120 (.arith .eql (.t 32) (kI 18)),mvI 117 (.t 120)])))))
  (.cond (.t 117) (.seq (.reg true [mvI 121 (.t 3),opI 122 (.iadrS 1 (.t 121) (kI 0)),opI 123 (.load 1 false (.t 122)),mvI 124 (.t 3),opI 125 (.iadrS 1 (.t 124) (kI 1)),opI 126 (.load 1 false (.t 125)),opI 127 (.arith .eql (.t 123) (.t 126)),opI 128 (.callf f_opinfo_agreed [(.t 127),(kI 1)]),opI 129 (.extract (.t 128) 0),opI 130 (.extract (.t 128) 1),mvI 8 (.t 129),mvI 9 (.t 130)])
  .ret) .skip))))))))))))))
  (.seq (.reg true [mvI 131 (.t 3),opI 132 (.iadrS 1 (.t 131) (kI 0)),opI 133 (.load 1 false (.t 132)),mvI 134 (.t 3),opI 135 (.iadrS 1 (.t 134) (kI 1)),opI 136 (.load 1 false (.t 135)),opI 137 (.arith .eql (.t 133) (.t 136)),mvI 138 (.t 3),opI 139 (.iadrS 1 (.t 138) (kI 0)),opI 140 (.load 1 false (.t 139)),opI 141 (.callf f_opinfo_agreed [(.t 137),(.t 140)]),opI 142 (.extract (.t 141) 0),opI 143 (.extract (.t 141) 1),mvI 8 (.t 142),mvI 9 (.t 143)])
  .ret))))),false⟩
def B0_pattern_widths:K :=
  (.seq (.reg false [opI 9 (.arith .lss (.t 8) (.t 7))])
  (.seq (.cond (.t 9) .skip (.exit 0))
  (.seq (.block 1 (.seq (.reg false [opI 10 (.iadrS 5 (.t 6) (.t 8)),opI 11 (.load 5 true (.t 10)),opI 5 (.init 5 true (.t 11) true)])
  (.reg false [mvI 12 (.t 3),opI 13 (.fadr 1 (.t 5)),opI 14 (.load 1 false (.t 13)),opI 15 (.bslice 1 [(.p (.int .i64 0))] 1 [(0,1,(.t 14))]),opI 16 (.append 1 8 (.t 12) (.t 15)),opI 3 (.mv (.t 16) true)])))
  (.reg false [opI 17 (.arith .add (.t 8) (kI 1)),mvI 8 (.t 17)]))))
def L0_pattern_widths:K:=.loop [3,6,7,8] B0_pattern_widths
def F_pattern_widths:AFn:=⟨19,[.tmp 2],
  (.seq (.reg false [mvI 2 (.c .nils)])
  (.seq (.reg false [opI 3 (.mv (.c .nils) true)])
  (.seq (.seq (.reg false [mvI 6 (.t 0),opI 7 (.lenS (.t 6)),mvI 8 (kI 0)])
  (.block 0 L0_pattern_widths))
  (.seq (.reg false [mvI 18 (.t 3),mvI 2 (.t 18)])
  .ret)))),false⟩
def F_r04_Leaf:AFn:=⟨6,[.tmp 2],
  (.seq (.reg false [mvI 2 (.c (.p (.bool false)))])
  (.seq (.reg false [mvI 3 (.t 0),opI 4 (.bslice 1 [(.p (.int .i64 0))] 4 [(0,1,(kI 1)),(1,1,(kI 2)),(2,1,(kI 24)),(3,1,(kI 25))]),opI 5 (.callf f_r04_Is [(.t 3),(.t 4)]),mvI 2 (.t 5)])
  .ret)),false⟩
def B0_r04_Is:K :=
  (.seq (.reg false [opI 9 (.arith .lss (.t 8) (.t 7))])
  (.seq (.cond (.t 9) .skip (.exit 0))
  (.seq (.block 1 (.seq (.reg false [mvI 10 (.t 8),mvI 5 (.t 10)])
  (.seq (.reg false [mvI 11 (.t 1),mvI 12 (.t 5),opI 13 (.iadrS 1 (.t 11) (.t 12)),opI 14 (.load 1 false (.t 13)),mvI 15 (.t 0),opI 16 (.arith .eql (.t 14) (.t 15))])
  (.cond (.t 16) (.seq (.reg false [mvI 4 (.c (.p (.bool true)))])
  .ret) .skip))))
  (.reg false [opI 17 (.arith .add (.t 8) (kI 1)),mvI 8 (.t 17)]))))
def L0_r04_Is:K:=.loop [0,1,7,8] B0_r04_Is
def F_r04_Is:AFn:=⟨18,[.tmp 4],
  (.seq (.reg false [mvI 4 (.c (.p (.bool false)))])
  (.seq (.seq (.reg false [mvI 6 (.t 1),opI 7 (.lenS (.t 6)),mvI 8 (kI 0)])
  (.block 0 L0_r04_Is))
  (.seq (.reg false [mvI 4 (.c (.p (.bool false)))])
  .ret))),false⟩
def F_r04_width:AFn:=⟨9,[.tmp 2],
  (.seq (.reg false [mvI 2 (.c (.p (.bool false)))])
  (.seq (.reg false [mvI 3 (.t 0),opI 4 (.arith .geq (.t 3) (kI 0)),mvI 5 (.t 4),⟨some 6,.mv (.t 0) false,some (5,true)⟩,⟨some 7,.arith .leq (.t 6) (kI 64),some (5,true)⟩,opI 8 (.pick (.t 5) (.t 7) (.c (.p (.bool false)))),mvI 2 (.t 8)])
  .ret)),false⟩
def F_r04_leaf:AFn:=⟨31,[.tmp 6,.tmp 7],
  (.seq (.reg false [mvI 6 (kI 0),mvI 7 (kI 0)])
  (.seq (.seq (.reg false [mvI 8 (.t 1),opI 9 (.callf f_r04_width [(.t 8)]),opI 10 (.not (.t 9)),mvI 11 (.t 10),⟨some 12,.mv (.t 0) false,some (11,false)⟩,⟨some 13,.arith .eql (.t 12) (kI 2),some (11,false)⟩,⟨some 14,.mv (.t 13) false,some (11,false)⟩,⟨some 15,.mv (.t 1) false,some (14,true)⟩,⟨some 16,.arith .gtr (.t 15) (kI 0),some (14,true)⟩,⟨some 17,.pick (.t 14) (.t 16) (.c (.p (.bool false))),some (11,false)⟩,⟨some 18,.mv (.t 17) false,some (11,false)⟩,⟨some 19,.mv (.t 1) false,some (18,true)⟩,⟨some 20,.arith .lss (.t 19) (kI 64),some (18,true)⟩,⟨some 21,.pick (.t 18) (.t 20) (.c (.p (.bool false))),some (11,false)⟩,⟨some 22,.mv (.t 21) false,some (11,false)⟩,⟨some 23,.mv (.t 2) false,some (22,true)⟩,⟨some 24,.mv (.t 1) false,some (22,true)⟩,⟨some 25,.conv .u64 (.t 24),some (22,true)⟩,⟨some 26,.arith .shl (.c (.p (.int .u64 1))) (.t 25),some (22,true)⟩,⟨some 27,.arith .geq (.t 23) (.t 26),some (22,true)⟩,⟨some 28,.pick (.t 22) (.t 27) (.c (.p (.bool false))),some (11,false)⟩,opI 29 (.pick (.t 11) (.c (.p (.bool true))) (.t 28))])
  (.cond (.t 29) (.seq (.reg false [mvI 6 (kI 0),mvI 7 (kI 3)])
  .ret) .skip))
  (.seq (.reg false [mvI 30 (.t 1),mvI 6 (.t 30),mvI 7 (kI 0)])
  .ret))),false⟩
def F_r04_parts:AFn:=⟨46,[.tmp 8,.tmp 9],
  (.seq (.reg false [mvI 8 (kI 0),mvI 9 (kI 0)])
  (.seq (.seq (.reg false [mvI 10 (.t 1),opI 11 (.callf f_r04_width [(.t 10)]),opI 12 (.not (.t 11)),mvI 13 (.t 12),⟨some 14,.mv (.t 1) false,some (13,false)⟩,⟨some 15,.arith .lss (.t 14) (kI 1),some (13,false)⟩,opI 16 (.pick (.t 13) (.c (.p (.bool true))) (.t 15)),mvI 17 (.t 16),⟨some 18,.mv (.t 3) false,some (17,false)⟩,⟨some 19,.arith .lss (.t 18) (kI 1),some (17,false)⟩,opI 20 (.pick (.t 17) (.c (.p (.bool true))) (.t 19))])
  (.cond (.t 20) (.seq (.reg false [mvI 8 (kI 0),mvI 9 (kI 3)])
  .ret) .skip))
  (.seq (.seq (.reg false [mvI 21 (.t 0),opI 22 (.arith .eql (.t 21) (kI 21)),mvI 23 (.t 22),⟨some 24,.mv (.t 1) false,some (23,true)⟩,⟨some 25,.mv (.t 3) false,some (23,true)⟩,⟨some 26,.arith .gtr (.t 24) (.t 25),some (23,true)⟩,⟨some 27,.mv (.t 26) false,some (23,true)⟩,⟨some 28,.mv (.t 2) false,some (27,false)⟩,⟨some 29,.mv (.t 3) false,some (27,false)⟩,⟨some 30,.mv (.t 1) false,some (27,false)⟩,⟨some 31,.arith .sub (.t 29) (.t 30),some (27,false)⟩,⟨some 32,.conv .u64 (.t 31),some (27,false)⟩,⟨some 33,.arith .gtr (.t 28) (.t 32),some (27,false)⟩,⟨some 34,.pick (.t 27) (.c (.p (.bool true))) (.t 33),some (23,true)⟩,opI 35 (.pick (.t 23) (.t 34) (.c (.p (.bool false)))),mvI 36 (.t 35),⟨some 37,.mv (.t 0) false,some (36,false)⟩,⟨some 38,.arith .neq (.t 37) (kI 21),some (36,false)⟩,⟨some 39,.mv (.t 38) false,some (36,false)⟩,⟨some 40,.mv (.t 1) false,some (39,true)⟩,⟨some 41,.mv (.t 3) false,some (39,true)⟩,⟨some 42,.arith .lss (.t 40) (.t 41),some (39,true)⟩,⟨some 43,.pick (.t 39) (.t 42) (.c (.p (.bool false))),some (36,false)⟩,opI 44 (.pick (.t 36) (.c (.p (.bool true))) (.t 43))])
  (.cond (.t 44) (.seq (.reg false [mvI 8 (kI 0),mvI 9 (kI 3)])
  .ret) .skip))
  (.seq (.reg false [mvI 45 (.t 1),mvI 8 (.t 45),mvI 9 (kI 0)])
  .ret)))),false⟩
def F_slices_Contains_api_Op_api_Op:AFn:=⟨9,[.tmp 4],
  (.seq (.reg false [mvI 4 (.c (.p (.bool false)))])
  (.seq (.reg false [mvI 5 (.t 0),mvI 6 (.t 1),opI 7 (.callf f_slices_Index_api_Op_api_Op [(.t 5),(.t 6)]),opI 8 (.arith .geq (.t 7) (kI 0)),mvI 4 (.t 8)])
  .ret)),false⟩
def F_term_All_1:AFn:=⟨6,[],
  (.seq (.reg false [opI 2 (.box 1 false (.t 0) true)])
  (.reg false [opI 3 (.load 5 true (.t 1)),opI 4 (.mkfn f_term_All_1_1 [(.t 2)]),opI 5 (.callf f_term_postorder [(.t 3),(.t 4)])])),true⟩
def B0_term_postorder:K :=
  (.seq (.reg false [opI 11 (.arith .lss (.t 10) (.t 9))])
  (.seq (.cond (.t 11) .skip (.exit 0))
  (.seq (.block 1 (.seq (.reg false [opI 12 (.iadrS 5 (.t 8) (.t 10)),opI 13 (.load 5 true (.t 12)),opI 6 (.init 5 true (.t 13) true)])
  (.seq (.reg false [opI 14 (.load 5 true (.t 6)),mvI 15 (.t 1),opI 16 (.callf f_term_postorder [(.t 14),(.t 15)]),opI 17 (.not (.t 16))])
  (.cond (.t 17) (.seq (.reg false [mvI 4 (.c (.p (.bool false)))])
  .ret) .skip))))
  (.reg false [opI 18 (.arith .add (.t 10) (kI 1)),mvI 10 (.t 18)]))))
def L0_term_postorder:K:=.loop [1,2,8,9,10] B0_term_postorder
def F_term_postorder:AFn:=⟨22,[.tmp 4],
  (.seq (.reg false [opI 2 (.box 5 true (.t 0) true),mvI 4 (.c (.p (.bool false)))])
  (.seq (.seq (.reg false [opI 7 (.fadr 4 (.t 2)),opI 8 (.load 1 false (.t 7)),opI 9 (.lenS (.t 8)),mvI 10 (kI 0)])
  (.block 0 L0_term_postorder))
  (.seq (.reg false [mvI 19 (.t 1),opI 20 (.load 5 true (.t 2)),opI 21 (.callv (.t 19) [(.t 20)]),mvI 4 (.t 21)])
  .ret))),true⟩
def F_term_All_1_1:AFn:=⟨8,[.tmp 3],
  (.seq (.reg false [opI 2 (.box 5 true (.t 0) true),mvI 3 (.c (.p (.bool false)))])
  (.seq (.reg true [opI 4 (.load 1 false (.t 1)),opI 5 (.load 5 true (.t 2)),opI 6 (.callf f_term_Copy [(.t 5)]),opI 7 (.callv (.t 4) [(.t 6)]),mvI 3 (.t 7)])
  .ret)),true⟩
def B0_term_widths:K :=
  (.seq (.reg false [opI 12 (.arith .lss (.t 11) (.t 10))])
  (.seq (.cond (.t 12) .skip (.exit 0))
  (.seq (.block 1 (.seq (.reg false [mvI 13 (.t 11),opI 14 (.iadrS 5 (.t 9) (.t 11)),opI 15 (.load 5 true (.t 14)),opI 5 (.alloc [(.p (.int .i64 0)),(.p (.int .i64 0)),(.p (.int .u64 0)),(.p (.str (bs []))),.nils] 5),mvI 4 (.t 13),⟨none,.store 5 (.t 5) (.t 15),none⟩])
  (.reg false [mvI 16 (.t 3),mvI 17 (.t 4),opI 18 (.fadr 1 (.t 5)),opI 19 (.load 1 false (.t 18)),opI 20 (.iadrS 1 (.t 16) (.t 17)),⟨none,.store 1 (.t 20) (.t 19),none⟩])))
  (.reg false [opI 21 (.arith .add (.t 11) (kI 1)),mvI 11 (.t 21)]))))
def L0_term_widths:K:=.loop [3,9,10,11] B0_term_widths
def F_term_widths:AFn:=⟨23,[.tmp 2],
  (.seq (.reg false [mvI 2 (.c .nils)])
  (.seq (.reg false [mvI 6 (.t 0),opI 7 (.lenS (.t 6)),opI 8 (.mkslice 1 8 [(.p (.int .i64 0))] (.t 7) (.t 7)),mvI 3 (.t 8)])
  (.seq (.seq (.reg false [mvI 9 (.t 0),opI 10 (.lenS (.t 9)),mvI 11 (kI 0)])
  (.block 0 L0_term_widths))
  (.seq (.reg false [mvI 22 (.t 3),mvI 2 (.t 22)])
  .ret)))),false⟩
def F_opinfo_known:AFn:=⟨9,[.tmp 2],
  (.seq (.reg false [mvI 2 (.c (.p (.bool false)))])
  (.seq (.reg false [mvI 3 (.t 0),opI 4 (.arith .geq (.t 3) (kI 1)),mvI 5 (.t 4),⟨some 6,.mv (.t 0) false,some (5,true)⟩,⟨some 7,.arith .leq (.t 6) (kI 26),some (5,true)⟩,opI 8 (.pick (.t 5) (.t 7) (.c (.p (.bool false)))),mvI 2 (.t 8)])
  .ret)),false⟩
def F_opinfo_inside:AFn:=⟨9,[.tmp 2],
  (.seq (.reg false [mvI 2 (.c (.p (.bool false)))])
  (.seq (.reg false [mvI 3 (.t 0),opI 4 (.arith .geq (.t 3) (kI 0)),mvI 5 (.t 4),⟨some 6,.mv (.t 0) false,some (5,true)⟩,⟨some 7,.arith .leq (.t 6) (kI 64),some (5,true)⟩,opI 8 (.pick (.t 5) (.t 7) (.c (.p (.bool false)))),mvI 2 (.t 8)])
  .ret)),false⟩
def F_opinfo_leaf:AFn:=⟨26,[.tmp 6,.tmp 7],
  (.seq (.reg false [mvI 6 (kI 0),mvI 7 (kI 0)])
  (.seq (.seq (.reg false [mvI 8 (.t 1),opI 9 (.callf f_opinfo_inside [(.t 8)]),opI 10 (.not (.t 9)),mvI 11 (.t 10),⟨some 12,.mv (.t 0) false,some (11,false)⟩,⟨some 13,.arith .eql (.t 12) (kI 2),some (11,false)⟩,⟨some 14,.mv (.t 13) false,some (11,false)⟩,⟨some 15,.mv (.t 1) false,some (14,true)⟩,⟨some 16,.arith .gtr (.t 15) (kI 0),some (14,true)⟩,⟨some 17,.pick (.t 14) (.t 16) (.c (.p (.bool false))),some (11,false)⟩,⟨some 18,.mv (.t 17) false,some (11,false)⟩,⟨some 19,.mv (.t 2) false,some (18,true)⟩,⟨some 20,.mv (.t 1) false,some (18,true)⟩,⟨some 21,.arith .shr (.t 19) (.t 20),some (18,true)⟩,⟨some 22,.arith .neq (.t 21) (.c (.p (.int .u64 0))),some (18,true)⟩,⟨some 23,.pick (.t 18) (.t 22) (.c (.p (.bool false))),some (11,false)⟩,opI 24 (.pick (.t 11) (.c (.p (.bool true))) (.t 23))])
  (.cond (.t 24) (.seq (.reg false [mvI 6 (kI 0),mvI 7 (kI 3)])
  .ret) .skip))
  (.seq (.reg false [mvI 25 (.t 1),mvI 6 (.t 25),mvI 7 (kI 0)])
  .ret))),false⟩
def F_opinfo_resized:AFn:=⟨45,[.tmp 8,.tmp 9],
  (.seq (.reg false [mvI 8 (kI 0),mvI 9 (kI 0)])
  (.seq (.seq (.reg false [mvI 10 (.t 1),opI 11 (.arith .lss (.t 10) (kI 1)),mvI 12 (.t 11),⟨some 13,.mv (.t 1) false,some (12,false)⟩,⟨some 14,.arith .gtr (.t 13) (kI 64),some (12,false)⟩,opI 15 (.pick (.t 12) (.c (.p (.bool true))) (.t 14)),mvI 16 (.t 15),⟨some 17,.mv (.t 3) false,some (16,false)⟩,⟨some 18,.arith .lss (.t 17) (kI 1),some (16,false)⟩,opI 19 (.pick (.t 16) (.c (.p (.bool true))) (.t 18))])
  (.cond (.t 19) (.seq (.reg false [mvI 8 (kI 0),mvI 9 (kI 3)])
  .ret) .skip))
  (.seq (.seq (.reg false [mvI 20 (.t 0),opI 21 (.arith .neq (.t 20) (kI 21)),mvI 22 (.t 21),⟨some 23,.mv (.t 1) false,some (22,true)⟩,⟨some 24,.mv (.t 3) false,some (22,true)⟩,⟨some 25,.arith .lss (.t 23) (.t 24),some (22,true)⟩,opI 26 (.pick (.t 22) (.t 25) (.c (.p (.bool false)))),mvI 27 (.t 26),⟨some 28,.mv (.t 0) false,some (27,false)⟩,⟨some 29,.arith .eql (.t 28) (kI 21),some (27,false)⟩,⟨some 30,.mv (.t 29) false,some (27,false)⟩,⟨some 31,.mv (.t 1) false,some (30,true)⟩,⟨some 32,.mv (.t 3) false,some (30,true)⟩,⟨some 33,.arith .gtr (.t 31) (.t 32),some (30,true)⟩,⟨some 34,.mv (.t 33) false,some (30,true)⟩,⟨some 35,.mv (.t 2) false,some (34,false)⟩,⟨some 36,.mv (.t 3) false,some (34,false)⟩,⟨some 37,.mv (.t 1) false,some (34,false)⟩,⟨some 38,.arith .sub (.t 36) (.t 37),some (34,false)⟩,⟨some 39,.conv .u64 (.t 38),some (34,false)⟩,⟨some 40,.arith .gtr (.t 35) (.t 39),some (34,false)⟩,⟨some 41,.pick (.t 34) (.c (.p (.bool true))) (.t 40),some (30,true)⟩,⟨some 42,.pick (.t 30) (.t 41) (.c (.p (.bool false))),some (27,false)⟩,opI 43 (.pick (.t 27) (.c (.p (.bool true))) (.t 42))])
  (.cond (.t 43) (.seq (.reg false [mvI 8 (kI 0),mvI 9 (kI 3)])
  .ret) .skip))
  (.seq (.reg false [mvI 44 (.t 1),mvI 8 (.t 44),mvI 9 (kI 0)])
  .ret)))),false⟩
def F_opinfo_agreed:AFn:=⟨9,[.tmp 4,.tmp 5],
  (.seq (.reg false [mvI 4 (kI 0),mvI 5 (kI 0)])
  (.seq (.seq (.reg false [mvI 6 (.t 0),opI 7 (.not (.t 6))])
  (.cond (.t 7) (.seq (.reg false [mvI 4 (kI 0),mvI 5 (kI 3)])
  .ret) .skip))
  (.seq (.reg false [mvI 8 (.t 1),mvI 4 (.t 8),mvI 5 (kI 0)])
  .ret))),false⟩
def B0_slices_Index_api_Op_api_Op:K :=
  (.seq (.reg false [opI 9 (.arith .lss (.t 8) (.t 7))])
  (.seq (.cond (.t 9) .skip (.exit 0))
  (.seq (.block 1 (.seq (.reg false [mvI 10 (.t 8),mvI 5 (.t 10)])
  (.seq (.reg false [mvI 11 (.t 1),mvI 12 (.t 0),mvI 13 (.t 5),opI 14 (.iadrS 1 (.t 12) (.t 13)),opI 15 (.load 1 false (.t 14)),opI 16 (.arith .eql (.t 11) (.t 15))])
  (.cond (.t 16) (.seq (.reg false [mvI 17 (.t 5),mvI 4 (.t 17)])
  .ret) .skip))))
  (.reg false [opI 18 (.arith .add (.t 8) (kI 1)),mvI 8 (.t 18)]))))
def L0_slices_Index_api_Op_api_Op:K:=.loop [0,1,7,8] B0_slices_Index_api_Op_api_Op
def F_slices_Index_api_Op_api_Op:AFn:=⟨19,[.tmp 4],
  (.seq (.reg false [mvI 4 (kI 0)])
  (.seq (.seq (.reg false [mvI 6 (.t 0),opI 7 (.lenS (.t 6)),mvI 8 (kI 0)])
  (.block 0 L0_slices_Index_api_Op_api_Op))
  (.seq (.reg false [mvI 4 (kI (-1))])
  .ret))),false⟩
def tbl:List (FuncId×AFn):=[
  (f_law25_ProgramAtoms,F_law25_ProgramAtoms),
  (f_r25_Light,F_r25_Light),
  (f_law25_lives,F_law25_lives),
  (f_program_Names,F_program_Names),
  (f_r25_Names,F_r25_Names),
  (f_program_CheckAtoms,F_program_CheckAtoms),
  (f_r25_CheckAtoms,F_r25_CheckAtoms),
  (f_r06_SameVars,F_r06_SameVars),
  (f_program_Compile,F_program_Compile),
  (f_program_Check,F_program_Check),
  (f_r06_Light,F_r06_Light),
  (f_law25_twice,F_law25_twice),
  (f_program_mentions,F_program_mentions),
  (f_program_Names_1,F_program_Names_1),
  (f_slices_ContainsFunc_api_Var_api_Var,F_slices_ContainsFunc_api_Var_api_Var),
  (f_program_Names_2,F_program_Names_2),
  (f_strings_Compare,F_strings_Compare),
  (f_r25_all,F_r25_all),
  (f_r25_names,F_r25_names),
  (f_pattern_Check,F_pattern_Check),
  (f_pattern_Generic,F_pattern_Generic),
  (f_term_Name,F_term_Name),
  (f_r24_Check,F_r24_Check),
  (f_r24_Generic,F_r24_Generic),
  (f_r06_Name,F_r06_Name),
  (f_program_compiler_register,F_program_compiler_register),
  (f_program_compiler_emit,F_program_compiler_emit),
  (f_program_compiler_hole,F_program_compiler_hole),
  (f_program_compiler_pattern,F_program_compiler_pattern),
  (f_program_checker_instruction,F_program_checker_instruction),
  (f_program_slots,F_program_slots),
  (f_term_Copy,F_term_Copy),
  (f_r06_count,F_r06_count),
  (f_law25_hole,F_law25_hole),
  (f_program_mentions_1,F_program_mentions_1),
  (f_slices_IndexFunc_api_Var_api_Var,F_slices_IndexFunc_api_Var_api_Var),
  (f_internal_bytealg_CompareString,F_internal_bytealg_CompareString),
  (f_r25_uses,F_r25_uses),
  (f_term_Size,F_term_Size),
  (f_term_Depth,F_term_Depth),
  (f_pattern_nodes,F_pattern_nodes),
  (f_pattern_preorder,F_pattern_preorder),
  (f_pattern_variable,F_pattern_variable),
  (f_r10_Small,F_r10_Small),
  (f_r07_Deep,F_r07_Deep),
  (f_r24_Postorder,F_r24_Postorder),
  (f_r24_node,F_r24_node),
  (f_r24_names,F_r24_names),
  (f_r24_Preorder,F_r24_Preorder),
  (f_program_compiler_width,F_program_compiler_width),
  (f_pattern_Ground,F_pattern_Ground),
  (f_program_determined,F_program_determined),
  (f_program_checker_set,F_program_checker_set),
  (f_opinfo_Arity,F_opinfo_Arity),
  (f_opinfo_Pattern,F_opinfo_Pattern),
  (f_program_checker_setAll,F_program_checker_setAll),
  (f_term_Check,F_term_Check),
  (f_r06_Pre,F_r06_Pre),
  (f_pattern_node,F_pattern_node),
  (f_pattern_preorder_1,F_pattern_preorder_1),
  (f_pattern_visit,F_pattern_visit),
  (f_r10_left,F_r10_left),
  (f_r04_Arity,F_r04_Arity),
  (f_r24_variable,F_r24_variable),
  (f_r07_Name,F_r07_Name),
  (f_r04_Width,F_r04_Width),
  (f_r24_widths,F_r24_widths),
  (f_pattern_has,F_pattern_has),
  (f_term_measure,F_term_measure),
  (f_term_All,F_term_All),
  (f_term_node,F_term_node),
  (f_opinfo_Width,F_opinfo_Width),
  (f_pattern_widths,F_pattern_widths),
  (f_r04_Leaf,F_r04_Leaf),
  (f_r04_Is,F_r04_Is),
  (f_r04_width,F_r04_width),
  (f_r04_leaf,F_r04_leaf),
  (f_r04_parts,F_r04_parts),
  (f_slices_Contains_api_Op_api_Op,F_slices_Contains_api_Op_api_Op),
  (f_term_All_1,F_term_All_1),
  (f_term_postorder,F_term_postorder),
  (f_term_All_1_1,F_term_All_1_1),
  (f_term_widths,F_term_widths),
  (f_opinfo_known,F_opinfo_known),
  (f_opinfo_inside,F_opinfo_inside),
  (f_opinfo_leaf,F_opinfo_leaf),
  (f_opinfo_resized,F_opinfo_resized),
  (f_opinfo_agreed,F_opinfo_agreed),
  (f_slices_Index_api_Op_api_Op,F_slices_Index_api_Op_api_Op)]
def P:Prog:={ fn:=fun f=>tbl.lookup f,prim:=fun f=>if f=f_slices_SortFunc_api_Var_api_Var then some (primSort 2 f_program_Names_2 okV ltV) else if f=f_internal_bytealg_abigen_runtime_cmpstring then some (purePrim primCompare) else none }
theorem p_law25_ProgramAtoms:P.fn f_law25_ProgramAtoms=some F_law25_ProgramAtoms:=rfl
theorem p_r25_Light:P.fn f_r25_Light=some F_r25_Light:=rfl
theorem p_law25_lives:P.fn f_law25_lives=some F_law25_lives:=rfl
theorem p_program_Names:P.fn f_program_Names=some F_program_Names:=rfl
theorem p_r25_Names:P.fn f_r25_Names=some F_r25_Names:=rfl
theorem p_program_CheckAtoms:P.fn f_program_CheckAtoms=some F_program_CheckAtoms:=rfl
theorem p_r25_CheckAtoms:P.fn f_r25_CheckAtoms=some F_r25_CheckAtoms:=rfl
theorem p_r06_SameVars:P.fn f_r06_SameVars=some F_r06_SameVars:=rfl
theorem p_program_Compile:P.fn f_program_Compile=some F_program_Compile:=rfl
theorem p_program_Check:P.fn f_program_Check=some F_program_Check:=rfl
theorem p_r06_Light:P.fn f_r06_Light=some F_r06_Light:=rfl
theorem p_law25_twice:P.fn f_law25_twice=some F_law25_twice:=rfl
theorem p_program_mentions:P.fn f_program_mentions=some F_program_mentions:=rfl
theorem p_program_Names_1:P.fn f_program_Names_1=some F_program_Names_1:=rfl
theorem p_slices_ContainsFunc_api_Var_api_Var:P.fn f_slices_ContainsFunc_api_Var_api_Var=some F_slices_ContainsFunc_api_Var_api_Var:=rfl
theorem p_r25_all:P.fn f_r25_all=some F_r25_all:=rfl
theorem p_r25_names:P.fn f_r25_names=some F_r25_names:=rfl
theorem p_pattern_Check:P.fn f_pattern_Check=some F_pattern_Check:=rfl
theorem p_pattern_Generic:P.fn f_pattern_Generic=some F_pattern_Generic:=rfl
theorem p_term_Name:P.fn f_term_Name=some F_term_Name:=rfl
theorem p_r24_Check:P.fn f_r24_Check=some F_r24_Check:=rfl
theorem p_r24_Generic:P.fn f_r24_Generic=some F_r24_Generic:=rfl
theorem p_r06_Name:P.fn f_r06_Name=some F_r06_Name:=rfl
theorem p_program_compiler_register:P.fn f_program_compiler_register=some F_program_compiler_register:=rfl
theorem p_program_compiler_emit:P.fn f_program_compiler_emit=some F_program_compiler_emit:=rfl
theorem p_program_compiler_hole:P.fn f_program_compiler_hole=some F_program_compiler_hole:=rfl
theorem p_program_compiler_pattern:P.fn f_program_compiler_pattern=some F_program_compiler_pattern:=rfl
theorem p_program_checker_instruction:P.fn f_program_checker_instruction=some F_program_checker_instruction:=rfl
theorem p_program_slots:P.fn f_program_slots=some F_program_slots:=rfl
theorem p_r06_count:P.fn f_r06_count=some F_r06_count:=rfl
theorem p_law25_hole:P.fn f_law25_hole=some F_law25_hole:=rfl
theorem p_program_mentions_1:P.fn f_program_mentions_1=some F_program_mentions_1:=rfl
theorem p_slices_IndexFunc_api_Var_api_Var:P.fn f_slices_IndexFunc_api_Var_api_Var=some F_slices_IndexFunc_api_Var_api_Var:=rfl
theorem p_r25_uses:P.fn f_r25_uses=some F_r25_uses:=rfl
theorem p_term_Size:P.fn f_term_Size=some F_term_Size:=rfl
theorem p_term_Depth:P.fn f_term_Depth=some F_term_Depth:=rfl
theorem p_pattern_nodes:P.fn f_pattern_nodes=some F_pattern_nodes:=rfl
theorem p_pattern_preorder:P.fn f_pattern_preorder=some F_pattern_preorder:=rfl
theorem p_pattern_variable:P.fn f_pattern_variable=some F_pattern_variable:=rfl
theorem p_r10_Small:P.fn f_r10_Small=some F_r10_Small:=rfl
theorem p_r07_Deep:P.fn f_r07_Deep=some F_r07_Deep:=rfl
theorem p_r24_Postorder:P.fn f_r24_Postorder=some F_r24_Postorder:=rfl
theorem p_r24_node:P.fn f_r24_node=some F_r24_node:=rfl
theorem p_r24_names:P.fn f_r24_names=some F_r24_names:=rfl
theorem p_r24_Preorder:P.fn f_r24_Preorder=some F_r24_Preorder:=rfl
theorem p_program_compiler_width:P.fn f_program_compiler_width=some F_program_compiler_width:=rfl
theorem p_pattern_Ground:P.fn f_pattern_Ground=some F_pattern_Ground:=rfl
theorem p_program_determined:P.fn f_program_determined=some F_program_determined:=rfl
theorem p_program_checker_set:P.fn f_program_checker_set=some F_program_checker_set:=rfl
theorem p_opinfo_Arity:P.fn f_opinfo_Arity=some F_opinfo_Arity:=rfl
theorem p_opinfo_Pattern:P.fn f_opinfo_Pattern=some F_opinfo_Pattern:=rfl
theorem p_program_checker_setAll:P.fn f_program_checker_setAll=some F_program_checker_setAll:=rfl
theorem p_r06_Pre:P.fn f_r06_Pre=some F_r06_Pre:=rfl
theorem p_pattern_node:P.fn f_pattern_node=some F_pattern_node:=rfl
theorem p_pattern_preorder_1:P.fn f_pattern_preorder_1=some F_pattern_preorder_1:=rfl
theorem p_pattern_visit:P.fn f_pattern_visit=some F_pattern_visit:=rfl
theorem p_r10_left:P.fn f_r10_left=some F_r10_left:=rfl
theorem p_r04_Arity:P.fn f_r04_Arity=some F_r04_Arity:=rfl
theorem p_r24_variable:P.fn f_r24_variable=some F_r24_variable:=rfl
theorem p_r07_Name:P.fn f_r07_Name=some F_r07_Name:=rfl
theorem p_r04_Width:P.fn f_r04_Width=some F_r04_Width:=rfl
theorem p_r24_widths:P.fn f_r24_widths=some F_r24_widths:=rfl
theorem p_pattern_has:P.fn f_pattern_has=some F_pattern_has:=rfl
theorem p_opinfo_Width:P.fn f_opinfo_Width=some F_opinfo_Width:=rfl
theorem p_pattern_widths:P.fn f_pattern_widths=some F_pattern_widths:=rfl
theorem p_r04_Leaf:P.fn f_r04_Leaf=some F_r04_Leaf:=rfl
theorem p_r04_Is:P.fn f_r04_Is=some F_r04_Is:=rfl
theorem p_r04_width:P.fn f_r04_width=some F_r04_width:=rfl
theorem p_r04_leaf:P.fn f_r04_leaf=some F_r04_leaf:=rfl
theorem p_r04_parts:P.fn f_r04_parts=some F_r04_parts:=rfl
theorem p_slices_Contains_api_Op_api_Op:P.fn f_slices_Contains_api_Op_api_Op=some F_slices_Contains_api_Op_api_Op:=rfl
theorem p_opinfo_known:P.fn f_opinfo_known=some F_opinfo_known:=rfl
theorem p_opinfo_inside:P.fn f_opinfo_inside=some F_opinfo_inside:=rfl
theorem p_opinfo_leaf:P.fn f_opinfo_leaf=some F_opinfo_leaf:=rfl
theorem p_opinfo_resized:P.fn f_opinfo_resized=some F_opinfo_resized:=rfl
theorem p_opinfo_agreed:P.fn f_opinfo_agreed=some F_opinfo_agreed:=rfl
theorem p_slices_Index_api_Op_api_Op:P.fn f_slices_Index_api_Op_api_Op=some F_slices_Index_api_Op_api_Op:=rfl
theorem k0_r25_Light:Kp P L0_r25_Light [0,3]:=loop_kept
theorem k0_program_Names:Kp P L0_program_Names [4,11,12,13]:=loop_kept
theorem k1_program_Names:Kp P L1_program_Names [4,37,38]:=loop_kept
theorem k0_program_CheckAtoms:Kp P L0_program_CheckAtoms [0,19,20,21]:=loop_kept
theorem k1_program_CheckAtoms:Kp P L1_program_CheckAtoms [6,46,47,48]:=loop_kept
theorem k0_r25_CheckAtoms:Kp P L0_r25_CheckAtoms [0,3]:=loop_kept
theorem k2_r25_CheckAtoms:Kp P L2_r25_CheckAtoms [5,6,7]:=loop_kept
theorem k1_r25_CheckAtoms:Kp P L1_r25_CheckAtoms [5,6]:=loop_kept
theorem k0_r06_SameVars:Kp P L0_r06_SameVars [0,1,5]:=loop_kept
theorem k0_program_Compile:Kp P L0_program_Compile [0,2,5,26,27,28]:=loop_kept
theorem k1_program_Compile:Kp P L1_program_Compile [2,5,10,74,75,76]:=loop_kept
theorem k2_program_Compile:Kp P L2_program_Compile [2,5,102,103,104]:=loop_kept
theorem k0_program_Check:Kp P L0_program_Check [1,3,29,30,31]:=loop_kept
theorem k1_program_Check:Kp P L1_program_Check [1,3,41,42,43]:=loop_kept
theorem k0_program_mentions:Kp P L0_program_mentions [3,4,8,9,10]:=loop_kept
theorem k0_r25_all:Kp P L0_r25_all [0,3,4]:=loop_kept
theorem k1_r25_names:Kp P L1_r25_names [0,1,5,6,7]:=loop_kept
theorem k0_r25_names:Kp P L0_r25_names [0,1,5,6]:=loop_kept
theorem k0_term_Name:Kp P L0_term_Name [0,24,25]:=loop_kept
theorem k0_r24_Check:Kp P L0_r24_Check [1,2,5,6]:=loop_kept
theorem k0_r24_Generic:Kp P L0_r24_Generic [3,4]:=loop_kept
theorem k0_r06_Name:Kp P L0_r06_Name [0,3]:=loop_kept
theorem k0_program_compiler_pattern:Kp P L0_program_compiler_pattern [0,5,8,94,95,96]:=loop_kept
theorem k0_program_slots:Kp P L0_program_slots [0,1,7,8,9]:=loop_kept
theorem k0_r06_count:Kp P L0_r06_count [1,2,3,7]:=loop_kept
theorem k0_program_mentions_1:Kp P L0_program_mentions_1 [2,31,32,33]:=loop_kept
theorem k0_slices_IndexFunc_api_Var_api_Var:Kp P L0_slices_IndexFunc_api_Var_api_Var [0,1,7,8]:=loop_kept
theorem k0_r25_uses:Kp P L0_r25_uses [3,4,5]:=loop_kept
theorem k0_term_Size:Kp P L0_term_Size [3,7,8,9]:=loop_kept
theorem k0_term_Depth:Kp P L0_term_Depth [3,7,8,9]:=loop_kept
theorem k0_pattern_nodes:Kp P L0_pattern_nodes [1,2,9,10,11]:=loop_kept
theorem k0_r07_Deep:Kp P L0_r07_Deep [1,2,5]:=loop_kept
theorem k0_r24_Postorder:Kp P L0_r24_Postorder [1,3,4]:=loop_kept
theorem k0_r24_node:Kp P L0_r24_node [7,8]:=loop_kept
theorem k1_r24_names:Kp P L1_r24_names [4,5,6,7,8]:=loop_kept
theorem k0_r24_names:Kp P L0_r24_names [4,5,6]:=loop_kept
theorem k0_r24_Preorder:Kp P L0_r24_Preorder [1,3,4]:=loop_kept
theorem k0_program_checker_setAll:Kp P L0_program_checker_setAll [0,1,8,9]:=loop_kept
theorem k0_r06_Pre:Kp P L0_r06_Pre [1,3,4]:=loop_kept
theorem k0_pattern_visit:Kp P L0_pattern_visit [1,12,13,14]:=loop_kept
theorem k0_r10_left:Kp P L0_r10_left [1,2,10,11]:=loop_kept
theorem k0_r07_Name:Kp P L0_r07_Name [0,3]:=loop_kept
theorem k0_r04_Width:Kp P L0_r04_Width [0,1,2,3,22,23]:=loop_kept
theorem k0_r24_widths:Kp P L0_r24_widths [1,3,4]:=loop_kept
theorem k0_opinfo_Width:Kp P L0_opinfo_Width [0,1,2,3,22,23,24]:=loop_kept
theorem k0_pattern_widths:Kp P L0_pattern_widths [3,6,7,8]:=loop_kept
theorem k0_r04_Is:Kp P L0_r04_Is [0,1,7,8]:=loop_kept
theorem k0_slices_Index_api_Op_api_Op:Kp P L0_slices_Index_api_Op_api_Op [0,1,7,8]:=loop_kept
theorem kR0_pattern_Check {τ:Tm} {σ:Store} {nt:Nat} {rd:Option Nat}:exec P R0_pattern_Check ⟨τ,σ,nt,rd⟩=rangeK τ nt rd (rangeR P [27] A0_pattern_Check B0_pattern_Check ((O.t 26).val τ) (τ.kept [4,6]) σ nt rd):=range_go
theorem kR0_pattern_Generic {τ:Tm} {σ:Store} {nt:Nat} {rd:Option Nat}:exec P R0_pattern_Generic ⟨τ,σ,nt,rd⟩=rangeK τ nt rd (rangeR P [6] A0_pattern_Generic B0_pattern_Generic ((O.t 5).val τ) (τ.kept [2]) σ nt rd):=range_go
theorem kR0_pattern_has {τ:Tm} {σ:Store} {nt:Nat} {rd:Option Nat}:exec P R0_pattern_has ⟨τ,σ,nt,rd⟩=rangeK τ nt rd (rangeR P [8] A0_pattern_has B0_pattern_has ((O.t 7).val τ) (τ.kept [3,4]) σ nt rd):=range_go
theorem r_law25_ProgramAtoms:Rp P f_law25_ProgramAtoms 39 [.tmp 2] F_law25_ProgramAtoms:=fun h=>R_go p_law25_ProgramAtoms h
theorem q_r25_Light:Qp P f_r25_Light:=callF_pure p_r25_Light rfl rfl
theorem r_r25_Light:Rp P f_r25_Light 35 [.tmp 2] F_r25_Light:=fun h=>R_go p_r25_Light h
theorem q_law25_lives:Qp P f_law25_lives:=callF_pure p_law25_lives rfl rfl
theorem r_law25_lives:Rp P f_law25_lives 88 [.tmp 0] F_law25_lives:=fun h=>R_go p_law25_lives h
theorem q_program_Names:Qp P f_program_Names:=callF_pure p_program_Names rfl rfl
theorem r_program_Names:Rp P f_program_Names 48 [.tmp 2,.tmp 3] F_program_Names:=fun h=>R_go p_program_Names h
theorem q_r25_Names:Qp P f_r25_Names:=callF_pure p_r25_Names rfl rfl
theorem r_r25_Names:Rp P f_r25_Names 11 [.tmp 2,.tmp 3] F_r25_Names:=fun h=>R_go p_r25_Names h
theorem q_program_CheckAtoms:Qp P f_program_CheckAtoms:=callF_pure p_program_CheckAtoms rfl rfl
theorem r_program_CheckAtoms:Rp P f_program_CheckAtoms 75 [.tmp 2] F_program_CheckAtoms:=fun h=>R_go p_program_CheckAtoms h
theorem q_r25_CheckAtoms:Qp P f_r25_CheckAtoms:=callF_pure p_r25_CheckAtoms rfl rfl
theorem r_r25_CheckAtoms:Rp P f_r25_CheckAtoms 98 [.tmp 2] F_r25_CheckAtoms:=fun h=>R_go p_r25_CheckAtoms h
theorem q_r06_SameVars:Qp P f_r06_SameVars:=callF_pure p_r06_SameVars rfl rfl
theorem r_r06_SameVars:Rp P f_r06_SameVars 26 [.tmp 4] F_r06_SameVars:=fun h=>R_go p_r06_SameVars h
theorem q_program_Compile:Qp P f_program_Compile:=callF_pure p_program_Compile rfl rfl
theorem r_program_Compile:Rp P f_program_Compile 134 [.cell 2 5 true,.tmp 3] F_program_Compile:=fun h=>R_go p_program_Compile h
theorem q_program_Check:Qp P f_program_Check:=callF_pure p_program_Check rfl rfl
theorem r_program_Check:Rp P f_program_Check 95 [.tmp 2] F_program_Check:=fun h=>R_go p_program_Check h
theorem q_r06_Light:Qp P f_r06_Light:=callF_pure p_r06_Light rfl rfl
theorem r_r06_Light:Rp P f_r06_Light 15 [.cell 6 5 true,.tmp 7] F_r06_Light:=fun h=>R_go p_r06_Light h
theorem q_law25_twice:Qp P f_law25_twice:=callF_pure p_law25_twice rfl rfl
theorem r_law25_twice:Rp P f_law25_twice 7 [.tmp 0] F_law25_twice:=fun h=>R_go p_law25_twice h
theorem q_program_mentions:Qp P f_program_mentions:=callF_pure p_program_mentions rfl rfl
theorem r_program_mentions:Rp P f_program_mentions 33 [.tmp 2] F_program_mentions:=fun h=>R_go p_program_mentions h
theorem q_program_Names_1:Qp P f_program_Names_1:=callF_pure p_program_Names_1 rfl rfl
theorem r_program_Names_1:Rp P f_program_Names_1 10 [.tmp 3] F_program_Names_1:=fun h=>R_go p_program_Names_1 h
theorem q_slices_ContainsFunc_api_Var_api_Var:Qp P f_slices_ContainsFunc_api_Var_api_Var:=callF_pure p_slices_ContainsFunc_api_Var_api_Var rfl rfl
theorem r_slices_ContainsFunc_api_Var_api_Var:Rp P f_slices_ContainsFunc_api_Var_api_Var 9 [.tmp 4] F_slices_ContainsFunc_api_Var_api_Var:=fun h=>R_go p_slices_ContainsFunc_api_Var_api_Var h
theorem q_r25_all:Qp P f_r25_all:=callF_pure p_r25_all rfl rfl
theorem r_r25_all:Rp P f_r25_all 19 [.tmp 2] F_r25_all:=fun h=>R_go p_r25_all h
theorem q_r25_names:Qp P f_r25_names:=callF_pure p_r25_names rfl rfl
theorem r_r25_names:Rp P f_r25_names 83 [.tmp 4] F_r25_names:=fun h=>R_go p_r25_names h
theorem q_pattern_Check:Qp P f_pattern_Check:=callF_pure p_pattern_Check rfl rfl
theorem r_pattern_Check:Rp P f_pattern_Check 61 [.cell 4 1 false] F_pattern_Check:=fun h=>R_go p_pattern_Check h
theorem q_pattern_Generic:Qp P f_pattern_Generic:=callF_pure p_pattern_Generic rfl rfl
theorem r_pattern_Generic:Rp P f_pattern_Generic 10 [.cell 2 1 false] F_pattern_Generic:=fun h=>R_go p_pattern_Generic h
theorem q_term_Name:Qp P f_term_Name:=callF_pure p_term_Name rfl rfl
theorem r_term_Name:Rp P f_term_Name 50 [.tmp 2] F_term_Name:=fun h=>R_go p_term_Name h
theorem q_r24_Check:Qp P f_r24_Check:=callF_pure p_r24_Check rfl rfl
theorem r_r24_Check:Rp P f_r24_Check 44 [.tmp 4] F_r24_Check:=fun h=>R_go p_r24_Check h
theorem q_r24_Generic:Qp P f_r24_Generic:=callF_pure p_r24_Generic rfl rfl
theorem r_r24_Generic:Rp P f_r24_Generic 19 [.tmp 2] F_r24_Generic:=fun h=>R_go p_r24_Generic h
theorem q_r06_Name:Qp P f_r06_Name:=callF_pure p_r06_Name rfl rfl
theorem r_r06_Name:Rp P f_r06_Name 56 [.tmp 2] F_r06_Name:=fun h=>R_go p_r06_Name h
theorem q_program_compiler_register:Qi P f_program_compiler_register F_program_compiler_register:=callF_imp p_program_compiler_register rfl rfl
theorem q_program_compiler_emit:Qi P f_program_compiler_emit F_program_compiler_emit:=callF_imp p_program_compiler_emit rfl rfl
theorem q_program_compiler_hole:Qi P f_program_compiler_hole F_program_compiler_hole:=callF_imp p_program_compiler_hole rfl rfl
theorem q_program_compiler_pattern:Qi P f_program_compiler_pattern F_program_compiler_pattern:=callF_imp p_program_compiler_pattern rfl rfl
theorem q_program_checker_instruction:Qi P f_program_checker_instruction F_program_checker_instruction:=callF_imp p_program_checker_instruction rfl rfl
theorem q_program_slots:Qp P f_program_slots:=callF_pure p_program_slots rfl rfl
theorem r_program_slots:Rp P f_program_slots 35 [.tmp 4] F_program_slots:=fun h=>R_go p_program_slots h
theorem q_r06_count:Qp P f_r06_count:=callF_pure p_r06_count rfl rfl
theorem r_r06_count:Rp P f_r06_count 37 [.tmp 6] F_r06_count:=fun h=>R_go p_r06_count h
theorem q_law25_hole:Qp P f_law25_hole:=callF_pure p_law25_hole rfl rfl
theorem r_law25_hole:Rp P f_law25_hole 5 [.cell 2 5 true] F_law25_hole:=fun h=>R_go p_law25_hole h
theorem q_program_mentions_1:Qi P f_program_mentions_1 F_program_mentions_1:=callF_imp p_program_mentions_1 rfl rfl
theorem q_slices_IndexFunc_api_Var_api_Var:Qp P f_slices_IndexFunc_api_Var_api_Var:=callF_pure p_slices_IndexFunc_api_Var_api_Var rfl rfl
theorem r_slices_IndexFunc_api_Var_api_Var:Rp P f_slices_IndexFunc_api_Var_api_Var 19 [.tmp 4] F_slices_IndexFunc_api_Var_api_Var:=fun h=>R_go p_slices_IndexFunc_api_Var_api_Var h
theorem q_r25_uses:Qp P f_r25_uses:=callF_pure p_r25_uses rfl rfl
theorem r_r25_uses:Rp P f_r25_uses 61 [.tmp 2] F_r25_uses:=fun h=>R_go p_r25_uses h
theorem q_term_Size:Qp P f_term_Size:=callF_pure p_term_Size rfl rfl
theorem r_term_Size:Rp P f_term_Size 19 [.tmp 2] F_term_Size:=fun h=>R_go p_term_Size h
theorem q_term_Depth:Qp P f_term_Depth:=callF_pure p_term_Depth rfl rfl
theorem r_term_Depth:Rp P f_term_Depth 20 [.tmp 2] F_term_Depth:=fun h=>R_go p_term_Depth h
theorem q_pattern_nodes:Qp P f_pattern_nodes:=callF_pure p_pattern_nodes rfl rfl
theorem r_pattern_nodes:Rp P f_pattern_nodes 25 [.tmp 4] F_pattern_nodes:=fun h=>R_go p_pattern_nodes h
theorem q_pattern_preorder:Qp P f_pattern_preorder:=callF_pure p_pattern_preorder rfl rfl
theorem r_pattern_preorder:Rp P f_pattern_preorder 4 [.tmp 2] F_pattern_preorder:=fun h=>R_go p_pattern_preorder h
theorem q_pattern_variable:Qp P f_pattern_variable:=callF_pure p_pattern_variable rfl rfl
theorem r_pattern_variable:Rp P f_pattern_variable 9 [.tmp 2] F_pattern_variable:=fun h=>R_go p_pattern_variable h
theorem q_r10_Small:Qp P f_r10_Small:=callF_pure p_r10_Small rfl rfl
theorem r_r10_Small:Rp P f_r10_Small 9 [.tmp 4] F_r10_Small:=fun h=>R_go p_r10_Small h
theorem q_r07_Deep:Qp P f_r07_Deep:=callF_pure p_r07_Deep rfl rfl
theorem r_r07_Deep:Rp P f_r07_Deep 23 [.tmp 4] F_r07_Deep:=fun h=>R_go p_r07_Deep h
theorem q_r24_Postorder:Qp P f_r24_Postorder:=callF_pure p_r24_Postorder rfl rfl
theorem r_r24_Postorder:Rp P f_r24_Postorder 26 [.tmp 2] F_r24_Postorder:=fun h=>R_go p_r24_Postorder h
theorem q_r24_node:Qp P f_r24_node:=callF_pure p_r24_node rfl rfl
theorem r_r24_node:Rp P f_r24_node 115 [.tmp 4] F_r24_node:=fun h=>R_go p_r24_node h
theorem q_r24_names:Qp P f_r24_names:=callF_pure p_r24_names rfl rfl
theorem r_r24_names:Rp P f_r24_names 82 [.tmp 2,.tmp 3] F_r24_names:=fun h=>R_go p_r24_names h
theorem q_r24_Preorder:Qp P f_r24_Preorder:=callF_pure p_r24_Preorder rfl rfl
theorem r_r24_Preorder:Rp P f_r24_Preorder 23 [.tmp 2] F_r24_Preorder:=fun h=>R_go p_r24_Preorder h
theorem q_program_compiler_width:Qi P f_program_compiler_width F_program_compiler_width:=callF_imp p_program_compiler_width rfl rfl
theorem q_pattern_Ground:Qp P f_pattern_Ground:=callF_pure p_pattern_Ground rfl rfl
theorem r_pattern_Ground:Rp P f_pattern_Ground 7 [.tmp 2] F_pattern_Ground:=fun h=>R_go p_pattern_Ground h
theorem q_program_determined:Qp P f_program_determined:=callF_pure p_program_determined rfl rfl
theorem r_program_determined:Rp P f_program_determined 12 [.tmp 2] F_program_determined:=fun h=>R_go p_program_determined h
theorem q_program_checker_set:Qi P f_program_checker_set F_program_checker_set:=callF_imp p_program_checker_set rfl rfl
theorem q_opinfo_Arity:Qp P f_opinfo_Arity:=callF_pure p_opinfo_Arity rfl rfl
theorem r_opinfo_Arity:Rp P f_opinfo_Arity 42 [.tmp 2] F_opinfo_Arity:=fun h=>R_go p_opinfo_Arity h
theorem q_opinfo_Pattern:Qp P f_opinfo_Pattern:=callF_pure p_opinfo_Pattern rfl rfl
theorem r_opinfo_Pattern:Rp P f_opinfo_Pattern 9 [.tmp 2] F_opinfo_Pattern:=fun h=>R_go p_opinfo_Pattern h
theorem q_program_checker_setAll:Qi P f_program_checker_setAll F_program_checker_setAll:=callF_imp p_program_checker_setAll rfl rfl
theorem q_r06_Pre:Qp P f_r06_Pre:=callF_pure p_r06_Pre rfl rfl
theorem r_r06_Pre:Rp P f_r06_Pre 23 [.tmp 2] F_r06_Pre:=fun h=>R_go p_r06_Pre h
theorem q_pattern_node:Qp P f_pattern_node:=callF_pure p_pattern_node rfl rfl
theorem r_pattern_node:Rp P f_pattern_node 102 [.tmp 4] F_pattern_node:=fun h=>R_go p_pattern_node h
theorem q_pattern_visit:Qi P f_pattern_visit F_pattern_visit:=callF_imp p_pattern_visit rfl rfl
theorem q_r10_left:Qp P f_r10_left:=callF_pure p_r10_left rfl rfl
theorem r_r10_left:Rp P f_r10_left 25 [.tmp 4] F_r10_left:=fun h=>R_go p_r10_left h
theorem q_r04_Arity:Qp P f_r04_Arity:=callF_pure p_r04_Arity rfl rfl
theorem r_r04_Arity:Rp P f_r04_Arity 16 [.tmp 2] F_r04_Arity:=fun h=>R_go p_r04_Arity h
theorem q_r24_variable:Qp P f_r24_variable:=callF_pure p_r24_variable rfl rfl
theorem r_r24_variable:Rp P f_r24_variable 11 [.tmp 2] F_r24_variable:=fun h=>R_go p_r24_variable h
theorem q_r07_Name:Qp P f_r07_Name:=callF_pure p_r07_Name rfl rfl
theorem r_r07_Name:Rp P f_r07_Name 52 [.tmp 2] F_r07_Name:=fun h=>R_go p_r07_Name h
theorem q_r04_Width:Qp P f_r04_Width:=callF_pure p_r04_Width rfl rfl
theorem r_r04_Width:Rp P f_r04_Width 133 [.tmp 8,.tmp 9] F_r04_Width:=fun h=>R_go p_r04_Width h
theorem q_r24_widths:Qp P f_r24_widths:=callF_pure p_r24_widths rfl rfl
theorem r_r24_widths:Rp P f_r24_widths 23 [.tmp 2] F_r24_widths:=fun h=>R_go p_r24_widths h
theorem q_pattern_has:Qp P f_pattern_has:=callF_pure p_pattern_has rfl rfl
theorem r_pattern_has:Rp P f_pattern_has 13 [.cell 4 1 false] F_pattern_has:=fun h=>R_go p_pattern_has h
theorem q_opinfo_Width:Qp P f_opinfo_Width:=callF_pure p_opinfo_Width rfl rfl
theorem r_opinfo_Width:Rp P f_opinfo_Width 144 [.tmp 8,.tmp 9] F_opinfo_Width:=fun h=>R_go p_opinfo_Width h
theorem q_pattern_widths:Qp P f_pattern_widths:=callF_pure p_pattern_widths rfl rfl
theorem r_pattern_widths:Rp P f_pattern_widths 19 [.tmp 2] F_pattern_widths:=fun h=>R_go p_pattern_widths h
theorem q_r04_Leaf:Qp P f_r04_Leaf:=callF_pure p_r04_Leaf rfl rfl
theorem r_r04_Leaf:Rp P f_r04_Leaf 6 [.tmp 2] F_r04_Leaf:=fun h=>R_go p_r04_Leaf h
theorem q_r04_Is:Qp P f_r04_Is:=callF_pure p_r04_Is rfl rfl
theorem r_r04_Is:Rp P f_r04_Is 18 [.tmp 4] F_r04_Is:=fun h=>R_go p_r04_Is h
theorem q_r04_width:Qp P f_r04_width:=callF_pure p_r04_width rfl rfl
theorem r_r04_width:Rp P f_r04_width 9 [.tmp 2] F_r04_width:=fun h=>R_go p_r04_width h
theorem q_r04_leaf:Qp P f_r04_leaf:=callF_pure p_r04_leaf rfl rfl
theorem r_r04_leaf:Rp P f_r04_leaf 31 [.tmp 6,.tmp 7] F_r04_leaf:=fun h=>R_go p_r04_leaf h
theorem q_r04_parts:Qp P f_r04_parts:=callF_pure p_r04_parts rfl rfl
theorem r_r04_parts:Rp P f_r04_parts 46 [.tmp 8,.tmp 9] F_r04_parts:=fun h=>R_go p_r04_parts h
theorem q_slices_Contains_api_Op_api_Op:Qp P f_slices_Contains_api_Op_api_Op:=callF_pure p_slices_Contains_api_Op_api_Op rfl rfl
theorem r_slices_Contains_api_Op_api_Op:Rp P f_slices_Contains_api_Op_api_Op 9 [.tmp 4] F_slices_Contains_api_Op_api_Op:=fun h=>R_go p_slices_Contains_api_Op_api_Op h
theorem q_opinfo_known:Qp P f_opinfo_known:=callF_pure p_opinfo_known rfl rfl
theorem r_opinfo_known:Rp P f_opinfo_known 9 [.tmp 2] F_opinfo_known:=fun h=>R_go p_opinfo_known h
theorem q_opinfo_inside:Qp P f_opinfo_inside:=callF_pure p_opinfo_inside rfl rfl
theorem r_opinfo_inside:Rp P f_opinfo_inside 9 [.tmp 2] F_opinfo_inside:=fun h=>R_go p_opinfo_inside h
theorem q_opinfo_leaf:Qp P f_opinfo_leaf:=callF_pure p_opinfo_leaf rfl rfl
theorem r_opinfo_leaf:Rp P f_opinfo_leaf 26 [.tmp 6,.tmp 7] F_opinfo_leaf:=fun h=>R_go p_opinfo_leaf h
theorem q_opinfo_resized:Qp P f_opinfo_resized:=callF_pure p_opinfo_resized rfl rfl
theorem r_opinfo_resized:Rp P f_opinfo_resized 45 [.tmp 8,.tmp 9] F_opinfo_resized:=fun h=>R_go p_opinfo_resized h
theorem q_opinfo_agreed:Qp P f_opinfo_agreed:=callF_pure p_opinfo_agreed rfl rfl
theorem r_opinfo_agreed:Rp P f_opinfo_agreed 9 [.tmp 4,.tmp 5] F_opinfo_agreed:=fun h=>R_go p_opinfo_agreed h
theorem q_slices_Index_api_Op_api_Op:Qp P f_slices_Index_api_Op_api_Op:=callF_pure p_slices_Index_api_Op_api_Op rfl rfl
theorem r_slices_Index_api_Op_api_Op:Rp P f_slices_Index_api_Op_api_Op 19 [.tmp 4] F_slices_Index_api_Op_api_Op:=fun h=>R_go p_slices_Index_api_Op_api_Op h
theorem q_slices_SortFunc_api_Var_api_Var {args:List AV} {σ:Store}:callF P f_slices_SortFunc_api_Var_api_Var args σ=(primSort 2 f_program_Names_2 okV ltV) args σ:=callF_prim rfl
end
end Go.AE.S
