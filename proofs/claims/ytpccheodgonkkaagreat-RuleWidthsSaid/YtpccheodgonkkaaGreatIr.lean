import Derived.Test.YtpccheodgonkkaaGreatP0
set_option linter.unusedSimpArgs false
set_option linter.unusedVariables false
namespace Go.AE.S
open Go Go.AE
noncomputable section
set_option maxRecDepth 20000
def bs(l:List Nat):ByteArray:=⟨(l.map UInt8.ofNat).toArray⟩
def XB(k:Int)(a b:Term):Term :=
 if k=1 then a
 else if k=2 then .mk 16 1 0 (bs []) [a,b]
 else if k=3 then .mk 16 1 0 (bs []) [.mk 5 a.w 0 (bs []) [a,b],.mk 2 a.w 0 (bs []) []]
 else if k=4 then .mk 17 1 0 (bs []) [a,b]
 else .mk 0 0 0 (bs []) []
def iv:FuncId:=4
def qi:FuncId:=11
def j6:FuncId:=12
def jP:FuncId:=13
def qg:FuncId:=14
def sZ:FuncId:=15
def y2:FuncId:=16
def so:FuncId:=17
def eC:FuncId:=18
def js:FuncId:=19
def mu:FuncId:=21
def jq:FuncId:=22
def oh:FuncId:=25
def fH:FuncId:=28
def nH:FuncId:=31
def lQ:FuncId:=36
def nI:FuncId:=37
def uj:FuncId:=40
def p8:FuncId:=41
def iJ:FuncId:=42
def gj:FuncId:=43
def gS:FuncId:=44
def j9:FuncId:=45
def fg:FuncId:=46
def gk:FuncId:=47
def oi:FuncId:=48
def gm:FuncId:=49
def oj:FuncId:=50
def gn:FuncId:=51
def eF:FuncId:=52
def gp:FuncId:=53
def lR:FuncId:=54
def gq:FuncId:=55
def gr:FuncId:=56
def mw:FuncId:=57
def od:FuncId:=58
def sq:FuncId:=59
def j8:FuncId:=60
def fG:FuncId:=61
def qh:FuncId:=62
def iK:FuncId:=63
def sk:FuncId:=64
def rq:FuncId:=65
def og:FuncId:=66
def iy:FuncId:=67
def aS:FuncId:=68
def jt:FuncId:=69
def eW:FuncId:=70
def bR:FuncId:=71
def nJ:FuncId:=72
def gh:FuncId:=73
def qk:FuncId:=76
def gO:FuncId:=80
def vC:FuncId:=83
def qe:FuncId:=85
def iY:FuncId:=86
def gQ:FuncId:=91
def jQ:FuncId:=92
def iW:FuncId:=93
def iX:FuncId:=96
def nG:FuncId:=98
def kJ:FuncId:=99
def nK:FuncId:=100
def lT:FuncId:=101
def gR:FuncId:=102
def dq:FuncId:=103
def dr:FuncId:=104
def a8:FuncId:=105
def mn:FuncId:=106
def qj:FuncId:=107
def jr:FuncId:=108
def qc:FuncId:=109
def p9:FuncId:=110
def fu:FuncId:=111
def sn:FuncId:=112
def qf:FuncId:=113
def eB:FuncId:=114
def sU:FuncId:=115
def sr:FuncId:=116
def lN:FuncId:=117
def xi:FuncId:=118
def aQ:FuncId:=119
def j5:FuncId:=120
def ff:FuncId:=121
def dj:FuncId:=125
def kF:FuncId:=126
def di:FuncId:=127
def fE:FuncId:=128
def ep:FuncId:=129
def Ch:FuncId:=134
def vB:FuncId:=135
def oe:FuncId:=139
def aL:FuncId:=140
def eo:FuncId:=141
def kH:FuncId:=142
def b9:FuncId:=143
def jo:FuncId:=144
def bU:FuncId:=145
def n9:FuncId:=146
def iV:FuncId:=147
def qd:FuncId:=148
def j7:FuncId:=149
def nF:FuncId:=150
def lP:FuncId:=151
def bN:FuncId:=152
def gi:FuncId:=153
def fF:FuncId:=154
def lS:FuncId:=157
def nL:FuncId:=158
def bf:FuncId:=159
def cR:FuncId:=160
def Cg:FuncId:=161
def pX:FuncId:=162
def ui:FuncId:=163
def cD:FuncId:=164
def lL:FuncId:=165
def cg:FuncId:=166
def bT:FuncId:=167
def aU:FuncId:=186
def cF:FuncId:=187
def eX:FuncId:=188
def bO:FuncId:=189
def fe:FuncId:=190
def mr:FuncId:=191
def oc:FuncId:=192
def pY:FuncId:=193
def xh:FuncId:=194
def lO:FuncId:=195
def sm:FuncId:=196
def pZ:FuncId:=197
def j4:FuncId:=198
def kG:FuncId:=199
def gP:FuncId:=200
def mq:FuncId:=201
def ix:FuncId:=202
def eE:FuncId:=203
def iZ:FuncId:=207
def ss:FuncId:=208
def ql:FuncId:=209
def ju:FuncId:=210
def fR:FuncId:=211
def dY:FuncId:=212
def bH:FuncId:=213
def dO:FuncId:=214
def nZ:FuncId:=217
def rO:FuncId:=218
def lM:FuncId:=219
def fc:FuncId:=220
def bZ:FuncId:=227
def cd:FuncId:=230
def fY:FuncId:=231
def jR:FuncId:=234
def iz:FuncId:=235
def gu:FuncId:=236
def iw:FuncId:=237
def mz:FuncId:=238
def bA:FuncId:=239
def eA:FuncId:=250
def dQ:FuncId:=252
def cI:FuncId:=254
def sd:FuncId:=263
def r9:FuncId:=264
def ml:FuncId:=265
def kE:FuncId:=266
def pU:FuncId:=267
def mm:FuncId:=268
def eZ:FuncId:=271
def r7:FuncId:=272
def vA:FuncId:=273
def sj:FuncId:=274
def r6:FuncId:=275
def sg:FuncId:=276
def r8:FuncId:=277
def pV:FuncId:=278
def pW:FuncId:=279
def se:FuncId:=280
def pT:FuncId:=281
def pS:FuncId:=282
def nE:FuncId:=283
def si:FuncId:=284
def sf:FuncId:=285
def fZ:FuncId:=286
def nD:FuncId:=287
abbrev oU:List AV:=[.p (.int .i64 0),.p (.int .i64 0),.p (.int .u64 0),.p (.str (bs [])),.aC]
abbrev a7(d x:Nat):fQ:=ak d (.load 1 false (.t x))
abbrev b7(d s x:Nat):fQ:=ak d (.load s true (.t x))
abbrev a6(d f x:Nat):fQ:=ak d (.bP f (.t x))
abbrev af(d x:Nat):fQ:=az d (.t x)
abbrev aN(x:Nat)(a b:K):K:=.cond (.t x) a b
abbrev bE(d:Nat)(f:FuncId)(l:List O):fQ:=ak d (.dV f l)
abbrev aE(d:Nat)(o:BinOp)(a b:O):fQ:=ak d (.arith o a b)
abbrev aj(l:List fQ)(k:K):K:=.seq (.cu false l) k
def dS:cL:=⟨54,[.tmp 4],
 (aj [ak 2 (.box 8 true (.t 0) true),az 4 (.c (.p (.bool false)))]
 (.seq (aj [b7 9 8 2,bE 10 qi [(.t 9)],ak 11 (.not (.t 10)),af 12 11,⟨some 13,.load 8 true (.t 2),some (12,false)⟩,⟨some 14,.dV qg [(.t 13)],some (12,false)⟩,⟨some 15,.arith .neq (.t 14) (kI 0),some (12,false)⟩,ak 16 (.pick (.t 12) (.c (.p (.bool true))) (.t 15))]
 (aN 16 (aj [bE 17 j6 [],af 4 17]
 .ret) .skip))
 (aj [b7 19 8 2,af 20 1,bE 21 sZ [(.t 19),(.t 20)],af 18 21,ak 22 (.extract (.t 18) 0),ak 23 (.extract (.t 18) 1),ak 5 (.init 8 true (.t 22) true),af 6 23]
 (aj [b7 25 8 2,af 26 1,bE 27 y2 [(.t 25),(.t 26)],af 24 27,ak 28 (.extract (.t 24) 0),ak 29 (.extract (.t 24) 1),ak 7 (.init 8 true (.t 28) true),af 8 29]
 (.seq (aj [af 30 6,af 31 8,aE 32 .neq (.t 30) (.t 31),af 33 32,⟨some 34,.load 8 true (.t 5),some (33,false)⟩,⟨some 35,.load 8 true (.t 7),some (33,false)⟩,⟨some 36,.dV so [(.t 34),(.t 35)],some (33,false)⟩,⟨some 37,.not (.t 36),some (33,false)⟩,ak 38 (.pick (.t 33) (.c (.p (.bool true))) (.t 37))]
 (aN 38 (aj [az 4 (.c (.p (.bool false)))]
 .ret) .skip))
 (aj [af 39 6,aE 40 .neq (.t 39) (kI 0),af 41 40,⟨some 42,.load 8 true (.t 5),some (41,false)⟩,⟨some 43,.dV jP [(.t 42)],some (41,false)⟩,⟨some 44,.arith .eql (.t 43) (kI 0),some (41,false)⟩,⟨some 45,.mv (.t 44) false,some (41,false)⟩,⟨some 46,.load 8 true (.t 5),some (45,true)⟩,⟨some 47,.dV eC [(.t 46)],some (45,true)⟩,⟨some 48,.not (.t 47),some (45,true)⟩,⟨some 49,.pick (.t 45) (.t 48) (.c (.p (.bool false))),some (41,false)⟩,ak 50 (.pick (.t 41) (.c (.p (.bool true))) (.t 49)),af 51 50,⟨some 52,.dV j6 [],some (51,true)⟩,ak 53 (.pick (.t 51) (.t 52) (.c (.p (.bool false)))),af 4 53]
 .ret)))))),false⟩
def nQ:K :=
 (.seq (aj [af 20 4,a6 21 7 1,a7 22 21,ak 23 (.bJ (.t 22)),aE 24 .lss (.t 20) (.t 23)]
 (aN 24 .skip (.exit 0)))
 (.seq (.block 1 (.cu false [af 27 3,a6 28 7 1,a7 29 28,af 30 4,ak 31 (.au 11 (.t 29) (.t 30)),a6 32 6 31,b7 33 5 32,ak 34 (.iU 5 oU 1 [(0,5,(.t 33))]),ak 35 (.append 5 64 (.t 27) (.t 34)),ak 3 (.mv (.t 35) true)]))
 (.cu false [af 25 4,aE 26 .add (.t 25) (kI 1),af 4 26])))
def B1:K:=.loop [1,3,4] nQ
def nS:K :=
 (.seq (aj [af 36 5,af 37 3,ak 38 (.bJ (.t 37)),aE 39 .lss (.t 36) (.t 38)]
 (aN 39 .skip (.exit 2)))
 (.seq (.block 3 (aj [af 43 3,af 44 5,ak 45 (.au 5 (.t 43) (.t 44)),b7 46 5 45,bE 47 p8 [(.t 46),(kI 20),(kI 40)],af 42 47,ak 48 (.extract (.t 42) 0),ak 49 (.extract (.t 42) 1),ak 6 (.init 5 true (.t 48) true),af 7 49]
 (aj [af 50 7,ak 51 (.not (.t 50))]
 (aN 51 (aj [az 2 (.c (.p (.bool false)))]
 .ret) .skip))))
 (.cu false [af 40 5,aE 41 .add (.t 40) (kI 1),af 5 41])))
def x7:K:=.loop [3,5] nS
def nA:cL:=⟨52,[.tmp 2],
 (aj [ak 1 (.box 8 true (.t 0) true),az 2 (.c (.p (.bool false)))]
 (.seq (aj [a6 8 1 1,a7 9 8,ak 10 (.bJ (.t 9)),aE 11 .gtr (.t 10) (kI 6),af 12 11,⟨some 13,.bP 7 (.t 1),some (12,false)⟩,⟨some 14,.load 1 false (.t 13),some (12,false)⟩,⟨some 15,.bJ (.t 14),some (12,false)⟩,⟨some 16,.arith .gtr (.t 15) (kI 10),some (12,false)⟩,ak 17 (.pick (.t 12) (.c (.p (.bool true))) (.t 16))]
 (aN 17 (aj [az 2 (.c (.p (.bool false)))]
 .ret) .skip))
 (aj [b7 18 8 1,ak 19 (.FF uj [(.t 18)]),ak 3 (.mv (.t 19) true)]
 (.seq (aj [az 4 (kI 0)]
 (.block 0 B1))
 (.seq (aj [az 5 (kI 0)]
 (.block 2 x7))
 (aj [az 2 (.c (.p (.bool true)))]
 .ret)))))),false⟩
def rf:cL:=⟨58,[.tmp 0],
 (aj [az 0 (.c (.p (.bool false)))]
 (aj [bE 8 iJ [(.c (.p (.str (bs [97])))),(kI 0)],bE 9 iJ [(.c (.p (.str (bs [97])))),(kI 0)],ak 10 (.iU 5 oU 2 [(0,5,(.t 8)),(1,5,(.t 9))]),ak 11 (.build oU [(0,1,(kI 8)),(4,1,(.t 10))]),ak 12 (.build [(.p (.str (bs []))),(.p (.int .i64 0)),(.p (.int .i64 0)),(.p (.int .u64 0)),(.p (.str (bs []))),.aC] [(1,5,(.t 11))]),ak 13 (.iU 6 [(.p (.str (bs []))),(.p (.int .i64 0)),(.p (.int .i64 0)),(.p (.int .u64 0)),(.p (.str (bs []))),.aC] 1 [(0,6,(.t 12))]),bE 14 iJ [(.c (.p (.str (bs [97])))),(kI 0)],ak 15 (.build oU [(0,1,(kI 2)),(2,1,(.c (.p (.int .u64 1))))]),ak 16 (.dC 5 oU 2 [(0,5,(.t 14)),(1,5,(.t 15))]),ak 17 (.build oU [(0,1,(kI 13)),(4,1,(.t 16))]),ak 18 (.build [(.p (.str (bs []))),.aC,(.p (.int .i64 0)),(.p (.int .i64 0)),(.p (.int .u64 0)),(.p (.str (bs []))),.aC,.aC] [(0,1,(.c (.p (.str (bs [100,111,117,98,108,101]))))),(1,1,(.t 13)),(2,5,(.t 17))]),ak 1 (.init 8 true (.t 18) false)]
 (aj [b7 20 8 1,bE 21 fH [(.t 20),(kI 3)],af 19 21,ak 22 (.extract (.t 19) 0),ak 23 (.extract (.t 19) 1),ak 24 (.extract (.t 19) 2),af 2 22,af 3 23,af 4 24]
 (aj [bE 25 iJ [(.c (.p (.str (bs [97])))),(kI 0)],a6 26 2 1,⟨none,.store 5 (.t 26) (.t 25),none⟩]
 (aj [b7 28 8 1,bE 29 fH [(.t 28),(kI 3)],af 27 29,ak 30 (.extract (.t 27) 0),ak 31 (.extract (.t 27) 1),ak 32 (.extract (.t 27) 2),af 5 30,af 6 31,af 7 32]
 (aj [af 33 2,af 34 33,⟨some 35,.mv (.t 3) false,some (34,true)⟩,⟨some 36,.arith .eql (.t 35) (kI 0),some (34,true)⟩,ak 37 (.pick (.t 34) (.t 36) (.c (.p (.bool false)))),af 38 37,⟨some 39,.mv (.t 4) false,some (38,true)⟩,⟨some 40,.arith .eql (.t 39) (kI 0),some (38,true)⟩,ak 41 (.pick (.t 38) (.t 40) (.c (.p (.bool false)))),af 42 41,⟨some 43,.mv (.t 5) false,some (42,true)⟩,⟨some 44,.not (.t 43),some (42,true)⟩,ak 45 (.pick (.t 42) (.t 44) (.c (.p (.bool false)))),af 46 45,⟨some 47,.mv (.t 6) false,some (46,true)⟩,⟨some 48,.arith .eql (.t 47) (kI 1),some (46,true)⟩,ak 49 (.pick (.t 46) (.t 48) (.c (.p (.bool false)))),af 50 49,⟨some 51,.mv (.t 7) false,some (50,true)⟩,⟨some 52,.arith .eql (.t 51) (kI 0),some (50,true)⟩,ak 53 (.pick (.t 50) (.t 52) (.c (.p (.bool false)))),af 54 53,⟨some 55,.load 8 true (.t 1),some (54,true)⟩,⟨some 56,.dV eC [(.t 55)],some (54,true)⟩,ak 57 (.pick (.t 54) (.t 56) (.c (.p (.bool false)))),af 0 57]
 .ret)))))),false⟩
def l7:K :=
 (aj [aE 17 .lss (.t 16) (.t 15)]
 (.seq (aN 17 .skip (.exit 0))
 (.seq (.block 1 (aj [ak 18 (.au 1 (.t 14) (.t 16)),a7 19 18,af 4 19]
 (aj [af 20 4,ak 21 (.qT (.t 20) []),af 5 21]
 (aj [af 22 5,aE 23 .neq (.t 22) (kI 0)]
 (aN 23 (aj [af 24 5,af 2 24]
 .ret) .skip)))))
 (.cu false [aE 25 .add (.t 16) (kI 1),af 16 25]))))
def wg:K:=.loop [14,15,16] l7
def qD:cL:=⟨26,[.tmp 2],
 (aj [ak 1 (.box 8 true (.t 0) true),az 2 (kI 0)]
 (.seq (aj [ak 6 (.zD gj [(.t 1)]),ak 7 (.zD fg [(.t 1)]),ak 8 (.zD gk [(.t 1)]),ak 9 (.zD gm [(.t 1)]),ak 10 (.zD gn [(.t 1)]),ak 11 (.zD gp [(.t 1)]),ak 12 (.zD gq [(.t 1)]),ak 13 (.zD gr [(.t 1)]),ak 14 (.iU 1 [(.p .zc)] 8 [(0,1,(.t 6)),(1,1,(.t 7)),(2,1,(.t 8)),(3,1,(.t 9)),(4,1,(.t 10)),(5,1,(.t 11)),(6,1,(.t 12)),(7,1,(.t 13))]),ak 15 (.bJ (.t 14)),az 16 (kI 0)]
 (.block 0 wg))
 (aj [az 2 (kI 0)]
 .ret))),false⟩
def nP:K :=
 (.seq (aj [af 43 6,a6 44 7 1,a7 45 44,ak 46 (.bJ (.t 45)),aE 47 .lss (.t 43) (.t 46)]
 (aN 47 .skip (.exit 0)))
 (.seq (.block 1 (aj [a6 50 7 1,a7 51 50,af 52 6,ak 53 (.au 11 (.t 51) (.t 52)),b7 54 11 53,af 55 4,af 56 5,bE 57 qh [(.t 54),(.t 55),(.t 56)],af 3 57]
 (aj [af 58 3,aE 59 .neq (.t 58) (kI 0)]
 (aN 59 (aj [af 60 3,af 2 60]
 .ret) .skip))))
 (.cu false [af 48 6,aE 49 .add (.t 48) (kI 1),af 6 49])))
def qI:K:=.loop [1,4,5,6] nP
def iP:cL:=⟨61,[.tmp 2],
 (aj [ak 1 (.box 8 true (.t 0) true),az 2 (kI 0)]
 (.seq (aj [a6 7 0 1,a7 8 7,bE 9 od [(.t 8)],ak 10 (.not (.t 9))]
 (aN 10 (aj [az 2 (kI 5)]
 .ret) .skip))
 (aj [b7 11 8 1,bE 12 sq [(.t 11)],af 3 12]
 (.seq (aj [af 13 3,aE 14 .neq (.t 13) (kI 0)]
 (aN 14 (aj [af 15 3,af 2 15]
 .ret) .skip))
 (aj [a6 16 2 1,b7 17 5 16,bE 18 j8 [(.t 17),(.c (.p (.bool true)))],af 3 18]
 (.seq (aj [af 19 3,aE 20 .neq (.t 19) (kI 0)]
 (aN 20 (aj [af 21 3,af 2 21]
 .ret) .skip))
 (aj [b7 23 8 1,bE 24 nH [(.t 23)],af 22 24,ak 25 (.extract (.t 22) 0),ak 26 (.extract (.t 22) 1),af 4 25,af 5 26]
 (.seq (aj [a6 27 2 1,b7 28 5 27,af 29 4,af 30 5,bE 31 fG [(.t 28),(.t 29),(.t 30)],ak 32 (.not (.t 31))]
 (aN 32 (aj [az 2 (kI 12)]
 .ret) .skip))
 (.seq (.seq (.cu true [a6 33 2 1,a6 34 1 33,a7 35 34,a6 36 1 1,a7 37 36,ak 38 (.au 6 (.t 37) (kI 0)),a6 39 1 38,a6 40 1 39,a7 41 40,aE 42 .neq (.t 35) (.t 41)])
 (aN 42 (aj [az 2 (kI 3)]
 .ret) .skip))
 (.seq (aj [az 6 (kI 0)]
 (.block 0 qI))
 (aj [az 2 (kI 0)]
 .ret))))))))))),false⟩
def nR:K :=
 (aj [aE 31 .lss (.t 30) (.t 29)]
 (.seq (aN 31 .skip (.exit 0))
 (.seq (.block 1 (aj [ak 32 (.au 6 (.t 28) (.t 30)),b7 33 6 32,ak 8 (.init 6 true (.t 33) true)]
 (aj [a6 35 1 8,b7 36 5 35,af 37 1,bE 38 iK [(.t 36),(.t 37)],af 34 38,ak 39 (.extract (.t 34) 0),ak 40 (.extract (.t 34) 1),ak 9 (.init 5 true (.t 39) true),af 10 40]
 (.seq (aj [af 41 10,aE 42 .neq (.t 41) (kI 0)]
 (aN 42 (aj [ak 43 (.build [(.p (.str (bs []))),.aC,(.p (.int .i64 0)),(.p (.int .i64 0)),(.p (.int .u64 0)),(.p (.str (bs []))),.aC,.aC] []),af 44 10,⟨none,.store 8 (.t 4) (.t 43),none⟩,af 5 44]
 .ret) .skip))
 (.cu false [a6 45 1 6,a7 46 45,a6 47 0 8,a7 48 47,b7 49 5 9,ak 50 (.build [(.p (.str (bs []))),(.p (.int .i64 0)),(.p (.int .i64 0)),(.p (.int .u64 0)),(.p (.str (bs []))),.aC] [(0,1,(.t 48)),(1,5,(.t 49))]),ak 51 (.iU 6 [(.p (.str (bs []))),(.p (.int .i64 0)),(.p (.int .i64 0)),(.p (.int .u64 0)),(.p (.str (bs []))),.aC] 1 [(0,6,(.t 50))]),ak 52 (.append 6 80 (.t 46) (.t 51)),a6 53 1 6,⟨none,.store 1 (.t 53) (.t 52),none⟩])))))
 (.cu false [aE 54 .add (.t 30) (kI 1),af 30 54]))))
def B4:K:=.loop [1,2,4,6,28,29,30] nR
def rV:K :=
 (aj [aE 72 .lss (.t 71) (.t 70)]
 (.seq (aN 72 .skip (.exit 2))
 (.seq (.block 3 (aj [ak 73 (.au 11 (.t 69) (.t 71)),b7 74 11 73,ak 14 (.init 11 true (.t 74) true)]
 (aj [b7 76 11 14,af 77 1,bE 78 sk [(.t 76),(.t 77)],af 75 78,ak 79 (.extract (.t 75) 0),ak 80 (.extract (.t 75) 1),ak 15 (.init 11 true (.t 79) true),af 16 80]
 (.seq (aj [af 81 16,aE 82 .neq (.t 81) (kI 0)]
 (aN 82 (aj [ak 83 (.build [(.p (.str (bs []))),.aC,(.p (.int .i64 0)),(.p (.int .i64 0)),(.p (.int .u64 0)),(.p (.str (bs []))),.aC,.aC] []),af 84 16,⟨none,.store 8 (.t 4) (.t 83),none⟩,af 5 84]
 .ret) .skip))
 (.cu false [a6 85 7 6,a7 86 85,b7 87 11 15,ak 88 (.iU 11 [(.p (.int .i64 0)),(.p (.int .i64 0)),(.p (.int .i64 0)),(.p (.int .u64 0)),(.p (.str (bs []))),.aC,(.p (.int .i64 0)),(.p (.int .i64 0)),(.p (.int .u64 0)),(.p (.str (bs []))),.aC] 1 [(0,11,(.t 87))]),ak 89 (.append 11 136 (.t 86) (.t 88)),a6 90 7 6,⟨none,.store 1 (.t 90) (.t 89),none⟩])))))
 (.cu false [aE 91 .add (.t 71) (kI 1),af 71 91]))))
def B7:K:=.loop [1,4,6,69,70,71] rV
def oM:cL:=⟨93,[.cell 4 8 true,.tmp 5],
 (aj [ak 2 (.box 8 true (.t 0) true),ak 4 (.alloc [(.p (.str (bs []))),.aC,(.p (.int .i64 0)),(.p (.int .i64 0)),(.p (.int .u64 0)),(.p (.str (bs []))),.aC,.aC] 8),az 5 (kI 0)]
 (.seq (aj [af 17 1,aE 18 .lss (.t 17) (kI 1),af 19 18,⟨some 20,.mv (.t 1) false,some (19,false)⟩,⟨some 21,.arith .gtr (.t 20) (kI 64),some (19,false)⟩,ak 22 (.pick (.t 19) (.c (.p (.bool true))) (.t 21))]
 (aN 22 (aj [ak 23 (.build [(.p (.str (bs []))),.aC,(.p (.int .i64 0)),(.p (.int .i64 0)),(.p (.int .u64 0)),(.p (.str (bs []))),.aC,.aC] []),⟨none,.store 8 (.t 4) (.t 23),none⟩,az 5 (kI 2)]
 .ret) .skip))
 (aj [a6 24 0 2,a7 25 24,ak 26 (.build [(.p (.str (bs []))),.aC,(.p (.int .i64 0)),(.p (.int .i64 0)),(.p (.int .u64 0)),(.p (.str (bs []))),.aC,.aC] [(0,1,(.t 25))]),ak 6 (.init 8 true (.t 26) false)]
 (.seq (aj [a6 27 1 2,a7 28 27,ak 29 (.bJ (.t 28)),az 30 (kI 0)]
 (.block 0 B4))
 (aj [a6 56 2 2,b7 57 5 56,af 58 1,bE 59 iK [(.t 57),(.t 58)],af 55 59,ak 60 (.extract (.t 55) 0),ak 61 (.extract (.t 55) 1),ak 11 (.init 5 true (.t 60) true),af 12 61]
 (.seq (aj [af 62 12,aE 63 .neq (.t 62) (kI 0)]
 (aN 63 (aj [ak 64 (.build [(.p (.str (bs []))),.aC,(.p (.int .i64 0)),(.p (.int .i64 0)),(.p (.int .u64 0)),(.p (.str (bs []))),.aC,.aC] []),af 65 12,⟨none,.store 8 (.t 4) (.t 64),none⟩,af 5 65]
 .ret) .skip))
 (aj [b7 66 5 11,a6 67 2 6,⟨none,.store 5 (.t 67) (.t 66),none⟩]
 (.seq (aj [a6 68 7 2,a7 69 68,ak 70 (.bJ (.t 69)),az 71 (kI 0)]
 (.block 2 B7))
 (aj [b7 92 8 6,⟨none,.store 8 (.t 4) (.t 92),none⟩,az 5 (kI 0)]
 .ret))))))))),false⟩
def qz:K :=
 (.seq (aj [af 24 7,a6 25 1 2,a7 26 25,ak 27 (.bJ (.t 26)),aE 28 .lss (.t 24) (.t 27)]
 (aN 28 .skip (.exit 0)))
 (.seq (.block 1 (aj [a6 32 1 2,a7 33 32,af 34 7,ak 35 (.au 6 (.t 33) (.t 34)),a6 36 1 35,b7 37 5 36,af 38 1,bE 39 rq [(.t 37),(.t 38)],af 31 39,ak 40 (.extract (.t 31) 0),ak 41 (.extract (.t 31) 1),ak 8 (.init 5 true (.t 40) true),af 9 41]
 (.seq (aj [af 42 9,aE 43 .neq (.t 42) (kI 0)]
 (aN 43 (aj [ak 44 (.build [(.p (.str (bs []))),.aC,(.p (.int .i64 0)),(.p (.int .i64 0)),(.p (.int .u64 0)),(.p (.str (bs []))),.aC,.aC] []),af 45 9,⟨none,.store 8 (.t 4) (.t 44),none⟩,af 5 45]
 .ret) .skip))
 (.cu true [a6 46 1 6,a7 47 46,a6 48 1 2,a7 49 48,af 50 7,ak 51 (.au 6 (.t 49) (.t 50)),a6 52 0 51,a7 53 52,b7 54 5 8,ak 55 (.build [(.p (.str (bs []))),(.p (.int .i64 0)),(.p (.int .i64 0)),(.p (.int .u64 0)),(.p (.str (bs []))),.aC] [(0,1,(.t 53)),(1,5,(.t 54))]),ak 56 (.iU 6 [(.p (.str (bs []))),(.p (.int .i64 0)),(.p (.int .i64 0)),(.p (.int .u64 0)),(.p (.str (bs []))),.aC] 1 [(0,6,(.t 55))]),ak 57 (.append 6 80 (.t 47) (.t 56)),a6 58 1 6,⟨none,.store 1 (.t 58) (.t 57),none⟩]))))
 (.cu false [af 29 7,aE 30 .add (.t 29) (kI 1),af 7 30])))
def EZ:K:=.loop [1,2,4,6,7] qz
def rk:cL:=⟨86,[.cell 4 8 true,.tmp 5],
 (aj [ak 2 (.box 8 true (.t 0) true),ak 4 (.alloc [(.p (.str (bs []))),.aC,(.p (.int .i64 0)),(.p (.int .i64 0)),(.p (.int .u64 0)),(.p (.str (bs []))),.aC,.aC] 8),az 5 (kI 0)]
 (aj [a6 14 0 2,a7 15 14,ak 16 (.build [(.p (.str (bs []))),.aC,(.p (.int .i64 0)),(.p (.int .i64 0)),(.p (.int .u64 0)),(.p (.str (bs []))),.aC,.aC] [(0,1,(.t 15))]),ak 6 (.init 8 true (.t 16) false)]
 (.seq (aj [af 17 1,aE 18 .lss (.t 17) (kI 1),af 19 18,⟨some 20,.mv (.t 1) false,some (19,false)⟩,⟨some 21,.arith .gtr (.t 20) (kI 64),some (19,false)⟩,ak 22 (.pick (.t 19) (.c (.p (.bool true))) (.t 21))]
 (aN 22 (aj [ak 23 (.build [(.p (.str (bs []))),.aC,(.p (.int .i64 0)),(.p (.int .i64 0)),(.p (.int .u64 0)),(.p (.str (bs []))),.aC,.aC] []),⟨none,.store 8 (.t 4) (.t 23),none⟩,az 5 (kI 2)]
 .ret) .skip))
 (.seq (aj [az 7 (kI 0)]
 (.block 0 EZ))
 (aj [a6 60 2 2,b7 61 5 60,af 62 1,bE 63 rq [(.t 61),(.t 62)],af 59 63,ak 64 (.extract (.t 59) 0),ak 65 (.extract (.t 59) 1),ak 10 (.init 5 true (.t 64) true),af 11 65]
 (.seq (aj [af 66 11,aE 67 .neq (.t 66) (kI 0)]
 (aN 67 (aj [ak 68 (.build [(.p (.str (bs []))),.aC,(.p (.int .i64 0)),(.p (.int .i64 0)),(.p (.int .u64 0)),(.p (.str (bs []))),.aC,.aC] []),af 69 11,⟨none,.store 8 (.t 4) (.t 68),none⟩,af 5 69]
 .ret) .skip))
 (aj [b7 70 5 10,a6 71 2 6,⟨none,.store 5 (.t 71) (.t 70),none⟩]
 (aj [a6 73 7 2,a7 74 73,af 75 1,bE 76 og [(.t 74),(.t 75)],af 72 76,ak 77 (.extract (.t 72) 0),ak 78 (.extract (.t 72) 1),af 12 77,af 13 78]
 (.seq (aj [af 79 13,aE 80 .neq (.t 79) (kI 0)]
 (aN 80 (aj [ak 81 (.build [(.p (.str (bs []))),.aC,(.p (.int .i64 0)),(.p (.int .i64 0)),(.p (.int .u64 0)),(.p (.str (bs []))),.aC,.aC] []),af 82 13,⟨none,.store 8 (.t 4) (.t 81),none⟩,af 5 82]
 .ret) .skip))
 (aj [af 83 12,a6 84 7 6,⟨none,.store 1 (.t 84) (.t 83),none⟩]
 (aj [b7 85 8 6,⟨none,.store 8 (.t 4) (.t 85),none⟩,az 5 (kI 0)]
 .ret))))))))))),false⟩
def ny:K :=
 (.seq (aj [af 36 5,a6 37 1 2,a7 38 37,ak 39 (.bJ (.t 38)),aE 40 .lss (.t 36) (.t 39)]
 (aN 40 .skip (.exit 0)))
 (.seq (.block 1 (.seq (.cu true [a6 43 1 2,a7 44 43,af 45 5,ak 46 (.au 6 (.t 44) (.t 45)),a6 47 0 46,a7 48 47,a6 49 1 3,a7 50 49,af 51 5,ak 52 (.au 6 (.t 50) (.t 51)),a6 53 0 52,a7 54 53,aE 55 .neq (.t 48) (.t 54),af 56 55,⟨some 57,.bP 1 (.t 2),some (56,false)⟩,⟨some 58,.load 1 false (.t 57),some (56,false)⟩,⟨some 59,.mv (.t 5) false,some (56,false)⟩,⟨some 60,.au 6 (.t 58) (.t 59),some (56,false)⟩,⟨some 61,.bP 1 (.t 60),some (56,false)⟩,⟨some 62,.load 5 true (.t 61),some (56,false)⟩,⟨some 63,.bP 1 (.t 3),some (56,false)⟩,⟨some 64,.load 1 false (.t 63),some (56,false)⟩,⟨some 65,.mv (.t 5) false,some (56,false)⟩,⟨some 66,.au 6 (.t 64) (.t 65),some (56,false)⟩,⟨some 67,.bP 1 (.t 66),some (56,false)⟩,⟨some 68,.load 5 true (.t 67),some (56,false)⟩,⟨some 69,.dV jq [(.t 62),(.t 68)],some (56,false)⟩,⟨some 70,.not (.t 69),some (56,false)⟩,ak 71 (.pick (.t 56) (.c (.p (.bool true))) (.t 70))])
 (aN 71 (aj [az 4 (.c (.p (.bool false)))]
 .ret) .skip)))
 (.cu false [af 41 5,aE 42 .add (.t 41) (kI 1),af 5 42])))
def sM:K:=.loop [2,3,5] ny
def mc:cL:=⟨72,[.tmp 4],
 (aj [ak 2 (.box 8 true (.t 0) true),ak 3 (.box 8 true (.t 1) true),az 4 (.c (.p (.bool false)))]
 (.seq (aj [a6 6 0 2,a7 7 6,a6 8 0 3,a7 9 8,aE 10 .neq (.t 7) (.t 9),af 11 10,⟨some 12,.bP 1 (.t 2),some (11,false)⟩,⟨some 13,.load 1 false (.t 12),some (11,false)⟩,⟨some 14,.bJ (.t 13),some (11,false)⟩,⟨some 15,.bP 1 (.t 3),some (11,false)⟩,⟨some 16,.load 1 false (.t 15),some (11,false)⟩,⟨some 17,.bJ (.t 16),some (11,false)⟩,⟨some 18,.arith .neq (.t 14) (.t 17),some (11,false)⟩,ak 19 (.pick (.t 11) (.c (.p (.bool true))) (.t 18)),af 20 19,⟨some 21,.bP 2 (.t 2),some (20,false)⟩,⟨some 22,.load 5 true (.t 21),some (20,false)⟩,⟨some 23,.bP 2 (.t 3),some (20,false)⟩,⟨some 24,.load 5 true (.t 23),some (20,false)⟩,⟨some 25,.dV jq [(.t 22),(.t 24)],some (20,false)⟩,⟨some 26,.not (.t 25),some (20,false)⟩,ak 27 (.pick (.t 20) (.c (.p (.bool true))) (.t 26)),af 28 27,⟨some 29,.bP 7 (.t 2),some (28,false)⟩,⟨some 30,.load 1 false (.t 29),some (28,false)⟩,⟨some 31,.bP 7 (.t 3),some (28,false)⟩,⟨some 32,.load 1 false (.t 31),some (28,false)⟩,⟨some 33,.dV iy [(.t 30),(.t 32)],some (28,false)⟩,⟨some 34,.not (.t 33),some (28,false)⟩,ak 35 (.pick (.t 28) (.c (.p (.bool true))) (.t 34))]
 (aN 35 (aj [az 4 (.c (.p (.bool false)))]
 .ret) .skip))
 (.seq (aj [az 5 (kI 0)]
 (.block 0 sM))
 (aj [az 4 (.c (.p (.bool true)))]
 .ret)))),false⟩
def pJ:cL:=⟨6,[.tmp 2],
 (aj [ak 1 (.box 8 true (.t 0) true),az 2 (.c (.p (.bool false)))]
 (aj [b7 3 8 1,bE 4 jt [(.t 3)],bE 5 aS [(.t 4),(.c (.p (.fn eW [])))],af 2 5]
 .ret)),false⟩
def ik:K :=
 (aj [aE 14 .lss (.t 13) (.t 12)]
 (.seq (aN 14 .skip (.exit 0))
 (.seq (.block 1 (aj [ak 15 (.au 6 (.t 11) (.t 13)),b7 16 6 15,ak 7 (.init 6 true (.t 16) true)]
 (aj [a6 17 0 7,a7 18 17,aE 19 .neq (.t 18) (.c (.p (.str (bs []))))]
 (aN 19 (.cu true [af 20 5,b7 21 6 7,bE 22 nJ [(.t 21)],bE 23 bR [(.t 22)],a6 24 1 7,b7 25 5 24,bE 26 bR [(.t 25)],ak 27 (.iU 5 oU 2 [(0,5,(.t 23)),(1,5,(.t 26))]),ak 28 (.build oU [(0,1,(kI 16)),(1,1,(kI 1)),(4,1,(.t 27))]),ak 29 (.iU 5 oU 1 [(0,5,(.t 28))]),ak 30 (.append 5 64 (.t 20) (.t 29)),ak 5 (.mv (.t 30) true)]) .skip))))
 (.cu false [aE 31 .add (.t 13) (kI 1),af 13 31]))))
def vg:K:=.loop [1,3,4,5,11,12,13] ik
def km:K :=
 (aj [aE 36 .lss (.t 35) (.t 34)]
 (.seq (aN 36 .skip (.exit 2))
 (.seq (.block 3 (aj [ak 37 (.au 11 (.t 33) (.t 35)),b7 38 11 37,ak 9 (.init 11 true (.t 38) true)]
 (.cu false [af 39 5,b7 40 11 9,bE 41 gh [(.t 40)],bE 42 bR [(.t 41)],ak 43 (.iU 5 oU 1 [(0,5,(.t 42))]),ak 44 (.append 5 64 (.t 39) (.t 43)),ak 5 (.mv (.t 44) true)])))
 (.cu false [aE 45 .add (.t 35) (kI 1),af 35 45]))))
def vi:K:=.loop [1,3,4,5,33,34,35] km
def oC:cL:=⟨65,[.tmp 2,.cell 3 5 true,.cell 4 5 true],
 (aj [ak 1 (.box 8 true (.t 0) true),az 2 (.c .aC),ak 3 (.alloc oU 5),ak 4 (.alloc oU 5)]
 (aj [ak 5 (.mv (.c .aC) true)]
 (.seq (aj [a6 10 1 1,a7 11 10,ak 12 (.bJ (.t 11)),az 13 (kI 0)]
 (.block 0 vg))
 (.seq (aj [a6 32 7 1,a7 33 32,ak 34 (.bJ (.t 33)),az 35 (kI 0)]
 (.block 2 vi))
 (.seq (aj [a6 46 1 1,a7 47 46,ak 48 (.bJ (.t 47)),aE 49 .eql (.t 48) (kI 0)]
 (aN 49 (aj [af 50 5,ak 51 (.build oU []),a6 52 2 1,b7 53 5 52,bE 54 bR [(.t 53)],af 2 50,⟨none,.store 5 (.t 3) (.t 51),none⟩,⟨none,.store 5 (.t 4) (.t 54),none⟩]
 .ret) .skip))
 (.seq (.cu true [af 55 5,a6 56 1 1,a7 57 56,ak 58 (.au 6 (.t 57) (kI 0)),a6 59 1 58,b7 60 5 59,bE 61 bR [(.t 60)],a6 62 2 1,b7 63 5 62,bE 64 bR [(.t 63)],af 2 55,⟨none,.store 5 (.t 3) (.t 61),none⟩,⟨none,.store 5 (.t 4) (.t 64),none⟩])
 .ret)))))),false⟩
def pt:K :=
 (.seq (aj [af 11 5,af 12 0,ak 13 (.bJ (.t 12)),aE 14 .lss (.t 11) (.t 13)]
 (aN 14 .skip (.exit 0)))
 (.seq (.block 1 (.seq (.cu true [af 17 0,af 18 5,ak 19 (.au 5 (.t 17) (.t 18)),b7 20 5 19,af 21 1,af 22 5,ak 23 (.au 5 (.t 21) (.t 22)),b7 24 5 23,bE 25 jq [(.t 20),(.t 24)],ak 26 (.not (.t 25))])
 (aN 26 (aj [az 4 (.c (.p (.bool false)))]
 .ret) .skip)))
 (.cu false [af 15 5,aE 16 .add (.t 15) (kI 1),af 5 16])))
def ua:K:=.loop [0,1,5] pt
def ma:cL:=⟨27,[.tmp 4],
 (aj [az 4 (.c (.p (.bool false)))]
 (.seq (aj [af 6 0,ak 7 (.bJ (.t 6)),af 8 1,ak 9 (.bJ (.t 8)),aE 10 .neq (.t 7) (.t 9)]
 (aN 10 (aj [az 4 (.c (.p (.bool false)))]
 .ret) .skip))
 (.seq (aj [az 5 (kI 0)]
 (.block 0 ua))
 (aj [az 4 (.c (.p (.bool true)))]
 .ret)))),false⟩
def nT:cL:=⟨38,[.tmp 4],
 (aj [ak 2 (.box 5 true (.t 0) true),ak 3 (.box 5 true (.t 1) true),az 4 (.c (.p (.bool false)))]
 (aj [a6 5 0 2,a7 6 5,a6 7 0 3,a7 8 7,aE 9 .eql (.t 6) (.t 8),af 10 9,⟨some 11,.bP 1 (.t 2),some (10,true)⟩,⟨some 12,.load 1 false (.t 11),some (10,true)⟩,⟨some 13,.bP 1 (.t 3),some (10,true)⟩,⟨some 14,.load 1 false (.t 13),some (10,true)⟩,⟨some 15,.arith .eql (.t 12) (.t 14),some (10,true)⟩,ak 16 (.pick (.t 10) (.t 15) (.c (.p (.bool false)))),af 17 16,⟨some 18,.bP 2 (.t 2),some (17,true)⟩,⟨some 19,.load 1 false (.t 18),some (17,true)⟩,⟨some 20,.bP 2 (.t 3),some (17,true)⟩,⟨some 21,.load 1 false (.t 20),some (17,true)⟩,⟨some 22,.arith .eql (.t 19) (.t 21),some (17,true)⟩,ak 23 (.pick (.t 17) (.t 22) (.c (.p (.bool false)))),af 24 23,⟨some 25,.bP 3 (.t 2),some (24,true)⟩,⟨some 26,.load 1 false (.t 25),some (24,true)⟩,⟨some 27,.bP 3 (.t 3),some (24,true)⟩,⟨some 28,.load 1 false (.t 27),some (24,true)⟩,⟨some 29,.arith .eql (.t 26) (.t 28),some (24,true)⟩,ak 30 (.pick (.t 24) (.t 29) (.c (.p (.bool false)))),af 31 30,⟨some 32,.bP 4 (.t 2),some (31,true)⟩,⟨some 33,.load 1 false (.t 32),some (31,true)⟩,⟨some 34,.bP 4 (.t 3),some (31,true)⟩,⟨some 35,.load 1 false (.t 34),some (31,true)⟩,⟨some 36,.dV mu [(.t 33),(.t 35)],some (31,true)⟩,ak 37 (.pick (.t 31) (.t 36) (.c (.p (.bool false)))),af 4 37]
 .ret)),false⟩
def nV:cL:=⟨22,[.tmp 2,.tmp 3,.tmp 4],
 (aj [ak 1 (.box 8 true (.t 0) true),az 2 (.c (.p (.bool false))),az 3 (.c .aC),az 4 (kI 0)]
 (.seq (aj [b7 6 8 1,bE 7 jP [(.t 6)],af 5 7]
 (aj [af 8 5,aE 9 .neq (.t 8) (kI 0)]
 (aN 9 (aj [af 10 5,az 2 (.c (.p (.bool false))),az 3 (.c .aC),af 4 10]
 .ret) .skip)))
 (.seq (aj [b7 11 8 1,bE 12 eC [(.t 11)]]
 (aN 12 (aj [az 2 (.c (.p (.bool false))),az 3 (.c .aC),az 4 (kI 3)]
 .ret) .skip))
 (aj [b7 13 8 1,bE 14 js [(.t 13)],ak 15 (.extract (.t 14) 0),ak 16 (.extract (.t 14) 1),ak 17 (.extract (.t 14) 2),bE 18 gO [(.t 15),(.t 16),(.t 17)],ak 19 (.extract (.t 18) 0),ak 20 (.extract (.t 18) 1),ak 21 (.extract (.t 18) 2),af 2 19,af 3 20,af 4 21]
 .ret)))),false⟩
def cC:K :=
 (.seq (aj [af 27 9,af 28 8,aE 29 .leq (.t 27) (.t 28)]
 (aN 29 .skip (.exit 0)))
 (.seq (.block 1 (aj [b7 32 8 2,ak 10 (.init 8 true (.t 32) false)]
 (.seq (aj [b7 33 8 2,bE 34 eC [(.t 33)]]
 (aN 34 (aj [b7 36 8 2,af 37 9,bE 38 sZ [(.t 36),(.t 37)],af 35 38,ak 39 (.extract (.t 35) 0),ak 40 (.extract (.t 35) 1),ak 11 (.init 8 true (.t 39) true),af 12 40]
 (.seq (aj [af 41 12,aE 42 .neq (.t 41) (kI 0)]
 (aN 42 (aj [af 43 9,af 44 12,az 4 (.c (.p (.bool false))),af 5 43,af 6 44]
 .ret) .skip))
 (.cu false [b7 45 8 11,⟨none,.store 8 (.t 10) (.t 45),none⟩]))) .skip))
 (aj [b7 47 8 10,bE 48 oh [(.t 47)],af 46 48,ak 49 (.extract (.t 46) 0),ak 50 (.extract (.t 46) 1),ak 51 (.extract (.t 46) 2),af 13 49,af 14 50,af 15 51]
 (aj [af 52 15,aE 53 .neq (.t 52) (kI 0),af 54 53,⟨some 55,.mv (.t 13) false,some (54,false)⟩,⟨some 56,.not (.t 55),some (54,false)⟩,ak 57 (.pick (.t 54) (.c (.p (.bool true))) (.t 56))]
 (aN 57 (aj [af 58 9,af 59 15,az 4 (.c (.p (.bool false))),af 5 58,af 6 59]
 .ret) .skip))))))
 (.cu false [af 30 9,aE 31 .add (.t 30) (kI 1),af 9 31])))
def eU:K:=.loop [2,8,9] cC
def eK:cL:=⟨60,[.tmp 4,.tmp 5,.tmp 6],
 (aj [ak 2 (.box 8 true (.t 0) true),az 4 (.c (.p (.bool false))),az 5 (kI 0),az 6 (kI 0)]
 (.seq (aj [b7 16 8 2,bE 17 jP [(.t 16)],af 7 17]
 (aj [af 18 7,aE 19 .neq (.t 18) (kI 0)]
 (aN 19 (aj [af 20 7,az 4 (.c (.p (.bool false))),az 5 (kI 1),af 6 20]
 .ret) .skip)))
 (aj [af 21 1,ak 22 (.sv true [(.t 21),(kI 1)]),ak 23 (.sv false [(.t 22),(kI 8)]),af 8 23]
 (.seq (aj [b7 24 8 2,bE 25 eC [(.t 24)],ak 26 (.not (.t 25))]
 (aN 26 (.cu false [az 8 (kI 1)]) .skip))
 (.seq (aj [az 9 (kI 1)]
 (.block 0 eU))
 (aj [az 4 (.c (.p (.bool true))),az 5 (kI 0),az 6 (kI 0)]
 .ret)))))),false⟩
def tx:K :=
 (.seq (aj [af 7 5,a6 8 1 1,a7 9 8,ak 10 (.bJ (.t 9)),aE 11 .lss (.t 7) (.t 10)]
 (aN 11 .skip (.exit 0)))
 (.seq (.block 1 (.seq (aj [a6 14 1 1,a7 15 14,af 16 5,ak 17 (.au 6 (.t 15) (.t 16)),a6 18 0 17,a7 19 18,aE 20 .neq (.t 19) (.c (.p (.str (bs []))))]
 (aN 20 (.cu false [af 21 4,a6 22 1 1,a7 23 22,af 24 5,ak 25 (.au 6 (.t 23) (.t 24)),b7 26 6 25,bE 27 qk [(.t 26)],ak 28 (.iU 5 oU 1 [(0,5,(.t 27))]),ak 29 (.append 5 64 (.t 21) (.t 28)),ak 4 (.mv (.t 29) true)]) .skip))
 (.cu false [af 30 4,a6 31 1 1,a7 32 31,af 33 5,ak 34 (.au 6 (.t 32) (.t 33)),a6 35 1 34,b7 36 5 35,ak 37 (.iU 5 oU 1 [(0,5,(.t 36))]),ak 38 (.append 5 64 (.t 30) (.t 37)),ak 4 (.mv (.t 38) true)])))
 (.cu false [af 12 5,aE 13 .add (.t 12) (kI 1),af 5 13])))
def B2:K:=.loop [1,4,5] tx
def wW:cL:=⟨43,[.tmp 2,.tmp 3],
 (aj [ak 1 (.box 8 true (.t 0) true),az 2 (.c .aC),az 3 (.c .aC)]
 (aj [ak 6 (.dC 5 oU 0 []),ak 4 (.mv (.t 6) true)]
 (.seq (aj [az 5 (kI 0)]
 (.block 0 B2))
 (aj [af 39 4,bE 40 qe [(kI 24),(.t 39)],af 41 4,bE 42 qe [(kI 25),(.t 41)],af 2 40,af 3 42]
 .ret)))),false⟩
def tP:cL:=⟨7,[.tmp 2],
 (aj [ak 1 (.box 8 true (.t 0) true),az 2 (.c .aC)]
 (aj [a6 3 1 1,a7 4 3,bE 5 jQ [(.t 4)],bE 6 gQ [(.t 5)],af 2 6]
 .ret)),false⟩
def wX:cL:=⟨7,[.tmp 2],
 (aj [ak 1 (.box 8 true (.t 0) true),az 2 (.c .aC)]
 (aj [a6 3 1 1,a7 4 3,bE 5 jQ [(.t 4)],bE 6 iW [(.t 5)],af 2 6]
 .ret)),false⟩
def lf:K :=
 (.seq (aj [af 7 4,a6 8 1 1,a7 9 8,ak 10 (.bJ (.t 9)),aE 11 .lss (.t 7) (.t 10)]
 (aN 11 .skip (.exit 0)))
 (.seq (.block 1 (.cu false [af 14 3,a6 15 1 1,a7 16 15,af 17 4,ak 18 (.au 6 (.t 16) (.t 17)),a6 19 1 18,b7 20 5 19,ak 21 (.iU 5 oU 1 [(0,5,(.t 20))]),ak 22 (.append 5 64 (.t 14) (.t 21)),ak 3 (.mv (.t 22) true)]))
 (.cu false [af 12 4,aE 13 .add (.t 12) (kI 1),af 4 13])))
def rH:K:=.loop [1,3,4] lf
def jk:K :=
 (.seq (aj [af 28 5,a6 29 7 1,a7 30 29,ak 31 (.bJ (.t 30)),aE 32 .lss (.t 28) (.t 31)]
 (aN 32 .skip (.exit 2)))
 (.seq (.block 3 (aj [af 35 3,a6 36 7 1,a7 37 36,af 38 5,ak 39 (.au 11 (.t 37) (.t 38)),a6 40 1 39,b7 41 5 40,ak 42 (.iU 5 oU 1 [(0,5,(.t 41))]),ak 43 (.append 5 64 (.t 35) (.t 42)),ak 3 (.mv (.t 43) true)]
 (aj [a6 44 7 1,a7 45 44,af 46 5,ak 47 (.au 11 (.t 45) (.t 46)),a6 48 0 47,a7 49 48,aE 50 .neq (.t 49) (kI 1)]
 (aN 50 (.cu false [af 51 3,a6 52 7 1,a7 53 52,af 54 5,ak 55 (.au 11 (.t 53) (.t 54)),a6 56 6 55,b7 57 5 56,ak 58 (.iU 5 oU 1 [(0,5,(.t 57))]),ak 59 (.append 5 64 (.t 51) (.t 58)),ak 3 (.mv (.t 59) true)]) .skip))))
 (.cu false [af 33 5,aE 34 .add (.t 33) (kI 1),af 5 34])))
def xy:K:=.loop [1,3,5] jk
def pE:cL:=⟨61,[.tmp 2],
 (aj [ak 1 (.box 8 true (.t 0) true),az 2 (.c .aC)]
 (aj [ak 6 (.dC 5 oU 0 []),ak 3 (.mv (.t 6) true)]
 (.seq (aj [az 4 (kI 0)]
 (.block 0 rH))
 (aj [af 23 3,a6 24 2 1,b7 25 5 24,ak 26 (.iU 5 oU 1 [(0,5,(.t 25))]),ak 27 (.append 5 64 (.t 23) (.t 26)),ak 3 (.mv (.t 27) true)]
 (.seq (aj [az 5 (kI 0)]
 (.block 2 xy))
 (aj [af 60 3,af 2 60]
 .ret)))))),false⟩
def sF:cL:=⟨15,[.cell 6 5 true,.tmp 7],
 (aj [ak 3 (.box 5 true (.t 0) true),ak 6 (.alloc oU 5),az 7 (.c (.p (.bool false)))]
 (.seq (aj [b7 8 5 3,af 9 1,af 10 2,bE 11 nG [(.t 8),(.t 9),(.t 10)],aE 12 .lss (.t 11) (kI 0)]
 (aN 12 (aj [ak 13 (.build oU []),⟨none,.store 5 (.t 6) (.t 13),none⟩,az 7 (.c (.p (.bool false)))]
 .ret) .skip))
 (aj [b7 14 5 3,⟨none,.store 5 (.t 6) (.t 14),none⟩,az 7 (.c (.p (.bool true)))]
 .ret))),false⟩
def tK:cL:=⟨8,[.cell 4 5 true],
 (aj [ak 4 (.alloc oU 5)]
 (aj [af 5 1,af 6 0,ak 7 (.build oU [(0,1,(kI 24)),(1,1,(.t 5)),(3,1,(.t 6))]),⟨none,.store 5 (.t 4) (.t 7),none⟩]
 .ret)),false⟩
def mU:cL:=⟨7,[.tmp 1],
 (aj [az 1 (kI 0)]
 (aj [a6 2 0 0,a7 3 2,bE 4 j9 [(.t 3)],ak 5 (.not (.t 4)),bE 6 gS [(.t 5),(kI 5)],af 1 6]
 .ret)),false⟩
def wZ:cL:=⟨7,[.tmp 4],
 (aj [az 4 (kI 0)]
 (.seq (aj [af 5 0]
 (aN 5 (aj [af 6 1,af 4 6]
 .ret) .skip))
 (aj [az 4 (kI 0)]
 .ret))),false⟩
def tC:K :=
 (aj [aE 26 .lss (.t 25) (.t 24)]
 (.seq (aN 26 .skip (.exit 0))
 (.seq (.block 1 (aj [af 27 25,af 3 27]
 (aj [af 28 0,af 29 3,ak 30 (.JP (.t 28) (.t 29)),af 4 30]
 (aj [af 31 4,aE 32 .lss (.t 31) (.c (.p (.int .u8 97))),af 33 32,⟨some 34,.mv (.t 4) false,some (33,false)⟩,⟨some 35,.arith .gtr (.t 34) (.c (.p (.int .u8 122))),some (33,false)⟩,ak 36 (.pick (.t 33) (.c (.p (.bool true))) (.t 35)),af 37 36,⟨some 38,.mv (.t 4) false,some (37,true)⟩,⟨some 39,.arith .lss (.t 38) (.c (.p (.int .u8 48))),some (37,true)⟩,⟨some 40,.mv (.t 39) false,some (37,true)⟩,⟨some 41,.mv (.t 4) false,some (40,false)⟩,⟨some 42,.arith .gtr (.t 41) (.c (.p (.int .u8 57))),some (40,false)⟩,⟨some 43,.pick (.t 40) (.c (.p (.bool true))) (.t 42),some (37,true)⟩,ak 44 (.pick (.t 37) (.t 43) (.c (.p (.bool false)))),af 45 44,⟨some 46,.mv (.t 4) false,some (45,true)⟩,⟨some 47,.arith .neq (.t 46) (.c (.p (.int .u8 95))),some (45,true)⟩,ak 48 (.pick (.t 45) (.t 47) (.c (.p (.bool false))))]
 (aN 48 (aj [az 2 (.c (.p (.bool false)))]
 .ret) .skip)))))
 (.cu false [aE 49 .add (.t 25) (kI 1),af 25 49]))))
def x6:K:=.loop [0,24,25] tC
def jY:cL:=⟨50,[.tmp 2],
 (aj [az 2 (.c (.p (.bool false)))]
 (.seq (aj [af 5 0,ak 6 (.JY (.t 5)),aE 7 .lss (.t 6) (kI 1),af 8 7,⟨some 9,.mv (.t 0) false,some (8,false)⟩,⟨some 10,.JY (.t 9),some (8,false)⟩,⟨some 11,.arith .gtr (.t 10) (kI 16),some (8,false)⟩,ak 12 (.pick (.t 8) (.c (.p (.bool true))) (.t 11)),af 13 12,⟨some 14,.mv (.t 0) false,some (13,false)⟩,⟨some 15,.JP (.t 14) (kI 0),some (13,false)⟩,⟨some 16,.arith .lss (.t 15) (.c (.p (.int .u8 97))),some (13,false)⟩,ak 17 (.pick (.t 13) (.c (.p (.bool true))) (.t 16)),af 18 17,⟨some 19,.mv (.t 0) false,some (18,false)⟩,⟨some 20,.JP (.t 19) (kI 0),some (18,false)⟩,⟨some 21,.arith .gtr (.t 20) (.c (.p (.int .u8 122))),some (18,false)⟩,ak 22 (.pick (.t 18) (.c (.p (.bool true))) (.t 21))]
 (aN 22 (aj [az 2 (.c (.p (.bool false)))]
 .ret) .skip))
 (.seq (aj [af 23 0,ak 24 (.JY (.t 23)),az 25 (kI 0)]
 (.block 0 x6))
 (aj [az 2 (.c (.p (.bool true)))]
 .ret)))),false⟩
def iQ:cL:=⟨19,[.tmp 1],
 (aj [az 1 (kI 0)]
 (aj [a6 2 1 0,a7 3 2,ak 4 (.bJ (.t 3)),aE 5 .eql (.t 4) (kI 0),af 6 5,⟨some 7,.bP 1 (.t 0),some (6,false)⟩,⟨some 8,.load 1 false (.t 7),some (6,false)⟩,⟨some 9,.bJ (.t 8),some (6,false)⟩,⟨some 10,.arith .gtr (.t 9) (kI 4),some (6,false)⟩,ak 11 (.pick (.t 6) (.c (.p (.bool true))) (.t 10)),af 12 11,⟨some 13,.bP 7 (.t 0),some (12,false)⟩,⟨some 14,.load 1 false (.t 13),some (12,false)⟩,⟨some 15,.bJ (.t 14),some (12,false)⟩,⟨some 16,.arith .gtr (.t 15) (kI 8),some (12,false)⟩,ak 17 (.pick (.t 12) (.c (.p (.bool true))) (.t 16)),bE 18 gS [(.t 17),(kI 7)],af 1 18]
 .ret)),false⟩
def pF:cL:=⟨5,[.tmp 1],
 (aj [az 1 (kI 0)]
 (aj [a6 2 1 0,a7 3 2,bE 4 oi [(.t 3)],af 1 4]
 .ret)),false⟩
def l8:K :=
 (aj [aE 9 .lss (.t 8) (.t 7)]
 (.seq (aN 9 .skip (.exit 0))
 (.seq (.block 1 (aj [ak 10 (.au 6 (.t 6) (.t 8)),b7 11 6 10,ak 4 (.init 6 true (.t 11) true)]
 (.seq (aj [a6 12 1 4,b7 13 5 12,bE 14 eF [(.t 13),(.c (.p (.bool false)))],af 5 14]
 (aj [af 15 5,aE 16 .neq (.t 15) (kI 0)]
 (aN 16 (aj [af 17 5,af 2 17]
 .ret) .skip)))
 (aj [a6 18 0 4,a7 19 18,aE 20 .neq (.t 19) (.c (.p (.str (bs [])))),af 21 20,⟨some 22,.bP 0 (.t 4),some (21,true)⟩,⟨some 23,.load 1 false (.t 22),some (21,true)⟩,⟨some 24,.dV j9 [(.t 23)],some (21,true)⟩,⟨some 25,.not (.t 24),some (21,true)⟩,ak 26 (.pick (.t 21) (.t 25) (.c (.p (.bool false))))]
 (aN 26 (aj [az 2 (kI 5)]
 .ret) .skip)))))
 (.cu false [aE 27 .add (.t 8) (kI 1),af 8 27]))))
def wh:K:=.loop [6,7,8] l8
def qE:cL:=⟨28,[.tmp 2],
 (aj [az 2 (kI 0)]
 (.seq (aj [af 6 0,ak 7 (.bJ (.t 6)),az 8 (kI 0)]
 (.block 0 wh))
 (aj [az 2 (kI 0)]
 .ret))),false⟩
def pG:cL:=⟨5,[.tmp 1],
 (aj [az 1 (kI 0)]
 (aj [a6 2 1 0,a7 3 2,bE 4 oj [(.t 3)],af 1 4]
 .ret)),false⟩
def oK:K :=
 (aj [aE 11 .lss (.t 10) (.t 9)]
 (.seq (aN 11 .skip (.exit 0))
 (.seq (.block 1 (aj [ak 12 (.au 5 (.t 8) (.t 10)),b7 13 5 12,ak 5 (.init 5 true (.t 13) true)]
 (aj [af 14 3,b7 15 5 5,bE 16 kJ [(.t 14),(.t 15)],ak 17 (.not (.t 16))]
 (aN 17 (aj [az 2 (kI 12)]
 .ret) .skip))))
 (.cu false [aE 18 .add (.t 10) (kI 1),af 10 18]))))
def wj:K:=.loop [3,8,9,10] oK
def nW:cL:=⟨22,[.tmp 2],
 (aj [az 2 (kI 0)]
 (aj [ak 6 (.DV),af 3 6]
 (.seq (aj [af 7 0,bE 8 jQ [(.t 7)],ak 9 (.bJ (.t 8)),az 10 (kI 0)]
 (.block 0 wj))
 (.seq (aj [af 19 3,ak 20 (.AX (.t 19)),aE 21 .gtr (.t 20) (kI 16)]
 (aN 21 (aj [az 2 (kI 7)]
 .ret) .skip))
 (aj [az 2 (kI 0)]
 .ret))))),false⟩
def pH:cL:=⟨5,[.tmp 1],
 (aj [az 1 (kI 0)]
 (aj [a6 2 2 0,b7 3 5 2,bE 4 eF [(.t 3),(.c (.p (.bool true)))],af 1 4]
 .ret)),false⟩
def eH:K :=
 (.cu false [ak 7 (.init 5 true (.t 27) true)])
def eI:K :=
 (.block 1 (.seq (aj [a6 28 0 7,a7 29 28,bE 30 dr [(.t 29)],ak 31 (.not (.t 30))]
 (aN 31 (.exit 1) .skip))
 (aj [a7 33 6,a6 34 3 7,a7 35 34,ak 36 (.lookup .str (.agg oU) (.t 33) (.t 35) true),af 32 36,ak 37 (.extract (.t 32) 0),ak 38 (.extract (.t 32) 1),ak 8 (.init 5 true (.t 37) true),af 9 38]
 (.seq (aj [af 39 9,af 40 39,⟨some 41,.bP 0 (.t 8),some (40,true)⟩,⟨some 42,.load 1 false (.t 41),some (40,true)⟩,⟨some 43,.bP 0 (.t 7),some (40,true)⟩,⟨some 44,.load 1 false (.t 43),some (40,true)⟩,⟨some 45,.arith .neq (.t 42) (.t 44),some (40,true)⟩,⟨some 46,.mv (.t 45) false,some (40,true)⟩,⟨some 47,.bP 1 (.t 8),some (46,false)⟩,⟨some 48,.load 1 false (.t 47),some (46,false)⟩,⟨some 49,.bP 1 (.t 7),some (46,false)⟩,⟨some 50,.load 1 false (.t 49),some (46,false)⟩,⟨some 51,.arith .neq (.t 48) (.t 50),some (46,false)⟩,⟨some 52,.pick (.t 46) (.c (.p (.bool true))) (.t 51),some (40,true)⟩,ak 53 (.pick (.t 40) (.t 52) (.c (.p (.bool false))))]
 (aN 53 (aj [⟨none,.store 1 (.t 4) (kI 12),none⟩]
 .ret) .skip))
 (.cu false [a7 54 6,a6 55 3 7,a7 56 55,b7 57 5 7,⟨none,.UO .str (.t 54) (.t 56) (.t 57),none⟩])))))
def Be:K:=.range (.t 26) [27] [4,6] eH eI
def eD:cL:=⟨61,[.cell 4 1 false],
 (aj [ak 2 (.box 5 true (.t 0) true),ak 4 (.alloc [(.p (.int .i64 0))] 1)]
 (.seq (aj [b7 10 5 2,bE 11 nK [(.t 10)],aE 12 .gtr (.t 11) (kI 4096),af 13 12,⟨some 14,.load 5 true (.t 2),some (13,false)⟩,⟨some 15,.dV lT [(.t 14)],some (13,false)⟩,⟨some 16,.arith .gtr (.t 15) (kI 64),some (13,false)⟩,ak 17 (.pick (.t 13) (.c (.p (.bool true))) (.t 16))]
 (aN 17 (aj [⟨none,.store 1 (.t 4) (kI 7),none⟩]
 .ret) .skip))
 (.seq (aj [b7 18 5 2,af 19 1,bE 20 gR [(.t 18),(.t 19)],af 5 20]
 (aj [af 21 5,aE 22 .neq (.t 21) (kI 0)]
 (aN 22 (aj [af 23 5,⟨none,.store 1 (.t 4) (.t 23),none⟩]
 .ret) .skip)))
 (aj [ak 24 (.DV),ak 6 (.init 1 false (.t 24) true)]
 (.seq (aj [b7 25 5 2,bE 26 dq [(.t 25)]]
 (.block 0 Be))
 (.seq (aj [a7 58 6,ak 59 (.AX (.t 58)),aE 60 .gtr (.t 59) (kI 16)]
 (aN 60 (aj [⟨none,.store 1 (.t 4) (kI 7),none⟩]
 .ret) .skip))
 (aj [⟨none,.store 1 (.t 4) (kI 0),none⟩]
 .ret))))))),false⟩
def mV:cL:=⟨11,[.tmp 1],
 (aj [az 1 (kI 0)]
 (.seq (.cu true [a6 2 2 0,b7 3 5 2,b7 4 8 0,bE 5 lQ [(.t 4)],b7 6 8 0,bE 7 nI [(.t 6)],bE 8 lR [(.t 3),(.t 5),(.t 7)],ak 9 (.not (.t 8)),bE 10 gS [(.t 9),(kI 12)],af 1 10])
 .ret)),false⟩
def q6:K :=
 (aj [aE 33 .lss (.t 32) (.t 31)]
 (.seq (aN 33 .skip (.exit 0))
 (.seq (.block 1 (aj [ak 34 (.au 5 (.t 30) (.t 32)),b7 35 5 34,ak 8 (.init 5 true (.t 35) true)]
 (aj [b7 36 5 8,af 37 1,af 38 2,bE 39 lR [(.t 36),(.t 37),(.t 38)],ak 40 (.not (.t 39))]
 (aN 40 (aj [az 6 (.c (.p (.bool false)))]
 .ret) .skip))))
 (.cu false [aE 41 .add (.t 32) (kI 1),af 32 41]))))
def wi:K:=.loop [1,2,30,31,32] q6
def lE:cL:=⟨42,[.tmp 6],
 (aj [ak 3 (.box 5 true (.t 0) true),az 6 (.c (.p (.bool false)))]
 (.seq (aj [a6 9 0 3,a7 10 9,aE 11 .eql (.t 10) (kI 24)]
 (aN 11 (aj [af 12 1,a6 13 3 3,a7 14 13,a6 15 1 3,a7 16 15,ak 17 (.build [(.p (.str (bs []))),(.p (.int .i64 0))] [(0,1,(.t 14)),(1,1,(.t 16))]),bE 18 a8 [(.t 12),(.t 17)],af 6 18]
 .ret) .skip))
 (.seq (aj [a6 19 0 3,a7 20 19,aE 21 .eql (.t 20) (kI 25)]
 (aN 21 (aj [af 22 2,a6 23 3 3,a7 24 23,a6 25 1 3,a7 26 25,ak 27 (.build [(.p (.str (bs []))),(.p (.int .i64 0))] [(0,1,(.t 24)),(1,1,(.t 26))]),bE 28 a8 [(.t 22),(.t 27)],af 6 28]
 .ret) .skip))
 (.seq (aj [a6 29 4 3,a7 30 29,ak 31 (.bJ (.t 30)),az 32 (kI 0)]
 (.block 0 wi))
 (aj [az 6 (.c (.p (.bool true)))]
 .ret))))),false⟩
def mW:cL:=⟨13,[.tmp 1],
 (aj [az 1 (kI 0)]
 (.seq (.cu true [a6 2 2 0,a6 3 1 2,a7 4 3,a6 5 1 0,a7 6 5,ak 7 (.au 6 (.t 6) (kI 0)),a6 8 1 7,a6 9 1 8,a7 10 9,aE 11 .neq (.t 4) (.t 10),bE 12 gS [(.t 11),(kI 3)],af 1 12])
 .ret)),false⟩
def pI:cL:=⟨4,[.tmp 1],
 (aj [az 1 (kI 0)]
 (aj [b7 2 8 0,bE 3 mw [(.t 2)],af 1 3]
 .ret)),false⟩
def pw:K :=
 (aj [aE 16 .lss (.t 15) (.t 14)]
 (.seq (aN 16 .skip (.exit 0))
 (.seq (.block 1 (aj [ak 17 (.au 11 (.t 13) (.t 15)),b7 18 11 17,ak 6 (.init 11 true (.t 18) true)]
 (aj [b7 19 11 6,af 20 3,af 21 4,bE 22 mn [(.t 19),(.t 20),(.t 21)],af 7 22]
 (aj [af 23 7,aE 24 .neq (.t 23) (kI 0)]
 (aN 24 (aj [af 25 7,af 2 25]
 .ret) .skip)))))
 (.cu false [aE 26 .add (.t 15) (kI 1),af 15 26]))))
def ub:K:=.loop [3,4,13,14,15] pw
def oN:cL:=⟨27,[.tmp 2],
 (aj [ak 1 (.box 8 true (.t 0) true),az 2 (kI 0)]
 (.seq (.cu true [b7 8 8 1,bE 9 lQ [(.t 8)],b7 10 8 1,bE 11 nI [(.t 10)],af 3 9,af 4 11])
 (.seq (aj [a6 12 7 1,a7 13 12,ak 14 (.bJ (.t 13)),az 15 (kI 0)]
 (.block 0 ub))
 (aj [az 2 (kI 0)]
 .ret)))),false⟩
def wH:K :=
 (.seq (aj [af 23 3,af 24 0,ak 25 (.JY (.t 24)),aE 26 .lss (.t 23) (.t 25)]
 (aN 26 .skip (.exit 0)))
 (.seq (.block 1 (aj [af 29 0,af 30 3,ak 31 (.JP (.t 29) (.t 30)),af 4 31]
 (aj [af 32 4,aE 33 .geq (.t 32) (.c (.p (.int .u8 97))),af 34 33,⟨some 35,.mv (.t 4) false,some (34,true)⟩,⟨some 36,.arith .leq (.t 35) (.c (.p (.int .u8 122))),some (34,true)⟩,ak 37 (.pick (.t 34) (.t 36) (.c (.p (.bool false)))),ak 38 (.not (.t 37)),af 39 38,⟨some 40,.mv (.t 4) false,some (39,true)⟩,⟨some 41,.arith .geq (.t 40) (.c (.p (.int .u8 48))),some (39,true)⟩,⟨some 42,.mv (.t 41) false,some (39,true)⟩,⟨some 43,.mv (.t 4) false,some (42,true)⟩,⟨some 44,.arith .leq (.t 43) (.c (.p (.int .u8 57))),some (42,true)⟩,⟨some 45,.pick (.t 42) (.t 44) (.c (.p (.bool false))),some (39,true)⟩,⟨some 46,.not (.t 45),some (39,true)⟩,ak 47 (.pick (.t 39) (.t 46) (.c (.p (.bool false)))),af 48 47,⟨some 49,.mv (.t 4) false,some (48,true)⟩,⟨some 50,.arith .neq (.t 49) (.c (.p (.int .u8 95))),some (48,true)⟩,ak 51 (.pick (.t 48) (.t 50) (.c (.p (.bool false))))]
 (aN 51 (aj [az 2 (.c (.p (.bool false)))]
 .ret) .skip))))
 (.cu false [af 27 3,aE 28 .add (.t 27) (kI 1),af 3 28])))
def zO:K:=.loop [0,3] wH
def mb:cL:=⟨52,[.tmp 2],
 (aj [az 2 (.c (.p (.bool false)))]
 (.seq (aj [af 5 0,ak 6 (.JY (.t 5)),aE 7 .lss (.t 6) (kI 1),af 8 7,⟨some 9,.mv (.t 0) false,some (8,false)⟩,⟨some 10,.JY (.t 9),some (8,false)⟩,⟨some 11,.arith .gtr (.t 10) (kI 16),some (8,false)⟩,ak 12 (.pick (.t 8) (.c (.p (.bool true))) (.t 11)),af 13 12,⟨some 14,.mv (.t 0) false,some (13,false)⟩,⟨some 15,.JP (.t 14) (kI 0),some (13,false)⟩,⟨some 16,.arith .lss (.t 15) (.c (.p (.int .u8 97))),some (13,false)⟩,ak 17 (.pick (.t 13) (.c (.p (.bool true))) (.t 16)),af 18 17,⟨some 19,.mv (.t 0) false,some (18,false)⟩,⟨some 20,.JP (.t 19) (kI 0),some (18,false)⟩,⟨some 21,.arith .gtr (.t 20) (.c (.p (.int .u8 122))),some (18,false)⟩,ak 22 (.pick (.t 18) (.c (.p (.bool true))) (.t 21))]
 (aN 22 (aj [az 2 (.c (.p (.bool false)))]
 .ret) .skip))
 (.seq (aj [az 3 (kI 0)]
 (.block 0 zO))
 (aj [az 2 (.c (.p (.bool true)))]
 .ret)))),false⟩
def iM:K :=
 (.seq (aj [af 23 3,a6 24 1 1,a7 25 24,ak 26 (.bJ (.t 25)),aE 27 .lss (.t 23) (.t 26)]
 (aN 27 .skip (.exit 0)))
 (.seq (.block 1 (aj [a6 30 1 1,a7 31 30,af 32 3,ak 33 (.au 6 (.t 31) (.t 32)),a6 34 1 33,b7 35 5 34,bE 36 j8 [(.t 35),(.c (.p (.bool false)))],af 4 36]
 (.seq (aj [af 37 4,aE 38 .neq (.t 37) (kI 0)]
 (aN 38 (aj [af 39 4,af 2 39]
 .ret) .skip))
 (aj [a6 40 1 1,a7 41 40,af 42 3,ak 43 (.au 6 (.t 41) (.t 42)),a6 44 0 43,a7 45 44,aE 46 .neq (.t 45) (.c (.p (.str (bs [])))),af 47 46,⟨some 48,.bP 1 (.t 1),some (47,true)⟩,⟨some 49,.load 1 false (.t 48),some (47,true)⟩,⟨some 50,.mv (.t 3) false,some (47,true)⟩,⟨some 51,.au 6 (.t 49) (.t 50),some (47,true)⟩,⟨some 52,.bP 0 (.t 51),some (47,true)⟩,⟨some 53,.load 1 false (.t 52),some (47,true)⟩,⟨some 54,.dV od [(.t 53)],some (47,true)⟩,⟨some 55,.not (.t 54),some (47,true)⟩,ak 56 (.pick (.t 47) (.t 55) (.c (.p (.bool false))))]
 (aN 56 (aj [az 2 (kI 5)]
 .ret) .skip)))))
 (.cu false [af 28 3,aE 29 .add (.t 28) (kI 1),af 3 29])))
def sN:K:=.loop [1,3] iM
def kC:cL:=⟨71,[.tmp 2],
 (aj [ak 1 (.box 8 true (.t 0) true),az 2 (kI 0)]
 (.seq (aj [a6 7 1 1,a7 8 7,ak 9 (.bJ (.t 8)),aE 10 .lss (.t 9) (kI 1),af 11 10,⟨some 12,.bP 1 (.t 1),some (11,false)⟩,⟨some 13,.load 1 false (.t 12),some (11,false)⟩,⟨some 14,.bJ (.t 13),some (11,false)⟩,⟨some 15,.arith .gtr (.t 14) (kI 4),some (11,false)⟩,ak 16 (.pick (.t 11) (.c (.p (.bool true))) (.t 15)),af 17 16,⟨some 18,.bP 7 (.t 1),some (17,false)⟩,⟨some 19,.load 1 false (.t 18),some (17,false)⟩,⟨some 20,.bJ (.t 19),some (17,false)⟩,⟨some 21,.arith .gtr (.t 20) (kI 8),some (17,false)⟩,ak 22 (.pick (.t 17) (.c (.p (.bool true))) (.t 21))]
 (aN 22 (aj [az 2 (kI 7)]
 .ret) .skip))
 (.seq (aj [az 3 (kI 0)]
 (.block 0 sN))
 (.seq (aj [b7 57 8 1,bE 58 jr [(.t 57)],bE 59 qj [(.t 58)]]
 (aN 59 (aj [az 2 (kI 12)]
 .ret) .skip))
 (aj [b7 61 8 1,bE 62 nH [(.t 61)],af 60 62,ak 63 (.extract (.t 60) 0),ak 64 (.extract (.t 60) 1),af 5 63,af 6 64]
 (.seq (aj [af 65 5,ak 66 (.bJ (.t 65)),af 67 6,ak 68 (.bJ (.t 67)),aE 69 .add (.t 66) (.t 68),aE 70 .gtr (.t 69) (kI 16)]
 (aN 70 (aj [az 2 (kI 7)]
 .ret) .skip))
 (aj [az 2 (kI 0)]
 .ret))))))),false⟩
def tv:K :=
 (.seq (aj [af 19 6,af 20 5,ak 21 (.bJ (.t 20)),aE 22 .lss (.t 19) (.t 21)]
 (aN 22 .skip (.exit 0)))
 (.seq (.block 1 (aj [af 25 5,af 26 6,ak 27 (.au 5 (.t 25) (.t 26)),b7 28 5 27,af 29 1,bE 30 sn [(.t 28),(.t 29)],af 7 30]
 (aj [af 31 7,aE 32 .neq (.t 31) (kI 0)]
 (aN 32 (aj [af 33 7,af 4 33]
 .ret) .skip))))
 (.cu false [af 23 6,aE 24 .add (.t 23) (kI 1),af 6 24])))
def xZ:K:=.loop [1,2,5,6] tv
def jX:cL:=⟨44,[.tmp 4],
 (aj [ak 2 (.box 5 true (.t 0) true),az 4 (kI 0)]
 (.seq (aj [b7 10 5 2,bE 11 qc [(.t 10),(kI 4096)],ak 12 (.not (.t 11)),af 13 12,⟨some 14,.load 5 true (.t 2),some (13,false)⟩,⟨some 15,.dV p9 [(.t 14),(kI 64)],some (13,false)⟩,ak 16 (.pick (.t 13) (.c (.p (.bool true))) (.t 15))]
 (aN 16 (aj [az 4 (kI 7)]
 .ret) .skip))
 (aj [b7 17 5 2,bE 18 fu [(.t 17)],af 5 18]
 (.seq (aj [az 6 (kI 0)]
 (.block 0 xZ))
 (aj [b7 35 5 2,bE 36 qf [(.t 35)],af 34 36,ak 37 (.extract (.t 34) 0),ak 38 (.extract (.t 34) 1),af 8 37,af 9 38]
 (.seq (aj [af 39 9,ak 40 (.not (.t 39))]
 (aN 40 (aj [az 4 (kI 12)]
 .ret) .skip))
 (.seq (aj [af 41 8,ak 42 (.bJ (.t 41)),aE 43 .gtr (.t 42) (kI 16)]
 (aN 43 (aj [az 4 (kI 7)]
 .ret) .skip))
 (aj [az 4 (kI 0)]
 .ret)))))))),false⟩
def ly:K :=
 (.seq (aj [af 11 8,af 12 7,ak 13 (.bJ (.t 12)),aE 14 .lss (.t 11) (.t 13)]
 (aN 14 .skip (.exit 0)))
 (.seq (.block 1 (.seq (.cu true [af 17 7,af 18 8,ak 19 (.au 5 (.t 17) (.t 18)),a6 20 0 19,a7 21 20,aE 22 .eql (.t 21) (kI 24),af 23 22,⟨some 24,.mv (.t 1) false,some (23,true)⟩,⟨some 25,.mv (.t 7) false,some (23,true)⟩,⟨some 26,.mv (.t 8) false,some (23,true)⟩,⟨some 27,.au 5 (.t 25) (.t 26),some (23,true)⟩,⟨some 28,.bP 3 (.t 27),some (23,true)⟩,⟨some 29,.load 1 false (.t 28),some (23,true)⟩,⟨some 30,.mv (.t 7) false,some (23,true)⟩,⟨some 31,.mv (.t 8) false,some (23,true)⟩,⟨some 32,.au 5 (.t 30) (.t 31),some (23,true)⟩,⟨some 33,.bP 1 (.t 32),some (23,true)⟩,⟨some 34,.load 1 false (.t 33),some (23,true)⟩,⟨some 35,.dV sU [(.t 24),(.t 29),(.t 34)],some (23,true)⟩,⟨some 36,.not (.t 35),some (23,true)⟩,ak 37 (.pick (.t 23) (.t 36) (.c (.p (.bool false)))),af 38 37,⟨some 39,.mv (.t 7) false,some (38,false)⟩,⟨some 40,.mv (.t 8) false,some (38,false)⟩,⟨some 41,.au 5 (.t 39) (.t 40),some (38,false)⟩,⟨some 42,.bP 0 (.t 41),some (38,false)⟩,⟨some 43,.load 1 false (.t 42),some (38,false)⟩,⟨some 44,.arith .eql (.t 43) (kI 25),some (38,false)⟩,⟨some 45,.mv (.t 44) false,some (38,false)⟩,⟨some 46,.mv (.t 2) false,some (45,true)⟩,⟨some 47,.mv (.t 7) false,some (45,true)⟩,⟨some 48,.mv (.t 8) false,some (45,true)⟩,⟨some 49,.au 5 (.t 47) (.t 48),some (45,true)⟩,⟨some 50,.bP 3 (.t 49),some (45,true)⟩,⟨some 51,.load 1 false (.t 50),some (45,true)⟩,⟨some 52,.mv (.t 7) false,some (45,true)⟩,⟨some 53,.mv (.t 8) false,some (45,true)⟩,⟨some 54,.au 5 (.t 52) (.t 53),some (45,true)⟩,⟨some 55,.bP 1 (.t 54),some (45,true)⟩,⟨some 56,.load 1 false (.t 55),some (45,true)⟩,⟨some 57,.dV sU [(.t 46),(.t 51),(.t 56)],some (45,true)⟩,⟨some 58,.not (.t 57),some (45,true)⟩,⟨some 59,.pick (.t 45) (.t 58) (.c (.p (.bool false))),some (38,false)⟩,ak 60 (.pick (.t 38) (.c (.p (.bool true))) (.t 59))])
 (aN 60 (aj [az 6 (.c (.p (.bool false)))]
 .ret) .skip)))
 (.cu false [af 15 8,aE 16 .add (.t 15) (kI 1),af 8 16])))
def x4:K:=.loop [1,2,7,8] ly
def sH:cL:=⟨61,[.tmp 6],
 (aj [ak 3 (.box 5 true (.t 0) true),az 6 (.c (.p (.bool false)))]
 (aj [b7 9 5 3,bE 10 eB [(.t 9)],af 7 10]
 (.seq (aj [az 8 (kI 0)]
 (.block 0 x4))
 (aj [az 6 (.c (.p (.bool true)))]
 .ret)))),false⟩
def bz:cL:=⟨137,[.tmp 6],
 (aj [ak 3 (.box 11 true (.t 0) true),az 6 (kI 0)]
 (aj [a6 10 0 3,a7 11 10,aE 12 .eql (.t 11) (kI 3),af 13 12,⟨some 14,.bP 0 (.t 3),some (13,false)⟩,⟨some 15,.load 1 false (.t 14),some (13,false)⟩,⟨some 16,.arith .eql (.t 15) (kI 4),some (13,false)⟩,ak 17 (.pick (.t 13) (.c (.p (.bool true))) (.t 16)),af 7 17]
 (.seq (aj [a6 18 0 3,a7 19 18,aE 20 .lss (.t 19) (kI 1),af 21 20,⟨some 22,.bP 0 (.t 3),some (21,false)⟩,⟨some 23,.load 1 false (.t 22),some (21,false)⟩,⟨some 24,.arith .gtr (.t 23) (kI 4),some (21,false)⟩,ak 25 (.pick (.t 21) (.c (.p (.bool true))) (.t 24)),af 26 25,⟨some 27,.bP 0 (.t 3),some (26,false)⟩,⟨some 28,.load 1 false (.t 27),some (26,false)⟩,⟨some 29,.arith .eql (.t 28) (kI 1),some (26,false)⟩,⟨some 30,.mv (.t 29) false,some (26,false)⟩,⟨some 31,.bP 6 (.t 3),some (30,true)⟩,⟨some 32,.load 5 true (.t 31),some (30,true)⟩,⟨some 33,.dV sr [(.t 32)],some (30,true)⟩,⟨some 34,.not (.t 33),some (30,true)⟩,⟨some 35,.pick (.t 30) (.t 34) (.c (.p (.bool false))),some (26,false)⟩,ak 36 (.pick (.t 26) (.c (.p (.bool true))) (.t 35)),af 37 36,⟨some 38,.mv (.t 7) false,some (37,false)⟩,⟨some 39,.mv (.t 38) false,some (37,false)⟩,⟨some 40,.bP 1 (.t 3),some (39,true)⟩,⟨some 41,.bP 0 (.t 40),some (39,true)⟩,⟨some 42,.load 1 false (.t 41),some (39,true)⟩,⟨some 43,.arith .neq (.t 42) (kI 24),some (39,true)⟩,⟨some 44,.pick (.t 39) (.t 43) (.c (.p (.bool false))),some (37,false)⟩,ak 45 (.pick (.t 37) (.c (.p (.bool true))) (.t 44))]
 (aN 45 (aj [az 6 (kI 1)]
 .ret) .skip))
 (aj [a6 46 1 3,b7 47 5 46,bE 48 j8 [(.t 47),(.c (.p (.bool false)))],af 8 48]
 (.seq (aj [af 49 8,aE 50 .eql (.t 49) (kI 0),af 51 50,⟨some 52,.bP 0 (.t 3),some (51,true)⟩,⟨some 53,.load 1 false (.t 52),some (51,true)⟩,⟨some 54,.arith .neq (.t 53) (kI 1),some (51,true)⟩,ak 55 (.pick (.t 51) (.t 54) (.c (.p (.bool false))))]
 (aN 55 (.cu false [a6 56 6 3,b7 57 5 56,bE 58 j8 [(.t 57),(.c (.p (.bool false)))],af 8 58]) .skip))
 (.seq (aj [af 59 8,aE 60 .neq (.t 59) (kI 0)]
 (aN 60 (aj [af 61 8,af 6 61]
 .ret) .skip))
 (aj [ak 62 (.dC 2 [(.p (.str (bs []))),(.p (.int .i64 0))] 0 []),af 9 62]
 (.seq (.block 0 (aj [a6 64 0 3,a7 65 64,aE 66 .eql (.t 65) (kI 1),af 67 66,⟨some 68,.bP 1 (.t 3),some (67,true)⟩,⟨some 69,.load 5 true (.t 68),some (67,true)⟩,⟨some 70,.mv (.t 9) false,some (67,true)⟩,⟨some 71,.mv (.t 2) false,some (67,true)⟩,⟨some 72,.dV fG [(.t 69),(.t 70),(.t 71)],some (67,true)⟩,⟨some 73,.not (.t 72),some (67,true)⟩,ak 74 (.pick (.t 67) (.t 73) (.c (.p (.bool false)))),af 63 74]
 (aN 63 (aj [az 6 (kI 12)]
 .ret) (aj [a6 76 0 3,a7 77 76,aE 78 .eql (.t 77) (kI 2),af 79 78,⟨some 80,.bP 1 (.t 3),some (79,true)⟩,⟨some 81,.load 5 true (.t 80),some (79,true)⟩,⟨some 82,.mv (.t 1) false,some (79,true)⟩,⟨some 83,.mv (.t 2) false,some (79,true)⟩,⟨some 84,.dV fG [(.t 81),(.t 82),(.t 83)],some (79,true)⟩,⟨some 85,.not (.t 84),some (79,true)⟩,⟨some 86,.mv (.t 85) false,some (79,true)⟩,⟨some 87,.bP 6 (.t 3),some (86,false)⟩,⟨some 88,.load 5 true (.t 87),some (86,false)⟩,⟨some 89,.mv (.t 1) false,some (86,false)⟩,⟨some 90,.mv (.t 2) false,some (86,false)⟩,⟨some 91,.dV fG [(.t 88),(.t 89),(.t 90)],some (86,false)⟩,⟨some 92,.not (.t 91),some (86,false)⟩,⟨some 93,.pick (.t 86) (.c (.p (.bool true))) (.t 92),some (79,true)⟩,ak 94 (.pick (.t 79) (.t 93) (.c (.p (.bool false)))),af 75 94]
 (aN 75 (aj [az 6 (kI 12)]
 .ret) (aj [af 96 7,af 97 96,⟨some 98,.bP 1 (.t 3),some (97,true)⟩,⟨some 99,.load 5 true (.t 98),some (97,true)⟩,⟨some 100,.mv (.t 1) false,some (97,true)⟩,⟨some 101,.mv (.t 2) false,some (97,true)⟩,⟨some 102,.dV fG [(.t 99),(.t 100),(.t 101)],some (97,true)⟩,⟨some 103,.not (.t 102),some (97,true)⟩,⟨some 104,.mv (.t 103) false,some (97,true)⟩,⟨some 105,.bP 6 (.t 3),some (104,false)⟩,⟨some 106,.load 5 true (.t 105),some (104,false)⟩,⟨some 107,.mv (.t 9) false,some (104,false)⟩,⟨some 108,.mv (.t 2) false,some (104,false)⟩,⟨some 109,.dV fG [(.t 106),(.t 107),(.t 108)],some (104,false)⟩,⟨some 110,.not (.t 109),some (104,false)⟩,⟨some 111,.pick (.t 104) (.c (.p (.bool true))) (.t 110),some (97,true)⟩,ak 112 (.pick (.t 97) (.t 111) (.c (.p (.bool false)))),af 95 112]
 (aN 95 (aj [az 6 (kI 12)]
 .ret) (aj [a6 114 0 3,a7 115 114,aE 116 .eql (.t 115) (kI 1),af 117 116,⟨some 118,.bP 1 (.t 3),some (117,true)⟩,⟨some 119,.bP 1 (.t 118),some (117,true)⟩,⟨some 120,.load 1 false (.t 119),some (117,true)⟩,⟨some 121,.arith .neq (.t 120) (kI 1),some (117,true)⟩,ak 122 (.pick (.t 117) (.t 121) (.c (.p (.bool false)))),af 123 122,⟨some 124,.bP 0 (.t 3),some (123,false)⟩,⟨some 125,.load 1 false (.t 124),some (123,false)⟩,⟨some 126,.arith .neq (.t 125) (kI 1),some (123,false)⟩,⟨some 127,.mv (.t 126) false,some (123,false)⟩,⟨some 128,.bP 1 (.t 3),some (127,true)⟩,⟨some 129,.bP 1 (.t 128),some (127,true)⟩,⟨some 130,.load 1 false (.t 129),some (127,true)⟩,⟨some 131,.bP 6 (.t 3),some (127,true)⟩,⟨some 132,.bP 1 (.t 131),some (127,true)⟩,⟨some 133,.load 1 false (.t 132),some (127,true)⟩,⟨some 134,.arith .neq (.t 130) (.t 133),some (127,true)⟩,⟨some 135,.pick (.t 127) (.t 134) (.c (.p (.bool false))),some (123,false)⟩,ak 136 (.pick (.t 123) (.c (.p (.bool true))) (.t 135)),af 113 136]
 (aN 113 (aj [az 6 (kI 3)]
 .ret) .skip)))))))))
 (aj [az 6 (kI 0)]
 .ret))))))))),false⟩
def lC:cL:=⟨25,[.cell 4 5 true,.tmp 5],
 (aj [ak 2 (.box 5 true (.t 0) true),ak 4 (.alloc oU 5),az 5 (kI 0)]
 (.seq (aj [af 8 1,aE 9 .lss (.t 8) (kI 1),af 10 9,⟨some 11,.mv (.t 1) false,some (10,false)⟩,⟨some 12,.arith .gtr (.t 11) (kI 64),some (10,false)⟩,ak 13 (.pick (.t 10) (.c (.p (.bool true))) (.t 12))]
 (aN 13 (aj [ak 14 (.build oU []),⟨none,.store 5 (.t 4) (.t 14),none⟩,az 5 (kI 2)]
 .ret) .skip))
 (aj [b7 16 5 2,af 17 1,bE 18 lN [(.t 16),(.t 17)],af 15 18,ak 19 (.extract (.t 15) 0),ak 20 (.extract (.t 15) 1),ak 6 (.init 5 true (.t 19) true),af 7 20]
 (.seq (aj [af 21 7,ak 22 (.not (.t 21))]
 (aN 22 (aj [ak 23 (.build oU []),⟨none,.store 5 (.t 4) (.t 23),none⟩,az 5 (kI 3)]
 .ret) .skip))
 (aj [b7 24 5 6,⟨none,.store 5 (.t 4) (.t 24),none⟩,az 5 (kI 0)]
 .ret))))),false⟩
def py:cL:=⟨51,[.cell 4 11 true,.tmp 5],
 (aj [ak 2 (.box 11 true (.t 0) true),ak 4 (.alloc [(.p (.int .i64 0)),(.p (.int .i64 0)),(.p (.int .i64 0)),(.p (.int .u64 0)),(.p (.str (bs []))),.aC,(.p (.int .i64 0)),(.p (.int .i64 0)),(.p (.int .u64 0)),(.p (.str (bs []))),.aC] 11),az 5 (kI 0)]
 (.seq (aj [a6 9 0 2,a7 10 9,aE 11 .lss (.t 10) (kI 1),af 12 11,⟨some 13,.bP 0 (.t 2),some (12,false)⟩,⟨some 14,.load 1 false (.t 13),some (12,false)⟩,⟨some 15,.arith .gtr (.t 14) (kI 4),some (12,false)⟩,ak 16 (.pick (.t 12) (.c (.p (.bool true))) (.t 15))]
 (aN 16 (aj [ak 17 (.build [(.p (.int .i64 0)),(.p (.int .i64 0)),(.p (.int .i64 0)),(.p (.int .u64 0)),(.p (.str (bs []))),.aC,(.p (.int .i64 0)),(.p (.int .i64 0)),(.p (.int .u64 0)),(.p (.str (bs []))),.aC] []),⟨none,.store 11 (.t 4) (.t 17),none⟩,az 5 (kI 1)]
 .ret) .skip))
 (aj [a6 19 1 2,b7 20 5 19,af 21 1,bE 22 iK [(.t 20),(.t 21)],af 18 22,ak 23 (.extract (.t 18) 0),ak 24 (.extract (.t 18) 1),ak 6 (.init 5 true (.t 23) true),af 7 24]
 (.seq (aj [af 25 7,aE 26 .neq (.t 25) (kI 0)]
 (aN 26 (aj [ak 27 (.build [(.p (.int .i64 0)),(.p (.int .i64 0)),(.p (.int .i64 0)),(.p (.int .u64 0)),(.p (.str (bs []))),.aC,(.p (.int .i64 0)),(.p (.int .i64 0)),(.p (.int .u64 0)),(.p (.str (bs []))),.aC] []),af 28 7,⟨none,.store 11 (.t 4) (.t 27),none⟩,af 5 28]
 .ret) .skip))
 (aj [a6 29 6 2,b7 30 5 29,bE 31 iX [(.t 30)],ak 8 (.init 5 true (.t 31) false)]
 (.seq (aj [a6 32 0 2,a7 33 32,aE 34 .neq (.t 33) (kI 1)]
 (aN 34 (aj [a6 36 6 2,b7 37 5 36,af 38 1,bE 39 iK [(.t 37),(.t 38)],af 35 39,ak 40 (.extract (.t 35) 0),ak 41 (.extract (.t 35) 1),⟨none,.store 5 (.t 8) (.t 40),none⟩,af 7 41]
 (aj [af 42 7,aE 43 .neq (.t 42) (kI 0)]
 (aN 43 (aj [ak 44 (.build [(.p (.int .i64 0)),(.p (.int .i64 0)),(.p (.int .i64 0)),(.p (.int .u64 0)),(.p (.str (bs []))),.aC,(.p (.int .i64 0)),(.p (.int .i64 0)),(.p (.int .u64 0)),(.p (.str (bs []))),.aC] []),af 45 7,⟨none,.store 11 (.t 4) (.t 44),none⟩,af 5 45]
 .ret) .skip))) .skip))
 (aj [a6 46 0 2,a7 47 46,b7 48 5 6,b7 49 5 8,ak 50 (.build [(.p (.int .i64 0)),(.p (.int .i64 0)),(.p (.int .i64 0)),(.p (.int .u64 0)),(.p (.str (bs []))),.aC,(.p (.int .i64 0)),(.p (.int .i64 0)),(.p (.int .u64 0)),(.p (.str (bs []))),.aC] [(0,1,(.t 47)),(1,5,(.t 48)),(6,5,(.t 49))]),⟨none,.store 11 (.t 4) (.t 50),none⟩,az 5 (kI 0)]
 .ret))))))),false⟩
def wV:cL:=⟨18,[.cell 4 5 true,.tmp 5],
 (aj [ak 2 (.box 5 true (.t 0) true),ak 4 (.alloc oU 5),az 5 (kI 0)]
 (.seq (aj [af 6 1,aE 7 .lss (.t 6) (kI 1),af 8 7,⟨some 9,.mv (.t 1) false,some (8,false)⟩,⟨some 10,.arith .gtr (.t 9) (kI 64),some (8,false)⟩,ak 11 (.pick (.t 8) (.c (.p (.bool true))) (.t 10))]
 (aN 11 (aj [ak 12 (.build oU []),⟨none,.store 5 (.t 4) (.t 12),none⟩,az 5 (kI 2)]
 .ret) .skip))
 (aj [b7 13 5 2,af 14 1,bE 15 xi [(.t 13),(.t 14)],ak 16 (.extract (.t 15) 0),ak 17 (.extract (.t 15) 1),⟨none,.store 5 (.t 4) (.t 16),none⟩,af 5 17]
 .ret))),false⟩
def iF:K :=
 (.seq (aj [af 14 7,af 15 0,ak 16 (.bJ (.t 15)),aE 17 .lss (.t 14) (.t 16)]
 (aN 17 .skip (.exit 0)))
 (.seq (.block 1 (aj [af 20 0,af 21 7,ak 22 (.au 11 (.t 20) (.t 21)),b7 23 11 22,ak 8 (.init 11 true (.t 23) false)]
 (aj [a6 25 1 8,b7 26 5 25,af 27 1,bE 28 rq [(.t 26),(.t 27)],af 24 28,ak 29 (.extract (.t 24) 0),ak 30 (.extract (.t 24) 1),ak 9 (.init 5 true (.t 29) true),af 10 30]
 (.seq (aj [af 31 10,aE 32 .neq (.t 31) (kI 0)]
 (aN 32 (aj [af 33 10,az 4 (.c .aC),af 5 33]
 .ret) .skip))
 (aj [b7 34 5 9,a6 35 1 8,⟨none,.store 5 (.t 35) (.t 34),none⟩]
 (.seq (aj [a6 36 0 8,a7 37 36,aE 38 .neq (.t 37) (kI 1)]
 (aN 38 (aj [a6 40 6 8,b7 41 5 40,af 42 1,bE 43 rq [(.t 41),(.t 42)],af 39 43,ak 44 (.extract (.t 39) 0),ak 45 (.extract (.t 39) 1),ak 11 (.init 5 true (.t 44) true),af 12 45]
 (.seq (aj [af 46 12,aE 47 .neq (.t 46) (kI 0)]
 (aN 47 (aj [af 48 12,az 4 (.c .aC),af 5 48]
 .ret) .skip))
 (.cu false [b7 49 5 11,a6 50 6 8,⟨none,.store 5 (.t 50) (.t 49),none⟩]))) .skip))
 (.cu false [af 51 6,b7 52 11 8,ak 53 (.iU 11 [(.p (.int .i64 0)),(.p (.int .i64 0)),(.p (.int .i64 0)),(.p (.int .u64 0)),(.p (.str (bs []))),.aC,(.p (.int .i64 0)),(.p (.int .i64 0)),(.p (.int .u64 0)),(.p (.str (bs []))),.aC] 1 [(0,11,(.t 52))]),ak 54 (.append 11 136 (.t 51) (.t 53)),ak 6 (.mv (.t 54) true)])))))))
 (.cu false [af 18 7,aE 19 .add (.t 18) (kI 1),af 7 19])))
def oP:K:=.loop [0,1,6,7] iF
def qC:cL:=⟨56,[.tmp 4,.tmp 5],
 (aj [az 4 (.c .aC),az 5 (kI 0)]
 (aj [ak 13 (.dC 11 [(.p (.int .i64 0)),(.p (.int .i64 0)),(.p (.int .i64 0)),(.p (.int .u64 0)),(.p (.str (bs []))),.aC,(.p (.int .i64 0)),(.p (.int .i64 0)),(.p (.int .u64 0)),(.p (.str (bs []))),.aC] 0 []),ak 6 (.mv (.t 13) true)]
 (.seq (aj [az 7 (kI 0)]
 (.block 0 oP))
 (aj [af 55 6,af 4 55,az 5 (kI 0)]
 .ret)))),false⟩
def fT:K :=
 (.seq (aj [af 11 5,af 12 0,ak 13 (.bJ (.t 12)),aE 14 .lss (.t 11) (.t 13)]
 (aN 14 .skip (.exit 0)))
 (.seq (.block 1 (.seq (.cu true [af 17 0,af 18 5,ak 19 (.au 11 (.t 17) (.t 18)),a6 20 0 19,a7 21 20,af 22 1,af 23 5,ak 24 (.au 11 (.t 22) (.t 23)),a6 25 0 24,a7 26 25,aE 27 .neq (.t 21) (.t 26),af 28 27,⟨some 29,.mv (.t 0) false,some (28,false)⟩,⟨some 30,.mv (.t 5) false,some (28,false)⟩,⟨some 31,.au 11 (.t 29) (.t 30),some (28,false)⟩,⟨some 32,.bP 1 (.t 31),some (28,false)⟩,⟨some 33,.load 5 true (.t 32),some (28,false)⟩,⟨some 34,.mv (.t 1) false,some (28,false)⟩,⟨some 35,.mv (.t 5) false,some (28,false)⟩,⟨some 36,.au 11 (.t 34) (.t 35),some (28,false)⟩,⟨some 37,.bP 1 (.t 36),some (28,false)⟩,⟨some 38,.load 5 true (.t 37),some (28,false)⟩,⟨some 39,.dV jq [(.t 33),(.t 38)],some (28,false)⟩,⟨some 40,.not (.t 39),some (28,false)⟩,ak 41 (.pick (.t 28) (.c (.p (.bool true))) (.t 40)),af 42 41,⟨some 43,.mv (.t 0) false,some (42,false)⟩,⟨some 44,.mv (.t 5) false,some (42,false)⟩,⟨some 45,.au 11 (.t 43) (.t 44),some (42,false)⟩,⟨some 46,.bP 6 (.t 45),some (42,false)⟩,⟨some 47,.load 5 true (.t 46),some (42,false)⟩,⟨some 48,.mv (.t 1) false,some (42,false)⟩,⟨some 49,.mv (.t 5) false,some (42,false)⟩,⟨some 50,.au 11 (.t 48) (.t 49),some (42,false)⟩,⟨some 51,.bP 6 (.t 50),some (42,false)⟩,⟨some 52,.load 5 true (.t 51),some (42,false)⟩,⟨some 53,.dV jq [(.t 47),(.t 52)],some (42,false)⟩,⟨some 54,.not (.t 53),some (42,false)⟩,ak 55 (.pick (.t 42) (.c (.p (.bool true))) (.t 54))])
 (aN 55 (aj [az 4 (.c (.p (.bool false)))]
 .ret) .skip)))
 (.cu false [af 15 5,aE 16 .add (.t 15) (kI 1),af 5 16])))
def o8:K:=.loop [0,1,5] fT
def iq:cL:=⟨56,[.tmp 4],
 (aj [az 4 (.c (.p (.bool false)))]
 (.seq (aj [af 6 0,ak 7 (.bJ (.t 6)),af 8 1,ak 9 (.bJ (.t 8)),aE 10 .neq (.t 7) (.t 9)]
 (aN 10 (aj [az 4 (.c (.p (.bool false)))]
 .ret) .skip))
 (.seq (aj [az 5 (kI 0)]
 (.block 0 o8))
 (aj [az 4 (.c (.p (.bool true)))]
 .ret)))),false⟩
def bg:cL:=⟨9,[.tmp 4],
 (aj [az 4 (.c (.p (.bool false)))]
 (aj [af 5 0,af 6 1,bE 7 aQ [(.t 5),(.t 6)],aE 8 .geq (.t 7) (kI 0),af 4 8]
 .ret)),false⟩
def kj:K :=
 (aj [aE 12 .lss (.t 11) (.t 10)]
 (.seq (aN 12 .skip (.exit 0))
 (.seq (.block 1 (aj [ak 13 (.au 6 (.t 9) (.t 11)),b7 14 6 13,ak 5 (.init 6 true (.t 14) true)]
 (.cu false [af 15 3,a6 16 1 5,b7 17 5 16,ak 18 (.iU 5 oU 1 [(0,5,(.t 17))]),ak 19 (.append 5 64 (.t 15) (.t 18)),ak 3 (.mv (.t 19) true)])))
 (.cu false [aE 20 .add (.t 11) (kI 1),af 11 20]))))
def qJ:K:=.loop [1,3,9,10,11] kj
def il:K :=
 (aj [aE 30 .lss (.t 29) (.t 28)]
 (.seq (aN 30 .skip (.exit 2))
 (.seq (.block 3 (aj [ak 31 (.au 11 (.t 27) (.t 29)),b7 32 11 31,ak 7 (.init 11 true (.t 32) true)]
 (aj [af 33 3,a6 34 1 7,b7 35 5 34,ak 36 (.iU 5 oU 1 [(0,5,(.t 35))]),ak 37 (.append 5 64 (.t 33) (.t 36)),ak 3 (.mv (.t 37) true)]
 (aj [a6 38 0 7,a7 39 38,aE 40 .neq (.t 39) (kI 1)]
 (aN 40 (.cu false [af 41 3,a6 42 6 7,b7 43 5 42,ak 44 (.iU 5 oU 1 [(0,5,(.t 43))]),ak 45 (.append 5 64 (.t 41) (.t 44)),ak 3 (.mv (.t 45) true)]) .skip)))))
 (.cu false [aE 46 .add (.t 29) (kI 1),af 29 46]))))
def vj:K:=.loop [3,27,28,29] il
def oD:cL:=⟨48,[.tmp 2],
 (aj [ak 1 (.box 8 true (.t 0) true),az 2 (.c .aC)]
 (aj [ak 3 (.mv (.c .aC) true)]
 (.seq (aj [a6 8 1 1,a7 9 8,ak 10 (.bJ (.t 9)),az 11 (kI 0)]
 (.block 0 qJ))
 (aj [af 21 3,a6 22 2 1,b7 23 5 22,ak 24 (.iU 5 oU 1 [(0,5,(.t 23))]),ak 25 (.append 5 64 (.t 21) (.t 24)),ak 3 (.mv (.t 25) true)]
 (.seq (aj [a6 26 7 1,a7 27 26,ak 28 (.bJ (.t 27)),az 29 (kI 0)]
 (.block 2 vj))
 (aj [af 47 3,af 2 47]
 .ret)))))),false⟩
def ko:K :=
 (.cu false [ak 3 (.init 5 true (.t 6) true)])
def kq:K :=
 (.block 1 (aj [a6 7 1 3,a7 8 7,aE 9 .eql (.t 8) (kI 0)]
 (aN 9 (aj [⟨none,.store 1 (.t 2) (.c (.p (.bool true))),none⟩]
 .ret) .skip)))
def yS:K:=.range (.t 5) [6] [2] ko kq
def lD:cL:=⟨10,[.cell 2 1 false],
 (aj [ak 1 (.box 5 true (.t 0) true),ak 2 (.alloc [(.p (.bool false))] 1)]
 (.seq (aj [b7 4 5 1,bE 5 dq [(.t 4)]]
 (.block 0 yS))
 (aj [⟨none,.store 1 (.t 2) (.c (.p (.bool false))),none⟩]
 .ret))),false⟩
def lu:K :=
 (aj [aE 37 .lss (.t 36) (.t 35)]
 (.seq (aN 37 .skip (.exit 0))
 (.seq (.block 1 (aj [ak 38 (.au 5 (.t 34) (.t 36)),b7 39 5 38,ak 5 (.init 5 true (.t 39) true)]
 (.cu true [a6 40 4 3,a7 41 40,b7 42 5 5,bE 43 bR [(.t 42)],ak 44 (.dC 5 oU 1 [(0,5,(.t 43))]),ak 45 (.append 5 64 (.t 41) (.t 44)),a6 46 4 3,⟨none,.store 1 (.t 46) (.t 45),none⟩])))
 (.cu false [aE 47 .add (.t 36) (kI 1),af 36 47]))))
def pM:K:=.loop [2,3,34,35,36] lu
def gH:cL:=⟨49,[.cell 2 5 true],
 (aj [ak 1 (.box 5 true (.t 0) true),ak 2 (.alloc oU 5)]
 (.seq (aj [a6 6 0 1,a7 7 6,aE 8 .eql (.t 7) (kI 26),af 9 8,⟨some 10,.bP 4 (.t 1),some (9,true)⟩,⟨some 11,.load 1 false (.t 10),some (9,true)⟩,⟨some 12,.bJ (.t 11),some (9,true)⟩,⟨some 13,.arith .eql (.t 12) (kI 1),some (9,true)⟩,ak 14 (.pick (.t 9) (.t 13) (.c (.p (.bool false))))]
 (aN 14 (aj [a6 15 4 1,a7 16 15,ak 17 (.au 5 (.t 16) (kI 0)),b7 18 5 17,bE 19 bR [(.t 18)],⟨none,.store 5 (.t 2) (.t 19),none⟩]
 .ret) .skip))
 (aj [a6 20 0 1,a7 21 20,a6 22 1 1,a7 23 22,a6 24 2 1,a7 25 24,a6 26 3 1,a7 27 26,ak 28 (.build oU [(0,1,(.t 21)),(1,1,(.t 23)),(2,1,(.t 25)),(3,1,(.t 27))]),ak 3 (.init 5 true (.t 28) false)]
 (.seq (aj [a6 29 0 1,a7 30 29,bE 31 dr [(.t 30)]]
 (aN 31 (.cu false [a6 32 0 3,⟨none,.store 1 (.t 32) (kI 1),none⟩]) .skip))
 (.seq (aj [a6 33 4 1,a7 34 33,ak 35 (.bJ (.t 34)),az 36 (kI 0)]
 (.block 0 pM))
 (aj [b7 48 5 3,⟨none,.store 5 (.t 2) (.t 48),none⟩]
 .ret)))))),false⟩
def wY:cL:=⟨9,[.cell 2 5 true],
 (aj [ak 1 (.box 6 true (.t 0) true),ak 2 (.alloc oU 5)]
 (aj [a6 3 1 1,a6 4 1 3,a7 5 4,a6 6 0 1,a7 7 6,ak 8 (.build oU [(0,1,(kI 24)),(1,1,(.t 5)),(3,1,(.t 7))]),⟨none,.store 5 (.t 2) (.t 8),none⟩]
 .ret)),false⟩
def tH:cL:=⟨41,[.cell 2 5 true],
 (aj [ak 1 (.box 11 true (.t 0) true),ak 2 (.alloc oU 5)]
 (.seq (.Fy [a6 6 1 1,b7 7 5 6,bE 8 iX [(.t 7)],a6 9 6 1,b7 10 5 9,bE 11 iX [(.t 10)],ak 3 (.alloc oU 5),ak 4 (.alloc oU 5),⟨none,.store 5 (.t 3) (.t 8),none⟩,⟨none,.store 5 (.t 4) (.t 11),none⟩] [(6,7)])
 (.seq (aj [a6 12 0 1,a7 13 12]
 (.block 0 (aj [aE 15 .eql (.t 13) (kI 1),af 14 15]
 (aN 14 (aj [b7 16 5 3,⟨none,.store 5 (.t 2) (.t 16),none⟩]
 .ret) (aj [aE 18 .eql (.t 13) (kI 2),af 17 18]
 (aN 17 (aj [b7 19 5 3,b7 20 5 4,bE 21 j5 [(kI 16),(.t 19),(.t 20)],⟨none,.store 5 (.t 2) (.t 21),none⟩]
 .ret) (aj [aE 23 .eql (.t 13) (kI 3),af 22 23]
 (aN 22 (aj [a6 24 1 3,a7 25 24,b7 26 5 3,b7 27 5 4,ak 28 (.iU 5 oU 2 [(0,5,(.t 26)),(1,5,(.t 27))]),ak 29 (.build oU [(0,1,(kI 5)),(1,1,(.t 25)),(4,1,(.t 28))]),ak 5 (.init 5 true (.t 29) true)]
 (aj [b7 30 5 5,a6 31 1 3,a7 32 31,ak 33 (.build oU [(0,1,(kI 2)),(1,1,(.t 32))]),bE 34 j5 [(kI 16),(.t 30),(.t 33)],⟨none,.store 5 (.t 2) (.t 34),none⟩]
 .ret)) (aj [aE 36 .eql (.t 13) (kI 4),af 35 36]
 (aN 35 (aj [b7 37 5 3,b7 38 5 4,bE 39 j5 [(kI 17),(.t 37),(.t 38)],⟨none,.store 5 (.t 2) (.t 39),none⟩]
 .ret) .skip))))))))))
 (aj [ak 40 (.build oU []),⟨none,.store 5 (.t 2) (.t 40),none⟩]
 .ret)))),false⟩
def yP:cL:=⟨9,[.cell 2 5 true],
 (aj [ak 1 (.box 6 true (.t 0) true),ak 2 (.alloc oU 5)]
 (aj [a6 3 1 1,a6 4 1 3,a7 5 4,a6 6 0 1,a7 7 6,ak 8 (.build oU [(0,1,(kI 24)),(1,1,(.t 5)),(3,1,(.t 7))]),⟨none,.store 5 (.t 2) (.t 8),none⟩]
 .ret)),false⟩
def fD:K :=
 (aj [aE 55 .lss (.t 54) (.t 53)]
 (.seq (aN 55 .skip (.exit 2))
 (.seq (.block 3 (aj [ak 56 (.au 1 (.t 52) (.t 54)),a7 57 56,af 17 57]
 (aj [af 58 17,af 59 14,ak 60 (.au 1 (.t 58) (.t 59)),a7 61 60,aE 62 .neq (.t 61) (.c (.p (.int .u64 1)))]
 (aN 62 (.exit 1) .skip))))
 (.cu false [aE 63 .add (.t 54) (kI 1),af 54 63]))))
def qL:K:=.loop [6,7,8,12,13,14,15,52,53,54] fD
def fB:K :=
 (aj [af 14 48]
 (.cu false [af 15 49]))
def fC:K :=
 (.block 1 (.seq (aj [a7 50 12,a7 51 13,ak 52 (.MH 1 (.t 50) none (some (.t 51)) none),ak 53 (.bJ (.t 52)),az 54 (kI 0)]
 (.block 2 qL))
 (.seq (.cu true [a7 64 12,a7 65 13,ak 66 (.au 1 (.t 64) (.t 65)),a7 67 66,af 68 14,ak 69 (.au 1 (.t 67) (.t 68)),a7 70 69,a7 71 12,a7 72 13,aE 73 .add (.t 72) (kI 1),ak 74 (.au 1 (.t 71) (.t 73)),a7 75 74,af 76 14,ak 77 (.au 1 (.t 75) (.t 76)),a7 78 77,aE 79 .neq (.t 70) (.t 78)])
 (aN 79 (aj [af 80 15,ak 81 (.qT (.t 80) []),⟨none,.store 1 (.t 6) (.c (.p (.bool false))),none⟩,⟨none,.store 1 (.t 7) (.t 81),none⟩,⟨none,.store 1 (.t 8) (kI 0),none⟩]
 .ret) .skip))))
def Bc:K:=.range (.t 47) [48,49] [6,7,8,12,13] fB fC
def fp:cL:=⟨82,[.cell 6 1 false,.cell 7 1 false,.cell 8 1 false],
 (aj [ak 4 (.box 5 true (.t 1) true),ak 5 (.box 5 true (.t 2) true),ak 6 (.alloc [(.p (.bool false))] 1),ak 7 (.alloc [.aC] 1),ak 8 (.alloc [(.p (.int .i64 0))] 1)]
 (.seq .skip
 (.seq (.Fy [af 18 0,bE 19 dj [(.t 18)],b7 20 5 4,b7 21 5 5,ak 22 (.iU 5 oU 2 [(0,5,(.t 20)),(1,5,(.t 21))]),ak 23 (.append 5 64 (.t 19) (.t 22)),af 9 23] [(1,2),(1,3)])
 (aj [af 25 9,bE 26 kF [(.t 25)],af 24 26,ak 27 (.extract (.t 24) 0),ak 28 (.extract (.t 24) 1),af 10 27,af 11 28]
 (.seq (aj [af 29 11,aE 30 .neq (.t 29) (kI 0)]
 (aN 30 (aj [af 31 11,⟨none,.store 1 (.t 6) (.c (.p (.bool false))),none⟩,⟨none,.store 1 (.t 7) (.c .aC),none⟩,⟨none,.store 1 (.t 8) (.t 31),none⟩]
 .ret) .skip))
 (.seq (aj [a6 32 1 4,a7 33 32,a6 34 1 5,a7 35 34,aE 36 .neq (.t 33) (.t 35),af 37 36,⟨some 38,.mv (.t 0) false,some (37,false)⟩,⟨some 39,.dV aS [(.t 38),(.c (.p (.fn di [])))],some (37,false)⟩,ak 40 (.pick (.t 37) (.c (.p (.bool true))) (.t 39))]
 (aN 40 (aj [⟨none,.store 1 (.t 6) (.c (.p (.bool false))),none⟩,⟨none,.store 1 (.t 7) (.c .aC),none⟩,⟨none,.store 1 (.t 8) (kI 3),none⟩]
 .ret) .skip))
 (aj [af 41 10,af 42 9,bE 43 fE [(.t 41),(.t 42)],ak 12 (.init 1 false (.t 43) true)]
 (aj [af 44 0,ak 45 (.bJ (.t 44)),ak 13 (.init 1 false (.t 45) true)]
 (.seq .skip
 (.seq (aj [af 46 10,bE 47 ep [(.t 46)]]
 (.block 0 Bc))
 (aj [⟨none,.store 1 (.t 6) (.c (.p (.bool true))),none⟩,⟨none,.store 1 (.t 7) (.c .aC),none⟩,⟨none,.store 1 (.t 8) (kI 0),none⟩]
 .ret))))))))))),false⟩
def B0:K :=
 (aj [aE 10 .lss (.t 9) (.t 8)]
 (.seq (aN 10 .skip (.exit 0))
 (.seq (.block 1 (aj [af 11 9,af 6 11]
 (.cu false [af 12 5,af 13 1,af 14 6,bE 15 vB [(.t 13),(.t 14)],af 16 6,ak 17 (.conv .u64 (.t 16)),aE 18 .shl (.t 15) (.t 17),aE 19 .or (.t 12) (.t 18),af 5 19])))
 (.cu false [aE 20 .add (.t 9) (kI 1),af 9 20]))))
def Ge:K:=.loop [1,5,8,9] B0
def Ba:cL:=⟨22,[.tmp 4],
 (aj [az 4 (.c (.p (.int .u64 0)))]
 (aj [az 5 (.c (.p (.int .u64 0)))]
 (.seq (aj [af 7 0,bE 8 Ch [(.t 7)],az 9 (kI 0)]
 (.block 0 Ge))
 (aj [af 21 5,af 4 21]
 .ret)))),false⟩
def sB:K :=
 (.seq (aj [af 21 8,af 22 7,ak 23 (.bJ (.t 22)),aE 24 .lss (.t 21) (.t 23)]
 (aN 24 .skip (.exit 2)))
 (.seq (.block 3 (aj [af 27 7,af 28 8,ak 29 (.au 5 (.t 27) (.t 28)),a6 30 0 29,a7 31 30,af 32 0,aE 33 .eql (.t 31) (.t 32)]
 (aN 33 (.cu true [af 34 5,af 35 7,af 36 8,ak 37 (.au 5 (.t 35) (.t 36)),a6 38 3 37,a7 39 38,af 40 7,af 41 8,ak 42 (.au 5 (.t 40) (.t 41)),a6 43 1 42,a7 44 43,ak 45 (.build [(.p (.str (bs []))),(.p (.int .i64 0))] [(0,1,(.t 39)),(1,1,(.t 44))]),bE 46 oe [(.t 34),(.t 45)],af 5 46]) .skip)))
 (.cu false [af 25 8,aE 26 .add (.t 25) (kI 1),af 8 26])))
def Dp:K:=.loop [0,1,5,6,7,8] sB
def wJ:K :=
 (.seq (aj [af 10 6,af 11 1,ak 12 (.bJ (.t 11)),aE 13 .lss (.t 10) (.t 12)]
 (aN 13 .skip (.exit 0)))
 (.seq (.block 1 (aj [af 16 1,af 17 6,ak 18 (.au 5 (.t 16) (.t 17)),b7 19 5 18,bE 20 eB [(.t 19)],af 7 20]
 (aj [az 8 (kI 0)]
 (.block 2 Dp))))
 (.cu false [af 14 6,aE 15 .add (.t 14) (kI 1),af 6 15])))
def Dn:K:=.loop [0,1,5,6] wJ
def vd:cL:=⟨48,[.tmp 4],
 (aj [az 4 (.c .aC)]
 (aj [ak 9 (.dC 2 [(.p (.str (bs []))),(.p (.int .i64 0))] 0 []),af 5 9]
 (.seq (aj [az 6 (kI 0)]
 (.block 0 Dn))
 (aj [af 47 5,af 4 47]
 .ret)))),false⟩
def lG:cL:=⟨36,[.tmp 4],
 (aj [ak 2 (.box 5 true (.t 0) true),ak 3 (.box 5 true (.t 1) true),az 4 (.c (.p (.bool false)))]
 (.seq (aj [a6 5 0 2,a7 6 5,a6 7 0 3,a7 8 7,aE 9 .neq (.t 6) (.t 8),af 10 9,⟨some 11,.bP 1 (.t 2),some (10,false)⟩,⟨some 12,.load 1 false (.t 11),some (10,false)⟩,⟨some 13,.bP 1 (.t 3),some (10,false)⟩,⟨some 14,.load 1 false (.t 13),some (10,false)⟩,⟨some 15,.arith .neq (.t 12) (.t 14),some (10,false)⟩,ak 16 (.pick (.t 10) (.c (.p (.bool true))) (.t 15)),af 17 16,⟨some 18,.bP 2 (.t 2),some (17,false)⟩,⟨some 19,.load 1 false (.t 18),some (17,false)⟩,⟨some 20,.bP 2 (.t 3),some (17,false)⟩,⟨some 21,.load 1 false (.t 20),some (17,false)⟩,⟨some 22,.arith .neq (.t 19) (.t 21),some (17,false)⟩,ak 23 (.pick (.t 17) (.c (.p (.bool true))) (.t 22)),af 24 23,⟨some 25,.bP 3 (.t 2),some (24,false)⟩,⟨some 26,.load 1 false (.t 25),some (24,false)⟩,⟨some 27,.bP 3 (.t 3),some (24,false)⟩,⟨some 28,.load 1 false (.t 27),some (24,false)⟩,⟨some 29,.arith .neq (.t 26) (.t 28),some (24,false)⟩,ak 30 (.pick (.t 24) (.c (.p (.bool true))) (.t 29))]
 (aN 30 (aj [az 4 (.c (.p (.bool false)))]
 .ret) .skip))
 (aj [a6 31 4 2,a7 32 31,a6 33 4 3,a7 34 33,bE 35 aL [(.t 32),(.t 34),(.c (.p (.fn iY [])))],af 4 35]
 .ret))),false⟩
def oz:cL:=⟨5,[.tmp 2],
 (aj [az 2 (.c .aC)]
 (aj [af 3 0,bE 4 eo [(kI 24),(.t 3)],af 2 4]
 .ret)),false⟩
def q7:K :=
 (aj [aE 9 .lss (.t 8) (.t 7)]
 (.seq (aN 9 .skip (.exit 0))
 (.seq (.block 1 (aj [ak 10 (.au 6 (.t 6) (.t 8)),b7 11 6 10,ak 5 (.init 6 true (.t 11) true)]
 (.seq (aj [a6 12 0 5,a7 13 12,aE 14 .neq (.t 13) (.c (.p (.str (bs []))))]
 (aN 14 (.cu false [af 15 3,b7 16 6 5,bE 17 nJ [(.t 16)],ak 18 (.iU 5 oU 1 [(0,5,(.t 17))]),ak 19 (.append 5 64 (.t 15) (.t 18)),ak 3 (.mv (.t 19) true)]) .skip))
 (.cu false [af 20 3,a6 21 1 5,b7 22 5 21,ak 23 (.iU 5 oU 1 [(0,5,(.t 22))]),ak 24 (.append 5 64 (.t 20) (.t 23)),ak 3 (.mv (.t 24) true)]))))
 (.cu false [aE 25 .add (.t 8) (kI 1),af 8 25]))))
def AL:K:=.loop [3,6,7,8] q7
def tQ:cL:=⟨27,[.tmp 2],
 (aj [az 2 (.c .aC)]
 (aj [ak 3 (.mv (.c .aC) true)]
 (.seq (aj [af 6 0,ak 7 (.bJ (.t 6)),az 8 (kI 0)]
 (.block 0 AL))
 (aj [af 26 3,af 2 26]
 .ret)))),false⟩
def pA:cL:=⟨5,[.tmp 2],
 (aj [az 2 (.c .aC)]
 (aj [af 3 0,bE 4 eo [(kI 25),(.t 3)],af 2 4]
 .ret)),false⟩
def xV:K :=
 (aj [aE 12 .lss (.t 11) (.t 10)]
 (.seq (aN 12 .skip (.exit 0))
 (.seq (.block 1 (aj [ak 13 (.au 5 (.t 9) (.t 11)),b7 14 5 13,ak 5 (.init 5 true (.t 14) true)]
 (.cu true [a6 15 4 3,a7 16 15,b7 17 5 5,bE 18 iX [(.t 17)],ak 19 (.dC 5 oU 1 [(0,5,(.t 18))]),ak 20 (.append 5 64 (.t 16) (.t 19)),a6 21 4 3,⟨none,.store 1 (.t 21) (.t 20),none⟩])))
 (.cu false [aE 22 .add (.t 11) (kI 1),af 11 22]))))
def B5:K:=.loop [2,3,9,10,11] xV
def w5:cL:=⟨24,[.cell 2 5 true],
 (aj [ak 1 (.box 5 true (.t 0) true),ak 2 (.alloc oU 5)]
 (aj [b7 6 5 1,ak 3 (.init 5 true (.t 6) false)]
 (aj [a6 7 4 3,⟨none,.store 1 (.t 7) (.c .aC),none⟩]
 (.seq (aj [a6 8 4 1,a7 9 8,ak 10 (.bJ (.t 9)),az 11 (kI 0)]
 (.block 0 B5))
 (aj [b7 23 5 3,⟨none,.store 5 (.t 2) (.t 23),none⟩]
 .ret))))),false⟩
def tu:K :=
 (.seq (aj [af 16 7,a6 17 4 3,a7 18 17,ak 19 (.bJ (.t 18)),aE 20 .lss (.t 16) (.t 19),af 21 20,⟨some 22,.mv (.t 2) false,some (21,true)⟩,⟨some 23,.arith .geq (.t 22) (kI 0),some (21,true)⟩,ak 24 (.pick (.t 21) (.t 23) (.c (.p (.bool false))))]
 (aN 24 .skip (.exit 0)))
 (.seq (.block 1 (.cu false [a6 27 4 3,a7 28 27,af 29 7,ak 30 (.au 5 (.t 28) (.t 29)),b7 31 5 30,af 32 1,aE 33 .sub (.t 32) (kI 1),af 34 2,bE 35 nG [(.t 31),(.t 33),(.t 34)],af 2 35]))
 (.cu false [af 25 7,aE 26 .add (.t 25) (kI 1),af 7 26])))
def xY:K:=.loop [1,2,3,7] tu
def nz:cL:=⟨37,[.tmp 6],
 (aj [ak 3 (.box 5 true (.t 0) true),az 6 (kI 0)]
 (.seq (aj [af 8 1,aE 9 .lss (.t 8) (kI 1),af 10 9,⟨some 11,.mv (.t 2) false,some (10,false)⟩,⟨some 12,.arith .lss (.t 11) (kI 1),some (10,false)⟩,ak 13 (.pick (.t 10) (.c (.p (.bool true))) (.t 12))]
 (aN 13 (aj [az 6 (kI (-1))]
 .ret) .skip))
 (aj [af 14 2,aE 15 .sub (.t 14) (kI 1),af 2 15]
 (.seq (aj [az 7 (kI 0)]
 (.block 0 xY))
 (aj [af 36 2,af 6 36]
 .ret))))),false⟩
def ou:K :=
 (aj [aE 45 .lss (.t 44) (.t 43)]
 (.seq (aN 45 .skip (.exit 0))
 (.seq (.block 1 (aj [ak 46 (.au 5 (.t 42) (.t 44)),b7 47 5 46,ak 9 (.init 5 true (.t 47) true)]
 (aj [af 48 0,b7 49 5 9,bE 50 kJ [(.t 48),(.t 49)],ak 51 (.not (.t 50))]
 (aN 51 (aj [az 4 (.c (.p (.bool false)))]
 .ret) .skip))))
 (.cu false [aE 52 .add (.t 44) (kI 1),af 44 52]))))
def rI:K:=.loop [0,42,43,44] ou
def dI:cL:=⟨53,[.tmp 4],
 (aj [ak 3 (.box 5 true (.t 1) true),az 4 (.c (.p (.bool false)))]
 (.seq (aj [a6 10 0 3,a7 11 10,aE 12 .eql (.t 11) (kI 24),af 13 12,⟨some 14,.bP 0 (.t 3),some (13,false)⟩,⟨some 15,.load 1 false (.t 14),some (13,false)⟩,⟨some 16,.arith .eql (.t 15) (kI 25),some (13,false)⟩,ak 17 (.pick (.t 13) (.c (.p (.bool true))) (.t 16))]
 (aN 17 (aj [a6 18 0 3,a7 19 18,a6 20 1 3,a7 21 20,ak 22 (.build [(.p (.int .i64 0)),(.p (.int .i64 0))] [(0,1,(.t 19)),(1,1,(.t 21))]),ak 5 (.init 2 true (.t 22) true)]
 (aj [af 24 0,a6 25 3 3,a7 26 25,ak 27 (.lookup .str (.p (.agg [(.int .i64 0),(.int .i64 0)])) (.t 24) (.t 26) true),af 23 27,ak 28 (.extract (.t 23) 0),ak 29 (.extract (.t 23) 1),ak 6 (.init 2 true (.t 28) true),af 7 29]
 (aj [af 30 0,a6 31 3 3,a7 32 31,b7 33 2 5,⟨none,.UO .str (.t 30) (.t 32) (.t 33),none⟩]
 (aj [af 34 7,ak 35 (.not (.t 34)),af 36 35,⟨some 37,.load 2 true (.t 6),some (36,false)⟩,⟨some 38,.load 2 true (.t 5),some (36,false)⟩,⟨some 39,.eqA false [.int,.int] (.t 37) (.t 38),some (36,false)⟩,ak 40 (.pick (.t 36) (.c (.p (.bool true))) (.t 39)),af 4 40]
 .ret)))) .skip))
 (.seq (aj [a6 41 4 3,a7 42 41,ak 43 (.bJ (.t 42)),az 44 (kI 0)]
 (.block 0 rI))
 (aj [az 4 (.c (.p (.bool true)))]
 .ret)))),true⟩
def xW:K :=
 (aj [aE 10 .lss (.t 9) (.t 8)]
 (.seq (aN 10 .skip (.exit 0))
 (.seq (.block 1 (aj [ak 11 (.au 5 (.t 7) (.t 9)),b7 12 5 11,ak 5 (.init 5 true (.t 12) true)]
 (.cu false [af 13 3,b7 14 5 5,bE 15 nK [(.t 14)],aE 16 .add (.t 13) (.t 15),af 3 16])))
 (.cu false [aE 17 .add (.t 9) (kI 1),af 9 17]))))
def B6:K:=.loop [3,7,8,9] xW
def w6:cL:=⟨19,[.tmp 2],
 (aj [ak 1 (.box 5 true (.t 0) true),az 2 (kI 0)]
 (aj [az 3 (kI 1)]
 (.seq (aj [a6 6 4 1,a7 7 6,ak 8 (.bJ (.t 7)),az 9 (kI 0)]
 (.block 0 B6))
 (aj [af 18 3,af 2 18]
 .ret)))),false⟩
def wc:K :=
 (aj [aE 10 .lss (.t 9) (.t 8)]
 (.seq (aN 10 .skip (.exit 0))
 (.seq (.block 1 (aj [ak 11 (.au 5 (.t 7) (.t 9)),b7 12 5 11,ak 5 (.init 5 true (.t 12) true)]
 (.cu false [af 13 3,b7 14 5 5,bE 15 lT [(.t 14)],ak 16 (.sv true [(.t 13),(.t 15)]),af 3 16])))
 (.cu false [aE 17 .add (.t 9) (kI 1),af 9 17]))))
def AM:K:=.loop [3,7,8,9] wc
def tW:cL:=⟨20,[.tmp 2],
 (aj [ak 1 (.box 5 true (.t 0) true),az 2 (kI 0)]
 (aj [az 3 (kI 0)]
 (.seq (aj [a6 6 4 1,a7 7 6,ak 8 (.bJ (.t 7)),az 9 (kI 0)]
 (.block 0 AM))
 (aj [af 18 3,aE 19 .add (.t 18) (kI 1),af 2 19]
 .ret)))),false⟩
def mK:K :=
 (aj [aE 12 .lss (.t 11) (.t 10)]
 (.seq (aN 12 .skip (.exit 0))
 (.seq (.block 1 (aj [ak 13 (.au 5 (.t 9) (.t 11)),b7 14 5 13,ak 6 (.init 5 true (.t 14) true)]
 (aj [b7 15 5 6,af 16 1,bE 17 gR [(.t 15),(.t 16)],af 7 17]
 (aj [af 18 7,aE 19 .neq (.t 18) (kI 0)]
 (aN 19 (aj [af 20 7,af 4 20]
 .ret) .skip)))))
 (.cu false [aE 21 .add (.t 11) (kI 1),af 11 21]))))
def qF:K:=.loop [1,2,9,10,11] mK
def lg:cL:=⟨25,[.tmp 4],
 (aj [ak 2 (.box 5 true (.t 0) true),az 4 (kI 0)]
 (.seq (aj [a6 8 4 2,a7 9 8,ak 10 (.bJ (.t 9)),az 11 (kI 0)]
 (.block 0 qF))
 (aj [b7 22 5 2,af 23 1,bE 24 kH [(.t 22),(.t 23)],af 4 24]
 .ret))),false⟩
def kA:cL:=⟨4,[.tmp 2],
 (aj [ak 1 (.box 5 true (.t 0) true),az 2 (.c (.p .zc))]
 (aj [ak 3 (.zD b9 [(.t 1)]),af 2 3]
 .ret)),false⟩
def kB:cL:=⟨9,[.tmp 2],
 (aj [az 2 (.c (.p (.bool false)))]
 (aj [af 3 0,aE 4 .eql (.t 3) (kI 24),af 5 4,⟨some 6,.mv (.t 0) false,some (5,false)⟩,⟨some 7,.arith .eql (.t 6) (kI 25),some (5,false)⟩,ak 8 (.pick (.t 5) (.c (.p (.bool true))) (.t 7)),af 2 8]
 .ret)),false⟩
def cy:cL:=⟨9,[.tmp 4],
 (aj [ak 3 (.box 2 true (.t 1) true),az 4 (.c (.p (.bool false)))]
 (aj [af 5 0,b7 6 2 3,bE 7 bU [(.t 5),(.t 6)],aE 8 .geq (.t 7) (kI 0),af 4 8]
 .ret)),false⟩
def bS:cL:=⟨68,[.tmp 6],
 (aj [ak 3 (.box 11 true (.t 0) true),az 6 (kI 0)]
 (.seq (aj [b7 12 11 3,bE 13 n9 [(.t 12)],ak 14 (.not (.t 13))]
 (aN 14 (aj [az 6 (kI 1)]
 .ret) .skip))
 (.seq (aj [a6 15 1 3,b7 16 5 15,bE 17 eF [(.t 16),(.c (.p (.bool false)))],af 7 17]
 (aj [af 18 7,aE 19 .neq (.t 18) (kI 0)]
 (aN 19 (aj [af 20 7,af 6 20]
 .ret) .skip)))
 (.seq (aj [a6 21 0 3,a7 22 21,aE 23 .neq (.t 22) (kI 1)]
 (aN 23 (aj [a6 24 6 3,b7 25 5 24,bE 26 eF [(.t 25),(.c (.p (.bool false)))],af 8 26]
 (aj [af 27 8,aE 28 .neq (.t 27) (kI 0)]
 (aN 28 (aj [af 29 8,af 6 29]
 .ret) .skip))) .skip))
 (aj [af 30 1,af 31 1,af 9 30,af 10 31]
 (aj [a6 32 6 3,a6 33 1 32,a7 34 33,af 11 34]
 (.seq (aj [a6 35 0 3,a7 36 35]
 (.block 0 (aj [aE 38 .eql (.t 36) (kI 1),af 37 38]
 (aN 37 (.cu false [az 9 (.c .aC),az 10 (.c .aC),az 11 (kI 1)]) (.seq (aj [aE 40 .eql (.t 36) (kI 3),af 39 40]
 (aN 39 .skip (.cu false [aE 41 .eql (.t 36) (kI 4),af 39 41])))
 (aN 39 (.cu false [az 10 (.c .aC)]) .skip))))))
 (.seq (.block 1 (aj [a6 43 1 3,b7 44 5 43,af 45 9,af 46 2,bE 47 iV [(.t 44),(.t 45),(.t 46)],ak 48 (.not (.t 47)),af 49 48,⟨some 50,.bP 0 (.t 3),some (49,false)⟩,⟨some 51,.load 1 false (.t 50),some (49,false)⟩,⟨some 52,.arith .neq (.t 51) (kI 1),some (49,false)⟩,⟨some 53,.mv (.t 52) false,some (49,false)⟩,⟨some 54,.bP 6 (.t 3),some (53,true)⟩,⟨some 55,.load 5 true (.t 54),some (53,true)⟩,⟨some 56,.mv (.t 10) false,some (53,true)⟩,⟨some 57,.mv (.t 2) false,some (53,true)⟩,⟨some 58,.dV iV [(.t 55),(.t 56),(.t 57)],some (53,true)⟩,⟨some 59,.not (.t 58),some (53,true)⟩,⟨some 60,.pick (.t 53) (.t 59) (.c (.p (.bool false))),some (49,false)⟩,ak 61 (.pick (.t 49) (.c (.p (.bool true))) (.t 60)),af 42 61]
 (aN 42 (aj [az 6 (kI 12)]
 .ret) (aj [a6 63 1 3,a6 64 1 63,a7 65 64,af 66 11,aE 67 .neq (.t 65) (.t 66),af 62 67]
 (aN 62 (aj [az 6 (kI 3)]
 .ret) .skip)))))
 (aj [az 6 (kI 0)]
 .ret))))))))),false⟩
def jM:K :=
 (.seq (aj [af 11 4,af 12 3,aE 13 .lss (.t 11) (.t 12)]
 (aN 13 .skip (.exit 2)))
 (.seq (.block 3 (.seq (.cu true [af 16 0,af 17 3,ak 18 (.au 5 (.t 16) (.t 17)),a6 19 3 18,a7 20 19,af 21 0,af 22 4,ak 23 (.au 5 (.t 21) (.t 22)),a6 24 3 23,a7 25 24,aE 26 .eql (.t 20) (.t 25),af 27 26,⟨some 28,.mv (.t 0) false,some (27,true)⟩,⟨some 29,.mv (.t 3) false,some (27,true)⟩,⟨some 30,.au 5 (.t 28) (.t 29),some (27,true)⟩,⟨some 31,.bP 0 (.t 30),some (27,true)⟩,⟨some 32,.load 1 false (.t 31),some (27,true)⟩,⟨some 33,.mv (.t 0) false,some (27,true)⟩,⟨some 34,.mv (.t 4) false,some (27,true)⟩,⟨some 35,.au 5 (.t 33) (.t 34),some (27,true)⟩,⟨some 36,.bP 0 (.t 35),some (27,true)⟩,⟨some 37,.load 1 false (.t 36),some (27,true)⟩,⟨some 38,.arith .neq (.t 32) (.t 37),some (27,true)⟩,⟨some 39,.mv (.t 38) false,some (27,true)⟩,⟨some 40,.mv (.t 0) false,some (39,false)⟩,⟨some 41,.mv (.t 3) false,some (39,false)⟩,⟨some 42,.au 5 (.t 40) (.t 41),some (39,false)⟩,⟨some 43,.bP 1 (.t 42),some (39,false)⟩,⟨some 44,.load 1 false (.t 43),some (39,false)⟩,⟨some 45,.mv (.t 0) false,some (39,false)⟩,⟨some 46,.mv (.t 4) false,some (39,false)⟩,⟨some 47,.au 5 (.t 45) (.t 46),some (39,false)⟩,⟨some 48,.bP 1 (.t 47),some (39,false)⟩,⟨some 49,.load 1 false (.t 48),some (39,false)⟩,⟨some 50,.arith .neq (.t 44) (.t 49),some (39,false)⟩,⟨some 51,.pick (.t 39) (.c (.p (.bool true))) (.t 50),some (27,true)⟩,ak 52 (.pick (.t 27) (.t 51) (.c (.p (.bool false))))])
 (aN 52 (aj [az 2 (.c (.p (.bool true)))]
 .ret) .skip)))
 (.cu false [af 14 4,aE 15 .add (.t 14) (kI 1),af 4 15])))
def x8:K:=.loop [0,3,4] jM
def tz:K :=
 (.seq (aj [af 5 3,af 6 0,ak 7 (.bJ (.t 6)),aE 8 .lss (.t 5) (.t 7)]
 (aN 8 .skip (.exit 0)))
 (.seq (.block 1 (aj [az 4 (kI 0)]
 (.block 2 x8)))
 (.cu false [af 9 3,aE 10 .add (.t 9) (kI 1),af 3 10])))
def x5:K:=.loop [0,3] tz
def sL:cL:=⟨53,[.tmp 2],
 (aj [az 2 (.c (.p (.bool false)))]
 (.seq (aj [az 3 (kI 0)]
 (.block 0 x5))
 (aj [az 2 (.c (.p (.bool false)))]
 .ret))),false⟩
def eJ:K :=
 (.seq (aj [af 38 6,af 39 5,ak 40 (.bJ (.t 39)),aE 41 .lss (.t 38) (.t 40)]
 (aN 41 .skip (.exit 2)))
 (.seq (.block 3 (aj [af 44 5,af 45 6,ak 46 (.au 5 (.t 44) (.t 45)),a6 47 0 46,a7 48 47,aE 49 .eql (.t 48) (kI 24),af 50 49,⟨some 51,.mv (.t 5) false,some (50,false)⟩,⟨some 52,.mv (.t 6) false,some (50,false)⟩,⟨some 53,.au 5 (.t 51) (.t 52),some (50,false)⟩,⟨some 54,.bP 0 (.t 53),some (50,false)⟩,⟨some 55,.load 1 false (.t 54),some (50,false)⟩,⟨some 56,.arith .eql (.t 55) (kI 25),some (50,false)⟩,ak 57 (.pick (.t 50) (.c (.p (.bool true))) (.t 56))]
 (aN 57 (.cu false [af 58 3,af 59 5,af 60 6,ak 61 (.au 5 (.t 59) (.t 60)),b7 62 5 61,ak 63 (.iU 5 oU 1 [(0,5,(.t 62))]),ak 64 (.append 5 64 (.t 58) (.t 63)),ak 3 (.mv (.t 64) true)]) .skip)))
 (.cu false [af 42 6,aE 43 .add (.t 42) (kI 1),af 6 43])))
def vh:K:=.loop [1,3,4,5,6] eJ
def mM:K :=
 (.seq (aj [af 8 4,a6 9 1 1,a7 10 9,ak 11 (.bJ (.t 10)),aE 12 .lss (.t 8) (.t 11)]
 (aN 12 .skip (.exit 0)))
 (.seq (.block 1 (.seq (aj [a6 15 1 1,a7 16 15,af 17 4,ak 18 (.au 6 (.t 16) (.t 17)),a6 19 0 18,a7 20 19,aE 21 .neq (.t 20) (.c (.p (.str (bs []))))]
 (aN 21 (.cu false [af 22 3,a6 23 1 1,a7 24 23,af 25 4,ak 26 (.au 6 (.t 24) (.t 25)),b7 27 6 26,bE 28 qk [(.t 27)],ak 29 (.iU 5 oU 1 [(0,5,(.t 28))]),ak 30 (.append 5 64 (.t 22) (.t 29)),ak 3 (.mv (.t 30) true)]) .skip))
 (aj [a6 31 1 1,a7 32 31,af 33 4,ak 34 (.au 6 (.t 32) (.t 33)),a6 35 1 34,b7 36 5 35,bE 37 eB [(.t 36)],af 5 37]
 (aj [az 6 (kI 0)]
 (.block 2 vh)))))
 (.cu false [af 13 4,aE 14 .add (.t 13) (kI 1),af 4 14])))
def vf:K:=.loop [1,3,4] mM
def oB:cL:=⟨66,[.tmp 2],
 (aj [ak 1 (.box 8 true (.t 0) true),az 2 (.c .aC)]
 (aj [ak 7 (.dC 5 oU 0 []),ak 3 (.mv (.t 7) true)]
 (.seq (aj [az 4 (kI 0)]
 (.block 0 vf))
 (aj [af 65 3,af 2 65]
 .ret)))),false⟩
def wU:cL:=⟨9,[.tmp 4],
 (aj [ak 2 (.box 5 true (.t 0) true),az 4 (.c (.p (.bool false)))]
 (aj [b7 5 5 2,af 6 1,bE 7 qd [(.t 5),(.t 6)],aE 8 .geq (.t 7) (kI 0),af 4 8]
 .ret)),false⟩
def wG:K :=
 (.seq (aj [af 8 5,a6 9 4 2,a7 10 9,ak 11 (.bJ (.t 10)),aE 12 .lss (.t 8) (.t 11)]
 (aN 12 .skip (.exit 0)))
 (.seq (.block 1 (aj [a6 15 4 2,a7 16 15,af 17 5,ak 18 (.au 5 (.t 16) (.t 17)),b7 19 5 18,af 20 1,aE 21 .sub (.t 20) (kI 1),bE 22 p9 [(.t 19),(.t 21)]]
 (aN 22 (aj [az 4 (.c (.p (.bool true)))]
 .ret) .skip)))
 (.cu false [af 13 5,aE 14 .add (.t 13) (kI 1),af 5 14])))
def zN:K:=.loop [1,2,5] wG
def rW:cL:=⟨23,[.tmp 4],
 (aj [ak 2 (.box 5 true (.t 0) true),az 4 (.c (.p (.bool false)))]
 (.seq (aj [af 6 1,aE 7 .lss (.t 6) (kI 1)]
 (aN 7 (aj [az 4 (.c (.p (.bool true)))]
 .ret) .skip))
 (.seq (aj [az 5 (kI 0)]
 (.block 0 zN))
 (aj [az 4 (.c (.p (.bool false)))]
 .ret)))),false⟩
def qy:K :=
 (.seq (aj [af 6 4,a6 7 4 1,a7 8 7,ak 9 (.bJ (.t 8)),aE 10 .lss (.t 6) (.t 9)]
 (aN 10 .skip (.exit 0)))
 (.seq (.block 1 (.cu false [af 13 3,a6 14 4 1,a7 15 14,af 16 4,ak 17 (.au 5 (.t 15) (.t 16)),b7 18 5 17,bE 19 fu [(.t 18)],ak 20 (.append 5 64 (.t 13) (.t 19)),ak 3 (.mv (.t 20) true)]))
 (.cu false [af 11 4,aE 12 .add (.t 11) (kI 1),af 4 12])))
def ve:K:=.loop [1,3,4] qy
def oA:cL:=⟨26,[.tmp 2],
 (aj [ak 1 (.box 5 true (.t 0) true),az 2 (.c .aC)]
 (aj [ak 5 (.dC 5 oU 0 []),ak 3 (.mv (.t 5) true)]
 (.seq (aj [az 4 (kI 0)]
 (.block 0 ve))
 (aj [af 21 3,b7 22 5 1,ak 23 (.dC 5 oU 1 [(0,5,(.t 22))]),ak 24 (.append 5 64 (.t 21) (.t 23)),ak 3 (.mv (.t 24) true)]
 (aj [af 25 3,af 2 25]
 .ret))))),false⟩
def zK:K :=
 (.seq (aj [af 95 8,af 96 7,ak 97 (.bJ (.t 96)),aE 98 .lss (.t 95) (.t 97)]
 (aN 98 .skip (.exit 0)))
 (.seq (.block 1 (aj [af 101 7,af 102 8,ak 103 (.au 5 (.t 101) (.t 102)),a6 104 0 103,a7 105 104,aE 106 .eql (.t 105) (kI 24),af 107 106,⟨some 108,.mv (.t 7) false,some (107,false)⟩,⟨some 109,.mv (.t 8) false,some (107,false)⟩,⟨some 110,.au 5 (.t 108) (.t 109),some (107,false)⟩,⟨some 111,.bP 0 (.t 110),some (107,false)⟩,⟨some 112,.load 1 false (.t 111),some (107,false)⟩,⟨some 113,.arith .eql (.t 112) (kI 26),some (107,false)⟩,ak 114 (.pick (.t 107) (.c (.p (.bool true))) (.t 113))]
 (aN 114 (aj [az 4 (kI 12)]
 .ret) .skip)))
 (.cu false [af 99 8,aE 100 .add (.t 99) (kI 1),af 8 100])))
def zQ:K:=.loop [7,8] zK
def cH:cL:=⟨115,[.tmp 4],
 (aj [ak 2 (.box 5 true (.t 0) true),az 4 (kI 0)]
 (.seq (.seq (.cu true [a6 9 0 2,a7 10 9,bE 11 j7 [(.t 10)],aE 12 .lss (.t 11) (kI 0),af 13 12,⟨some 14,.bP 0 (.t 2),some (13,false)⟩,⟨some 15,.load 1 false (.t 14),some (13,false)⟩,⟨some 16,.arith .eql (.t 15) (kI 1),some (13,false)⟩,ak 17 (.pick (.t 13) (.c (.p (.bool true))) (.t 16)),af 18 17,⟨some 19,.bP 0 (.t 2),some (18,false)⟩,⟨some 20,.load 1 false (.t 19),some (18,false)⟩,⟨some 21,.arith .eql (.t 20) (kI 26),some (18,false)⟩,⟨some 22,.mv (.t 21) false,some (18,false)⟩,⟨some 23,.mv (.t 1) false,some (22,true)⟩,⟨some 24,.not (.t 23),some (22,true)⟩,⟨some 25,.pick (.t 22) (.t 24) (.c (.p (.bool false))),some (18,false)⟩,ak 26 (.pick (.t 18) (.c (.p (.bool true))) (.t 25)),af 27 26,⟨some 28,.bP 4 (.t 2),some (27,false)⟩,⟨some 29,.load 1 false (.t 28),some (27,false)⟩,⟨some 30,.bJ (.t 29),some (27,false)⟩,⟨some 31,.bP 0 (.t 2),some (27,false)⟩,⟨some 32,.load 1 false (.t 31),some (27,false)⟩,⟨some 33,.dV j7 [(.t 32)],some (27,false)⟩,⟨some 34,.arith .neq (.t 30) (.t 33),some (27,false)⟩,ak 35 (.pick (.t 27) (.c (.p (.bool true))) (.t 34))])
 (aN 35 (aj [az 4 (kI 4)]
 .ret) .skip))
 (.seq (aj [b7 36 5 2,bE 37 ff [(.t 36)],ak 38 (.not (.t 37)),af 39 38,⟨some 40,.bP 3 (.t 2),some (39,true)⟩,⟨some 41,.load 1 false (.t 40),some (39,true)⟩,⟨some 42,.arith .neq (.t 41) (.c (.p (.str (bs [])))),some (39,true)⟩,ak 43 (.pick (.t 39) (.t 42) (.c (.p (.bool false)))),af 44 43,⟨some 45,.bP 0 (.t 2),some (44,false)⟩,⟨some 46,.load 1 false (.t 45),some (44,false)⟩,⟨some 47,.arith .neq (.t 46) (kI 2),some (44,false)⟩,⟨some 48,.mv (.t 47) false,some (44,false)⟩,⟨some 49,.bP 0 (.t 2),some (48,true)⟩,⟨some 50,.load 1 false (.t 49),some (48,true)⟩,⟨some 51,.arith .neq (.t 50) (kI 21),some (48,true)⟩,⟨some 52,.pick (.t 48) (.t 51) (.c (.p (.bool false))),some (44,false)⟩,⟨some 53,.mv (.t 52) false,some (44,false)⟩,⟨some 54,.bP 2 (.t 2),some (53,true)⟩,⟨some 55,.load 1 false (.t 54),some (53,true)⟩,⟨some 56,.arith .neq (.t 55) (.c (.p (.int .u64 0))),some (53,true)⟩,⟨some 57,.pick (.t 53) (.t 56) (.c (.p (.bool false))),some (44,false)⟩,ak 58 (.pick (.t 44) (.c (.p (.bool true))) (.t 57))]
 (aN 58 (aj [az 4 (kI 4)]
 .ret) .skip))
 (.seq (aj [b7 59 5 2,bE 60 ff [(.t 59)],af 61 60,⟨some 62,.bP 3 (.t 2),some (61,true)⟩,⟨some 63,.load 1 false (.t 62),some (61,true)⟩,⟨some 64,.dV od [(.t 63)],some (61,true)⟩,⟨some 65,.not (.t 64),some (61,true)⟩,ak 66 (.pick (.t 61) (.t 65) (.c (.p (.bool false))))]
 (aN 66 (aj [az 4 (kI 5)]
 .ret) .skip))
 (.seq (.cu true [a6 68 0 2,a7 69 68,a6 70 1 2,a7 71 70,a6 72 2 2,a7 73 72,b7 74 5 2,bE 75 lP [(.t 74)],bE 76 nF [(.t 69),(.t 71),(.t 73),(.t 75)],af 67 76,ak 77 (.extract (.t 67) 0),ak 78 (.extract (.t 67) 1),af 5 77,af 6 78])
 (.seq (aj [af 79 6,aE 80 .neq (.t 79) (kI 0),af 81 80,⟨some 82,.mv (.t 5) false,some (81,false)⟩,⟨some 83,.bP 1 (.t 2),some (81,false)⟩,⟨some 84,.load 1 false (.t 83),some (81,false)⟩,⟨some 85,.arith .neq (.t 82) (.t 84),some (81,false)⟩,ak 86 (.pick (.t 81) (.c (.p (.bool true))) (.t 85))]
 (aN 86 (aj [az 4 (kI 3)]
 .ret) .skip))
 (.seq (aj [a6 87 0 2,a7 88 87,aE 89 .neq (.t 88) (kI 26)]
 (aN 89 (aj [az 4 (kI 0)]
 .ret) .skip))
 (aj [a6 90 4 2,a7 91 90,ak 92 (.au 5 (.t 91) (kI 0)),b7 93 5 92,bE 94 fu [(.t 93)],af 7 94]
 (.seq (aj [az 8 (kI 0)]
 (.block 0 zQ))
 (aj [az 4 (kI 0)]
 .ret)))))))))),false⟩
def qA:K :=
 (.seq (aj [af 24 8,af 25 6,aE 26 .lss (.t 24) (.t 25)]
 (aN 26 .skip (.exit 2)))
 (.seq (.block 3 (.seq (.cu true [af 29 4,af 30 8,ak 31 (.au 5 (.t 29) (.t 30)),b7 32 5 31,bE 33 ff [(.t 32)],af 34 33,⟨some 35,.mv (.t 4) false,some (34,true)⟩,⟨some 36,.mv (.t 8) false,some (34,true)⟩,⟨some 37,.au 5 (.t 35) (.t 36),some (34,true)⟩,⟨some 38,.bP 3 (.t 37),some (34,true)⟩,⟨some 39,.load 1 false (.t 38),some (34,true)⟩,⟨some 40,.mv (.t 4) false,some (34,true)⟩,⟨some 41,.mv (.t 6) false,some (34,true)⟩,⟨some 42,.au 5 (.t 40) (.t 41),some (34,true)⟩,⟨some 43,.bP 3 (.t 42),some (34,true)⟩,⟨some 44,.load 1 false (.t 43),some (34,true)⟩,⟨some 45,.arith .eql (.t 39) (.t 44),some (34,true)⟩,ak 46 (.pick (.t 34) (.t 45) (.c (.p (.bool false))))])
 (aN 46 (aj [az 7 (.c (.p (.bool true)))]
 (.seq (.cu true [af 47 4,af 48 8,ak 49 (.au 5 (.t 47) (.t 48)),a6 50 1 49,a7 51 50,af 52 4,af 53 6,ak 54 (.au 5 (.t 52) (.t 53)),a6 55 1 54,a7 56 55,aE 57 .neq (.t 51) (.t 56),af 58 57,⟨some 59,.mv (.t 4) false,some (58,false)⟩,⟨some 60,.mv (.t 8) false,some (58,false)⟩,⟨some 61,.au 5 (.t 59) (.t 60),some (58,false)⟩,⟨some 62,.bP 0 (.t 61),some (58,false)⟩,⟨some 63,.load 1 false (.t 62),some (58,false)⟩,⟨some 64,.mv (.t 4) false,some (58,false)⟩,⟨some 65,.mv (.t 6) false,some (58,false)⟩,⟨some 66,.au 5 (.t 64) (.t 65),some (58,false)⟩,⟨some 67,.bP 0 (.t 66),some (58,false)⟩,⟨some 68,.load 1 false (.t 67),some (58,false)⟩,⟨some 69,.arith .neq (.t 63) (.t 68),some (58,false)⟩,ak 70 (.pick (.t 58) (.c (.p (.bool true))) (.t 69))])
 (aN 70 (aj [az 2 (.c .aC),az 3 (.c (.p (.bool false)))]
 .ret) .skip))) .skip)))
 (.cu false [af 27 8,aE 28 .add (.t 27) (kI 1),af 8 28])))
def uc:K:=.loop [4,5,6,7,8] qA
def nO:K :=
 (.seq (aj [af 12 6,af 13 4,ak 14 (.bJ (.t 13)),aE 15 .lss (.t 12) (.t 14)]
 (aN 15 .skip (.exit 0)))
 (.seq (.block 1 (.seq (aj [af 18 4,af 19 6,ak 20 (.au 5 (.t 18) (.t 19)),b7 21 5 20,bE 22 ff [(.t 21)],ak 23 (.not (.t 22))]
 (aN 23 (.exit 1) .skip))
 (aj [az 7 (.c (.p (.bool false)))]
 (.seq (aj [az 8 (kI 0)]
 (.block 2 uc))
 (aj [af 71 7,ak 72 (.not (.t 71))]
 (aN 72 (.cu false [af 73 5,af 74 4,af 75 6,ak 76 (.au 5 (.t 74) (.t 75)),a6 77 3 76,a7 78 77,ak 79 (.dC 1 [(.p (.str (bs [])))] 1 [(0,1,(.t 78))]),ak 80 (.append 1 16 (.t 73) (.t 79)),ak 5 (.mv (.t 80) true)]) .skip))))))
 (.cu false [af 16 6,aE 17 .add (.t 16) (kI 1),af 6 17])))
def qH:K:=.loop [4,5,6] nO
def sG:cL:=⟨82,[.tmp 2,.tmp 3],
 (aj [ak 1 (.box 5 true (.t 0) true),az 2 (.c .aC),az 3 (.c (.p (.bool false)))]
 (aj [b7 9 5 1,bE 10 eB [(.t 9)],af 4 10]
 (aj [ak 11 (.dC 1 [(.p (.str (bs [])))] 0 []),ak 5 (.mv (.t 11) true)]
 (.seq (aj [az 6 (kI 0)]
 (.block 0 qH))
 (aj [af 81 5,af 2 81,az 3 (.c (.p (.bool true)))]
 .ret))))),false⟩
def rD:K :=
 (.seq (aj [af 7 4,a6 8 4 1,a7 9 8,ak 10 (.bJ (.t 9)),aE 11 .lss (.t 7) (.t 10)]
 (aN 11 .skip (.exit 0)))
 (.seq (.block 1 (.cu false [af 14 3,a6 15 4 1,a7 16 15,af 17 4,ak 18 (.au 5 (.t 16) (.t 17)),b7 19 5 18,bE 20 eB [(.t 19)],ak 21 (.append 5 64 (.t 14) (.t 20)),ak 3 (.mv (.t 21) true)]))
 (.cu false [af 12 4,aE 13 .add (.t 12) (kI 1),af 4 13])))
def xx:K:=.loop [1,3,4] rD
def pC:cL:=⟨23,[.tmp 2],
 (aj [ak 1 (.box 5 true (.t 0) true),az 2 (.c .aC)]
 (aj [b7 5 5 1,ak 6 (.dC 5 oU 1 [(0,5,(.t 5))]),ak 3 (.mv (.t 6) true)]
 (.seq (aj [az 4 (kI 0)]
 (.block 0 xx))
 (aj [af 22 3,af 2 22]
 .ret)))),false⟩
def u6:K :=
 (.seq (aj [af 8 7,af 9 0,ak 10 (.bJ (.t 9)),aE 11 .lss (.t 8) (.t 10)]
 (aN 11 .skip (.exit 0)))
 (.seq (.block 1 (aj [af 14 0,af 15 7,ak 16 (.au 2 (.t 14) (.t 15)),a6 17 0 16,a7 18 17,af 19 1,aE 20 .eql (.t 18) (.t 19),af 21 20,⟨some 22,.mv (.t 0) false,some (21,true)⟩,⟨some 23,.mv (.t 7) false,some (21,true)⟩,⟨some 24,.au 2 (.t 22) (.t 23),some (21,true)⟩,⟨some 25,.bP 1 (.t 24),some (21,true)⟩,⟨some 26,.load 1 false (.t 25),some (21,true)⟩,⟨some 27,.mv (.t 2) false,some (21,true)⟩,⟨some 28,.arith .eql (.t 26) (.t 27),some (21,true)⟩,ak 29 (.pick (.t 21) (.t 28) (.c (.p (.bool false))))]
 (aN 29 (aj [az 6 (.c (.p (.bool true)))]
 .ret) .skip)))
 (.cu false [af 12 7,aE 13 .add (.t 12) (kI 1),af 7 13])))
def B3:K:=.loop [0,1,2,7] u6
def yq:cL:=⟨30,[.tmp 6],
 (aj [az 6 (.c (.p (.bool false)))]
 (.seq (aj [az 7 (kI 0)]
 (.block 0 B3))
 (aj [az 6 (.c (.p (.bool false)))]
 .ret))),false⟩
def me:cL:=⟨27,[.tmp 2],
 (aj [ak 1 (.box 5 true (.t 0) true),az 2 (.c (.p (.bool false)))]
 (aj [a6 3 0 1,a7 4 3,aE 5 .eql (.t 4) (kI 0),af 6 5,⟨some 7,.bP 1 (.t 1),some (6,true)⟩,⟨some 8,.load 1 false (.t 7),some (6,true)⟩,⟨some 9,.arith .eql (.t 8) (kI 0),some (6,true)⟩,ak 10 (.pick (.t 6) (.t 9) (.c (.p (.bool false)))),af 11 10,⟨some 12,.bP 2 (.t 1),some (11,true)⟩,⟨some 13,.load 1 false (.t 12),some (11,true)⟩,⟨some 14,.arith .eql (.t 13) (.c (.p (.int .u64 0))),some (11,true)⟩,ak 15 (.pick (.t 11) (.t 14) (.c (.p (.bool false)))),af 16 15,⟨some 17,.bP 3 (.t 1),some (16,true)⟩,⟨some 18,.load 1 false (.t 17),some (16,true)⟩,⟨some 19,.arith .eql (.t 18) (.c (.p (.str (bs [])))),some (16,true)⟩,ak 20 (.pick (.t 16) (.t 19) (.c (.p (.bool false)))),af 21 20,⟨some 22,.bP 4 (.t 1),some (21,true)⟩,⟨some 23,.load 1 false (.t 22),some (21,true)⟩,⟨some 24,.bJ (.t 23),some (21,true)⟩,⟨some 25,.arith .eql (.t 24) (kI 0),some (21,true)⟩,ak 26 (.pick (.t 21) (.t 25) (.c (.p (.bool false)))),af 2 26]
 .ret)),false⟩
def q5:K :=
 (aj [aE 44 .lss (.t 43) (.t 42)]
 (.seq (aN 44 .skip (.exit 0))
 (.seq (.block 1 (aj [ak 45 (.au 5 (.t 41) (.t 43)),b7 46 5 45,ak 8 (.init 5 true (.t 46) true)]
 (aj [b7 48 5 8,af 49 1,bE 50 lN [(.t 48),(.t 49)],af 47 50,ak 51 (.extract (.t 47) 0),ak 52 (.extract (.t 47) 1),ak 9 (.init 5 true (.t 51) true),af 10 52]
 (.seq (aj [af 53 10,ak 54 (.not (.t 53))]
 (aN 54 (aj [ak 55 (.build oU []),⟨none,.store 5 (.t 4) (.t 55),none⟩,az 5 (.c (.p (.bool false)))]
 .ret) .skip))
 (.cu false [a6 56 4 6,a7 57 56,b7 58 5 9,ak 59 (.dC 5 oU 1 [(0,5,(.t 58))]),ak 60 (.append 5 64 (.t 57) (.t 59)),a6 61 4 6,⟨none,.store 1 (.t 61) (.t 60),none⟩])))))
 (.cu false [aE 62 .add (.t 43) (kI 1),af 43 62]))))
def we:K:=.loop [1,2,4,6,41,42,43] q5
def jN:cL:=⟨81,[.cell 4 5 true,.tmp 5],
 (aj [ak 2 (.box 5 true (.t 0) true),ak 4 (.alloc oU 5),az 5 (.c (.p (.bool false)))]
 (aj [a6 13 0 2,a7 14 13,a6 15 1 2,a7 16 15,a6 17 2 2,a7 18 17,a6 19 3 2,a7 20 19,ak 21 (.build oU [(0,1,(.t 14)),(1,1,(.t 16)),(2,1,(.t 18)),(3,1,(.t 20))]),ak 6 (.init 5 true (.t 21) false)]
 (.seq (aj [a6 22 4 2,a7 23 22,ak 24 (.bJ (.t 23)),aE 25 .eql (.t 24) (kI 0)]
 (aN 25 (.seq (aj [a6 26 1 2,a7 27 26,aE 28 .eql (.t 27) (kI 0)]
 (aN 28 (aj [af 29 1,a6 30 1 6,⟨none,.store 1 (.t 30) (.t 29),none⟩]
 (aj [a6 31 0 2,a7 32 31,aE 33 .eql (.t 32) (kI 2)]
 (aN 33 (.cu false [af 34 1,a6 35 2 2,a7 36 35,bE 37 bN [(.t 34),(.t 36)],a6 38 2 6,⟨none,.store 1 (.t 38) (.t 37),none⟩]) .skip))) .skip))
 (aj [b7 39 5 6,⟨none,.store 5 (.t 4) (.t 39),none⟩,az 5 (.c (.p (.bool true)))]
 .ret)) .skip))
 (.seq (aj [a6 40 4 2,a7 41 40,ak 42 (.bJ (.t 41)),az 43 (kI 0)]
 (.block 0 we))
 (.seq (.cu true [a6 64 0 2,a7 65 64,a6 66 1 2,a7 67 66,a6 68 2 2,a7 69 68,a6 70 4 6,a7 71 70,bE 72 fF [(.t 71)],bE 73 gi [(.t 65),(.t 67),(.t 69),(.t 72)],af 63 73,ak 74 (.extract (.t 63) 0),ak 75 (.extract (.t 63) 1),af 11 74,af 12 75])
 (aj [af 76 11,a6 77 1 6,⟨none,.store 1 (.t 77) (.t 76),none⟩]
 (aj [b7 78 5 6,af 79 12,aE 80 .eql (.t 79) (kI 0),⟨none,.store 5 (.t 4) (.t 78),none⟩,af 5 80]
 .ret))))))),false⟩
def A6:K :=
 (.seq (aj [af 32 7,a6 33 4 2,a7 34 33,ak 35 (.bJ (.t 34)),aE 36 .lss (.t 32) (.t 35)]
 (aN 36 .skip (.exit 0)))
 (.seq (.block 1 (aj [a6 40 4 2,a7 41 40,af 42 7,ak 43 (.au 5 (.t 41) (.t 42)),b7 44 5 43,af 45 1,bE 46 xi [(.t 44),(.t 45)],af 39 46,ak 47 (.extract (.t 39) 0),ak 48 (.extract (.t 39) 1),ak 8 (.init 5 true (.t 47) true),af 9 48]
 (.seq (aj [af 49 9,aE 50 .neq (.t 49) (kI 0)]
 (aN 50 (aj [ak 51 (.build oU []),af 52 9,⟨none,.store 5 (.t 4) (.t 51),none⟩,af 5 52]
 .ret) .skip))
 (.cu false [a6 53 4 6,a7 54 53,b7 55 5 8,ak 56 (.dC 5 oU 1 [(0,5,(.t 55))]),ak 57 (.append 5 64 (.t 54) (.t 56)),a6 58 4 6,⟨none,.store 1 (.t 58) (.t 57),none⟩]))))
 (.cu false [af 37 7,aE 38 .add (.t 37) (kI 1),af 7 38])))
def EY:K:=.loop [1,2,4,6,7] A6
def rj:cL:=⟨77,[.cell 4 5 true,.tmp 5],
 (aj [ak 2 (.box 5 true (.t 0) true),ak 4 (.alloc oU 5),az 5 (kI 0)]
 (aj [b7 12 5 2,ak 6 (.init 5 true (.t 12) false)]
 (aj [a6 13 4 6,⟨none,.store 1 (.t 13) (.c .aC),none⟩]
 (.seq (aj [a6 14 4 2,a7 15 14,ak 16 (.bJ (.t 15)),aE 17 .eql (.t 16) (kI 0)]
 (aN 17 (.seq (aj [a6 18 1 2,a7 19 18,aE 20 .eql (.t 19) (kI 0)]
 (aN 20 (aj [af 21 1,a6 22 1 6,⟨none,.store 1 (.t 22) (.t 21),none⟩]
 (aj [a6 23 0 2,a7 24 23,aE 25 .eql (.t 24) (kI 2)]
 (aN 25 (.cu false [af 26 1,a6 27 2 2,a7 28 27,bE 29 vC [(.t 26),(.t 28)],a6 30 2 6,⟨none,.store 1 (.t 30) (.t 29),none⟩]) .skip))) .skip))
 (aj [b7 31 5 6,⟨none,.store 5 (.t 4) (.t 31),none⟩,az 5 (kI 0)]
 .ret)) .skip))
 (.seq (aj [az 7 (kI 0)]
 (.block 0 EY))
 (.seq (.cu true [a6 60 0 6,a7 61 60,a6 62 1 6,a7 63 62,a6 64 2 6,a7 65 64,b7 66 5 6,bE 67 lP [(.t 66)],bE 68 nF [(.t 61),(.t 63),(.t 65),(.t 67)],af 59 68,ak 69 (.extract (.t 59) 0),ak 70 (.extract (.t 59) 1),af 10 69,af 11 70])
 (.seq (aj [af 71 11,aE 72 .neq (.t 71) (kI 0)]
 (aN 72 (aj [ak 73 (.build oU []),⟨none,.store 5 (.t 4) (.t 73),none⟩,az 5 (kI 3)]
 .ret) .skip))
 (aj [af 74 10,a6 75 1 6,⟨none,.store 1 (.t 75) (.t 74),none⟩]
 (aj [b7 76 5 6,⟨none,.store 5 (.t 4) (.t 76),none⟩,az 5 (kI 0)]
 .ret))))))))),false⟩
def aY:K :=
 (aj [aE 9 .lss (.t 8) (.t 7)]
 (.seq (aN 9 .skip (.exit 0))
 (.seq (.block 1 (aj [af 10 8,af 5 10]
 (aj [af 11 1,af 12 0,af 13 5,ak 14 (.au 5 (.t 12) (.t 13)),b7 15 5 14,ak 16 (.qT (.t 11) [(.t 15)])]
 (aN 16 (aj [af 17 5,af 4 17]
 .ret) .skip))))
 (.cu false [aE 18 .add (.t 8) (kI 1),af 8 18]))))
def bY:K:=.loop [0,1,7,8] aY
def bm:cL:=⟨19,[.tmp 4],
 (aj [az 4 (kI 0)]
 (.seq (aj [af 6 0,ak 7 (.bJ (.t 6)),az 8 (kI 0)]
 (.block 0 bY))
 (aj [az 4 (kI (-1))]
 .ret))),false⟩
def wR:cL:=⟨12,[.cell 6 5 true],
 (aj [ak 4 (.box 5 true (.t 1) true),ak 5 (.box 5 true (.t 2) true),ak 6 (.alloc oU 5)]
 (aj [af 7 0,b7 8 5 4,b7 9 5 5,ak 10 (.iU 5 oU 2 [(0,5,(.t 8)),(1,5,(.t 9))]),ak 11 (.build oU [(0,1,(.t 7)),(1,1,(kI 1)),(4,1,(.t 10))]),⟨none,.store 5 (.t 6) (.t 11),none⟩]
 .ret)),false⟩
def pD:cL:=⟨11,[.tmp 2],
 (aj [ak 1 (.box 5 true (.t 0) true),az 2 (.c (.p (.bool false)))]
 (aj [a6 3 0 1,a7 4 3,aE 5 .eql (.t 4) (kI 24),af 6 5,⟨some 7,.bP 0 (.t 1),some (6,false)⟩,⟨some 8,.load 1 false (.t 7),some (6,false)⟩,⟨some 9,.arith .eql (.t 8) (kI 25),some (6,false)⟩,ak 10 (.pick (.t 6) (.c (.p (.bool true))) (.t 9)),af 2 10]
 .ret)),false⟩
def fm:K :=
 (aj [aE 16 .lss (.t 15) (.t 14)]
 (.seq (aN 16 .skip (.exit 0))
 (.seq (.block 1 (aj [ak 17 (.au 5 (.t 13) (.t 15)),b7 18 5 17,ak 5 (.init 5 true (.t 18) true)]
 (aj [b7 19 5 5,bE 20 lS [(.t 19)],af 6 20]
 (aj [af 21 6,aE 22 .neq (.t 21) (kI 0)]
 (aN 22 (aj [af 23 6,az 2 (.c .aC),af 3 23]
 .ret) .skip)))))
 (.cu false [aE 24 .add (.t 15) (kI 1),af 15 24]))))
def rE:K:=.loop [0,13,14,15] fm
def gK:K :=
 (aj [aE 28 .lss (.t 27) (.t 26)]
 (.seq (aN 28 .skip (.exit 2))
 (.seq (.block 3 (aj [ak 29 (.au 5 (.t 25) (.t 27)),b7 30 5 29,ak 9 (.init 5 true (.t 30) true)]
 (.cu false [af 31 7,b7 32 5 9,bE 33 nL [(.t 32)],ak 34 (.append 2 24 (.t 31) (.t 33)),ak 7 (.mv (.t 34) true)])))
 (.cu false [aE 35 .add (.t 27) (kI 1),af 27 35]))))
def rK:K:=.loop [7,25,26,27] gK
def gL:K :=
 (aj [aE 43 .lss (.t 42) (.t 41)]
 (.seq (aN 43 .skip (.exit 4))
 (.seq (.block 5 (aj [af 44 42,ak 45 (.au 2 (.t 40) (.t 42)),b7 46 2 45,ak 12 (.alloc [(.p (.str (bs []))),(.p (.int .i64 0))] 2),af 11 44,⟨none,.store 2 (.t 12) (.t 46),none⟩]
 (.seq (.seq (.cu true [af 47 11,aE 48 .gtr (.t 47) (kI 0),af 49 48,⟨some 50,.mv (.t 7) false,some (49,true)⟩,⟨some 51,.mv (.t 11) false,some (49,true)⟩,⟨some 52,.arith .sub (.t 51) (kI 1),some (49,true)⟩,⟨some 53,.au 2 (.t 50) (.t 52),some (49,true)⟩,⟨some 54,.bP 0 (.t 53),some (49,true)⟩,⟨some 55,.load 1 false (.t 54),some (49,true)⟩,⟨some 56,.bP 0 (.t 12),some (49,true)⟩,⟨some 57,.load 1 false (.t 56),some (49,true)⟩,⟨some 58,.arith .eql (.t 55) (.t 57),some (49,true)⟩,ak 59 (.pick (.t 49) (.t 58) (.c (.p (.bool false))))])
 (aN 59 (aj [az 2 (.c .aC),az 3 (kI 12)]
 .ret) .skip))
 (.cu false [af 60 10,a6 61 1 12,a7 62 61,aE 63 .add (.t 60) (.t 62),af 10 63]))))
 (.cu false [aE 64 .add (.t 42) (kI 1),af 42 64]))))
def rM:K:=.loop [7,10,40,41,42] gL
def iN:cL:=⟨68,[.tmp 2,.tmp 3],
 (aj [az 2 (.c .aC),az 3 (kI 0)]
 (.seq (aj [af 13 0,ak 14 (.bJ (.t 13)),az 15 (kI 0)]
 (.block 0 rE))
 (aj [ak 7 (.mv (.c .aC) true)]
 (.seq (aj [af 25 0,ak 26 (.bJ (.t 25)),az 27 (kI 0)]
 (.block 2 rK))
 (aj [af 36 7,bE 37 bf [(.t 36),(.c (.p (.fn cR [])))]]
 (aj [af 38 7,bE 39 cD [(.t 38)],ak 7 (.mv (.t 39) true)]
 (aj [az 10 (kI 0)]
 (.seq (aj [af 40 7,ak 41 (.bJ (.t 40)),az 42 (kI 0)]
 (.block 4 rM))
 (.seq (aj [af 65 10,aE 66 .gtr (.t 65) (kI 16)]
 (aN 66 (aj [az 2 (.c .aC),az 3 (kI 7)]
 .ret) .skip))
 (aj [af 67 7,af 2 67,az 3 (kI 0)]
 .ret)))))))))),false⟩
def lA:cL:=⟨6,[.tmp 2],
 (aj [ak 1 (.box 5 true (.t 0) true),az 2 (.c (.p (.bool false)))]
 (aj [a6 3 1 1,a7 4 3,aE 5 .neq (.t 4) (kI 1),af 2 5]
 .ret)),false⟩
def oZ:K :=
 (aj [aE 13 .lss (.t 12) (.t 11)]
 (.seq (aN 13 .skip (.exit 0))
 (.seq (.block 1 (aj [ak 14 (.au 5 (.t 10) (.t 12)),b7 15 5 14,ak 7 (.init 5 true (.t 15) true)]
 (aj [b7 17 5 7,af 18 0,bE 19 lL [(.t 17),(.t 18)],af 16 19,ak 20 (.extract (.t 16) 0),ak 21 (.extract (.t 16) 1),af 8 20,af 9 21]
 (.cu false [af 22 5,af 23 8,ak 24 (.dC 1 [.aC] 1 [(0,1,(.t 23))]),ak 25 (.append 1 24 (.t 22) (.t 24)),ak 5 (.mv (.t 25) true)]))))
 (.cu false [aE 26 .add (.t 12) (kI 1),af 12 26]))))
def tY:K:=.loop [0,5,10,11,12] oZ
def mP:cL:=⟨28,[.tmp 4],
 (aj [az 4 (.c .aC)]
 (aj [ak 5 (.mv (.c .aC) true)]
 (.seq (aj [af 10 1,ak 11 (.bJ (.t 10)),az 12 (kI 0)]
 (.block 0 tY))
 (aj [af 27 5,af 4 27]
 .ret)))),false⟩
def jL:K :=
 (aj [aE 9 .lss (.t 8) (.t 7)]
 (.seq (aN 9 .skip (.exit 0))
 (.seq (.block 1 (aj [ak 10 (.au 2 (.t 6) (.t 8)),b7 11 2 10,ak 5 (.init 2 true (.t 11) true)]
 (.cu false [a7 12 3,a6 13 1 5,a7 14 13,aE 15 .add (.t 12) (.t 14),⟨none,.store 1 (.t 3) (.t 15),none⟩])))
 (.cu false [aE 16 .add (.t 8) (kI 1),af 8 16]))))
def nY:K:=.loop [1,3,6,7,8] jL
def hU:cL:=⟨18,[.tmp 2],
 (aj [ak 1 (.box 1 false (.t 0) true),az 2 (.c (.p .zc))]
 (aj [ak 3 (.init 1 false (kI 0) false)]
 (.seq (aj [a7 6 1,ak 7 (.bJ (.t 6)),az 8 (kI 0)]
 (.block 0 nY))
 (aj [ak 17 (.zD cg [(.t 3),(.t 1)]),af 2 17]
 .ret)))),false⟩
def GW:cL:=⟨6,[.tmp 2],
 (aj [az 2 (kI 0)]
 (aj [af 3 0,ak 4 (.sv true [(.t 3),(kI 1)]),ak 5 (.sv false [(.t 4),(kI 64)]),af 2 5]
 .ret)),false⟩
def A9:cL:=⟨16,[.tmp 4],
 (aj [az 4 (.c (.p (.int .u64 0)))]
 (.seq (aj [af 5 1,aE 6 .lss (.t 5) (kI 0),af 7 6,⟨some 8,.mv (.t 1) false,some (7,false)⟩,⟨some 9,.arith .gtr (.t 8) (kI 63),some (7,false)⟩,ak 10 (.pick (.t 7) (.c (.p (.bool true))) (.t 9))]
 (aN 10 (aj [az 4 (.c (.p (.int .u64 0)))]
 .ret) .skip))
 (aj [af 11 0,af 12 1,ak 13 (.conv .u64 (.t 12)),aE 14 .shr (.t 11) (.t 13),aE 15 .and (.t 14) (.c (.p (.int .u64 1))),af 4 15]
 .ret))),false⟩
def l6:K :=
 (.seq (aj [af 9 7,af 10 0,ak 11 (.bJ (.t 10)),aE 12 .lss (.t 9) (.t 11)]
 (aN 12 .skip (.exit 0)))
 (.seq (.block 1 (.seq (.seq (.cu true [af 15 0,af 16 7,ak 17 (.au 2 (.t 15) (.t 16)),a6 18 0 17,a7 19 18,a6 20 0 3,a7 21 20,aE 22 .eql (.t 19) (.t 21)])
 (aN 22 (aj [af 23 0,af 4 23]
 .ret) .skip))
 (.seq (.seq (.cu true [af 24 6,ak 25 (.not (.t 24)),af 26 25,⟨some 27,.bP 0 (.t 3),some (26,true)⟩,⟨some 28,.load 1 false (.t 27),some (26,true)⟩,⟨some 29,.mv (.t 0) false,some (26,true)⟩,⟨some 30,.mv (.t 7) false,some (26,true)⟩,⟨some 31,.au 2 (.t 29) (.t 30),some (26,true)⟩,⟨some 32,.bP 0 (.t 31),some (26,true)⟩,⟨some 33,.load 1 false (.t 32),some (26,true)⟩,⟨some 34,.arith .lss (.t 28) (.t 33),some (26,true)⟩,ak 35 (.pick (.t 26) (.t 34) (.c (.p (.bool false))))])
 (aN 35 (aj [af 36 5,b7 37 2 3,ak 38 (.dC 2 [(.p (.str (bs []))),(.p (.int .i64 0))] 1 [(0,2,(.t 37))]),ak 39 (.append 2 24 (.t 36) (.t 38)),ak 5 (.mv (.t 39) true)]
 (.cu false [az 6 (.c (.p (.bool true)))])) .skip))
 (.cu false [af 40 5,af 41 0,af 42 7,ak 43 (.au 2 (.t 41) (.t 42)),b7 44 2 43,ak 45 (.dC 2 [(.p (.str (bs []))),(.p (.int .i64 0))] 1 [(0,2,(.t 44))]),ak 46 (.append 2 24 (.t 40) (.t 45)),ak 5 (.mv (.t 46) true)]))))
 (.cu false [af 13 7,aE 14 .add (.t 13) (kI 1),af 7 14])))
def oO:K:=.loop [0,3,5,6,7] l6
def nU:cL:=⟨54,[.tmp 4],
 (aj [ak 3 (.box 2 true (.t 1) true),az 4 (.c .aC)]
 (aj [ak 8 (.dC 2 [(.p (.str (bs []))),(.p (.int .i64 0))] 0 []),ak 5 (.mv (.t 8) true)]
 (aj [az 6 (.c (.p (.bool false)))]
 (.seq (aj [az 7 (kI 0)]
 (.block 0 oO))
 (.seq (aj [af 47 6,ak 48 (.not (.t 47))]
 (aN 48 (.cu false [af 49 5,b7 50 2 3,ak 51 (.dC 2 [(.p (.str (bs []))),(.p (.int .i64 0))] 1 [(0,2,(.t 50))]),ak 52 (.append 2 24 (.t 49) (.t 51)),ak 5 (.mv (.t 52) true)]) .skip))
 (aj [af 53 5,af 4 53]
 .ret)))))),false⟩
def bk:K :=
 (aj [aE 18 .lss (.t 17) (.t 16)]
 (.seq (aN 18 .skip (.exit 0))
 (.seq (.block 1 (aj [af 19 17,ak 20 (.au 5 (.t 15) (.t 17)),b7 21 5 20,ak 8 (.alloc oU 5),af 7 19,⟨none,.store 5 (.t 8) (.t 21),none⟩]
 (aj [af 22 1,af 23 7,ak 24 (.au 5 (.t 22) (.t 23)),b7 25 5 24,ak 9 (.init 5 true (.t 25) true)]
 (aj [af 26 2,b7 27 5 8,b7 28 5 9,ak 29 (.qT (.t 26) [(.t 27),(.t 28)]),ak 30 (.not (.t 29))]
 (aN 30 (aj [az 6 (.c (.p (.bool false)))]
 .ret) .skip)))))
 (.cu false [aE 31 .add (.t 17) (kI 1),af 17 31]))))
def bM:K:=.loop [1,2,15,16,17] bk
def aK:cL:=⟨32,[.tmp 6],
 (aj [az 6 (.c (.p (.bool false)))]
 (.seq (aj [af 10 0,ak 11 (.bJ (.t 10)),af 12 1,ak 13 (.bJ (.t 12)),aE 14 .neq (.t 11) (.t 13)]
 (aN 14 (aj [az 6 (.c (.p (.bool false)))]
 .ret) .skip))
 (.seq (aj [af 15 0,ak 16 (.bJ (.t 15)),az 17 (kI 0)]
 (.block 0 bM))
 (aj [az 6 (.c (.p (.bool true)))]
 .ret)))),false⟩
def ew:K :=
 (.cu false [ak 8 (.init 5 true (.t 19) true)])
def ez:K :=
 (.block 3 (.seq (aj [a6 20 0 8,a7 21 20,a7 22 2,aE 23 .neq (.t 21) (.t 22)]
 (aN 23 (.exit 3) .skip))
 (aj [a7 25 5,a6 26 3 8,a7 27 26,bE 28 aU [(.t 25),(.t 27),(.c (.p (.fn cF [])))],af 24 28,ak 29 (.extract (.t 24) 0),ak 30 (.extract (.t 24) 1),af 9 29,af 10 30]
 (aj [af 31 10,ak 32 (.not (.t 31))]
 (aN 32 (.cu false [a7 33 5,af 34 9,a6 35 3 8,a7 36 35,a6 37 1 8,a7 38 37,ak 39 (.build [(.p (.str (bs []))),(.p (.int .i64 0))] [(0,1,(.t 36)),(1,1,(.t 38))]),ak 40 (.dC 2 [(.p (.str (bs []))),(.p (.int .i64 0))] 1 [(0,2,(.t 39))]),bE 41 bO [(.t 33),(.t 34),(.t 40)],⟨none,.store 1 (.t 5) (.t 41),none⟩]) .skip)))))
def w8:K:=.range (.t 18) [19] [2,5] ew ez
def lx:K :=
 (aj [aE 14 .lss (.t 13) (.t 12)]
 (.seq (aN 14 .skip (.exit 0))
 (.seq (.block 1 (aj [ak 15 (.au 5 (.t 11) (.t 13)),b7 16 5 15,ak 7 (.init 5 true (.t 16) true)]
 (aj [b7 17 5 7,bE 18 dq [(.t 17)]]
 (.block 2 w8))))
 (.cu false [aE 42 .add (.t 13) (kI 1),af 13 42]))))
def pN:K:=.loop [2,5,11,12,13] lx
def jD:cL:=⟨44,[.tmp 4],
 (aj [ak 2 (.box 1 false (.t 0) true),az 4 (.c .aC)]
 (aj [ak 5 (.alloc [.aC] 1)]
 (.seq (aj [af 11 1,ak 12 (.bJ (.t 11)),az 13 (kI 0)]
 (.block 0 pN))
 (aj [a7 43 5,af 4 43]
 .ret)))),false⟩
def bt:cL:=⟨102,[.tmp 4],
 (aj [ak 2 (.box 5 true (.t 0) true),az 4 (kI 0)]
 (aj [a6 8 0 2,a7 9 8,bE 10 fe [(.t 9)],af 5 10]
 (.seq (.block 0 (aj [af 12 5,aE 13 .lss (.t 12) (kI 0),af 14 13,⟨some 15,.bP 0 (.t 2),some (14,false)⟩,⟨some 16,.load 1 false (.t 15),some (14,false)⟩,⟨some 17,.arith .eql (.t 16) (kI 1),some (14,false)⟩,ak 18 (.pick (.t 14) (.c (.p (.bool true))) (.t 17)),af 19 18,⟨some 20,.bP 0 (.t 2),some (19,false)⟩,⟨some 21,.load 1 false (.t 20),some (19,false)⟩,⟨some 22,.arith .eql (.t 21) (kI 26),some (19,false)⟩,⟨some 23,.mv (.t 22) false,some (19,false)⟩,⟨some 24,.mv (.t 1) false,some (23,true)⟩,⟨some 25,.not (.t 24),some (23,true)⟩,⟨some 26,.pick (.t 23) (.t 25) (.c (.p (.bool false))),some (19,false)⟩,ak 27 (.pick (.t 19) (.c (.p (.bool true))) (.t 26)),af 28 27,⟨some 29,.bP 4 (.t 2),some (28,false)⟩,⟨some 30,.load 1 false (.t 29),some (28,false)⟩,⟨some 31,.bJ (.t 30),some (28,false)⟩,⟨some 32,.mv (.t 5) false,some (28,false)⟩,⟨some 33,.arith .neq (.t 31) (.t 32),some (28,false)⟩,ak 34 (.pick (.t 28) (.c (.p (.bool true))) (.t 33)),af 11 34]
 (aN 11 (aj [az 4 (kI 4)]
 .ret) (aj [a6 36 3 2,a7 37 36,aE 38 .neq (.t 37) (.c (.p (.str (bs [])))),af 39 38,⟨some 40,.bP 0 (.t 2),some (39,true)⟩,⟨some 41,.load 1 false (.t 40),some (39,true)⟩,⟨some 42,.dV dr [(.t 41)],some (39,true)⟩,⟨some 43,.not (.t 42),some (39,true)⟩,ak 44 (.pick (.t 39) (.t 43) (.c (.p (.bool false)))),af 45 44,⟨some 46,.bP 2 (.t 2),some (45,false)⟩,⟨some 47,.load 1 false (.t 46),some (45,false)⟩,⟨some 48,.arith .neq (.t 47) (.c (.p (.int .u64 0))),some (45,false)⟩,⟨some 49,.mv (.t 48) false,some (45,false)⟩,⟨some 50,.bP 0 (.t 2),some (49,true)⟩,⟨some 51,.load 1 false (.t 50),some (49,true)⟩,⟨some 52,.arith .neq (.t 51) (kI 2),some (49,true)⟩,⟨some 53,.pick (.t 49) (.t 52) (.c (.p (.bool false))),some (45,false)⟩,⟨some 54,.mv (.t 53) false,some (45,false)⟩,⟨some 55,.bP 0 (.t 2),some (54,true)⟩,⟨some 56,.load 1 false (.t 55),some (54,true)⟩,⟨some 57,.arith .neq (.t 56) (kI 21),some (54,true)⟩,⟨some 58,.pick (.t 54) (.t 57) (.c (.p (.bool false))),some (45,false)⟩,ak 59 (.pick (.t 45) (.c (.p (.bool true))) (.t 58)),af 35 59]
 (aN 35 (aj [az 4 (kI 4)]
 .ret) (aj [a6 61 0 2,a7 62 61,bE 63 dr [(.t 62)],af 64 63,⟨some 65,.bP 3 (.t 2),some (64,true)⟩,⟨some 66,.load 1 false (.t 65),some (64,true)⟩,⟨some 67,.dV j9 [(.t 66)],some (64,true)⟩,⟨some 68,.not (.t 67),some (64,true)⟩,ak 69 (.pick (.t 64) (.t 68) (.c (.p (.bool false)))),af 60 69]
 (aN 60 (aj [az 4 (kI 5)]
 .ret) .skip)))))))
 (.seq (.cu true [a6 71 0 2,a7 72 71,a6 73 1 2,a7 74 73,a6 75 2 2,a7 76 75,a6 77 4 2,a7 78 77,bE 79 fF [(.t 78)],bE 80 gi [(.t 72),(.t 74),(.t 76),(.t 79)],af 70 80,ak 81 (.extract (.t 70) 0),ak 82 (.extract (.t 70) 1),af 6 81,af 7 82])
 (.seq (aj [af 83 7,aE 84 .neq (.t 83) (kI 0),af 85 84,⟨some 86,.mv (.t 6) false,some (85,false)⟩,⟨some 87,.bP 1 (.t 2),some (85,false)⟩,⟨some 88,.load 1 false (.t 87),some (85,false)⟩,⟨some 89,.arith .neq (.t 86) (.t 88),some (85,false)⟩,ak 90 (.pick (.t 85) (.c (.p (.bool true))) (.t 89))]
 (aN 90 (aj [az 4 (kI 3)]
 .ret) .skip))
 (.seq (aj [a6 91 0 2,a7 92 91,aE 93 .eql (.t 92) (kI 26),af 94 93,⟨some 95,.bP 4 (.t 2),some (94,true)⟩,⟨some 96,.load 1 false (.t 95),some (94,true)⟩,⟨some 97,.au 5 (.t 96) (kI 0),some (94,true)⟩,⟨some 98,.load 5 true (.t 97),some (94,true)⟩,⟨some 99,.dC 1 [(.p (.int .i64 0))] 2 [(0,1,(kI 24)),(1,1,(kI 26))],some (94,true)⟩,⟨some 100,.dV mr [(.t 98),(.t 99)],some (94,true)⟩,ak 101 (.pick (.t 94) (.t 100) (.c (.p (.bool false))))]
 (aN 101 (aj [az 4 (kI 12)]
 .ret) .skip))
 (aj [az 4 (kI 0)]
 .ret))))))),false⟩
def iO:cL:=⟨6,[],
 (.cu false [b7 3 5 1,af 4 0,bE 5 jo [(.t 3),(.t 4)]]),true⟩
def mL:K :=
 (aj [aE 15 .lss (.t 14) (.t 13)]
 (.seq (aN 15 .skip (.exit 0))
 (.seq (.block 1 (aj [ak 16 (.au 5 (.t 12) (.t 14)),b7 17 5 16,ak 6 (.init 5 true (.t 17) true)]
 (aj [b7 18 5 6,af 19 1,bE 20 jo [(.t 18),(.t 19)],ak 21 (.not (.t 20))]
 (aN 21 (aj [az 4 (.c (.p (.bool false)))]
 .ret) .skip))))
 (.cu false [aE 22 .add (.t 14) (kI 1),af 14 22]))))
def qG:K:=.loop [1,12,13,14] mL
def gM:cL:=⟨23,[.tmp 4],
 (aj [ak 2 (.box 5 true (.t 0) true),az 4 (.c (.p (.bool false)))]
 (.seq (aj [af 7 1,b7 8 5 2,ak 9 (.qT (.t 7) [(.t 8)]),ak 10 (.not (.t 9))]
 (aN 10 (aj [az 4 (.c (.p (.bool false)))]
 .ret) .skip))
 (.seq (aj [a6 11 4 2,a7 12 11,ak 13 (.bJ (.t 12)),az 14 (kI 0)]
 (.block 0 qG))
 (aj [az 4 (.c (.p (.bool true)))]
 .ret)))),true⟩
def dx:K :=
 (aj [aE 9 .lss (.t 8) (.t 7)]
 (.seq (aN 9 .skip (.exit 0))
 (.seq (.block 1 (aj [af 10 8,af 5 10]
 (.seq (.cu true [b7 11 2 3,af 12 0,af 13 5,ak 14 (.au 2 (.t 12) (.t 13)),b7 15 2 14,ak 16 (.eqA false [.str,.int] (.t 11) (.t 15))])
 (aN 16 (aj [af 17 5,af 4 17]
 .ret) .skip))))
 (.cu false [aE 18 .add (.t 8) (kI 1),af 8 18]))))
def eu:K:=.loop [0,3,7,8] dx
def cQ:cL:=⟨19,[.tmp 4],
 (aj [ak 3 (.box 2 true (.t 1) true),az 4 (kI 0)]
 (.seq (aj [af 6 0,ak 7 (.bJ (.t 6)),az 8 (kI 0)]
 (.block 0 eu))
 (aj [az 4 (kI (-1))]
 .ret))),false⟩
def lB:cL:=⟨21,[.tmp 2],
 (aj [ak 1 (.box 11 true (.t 0) true),az 2 (.c (.p (.bool false)))]
 (.seq (aj [a6 3 0 1,a7 4 3]
 (.block 0 (.seq (.block 3 (.block 2 (.seq (.block 1 (.seq (.seq (aj [aE 6 .eql (.t 4) (kI 1),af 5 6]
 (aN 5 (.exit 1) .skip))
 (.seq (aj [aE 8 .eql (.t 4) (kI 3),af 7 8]
 (aN 7 (.exit 2) .skip))
 (aj [aE 10 .eql (.t 4) (kI 4),af 9 10]
 (aN 9 (.exit 3) .skip))))
 (.exit 0)))
 (.seq (aj [a6 11 6 1,b7 12 5 11,bE 13 oc [(.t 12)],af 2 13]
 .ret)
 (.exit 0)))))
 (.seq (aj [a6 14 1 1,a6 15 0 14,a7 16 15,aE 17 .eql (.t 16) (kI 24),af 2 17]
 .ret)
 (.exit 0)))))
 (aj [a6 18 0 1,a7 19 18,aE 20 .eql (.t 19) (kI 2),af 2 20]
 .ret))),false⟩
def gJ:K :=
 (aj [aE 16 .lss (.t 15) (.t 14)]
 (.seq (aN 16 .skip (.exit 0))
 (.seq (.block 1 (aj [ak 17 (.au 2 (.t 13) (.t 15)),b7 18 2 17,ak 8 (.init 2 true (.t 18) true)]
 (aj [af 19 1,b7 20 2 8,bE 21 a8 [(.t 19),(.t 20)],ak 22 (.not (.t 21))]
 (aN 22 (aj [az 6 (.c (.p (.bool false)))]
 .ret) .skip))))
 (.cu false [aE 23 .add (.t 15) (kI 1),af 15 23]))))
def rF:K:=.loop [1,2,3,13,14,15] gJ
def jj:K :=
 (aj [aE 29 .lss (.t 28) (.t 27)]
 (.seq (aN 29 .skip (.exit 2))
 (.seq (.block 3 (aj [ak 30 (.au 2 (.t 26) (.t 28)),b7 31 2 30,ak 10 (.init 2 true (.t 31) true)]
 (aj [af 32 2,b7 33 2 10,bE 34 a8 [(.t 32),(.t 33)],ak 35 (.not (.t 34))]
 (aN 35 (aj [az 6 (.c (.p (.bool false)))]
 .ret) .skip))))
 (.cu false [aE 36 .add (.t 28) (kI 1),af 28 36]))))
def rL:K:=.loop [2,26,27,28] jj
def ku:cL:=⟨37,[.tmp 6],
 (aj [ak 3 (.box 5 true (.t 0) true),az 6 (.c (.p (.bool false)))]
 (.seq (aj [b7 11 5 3,ak 12 (.dC 5 oU 1 [(0,5,(.t 11))]),bE 13 gQ [(.t 12)],ak 14 (.bJ (.t 13)),az 15 (kI 0)]
 (.block 0 rF))
 (.seq (aj [b7 24 5 3,ak 25 (.dC 5 oU 1 [(0,5,(.t 24))]),bE 26 iW [(.t 25)],ak 27 (.bJ (.t 26)),az 28 (kI 0)]
 (.block 2 rL))
 (aj [az 6 (.c (.p (.bool true)))]
 .ret)))),false⟩
def wI:K :=
 (aj [aE 12 .lss (.t 11) (.t 10)]
 (.seq (aN 12 .skip (.exit 0))
 (.seq (.block 1 (aj [af 13 11,af 5 13]
 (.seq (aj [af 14 1,aE 15 .lss (.t 14) (kI 0)]
 (aN 15 (aj [az 4 (kI (-1))]
 .ret) .skip))
 (.cu false [a6 16 4 2,a7 17 16,af 18 5,ak 19 (.au 5 (.t 17) (.t 18)),b7 20 5 19,af 21 1,bE 22 qd [(.t 20),(.t 21)],af 1 22]))))
 (.cu false [aE 23 .add (.t 11) (kI 1),af 11 23]))))
def zP:K:=.loop [1,2,10,11] wI
def u7:cL:=⟨25,[.tmp 4],
 (aj [ak 2 (.box 5 true (.t 0) true),az 4 (kI 0)]
 (aj [af 6 1,aE 7 .sub (.t 6) (kI 1),af 1 7]
 (.seq (aj [a6 8 4 2,a7 9 8,ak 10 (.bJ (.t 9)),az 11 (kI 0)]
 (.block 0 zP))
 (aj [af 24 1,af 4 24]
 .ret)))),false⟩
def pB:cL:=⟨16,[.tmp 2],
 (aj [az 2 (kI 0)]
 (.seq (aj [af 3 0,aE 4 .lss (.t 3) (kI 1),af 5 4,⟨some 6,.mv (.t 0) false,some (5,false)⟩,⟨some 7,.arith .gtr (.t 6) (kI 26),some (5,false)⟩,ak 8 (.pick (.t 5) (.c (.p (.bool true))) (.t 7))]
 (aN 8 (aj [az 2 (kI (-1))]
 .ret) .skip))
 (.seq (aj [af 9 0,bE 10 pY [(.t 9)]]
 (aN 10 (aj [az 2 (kI 0)]
 .ret) .skip))
 (.seq (aj [af 11 0,ak 12 (.dC 1 [(.p (.int .i64 0))] 6 [(0,1,(kI 3)),(1,1,(kI 4)),(2,1,(kI 21)),(3,1,(kI 22)),(4,1,(kI 23)),(5,1,(kI 26))]),bE 13 xh [(.t 11),(.t 12)]]
 (aN 13 (aj [az 2 (kI 1)]
 .ret) .skip))
 (.seq (aj [af 14 0,aE 15 .eql (.t 14) (kI 19)]
 (aN 15 (aj [az 2 (kI 3)]
 .ret) .skip))
 (aj [az 2 (kI 2)]
 .ret)))))),false⟩
def tr:K :=
 (aj [aE 24 .lss (.t 23) (.t 22)]
 (.seq (aN 24 .skip (.exit 0))
 (.seq (.block 1 (aj [af 25 23,af 10 25]
 (aj [af 26 3,af 27 10,ak 28 (.au 1 (.t 26) (.t 27)),a7 29 28,bE 30 lO [(.t 29)],ak 31 (.not (.t 30))]
 (aN 31 (aj [az 8 (kI 0),az 9 (kI 3)]
 .ret) .skip))))
 (.cu false [aE 32 .add (.t 23) (kI 1),af 23 32]))))
def xX:K:=.loop [0,1,2,3,22,23] tr
def ej:cL:=⟨133,[.tmp 8,.tmp 9],
 (aj [az 8 (kI 0),az 9 (kI 0)]
 (.seq (aj [af 11 0,bE 12 j7 [(.t 11)],aE 13 .lss (.t 12) (kI 0),af 14 13,⟨some 15,.mv (.t 3) false,some (14,false)⟩,⟨some 16,.bJ (.t 15),some (14,false)⟩,⟨some 17,.mv (.t 0) false,some (14,false)⟩,⟨some 18,.dV j7 [(.t 17)],some (14,false)⟩,⟨some 19,.arith .neq (.t 16) (.t 18),some (14,false)⟩,ak 20 (.pick (.t 14) (.c (.p (.bool true))) (.t 19))]
 (aN 20 (aj [az 8 (kI 0),az 9 (kI 4)]
 .ret) .skip))
 (.seq (aj [af 21 3,ak 22 (.bJ (.t 21)),az 23 (kI 0)]
 (.block 0 xX))
 (.seq (aj [af 33 0,bE 34 pY [(.t 33)]]
 (aN 34 (aj [af 35 0,af 36 1,af 37 2,bE 38 sm [(.t 35),(.t 36),(.t 37)],ak 39 (.extract (.t 38) 0),ak 40 (.extract (.t 38) 1),af 8 39,af 9 40]
 .ret) .skip))
 (.seq (aj [af 41 0,aE 42 .eql (.t 41) (kI 21),af 43 42,⟨some 44,.mv (.t 0) false,some (43,false)⟩,⟨some 45,.arith .eql (.t 44) (kI 22),some (43,false)⟩,ak 46 (.pick (.t 43) (.c (.p (.bool true))) (.t 45)),af 47 46,⟨some 48,.mv (.t 0) false,some (47,false)⟩,⟨some 49,.arith .eql (.t 48) (kI 23),some (47,false)⟩,ak 50 (.pick (.t 47) (.c (.p (.bool true))) (.t 49))]
 (aN 50 (aj [af 51 0,af 52 1,af 53 2,af 54 3,ak 55 (.au 1 (.t 54) (kI 0)),a7 56 55,bE 57 pZ [(.t 51),(.t 52),(.t 53),(.t 56)],ak 58 (.extract (.t 57) 0),ak 59 (.extract (.t 57) 1),af 8 58,af 9 59]
 .ret) .skip))
 (.seq (aj [af 60 3,ak 61 (.bJ (.t 60)),aE 62 .eql (.t 61) (kI 1)]
 (aN 62 (aj [af 63 3,ak 64 (.au 1 (.t 63) (kI 0)),a7 65 64,af 8 65,az 9 (kI 0)]
 .ret) .skip))
 (.seq (aj [af 66 0,aE 67 .eql (.t 66) (kI 20)]
 (aN 67 (.seq (.seq (.cu true [af 68 3,ak 69 (.au 1 (.t 68) (kI 0)),a7 70 69,aE 71 .lss (.t 70) (kI 1),af 72 71,⟨some 73,.mv (.t 3) false,some (72,false)⟩,⟨some 74,.au 1 (.t 73) (kI 1),some (72,false)⟩,⟨some 75,.load 1 false (.t 74),some (72,false)⟩,⟨some 76,.arith .lss (.t 75) (kI 1),some (72,false)⟩,ak 77 (.pick (.t 72) (.c (.p (.bool true))) (.t 76)),af 78 77,⟨some 79,.mv (.t 3) false,some (78,false)⟩,⟨some 80,.au 1 (.t 79) (kI 0),some (78,false)⟩,⟨some 81,.load 1 false (.t 80),some (78,false)⟩,⟨some 82,.mv (.t 3) false,some (78,false)⟩,⟨some 83,.au 1 (.t 82) (kI 1),some (78,false)⟩,⟨some 84,.load 1 false (.t 83),some (78,false)⟩,⟨some 85,.arith .add (.t 81) (.t 84),some (78,false)⟩,⟨some 86,.arith .gtr (.t 85) (kI 64),some (78,false)⟩,ak 87 (.pick (.t 78) (.c (.p (.bool true))) (.t 86))])
 (aN 87 (aj [az 8 (kI 0),az 9 (kI 3)]
 .ret) .skip))
 (.seq (.cu true [af 88 3,ak 89 (.au 1 (.t 88) (kI 0)),a7 90 89,af 91 3,ak 92 (.au 1 (.t 91) (kI 1)),a7 93 92,aE 94 .add (.t 90) (.t 93),af 8 94,az 9 (kI 0)])
 .ret)) .skip))
 (.seq (aj [af 95 0,aE 96 .eql (.t 95) (kI 19)]
 (aN 96 (.seq (.seq (.cu true [af 97 3,ak 98 (.au 1 (.t 97) (kI 0)),a7 99 98,aE 100 .neq (.t 99) (kI 1),af 101 100,⟨some 102,.mv (.t 3) false,some (101,false)⟩,⟨some 103,.au 1 (.t 102) (kI 1),some (101,false)⟩,⟨some 104,.load 1 false (.t 103),some (101,false)⟩,⟨some 105,.mv (.t 3) false,some (101,false)⟩,⟨some 106,.au 1 (.t 105) (kI 2),some (101,false)⟩,⟨some 107,.load 1 false (.t 106),some (101,false)⟩,⟨some 108,.arith .neq (.t 104) (.t 107),some (101,false)⟩,ak 109 (.pick (.t 101) (.c (.p (.bool true))) (.t 108))])
 (aN 109 (aj [az 8 (kI 0),az 9 (kI 3)]
 .ret) .skip))
 (aj [af 110 3,ak 111 (.au 1 (.t 110) (kI 1)),a7 112 111,af 8 112,az 9 (kI 0)]
 .ret)) .skip))
 (.seq (.seq (.cu true [af 113 3,ak 114 (.au 1 (.t 113) (kI 0)),a7 115 114,af 116 3,ak 117 (.au 1 (.t 116) (kI 1)),a7 118 117,aE 119 .neq (.t 115) (.t 118)])
 (aN 119 (aj [az 8 (kI 0),az 9 (kI 3)]
 .ret) .skip))
 (.seq (aj [af 120 0,aE 121 .eql (.t 120) (kI 16),af 122 121,⟨some 123,.mv (.t 0) false,some (122,false)⟩,⟨some 124,.arith .eql (.t 123) (kI 17),some (122,false)⟩,ak 125 (.pick (.t 122) (.c (.p (.bool true))) (.t 124)),af 126 125,⟨some 127,.mv (.t 0) false,some (126,false)⟩,⟨some 128,.arith .eql (.t 127) (kI 18),some (126,false)⟩,ak 129 (.pick (.t 126) (.c (.p (.bool true))) (.t 128))]
 (aN 129 (aj [az 8 (kI 1),az 9 (kI 0)]
 .ret) .skip))
 (aj [af 130 3,ak 131 (.au 1 (.t 130) (kI 0)),a7 132 131,af 8 132,az 9 (kI 0)]
 .ret))))))))))),false⟩
def v8:K :=
 (.seq (aj [af 6 4,a6 7 4 1,a7 8 7,ak 9 (.bJ (.t 8)),aE 10 .lss (.t 6) (.t 9)]
 (aN 10 .skip (.exit 0)))
 (.seq (.block 1 (.cu false [af 13 3,a6 14 4 1,a7 15 14,af 16 4,ak 17 (.au 5 (.t 15) (.t 16)),a6 18 1 17,a7 19 18,ak 20 (.dC 1 [(.p (.int .i64 0))] 1 [(0,1,(.t 19))]),ak 21 (.append 1 8 (.t 13) (.t 20)),ak 3 (.mv (.t 21) true)]))
 (.cu false [af 11 4,aE 12 .add (.t 11) (kI 1),af 4 12])))
def AK:K:=.loop [1,3,4] v8
def tM:cL:=⟨23,[.tmp 2],
 (aj [ak 1 (.box 5 true (.t 0) true),az 2 (.c .aC)]
 (aj [ak 5 (.dC 1 [(.p (.int .i64 0))] 0 []),ak 3 (.mv (.t 5) true)]
 (.seq (aj [az 4 (kI 0)]
 (.block 0 AK))
 (aj [af 22 3,af 2 22]
 .ret)))),false⟩
def yD:cL:=⟨9,[.tmp 4],
 (aj [az 4 (.c (.p (.int .u64 0)))]
 (aj [af 5 1,af 6 0,bE 7 j4 [(.t 6)],aE 8 .and (.t 5) (.t 7),af 4 8]
 .ret)),false⟩
def ot:K :=
 (aj [aE 25 .lss (.t 24) (.t 23)]
 (.seq (aN 25 .skip (.exit 0))
 (.seq (.block 1 (aj [ak 26 (.au 1 (.t 22) (.t 24)),a7 27 26,af 11 27]
 (aj [af 28 11,bE 29 gP [(.t 28)],ak 30 (.not (.t 29))]
 (aN 30 (aj [az 8 (kI 0),az 9 (kI 3)]
 .ret) .skip))))
 (.cu false [aE 31 .add (.t 24) (kI 1),af 24 31]))))
def rG:K:=.loop [0,1,2,3,22,23,24] ot
def dH:cL:=⟨144,[.tmp 8,.tmp 9],
 (aj [az 8 (kI 0),az 9 (kI 0)]
 (.seq (aj [af 12 0,bE 13 kG [(.t 12)],ak 14 (.not (.t 13)),af 15 14,⟨some 16,.mv (.t 3) false,some (15,false)⟩,⟨some 17,.bJ (.t 16),some (15,false)⟩,⟨some 18,.mv (.t 0) false,some (15,false)⟩,⟨some 19,.dV fe [(.t 18)],some (15,false)⟩,⟨some 20,.arith .neq (.t 17) (.t 19),some (15,false)⟩,ak 21 (.pick (.t 15) (.c (.p (.bool true))) (.t 20))]
 (aN 21 (aj [az 8 (kI 0),az 9 (kI 4)]
 .ret) .skip))
 (.seq (aj [af 22 3,ak 23 (.bJ (.t 22)),az 24 (kI 0)]
 (.block 0 rG))
 (.seq (aj [af 32 0]
 (.block 2 (.seq (aj [aE 34 .eql (.t 32) (kI 1),af 33 34]
 (aN 33 .skip (aj [aE 35 .eql (.t 32) (kI 2),af 33 35]
 (aN 33 .skip (aj [aE 36 .eql (.t 32) (kI 24),af 33 36]
 (aN 33 .skip (.cu false [aE 37 .eql (.t 32) (kI 25),af 33 37])))))))
 (aN 33 (aj [af 38 0,af 39 1,af 40 2,bE 41 mq [(.t 38),(.t 39),(.t 40)],ak 42 (.extract (.t 41) 0),ak 43 (.extract (.t 41) 1),af 8 42,af 9 43]
 .ret) (.seq (aj [aE 45 .eql (.t 32) (kI 3),af 44 45]
 (aN 44 .skip (aj [aE 46 .eql (.t 32) (kI 4),af 44 46]
 (aN 44 .skip (.cu false [aE 47 .eql (.t 32) (kI 26),af 44 47])))))
 (aN 44 (aj [af 48 3,ak 49 (.au 1 (.t 48) (kI 0)),a7 50 49,af 8 50,az 9 (kI 0)]
 .ret) (.seq (aj [aE 52 .eql (.t 32) (kI 21),af 51 52]
 (aN 51 .skip (aj [aE 53 .eql (.t 32) (kI 22),af 51 53]
 (aN 51 .skip (.cu false [aE 54 .eql (.t 32) (kI 23),af 51 54])))))
 (aN 51 (aj [af 55 0,af 56 1,af 57 2,af 58 3,ak 59 (.au 1 (.t 58) (kI 0)),a7 60 59,bE 61 ix [(.t 55),(.t 56),(.t 57),(.t 60)],ak 62 (.extract (.t 61) 0),ak 63 (.extract (.t 61) 1),af 8 62,af 9 63]
 .ret) (aj [aE 65 .eql (.t 32) (kI 19),af 64 65]
 (aN 64 (.seq (.cu true [af 66 3,ak 67 (.au 1 (.t 66) (kI 0)),a7 68 67,aE 69 .eql (.t 68) (kI 1),af 70 69,⟨some 71,.mv (.t 3) false,some (70,true)⟩,⟨some 72,.au 1 (.t 71) (kI 1),some (70,true)⟩,⟨some 73,.load 1 false (.t 72),some (70,true)⟩,⟨some 74,.mv (.t 3) false,some (70,true)⟩,⟨some 75,.au 1 (.t 74) (kI 2),some (70,true)⟩,⟨some 76,.load 1 false (.t 75),some (70,true)⟩,⟨some 77,.arith .eql (.t 73) (.t 76),some (70,true)⟩,ak 78 (.pick (.t 70) (.t 77) (.c (.p (.bool false)))),af 79 3,ak 80 (.au 1 (.t 79) (kI 1)),a7 81 80,bE 82 eE [(.t 78),(.t 81)],ak 83 (.extract (.t 82) 0),ak 84 (.extract (.t 82) 1),af 8 83,af 9 84])
 .ret) (aj [aE 86 .eql (.t 32) (kI 20),af 85 86]
 (aN 85 (.seq (.cu true [af 87 3,ak 88 (.au 1 (.t 87) (kI 0)),a7 89 88,aE 90 .geq (.t 89) (kI 1),af 91 90,⟨some 92,.mv (.t 3) false,some (91,true)⟩,⟨some 93,.au 1 (.t 92) (kI 1),some (91,true)⟩,⟨some 94,.load 1 false (.t 93),some (91,true)⟩,⟨some 95,.arith .geq (.t 94) (kI 1),some (91,true)⟩,ak 96 (.pick (.t 91) (.t 95) (.c (.p (.bool false)))),af 97 96,⟨some 98,.mv (.t 3) false,some (97,true)⟩,⟨some 99,.au 1 (.t 98) (kI 0),some (97,true)⟩,⟨some 100,.load 1 false (.t 99),some (97,true)⟩,⟨some 101,.mv (.t 3) false,some (97,true)⟩,⟨some 102,.au 1 (.t 101) (kI 1),some (97,true)⟩,⟨some 103,.load 1 false (.t 102),some (97,true)⟩,⟨some 104,.arith .add (.t 100) (.t 103),some (97,true)⟩,⟨some 105,.arith .leq (.t 104) (kI 64),some (97,true)⟩,ak 106 (.pick (.t 97) (.t 105) (.c (.p (.bool false)))),af 107 3,ak 108 (.au 1 (.t 107) (kI 0)),a7 109 108,af 110 3,ak 111 (.au 1 (.t 110) (kI 1)),a7 112 111,aE 113 .add (.t 109) (.t 112),bE 114 eE [(.t 106),(.t 113)],ak 115 (.extract (.t 114) 0),ak 116 (.extract (.t 114) 1),af 8 115,af 9 116])
 .ret) (.seq (aj [aE 118 .eql (.t 32) (kI 16),af 117 118]
 (aN 117 .skip (aj [aE 119 .eql (.t 32) (kI 17),af 117 119]
 (aN 117 .skip (.cu false [aE 120 .eql (.t 32) (kI 18),af 117 120])))))
 (aN 117 (.seq (.cu true [af 121 3,ak 122 (.au 1 (.t 121) (kI 0)),a7 123 122,af 124 3,ak 125 (.au 1 (.t 124) (kI 1)),a7 126 125,aE 127 .eql (.t 123) (.t 126),bE 128 eE [(.t 127),(kI 1)],ak 129 (.extract (.t 128) 0),ak 130 (.extract (.t 128) 1),af 8 129,af 9 130])
 .ret) .skip))))))))))))))
 (.seq (.cu true [af 131 3,ak 132 (.au 1 (.t 131) (kI 0)),a7 133 132,af 134 3,ak 135 (.au 1 (.t 134) (kI 1)),a7 136 135,aE 137 .eql (.t 133) (.t 136),af 138 3,ak 139 (.au 1 (.t 138) (kI 0)),a7 140 139,bE 141 eE [(.t 137),(.t 140)],ak 142 (.extract (.t 141) 0),ak 143 (.extract (.t 141) 1),af 8 142,af 9 143])
 .ret))))),false⟩
def o6:K :=
 (aj [aE 9 .lss (.t 8) (.t 7)]
 (.seq (aN 9 .skip (.exit 0))
 (.seq (.block 1 (aj [ak 10 (.au 5 (.t 6) (.t 8)),b7 11 5 10,ak 5 (.init 5 true (.t 11) true)]
 (.cu false [af 12 3,a6 13 1 5,a7 14 13,ak 15 (.dC 1 [(.p (.int .i64 0))] 1 [(0,1,(.t 14))]),ak 16 (.append 1 8 (.t 12) (.t 15)),ak 3 (.mv (.t 16) true)])))
 (.cu false [aE 17 .add (.t 8) (kI 1),af 8 17]))))
def tZ:K:=.loop [3,6,7,8] o6
def mT:cL:=⟨19,[.tmp 2],
 (aj [az 2 (.c .aC)]
 (aj [ak 3 (.mv (.c .aC) true)]
 (.seq (aj [af 6 0,ak 7 (.bJ (.t 6)),az 8 (kI 0)]
 (.block 0 tZ))
 (aj [af 18 3,af 2 18]
 .ret)))),false⟩
def jV:K :=
 (.cu false [ak 7 (.init 5 true (.t 21) true)])
def jW:K :=
 (.block 1 (.seq (aj [b7 22 5 7,bE 23 ql [(.t 22)],af 8 23]
 (aj [af 24 8,aE 25 .neq (.t 24) (kI 0)]
 (aN 25 (aj [af 26 8,⟨none,.store 1 (.t 2) (.t 26),none⟩]
 .ret) .skip)))
 (aj [a6 27 0 7,a7 28 27,aE 29 .eql (.t 28) (kI 1)]
 (aN 29 (aj [a7 31 5,a6 32 3 7,a7 33 32,ak 34 (.lookup .str (.p (.int .i64 0)) (.t 31) (.t 33) true),af 30 34,ak 35 (.extract (.t 30) 0),ak 36 (.extract (.t 30) 1),af 9 35,af 10 36]
 (aj [a7 37 6,af 38 37,⟨some 39,.mv (.t 10) false,some (38,false)⟩,⟨some 40,.mv (.t 39) false,some (38,false)⟩,⟨some 41,.mv (.t 9) false,some (40,true)⟩,⟨some 42,.bP 1 (.t 7),some (40,true)⟩,⟨some 43,.load 1 false (.t 42),some (40,true)⟩,⟨some 44,.arith .neq (.t 41) (.t 43),some (40,true)⟩,⟨some 45,.pick (.t 40) (.t 44) (.c (.p (.bool false))),some (38,false)⟩,ak 46 (.pick (.t 38) (.c (.p (.bool true))) (.t 45)),⟨none,.store 1 (.t 6) (.t 46),none⟩]
 (.cu false [a7 47 5,a6 48 3 7,a7 49 48,a6 50 1 7,a7 51 50,⟨none,.UO .str (.t 47) (.t 49) (.t 51),none⟩]))) .skip))))
def FC:K:=.range (.t 20) [21] [2,5,6] jV jW
def nX:cL:=⟨53,[.cell 2 1 false],
 (aj [ak 1 (.box 5 true (.t 0) true),ak 2 (.alloc [(.p (.int .i64 0))] 1)]
 (.seq (aj [b7 12 5 1,bE 13 iZ [(.t 12),(kI 4096),(kI 64)],af 11 13,ak 14 (.extract (.t 11) 0),ak 15 (.extract (.t 11) 1),af 3 14,af 4 15]
 (aj [af 16 4,ak 17 (.not (.t 16))]
 (aN 17 (aj [⟨none,.store 1 (.t 2) (kI 7),none⟩]
 .ret) .skip)))
 (aj [ak 18 (.DV),ak 5 (.init 1 false (.t 18) true)]
 (aj [ak 6 (.init 1 false (.c (.p (.bool false))) false)]
 (.seq (aj [b7 19 5 1,bE 20 ss [(.t 19)]]
 (.block 0 FC))
 (.seq (aj [a7 52 6]
 (aN 52 (aj [⟨none,.store 1 (.t 2) (kI 12),none⟩]
 .ret) .skip))
 (aj [⟨none,.store 1 (.t 2) (kI 0),none⟩]
 .ret))))))),false⟩
def w7:cL:=⟨10,[.tmp 2],
 (aj [ak 1 (.box 5 true (.t 0) true),az 2 (.c .aC)]
 (aj [ak 3 (.alloc [.aC] 1)]
 (aj [b7 4 5 1,ak 5 (.zD fR [(.t 3)]),bE 6 ju [(.t 4),(.t 5)]]
 (aj [a7 7 3,bE 8 bf [(.t 7),(.c (.p (.fn dO [])))]]
 (aj [a7 9 3,af 2 9]
 .ret))))),false⟩
def A8:cL:=⟨17,[.tmp 4],
 (aj [ak 2 (.box 2 true (.t 0) true),ak 3 (.box 2 true (.t 1) true),az 4 (kI 0)]
 (.seq (.cu true [a6 5 0 2,a7 6 5,a6 7 0 3,a7 8 7,bE 9 pX [(.t 6),(.t 8)],a6 10 1 2,a7 11 10,a6 12 1 3,a7 13 12,bE 14 ui [(.t 11),(.t 13)],ak 15 (.dC 1 [(.p (.int .i64 0))] 2 [(0,1,(.t 9)),(1,1,(.t 14))]),bE 16 Cg [(.t 15)],af 4 16])
 .ret)),false⟩
def QQ:K :=
 (aj [aE 9 .lss (.t 8) (.t 7)]
 (.seq (aN 9 .skip (.exit 0))
 (.seq (.block 1 (aj [ak 10 (.au 1 (.t 6) (.t 8)),a7 11 10,af 5 11]
 (aj [af 12 5,af 13 3,aE 14 .neq (.t 12) (.t 13)]
 (aN 14 (aj [af 15 5,af 2 15]
 .ret) .skip))))
 (.cu false [aE 16 .add (.t 8) (kI 1),af 8 16]))))
def QR:K:=.loop [3,6,7,8] QQ
def GV:cL:=⟨18,[.tmp 2],
 (aj [az 2 (kI 0)]
 (aj [az 3 (kI 0)]
 (.seq (aj [af 6 0,ak 7 (.bJ (.t 6)),az 8 (kI 0)]
 (.block 0 QR))
 (aj [af 17 3,af 2 17]
 .ret)))),false⟩
def wP:cL:=⟨20,[.tmp 4],
 (aj [az 4 (kI 0)]
 (aj [af 7 0,bE 8 nZ [(.t 7)],af 5 8]
 (aj [af 9 1,bE 10 nZ [(.t 9)],af 6 10]
 (.seq (aj [af 11 5]
 (aN 11 (.seq (aj [af 12 6]
 (aN 12 (aj [az 4 (kI 0)]
 .ret) .skip))
 (aj [az 4 (kI (-1))]
 .ret)) .skip))
 (.seq (aj [af 13 6]
 (aN 13 (aj [az 4 (kI 1)]
 .ret) .skip))
 (.seq (aj [af 14 0,af 15 1,aE 16 .lss (.t 14) (.t 15)]
 (aN 16 (aj [az 4 (kI (-1))]
 .ret) .skip))
 (.seq (aj [af 17 0,af 18 1,aE 19 .gtr (.t 17) (.t 18)]
 (aN 19 (aj [az 4 (kI 1)]
 .ret) .skip))
 (aj [az 4 (kI 0)]
 .ret)))))))),false⟩
def zM:cL:=⟨20,[.tmp 4],
 (aj [az 4 (kI 0)]
 (aj [af 7 0,bE 8 rO [(.t 7)],af 5 8]
 (aj [af 9 1,bE 10 rO [(.t 9)],af 6 10]
 (.seq (aj [af 11 5]
 (aN 11 (.seq (aj [af 12 6]
 (aN 12 (aj [az 4 (kI 0)]
 .ret) .skip))
 (aj [az 4 (kI (-1))]
 .ret)) .skip))
 (.seq (aj [af 13 6]
 (aN 13 (aj [az 4 (kI 1)]
 .ret) .skip))
 (.seq (aj [af 14 0,af 15 1,aE 16 .lss (.t 14) (.t 15)]
 (aN 16 (aj [az 4 (kI (-1))]
 .ret) .skip))
 (.seq (aj [af 17 0,af 18 1,aE 19 .gtr (.t 17) (.t 18)]
 (aN 19 (aj [az 4 (kI 1)]
 .ret) .skip))
 (aj [az 4 (kI 0)]
 .ret)))))))),false⟩
def fO:K :=
 (aj [aE 33 .lss (.t 32) (.t 31)]
 (.seq (aN 33 .skip (.exit 0))
 (.seq (.block 1 (aj [af 34 32,ak 35 (.au 2 (.t 30) (.t 32)),b7 36 2 35,ak 9 (.alloc [(.p (.str (bs []))),(.p (.int .i64 0))] 2),af 8 34,⟨none,.store 2 (.t 9) (.t 36),none⟩]
 (.seq (aj [a7 38 7,a6 39 0 9,a7 40 39,ak 41 (.lookup .str (.p (.int .i64 0)) (.t 38) (.t 40) true),af 37 41,ak 42 (.extract (.t 37) 0),ak 43 (.extract (.t 37) 1),af 10 42,af 11 43]
 (aj [af 44 11]
 (aN 44 (aj [az 4 (.c .aC),az 5 (kI 12)]
 .ret) .skip)))
 (.cu false [a7 45 7,a6 46 0 9,a7 47 46,af 48 8,⟨none,.UO .str (.t 45) (.t 47) (.t 48),none⟩]))))
 (.cu false [aE 49 .add (.t 32) (kI 1),af 32 49]))))
def mg:K:=.loop [1,2,7,30,31,32] fO
def fP:K :=
 (aj [aE 54 .lss (.t 53) (.t 52)]
 (.seq (aN 54 .skip (.exit 2))
 (.seq (.block 3 (aj [ak 55 (.au 2 (.t 51) (.t 53)),b7 56 2 55,ak 13 (.init 2 true (.t 56) true)]
 (aj [a7 58 7,a6 59 0 13,a7 60 59,ak 61 (.lookup .str (.p (.int .i64 0)) (.t 58) (.t 60) true),af 57 61,ak 62 (.extract (.t 57) 0),ak 63 (.extract (.t 57) 1),af 14 62,af 15 63]
 (.seq (.cu true [af 64 15,ak 65 (.not (.t 64)),af 66 65,⟨some 67,.mv (.t 1) false,some (66,false)⟩,⟨some 68,.mv (.t 14) false,some (66,false)⟩,⟨some 69,.au 2 (.t 67) (.t 68),some (66,false)⟩,⟨some 70,.bP 1 (.t 69),some (66,false)⟩,⟨some 71,.load 1 false (.t 70),some (66,false)⟩,⟨some 72,.bP 1 (.t 13),some (66,false)⟩,⟨some 73,.load 1 false (.t 72),some (66,false)⟩,⟨some 74,.arith .neq (.t 71) (.t 73),some (66,false)⟩,ak 75 (.pick (.t 66) (.c (.p (.bool true))) (.t 74))])
 (aN 75 (aj [az 4 (.c .aC),az 5 (kI 12)]
 .ret) .skip)))))
 (.cu false [aE 76 .add (.t 53) (kI 1),af 53 76]))))
def wk:K:=.loop [1,2,7,51,52,53] fP
def iG:K :=
 (aj [aE 80 .lss (.t 79) (.t 78)]
 (.seq (aN 80 .skip (.exit 4))
 (.seq (.block 5 (aj [ak 81 (.au 2 (.t 77) (.t 79)),b7 82 2 81,ak 18 (.init 2 true (.t 82) true)]
 (aj [a6 83 1 18,a7 84 83,aE 85 .lss (.t 84) (kI 1),af 86 85,⟨some 87,.bP 1 (.t 18),some (86,false)⟩,⟨some 88,.load 1 false (.t 87),some (86,false)⟩,⟨some 89,.arith .gtr (.t 88) (kI 64),some (86,false)⟩,ak 90 (.pick (.t 86) (.c (.p (.bool true))) (.t 89))]
 (aN 90 (aj [az 4 (.c .aC),az 5 (kI 3)]
 .ret) .skip))))
 (.cu false [aE 91 .add (.t 79) (kI 1),af 79 91]))))
def wm:K:=.loop [1,2,7,16,77,78,79] iG
def l9:K :=
 (aj [aE 98 .lss (.t 97) (.t 96)]
 (.seq (aN 98 .skip (.exit 6))
 (.seq (.block 7 (aj [af 99 97,ak 100 (.au 2 (.t 95) (.t 97)),b7 101 2 100,ak 21 (.alloc [(.p (.str (bs []))),(.p (.int .i64 0))] 2),af 20 99,⟨none,.store 2 (.t 21) (.t 101),none⟩]
 (aj [a7 102 19,af 103 20,af 104 16,ak 105 (.au 1 (.t 102) (.t 103)),⟨none,.store 1 (.t 105) (.t 104),none⟩]
 (aj [af 106 16,a6 107 1 21,a7 108 107,aE 109 .add (.t 106) (.t 108),af 16 109]
 (aj [af 110 16,aE 111 .gtr (.t 110) (kI 16)]
 (aN 111 (aj [az 4 (.c .aC),az 5 (kI 7)]
 .ret) .skip))))))
 (.cu false [aE 112 .add (.t 97) (kI 1),af 97 112]))))
def wo:K:=.loop [2,7,16,19,95,96,97] l9
def oL:K :=
 (aj [aE 119 .lss (.t 118) (.t 117)]
 (.seq (aN 119 .skip (.exit 8))
 (.seq (.block 9 (aj [af 120 118,ak 23 (.init 1 false (.t 120) true)]
 (.cu false [af 121 22,b7 122 5 2,ak 123 (.zD fc [(.t 23),(.t 19),(.t 7)]),bE 124 lM [(.t 122),(.t 123)],ak 125 (.dC 1 [(.p (.int .u64 0))] 1 [(0,1,(.t 124))]),ak 126 (.append 1 8 (.t 121) (.t 125)),ak 22 (.mv (.t 126) true)])))
 (.cu false [aE 127 .add (.t 118) (kI 1),af 118 127]))))
def wq:K:=.loop [2,7,19,22,117,118] oL
def iH:cL:=⟨129,[.tmp 4,.tmp 5],
 (aj [ak 2 (.box 5 true (.t 0) true),az 4 (.c .aC),az 5 (kI 0)]
 (.seq (aj [b7 24 5 2,bE 25 lS [(.t 24)],af 6 25]
 (aj [af 26 6,aE 27 .neq (.t 26) (kI 0)]
 (aN 27 (aj [af 28 6,az 4 (.c .aC),af 5 28]
 .ret) .skip)))
 (aj [ak 29 (.DV),ak 7 (.init 1 false (.t 29) true)]
 (.seq (aj [af 30 1,ak 31 (.bJ (.t 30)),az 32 (kI 0)]
 (.block 0 mg))
 (.seq (aj [b7 50 5 2,bE 51 nL [(.t 50)],ak 52 (.bJ (.t 51)),az 53 (kI 0)]
 (.block 2 wk))
 (aj [az 16 (kI 0)]
 (.seq (aj [af 77 1,ak 78 (.bJ (.t 77)),az 79 (kI 0)]
 (.block 4 wm))
 (aj [af 92 1,ak 93 (.bJ (.t 92)),ak 94 (.wB 1 8 [(.p (.int .i64 0))] (.t 93) (.t 93)),ak 19 (.init 1 false (.t 94) true)]
 (.seq (aj [af 95 1,ak 96 (.bJ (.t 95)),az 97 (kI 0)]
 (.block 6 wo))
 (aj [af 113 16,aE 114 .shl (kI 1) (.t 113),ak 115 (.wB 1 8 [(.p (.int .u64 0))] (kI 0) (.t 114)),ak 22 (.mv (.t 115) true)]
 (.seq (aj [af 116 16,aE 117 .shl (kI 1) (.t 116),az 118 (kI 0)]
 (.block 8 wq))
 (aj [af 128 22,af 4 128,az 5 (kI 0)]
 .ret)))))))))))),false⟩
def eY:K :=
 (aj [aE 9 .lss (.t 8) (.t 7)]
 (.seq (aN 9 .skip (.exit 0))
 (.seq (.block 1 (aj [af 10 8,ak 4 (.init 1 false (.t 10) true)]
 (aj [ak 11 (.zD bT [(.t 4),(.t 2)]),af 5 11]
 (aj [af 12 0,a7 13 4,af 14 5,ak 15 (.qT (.t 12) [(.t 13),(.t 14)]),ak 16 (.not (.t 15))]
 (aN 16 .ret .skip)))))
 (.cu false [aE 17 .add (.t 8) (kI 1),af 8 17]))))
def iI:K:=.loop [0,2,7,8] eY
def et:cL:=⟨18,[],
 (aj [a7 6 1,aE 7 .shl (kI 1) (.t 6),az 8 (kI 0)]
 (.block 0 iI)),true⟩
def fS:K :=
 (aj [aE 12 .lss (.t 11) (.t 10)]
 (.seq (aN 12 .skip (.exit 0))
 (.seq (.block 1 (aj [ak 13 (.au 2 (.t 9) (.t 11)),b7 14 2 13,ak 6 (.init 2 true (.t 14) true)]
 (.seq (.cu true [af 15 3,a6 16 0 6,a7 17 16,af 18 4,a6 19 1 6,a7 20 19,aE 21 .shl (.c (.p (.int .u64 1))) (.t 20),aE 22 .sub (.t 21) (.c (.p (.int .u64 1))),aE 23 .and (.t 18) (.t 22),ak 24 (.build [(.p (.str (bs []))),(.p (.int .u64 0))] [(0,1,(.t 17)),(1,1,(.t 23))]),ak 25 (.dC 2 [(.p (.str (bs []))),(.p (.int .u64 0))] 1 [(0,2,(.t 24))]),ak 26 (.append 2 24 (.t 15) (.t 25)),ak 3 (.mv (.t 26) true)])
 (.cu false [af 27 4,a6 28 1 6,a7 29 28,aE 30 .shr (.t 27) (.t 29),af 4 30]))))
 (.cu false [aE 31 .add (.t 11) (kI 1),af 11 31]))))
def kD:K:=.loop [3,4,9,10,11] fS
def eN:cL:=⟨33,[.tmp 2],
 (aj [az 2 (.c .aC)]
 (aj [ak 3 (.mv (.c .aC) true)]
 (aj [a7 7 0,ak 8 (.conv .u64 (.t 7)),af 4 8]
 (.seq (aj [a7 9 1,ak 10 (.bJ (.t 9)),az 11 (kI 0)]
 (.block 0 kD))
 (aj [af 32 3,af 2 32]
 .ret))))),false⟩
def bG:K :=
 (.seq (aj [af 15 9,af 16 10,aE 17 .lss (.t 15) (.t 16)]
 (aN 17 .skip (.exit 0)))
 (.block 1 (aj [af 18 9,af 19 10,aE 20 .add (.t 18) (.t 19),ak 21 (.conv .u64 (.t 20)),aE 22 .shr (.t 21) (.c (.p (.int .u64 1))),ak 23 (.conv .i64 (.t 22)),af 11 23]
 (aj [af 24 2,af 25 0,af 26 11,ak 27 (.au 2 (.t 25) (.t 26)),b7 28 2 27,af 29 1,ak 30 (.qT (.t 24) [(.t 28),(.t 29)]),aE 31 .lss (.t 30) (kI 0)]
 (aN 31 (.cu false [af 32 11,aE 33 .add (.t 32) (kI 1),af 9 33]) (.cu false [af 34 11,af 10 34]))))))
def b8:K:=.loop [0,1,2,8,9,10] bG
def aT:cL:=⟨49,[.tmp 6,.tmp 7],
 (aj [az 6 (kI 0),az 7 (.c (.p (.bool false)))]
 (aj [af 12 0,ak 13 (.bJ (.t 12)),af 8 13]
 (aj [af 14 8,az 9 (kI 0),af 10 14]
 (.seq (.block 0 b8)
 (aj [af 35 9,af 36 9,af 37 8,aE 38 .lss (.t 36) (.t 37),af 39 38,⟨some 40,.mv (.t 2) false,some (39,true)⟩,⟨some 41,.mv (.t 0) false,some (39,true)⟩,⟨some 42,.mv (.t 9) false,some (39,true)⟩,⟨some 43,.au 2 (.t 41) (.t 42),some (39,true)⟩,⟨some 44,.load 2 true (.t 43),some (39,true)⟩,⟨some 45,.mv (.t 1) false,some (39,true)⟩,⟨some 46,.qT (.t 40) [(.t 44),(.t 45)],some (39,true)⟩,⟨some 47,.arith .eql (.t 46) (kI 0),some (39,true)⟩,ak 48 (.pick (.t 39) (.t 47) (.c (.p (.bool false)))),af 6 35,af 7 48]
 .ret))))),false⟩
def hZ:cL:=⟨9,[.tmp 4],
 (aj [ak 2 (.box 2 true (.t 0) true),az 4 (kI 0)]
 (aj [a6 5 0 2,a7 6 5,af 7 1,bE 8 eX [(.t 6),(.t 7)],af 4 8]
 .ret)),false⟩
def lF:cL:=⟨8,[.tmp 4],
 (aj [az 4 (kI 0)]
 (aj [af 5 0,af 6 1,bE 7 bZ [(.t 5),(.t 6)],af 4 7]
 .ret)),false⟩
def mQ:cL:=⟨42,[.tmp 2],
 (aj [az 2 (kI 0)]
 (aj [az 3 (kI 0)]
 (.seq (aj [af 4 0]
 (.block 0 (.seq (.block 4 (.seq (.block 3 (.seq (.block 2 (.seq (.block 1 (.seq (.seq (aj [aE 6 .eql (.t 4) (kI 19),af 5 6]
 (aN 5 (.exit 1) .skip))
 (.seq (.seq (aj [aE 8 .eql (.t 4) (kI 5),af 7 8]
 (aN 7 .skip (aj [aE 9 .eql (.t 4) (kI 6),af 7 9]
 (aN 7 .skip (aj [aE 10 .eql (.t 4) (kI 7),af 7 10]
 (aN 7 .skip (aj [aE 11 .eql (.t 4) (kI 8),af 7 11]
 (aN 7 .skip (aj [aE 12 .eql (.t 4) (kI 9),af 7 12]
 (aN 7 .skip (aj [aE 13 .eql (.t 4) (kI 10),af 7 13]
 (aN 7 .skip (aj [aE 14 .eql (.t 4) (kI 11),af 7 14]
 (aN 7 .skip (aj [aE 15 .eql (.t 4) (kI 12),af 7 15]
 (aN 7 .skip (aj [aE 16 .eql (.t 4) (kI 13),af 7 16]
 (aN 7 .skip (aj [aE 17 .eql (.t 4) (kI 14),af 7 17]
 (aN 7 .skip (aj [aE 18 .eql (.t 4) (kI 15),af 7 18]
 (aN 7 .skip (aj [aE 19 .eql (.t 4) (kI 16),af 7 19]
 (aN 7 .skip (aj [aE 20 .eql (.t 4) (kI 17),af 7 20]
 (aN 7 .skip (aj [aE 21 .eql (.t 4) (kI 18),af 7 21]
 (aN 7 .skip (.cu false [aE 22 .eql (.t 4) (kI 20),af 7 22])))))))))))))))))))))))))))))
 (aN 7 (.exit 2) .skip))
 (.seq (.seq (aj [aE 24 .eql (.t 4) (kI 3),af 23 24]
 (aN 23 .skip (aj [aE 25 .eql (.t 4) (kI 4),af 23 25]
 (aN 23 .skip (aj [aE 26 .eql (.t 4) (kI 21),af 23 26]
 (aN 23 .skip (aj [aE 27 .eql (.t 4) (kI 22),af 23 27]
 (aN 23 .skip (aj [aE 28 .eql (.t 4) (kI 23),af 23 28]
 (aN 23 .skip (.cu false [aE 29 .eql (.t 4) (kI 26),af 23 29])))))))))))
 (aN 23 (.exit 3) .skip))
 (.seq (aj [aE 31 .eql (.t 4) (kI 1),af 30 31]
 (aN 30 .skip (aj [aE 32 .eql (.t 4) (kI 2),af 30 32]
 (aN 30 .skip (aj [aE 33 .eql (.t 4) (kI 24),af 30 33]
 (aN 30 .skip (.cu false [aE 34 .eql (.t 4) (kI 25),af 30 34])))))))
 (aN 30 (.exit 4) .skip)))))
 (.exit 0)))
 (.cu false [af 35 3,aE 36 .add (.t 35) (kI 1),af 3 36])))
 (.cu false [af 37 3,aE 38 .add (.t 37) (kI 1),af 3 38])))
 (.cu false [af 39 3,aE 40 .add (.t 39) (kI 1),af 3 40])))
 (.seq (aj [af 41 3,af 2 41]
 .ret)
 (.exit 0)))))
 (aj [az 2 (kI (-1))]
 .ret)))),false⟩
def po:K :=
 (.cu false [ak 5 (.init 5 true (.t 8) true)])
def pq:K :=
 (.block 1 (aj [a7 9 3,a6 10 0 5,a7 11 10,bE 12 cd [(.t 9),(.t 11)]]
 (aN 12 (aj [⟨none,.store 1 (.t 4) (.c (.p (.bool true))),none⟩]
 .ret) .skip)))
def Dq:K:=.range (.t 7) [8] [3,4] po pq
def ri:cL:=⟨13,[.cell 4 1 false],
 (aj [ak 2 (.box 5 true (.t 0) true),ak 3 (.box 1 false (.t 1) true),ak 4 (.alloc [(.p (.bool false))] 1)]
 (.seq (aj [b7 6 5 2,bE 7 dq [(.t 6)]]
 (.block 0 Dq))
 (aj [⟨none,.store 1 (.t 4) (.c (.p (.bool false))),none⟩]
 .ret))),false⟩
def tJ:cL:=⟨6,[.tmp 2],
 (aj [ak 1 (.box 5 true (.t 0) true),az 2 (.c (.p (.bool false)))]
 (aj [b7 3 5 1,ak 4 (.build oU []),bE 5 iY [(.t 3),(.t 4)],af 2 5]
 .ret)),false⟩
def yN:cL:=⟨6,[.tmp 2],
 (aj [az 2 (.c (.p (.bool false)))]
 (aj [af 3 0,ak 4 (.dC 1 [(.p (.int .i64 0))] 4 [(0,1,(kI 1)),(1,1,(kI 2)),(2,1,(kI 24)),(3,1,(kI 25))]),bE 5 xh [(.t 3),(.t 4)],af 2 5]
 .ret)),false⟩
def EU:K :=
 (aj [aE 9 .lss (.t 8) (.t 7)]
 (.seq (aN 9 .skip (.exit 0))
 (.seq (.block 1 (aj [af 10 8,af 5 10]
 (aj [af 11 1,af 12 5,ak 13 (.au 1 (.t 11) (.t 12)),a7 14 13,af 15 0,aE 16 .eql (.t 14) (.t 15)]
 (aN 16 (aj [az 4 (.c (.p (.bool true)))]
 .ret) .skip))))
 (.cu false [aE 17 .add (.t 8) (kI 1),af 8 17]))))
def EX:K:=.loop [0,1,7,8] EU
def Bb:cL:=⟨18,[.tmp 4],
 (aj [az 4 (.c (.p (.bool false)))]
 (.seq (aj [af 6 1,ak 7 (.bJ (.t 6)),az 8 (kI 0)]
 (.block 0 EX))
 (aj [az 4 (.c (.p (.bool false)))]
 .ret))),false⟩
def wT:cL:=⟨9,[.tmp 2],
 (aj [az 2 (.c (.p (.bool false)))]
 (aj [af 3 0,aE 4 .geq (.t 3) (kI 0),af 5 4,⟨some 6,.mv (.t 0) false,some (5,true)⟩,⟨some 7,.arith .leq (.t 6) (kI 64),some (5,true)⟩,ak 8 (.pick (.t 5) (.t 7) (.c (.p (.bool false)))),af 2 8]
 .ret)),false⟩
def yO:cL:=⟨31,[.tmp 6,.tmp 7],
 (aj [az 6 (kI 0),az 7 (kI 0)]
 (.seq (aj [af 8 1,bE 9 lO [(.t 8)],ak 10 (.not (.t 9)),af 11 10,⟨some 12,.mv (.t 0) false,some (11,false)⟩,⟨some 13,.arith .eql (.t 12) (kI 2),some (11,false)⟩,⟨some 14,.mv (.t 13) false,some (11,false)⟩,⟨some 15,.mv (.t 1) false,some (14,true)⟩,⟨some 16,.arith .gtr (.t 15) (kI 0),some (14,true)⟩,⟨some 17,.pick (.t 14) (.t 16) (.c (.p (.bool false))),some (11,false)⟩,⟨some 18,.mv (.t 17) false,some (11,false)⟩,⟨some 19,.mv (.t 1) false,some (18,true)⟩,⟨some 20,.arith .lss (.t 19) (kI 64),some (18,true)⟩,⟨some 21,.pick (.t 18) (.t 20) (.c (.p (.bool false))),some (11,false)⟩,⟨some 22,.mv (.t 21) false,some (11,false)⟩,⟨some 23,.mv (.t 2) false,some (22,true)⟩,⟨some 24,.mv (.t 1) false,some (22,true)⟩,⟨some 25,.conv .u64 (.t 24),some (22,true)⟩,⟨some 26,.arith .shl (.c (.p (.int .u64 1))) (.t 25),some (22,true)⟩,⟨some 27,.arith .geq (.t 23) (.t 26),some (22,true)⟩,⟨some 28,.pick (.t 22) (.t 27) (.c (.p (.bool false))),some (11,false)⟩,ak 29 (.pick (.t 11) (.c (.p (.bool true))) (.t 28))]
 (aN 29 (aj [az 6 (kI 0),az 7 (kI 3)]
 .ret) .skip))
 (aj [af 30 1,af 6 30,az 7 (kI 0)]
 .ret))),false⟩
def wS:cL:=⟨46,[.tmp 8,.tmp 9],
 (aj [az 8 (kI 0),az 9 (kI 0)]
 (.seq (aj [af 10 1,bE 11 lO [(.t 10)],ak 12 (.not (.t 11)),af 13 12,⟨some 14,.mv (.t 1) false,some (13,false)⟩,⟨some 15,.arith .lss (.t 14) (kI 1),some (13,false)⟩,ak 16 (.pick (.t 13) (.c (.p (.bool true))) (.t 15)),af 17 16,⟨some 18,.mv (.t 3) false,some (17,false)⟩,⟨some 19,.arith .lss (.t 18) (kI 1),some (17,false)⟩,ak 20 (.pick (.t 17) (.c (.p (.bool true))) (.t 19))]
 (aN 20 (aj [az 8 (kI 0),az 9 (kI 3)]
 .ret) .skip))
 (.seq (aj [af 21 0,aE 22 .eql (.t 21) (kI 21),af 23 22,⟨some 24,.mv (.t 1) false,some (23,true)⟩,⟨some 25,.mv (.t 3) false,some (23,true)⟩,⟨some 26,.arith .gtr (.t 24) (.t 25),some (23,true)⟩,⟨some 27,.mv (.t 26) false,some (23,true)⟩,⟨some 28,.mv (.t 2) false,some (27,false)⟩,⟨some 29,.mv (.t 3) false,some (27,false)⟩,⟨some 30,.mv (.t 1) false,some (27,false)⟩,⟨some 31,.arith .sub (.t 29) (.t 30),some (27,false)⟩,⟨some 32,.conv .u64 (.t 31),some (27,false)⟩,⟨some 33,.arith .gtr (.t 28) (.t 32),some (27,false)⟩,⟨some 34,.pick (.t 27) (.c (.p (.bool true))) (.t 33),some (23,true)⟩,ak 35 (.pick (.t 23) (.t 34) (.c (.p (.bool false)))),af 36 35,⟨some 37,.mv (.t 0) false,some (36,false)⟩,⟨some 38,.arith .neq (.t 37) (kI 21),some (36,false)⟩,⟨some 39,.mv (.t 38) false,some (36,false)⟩,⟨some 40,.mv (.t 1) false,some (39,true)⟩,⟨some 41,.mv (.t 3) false,some (39,true)⟩,⟨some 42,.arith .lss (.t 40) (.t 41),some (39,true)⟩,⟨some 43,.pick (.t 39) (.t 42) (.c (.p (.bool false))),some (36,false)⟩,ak 44 (.pick (.t 36) (.c (.p (.bool true))) (.t 43))]
 (aN 44 (aj [az 8 (kI 0),az 9 (kI 3)]
 .ret) .skip))
 (aj [af 45 1,af 8 45,az 9 (kI 0)]
 .ret)))),false⟩
def wM:cL:=⟨7,[.tmp 2],
 (aj [az 2 (.c (.p (.int .u64 0)))]
 (aj [af 3 0,bE 4 fY [(.t 3)],aE 5 .sub (kI 64) (.t 4),aE 6 .shr (.c (.p (.int .u64 18446744073709551615))) (.t 5),af 2 6]
 .ret)),false⟩
def pz:cL:=⟨9,[.tmp 2],
 (aj [az 2 (.c (.p (.bool false)))]
 (aj [af 3 0,aE 4 .geq (.t 3) (kI 1),af 5 4,⟨some 6,.mv (.t 0) false,some (5,true)⟩,⟨some 7,.arith .leq (.t 6) (kI 26),some (5,true)⟩,ak 8 (.pick (.t 5) (.t 7) (.c (.p (.bool false)))),af 2 8]
 .ret)),false⟩
def oy:cL:=⟨9,[.tmp 2],
 (aj [az 2 (.c (.p (.bool false)))]
 (aj [af 3 0,aE 4 .geq (.t 3) (kI 0),af 5 4,⟨some 6,.mv (.t 0) false,some (5,true)⟩,⟨some 7,.arith .leq (.t 6) (kI 64),some (5,true)⟩,ak 8 (.pick (.t 5) (.t 7) (.c (.p (.bool false)))),af 2 8]
 .ret)),false⟩
def rh:cL:=⟨26,[.tmp 6,.tmp 7],
 (aj [az 6 (kI 0),az 7 (kI 0)]
 (.seq (aj [af 8 1,bE 9 gP [(.t 8)],ak 10 (.not (.t 9)),af 11 10,⟨some 12,.mv (.t 0) false,some (11,false)⟩,⟨some 13,.arith .eql (.t 12) (kI 2),some (11,false)⟩,⟨some 14,.mv (.t 13) false,some (11,false)⟩,⟨some 15,.mv (.t 1) false,some (14,true)⟩,⟨some 16,.arith .gtr (.t 15) (kI 0),some (14,true)⟩,⟨some 17,.pick (.t 14) (.t 16) (.c (.p (.bool false))),some (11,false)⟩,⟨some 18,.mv (.t 17) false,some (11,false)⟩,⟨some 19,.mv (.t 2) false,some (18,true)⟩,⟨some 20,.mv (.t 1) false,some (18,true)⟩,⟨some 21,.arith .shr (.t 19) (.t 20),some (18,true)⟩,⟨some 22,.arith .neq (.t 21) (.c (.p (.int .u64 0))),some (18,true)⟩,⟨some 23,.pick (.t 18) (.t 22) (.c (.p (.bool false))),some (11,false)⟩,ak 24 (.pick (.t 11) (.c (.p (.bool true))) (.t 23))]
 (aN 24 (aj [az 6 (kI 0),az 7 (kI 3)]
 .ret) .skip))
 (aj [af 25 1,af 6 25,az 7 (kI 0)]
 .ret))),false⟩
def mS:cL:=⟨45,[.tmp 8,.tmp 9],
 (aj [az 8 (kI 0),az 9 (kI 0)]
 (.seq (aj [af 10 1,aE 11 .lss (.t 10) (kI 1),af 12 11,⟨some 13,.mv (.t 1) false,some (12,false)⟩,⟨some 14,.arith .gtr (.t 13) (kI 64),some (12,false)⟩,ak 15 (.pick (.t 12) (.c (.p (.bool true))) (.t 14)),af 16 15,⟨some 17,.mv (.t 3) false,some (16,false)⟩,⟨some 18,.arith .lss (.t 17) (kI 1),some (16,false)⟩,ak 19 (.pick (.t 16) (.c (.p (.bool true))) (.t 18))]
 (aN 19 (aj [az 8 (kI 0),az 9 (kI 3)]
 .ret) .skip))
 (.seq (aj [af 20 0,aE 21 .neq (.t 20) (kI 21),af 22 21,⟨some 23,.mv (.t 1) false,some (22,true)⟩,⟨some 24,.mv (.t 3) false,some (22,true)⟩,⟨some 25,.arith .lss (.t 23) (.t 24),some (22,true)⟩,ak 26 (.pick (.t 22) (.t 25) (.c (.p (.bool false)))),af 27 26,⟨some 28,.mv (.t 0) false,some (27,false)⟩,⟨some 29,.arith .eql (.t 28) (kI 21),some (27,false)⟩,⟨some 30,.mv (.t 29) false,some (27,false)⟩,⟨some 31,.mv (.t 1) false,some (30,true)⟩,⟨some 32,.mv (.t 3) false,some (30,true)⟩,⟨some 33,.arith .gtr (.t 31) (.t 32),some (30,true)⟩,⟨some 34,.mv (.t 33) false,some (30,true)⟩,⟨some 35,.mv (.t 2) false,some (34,false)⟩,⟨some 36,.mv (.t 3) false,some (34,false)⟩,⟨some 37,.mv (.t 1) false,some (34,false)⟩,⟨some 38,.arith .sub (.t 36) (.t 37),some (34,false)⟩,⟨some 39,.conv .u64 (.t 38),some (34,false)⟩,⟨some 40,.arith .gtr (.t 35) (.t 39),some (34,false)⟩,⟨some 41,.pick (.t 34) (.c (.p (.bool true))) (.t 40),some (30,true)⟩,⟨some 42,.pick (.t 30) (.t 41) (.c (.p (.bool false))),some (27,false)⟩,ak 43 (.pick (.t 27) (.c (.p (.bool true))) (.t 42))]
 (aN 43 (aj [az 8 (kI 0),az 9 (kI 3)]
 .ret) .skip))
 (aj [af 44 1,af 8 44,az 9 (kI 0)]
 .ret)))),false⟩
def ox:cL:=⟨9,[.tmp 4,.tmp 5],
 (aj [az 4 (kI 0),az 5 (kI 0)]
 (.seq (aj [af 6 0,ak 7 (.not (.t 6))]
 (aN 7 (aj [az 4 (kI 0),az 5 (kI 3)]
 .ret) .skip))
 (aj [af 8 1,af 4 8,az 5 (kI 0)]
 .ret))),false⟩
def ow:K :=
 (aj [aE 24 .lss (.t 23) (.t 22)]
 (.seq (aN 24 .skip (.exit 0))
 (.seq (.block 1 (aj [ak 25 (.au 5 (.t 21) (.t 23)),b7 26 5 25,ak 9 (.init 5 true (.t 26) true)]
 (aj [b7 28 5 9,af 29 1,af 30 2,aE 31 .sub (.t 30) (kI 1),bE 32 iZ [(.t 28),(.t 29),(.t 31)],af 27 32,ak 33 (.extract (.t 27) 0),ak 34 (.extract (.t 27) 1),af 10 33,af 11 34]
 (.seq (aj [af 35 11,ak 36 (.not (.t 35))]
 (aN 36 (aj [az 6 (kI 0),az 7 (.c (.p (.bool false)))]
 .ret) .skip))
 (.cu false [af 37 10,af 1 37])))))
 (.cu false [aE 38 .add (.t 23) (kI 1),af 23 38]))))
def rJ:K:=.loop [1,2,21,22,23] ow
def iR:cL:=⟨40,[.tmp 6,.tmp 7],
 (aj [ak 3 (.box 5 true (.t 0) true),az 6 (kI 0),az 7 (.c (.p (.bool false)))]
 (.seq (aj [af 12 1,aE 13 .lss (.t 12) (kI 1),af 14 13,⟨some 15,.mv (.t 2) false,some (14,false)⟩,⟨some 16,.arith .lss (.t 15) (kI 1),some (14,false)⟩,ak 17 (.pick (.t 14) (.c (.p (.bool true))) (.t 16))]
 (aN 17 (aj [az 6 (kI 0),az 7 (.c (.p (.bool false)))]
 .ret) .skip))
 (aj [af 18 1,aE 19 .sub (.t 18) (kI 1),af 1 19]
 (.seq (aj [a6 20 4 3,a7 21 20,ak 22 (.bJ (.t 21)),az 23 (kI 0)]
 (.block 0 rJ))
 (aj [af 39 1,af 6 39,az 7 (.c (.p (.bool true)))]
 .ret))))),false⟩
def yQ:cL:=⟨4,[.tmp 2],
 (aj [ak 1 (.box 5 true (.t 0) true),az 2 (.c (.p .zc))]
 (aj [ak 3 (.zD jR [(.t 1)]),af 2 3]
 .ret)),false⟩
def gN:cL:=⟨82,[.tmp 2],
 (aj [ak 1 (.box 5 true (.t 0) true),az 2 (kI 0)]
 (.seq (.block 0 (.seq (.cu true [a6 6 0 1,a7 7 6,bE 8 fe [(.t 7)],aE 9 .lss (.t 8) (kI 0),af 10 9,⟨some 11,.bP 0 (.t 1),some (10,false)⟩,⟨some 12,.load 1 false (.t 11),some (10,false)⟩,⟨some 13,.dV iw [(.t 12)],some (10,false)⟩,ak 14 (.pick (.t 10) (.c (.p (.bool true))) (.t 13)),af 15 14,⟨some 16,.bP 4 (.t 1),some (15,false)⟩,⟨some 17,.load 1 false (.t 16),some (15,false)⟩,⟨some 18,.bJ (.t 17),some (15,false)⟩,⟨some 19,.bP 0 (.t 1),some (15,false)⟩,⟨some 20,.load 1 false (.t 19),some (15,false)⟩,⟨some 21,.dV fe [(.t 20)],some (15,false)⟩,⟨some 22,.arith .neq (.t 18) (.t 21),some (15,false)⟩,ak 23 (.pick (.t 15) (.c (.p (.bool true))) (.t 22)),af 5 23])
 (aN 5 (aj [az 2 (kI 4)]
 .ret) (aj [a6 25 0 1,a7 26 25,aE 27 .neq (.t 26) (kI 1),af 28 27,⟨some 29,.bP 3 (.t 1),some (28,true)⟩,⟨some 30,.load 1 false (.t 29),some (28,true)⟩,⟨some 31,.arith .neq (.t 30) (.c (.p (.str (bs [])))),some (28,true)⟩,ak 32 (.pick (.t 28) (.t 31) (.c (.p (.bool false)))),af 24 32]
 (aN 24 (aj [az 2 (kI 4)]
 .ret) (aj [a6 34 0 1,a7 35 34,aE 36 .neq (.t 35) (kI 2),af 37 36,⟨some 38,.bP 0 (.t 1),some (37,true)⟩,⟨some 39,.load 1 false (.t 38),some (37,true)⟩,⟨some 40,.arith .neq (.t 39) (kI 21),some (37,true)⟩,ak 41 (.pick (.t 37) (.t 40) (.c (.p (.bool false)))),af 42 41,⟨some 43,.bP 2 (.t 1),some (42,true)⟩,⟨some 44,.load 1 false (.t 43),some (42,true)⟩,⟨some 45,.arith .neq (.t 44) (.c (.p (.int .u64 0))),some (42,true)⟩,ak 46 (.pick (.t 42) (.t 45) (.c (.p (.bool false)))),af 33 46]
 (aN 33 (aj [az 2 (kI 4)]
 .ret) (aj [a6 48 0 1,a7 49 48,aE 50 .eql (.t 49) (kI 1),af 51 50,⟨some 52,.bP 3 (.t 1),some (51,true)⟩,⟨some 53,.load 1 false (.t 52),some (51,true)⟩,⟨some 54,.dV j9 [(.t 53)],some (51,true)⟩,⟨some 55,.not (.t 54),some (51,true)⟩,ak 56 (.pick (.t 51) (.t 55) (.c (.p (.bool false)))),af 47 56]
 (aN 47 (aj [az 2 (kI 5)]
 .ret) (aj [a6 58 1 1,a7 59 58,aE 60 .lss (.t 59) (kI 1),af 57 60]
 (aN 57 (aj [az 2 (kI 3)]
 .ret) .skip)))))))))))
 (.seq (.seq (.cu true [a6 62 0 1,a7 63 62,a6 64 1 1,a7 65 64,a6 66 2 1,a7 67 66,a6 68 4 1,a7 69 68,bE 70 mz [(.t 69)],bE 71 gi [(.t 63),(.t 65),(.t 67),(.t 70)],af 61 71,ak 72 (.extract (.t 61) 0),ak 73 (.extract (.t 61) 1),af 3 72,af 4 73])
 (aj [af 74 4,aE 75 .neq (.t 74) (kI 0),af 76 75,⟨some 77,.mv (.t 3) false,some (76,false)⟩,⟨some 78,.bP 1 (.t 1),some (76,false)⟩,⟨some 79,.load 1 false (.t 78),some (76,false)⟩,⟨some 80,.arith .neq (.t 77) (.t 79),some (76,false)⟩,ak 81 (.pick (.t 76) (.c (.p (.bool true))) (.t 80))]
 (aN 81 (aj [az 2 (kI 3)]
 .ret) .skip)))
 (aj [az 2 (kI 0)]
 .ret)))),false⟩
def mN:K :=
 (aj [aE 15 .lss (.t 14) (.t 13)]
 (.seq (aN 15 .skip (.exit 0))
 (.seq (.block 1 (aj [ak 16 (.au 5 (.t 12) (.t 14)),b7 17 5 16,ak 6 (.init 5 true (.t 17) true)]
 (aj [b7 18 5 6,af 19 1,bE 20 ju [(.t 18),(.t 19)],ak 21 (.not (.t 20))]
 (aN 21 (aj [az 4 (.c (.p (.bool false)))]
 .ret) .skip))))
 (.cu false [aE 22 .add (.t 14) (kI 1),af 14 22]))))
def qK:K:=.loop [1,12,13,14] mN
def fq:cL:=⟨23,[.tmp 4],
 (aj [ak 2 (.box 5 true (.t 0) true),az 4 (.c (.p (.bool false)))]
 (.seq (aj [af 7 1,b7 8 5 2,ak 9 (.qT (.t 7) [(.t 8)]),ak 10 (.not (.t 9))]
 (aN 10 (aj [az 4 (.c (.p (.bool false)))]
 .ret) .skip))
 (.seq (aj [a6 11 4 2,a7 12 11,ak 13 (.bJ (.t 12)),az 14 (kI 0)]
 (.block 0 qK))
 (aj [az 4 (.c (.p (.bool true)))]
 .ret)))),true⟩
def mf:cL:=⟨23,[.tmp 3],
 (aj [ak 2 (.box 5 true (.t 0) true),az 3 (.c (.p (.bool false)))]
 (aj [ak 5 (.zD dY [(.t 2)]),af 4 5]
 (.seq (aj [a6 6 0 2,a7 7 6,aE 8 .eql (.t 7) (kI 1),af 9 8,⟨some 10,.load 1 false (.t 1),some (9,true)⟩,⟨some 11,.mv (.t 4) false,some (9,true)⟩,⟨some 12,.dV bH [(.t 10),(.t 11)],some (9,true)⟩,⟨some 13,.not (.t 12),some (9,true)⟩,ak 14 (.pick (.t 9) (.t 13) (.c (.p (.bool false))))]
 (aN 14 (.cu false [a7 15 1,a6 16 3 2,a7 17 16,a6 18 1 2,a7 19 18,ak 20 (.build [(.p (.str (bs []))),(.p (.int .i64 0))] [(0,1,(.t 17)),(1,1,(.t 19))]),ak 21 (.dC 2 [(.p (.str (bs []))),(.p (.int .i64 0))] 1 [(0,2,(.t 20))]),ak 22 (.append 2 24 (.t 15) (.t 21)),⟨none,.store 1 (.t 1) (.t 22),none⟩]) .skip))
 (aj [az 3 (.c (.p (.bool true)))]
 .ret)))),true⟩
def oE:cL:=⟨9,[.tmp 3],
 (aj [ak 2 (.box 2 true (.t 0) true),az 3 (.c (.p (.bool false)))]
 (aj [a6 4 0 2,a7 5 4,a6 6 3 1,a7 7 6,aE 8 .eql (.t 5) (.t 7),af 3 8]
 .ret)),false⟩
def bX:cL:=⟨9,[.tmp 4],
 (aj [az 4 (.c (.p (.bool false)))]
 (aj [af 5 0,af 6 1,bE 7 bA [(.t 5),(.t 6)],aE 8 .geq (.t 7) (kI 0),af 4 8]
 .ret)),false⟩
def FA:cL:=⟨10,[.tmp 4],
 (aj [ak 2 (.box 2 true (.t 0) true),ak 3 (.box 2 true (.t 1) true),az 4 (kI 0)]
 (aj [a6 5 0 2,a7 6 5,a6 7 0 3,a7 8 7,bE 9 eX [(.t 6),(.t 8)],af 4 9]
 .ret)),false⟩
def yM:cL:=⟨6,[.tmp 2],
 (aj [az 2 (.c (.p (.bool false)))]
 (aj [af 3 0,af 4 0,aE 5 .neq (.t 3) (.t 4),af 2 5]
 .ret)),false⟩
def CO:cL:=⟨6,[.tmp 2],
 (aj [az 2 (.c (.p (.bool false)))]
 (aj [af 3 0,af 4 0,aE 5 .neq (.t 3) (.t 4),af 2 5]
 .ret)),false⟩
def v7:K :=
 (aj [aE 23 .lss (.t 22) (.t 21)]
 (.seq (aN 23 .skip (.exit 0))
 (.seq (.block 1 (aj [ak 24 (.au 5 (.t 20) (.t 22)),b7 25 5 24,ak 8 (.init 5 true (.t 25) true)]
 (.cu true [af 26 6,a6 27 1 8,a7 28 27,b7 29 5 8,af 30 1,bE 31 lM [(.t 29),(.t 30)],ak 32 (.build [(.p (.int .i64 0)),(.p (.int .u64 0))] [(0,1,(.t 28)),(1,1,(.t 31))]),ak 33 (.dC 2 [(.p (.int .i64 0)),(.p (.int .u64 0))] 1 [(0,2,(.t 32))]),ak 34 (.append 2 16 (.t 26) (.t 33)),ak 6 (.mv (.t 34) true)])))
 (.cu false [aE 35 .add (.t 22) (kI 1),af 22 35]))))
def AJ:K:=.loop [1,2,6,20,21,22] v7
def qB:cL:=⟨44,[.tmp 4],
 (aj [ak 2 (.box 5 true (.t 0) true),az 4 (.c (.p (.int .u64 0)))]
 (.seq (aj [a6 9 0 2,a7 10 9,aE 11 .eql (.t 10) (kI 1)]
 (aN 11 (.seq (.Fy [a6 12 1 2,a7 13 12,af 14 1,b7 15 5 2,ak 16 (.qT (.t 14) [(.t 15)]),bE 17 bN [(.t 13),(.t 16)],af 4 17] [(1,4)])
 .ret) .skip))
 (aj [ak 5 (.alloc [(.p (.int .i64 0)),(.p (.int .u64 0)),(.p (.int .i64 0)),(.p (.int .u64 0)),(.p (.int .i64 0)),(.p (.int .u64 0))] 6)]
 (aj [ak 18 (.ahX 3 2 (.t 5) none (some (kI 0)) none),ak 6 (.mv (.t 18) true)]
 (.seq (aj [a6 19 4 2,a7 20 19,ak 21 (.bJ (.t 20)),az 22 (kI 0)]
 (.block 0 AJ))
 (aj [a6 36 0 2,a7 37 36,a6 38 1 2,a7 39 38,a6 40 2 2,a7 41 40,af 42 6,bE 43 eA [(.t 37),(.t 39),(.t 41),(.t 42)],af 4 43]
 .ret)))))),false⟩
def px:cL:=⟨16,[.tmp 5],
 (aj [ak 4 (.box 5 true (.t 0) true),az 5 (.c (.p (.int .u64 0)))]
 (.seq (.cu true [a7 6 1,ak 7 (.conv .u64 (.t 6)),a7 8 2,a7 9 3,a6 10 3 4,a7 11 10,ak 12 (.lookup .str (.p (.int .i64 0)) (.t 9) (.t 11) false),ak 13 (.au 1 (.t 8) (.t 12)),a7 14 13,aE 15 .shr (.t 7) (.t 14),af 5 15])
 .ret)),false⟩
def dh:cL:=⟨8,[.tmp 4],
 (aj [az 4 (kI 0)]
 (aj [af 5 0,af 6 1,bE 7 dQ [(.t 5),(.t 6)],af 4 7]
 .ret)),false⟩
def dy:cL:=⟨9,[.tmp 4],
 (aj [az 4 (.c (.p (.bool false)))]
 (aj [af 5 0,af 6 1,bE 7 cI [(.t 5),(.t 6)],aE 8 .geq (.t 7) (kI 0),af 4 8]
 .ret)),false⟩
def tF:cL:=⟨6,[.tmp 2],
 (aj [az 2 (kI 0)]
 (aj [af 3 0,ak 4 (.sv true [(.t 3),(kI 1)]),ak 5 (.sv false [(.t 4),(kI 64)]),af 2 5]
 .ret)),false⟩
def tV:cL:=⟨6,[],
 (aj [ak 2 (.box 1 false (.t 0) true)]
 (.cu false [b7 3 5 1,ak 4 (.zD gu [(.t 2)]),bE 5 iz [(.t 3),(.t 4)]])),true⟩
def lz:K :=
 (aj [aE 11 .lss (.t 10) (.t 9)]
 (.seq (aN 11 .skip (.exit 0))
 (.seq (.block 1 (aj [ak 12 (.au 5 (.t 8) (.t 10)),b7 13 5 12,ak 6 (.init 5 true (.t 13) true)]
 (aj [b7 14 5 6,af 15 1,bE 16 iz [(.t 14),(.t 15)],ak 17 (.not (.t 16))]
 (aN 17 (aj [az 4 (.c (.p (.bool false)))]
 .ret) .skip))))
 (.cu false [aE 18 .add (.t 10) (kI 1),af 10 18]))))
def o9:K:=.loop [1,2,8,9,10] lz
def ir:cL:=⟨22,[.tmp 4],
 (aj [ak 2 (.box 5 true (.t 0) true),az 4 (.c (.p (.bool false)))]
 (.seq (aj [a6 7 4 2,a7 8 7,ak 9 (.bJ (.t 8)),az 10 (kI 0)]
 (.block 0 o9))
 (aj [af 19 1,b7 20 5 2,ak 21 (.qT (.t 19) [(.t 20)]),af 4 21]
 .ret))),true⟩
def pK:cL:=⟨8,[.tmp 3],
 (aj [ak 2 (.box 5 true (.t 0) true),az 3 (.c (.p (.bool false)))]
 (.seq (.cu true [a7 4 1,b7 5 5 2,bE 6 iX [(.t 5)],ak 7 (.qT (.t 4) [(.t 6)]),af 3 7])
 .ret)),true⟩
def mR:cL:=⟨9,[.tmp 2],
 (aj [az 2 (.c (.p (.bool false)))]
 (aj [af 3 0,aE 4 .geq (.t 3) (kI 24),af 5 4,⟨some 6,.mv (.t 0) false,some (5,true)⟩,⟨some 7,.arith .leq (.t 6) (kI 26),some (5,true)⟩,ak 8 (.pick (.t 5) (.t 7) (.c (.p (.bool false)))),af 2 8]
 .ret)),false⟩
def tD:K :=
 (aj [aE 12 .lss (.t 11) (.t 10)]
 (.seq (aN 12 .skip (.exit 0))
 (.seq (.block 1 (aj [af 13 11,ak 14 (.au 5 (.t 9) (.t 11)),b7 15 5 14,ak 5 (.alloc oU 5),af 4 13,⟨none,.store 5 (.t 5) (.t 15),none⟩]
 (.cu false [af 16 3,af 17 4,a6 18 1 5,a7 19 18,ak 20 (.au 1 (.t 16) (.t 17)),⟨none,.store 1 (.t 20) (.t 19),none⟩])))
 (.cu false [aE 21 .add (.t 11) (kI 1),af 11 21]))))
def yR:K:=.loop [3,9,10,11] tD
def rl:cL:=⟨23,[.tmp 2],
 (aj [az 2 (.c .aC)]
 (aj [af 6 0,ak 7 (.bJ (.t 6)),ak 8 (.wB 1 8 [(.p (.int .i64 0))] (.t 7) (.t 7)),af 3 8]
 (.seq (aj [af 9 0,ak 10 (.bJ (.t 9)),az 11 (kI 0)]
 (.block 0 yR))
 (aj [af 22 3,af 2 22]
 .ret)))),false⟩
def cO:K :=
 (aj [aE 9 .lss (.t 8) (.t 7)]
 (.seq (aN 9 .skip (.exit 0))
 (.seq (.block 1 (aj [af 10 8,af 5 10]
 (aj [af 11 1,af 12 0,af 13 5,ak 14 (.au 2 (.t 12) (.t 13)),b7 15 2 14,ak 16 (.qT (.t 11) [(.t 15)])]
 (aN 16 (aj [af 17 5,af 4 17]
 .ret) .skip))))
 (.cu false [aE 18 .add (.t 8) (kI 1),af 8 18]))))
def dN:K:=.loop [0,1,7,8] cO
def cm:cL:=⟨19,[.tmp 4],
 (aj [az 4 (kI 0)]
 (.seq (aj [af 6 0,ak 7 (.bJ (.t 6)),az 8 (kI 0)]
 (.block 0 dN))
 (aj [az 4 (kI (-1))]
 .ret))),false⟩
def dg:cL:=⟨105,[.tmp 8],
 (aj [az 8 (.c (.p (.int .u64 0)))]
 (.seq (aj [af 9 0]
 (.block 0 (aj [aE 11 .eql (.t 9) (kI 2),af 10 11]
 (aN 10 (aj [af 12 2,af 8 12]
 .ret) (aj [aE 14 .eql (.t 9) (kI 3),af 13 14]
 (aN 13 (aj [af 15 1,af 16 3,ak 17 (.au 2 (.t 16) (kI 0)),a6 18 1 17,a7 19 18,bE 20 sd [(.t 15),(.t 19)],af 8 20]
 .ret) (aj [aE 22 .eql (.t 9) (kI 4),af 21 22]
 (aN 21 (aj [af 23 1,af 24 3,ak 25 (.au 2 (.t 24) (kI 0)),a6 26 1 25,a7 27 26,bE 28 r9 [(.t 23),(.t 27)],af 8 28]
 .ret) (aj [aE 30 .eql (.t 9) (kI 19),af 29 30]
 (aN 29 (.seq (aj [af 31 3,ak 32 (.au 2 (.t 31) (kI 0)),a6 33 1 32,a7 34 33,aE 35 .eql (.t 34) (.c (.p (.int .u64 1)))]
 (aN 35 (aj [af 36 3,ak 37 (.au 2 (.t 36) (kI 1)),a6 38 1 37,a7 39 38,af 8 39]
 .ret) .skip))
 (aj [af 40 3,ak 41 (.au 2 (.t 40) (kI 2)),a6 42 1 41,a7 43 42,af 8 43]
 .ret)) (aj [aE 45 .eql (.t 9) (kI 20),af 44 45]
 (aN 44 (.seq (.cu true [af 46 3,ak 47 (.au 2 (.t 46) (kI 0)),a6 48 0 47,a7 49 48,af 50 3,ak 51 (.au 2 (.t 50) (kI 1)),a6 52 0 51,a7 53 52,af 54 3,ak 55 (.au 2 (.t 54) (kI 0)),a6 56 1 55,a7 57 56,af 58 3,ak 59 (.au 2 (.t 58) (kI 1)),a6 60 1 59,a7 61 60,bE 62 ml [(.t 49),(.t 53),(.t 57),(.t 61)],af 8 62])
 .ret) (aj [aE 64 .eql (.t 9) (kI 21),af 63 64]
 (aN 63 (aj [af 65 2,ak 66 (.conv .i64 (.t 65)),af 67 1,af 68 3,ak 69 (.au 2 (.t 68) (kI 0)),a6 70 1 69,a7 71 70,bE 72 kE [(.t 66),(.t 67),(.t 71)],af 8 72]
 .ret) (aj [aE 74 .eql (.t 9) (kI 22),af 73 74]
 (aN 73 (aj [af 75 3,ak 76 (.au 2 (.t 75) (kI 0)),a6 77 1 76,a7 78 77,af 8 78]
 .ret) (aj [aE 80 .eql (.t 9) (kI 23),af 79 80]
 (aN 79 (.seq (.cu true [af 81 3,ak 82 (.au 2 (.t 81) (kI 0)),a6 83 0 82,a7 84 83,af 85 1,af 86 3,ak 87 (.au 2 (.t 86) (kI 0)),a6 88 1 87,a7 89 88,bE 90 pU [(.t 84),(.t 85),(.t 89)],af 8 90])
 .ret) .skip))))))))))))))))))
 (.seq (.cu true [af 91 0,af 92 3,ak 93 (.au 2 (.t 92) (kI 0)),a6 94 0 93,a7 95 94,af 96 3,ak 97 (.au 2 (.t 96) (kI 0)),a6 98 1 97,a7 99 98,af 100 3,ak 101 (.au 2 (.t 100) (kI 1)),a6 102 1 101,a7 103 102,bE 104 mm [(.t 91),(.t 95),(.t 99),(.t 103)],af 8 104])
 .ret))),false⟩
def eT:K :=
 (aj [aE 9 .lss (.t 8) (.t 7)]
 (.seq (aN 9 .skip (.exit 0))
 (.seq (.block 1 (aj [af 10 8,af 5 10]
 (aj [af 11 1,af 12 0,af 13 5,ak 14 (.au 1 (.t 12) (.t 13)),a7 15 14,aE 16 .eql (.t 11) (.t 15)]
 (aN 16 (aj [af 17 5,af 4 17]
 .ret) .skip))))
 (.cu false [aE 18 .add (.t 8) (kI 1),af 8 18]))))
def eV:K:=.loop [0,1,7,8] eT
def de:cL:=⟨19,[.tmp 4],
 (aj [az 4 (kI 0)]
 (.seq (aj [af 6 0,ak 7 (.bJ (.t 6)),az 8 (kI 0)]
 (.block 0 eV))
 (aj [az 4 (kI (-1))]
 .ret))),false⟩
def yG:cL:=⟨9,[.tmp 4],
 (aj [az 4 (.c (.p (.int .u64 0)))]
 (aj [af 5 0,af 6 1,ak 7 (.Kt (.t 6)),bE 8 bN [(.t 5),(.t 7)],af 4 8]
 .ret)),false⟩
def yF:cL:=⟨9,[.tmp 4],
 (aj [az 4 (.c (.p (.int .u64 0)))]
 (aj [af 5 0,af 6 1,ak 7 (.neg (.t 6)),bE 8 bN [(.t 5),(.t 7)],af 4 8]
 .ret)),false⟩
def q8:cL:=⟨19,[.tmp 8],
 (aj [az 8 (.c (.p (.int .u64 0)))]
 (.seq (.cu true [af 9 0,af 10 2,bE 11 bN [(.t 9),(.t 10)],af 12 1,bE 13 fY [(.t 12)],aE 14 .shl (.t 11) (.t 13),af 15 1,af 16 3,bE 17 bN [(.t 15),(.t 16)],aE 18 .or (.t 14) (.t 17),af 8 18])
 .ret)),false⟩
def mO:cL:=⟨14,[.tmp 6],
 (aj [az 6 (.c (.p (.int .u64 0)))]
 (.seq (aj [af 7 0,aE 8 .lss (.t 7) (kI 0)]
 (aN 8 (aj [az 6 (.c (.p (.int .u64 0)))]
 .ret) .skip))
 (aj [af 9 1,af 10 2,af 11 0,aE 12 .shr (.t 10) (.t 11),bE 13 bN [(.t 9),(.t 12)],af 6 13]
 .ret))),false⟩
def wN:cL:=⟨13,[.tmp 6],
 (aj [az 6 (.c (.p (.int .u64 0)))]
 (aj [af 7 1,af 8 0,af 9 2,bE 10 eZ [(.t 8),(.t 9)],ak 11 (.conv .u64 (.t 10)),bE 12 bN [(.t 7),(.t 11)],af 6 12]
 .ret)),false⟩
def cx:cL:=⟨95,[.tmp 8],
 (aj [az 8 (.c (.p (.int .u64 0)))]
 (.seq (aj [af 9 0]
 (.block 0 (aj [aE 11 .eql (.t 9) (kI 5),af 10 11]
 (aN 10 (aj [af 12 1,af 13 2,af 14 3,bE 15 r7 [(.t 12),(.t 13),(.t 14)],af 8 15]
 .ret) (aj [aE 17 .eql (.t 9) (kI 6),af 16 17]
 (aN 16 (aj [af 18 1,af 19 2,af 20 3,bE 21 vA [(.t 18),(.t 19),(.t 20)],af 8 21]
 .ret) (aj [aE 23 .eql (.t 9) (kI 7),af 22 23]
 (aN 22 (aj [af 24 1,af 25 2,af 26 3,bE 27 sj [(.t 24),(.t 25),(.t 26)],af 8 27]
 .ret) (aj [aE 29 .eql (.t 9) (kI 8),af 28 29]
 (aN 28 (aj [af 30 1,af 31 2,af 32 3,bE 33 r6 [(.t 30),(.t 31),(.t 32)],af 8 33]
 .ret) (aj [aE 35 .eql (.t 9) (kI 9),af 34 35]
 (aN 34 (aj [af 36 1,af 37 2,af 38 3,bE 39 sg [(.t 36),(.t 37),(.t 38)],af 8 39]
 .ret) (aj [aE 41 .eql (.t 9) (kI 10),af 40 41]
 (aN 40 (aj [af 42 1,af 43 2,af 44 3,bE 45 r8 [(.t 42),(.t 43),(.t 44)],af 8 45]
 .ret) (aj [aE 47 .eql (.t 9) (kI 11),af 46 47]
 (aN 46 (aj [af 48 1,af 49 2,af 50 3,bE 51 pV [(.t 48),(.t 49),(.t 50)],af 8 51]
 .ret) (aj [aE 53 .eql (.t 9) (kI 12),af 52 53]
 (aN 52 (aj [af 54 1,af 55 2,af 56 3,bE 57 pW [(.t 54),(.t 55),(.t 56)],af 8 57]
 .ret) (aj [aE 59 .eql (.t 9) (kI 13),af 58 59]
 (aN 58 (aj [af 60 1,af 61 2,af 62 3,bE 63 se [(.t 60),(.t 61),(.t 62)],af 8 63]
 .ret) (aj [aE 65 .eql (.t 9) (kI 14),af 64 65]
 (aN 64 (aj [af 66 1,af 67 2,af 68 3,bE 69 pT [(.t 66),(.t 67),(.t 68)],af 8 69]
 .ret) (aj [aE 71 .eql (.t 9) (kI 15),af 70 71]
 (aN 70 (aj [af 72 1,af 73 2,af 74 3,bE 75 pS [(.t 72),(.t 73),(.t 74)],af 8 75]
 .ret) (aj [aE 77 .eql (.t 9) (kI 16),af 76 77]
 (aN 76 (.seq (aj [af 78 1,af 79 2,bE 80 nE [(.t 78),(.t 79)],af 81 1,af 82 3,bE 83 nE [(.t 81),(.t 82)],ak 84 (.eqA false [.int,.int] (.t 80) (.t 83))]
 (aN 84 (aj [az 8 (.c (.p (.int .u64 1)))]
 .ret) .skip))
 (aj [az 8 (.c (.p (.int .u64 0)))]
 .ret)) (aj [aE 86 .eql (.t 9) (kI 17),af 85 86]
 (aN 85 (aj [af 87 1,af 88 2,af 89 3,bE 90 si [(.t 87),(.t 88),(.t 89)],af 8 90]
 .ret) .skip))))))))))))))))))))))))))))
 (aj [af 91 1,af 92 2,af 93 3,bE 94 sf [(.t 91),(.t 92),(.t 93)],af 8 94]
 .ret))),false⟩
def q9:cL:=⟨15,[.tmp 4],
 (aj [az 4 (kI 0)]
 (aj [af 6 0,bE 7 fY [(.t 6)],aE 8 .sub (kI 64) (.t 7),af 5 8]
 (aj [af 9 1,af 10 5,aE 11 .shl (.t 9) (.t 10),ak 12 (.conv .i64 (.t 11)),af 13 5,aE 14 .shr (.t 12) (.t 13),af 4 14]
 .ret))),false⟩
def yC:cL:=⟨12,[.tmp 6],
 (aj [az 6 (.c (.p (.int .u64 0)))]
 (aj [af 7 0,af 8 1,af 9 2,aE 10 .and (.t 8) (.t 9),bE 11 bN [(.t 7),(.t 10)],af 6 11]
 .ret)),false⟩
def A7:cL:=⟨12,[.tmp 6],
 (aj [az 6 (.c (.p (.int .u64 0)))]
 (aj [af 7 0,af 8 1,af 9 2,aE 10 .or (.t 8) (.t 9),bE 11 bN [(.t 7),(.t 10)],af 6 11]
 .ret)),false⟩
def yL:cL:=⟨12,[.tmp 6],
 (aj [az 6 (.c (.p (.int .u64 0)))]
 (aj [af 7 0,af 8 1,af 9 2,aE 10 .xor (.t 8) (.t 9),bE 11 bN [(.t 7),(.t 10)],af 6 11]
 .ret)),false⟩
def yB:cL:=⟨12,[.tmp 6],
 (aj [az 6 (.c (.p (.int .u64 0)))]
 (aj [af 7 0,af 8 1,af 9 2,aE 10 .add (.t 8) (.t 9),bE 11 bN [(.t 7),(.t 10)],af 6 11]
 .ret)),false⟩
def yJ:cL:=⟨12,[.tmp 6],
 (aj [az 6 (.c (.p (.int .u64 0)))]
 (aj [af 7 0,af 8 1,af 9 2,aE 10 .sub (.t 8) (.t 9),bE 11 bN [(.t 7),(.t 10)],af 6 11]
 .ret)),false⟩
def yE:cL:=⟨12,[.tmp 6],
 (aj [az 6 (.c (.p (.int .u64 0)))]
 (aj [af 7 0,af 8 1,af 9 2,aE 10 .mul (.t 8) (.t 9),bE 11 bN [(.t 7),(.t 10)],af 6 11]
 .ret)),false⟩
def sD:cL:=⟨22,[.tmp 6],
 (aj [az 6 (.c (.p (.int .u64 0)))]
 (aj [af 9 0,af 10 1,bE 11 bN [(.t 9),(.t 10)],af 12 0,af 13 2,bE 14 bN [(.t 12),(.t 13)],af 7 11,af 8 14]
 (.seq (aj [af 15 8,aE 16 .eql (.t 15) (.c (.p (.int .u64 0)))]
 (aN 16 (aj [af 17 0,bE 18 j4 [(.t 17)],af 6 18]
 .ret) .skip))
 (aj [af 19 7,af 20 8,aE 21 .quo (.t 19) (.t 20),af 6 21]
 .ret)))),false⟩
def sE:cL:=⟨21,[.tmp 6],
 (aj [az 6 (.c (.p (.int .u64 0)))]
 (aj [af 9 0,af 10 1,bE 11 bN [(.t 9),(.t 10)],af 12 0,af 13 2,bE 14 bN [(.t 12),(.t 13)],af 7 11,af 8 14]
 (.seq (aj [af 15 8,aE 16 .eql (.t 15) (.c (.p (.int .u64 0)))]
 (aN 16 (aj [af 17 7,af 6 17]
 .ret) .skip))
 (aj [af 18 7,af 19 8,aE 20 .rem (.t 18) (.t 19),af 6 20]
 .ret)))),false⟩
def yH:cL:=⟨11,[.tmp 6],
 (aj [az 6 (.c (.p (.int .u64 0)))]
 (aj [af 7 0,af 8 1,af 9 2,bE 10 fZ [(kI 0),(.t 7),(.t 8),(.t 9)],af 6 10]
 .ret)),false⟩
def wL:cL:=⟨11,[.tmp 6],
 (aj [az 6 (.c (.p (.int .u64 0)))]
 (aj [af 7 0,af 8 1,af 9 2,bE 10 fZ [(kI 1),(.t 7),(.t 8),(.t 9)],af 6 10]
 .ret)),false⟩
def wK:cL:=⟨11,[.tmp 6],
 (aj [az 6 (.c (.p (.int .u64 0)))]
 (aj [af 7 0,af 8 1,af 9 2,bE 10 fZ [(kI 2),(.t 7),(.t 8),(.t 9)],af 6 10]
 .ret)),false⟩
def wQ:cL:=⟨10,[.cell 4 2 true],
 (aj [ak 4 (.alloc [(.p (.int .i64 0)),(.p (.int .u64 0))] 2)]
 (aj [af 5 0,af 6 0,af 7 1,bE 8 bN [(.t 6),(.t 7)],ak 9 (.build [(.p (.int .i64 0)),(.p (.int .u64 0))] [(0,1,(.t 5)),(1,1,(.t 8))]),⟨none,.store 2 (.t 4) (.t 9),none⟩]
 .ret)),false⟩
def yK:cL:=⟨15,[.tmp 6],
 (aj [az 6 (.c (.p (.int .u64 0)))]
 (aj [af 7 0,af 8 1,bE 9 bN [(.t 7),(.t 8)],af 10 0,af 11 2,bE 12 bN [(.t 10),(.t 11)],aE 13 .lss (.t 9) (.t 12),bE 14 nD [(.t 13)],af 6 14]
 .ret)),false⟩
def yI:cL:=⟨15,[.tmp 6],
 (aj [az 6 (.c (.p (.int .u64 0)))]
 (aj [af 7 0,af 8 1,bE 9 eZ [(.t 7),(.t 8)],af 10 0,af 11 2,bE 12 eZ [(.t 10),(.t 11)],aE 13 .lss (.t 9) (.t 12),bE 14 nD [(.t 13)],af 6 14]
 .ret)),false⟩
def fo:cL:=⟨53,[.tmp 8],
 (aj [az 8 (.c (.p (.int .u64 0)))]
 (aj [af 12 1,af 13 2,bE 14 bN [(.t 12),(.t 13)],af 15 1,af 16 3,bE 17 bN [(.t 15),(.t 16)],af 9 14,af 10 17]
 (aj [af 18 10,af 19 1,bE 20 fY [(.t 19)],ak 21 (.conv .u64 (.t 20)),aE 22 .geq (.t 18) (.t 21),af 11 22]
 (.seq (aj [af 23 0]
 (.block 0 (.seq (.block 2 (.seq (.block 1 (.seq (.seq (aj [aE 25 .eql (.t 23) (kI 2),af 24 25]
 (aN 24 (.exit 1) .skip))
 (aj [aE 27 .eql (.t 23) (kI 1),af 26 27]
 (aN 26 (.exit 2) .skip)))
 (.exit 0)))
 (aj [af 28 1,af 29 9,bE 30 eZ [(.t 28),(.t 29)],aE 31 .lss (.t 30) (kI 0)]
 (aN 31 (.seq (aj [af 32 11]
 (aN 32 (aj [af 33 1,bE 34 j4 [(.t 33)],af 8 34]
 .ret) .skip))
 (aj [af 35 1,af 36 1,af 37 9,bE 38 eZ [(.t 36),(.t 37)],af 39 10,aE 40 .shr (.t 38) (.t 39),ak 41 (.conv .u64 (.t 40)),bE 42 bN [(.t 35),(.t 41)],af 8 42]
 .ret)) .skip))))
 (.seq (.seq (aj [af 43 11]
 (aN 43 (aj [az 8 (.c (.p (.int .u64 0)))]
 .ret) .skip))
 (aj [af 44 9,af 45 10,aE 46 .shr (.t 44) (.t 45),af 8 46]
 .ret))
 (.exit 0)))))
 (.seq (aj [af 47 11]
 (aN 47 (aj [az 8 (.c (.p (.int .u64 0)))]
 .ret) .skip))
 (aj [af 48 1,af 49 9,af 50 10,aE 51 .shl (.t 49) (.t 50),bE 52 bN [(.t 48),(.t 51)],af 8 52]
 .ret)))))),false⟩
def wO:cL:=⟨4,[.tmp 2],
 (aj [az 2 (.c (.p (.int .u64 0)))]
 (.seq (aj [af 3 0]
 (aN 3 (aj [az 2 (.c (.p (.int .u64 1)))]
 .ret) .skip))
 (aj [az 2 (.c (.p (.int .u64 0)))]
 .ret))),false⟩
def tbl:List (FuncId×cL):=[
 (iv,dS),
 (qi,nA),
 (j6,rf),
 (jP,qD),
 (qg,iP),
 (sZ,oM),
 (y2,rk),
 (so,mc),
 (eC,pJ),
 (js,oC),
 (mu,ma),
 (jq,nT),
 (oh,nV),
 (fH,eK),
 (nH,wW),
 (lQ,tP),
 (nI,wX),
 (uj,pE),
 (p8,sF),
 (iJ,tK),
 (gj,mU),
 (gS,wZ),
 (j9,jY),
 (fg,iQ),
 (gk,pF),
 (oi,qE),
 (gm,pG),
 (oj,nW),
 (gn,pH),
 (eF,eD),
 (gp,mV),
 (lR,lE),
 (gq,mW),
 (gr,pI),
 (mw,oN),
 (od,mb),
 (sq,kC),
 (j8,jX),
 (fG,sH),
 (qh,bz),
 (iK,lC),
 (sk,py),
 (rq,wV),
 (og,qC),
 (iy,iq),
 (aS,bg),
 (jt,oD),
 (eW,lD),
 (bR,gH),
 (nJ,wY),
 (gh,tH),
 (qk,yP),
 (gO,fp),
 (vC,Ba),
 (qe,vd),
 (iY,lG),
 (gQ,oz),
 (jQ,tQ),
 (iW,pA),
 (iX,w5),
 (nG,nz),
 (kJ,dI),
 (nK,w6),
 (lT,tW),
 (gR,lg),
 (dq,kA),
 (dr,kB),
 (a8,cy),
 (mn,bS),
 (qj,sL),
 (jr,oB),
 (qc,wU),
 (p9,rW),
 (fu,oA),
 (sn,cH),
 (qf,sG),
 (eB,pC),
 (sU,yq),
 (sr,me),
 (lN,jN),
 (xi,rj),
 (aQ,bm),
 (j5,wR),
 (ff,pD),
 (kF,iN),
 (di,lA),
 (fE,mP),
 (ep,hU),
 (Ch,GW),
 (vB,A9),
 (oe,nU),
 (aL,aK),
 (eo,jD),
 (kH,bt),
 (b9,iO),
 (jo,gM),
 (bU,cQ),
 (n9,lB),
 (iV,ku),
 (qd,u7),
 (j7,pB),
 (nF,ej),
 (lP,tM),
 (bN,yD),
 (gi,dH),
 (fF,mT),
 (lS,nX),
 (nL,w7),
 (cR,A8),
 (Cg,GV),
 (pX,wP),
 (ui,zM),
 (lL,iH),
 (cg,et),
 (bT,eN),
 (aU,aT),
 (cF,hZ),
 (eX,lF),
 (fe,mQ),
 (mr,ri),
 (oc,tJ),
 (pY,yN),
 (xh,Bb),
 (lO,wT),
 (sm,yO),
 (pZ,wS),
 (j4,wM),
 (kG,pz),
 (gP,oy),
 (mq,rh),
 (ix,mS),
 (eE,ox),
 (iZ,iR),
 (ss,yQ),
 (ql,gN),
 (ju,fq),
 (fR,mf),
 (dY,oE),
 (bH,bX),
 (dO,FA),
 (nZ,yM),
 (rO,CO),
 (lM,qB),
 (fc,px),
 (bZ,dh),
 (cd,dy),
 (fY,tF),
 (jR,tV),
 (iz,ir),
 (gu,pK),
 (iw,mR),
 (mz,rl),
 (bA,cm),
 (eA,dg),
 (cI,de),
 (sd,yG),
 (r9,yF),
 (ml,q8),
 (kE,mO),
 (pU,wN),
 (mm,cx),
 (eZ,q9),
 (r7,yC),
 (vA,A7),
 (sj,yL),
 (r6,yB),
 (sg,yJ),
 (r8,yE),
 (pV,sD),
 (pW,sE),
 (se,yH),
 (pT,wL),
 (pS,wK),
 (nE,wQ),
 (si,yK),
 (sf,yI),
 (fZ,fo),
 (nD,wO)]
def P:Prog:={ fn:=fun f=>tbl.lookup f,US:=fun f=>if f=dj then some (yv)else if f=bf then some (yw dO cR)else if f=cD then some (xl 2 okV)else if f=bO then some (Fa 2 24)else if f=dQ then some (Ep xm)else none }
theorem GD:P.fn iv=some dS:=rfl
theorem K8:P.fn qi=some nA:=rfl
theorem F0:P.fn j6=some rf:=rfl
theorem Ir:P.fn jP=some qD:=rfl
theorem K6:P.fn qg=some iP:=rfl
theorem S9:P.fn sZ=some oM:=rfl
theorem X6:P.fn y2=some rk:=rfl
theorem Pp:P.fn so=some mc:=rfl
theorem Em:P.fn eC=some pJ:=rfl
theorem C2:P.fn js=some oC:=rfl
theorem F3:P.fn mu=some ma:=rfl
theorem Pj:P.fn jq=some nT:=rfl
theorem It:P.fn oh=some nV:=rfl
theorem BH:P.fn fH=some eK:=rfl
theorem K9:P.fn nH=some wW:=rfl
theorem Is:P.fn lQ=some tP:=rfl
theorem Lc:P.fn nI=some wX:=rfl
theorem Ed:P.fn uj=some pE:=rfl
theorem K1:P.fn p8=some sF:=rfl
theorem Ik:P.fn iJ=some tK:=rfl
theorem Ee:P.fn gj=some mU:=rfl
theorem Le:P.fn gS=some wZ:=rfl
theorem Lg:P.fn j9=some jY:=rfl
theorem Ef:P.fn fg=some iQ:=rfl
theorem Eg:P.fn gk=some pF:=rfl
theorem Iu:P.fn oi=some qE:=rfl
theorem Eh:P.fn gm=some pG:=rfl
theorem Iw:P.fn oj=some nW:=rfl
theorem Ei:P.fn gn=some pH:=rfl
theorem CX:P.fn eF=some eD:=rfl
theorem Ej:P.fn gp=some mV:=rfl
theorem Iv:P.fn lR=some lE:=rfl
theorem Ek:P.fn gq=some mW:=rfl
theorem El:P.fn gr=some pI:=rfl
theorem F4:P.fn mw=some oN:=rfl
theorem Pl:P.fn od=some mb:=rfl
theorem Pq:P.fn sq=some kC:=rfl
theorem K4:P.fn j8=some jX:=rfl
theorem La:P.fn fG=some sH:=rfl
theorem K7:P.fn qh=some bz:=rfl
theorem Il:P.fn iK=some lC:=rfl
theorem Pe:P.fn sk=some py:=rfl
theorem X4:P.fn rq=some wV:=rfl
theorem Iq:P.fn og=some qC:=rfl
theorem BG:P.fn iy=some iq:=rfl
theorem iE:P.fn aS=some bg:=rfl
theorem C3:P.fn jt=some oD:=rfl
theorem Al:P.fn eW=some lD:=rfl
theorem xP:P.fn bR=some gH:=rfl
theorem Ld:P.fn nJ=some wY:=rfl
theorem Ih:P.fn gh=some tH:=rfl
theorem Pr:P.fn qk=some yP:=rfl
theorem CU:P.fn gO=some fp:=rfl
theorem S7:P.fn vC=some Ba:=rfl
theorem Pn:P.fn qe=some vd:=rfl
theorem Lh:P.fn iY=some lG:=rfl
theorem CY:P.fn gQ=some oz:=rfl
theorem Ix:P.fn jQ=some tQ:=rfl
theorem D8:P.fn iW=some pA:=rfl
theorem Lf:P.fn iX=some w5:=rfl
theorem K2:P.fn nG=some nz:=rfl
theorem Pt:P.fn kJ=some dI:=rfl
theorem Li:P.fn nK=some w6:=rfl
theorem Iz:P.fn lT=some tW:=rfl
theorem CZ:P.fn gR=some lg:=rfl
theorem zi:P.fn dq=some kA:=rfl
theorem zj:P.fn dr=some kB:=rfl
theorem kZ:P.fn a8=some cy:=rfl
theorem FZ:P.fn mn=some bS:=rfl
theorem Lb:P.fn qj=some sL:=rfl
theorem C1:P.fn jr=some oB:=rfl
theorem K3:P.fn qc=some wU:=rfl
theorem Pk:P.fn p9=some rW:=rfl
theorem C0:P.fn fu=some oA:=rfl
theorem Po:P.fn sn=some cH:=rfl
theorem K5:P.fn qf=some sG:=rfl
theorem Eb:P.fn eB=some pC:=rfl
theorem S8:P.fn sU=some yq:=rfl
theorem Ps:P.fn sr=some me:=rfl
theorem Im:P.fn lN=some jN:=rfl
theorem X5:P.fn xi=some rj:=rfl
theorem jH:P.fn aQ=some bm:=rfl
theorem KW:P.fn j5=some wR:=rfl
theorem Ec:P.fn ff=some pD:=rfl
theorem D3:P.fn kF=some iN:=rfl
theorem Aj:P.fn di=some lA:=rfl
theorem BC:P.fn fE=some mP:=rfl
theorem uX:P.fn ep=some hU:=rfl
theorem afE:P.fn Ch=some GW:=rfl
theorem S6:P.fn vB=some A9:=rfl
theorem Io:P.fn oe=some nU:=rfl
theorem dZ:P.fn aL=some aK:=rfl
theorem xQ:P.fn eo=some jD:=rfl
theorem D9:P.fn kH=some bt:=rfl
theorem Ea:P.fn b9=some iO:=rfl
theorem Mo:P.fn jo=some gM:=rfl
theorem ng:P.fn bU=some cQ:=rfl
theorem Ii:P.fn n9=some lB:=rfl
theorem D4:P.fn iV=some ku:=rfl
theorem Pm:P.fn qd=some u7:=rfl
theorem KX:P.fn j7=some pB:=rfl
theorem KY:P.fn nF=some ej:=rfl
theorem Ip:P.fn lP=some tM:=rfl
theorem O4:P.fn bN=some yD:=rfl
theorem D6:P.fn gi=some dH:=rfl
theorem BF:P.fn fF=some mT:=rfl
theorem Iy:P.fn lS=some nX:=rfl
theorem Lj:P.fn nL=some w7:=rfl
theorem Ie:P.fn lL=some iH:=rfl
theorem BB:P.fn cg=some et:=rfl
theorem qW:P.fn bT=some eN:=rfl
theorem eQ:P.fn aU=some aT:=rfl
theorem uY:P.fn cF=some hZ:=rfl
theorem Am:P.fn eX=some lF:=rfl
theorem D5:P.fn fe=some mQ:=rfl
theorem F2:P.fn mr=some ri:=rfl
theorem Ij:P.fn oc=some tJ:=rfl
theorem Pf:P.fn pY=some yN:=rfl
theorem X3:P.fn xh=some Bb:=rfl
theorem K0:P.fn lO=some wT:=rfl
theorem Ph:P.fn sm=some yO:=rfl
theorem KZ:P.fn pZ=some wS:=rfl
theorem KQ:P.fn j4=some wM:=rfl
theorem D7:P.fn kG=some pz:=rfl
theorem CW:P.fn gP=some oy:=rfl
theorem F1:P.fn mq=some rh:=rfl
theorem BE:P.fn ix=some mS:=rfl
theorem CV:P.fn eE=some ox:=rfl
theorem En:P.fn iZ=some iR:=rfl
theorem Pu:P.fn ss=some yQ:=rfl
theorem Lk:P.fn ql=some gN:=rfl
theorem Mp:P.fn ju=some fq:=rfl
theorem Ru:P.fn fR=some mf:=rfl
theorem C4:P.fn dY=some oE:=rfl
theorem jg:P.fn bH=some bX:=rfl
theorem Ig:P.fn lM=some qB:=rfl
theorem D1:P.fn fc=some px:=rfl
theorem lW:P.fn bZ=some dh:=rfl
theorem mD:P.fn cd=some dy:=rfl
theorem Ib:P.fn fY=some tF:=rfl
theorem UQ:P.fn jR=some tV:=rfl
theorem J4:P.fn iz=some ir:=rfl
theorem Pv:P.fn gu=some pK:=rfl
theorem BD:P.fn iw=some mR:=rfl
theorem F5:P.fn mz=some rl:=rfl
theorem kK:P.fn bA=some cm:=rfl
theorem D2:P.fn eA=some dg:=rfl
theorem oH:P.fn cI=some de:=rfl
theorem O7:P.fn sd=some yG:=rfl
theorem O6:P.fn r9=some yF:=rfl
theorem FW:P.fn ml=some q8:=rfl
theorem D0:P.fn kE=some mO:=rfl
theorem KR:P.fn pU=some wN:=rfl
theorem FY:P.fn mm=some cx:=rfl
theorem FX:P.fn eZ=some q9:=rfl
theorem O3:P.fn r7=some yC:=rfl
theorem S5:P.fn vA=some A7:=rfl
theorem Pd:P.fn sj=some yL:=rfl
theorem O2:P.fn r6=some yB:=rfl
theorem Pb:P.fn sg=some yJ:=rfl
theorem O5:P.fn r8=some yE:=rfl
theorem KS:P.fn pV=some sD:=rfl
theorem KT:P.fn pW=some sE:=rfl
theorem O8:P.fn se=some yH:=rfl
theorem KP:P.fn pT=some wL:=rfl
theorem KO:P.fn pS=some wK:=rfl
theorem KV:P.fn nE=some wQ:=rfl
theorem Pc:P.fn si=some yK:=rfl
theorem O9:P.fn sf=some yI:=rfl
theorem Ic:P.fn fZ=some fo:=rfl
theorem KU:P.fn nD=some wO:=rfl
theorem HO:Kp P B1 [1,3,4]:=aw
theorem HT:Kp P x7 [3,5]:=aw
theorem FP:Kp P wg [14,15,16]:=aw
theorem HN:Kp P qI [1,4,5,6]:=aw
theorem Ct:Kp P B4 [1,2,4,6,28,29,30]:=aw
theorem OK:Kp P B7 [1,4,6,69,70,71]:=aw
theorem E7:Kp P EZ [1,2,4,6,7]:=aw
theorem KJ:Kp P sM [2,3,5]:=aw
theorem JU:Kp P vg [1,3,4,5,11,12,13]:=aw
theorem JW:Kp P vi [1,3,4,5,33,34,35]:=aw
theorem DN:Kp P ua [0,1,5]:=aw
theorem pg:Kp P eU [2,8,9]:=aw
theorem UC:Kp P B2 [1,4,5]:=aw
theorem Mj:Kp P rH [1,3,4]:=aw
theorem Mk:Kp P xy [1,3,5]:=aw
theorem HR:Kp P x6 [0,24,25]:=aw
theorem FQ:Kp P wh [6,7,8]:=aw
theorem AU:Kp P wj [3,8,9,10]:=aw
theorem FR:Kp P wi [1,2,30,31,32]:=aw
theorem DO:Kp P ub [3,4,13,14,15]:=aw
theorem KF:Kp P zO [0,3]:=aw
theorem Ab:Kp P sN [1,3]:=aw
theorem ye:Kp P xZ [1,2,5,6]:=aw
theorem HP:Kp P x4 [1,2,7,8]:=aw
theorem FO:Kp P oP [0,1,6,7]:=aw
theorem Aa:Kp P o8 [0,1,5]:=aw
theorem JV:Kp P qJ [1,3,9,10,11]:=aw
theorem JX:Kp P vj [3,27,28,29]:=aw
theorem DL:Kp P pM [2,3,34,35,36]:=aw
theorem vG:Kp P qL [6,7,8,12,13,14,15,52,53,54]:=aw
theorem adg:Kp P Ge [1,5,8,9]:=aw
theorem KK:Kp P Dp [0,1,5,6,7,8]:=aw
theorem KH:Kp P Dn [0,1,5,6]:=aw
theorem Rn:Kp P AL [3,6,7,8]:=aw
theorem UD:Kp P B5 [2,3,9,10,11]:=aw
theorem HL:Kp P xY [1,2,3,7]:=aw
theorem CR:Kp P rI [0,42,43,44]:=aw
theorem UE:Kp P B6 [3,7,8,9]:=aw
theorem Ro:Kp P AM [3,7,8,9]:=aw
theorem Bq:Kp P qF [1,2,9,10,11]:=aw
theorem HU:Kp P x8 [0,3,4]:=aw
theorem HQ:Kp P x5 [0,3]:=aw
theorem Bt:Kp P vh [1,3,4,5,6]:=aw
theorem JT:Kp P vf [1,3,4]:=aw
theorem KE:Kp P zN [1,2,5]:=aw
theorem JR:Kp P ve [1,3,4]:=aw
theorem KI:Kp P zQ [7,8]:=aw
theorem Cu:Kp P uc [4,5,6,7,8]:=aw
theorem HM:Kp P qH [4,5,6]:=aw
theorem Mi:Kp P xx [1,3,4]:=aw
theorem OI:Kp P B3 [0,1,2,7]:=aw
theorem FN:Kp P we [1,2,4,6,41,42,43]:=aw
theorem JS:Kp P EY [1,2,4,6,7]:=aw
theorem dv:Kp P bY [0,1,7,8]:=aw
theorem rP:Kp P rE [0,13,14,15]:=aw
theorem xD:Kp P rK [7,25,26,27]:=aw
theorem xE:Kp P rM [7,10,40,41,42]:=aw
theorem HJ:Kp P tY [0,5,10,11,12]:=aw
theorem Cs:Kp P nY [1,3,6,7,8]:=aw
theorem AT:Kp P oO [0,3,5,6,7]:=aw
theorem dW:Kp P bM [1,2,15,16,17]:=aw
theorem DM:Kp P pN [2,5,11,12,13]:=aw
theorem Br:Kp P qG [1,12,13,14]:=aw
theorem mB:Kp P eu [0,3,7,8]:=aw
theorem xC:Kp P rF [1,2,3,13,14,15]:=aw
theorem CT:Kp P rL [2,26,27,28]:=aw
theorem KG:Kp P zP [1,2,10,11]:=aw
theorem iL:Kp P xX [0,1,2,3,22,23]:=aw
theorem Rm:Kp P AK [1,3,4]:=aw
theorem jx:Kp P rG [0,1,2,3,22,23,24]:=aw
theorem HK:Kp P tZ [3,6,7,8]:=aw
theorem rv:Kp P mg [1,2,7,30,31,32]:=aw
theorem wA:Kp P wk [1,2,7,51,52,53]:=aw
theorem AW:Kp P wm [1,2,7,16,77,78,79]:=aw
theorem FT:Kp P wo [2,7,16,19,95,96,97]:=aw
theorem Rq:Kp P wq [2,7,19,22,117,118]:=aw
theorem ry:Kp P iI [0,2,7,8]:=aw
theorem y5:Kp P kD [3,4,9,10,11]:=aw
theorem cW:Kp P b8 [0,1,2,8,9,10]:=aw
theorem SQ:Kp P EX [0,1,7,8]:=aw
theorem CS:Kp P rJ [1,2,21,22,23]:=aw
theorem Bs:Kp P qK [1,12,13,14]:=aw
theorem Rl:Kp P AJ [1,2,6,20,21,22]:=aw
theorem Ac:Kp P o9 [1,2,8,9,10]:=aw
theorem OJ:Kp P yR [3,9,10,11]:=aw
theorem kd:Kp P dN [0,1,7,8]:=aw
theorem nM:Kp P eV [0,1,7,8]:=aw
theorem um{τ:Tm}{σ:ag}{nt:Nat}{rd:Option Nat}:exec P Be ⟨τ,σ,nt,rd⟩=EH τ nt rd (nk P [27] eH eI ((O.t 26).val τ) (τ.kept [4,6]) σ nt rd):=BO
theorem Fv{τ:Tm}{σ:ag}{nt:Nat}{rd:Option Nat}:exec P yS ⟨τ,σ,nt,rd⟩=EH τ nt rd (nk P [6] ko kq ((O.t 5).val τ) (τ.kept [2]) σ nt rd):=BO
theorem Ad{τ:Tm}{σ:ag}{nt:Nat}{rd:Option Nat}:exec P Bc ⟨τ,σ,nt,rd⟩=EH τ nt rd (nk P [48,49] fB fC ((O.t 47).val τ) (τ.kept [6,7,8,12,13]) σ nt rd):=BO
theorem Di{τ:Tm}{σ:ag}{nt:Nat}{rd:Option Nat}:exec P w8 ⟨τ,σ,nt,rd⟩=EH τ nt rd (nk P [19] ew ez ((O.t 18).val τ) (τ.kept [2,5]) σ nt rd):=BO
theorem DP{τ:Tm}{σ:ag}{nt:Nat}{rd:Option Nat}:exec P FC ⟨τ,σ,nt,rd⟩=EH τ nt rd (nk P [21] jV jW ((O.t 20).val τ) (τ.kept [2,5,6]) σ nt rd):=BO
theorem Ml{τ:Tm}{σ:ag}{nt:Nat}{rd:Option Nat}:exec P Dq ⟨τ,σ,nt,rd⟩=EH τ nt rd (nk P [8] po pq ((O.t 7).val τ) (τ.kept [3,4]) σ nt rd):=BO
theorem kO:Rp P iv 54 [.tmp 4] dS:=fun h=>bh GD h
theorem xo:Qp P qi:=ah K8 rfl rfl
theorem Ax:Rp P qi 52 [.tmp 2] nA:=fun h=>bh K8 h
theorem rA:Qp P j6:=ah F0 rfl rfl
theorem RE:Rp P j6 58 [.tmp 0] rf:=fun h=>bh F0 h
theorem jU:Qp P jP:=ah Ir rfl rfl
theorem IT:Rp P jP 26 [.tmp 2] qD:=fun h=>bh Ir h
theorem As:Qp P qg:=ah K6 rfl rfl
theorem qv:Rp P qg 61 [.tmp 2] iP:=fun h=>bh K6 h
theorem vP:Qp P sZ:=ah S9 rfl rfl
theorem yy:Rp P sZ 93 [.cell 4 8 true,.tmp 5] oM:=fun h=>bh S9 h
theorem PH:Qp P y2:=ah X6 rfl rfl
theorem BN:Rp P y2 86 [.cell 4 8 true,.tmp 5] rk:=fun h=>bh X6 h
theorem GG:Qp P so:=ah Pp rfl rfl
theorem vS:Rp P so 72 [.tmp 4] mc:=fun h=>bh Pp h
theorem cU:Qp P eC:=ah Em rfl rfl
theorem P6:Rp P eC 6 [.tmp 2] pJ:=fun h=>bh Em h
theorem Mr:Qp P js:=ah C2 rfl rfl
theorem My:Rp P js 65 [.tmp 2,.cell 3 5 true,.cell 4 5 true] oC:=fun h=>bh C2 h
theorem Rz:Qp P mu:=ah F3 rfl rfl
theorem A0:Rp P mu 27 [.tmp 4] ma:=fun h=>bh F3 h
theorem kL:Qp P jq:=ah Pj rfl rfl
theorem zn:Rp P jq 38 [.tmp 4] nT:=fun h=>bh Pj h
theorem qP:Qp P oh:=ah It rfl rfl
theorem CA:Rp P oh 22 [.tmp 2,.tmp 3,.tmp 4] nV:=fun h=>bh It h
theorem J6:Qp P fH:=ah BH rfl rfl
theorem ni:Rp P fH 60 [.tmp 4,.tmp 5,.tmp 6] eK:=fun h=>bh BH h
theorem te:Qp P nH:=ah K9 rfl rfl
theorem Yw:Rp P nH 43 [.tmp 2,.tmp 3] wW:=fun h=>bh K9 h
theorem yg:Qp P lQ:=ah Is rfl rfl
theorem U7:Rp P lQ 7 [.tmp 2] tP:=fun h=>bh Is h
theorem Au:Qp P nI:=ah Lc rfl rfl
theorem Yx:Rp P nI 7 [.tmp 2] wX:=fun h=>bh Lc h
theorem Lo:Qp P p8:=ah K1 rfl rfl
theorem Lt:Rp P p8 15 [.cell 6 5 true,.tmp 7] sF:=fun h=>bh K1 h
theorem UZ:Qp P iJ:=ah Ik rfl rfl
theorem U5:Rp P iJ 8 [.cell 4 5 true] tK:=fun h=>bh Ik h
theorem PJ:Qp P gj:=ah Ee rfl rfl
theorem EE:Rp P gj 7 [.tmp 1] mU:=fun h=>bh Ee h
theorem kg:Qp P gS:=ah Le rfl rfl
theorem Yz:Rp P gS 7 [.tmp 4] wZ:=fun h=>bh Le h
theorem gX:Qp P j9:=ah Lg rfl rfl
theorem th:Rp P j9 50 [.tmp 2] jY:=fun h=>bh Lg h
theorem PK:Qp P fg:=ah Ef rfl rfl
theorem uE:Rp P fg 19 [.tmp 1] iQ:=fun h=>bh Ef h
theorem PL:Qp P gk:=ah Eg rfl rfl
theorem P2:Rp P gk 5 [.tmp 1] pF:=fun h=>bh Eg h
theorem U0:Qp P oi:=ah Iu rfl rfl
theorem IU:Rp P oi 28 [.tmp 2] qE:=fun h=>bh Iu h
theorem PM:Qp P gm:=ah Eh rfl rfl
theorem P3:Rp P gm 5 [.tmp 1] pG:=fun h=>bh Eh h
theorem U1:Qp P oj:=ah Iw rfl rfl
theorem CB:Rp P oj 22 [.tmp 2] nW:=fun h=>bh Iw h
theorem PN:Qp P gn:=ah Ei rfl rfl
theorem P4:Rp P gn 5 [.tmp 1] pH:=fun h=>bh Ei h
theorem bu:Qp P eF:=ah CX rfl rfl
theorem lr:Rp P eF 61 [.cell 4 1 false] eD:=fun h=>bh CX h
theorem PO:Qp P gp:=ah Ej rfl rfl
theorem EF:Rp P gp 11 [.tmp 1] mV:=fun h=>bh Ej h
theorem yh:Qp P lR:=ah Iv rfl rfl
theorem yk:Rp P lR 42 [.tmp 6] lE:=fun h=>bh Iv h
theorem PQ:Qp P gq:=ah Ek rfl rfl
theorem EG:Rp P gq 13 [.tmp 1] mW:=fun h=>bh Ek h
theorem PR:Qp P gr:=ah El rfl rfl
theorem P5:Rp P gr 4 [.tmp 1] pI:=fun h=>bh El h
theorem RA:Qp P mw:=ah F4 rfl rfl
theorem F7:Rp P mw 27 [.tmp 2] oN:=fun h=>bh F4 h
theorem iC:Qp P od:=ah Pl rfl rfl
theorem vR:Rp P od 52 [.tmp 2] mb:=fun h=>bh Pl h
theorem vO:Qp P sq:=ah Pq rfl rfl
theorem sz:Rp P sq 71 [.tmp 2] kC:=fun h=>bh Pq h
theorem bB:Qp P j8:=ah K4 rfl rfl
theorem tg:Rp P j8 44 [.tmp 4] jX:=fun h=>bh K4 h
theorem dn:Qp P fG:=ah La rfl rfl
theorem Lv:Rp P fG 61 [.tmp 6] sH:=fun h=>bh La h
theorem Lp:Qp P qh:=ah K7 rfl rfl
theorem bW:Rp P qh 137 [.tmp 6] bz:=fun h=>bh K7 h
theorem jT:Qp P iK:=ah Il rfl rfl
theorem yj:Rp P iK 25 [.cell 4 5 true,.tmp 5] lC:=fun h=>bh Il h
theorem PD:Qp P sk:=ah Pe rfl rfl
theorem Cy:Rp P sk 51 [.cell 4 11 true,.tmp 5] py:=fun h=>bh Pe h
theorem ux:Qp P rq:=ah X4 rfl rfl
theorem IQ:Rp P rq 18 [.cell 4 5 true,.tmp 5] wV:=fun h=>bh X4 h
theorem IK:Qp P og:=ah Iq rfl rfl
theorem IS:Rp P og 56 [.tmp 4,.tmp 5] qC:=fun h=>bh Iq h
theorem vN:Qp P iy:=ah BG rfl rfl
theorem vT:Rp P iy 56 [.tmp 4] iq:=fun h=>bh BG h
theorem cX:Qp P aS:=ah iE rfl rfl
theorem cY:Rp P aS 9 [.tmp 4] bg:=fun h=>bh iE h
theorem Ms:Qp P jt:=ah C3 rfl rfl
theorem Mz:Rp P jt 48 [.tmp 2] oD:=fun h=>bh C3 h
theorem IG:Qp P eW:=ah Al rfl rfl
theorem IP:Rp P eW 10 [.cell 2 1 false] lD:=fun h=>bh Al h
theorem jI:Qp P bR:=ah xP rfl rfl
theorem xS:Rp P bR 49 [.cell 2 5 true] gH:=fun h=>bh xP h
theorem Lq:Qp P nJ:=ah Ld rfl rfl
theorem Yy:Rp P nJ 9 [.cell 2 5 true] wY:=fun h=>bh Ld h
theorem UX:Qp P gh:=ah Ih rfl rfl
theorem U3:Rp P gh 41 [.cell 2 5 true] tH:=fun h=>bh Ih h
theorem PI:Qp P qk:=ah Pr rfl rfl
theorem ad6:Rp P qk 9 [.cell 2 5 true] yP:=fun h=>bh Pr h
theorem Mq:Qp P gO:=ah CU rfl rfl
theorem oI:Rp P gO 82 [.cell 6 1 false,.cell 7 1 false,.cell 8 1 false] fp:=fun h=>bh CU h
theorem ahF:Qp P vC:=ah S7 rfl rfl
theorem ahK:Rp P vC 22 [.tmp 4] Ba:=fun h=>bh S7 h
theorem adS:Qp P qe:=ah Pn rfl rfl
theorem P0:Rp P qe 48 [.tmp 4] vd:=fun h=>bh Pn h
theorem EA:Qp P iY:=ah Lh rfl rfl
theorem xq:Rp P iY 36 [.tmp 4] lG:=fun h=>bh Lh h
theorem rR:Qp P gQ:=ah CY rfl rfl
theorem Mv:Rp P gQ 5 [.tmp 2] oz:=fun h=>bh CY h
theorem uz:Qp P jQ:=ah Ix rfl rfl
theorem U8:Rp P jQ 27 [.tmp 2] tQ:=fun h=>bh Ix h
theorem zk:Qp P iW:=ah D8 rfl rfl
theorem PX:Rp P iW 5 [.tmp 2] pA:=fun h=>bh D8 h
theorem tf:Qp P iX:=ah Lf rfl rfl
theorem YA:Rp P iX 24 [.cell 2 5 true] w5:=fun h=>bh Lf h
theorem Ew:Qp P nG:=ah K2 rfl rfl
theorem Aw:Rp P nG 37 [.tmp 6] nz:=fun h=>bh K2 h
theorem uy:Qi P kJ dI:=yr Pt rfl rfl
theorem qt:Qp P nK:=ah Li rfl rfl
theorem YB:Rp P nK 19 [.tmp 2] w6:=fun h=>bh Li h
theorem qQ:Qp P lT:=ah Iz rfl rfl
theorem U9:Rp P lT 20 [.tmp 2] tW:=fun h=>bh Iz h
theorem lq:Qp P gR:=ah CZ rfl rfl
theorem C6:Rp P gR 25 [.tmp 4] lg:=fun h=>bh CZ h
theorem iB:Qp P dq:=ah zi rfl rfl
theorem GH:Rp P dq 4 [.tmp 2] kA:=fun h=>bh zi h
theorem bj:Qp P dr:=ah zj rfl rfl
theorem GI:Rp P dr 9 [.tmp 2] kB:=fun h=>bh zj h
theorem cz:Qp P a8:=ah kZ rfl rfl
theorem k7:Rp P a8 9 [.tmp 4] cy:=fun h=>bh kZ h
theorem F6:Qp P mn:=ah FZ rfl rfl
theorem cG:Rp P mn 68 [.tmp 6] bS:=fun h=>bh FZ h
theorem Ez:Qp P qj:=ah Lb rfl rfl
theorem Lw:Rp P qj 53 [.tmp 2] sL:=fun h=>bh Lb h
theorem xI:Qp P jr:=ah C1 rfl rfl
theorem Mx:Rp P jr 66 [.tmp 2] oB:=fun h=>bh C1 h
theorem td:Qp P qc:=ah K3 rfl rfl
theorem Yv:Rp P qc 9 [.tmp 4] wU:=fun h=>bh K3 h
theorem sy:Qp P p9:=ah Pk rfl rfl
theorem GJ:Rp P p9 23 [.tmp 4] rW:=fun h=>bh Pk h
theorem jz:Qp P fu:=ah C0 rfl rfl
theorem Mw:Rp P fu 26 [.tmp 2] oA:=fun h=>bh C0 h
theorem PG:Qp P sn:=ah Po rfl rfl
theorem du:Rp P sn 115 [.tmp 4] cH:=fun h=>bh Po h
theorem Ey:Qp P qf:=ah K5 rfl rfl
theorem Lu:Rp P qf 82 [.tmp 2,.tmp 3] sG:=fun h=>bh K5 h
theorem gC:Qp P eB:=ah Eb rfl rfl
theorem PZ:Rp P eB 23 [.tmp 2] pC:=fun h=>bh Eb h
theorem Fc:Qp P sU:=ah S8 rfl rfl
theorem Tf:Rp P sU 30 [.tmp 6] yq:=fun h=>bh S8 h
theorem zl:Qp P sr:=ah Ps rfl rfl
theorem vU:Rp P sr 27 [.tmp 2] me:=fun h=>bh Ps h
theorem yf:Qp P lN:=ah Im rfl rfl
theorem uD:Rp P lN 81 [.cell 4 5 true,.tmp 5] jN:=fun h=>bh Im h
theorem II:Qp P xi:=ah X5 rfl rfl
theorem BM:Rp P xi 77 [.cell 4 5 true,.tmp 5] rj:=fun h=>bh X5 h
theorem dF:Qp P aQ:=ah jH rfl rfl
theorem dG:Rp P aQ 19 [.tmp 4] bm:=fun h=>bh jH h
theorem Ev:Qp P j5:=ah KW rfl rfl
theorem Yr:Rp P j5 12 [.cell 6 5 true] wR:=fun h=>bh KW h
theorem bC:Qp P ff:=ah Ec rfl rfl
theorem P1:Rp P ff 11 [.tmp 2] pD:=fun h=>bh Ec h
theorem qq:Qp P kF:=ah D3 rfl rfl
theorem uB:Rp P kF 68 [.tmp 2,.tmp 3] iN:=fun h=>bh D3 h
theorem Aq:Qp P di:=ah Aj rfl rfl
theorem IN:Rp P di 6 [.tmp 2] lA:=fun h=>bh Aj h
theorem BL:Qp P fE:=ah BC rfl rfl
theorem J7:Rp P fE 28 [.tmp 4] mP:=fun h=>bh BC h
theorem uZ:Qp P ep:=ah uX rfl rfl
theorem Dk:Rp P ep 18 [.tmp 2] hU:=fun h=>bh uX h
theorem anU:Qp P Ch:=ah afE rfl rfl
theorem anW:Rp P Ch 6 [.tmp 2] GW:=fun h=>bh afE h
theorem ahE:Qp P vB:=ah S6 rfl rfl
theorem ahJ:Rp P vB 16 [.tmp 4] A9:=fun h=>bh S6 h
theorem IJ:Qp P oe:=ah Io rfl rfl
theorem Cz:Rp P oe 54 [.tmp 4] nU:=fun h=>bh Io h
theorem jA:Qp P aL:=ah dZ rfl rfl
theorem cJ:Rp P aL 32 [.tmp 6] aK:=fun h=>bh dZ h
theorem xR:Qp P eo:=ah xQ rfl rfl
theorem Fx:Rp P eo 44 [.tmp 4] jD:=fun h=>bh xQ h
theorem PE:Qp P kH:=ah D9 rfl rfl
theorem bV:Rp P kH 102 [.tmp 4] bt:=fun h=>bh D9 h
theorem xH:Qi P jo gM:=yr Mo rfl rfl
theorem nh:Qp P bU:=ah ng rfl rfl
theorem nj:Rp P bU 19 [.tmp 4] cQ:=fun h=>bh ng h
theorem cV:Qp P n9:=ah Ii rfl rfl
theorem yi:Rp P n9 21 [.tmp 2] lB:=fun h=>bh Ii h
theorem cT:Qp P iV:=ah D4 rfl rfl
theorem zm:Rp P iV 37 [.tmp 6] ku:=fun h=>bh D4 h
theorem PF:Qp P qd:=ah Pm rfl rfl
theorem PY:Rp P qd 25 [.tmp 4] u7:=fun h=>bh Pm h
theorem bn:Qp P j7:=ah KX rfl rfl
theorem ED:Rp P j7 16 [.tmp 2] pB:=fun h=>bh KX h
theorem gW:Qp P nF:=ah KY rfl rfl
theorem gY:Rp P nF 133 [.tmp 8,.tmp 9] ej:=fun h=>bh KY h
theorem fw:Qp P lP:=ah Ip rfl rfl
theorem U6:Rp P lP 23 [.tmp 2] tM:=fun h=>bh Ip h
theorem cr:Qp P bN:=ah O4 rfl rfl
theorem adV:Rp P bN 9 [.tmp 4] yD:=fun h=>bh O4 h
theorem dM:Qp P gi:=ah D6 rfl rfl
theorem gE:Rp P gi 144 [.tmp 8,.tmp 9] dH:=fun h=>bh D6 h
theorem ef:Qp P fF:=ah BF rfl rfl
theorem Ka:Rp P fF 19 [.tmp 2] mT:=fun h=>bh BF h
theorem lY:Qp P lS:=ah Iy rfl rfl
theorem CC:Rp P lS 53 [.cell 2 1 false] nX:=fun h=>bh Iy h
theorem xp:Qp P nL:=ah Lj rfl rfl
theorem YC:Rp P nL 10 [.tmp 2] w7:=fun h=>bh Lj h
theorem UW:Qp P lL:=ah Ie rfl rfl
theorem qR:Rp P lL 129 [.tmp 4,.tmp 5] iH:=fun h=>bh Ie h
theorem zF:Qp P bT:=ah qW rfl rfl
theorem zH:Rp P bT 33 [.tmp 2] eN:=fun h=>bh qW h
theorem eS:Qp P aU:=ah eQ rfl rfl
theorem cZ:Rp P aU 49 [.tmp 6,.tmp 7] aT:=fun h=>bh eQ h
theorem kV:Qp P cF:=ah uY rfl rfl
theorem Dl:Rp P cF 9 [.tmp 4] hZ:=fun h=>bh uY h
theorem IL:Qp P eX:=ah Am rfl rfl
theorem IV:Rp P eX 8 [.tmp 4] lF:=fun h=>bh Am h
theorem aH:Qp P fe:=ah D5 rfl rfl
theorem EC:Rp P fe 42 [.tmp 2] mQ:=fun h=>bh D5 h
theorem Ry:Qp P mr:=ah F2 rfl rfl
theorem RG:Rp P mr 13 [.cell 4 1 false] ri:=fun h=>bh F2 h
theorem UY:Qp P oc:=ah Ij rfl rfl
theorem U4:Rp P oc 6 [.tmp 2] tJ:=fun h=>bh Ij h
theorem jy:Qp P pY:=ah Pf rfl rfl
theorem ad4:Rp P pY 6 [.tmp 2] yN:=fun h=>bh Pf h
theorem IH:Qp P xh:=ah X3 rfl rfl
theorem Ys:Rp P xh 18 [.tmp 4] Bb:=fun h=>bh X3 h
theorem Ar:Qp P lO:=ah K0 rfl rfl
theorem Yu:Rp P lO 9 [.tmp 2] wT:=fun h=>bh K0 h
theorem adR:Qp P sm:=ah Ph rfl rfl
theorem ad5:Rp P sm 31 [.tmp 6,.tmp 7] yO:=fun h=>bh Ph h
theorem Yk:Qp P pZ:=ah KZ rfl rfl
theorem Yt:Rp P pZ 46 [.tmp 8,.tmp 9] wS:=fun h=>bh KZ h
theorem Eu:Qp P j4:=ah KQ rfl rfl
theorem Yn:Rp P j4 7 [.tmp 2] wM:=fun h=>bh KQ h
theorem gB:Qp P kG:=ah D7 rfl rfl
theorem PW:Rp P kG 9 [.tmp 2] pz:=fun h=>bh D7 h
theorem xG:Qp P gP:=ah CW rfl rfl
theorem Mu:Rp P gP 9 [.tmp 2] oy:=fun h=>bh CW h
theorem Rx:Qp P mq:=ah F1 rfl rfl
theorem RF:Rp P mq 26 [.tmp 6,.tmp 7] rh:=fun h=>bh F1 h
theorem J5:Qp P ix:=ah BE rfl rfl
theorem J9:Rp P ix 45 [.tmp 8,.tmp 9] mS:=fun h=>bh BE h
theorem rQ:Qp P eE:=ah CV rfl rfl
theorem Mt:Rp P eE 9 [.tmp 4,.tmp 5] ox:=fun h=>bh CV h
theorem qu:Qp P iZ:=ah En rfl rfl
theorem uF:Rp P iZ 40 [.tmp 6,.tmp 7] iR:=fun h=>bh En h
theorem PS:Qp P ss:=ah Pu rfl rfl
theorem ad7:Rp P ss 4 [.tmp 2] yQ:=fun h=>bh Pu h
theorem Av:Qp P ql:=ah Lk rfl rfl
theorem nN:Rp P ql 82 [.tmp 2] gN:=fun h=>bh Lk h
theorem xK:Qi P ju fq:=yr Mp rfl rfl
theorem RB:Qi P fR mf:=yr Ru rfl rfl
theorem C5:Qp P dY:=ah C4 rfl rfl
theorem MA:Rp P dY 9 [.tmp 3] oE:=fun h=>bh C4 h
theorem jh:Qp P bH:=ah jg rfl rfl
theorem ji:Rp P bH 9 [.tmp 4] bX:=fun h=>bh jg h
theorem IF:Qp P lM:=ah Ig rfl rfl
theorem IM:Rp P lM 44 [.tmp 4] qB:=fun h=>bh Ig h
theorem PB:Qp P fc:=ah D1 rfl rfl
theorem PU:Rp P fc 16 [.tmp 5] px:=fun h=>bh D1 h
theorem uw:Qp P bZ:=ah lW rfl rfl
theorem uC:Rp P bZ 8 [.tmp 4] dh:=fun h=>bh lW h
theorem mE:Qp P cd:=ah mD rfl rfl
theorem uP:Rp P cd 9 [.tmp 4] dy:=fun h=>bh mD h
theorem gA:Qp P fY:=ah Ib rfl rfl
theorem U2:Rp P fY 6 [.tmp 2] tF:=fun h=>bh Ib h
theorem vQ:Qi P iz ir:=yr J4 rfl rfl
theorem PT:Qi P gu pK:=yr Pv rfl rfl
theorem fJ:Qp P iw:=ah BD rfl rfl
theorem J8:Rp P iw 9 [.tmp 2] mR:=fun h=>bh BD h
theorem AZ:Qp P mz:=ah F5 rfl rfl
theorem RH:Rp P mz 23 [.tmp 2] rl:=fun h=>bh F5 h
theorem kM:Qp P bA:=ah kK rfl rfl
theorem kP:Rp P bA 19 [.tmp 4] cm:=fun h=>bh kK h
theorem PC:Qp P eA:=ah D2 rfl rfl
theorem fj:Rp P eA 105 [.tmp 8] dg:=fun h=>bh D2 h
theorem xJ:Qp P cI:=ah oH rfl rfl
theorem oJ:Rp P cI 19 [.tmp 4] de:=fun h=>bh oH h
theorem adL:Qp P sd:=ah O7 rfl rfl
theorem adY:Rp P sd 9 [.tmp 4] yG:=fun h=>bh O7 h
theorem adK:Qp P r9:=ah O6 rfl rfl
theorem adX:Rp P r9 9 [.tmp 4] yF:=fun h=>bh O6 h
theorem Rv:Qp P ml:=ah FW rfl rfl
theorem RC:Rp P ml 19 [.tmp 8] q8:=fun h=>bh FW h
theorem PA:Qp P kE:=ah D0 rfl rfl
theorem EB:Rp P kE 14 [.tmp 6] mO:=fun h=>bh D0 h
theorem Yg:Qp P pU:=ah KR rfl rfl
theorem Yo:Rp P pU 13 [.tmp 6] wN:=fun h=>bh KR h
theorem Rw:Qp P mm:=ah FY rfl rfl
theorem dt:Rp P mm 95 [.tmp 8] cx:=fun h=>bh FY h
theorem oT:Qp P eZ:=ah FX rfl rfl
theorem RD:Rp P eZ 15 [.tmp 4] q9:=fun h=>bh FX h
theorem adI:Qp P r7:=ah O3 rfl rfl
theorem adU:Rp P r7 12 [.tmp 6] yC:=fun h=>bh O3 h
theorem ahC:Qp P vA:=ah S5 rfl rfl
theorem ahG:Rp P vA 12 [.tmp 6] A7:=fun h=>bh S5 h
theorem adQ:Qp P sj:=ah Pd rfl rfl
theorem ad3:Rp P sj 12 [.tmp 6] yL:=fun h=>bh Pd h
theorem adH:Qp P r6:=ah O2 rfl rfl
theorem adT:Rp P r6 12 [.tmp 6] yB:=fun h=>bh O2 h
theorem adO:Qp P sg:=ah Pb rfl rfl
theorem ad1:Rp P sg 12 [.tmp 6] yJ:=fun h=>bh Pb h
theorem adJ:Qp P r8:=ah O5 rfl rfl
theorem adW:Rp P r8 12 [.tmp 6] yE:=fun h=>bh O5 h
theorem Yh:Qp P pV:=ah KS rfl rfl
theorem Lr:Rp P pV 22 [.tmp 6] sD:=fun h=>bh KS h
theorem Yi:Qp P pW:=ah KT rfl rfl
theorem Ls:Rp P pW 21 [.tmp 6] sE:=fun h=>bh KT h
theorem adM:Qp P se:=ah O8 rfl rfl
theorem adZ:Rp P se 11 [.tmp 6] yH:=fun h=>bh O8 h
theorem Yf:Qp P pT:=ah KP rfl rfl
theorem Ym:Rp P pT 11 [.tmp 6] wL:=fun h=>bh KP h
theorem Ye:Qp P pS:=ah KO rfl rfl
theorem Yl:Rp P pS 11 [.tmp 6] wK:=fun h=>bh KO h
theorem Ln:Qp P nE:=ah KV rfl rfl
theorem Yq:Rp P nE 10 [.cell 4 2 true] wQ:=fun h=>bh KV h
theorem adP:Qp P si:=ah Pc rfl rfl
theorem ad2:Rp P si 15 [.tmp 6] yK:=fun h=>bh Pc h
theorem adN:Qp P sf:=ah O9 rfl rfl
theorem ad0:Rp P sf 15 [.tmp 6] yI:=fun h=>bh O9 h
theorem Cx:Qp P fZ:=ah Ic rfl rfl
theorem lZ:Rp P fZ 53 [.tmp 8] fo:=fun h=>bh Ic h
theorem Lm:Qp P nD:=ah KU rfl rfl
theorem Yp:Rp P nD 4 [.tmp 2] wO:=fun h=>bh KU h
theorem dp{args:List AV}{σ:ag}:lJ P dj args σ=(yv) args σ:=yW rfl
theorem k6{args:List AV}{σ:ag}:lJ P bf args σ=(yw dO cR) args σ:=yW rfl
theorem uA{args:List AV}{σ:ag}:lJ P cD args σ=(xl 2 okV) args σ:=yW rfl
theorem uM{args:List AV}{σ:ag}:lJ P bO args σ=(Fa 2 24) args σ:=yW rfl
theorem nw{args:List AV}{σ:ag}:lJ P dQ args σ=(Ep xm) args σ:=yW rfl
end
end Go.AE.S
