import Derived.Test.YtpccheodgonkkaaGreatP0
set_option linter.unusedSimpArgs false
set_option linter.unusedVariables false
namespace Go.AE.S
open Go Go.AE
noncomputable section
set_option maxRecDepth 20000
def bs(l:List Nat):ByteArray:=⟨(l.map UInt8.ofNat).toArray⟩
def SK(k:Int)(a b:Term):Term :=
 if k=1 then a
 else if k=2 then .mk 16 1 0 (bs []) [a,b]
 else if k=3 then .mk 16 1 0 (bs []) [.mk 5 a.w 0 (bs []) [a,b],.mk 2 a.w 0 (bs []) []]
 else if k=4 then .mk 17 1 0 (bs []) [a,b]
 else .mk 0 0 0 (bs []) []
def iN:FuncId:=9
def mP:FuncId:=11
def jE:FuncId:=12
def kZ:FuncId:=13
def tl:FuncId:=15
def q5:FuncId:=17
def er:FuncId:=18
def ja:FuncId:=19
def lL:FuncId:=21
def iZ:FuncId:=22
def lM:FuncId:=23
def nu:FuncId:=25
def ft:FuncId:=28
def pf:FuncId:=31
def lN:FuncId:=32
def nr:FuncId:=33
def pg:FuncId:=34
def iE:FuncId:=35
def js:FuncId:=36
def k6:FuncId:=37
def iF:FuncId:=40
def o8:FuncId:=41
def iq:FuncId:=42
def fU:FuncId:=43
def gJ:FuncId:=44
def jG:FuncId:=45
def eV:FuncId:=46
def fV:FuncId:=47
def nw:FuncId:=48
def fW:FuncId:=49
def nx:FuncId:=50
def fX:FuncId:=51
def ez:FuncId:=52
def fY:FuncId:=53
def k7:FuncId:=54
def fZ:FuncId:=55
def gh:FuncId:=56
def lO:FuncId:=57
def ir:FuncId:=63
def qZ:FuncId:=64
def hJ:FuncId:=67
def aQ:FuncId:=68
def jb:FuncId:=69
def eP:FuncId:=70
def bM:FuncId:=71
def mQ:FuncId:=72
def fR:FuncId:=73
def q6:FuncId:=76
def jF:FuncId:=78
def gF:FuncId:=80
def o9:FuncId:=85
def et:FuncId:=86
def aK:FuncId:=87
def iu:FuncId:=88
def aE:FuncId:=89
def iv:FuncId:=90
def gH:FuncId:=91
def jt:FuncId:=92
def iD:FuncId:=93
def iG:FuncId:=96
def mO:FuncId:=98
def j6:FuncId:=99
def mR:FuncId:=100
def k9:FuncId:=101
def gI:FuncId:=102
def dn:FuncId:=103
def dp:FuncId:=104
def a6:FuncId:=105
def lI:FuncId:=106
def fT:FuncId:=114
def kY:FuncId:=117
def aP:FuncId:=119
def jD:FuncId:=120
def di:FuncId:=125
def j3:FuncId:=126
def dh:FuncId:=127
def fp:FuncId:=128
def dY:FuncId:=129
def np:FuncId:=139
def aL:FuncId:=140
def dX:FuncId:=141
def j5:FuncId:=142
def b6:FuncId:=143
def iY:FuncId:=144
def bP:FuncId:=145
def nk:FuncId:=146
def iC:FuncId:=147
def bJ:FuncId:=152
def fS:FuncId:=153
def fq:FuncId:=154
def k8:FuncId:=157
def mS:FuncId:=158
def a7:FuncId:=159
def cM:FuncId:=160
def zJ:FuncId:=161
def o7:FuncId:=162
def sd:FuncId:=163
def cy:FuncId:=164
def kW:FuncId:=165
def b8:FuncId:=166
def bO:FuncId:=167
def aS:FuncId:=186
def cz:FuncId:=187
def eQ:FuncId:=188
def bK:FuncId:=189
def eU:FuncId:=190
def lK:FuncId:=191
def nn:FuncId:=192
def jC:FuncId:=198
def j4:FuncId:=199
def gG:FuncId:=200
def lJ:FuncId:=201
def gZ:FuncId:=202
def ew:FuncId:=203
def iH:FuncId:=207
def q7:FuncId:=208
def ph:FuncId:=209
def jc:FuncId:=210
def fH:FuncId:=211
def dN:FuncId:=212
def bD:FuncId:=213
def dI:FuncId:=214
def nj:FuncId:=217
def qC:FuncId:=218
def kX:FuncId:=219
def eT:FuncId:=220
def bT:FuncId:=227
def b7:FuncId:=230
def fP:FuncId:=231
def ju:FuncId:=234
def hU:FuncId:=235
def gi:FuncId:=236
def gY:FuncId:=237
def lP:FuncId:=238
def bu:FuncId:=239
def ep:FuncId:=250
def dJ:FuncId:=252
def cB:FuncId:=254
def qT:FuncId:=263
def qS:FuncId:=264
def lG:FuncId:=265
def jZ:FuncId:=266
def oY:FuncId:=267
def lH:FuncId:=268
def eS:FuncId:=271
def qQ:FuncId:=272
def tk:FuncId:=273
def qY:FuncId:=274
def qP:FuncId:=275
def qW:FuncId:=276
def qR:FuncId:=277
def oZ:FuncId:=278
def o6:FuncId:=279
def qU:FuncId:=280
def oX:FuncId:=281
def oW:FuncId:=282
def mN:FuncId:=283
def qX:FuncId:=284
def qV:FuncId:=285
def fQ:FuncId:=286
def mM:FuncId:=287
abbrev qo:List AV:=[.p (.int .i64 0),.p (.int .i64 0),.p (.int .u64 0),.p (.str (bs [])),.aF]
abbrev bE(d x:Nat):fG:=ak d (.load 1 false (.t x))
abbrev cF(d s x:Nat):fG:=ak d (.load s true (.t x))
abbrev bG(d f x:Nat):fG:=ak d (.cQ f (.t x))
abbrev ag(d x:Nat):fG:=aM d (.t x)
abbrev bq(x:Nat)(a b:K):K:=.cond (.t x) a b
abbrev bW(d:Nat)(f:FuncId)(l:List O):fG:=ak d (.dW f l)
abbrev aN(d:Nat)(o:BinOp)(a b:O):fG:=ak d (.arith o a b)
abbrev aj(l:List fG)(k:K):K:=.seq (.cX false l) k
def fK:cZ:=⟨57,[.tmp 4],
 (aj [ak 2 (.box 8 true (.t 0) true),ak 3 (.box 8 true (.t 1) true),aM 4 (.c (.p (.bool false)))]
 (.seq (aj [cF 7 8 2,bW 8 mP [(.t 7)],ak 9 (.not (.t 8)),ag 10 9,⟨some 11,.load 8 true (.t 3),some (10,false)⟩,⟨some 12,.dW mP [(.t 11)],some (10,false)⟩,⟨some 13,.not (.t 12),some (10,false)⟩,ak 14 (.pick (.t 10) (.c (.p (.bool true))) (.t 13))]
 (bq 14 (aj [bW 15 jE [],ag 4 15]
 .ret) .skip))
 (aj [cF 17 8 2,bW 18 pf [(.t 17)],ag 16 18,ak 19 (.extract (.t 16) 0),ak 20 (.extract (.t 16) 1),ag 5 19,ag 6 20]
 (.seq (.cX true [cF 21 8 2,bW 22 er [(.t 21)],cF 23 8 2,bW 24 lM [(.t 23)],ak 25 (.eqB false (.t 22) (.t 24)),ag 26 25,⟨some 27,.load 8 true (.t 2),some (26,true)⟩,⟨some 28,.dW lN [(.t 27)],some (26,true)⟩,⟨some 29,.load 8 true (.t 2),some (26,true)⟩,⟨some 30,.dW nr [(.t 29)],some (26,true)⟩,⟨some 31,.eqB false (.t 28) (.t 30),some (26,true)⟩,ak 32 (.pick (.t 26) (.t 31) (.c (.p (.bool false)))),ag 33 32,⟨some 34,.load 8 true (.t 2),some (33,true)⟩,⟨some 35,.load 8 true (.t 3),some (33,true)⟩,⟨some 36,.dW pg [(.t 34),(.t 35)],some (33,true)⟩,⟨some 37,.load 8 true (.t 2),some (33,true)⟩,⟨some 38,.load 8 true (.t 3),some (33,true)⟩,⟨some 39,.dW q5 [(.t 37),(.t 38)],some (33,true)⟩,⟨some 40,.eqB false (.t 36) (.t 39),some (33,true)⟩,ak 41 (.pick (.t 33) (.t 40) (.c (.p (.bool false)))),ag 42 41,⟨some 43,.load 8 true (.t 2),some (42,true)⟩,⟨some 44,.dW js [(.t 43)],some (42,true)⟩,⟨some 45,.mv (.t 5) false,some (42,true)⟩,⟨some 46,.dW iE [(.t 44),(.t 45)],some (42,true)⟩,ak 47 (.pick (.t 42) (.t 46) (.c (.p (.bool false)))),ag 48 47,⟨some 49,.load 8 true (.t 2),some (48,true)⟩,⟨some 50,.dW k6 [(.t 49)],some (48,true)⟩,⟨some 51,.mv (.t 6) false,some (48,true)⟩,⟨some 52,.dW iE [(.t 50),(.t 51)],some (48,true)⟩,ak 53 (.pick (.t 48) (.t 52) (.c (.p (.bool false)))),ag 54 53,⟨some 55,.dW jE [],some (54,true)⟩,ak 56 (.pick (.t 54) (.t 55) (.c (.p (.bool false)))),ag 4 56])
 .ret)))),false⟩
def mW:K :=
 (.seq (aj [ag 20 4,bG 21 7 1,bE 22 21,ak 23 (.bV (.t 22)),aN 24 .lss (.t 20) (.t 23)]
 (bq 24 .skip (.exit 0)))
 (.seq (.block 1 (.cX false [ag 27 3,bG 28 7 1,bE 29 28,ag 30 4,ak 31 (.aA 11 (.t 29) (.t 30)),bG 32 6 31,cF 33 5 32,ak 34 (.jY 5 qo 1 [(0,5,(.t 33))]),ak 35 (.append 5 64 (.t 27) (.t 34)),ak 3 (.mv (.t 35) true)]))
 (.cX false [ag 25 4,aN 26 .add (.t 25) (kI 1),ag 4 26])))
def zt:K:=.loop [1,3,4] mW
def mY:K :=
 (.seq (aj [ag 36 5,ag 37 3,ak 38 (.bV (.t 37)),aN 39 .lss (.t 36) (.t 38)]
 (bq 39 .skip (.exit 2)))
 (.seq (.block 3 (aj [ag 43 3,ag 44 5,ak 45 (.aA 5 (.t 43) (.t 44)),cF 46 5 45,bW 47 o8 [(.t 46),(kI 20),(kI 40)],ag 42 47,ak 48 (.extract (.t 42) 0),ak 49 (.extract (.t 42) 1),ak 6 (.init 5 true (.t 48) true),ag 7 49]
 (aj [ag 50 7,ak 51 (.not (.t 50))]
 (bq 51 (aj [aM 2 (.c (.p (.bool false)))]
 .ret) .skip))))
 (.cX false [ag 40 5,aN 41 .add (.t 40) (kI 1),ag 5 41])))
def vS:K:=.loop [3,5] mY
def mI:cZ:=⟨52,[.tmp 2],
 (aj [ak 1 (.box 8 true (.t 0) true),aM 2 (.c (.p (.bool false)))]
 (.seq (aj [bG 8 1 1,bE 9 8,ak 10 (.bV (.t 9)),aN 11 .gtr (.t 10) (kI 6),ag 12 11,⟨some 13,.cQ 7 (.t 1),some (12,false)⟩,⟨some 14,.load 1 false (.t 13),some (12,false)⟩,⟨some 15,.bV (.t 14),some (12,false)⟩,⟨some 16,.arith .gtr (.t 15) (kI 10),some (12,false)⟩,ak 17 (.pick (.t 12) (.c (.p (.bool true))) (.t 16))]
 (bq 17 (aj [aM 2 (.c (.p (.bool false)))]
 .ret) .skip))
 (aj [cF 18 8 1,ak 19 (.CW iF [(.t 18)]),ak 3 (.mv (.t 19) true)]
 (.seq (aj [aM 4 (kI 0)]
 (.block 0 zt))
 (.seq (aj [aM 5 (kI 0)]
 (.block 2 vS))
 (aj [aM 2 (.c (.p (.bool true)))]
 .ret)))))),false⟩
def qf:cZ:=⟨58,[.tmp 0],
 (aj [aM 0 (.c (.p (.bool false)))]
 (aj [bW 8 iq [(.c (.p (.str (bs [97])))),(kI 0)],bW 9 iq [(.c (.p (.str (bs [97])))),(kI 0)],ak 10 (.jY 5 qo 2 [(0,5,(.t 8)),(1,5,(.t 9))]),ak 11 (.build qo [(0,1,(kI 8)),(4,1,(.t 10))]),ak 12 (.build [(.p (.str (bs []))),(.p (.int .i64 0)),(.p (.int .i64 0)),(.p (.int .u64 0)),(.p (.str (bs []))),.aF] [(1,5,(.t 11))]),ak 13 (.jY 6 [(.p (.str (bs []))),(.p (.int .i64 0)),(.p (.int .i64 0)),(.p (.int .u64 0)),(.p (.str (bs []))),.aF] 1 [(0,6,(.t 12))]),bW 14 iq [(.c (.p (.str (bs [97])))),(kI 0)],ak 15 (.build qo [(0,1,(kI 2)),(2,1,(.c (.p (.int .u64 1))))]),ak 16 (.fB 5 qo 2 [(0,5,(.t 14)),(1,5,(.t 15))]),ak 17 (.build qo [(0,1,(kI 13)),(4,1,(.t 16))]),ak 18 (.build [(.p (.str (bs []))),.aF,(.p (.int .i64 0)),(.p (.int .i64 0)),(.p (.int .u64 0)),(.p (.str (bs []))),.aF,.aF] [(0,1,(.c (.p (.str (bs [100,111,117,98,108,101]))))),(1,1,(.t 13)),(2,5,(.t 17))]),ak 1 (.init 8 true (.t 18) false)]
 (aj [cF 20 8 1,bW 21 ft [(.t 20),(kI 3)],ag 19 21,ak 22 (.extract (.t 19) 0),ak 23 (.extract (.t 19) 1),ak 24 (.extract (.t 19) 2),ag 2 22,ag 3 23,ag 4 24]
 (aj [bW 25 iq [(.c (.p (.str (bs [97])))),(kI 0)],bG 26 2 1,⟨none,.store 5 (.t 26) (.t 25),none⟩]
 (aj [cF 28 8 1,bW 29 ft [(.t 28),(kI 3)],ag 27 29,ak 30 (.extract (.t 27) 0),ak 31 (.extract (.t 27) 1),ak 32 (.extract (.t 27) 2),ag 5 30,ag 6 31,ag 7 32]
 (aj [ag 33 2,ag 34 33,⟨some 35,.mv (.t 3) false,some (34,true)⟩,⟨some 36,.arith .eql (.t 35) (kI 0),some (34,true)⟩,ak 37 (.pick (.t 34) (.t 36) (.c (.p (.bool false)))),ag 38 37,⟨some 39,.mv (.t 4) false,some (38,true)⟩,⟨some 40,.arith .eql (.t 39) (kI 0),some (38,true)⟩,ak 41 (.pick (.t 38) (.t 40) (.c (.p (.bool false)))),ag 42 41,⟨some 43,.mv (.t 5) false,some (42,true)⟩,⟨some 44,.not (.t 43),some (42,true)⟩,ak 45 (.pick (.t 42) (.t 44) (.c (.p (.bool false)))),ag 46 45,⟨some 47,.mv (.t 6) false,some (46,true)⟩,⟨some 48,.arith .eql (.t 47) (kI 1),some (46,true)⟩,ak 49 (.pick (.t 46) (.t 48) (.c (.p (.bool false)))),ag 50 49,⟨some 51,.mv (.t 7) false,some (50,true)⟩,⟨some 52,.arith .eql (.t 51) (kI 0),some (50,true)⟩,ak 53 (.pick (.t 50) (.t 52) (.c (.p (.bool false)))),ag 54 53,⟨some 55,.load 8 true (.t 1),some (54,true)⟩,⟨some 56,.dW er [(.t 55)],some (54,true)⟩,ak 57 (.pick (.t 54) (.t 56) (.c (.p (.bool false)))),ag 0 57]
 .ret)))))),false⟩
def lu:K :=
 (aj [aN 17 .lss (.t 16) (.t 15)]
 (.seq (bq 17 .skip (.exit 0))
 (.seq (.block 1 (aj [ak 18 (.aA 1 (.t 14) (.t 16)),bE 19 18,ag 4 19]
 (aj [ag 20 4,ak 21 (.ox (.t 20) []),ag 5 21]
 (aj [ag 22 5,aN 23 .neq (.t 22) (kI 0)]
 (bq 23 (aj [ag 24 5,ag 2 24]
 .ret) .skip)))))
 (.cX false [aN 25 .add (.t 16) (kI 1),ag 16 25]))))
def tW:K:=.loop [14,15,16] lu
def pF:cZ:=⟨26,[.tmp 2],
 (aj [ak 1 (.box 8 true (.t 0) true),aM 2 (kI 0)]
 (.seq (aj [ak 6 (.xx fU [(.t 1)]),ak 7 (.xx eV [(.t 1)]),ak 8 (.xx fV [(.t 1)]),ak 9 (.xx fW [(.t 1)]),ak 10 (.xx fX [(.t 1)]),ak 11 (.xx fY [(.t 1)]),ak 12 (.xx fZ [(.t 1)]),ak 13 (.xx gh [(.t 1)]),ak 14 (.jY 1 [(.p .w9)] 8 [(0,1,(.t 6)),(1,1,(.t 7)),(2,1,(.t 8)),(3,1,(.t 9)),(4,1,(.t 10)),(5,1,(.t 11)),(6,1,(.t 12)),(7,1,(.t 13))]),ak 15 (.bV (.t 14)),aM 16 (kI 0)]
 (.block 0 tW))
 (aj [aM 2 (kI 0)]
 .ret))),false⟩
def mX:K :=
 (aj [aN 31 .lss (.t 30) (.t 29)]
 (.seq (bq 31 .skip (.exit 0))
 (.seq (.block 1 (aj [ak 32 (.aA 6 (.t 28) (.t 30)),cF 33 6 32,ak 8 (.init 6 true (.t 33) true)]
 (aj [bG 35 1 8,cF 36 5 35,ag 37 1,bW 38 ir [(.t 36),(.t 37)],ag 34 38,ak 39 (.extract (.t 34) 0),ak 40 (.extract (.t 34) 1),ak 9 (.init 5 true (.t 39) true),ag 10 40]
 (.seq (aj [ag 41 10,aN 42 .neq (.t 41) (kI 0)]
 (bq 42 (aj [ak 43 (.build [(.p (.str (bs []))),.aF,(.p (.int .i64 0)),(.p (.int .i64 0)),(.p (.int .u64 0)),(.p (.str (bs []))),.aF,.aF] []),ag 44 10,⟨none,.store 8 (.t 4) (.t 43),none⟩,ag 5 44]
 .ret) .skip))
 (.cX false [bG 45 1 6,bE 46 45,bG 47 0 8,bE 48 47,cF 49 5 9,ak 50 (.build [(.p (.str (bs []))),(.p (.int .i64 0)),(.p (.int .i64 0)),(.p (.int .u64 0)),(.p (.str (bs []))),.aF] [(0,1,(.t 48)),(1,5,(.t 49))]),ak 51 (.jY 6 [(.p (.str (bs []))),(.p (.int .i64 0)),(.p (.int .i64 0)),(.p (.int .u64 0)),(.p (.str (bs []))),.aF] 1 [(0,6,(.t 50))]),ak 52 (.append 6 80 (.t 46) (.t 51)),bG 53 1 6,⟨none,.store 1 (.t 53) (.t 52),none⟩])))))
 (.cX false [aN 54 .add (.t 30) (kI 1),ag 30 54]))))
def zw:K:=.loop [1,2,4,6,28,29,30] mX
def qK:K :=
 (aj [aN 72 .lss (.t 71) (.t 70)]
 (.seq (bq 72 .skip (.exit 2))
 (.seq (.block 3 (aj [ak 73 (.aA 11 (.t 69) (.t 71)),cF 74 11 73,ak 14 (.init 11 true (.t 74) true)]
 (aj [cF 76 11 14,ag 77 1,bW 78 qZ [(.t 76),(.t 77)],ag 75 78,ak 79 (.extract (.t 75) 0),ak 80 (.extract (.t 75) 1),ak 15 (.init 11 true (.t 79) true),ag 16 80]
 (.seq (aj [ag 81 16,aN 82 .neq (.t 81) (kI 0)]
 (bq 82 (aj [ak 83 (.build [(.p (.str (bs []))),.aF,(.p (.int .i64 0)),(.p (.int .i64 0)),(.p (.int .u64 0)),(.p (.str (bs []))),.aF,.aF] []),ag 84 16,⟨none,.store 8 (.t 4) (.t 83),none⟩,ag 5 84]
 .ret) .skip))
 (.cX false [bG 85 7 6,bE 86 85,cF 87 11 15,ak 88 (.jY 11 [(.p (.int .i64 0)),(.p (.int .i64 0)),(.p (.int .i64 0)),(.p (.int .u64 0)),(.p (.str (bs []))),.aF,(.p (.int .i64 0)),(.p (.int .i64 0)),(.p (.int .u64 0)),(.p (.str (bs []))),.aF] 1 [(0,11,(.t 87))]),ak 89 (.append 11 136 (.t 86) (.t 88)),bG 90 7 6,⟨none,.store 1 (.t 90) (.t 89),none⟩])))))
 (.cX false [aN 91 .add (.t 71) (kI 1),ag 71 91]))))
def zA:K:=.loop [1,4,6,69,70,71] qK
def nU:cZ:=⟨93,[.cell 4 8 true,.tmp 5],
 (aj [ak 2 (.box 8 true (.t 0) true),ak 4 (.alloc [(.p (.str (bs []))),.aF,(.p (.int .i64 0)),(.p (.int .i64 0)),(.p (.int .u64 0)),(.p (.str (bs []))),.aF,.aF] 8),aM 5 (kI 0)]
 (.seq (aj [ag 17 1,aN 18 .lss (.t 17) (kI 1),ag 19 18,⟨some 20,.mv (.t 1) false,some (19,false)⟩,⟨some 21,.arith .gtr (.t 20) (kI 64),some (19,false)⟩,ak 22 (.pick (.t 19) (.c (.p (.bool true))) (.t 21))]
 (bq 22 (aj [ak 23 (.build [(.p (.str (bs []))),.aF,(.p (.int .i64 0)),(.p (.int .i64 0)),(.p (.int .u64 0)),(.p (.str (bs []))),.aF,.aF] []),⟨none,.store 8 (.t 4) (.t 23),none⟩,aM 5 (kI 2)]
 .ret) .skip))
 (aj [bG 24 0 2,bE 25 24,ak 26 (.build [(.p (.str (bs []))),.aF,(.p (.int .i64 0)),(.p (.int .i64 0)),(.p (.int .u64 0)),(.p (.str (bs []))),.aF,.aF] [(0,1,(.t 25))]),ak 6 (.init 8 true (.t 26) false)]
 (.seq (aj [bG 27 1 2,bE 28 27,ak 29 (.bV (.t 28)),aM 30 (kI 0)]
 (.block 0 zw))
 (aj [bG 56 2 2,cF 57 5 56,ag 58 1,bW 59 ir [(.t 57),(.t 58)],ag 55 59,ak 60 (.extract (.t 55) 0),ak 61 (.extract (.t 55) 1),ak 11 (.init 5 true (.t 60) true),ag 12 61]
 (.seq (aj [ag 62 12,aN 63 .neq (.t 62) (kI 0)]
 (bq 63 (aj [ak 64 (.build [(.p (.str (bs []))),.aF,(.p (.int .i64 0)),(.p (.int .i64 0)),(.p (.int .u64 0)),(.p (.str (bs []))),.aF,.aF] []),ag 65 12,⟨none,.store 8 (.t 4) (.t 64),none⟩,ag 5 65]
 .ret) .skip))
 (aj [cF 66 5 11,bG 67 2 6,⟨none,.store 5 (.t 67) (.t 66),none⟩]
 (.seq (aj [bG 68 7 2,bE 69 68,ak 70 (.bV (.t 69)),aM 71 (kI 0)]
 (.block 2 zA))
 (aj [cF 92 8 6,⟨none,.store 8 (.t 4) (.t 92),none⟩,aM 5 (kI 0)]
 .ret))))))))),false⟩
def mG:K :=
 (.seq (aj [ag 36 5,bG 37 1 2,bE 38 37,ak 39 (.bV (.t 38)),aN 40 .lss (.t 36) (.t 39)]
 (bq 40 .skip (.exit 0)))
 (.seq (.block 1 (.seq (.cX true [bG 43 1 2,bE 44 43,ag 45 5,ak 46 (.aA 6 (.t 44) (.t 45)),bG 47 0 46,bE 48 47,bG 49 1 3,bE 50 49,ag 51 5,ak 52 (.aA 6 (.t 50) (.t 51)),bG 53 0 52,bE 54 53,aN 55 .neq (.t 48) (.t 54),ag 56 55,⟨some 57,.cQ 1 (.t 2),some (56,false)⟩,⟨some 58,.load 1 false (.t 57),some (56,false)⟩,⟨some 59,.mv (.t 5) false,some (56,false)⟩,⟨some 60,.aA 6 (.t 58) (.t 59),some (56,false)⟩,⟨some 61,.cQ 1 (.t 60),some (56,false)⟩,⟨some 62,.load 5 true (.t 61),some (56,false)⟩,⟨some 63,.cQ 1 (.t 3),some (56,false)⟩,⟨some 64,.load 1 false (.t 63),some (56,false)⟩,⟨some 65,.mv (.t 5) false,some (56,false)⟩,⟨some 66,.aA 6 (.t 64) (.t 65),some (56,false)⟩,⟨some 67,.cQ 1 (.t 66),some (56,false)⟩,⟨some 68,.load 5 true (.t 67),some (56,false)⟩,⟨some 69,.dW iZ [(.t 62),(.t 68)],some (56,false)⟩,⟨some 70,.not (.t 69),some (56,false)⟩,ak 71 (.pick (.t 56) (.c (.p (.bool true))) (.t 70))])
 (bq 71 (aj [aM 4 (.c (.p (.bool false)))]
 .ret) .skip)))
 (.cX false [ag 41 5,aN 42 .add (.t 41) (kI 1),ag 5 42])))
def rj:K:=.loop [2,3,5] mG
def lA:cZ:=⟨72,[.tmp 4],
 (aj [ak 2 (.box 8 true (.t 0) true),ak 3 (.box 8 true (.t 1) true),aM 4 (.c (.p (.bool false)))]
 (.seq (aj [bG 6 0 2,bE 7 6,bG 8 0 3,bE 9 8,aN 10 .neq (.t 7) (.t 9),ag 11 10,⟨some 12,.cQ 1 (.t 2),some (11,false)⟩,⟨some 13,.load 1 false (.t 12),some (11,false)⟩,⟨some 14,.bV (.t 13),some (11,false)⟩,⟨some 15,.cQ 1 (.t 3),some (11,false)⟩,⟨some 16,.load 1 false (.t 15),some (11,false)⟩,⟨some 17,.bV (.t 16),some (11,false)⟩,⟨some 18,.arith .neq (.t 14) (.t 17),some (11,false)⟩,ak 19 (.pick (.t 11) (.c (.p (.bool true))) (.t 18)),ag 20 19,⟨some 21,.cQ 2 (.t 2),some (20,false)⟩,⟨some 22,.load 5 true (.t 21),some (20,false)⟩,⟨some 23,.cQ 2 (.t 3),some (20,false)⟩,⟨some 24,.load 5 true (.t 23),some (20,false)⟩,⟨some 25,.dW iZ [(.t 22),(.t 24)],some (20,false)⟩,⟨some 26,.not (.t 25),some (20,false)⟩,ak 27 (.pick (.t 20) (.c (.p (.bool true))) (.t 26)),ag 28 27,⟨some 29,.cQ 7 (.t 2),some (28,false)⟩,⟨some 30,.load 1 false (.t 29),some (28,false)⟩,⟨some 31,.cQ 7 (.t 3),some (28,false)⟩,⟨some 32,.load 1 false (.t 31),some (28,false)⟩,⟨some 33,.dW hJ [(.t 30),(.t 32)],some (28,false)⟩,⟨some 34,.not (.t 33),some (28,false)⟩,ak 35 (.pick (.t 28) (.c (.p (.bool true))) (.t 34))]
 (bq 35 (aj [aM 4 (.c (.p (.bool false)))]
 .ret) .skip))
 (.seq (aj [aM 5 (kI 0)]
 (.block 0 rj))
 (aj [aM 4 (.c (.p (.bool true)))]
 .ret)))),false⟩
def oP:cZ:=⟨6,[.tmp 2],
 (aj [ak 1 (.box 8 true (.t 0) true),aM 2 (.c (.p (.bool false)))]
 (aj [cF 3 8 1,bW 4 jb [(.t 3)],bW 5 aQ [(.t 4),(.c (.p (.fn eP [])))],ag 2 5]
 .ret)),false⟩
def gT:K :=
 (aj [aN 14 .lss (.t 13) (.t 12)]
 (.seq (bq 14 .skip (.exit 0))
 (.seq (.block 1 (aj [ak 15 (.aA 6 (.t 11) (.t 13)),cF 16 6 15,ak 7 (.init 6 true (.t 16) true)]
 (aj [bG 17 0 7,bE 18 17,aN 19 .neq (.t 18) (.c (.p (.str (bs []))))]
 (bq 19 (.cX true [ag 20 5,cF 21 6 7,bW 22 mQ [(.t 21)],bW 23 bM [(.t 22)],bG 24 1 7,cF 25 5 24,bW 26 bM [(.t 25)],ak 27 (.jY 5 qo 2 [(0,5,(.t 23)),(1,5,(.t 26))]),ak 28 (.build qo [(0,1,(kI 16)),(1,1,(kI 1)),(4,1,(.t 27))]),ak 29 (.jY 5 qo 1 [(0,5,(.t 28))]),ak 30 (.append 5 64 (.t 20) (.t 29)),ak 5 (.mv (.t 30) true)]) .skip))))
 (.cX false [aN 31 .add (.t 13) (kI 1),ag 13 31]))))
def tc:K:=.loop [1,3,4,5,11,12,13] gT
def jN:K :=
 (aj [aN 36 .lss (.t 35) (.t 34)]
 (.seq (bq 36 .skip (.exit 2))
 (.seq (.block 3 (aj [ak 37 (.aA 11 (.t 33) (.t 35)),cF 38 11 37,ak 9 (.init 11 true (.t 38) true)]
 (.cX false [ag 39 5,cF 40 11 9,bW 41 fR [(.t 40)],bW 42 bM [(.t 41)],ak 43 (.jY 5 qo 1 [(0,5,(.t 42))]),ak 44 (.append 5 64 (.t 39) (.t 43)),ak 5 (.mv (.t 44) true)])))
 (.cX false [aN 45 .add (.t 35) (kI 1),ag 35 45]))))
def td:K:=.loop [1,3,4,5,33,34,35] jN
def nH:cZ:=⟨65,[.tmp 2,.cell 3 5 true,.cell 4 5 true],
 (aj [ak 1 (.box 8 true (.t 0) true),aM 2 (.c .aF),ak 3 (.alloc qo 5),ak 4 (.alloc qo 5)]
 (aj [ak 5 (.mv (.c .aF) true)]
 (.seq (aj [bG 10 1 1,bE 11 10,ak 12 (.bV (.t 11)),aM 13 (kI 0)]
 (.block 0 tc))
 (.seq (aj [bG 32 7 1,bE 33 32,ak 34 (.bV (.t 33)),aM 35 (kI 0)]
 (.block 2 td))
 (.seq (aj [bG 46 1 1,bE 47 46,ak 48 (.bV (.t 47)),aN 49 .eql (.t 48) (kI 0)]
 (bq 49 (aj [ag 50 5,ak 51 (.build qo []),bG 52 2 1,cF 53 5 52,bW 54 bM [(.t 53)],ag 2 50,⟨none,.store 5 (.t 3) (.t 51),none⟩,⟨none,.store 5 (.t 4) (.t 54),none⟩]
 .ret) .skip))
 (.seq (.cX true [ag 55 5,bG 56 1 1,bE 57 56,ak 58 (.aA 6 (.t 57) (kI 0)),bG 59 1 58,cF 60 5 59,bW 61 bM [(.t 60)],bG 62 2 1,cF 63 5 62,bW 64 bM [(.t 63)],ag 2 55,⟨none,.store 5 (.t 3) (.t 61),none⟩,⟨none,.store 5 (.t 4) (.t 64),none⟩])
 .ret)))))),false⟩
def oC:K :=
 (.seq (aj [ag 11 5,ag 12 0,ak 13 (.bV (.t 12)),aN 14 .lss (.t 11) (.t 13)]
 (bq 14 .skip (.exit 0)))
 (.seq (.block 1 (.seq (.cX true [ag 17 0,ag 18 5,ak 19 (.aA 5 (.t 17) (.t 18)),cF 20 5 19,ag 21 1,ag 22 5,ak 23 (.aA 5 (.t 21) (.t 22)),cF 24 5 23,bW 25 iZ [(.t 20),(.t 24)],ak 26 (.not (.t 25))])
 (bq 26 (aj [aM 4 (.c (.p (.bool false)))]
 .ret) .skip)))
 (.cX false [ag 15 5,aN 16 .add (.t 15) (kI 1),ag 5 16])))
def rU:K:=.loop [0,1,5] oC
def lz:cZ:=⟨27,[.tmp 4],
 (aj [aM 4 (.c (.p (.bool false)))]
 (.seq (aj [ag 6 0,ak 7 (.bV (.t 6)),ag 8 1,ak 9 (.bV (.t 8)),aN 10 .neq (.t 7) (.t 9)]
 (bq 10 (aj [aM 4 (.c (.p (.bool false)))]
 .ret) .skip))
 (.seq (aj [aM 5 (kI 0)]
 (.block 0 rU))
 (aj [aM 4 (.c (.p (.bool true)))]
 .ret)))),false⟩
def mZ:cZ:=⟨38,[.tmp 4],
 (aj [ak 2 (.box 5 true (.t 0) true),ak 3 (.box 5 true (.t 1) true),aM 4 (.c (.p (.bool false)))]
 (aj [bG 5 0 2,bE 6 5,bG 7 0 3,bE 8 7,aN 9 .eql (.t 6) (.t 8),ag 10 9,⟨some 11,.cQ 1 (.t 2),some (10,true)⟩,⟨some 12,.load 1 false (.t 11),some (10,true)⟩,⟨some 13,.cQ 1 (.t 3),some (10,true)⟩,⟨some 14,.load 1 false (.t 13),some (10,true)⟩,⟨some 15,.arith .eql (.t 12) (.t 14),some (10,true)⟩,ak 16 (.pick (.t 10) (.t 15) (.c (.p (.bool false)))),ag 17 16,⟨some 18,.cQ 2 (.t 2),some (17,true)⟩,⟨some 19,.load 1 false (.t 18),some (17,true)⟩,⟨some 20,.cQ 2 (.t 3),some (17,true)⟩,⟨some 21,.load 1 false (.t 20),some (17,true)⟩,⟨some 22,.arith .eql (.t 19) (.t 21),some (17,true)⟩,ak 23 (.pick (.t 17) (.t 22) (.c (.p (.bool false)))),ag 24 23,⟨some 25,.cQ 3 (.t 2),some (24,true)⟩,⟨some 26,.load 1 false (.t 25),some (24,true)⟩,⟨some 27,.cQ 3 (.t 3),some (24,true)⟩,⟨some 28,.load 1 false (.t 27),some (24,true)⟩,⟨some 29,.arith .eql (.t 26) (.t 28),some (24,true)⟩,ak 30 (.pick (.t 24) (.t 29) (.c (.p (.bool false)))),ag 31 30,⟨some 32,.cQ 4 (.t 2),some (31,true)⟩,⟨some 33,.load 1 false (.t 32),some (31,true)⟩,⟨some 34,.cQ 4 (.t 3),some (31,true)⟩,⟨some 35,.load 1 false (.t 34),some (31,true)⟩,⟨some 36,.dW lL [(.t 33),(.t 35)],some (31,true)⟩,ak 37 (.pick (.t 31) (.t 36) (.c (.p (.bool false)))),ag 4 37]
 .ret)),false⟩
def oD:K :=
 (.seq (aj [ag 7 4,ag 8 3,ak 9 (.bV (.t 8)),aN 10 .lss (.t 7) (.t 9)]
 (bq 10 .skip (.exit 0)))
 (.seq (.block 1 (aj [ag 13 3,ag 14 4,ak 15 (.aA 5 (.t 13) (.t 14)),cF 16 5 15,bW 17 jF [(.t 16)]]
 (bq 17 (aj [aM 2 (.c (.p (.bool true)))]
 .ret) .skip)))
 (.cX false [ag 11 4,aN 12 .add (.t 11) (kI 1),ag 4 12])))
def rW:K:=.loop [3,4] oD
def nT:cZ:=⟨18,[.tmp 2],
 (aj [ak 1 (.box 8 true (.t 0) true),aM 2 (.c (.p (.bool false)))]
 (aj [cF 5 8 1,bW 6 iF [(.t 5)],ag 3 6]
 (.seq (aj [aM 4 (kI 0)]
 (.block 0 rW))
 (aj [aM 2 (.c (.p (.bool false)))]
 .ret)))),false⟩
def nc:cZ:=⟨22,[.tmp 2,.tmp 3,.tmp 4],
 (aj [ak 1 (.box 8 true (.t 0) true),aM 2 (.c (.p (.bool false))),aM 3 (.c .aF),aM 4 (kI 0)]
 (.seq (aj [cF 6 8 1,bW 7 kZ [(.t 6)],ag 5 7]
 (aj [ag 8 5,aN 9 .neq (.t 8) (kI 0)]
 (bq 9 (aj [ag 10 5,aM 2 (.c (.p (.bool false))),aM 3 (.c .aF),ag 4 10]
 .ret) .skip)))
 (.seq (aj [cF 11 8 1,bW 12 er [(.t 11)]]
 (bq 12 (aj [aM 2 (.c (.p (.bool false))),aM 3 (.c .aF),aM 4 (kI 3)]
 .ret) .skip))
 (aj [cF 13 8 1,bW 14 ja [(.t 13)],ak 15 (.extract (.t 14) 0),ak 16 (.extract (.t 14) 1),ak 17 (.extract (.t 14) 2),bW 18 gF [(.t 15),(.t 16),(.t 17)],ak 19 (.extract (.t 18) 0),ak 20 (.extract (.t 18) 1),ak 21 (.extract (.t 18) 2),ag 2 19,ag 3 20,ag 4 21]
 .ret)))),false⟩
def cx:K :=
 (.seq (aj [ag 27 9,ag 28 8,aN 29 .leq (.t 27) (.t 28)]
 (bq 29 .skip (.exit 0)))
 (.seq (.block 1 (aj [cF 32 8 2,ak 10 (.init 8 true (.t 32) false)]
 (.seq (aj [cF 33 8 2,bW 34 er [(.t 33)]]
 (bq 34 (aj [cF 36 8 2,ag 37 9,bW 38 tl [(.t 36),(.t 37)],ag 35 38,ak 39 (.extract (.t 35) 0),ak 40 (.extract (.t 35) 1),ak 11 (.init 8 true (.t 39) true),ag 12 40]
 (.seq (aj [ag 41 12,aN 42 .neq (.t 41) (kI 0)]
 (bq 42 (aj [ag 43 9,ag 44 12,aM 4 (.c (.p (.bool false))),ag 5 43,ag 6 44]
 .ret) .skip))
 (.cX false [cF 45 8 11,⟨none,.store 8 (.t 10) (.t 45),none⟩]))) .skip))
 (aj [cF 47 8 10,bW 48 nu [(.t 47)],ag 46 48,ak 49 (.extract (.t 46) 0),ak 50 (.extract (.t 46) 1),ak 51 (.extract (.t 46) 2),ag 13 49,ag 14 50,ag 15 51]
 (aj [ag 52 15,aN 53 .neq (.t 52) (kI 0),ag 54 53,⟨some 55,.mv (.t 13) false,some (54,false)⟩,⟨some 56,.not (.t 55),some (54,false)⟩,ak 57 (.pick (.t 54) (.c (.p (.bool true))) (.t 56))]
 (bq 57 (aj [ag 58 9,ag 59 15,aM 4 (.c (.p (.bool false))),ag 5 58,ag 6 59]
 .ret) .skip))))))
 (.cX false [ag 30 9,aN 31 .add (.t 30) (kI 1),ag 9 31])))
def eN:K:=.loop [2,8,9] cx
def eD:cZ:=⟨60,[.tmp 4,.tmp 5,.tmp 6],
 (aj [ak 2 (.box 8 true (.t 0) true),aM 4 (.c (.p (.bool false))),aM 5 (kI 0),aM 6 (kI 0)]
 (.seq (aj [cF 16 8 2,bW 17 kZ [(.t 16)],ag 7 17]
 (aj [ag 18 7,aN 19 .neq (.t 18) (kI 0)]
 (bq 19 (aj [ag 20 7,aM 4 (.c (.p (.bool false))),aM 5 (kI 1),ag 6 20]
 .ret) .skip)))
 (aj [ag 21 1,ak 22 (.tv true [(.t 21),(kI 1)]),ak 23 (.tv false [(.t 22),(kI 8)]),ag 8 23]
 (.seq (aj [cF 24 8 2,bW 25 er [(.t 24)],ak 26 (.not (.t 25))]
 (bq 26 (.cX false [aM 8 (kI 1)]) .skip))
 (.seq (aj [aM 9 (kI 1)]
 (.block 0 eN))
 (aj [aM 4 (.c (.p (.bool true))),aM 5 (kI 0),aM 6 (kI 0)]
 .ret)))))),false⟩
def rF:K :=
 (.seq (aj [ag 7 5,bG 8 1 1,bE 9 8,ak 10 (.bV (.t 9)),aN 11 .lss (.t 7) (.t 10)]
 (bq 11 .skip (.exit 0)))
 (.seq (.block 1 (.seq (aj [bG 14 1 1,bE 15 14,ag 16 5,ak 17 (.aA 6 (.t 15) (.t 16)),bG 18 0 17,bE 19 18,aN 20 .neq (.t 19) (.c (.p (.str (bs []))))]
 (bq 20 (.cX false [ag 21 4,bG 22 1 1,bE 23 22,ag 24 5,ak 25 (.aA 6 (.t 23) (.t 24)),cF 26 6 25,bW 27 q6 [(.t 26)],ak 28 (.jY 5 qo 1 [(0,5,(.t 27))]),ak 29 (.append 5 64 (.t 21) (.t 28)),ak 4 (.mv (.t 29) true)]) .skip))
 (.cX false [ag 30 4,bG 31 1 1,bE 32 31,ag 33 5,ak 34 (.aA 6 (.t 32) (.t 33)),bG 35 1 34,cF 36 5 35,ak 37 (.jY 5 qo 1 [(0,5,(.t 36))]),ak 38 (.append 5 64 (.t 30) (.t 37)),ak 4 (.mv (.t 38) true)])))
 (.cX false [ag 12 5,aN 13 .add (.t 12) (kI 1),ag 5 13])))
def zu:K:=.loop [1,4,5] rF
def uB:cZ:=⟨43,[.tmp 2,.tmp 3],
 (aj [ak 1 (.box 8 true (.t 0) true),aM 2 (.c .aF),aM 3 (.c .aF)]
 (aj [ak 6 (.fB 5 qo 0 []),ak 4 (.mv (.t 6) true)]
 (.seq (aj [aM 5 (kI 0)]
 (.block 0 zu))
 (aj [ag 39 4,bW 40 o9 [(kI 24),(.t 39)],ag 41 4,bW 42 o9 [(kI 25),(.t 41)],ag 2 40,ag 3 42]
 .ret)))),false⟩
def jA:cZ:=⟨21,[.tmp 2],
 (aj [ak 1 (.box 8 true (.t 0) true),aM 2 (.c (.p (.bool false)))]
 (aj [bG 3 1 1,bE 4 3,ak 5 (.bV (.t 4)),aN 6 .eql (.t 5) (kI 1),ag 7 6,⟨some 8,.cQ 1 (.t 1),some (7,true)⟩,⟨some 9,.load 1 false (.t 8),some (7,true)⟩,⟨some 10,.aA 6 (.t 9) (kI 0),some (7,true)⟩,⟨some 11,.cQ 0 (.t 10),some (7,true)⟩,⟨some 12,.load 1 false (.t 11),some (7,true)⟩,⟨some 13,.arith .eql (.t 12) (.c (.p (.str (bs [])))),some (7,true)⟩,ak 14 (.pick (.t 7) (.t 13) (.c (.p (.bool false)))),ag 15 14,⟨some 16,.cQ 7 (.t 1),some (15,true)⟩,⟨some 17,.load 1 false (.t 16),some (15,true)⟩,⟨some 18,.bV (.t 17),some (15,true)⟩,⟨some 19,.arith .eql (.t 18) (kI 0),some (15,true)⟩,ak 20 (.pick (.t 15) (.t 19) (.c (.p (.bool false)))),ag 2 20]
 .ret)),false⟩
def kP:cZ:=⟨21,[.tmp 2],
 (aj [ak 1 (.box 8 true (.t 0) true),aM 2 (.c (.p (.bool false)))]
 (aj [bG 3 1 1,bE 4 3,ak 5 (.bV (.t 4)),aN 6 .eql (.t 5) (kI 1),ag 7 6,⟨some 8,.cQ 1 (.t 1),some (7,true)⟩,⟨some 9,.load 1 false (.t 8),some (7,true)⟩,⟨some 10,.aA 6 (.t 9) (kI 0),some (7,true)⟩,⟨some 11,.cQ 0 (.t 10),some (7,true)⟩,⟨some 12,.load 1 false (.t 11),some (7,true)⟩,⟨some 13,.arith .eql (.t 12) (.c (.p (.str (bs [])))),some (7,true)⟩,ak 14 (.pick (.t 7) (.t 13) (.c (.p (.bool false)))),ag 15 14,⟨some 16,.cQ 7 (.t 1),some (15,true)⟩,⟨some 17,.load 1 false (.t 16),some (15,true)⟩,⟨some 18,.bV (.t 17),some (15,true)⟩,⟨some 19,.arith .eql (.t 18) (kI 0),some (15,true)⟩,ak 20 (.pick (.t 15) (.t 19) (.c (.p (.bool false)))),ag 2 20]
 .ret)),false⟩
def mJ:cZ:=⟨31,[.tmp 4],
 (aj [ak 2 (.box 8 true (.t 0) true),ak 3 (.box 8 true (.t 1) true),aM 4 (.c (.p (.bool false)))]
 (aj [bG 5 0 2,bE 6 5,bG 7 0 3,bE 8 7,aN 9 .eql (.t 6) (.t 8),ag 10 9,⟨some 11,.cQ 2 (.t 2),some (10,true)⟩,⟨some 12,.load 5 true (.t 11),some (10,true)⟩,⟨some 13,.cQ 2 (.t 3),some (10,true)⟩,⟨some 14,.load 5 true (.t 13),some (10,true)⟩,⟨some 15,.dW et [(.t 12),(.t 14)],some (10,true)⟩,ak 16 (.pick (.t 10) (.t 15) (.c (.p (.bool false)))),ag 17 16,⟨some 18,.cQ 1 (.t 2),some (17,true)⟩,⟨some 19,.load 1 false (.t 18),some (17,true)⟩,⟨some 20,.cQ 1 (.t 3),some (17,true)⟩,⟨some 21,.load 1 false (.t 20),some (17,true)⟩,⟨some 22,.dW aK [(.t 19),(.t 21),(.c (.p (.fn iu [])))],some (17,true)⟩,ak 23 (.pick (.t 17) (.t 22) (.c (.p (.bool false)))),ag 24 23,⟨some 25,.cQ 7 (.t 2),some (24,true)⟩,⟨some 26,.load 1 false (.t 25),some (24,true)⟩,⟨some 27,.cQ 7 (.t 3),some (24,true)⟩,⟨some 28,.load 1 false (.t 27),some (24,true)⟩,⟨some 29,.dW aE [(.t 26),(.t 28),(.c (.p (.fn iv [])))],some (24,true)⟩,ak 30 (.pick (.t 24) (.t 29) (.c (.p (.bool false)))),ag 4 30]
 .ret)),false⟩
def qq:K :=
 (.seq (aj [ag 11 5,ag 12 0,ak 13 (.bV (.t 12)),aN 14 .lss (.t 11) (.t 13)]
 (bq 14 .skip (.exit 0)))
 (.seq (.block 1 (.seq (.cX true [ag 17 0,ag 18 5,ak 19 (.aA 2 (.t 17) (.t 18)),cF 20 2 19,ag 21 1,ag 22 5,ak 23 (.aA 2 (.t 21) (.t 22)),cF 24 2 23,ak 25 (.UD true [.str,.int] (.t 20) (.t 24))])
 (bq 25 (aj [aM 4 (.c (.p (.bool false)))]
 .ret) .skip)))
 (.cX false [ag 15 5,aN 16 .add (.t 15) (kI 1),ag 5 16])))
def vg:K:=.loop [0,1,5] qq
def oK:cZ:=⟨26,[.tmp 4],
 (aj [aM 4 (.c (.p (.bool false)))]
 (.seq (aj [ag 6 0,ak 7 (.bV (.t 6)),ag 8 1,ak 9 (.bV (.t 8)),aN 10 .neq (.t 7) (.t 9)]
 (bq 10 (aj [aM 4 (.c (.p (.bool false)))]
 .ret) .skip))
 (.seq (aj [aM 5 (kI 0)]
 (.block 0 vg))
 (aj [aM 4 (.c (.p (.bool true)))]
 .ret)))),false⟩
def rN:cZ:=⟨7,[.tmp 2],
 (aj [ak 1 (.box 8 true (.t 0) true),aM 2 (.c .aF)]
 (aj [bG 3 1 1,bE 4 3,bW 5 jt [(.t 4)],bW 6 gH [(.t 5)],ag 2 6]
 .ret)),false⟩
def uC:cZ:=⟨7,[.tmp 2],
 (aj [ak 1 (.box 8 true (.t 0) true),aM 2 (.c .aF)]
 (aj [bG 3 1 1,bE 4 3,bW 5 jt [(.t 4)],bW 6 iD [(.t 5)],ag 2 6]
 .ret)),false⟩
def iT:K :=
 (.seq (aj [ag 7 4,bG 8 1 1,bE 9 8,ak 10 (.bV (.t 9)),aN 11 .lss (.t 7) (.t 10)]
 (bq 11 .skip (.exit 0)))
 (.seq (.block 1 (.cX false [ag 14 3,bG 15 1 1,bE 16 15,ag 17 4,ak 18 (.aA 6 (.t 16) (.t 17)),bG 19 1 18,cF 20 5 19,ak 21 (.jY 5 qo 1 [(0,5,(.t 20))]),ak 22 (.append 5 64 (.t 14) (.t 21)),ak 3 (.mv (.t 22) true)]))
 (.cX false [ag 12 4,aN 13 .add (.t 12) (kI 1),ag 4 13])))
def nK:K:=.loop [1,3,4] iT
def gA:K :=
 (.seq (aj [ag 28 5,bG 29 7 1,bE 30 29,ak 31 (.bV (.t 30)),aN 32 .lss (.t 28) (.t 31)]
 (bq 32 .skip (.exit 2)))
 (.seq (.block 3 (aj [ag 35 3,bG 36 7 1,bE 37 36,ag 38 5,ak 39 (.aA 11 (.t 37) (.t 38)),bG 40 1 39,cF 41 5 40,ak 42 (.jY 5 qo 1 [(0,5,(.t 41))]),ak 43 (.append 5 64 (.t 35) (.t 42)),ak 3 (.mv (.t 43) true)]
 (aj [bG 44 7 1,bE 45 44,ag 46 5,ak 47 (.aA 11 (.t 45) (.t 46)),bG 48 0 47,bE 49 48,aN 50 .neq (.t 49) (kI 1)]
 (bq 50 (.cX false [ag 51 3,bG 52 7 1,bE 53 52,ag 54 5,ak 55 (.aA 11 (.t 53) (.t 54)),bG 56 6 55,cF 57 5 56,ak 58 (.jY 5 qo 1 [(0,5,(.t 57))]),ak 59 (.append 5 64 (.t 51) (.t 58)),ak 3 (.mv (.t 59) true)]) .skip))))
 (.cX false [ag 33 5,aN 34 .add (.t 33) (kI 1),ag 5 34])))
def vh:K:=.loop [1,3,5] gA
def jV:cZ:=⟨61,[.tmp 2],
 (aj [ak 1 (.box 8 true (.t 0) true),aM 2 (.c .aF)]
 (aj [ak 6 (.fB 5 qo 0 []),ak 3 (.mv (.t 6) true)]
 (.seq (aj [aM 4 (kI 0)]
 (.block 0 nK))
 (aj [ag 23 3,bG 24 2 1,cF 25 5 24,ak 26 (.jY 5 qo 1 [(0,5,(.t 25))]),ak 27 (.append 5 64 (.t 23) (.t 26)),ak 3 (.mv (.t 27) true)]
 (.seq (aj [aM 5 (kI 0)]
 (.block 2 vh))
 (aj [ag 60 3,ag 2 60]
 .ret)))))),false⟩
def ri:cZ:=⟨15,[.cell 6 5 true,.tmp 7],
 (aj [ak 3 (.box 5 true (.t 0) true),ak 6 (.alloc qo 5),aM 7 (.c (.p (.bool false)))]
 (.seq (aj [cF 8 5 3,ag 9 1,ag 10 2,bW 11 mO [(.t 8),(.t 9),(.t 10)],aN 12 .lss (.t 11) (kI 0)]
 (bq 12 (aj [ak 13 (.build qo []),⟨none,.store 5 (.t 6) (.t 13),none⟩,aM 7 (.c (.p (.bool false)))]
 .ret) .skip))
 (aj [cF 14 5 3,⟨none,.store 5 (.t 6) (.t 14),none⟩,aM 7 (.c (.p (.bool true)))]
 .ret))),false⟩
def rM:cZ:=⟨8,[.cell 4 5 true],
 (aj [ak 4 (.alloc qo 5)]
 (aj [ag 5 1,ag 6 0,ak 7 (.build qo [(0,1,(kI 24)),(1,1,(.t 5)),(3,1,(.t 6))]),⟨none,.store 5 (.t 4) (.t 7),none⟩]
 .ret)),false⟩
def mc:cZ:=⟨7,[.tmp 1],
 (aj [aM 1 (kI 0)]
 (aj [bG 2 0 0,bE 3 2,bW 4 jG [(.t 3)],ak 5 (.not (.t 4)),bW 6 gJ [(.t 5),(kI 5)],ag 1 6]
 .ret)),false⟩
def uE:cZ:=⟨7,[.tmp 4],
 (aj [aM 4 (kI 0)]
 (.seq (aj [ag 5 0]
 (bq 5 (aj [ag 6 1,ag 4 6]
 .ret) .skip))
 (aj [aM 4 (kI 0)]
 .ret))),false⟩
def rG:K :=
 (aj [aN 26 .lss (.t 25) (.t 24)]
 (.seq (bq 26 .skip (.exit 0))
 (.seq (.block 1 (aj [ag 27 25,ag 3 27]
 (aj [ag 28 0,ag 29 3,ak 30 (.M6 (.t 28) (.t 29)),ag 4 30]
 (aj [ag 31 4,aN 32 .lss (.t 31) (.c (.p (.int .u8 97))),ag 33 32,⟨some 34,.mv (.t 4) false,some (33,false)⟩,⟨some 35,.arith .gtr (.t 34) (.c (.p (.int .u8 122))),some (33,false)⟩,ak 36 (.pick (.t 33) (.c (.p (.bool true))) (.t 35)),ag 37 36,⟨some 38,.mv (.t 4) false,some (37,true)⟩,⟨some 39,.arith .lss (.t 38) (.c (.p (.int .u8 48))),some (37,true)⟩,⟨some 40,.mv (.t 39) false,some (37,true)⟩,⟨some 41,.mv (.t 4) false,some (40,false)⟩,⟨some 42,.arith .gtr (.t 41) (.c (.p (.int .u8 57))),some (40,false)⟩,⟨some 43,.pick (.t 40) (.c (.p (.bool true))) (.t 42),some (37,true)⟩,ak 44 (.pick (.t 37) (.t 43) (.c (.p (.bool false)))),ag 45 44,⟨some 46,.mv (.t 4) false,some (45,true)⟩,⟨some 47,.arith .neq (.t 46) (.c (.p (.int .u8 95))),some (45,true)⟩,ak 48 (.pick (.t 45) (.t 47) (.c (.p (.bool false))))]
 (bq 48 (aj [aM 2 (.c (.p (.bool false)))]
 .ret) .skip)))))
 (.cX false [aN 49 .add (.t 25) (kI 1),ag 25 49]))))
def vR:K:=.loop [0,24,25] rG
def jB:cZ:=⟨50,[.tmp 2],
 (aj [aM 2 (.c (.p (.bool false)))]
 (.seq (aj [ag 5 0,ak 6 (.Nd (.t 5)),aN 7 .lss (.t 6) (kI 1),ag 8 7,⟨some 9,.mv (.t 0) false,some (8,false)⟩,⟨some 10,.Nd (.t 9),some (8,false)⟩,⟨some 11,.arith .gtr (.t 10) (kI 16),some (8,false)⟩,ak 12 (.pick (.t 8) (.c (.p (.bool true))) (.t 11)),ag 13 12,⟨some 14,.mv (.t 0) false,some (13,false)⟩,⟨some 15,.M6 (.t 14) (kI 0),some (13,false)⟩,⟨some 16,.arith .lss (.t 15) (.c (.p (.int .u8 97))),some (13,false)⟩,ak 17 (.pick (.t 13) (.c (.p (.bool true))) (.t 16)),ag 18 17,⟨some 19,.mv (.t 0) false,some (18,false)⟩,⟨some 20,.M6 (.t 19) (kI 0),some (18,false)⟩,⟨some 21,.arith .gtr (.t 20) (.c (.p (.int .u8 122))),some (18,false)⟩,ak 22 (.pick (.t 18) (.c (.p (.bool true))) (.t 21))]
 (bq 22 (aj [aM 2 (.c (.p (.bool false)))]
 .ret) .skip))
 (.seq (aj [ag 23 0,ak 24 (.Nd (.t 23)),aM 25 (kI 0)]
 (.block 0 vR))
 (aj [aM 2 (.c (.p (.bool true)))]
 .ret)))),false⟩
def iy:cZ:=⟨19,[.tmp 1],
 (aj [aM 1 (kI 0)]
 (aj [bG 2 1 0,bE 3 2,ak 4 (.bV (.t 3)),aN 5 .eql (.t 4) (kI 0),ag 6 5,⟨some 7,.cQ 1 (.t 0),some (6,false)⟩,⟨some 8,.load 1 false (.t 7),some (6,false)⟩,⟨some 9,.bV (.t 8),some (6,false)⟩,⟨some 10,.arith .gtr (.t 9) (kI 4),some (6,false)⟩,ak 11 (.pick (.t 6) (.c (.p (.bool true))) (.t 10)),ag 12 11,⟨some 13,.cQ 7 (.t 0),some (12,false)⟩,⟨some 14,.load 1 false (.t 13),some (12,false)⟩,⟨some 15,.bV (.t 14),some (12,false)⟩,⟨some 16,.arith .gtr (.t 15) (kI 8),some (12,false)⟩,ak 17 (.pick (.t 12) (.c (.p (.bool true))) (.t 16)),bW 18 gJ [(.t 17),(kI 7)],ag 1 18]
 .ret)),false⟩
def oL:cZ:=⟨5,[.tmp 1],
 (aj [aM 1 (kI 0)]
 (aj [bG 2 1 0,bE 3 2,bW 4 nw [(.t 3)],ag 1 4]
 .ret)),false⟩
def lx:K :=
 (aj [aN 9 .lss (.t 8) (.t 7)]
 (.seq (bq 9 .skip (.exit 0))
 (.seq (.block 1 (aj [ak 10 (.aA 6 (.t 6) (.t 8)),cF 11 6 10,ak 4 (.init 6 true (.t 11) true)]
 (.seq (aj [bG 12 1 4,cF 13 5 12,bW 14 ez [(.t 13),(.c (.p (.bool false)))],ag 5 14]
 (aj [ag 15 5,aN 16 .neq (.t 15) (kI 0)]
 (bq 16 (aj [ag 17 5,ag 2 17]
 .ret) .skip)))
 (aj [bG 18 0 4,bE 19 18,aN 20 .neq (.t 19) (.c (.p (.str (bs [])))),ag 21 20,⟨some 22,.cQ 0 (.t 4),some (21,true)⟩,⟨some 23,.load 1 false (.t 22),some (21,true)⟩,⟨some 24,.dW jG [(.t 23)],some (21,true)⟩,⟨some 25,.not (.t 24),some (21,true)⟩,ak 26 (.pick (.t 21) (.t 25) (.c (.p (.bool false))))]
 (bq 26 (aj [aM 2 (kI 5)]
 .ret) .skip)))))
 (.cX false [aN 27 .add (.t 8) (kI 1),ag 8 27]))))
def tX:K:=.loop [6,7,8] lx
def pG:cZ:=⟨28,[.tmp 2],
 (aj [aM 2 (kI 0)]
 (.seq (aj [ag 6 0,ak 7 (.bV (.t 6)),aM 8 (kI 0)]
 (.block 0 tX))
 (aj [aM 2 (kI 0)]
 .ret))),false⟩
def oM:cZ:=⟨5,[.tmp 1],
 (aj [aM 1 (kI 0)]
 (aj [bG 2 1 0,bE 3 2,bW 4 nx [(.t 3)],ag 1 4]
 .ret)),false⟩
def nQ:K :=
 (aj [aN 11 .lss (.t 10) (.t 9)]
 (.seq (bq 11 .skip (.exit 0))
 (.seq (.block 1 (aj [ak 12 (.aA 5 (.t 8) (.t 10)),cF 13 5 12,ak 5 (.init 5 true (.t 13) true)]
 (aj [ag 14 3,cF 15 5 5,bW 16 j6 [(.t 14),(.t 15)],ak 17 (.not (.t 16))]
 (bq 17 (aj [aM 2 (kI 12)]
 .ret) .skip))))
 (.cX false [aN 18 .add (.t 10) (kI 1),ag 10 18]))))
def tZ:K:=.loop [3,8,9,10] nQ
def nd:cZ:=⟨22,[.tmp 2],
 (aj [aM 2 (kI 0)]
 (aj [ak 6 (.Bq),ag 3 6]
 (.seq (aj [ag 7 0,bW 8 jt [(.t 7)],ak 9 (.bV (.t 8)),aM 10 (kI 0)]
 (.block 0 tZ))
 (.seq (aj [ag 19 3,ak 20 (.yw (.t 19)),aN 21 .gtr (.t 20) (kI 16)]
 (bq 21 (aj [aM 2 (kI 7)]
 .ret) .skip))
 (aj [aM 2 (kI 0)]
 .ret))))),false⟩
def oN:cZ:=⟨5,[.tmp 1],
 (aj [aM 1 (kI 0)]
 (aj [bG 2 2 0,cF 3 5 2,bW 4 ez [(.t 3),(.c (.p (.bool true)))],ag 1 4]
 .ret)),false⟩
def eB:K :=
 (.cX false [ak 7 (.init 5 true (.t 27) true)])
def eC:K :=
 (.block 1 (.seq (aj [bG 28 0 7,bE 29 28,bW 30 dp [(.t 29)],ak 31 (.not (.t 30))]
 (bq 31 (.exit 1) .skip))
 (aj [bE 33 6,bG 34 3 7,bE 35 34,ak 36 (.lookup .str (.agg qo) (.t 33) (.t 35) true),ag 32 36,ak 37 (.extract (.t 32) 0),ak 38 (.extract (.t 32) 1),ak 8 (.init 5 true (.t 37) true),ag 9 38]
 (.seq (aj [ag 39 9,ag 40 39,⟨some 41,.cQ 0 (.t 8),some (40,true)⟩,⟨some 42,.load 1 false (.t 41),some (40,true)⟩,⟨some 43,.cQ 0 (.t 7),some (40,true)⟩,⟨some 44,.load 1 false (.t 43),some (40,true)⟩,⟨some 45,.arith .neq (.t 42) (.t 44),some (40,true)⟩,⟨some 46,.mv (.t 45) false,some (40,true)⟩,⟨some 47,.cQ 1 (.t 8),some (46,false)⟩,⟨some 48,.load 1 false (.t 47),some (46,false)⟩,⟨some 49,.cQ 1 (.t 7),some (46,false)⟩,⟨some 50,.load 1 false (.t 49),some (46,false)⟩,⟨some 51,.arith .neq (.t 48) (.t 50),some (46,false)⟩,⟨some 52,.pick (.t 46) (.c (.p (.bool true))) (.t 51),some (40,true)⟩,ak 53 (.pick (.t 40) (.t 52) (.c (.p (.bool false))))]
 (bq 53 (aj [⟨none,.store 1 (.t 4) (kI 12),none⟩]
 .ret) .skip))
 (.cX false [bE 54 6,bG 55 3 7,bE 56 55,cF 57 5 7,⟨none,.Qb .str (.t 54) (.t 56) (.t 57),none⟩])))))
def yJ:K:=.range (.t 26) [27] [4,6] eB eC
def eu:cZ:=⟨61,[.cell 4 1 false],
 (aj [ak 2 (.box 5 true (.t 0) true),ak 4 (.alloc [(.p (.int .i64 0))] 1)]
 (.seq (aj [cF 10 5 2,bW 11 mR [(.t 10)],aN 12 .gtr (.t 11) (kI 4096),ag 13 12,⟨some 14,.load 5 true (.t 2),some (13,false)⟩,⟨some 15,.dW k9 [(.t 14)],some (13,false)⟩,⟨some 16,.arith .gtr (.t 15) (kI 64),some (13,false)⟩,ak 17 (.pick (.t 13) (.c (.p (.bool true))) (.t 16))]
 (bq 17 (aj [⟨none,.store 1 (.t 4) (kI 7),none⟩]
 .ret) .skip))
 (.seq (aj [cF 18 5 2,ag 19 1,bW 20 gI [(.t 18),(.t 19)],ag 5 20]
 (aj [ag 21 5,aN 22 .neq (.t 21) (kI 0)]
 (bq 22 (aj [ag 23 5,⟨none,.store 1 (.t 4) (.t 23),none⟩]
 .ret) .skip)))
 (aj [ak 24 (.Bq),ak 6 (.init 1 false (.t 24) true)]
 (.seq (aj [cF 25 5 2,bW 26 dn [(.t 25)]]
 (.block 0 yJ))
 (.seq (aj [bE 58 6,ak 59 (.yw (.t 58)),aN 60 .gtr (.t 59) (kI 16)]
 (bq 60 (aj [⟨none,.store 1 (.t 4) (kI 7),none⟩]
 .ret) .skip))
 (aj [⟨none,.store 1 (.t 4) (kI 0),none⟩]
 .ret))))))),false⟩
def me:cZ:=⟨11,[.tmp 1],
 (aj [aM 1 (kI 0)]
 (.seq (.cX true [bG 2 2 0,cF 3 5 2,cF 4 8 0,bW 5 js [(.t 4)],cF 6 8 0,bW 7 k6 [(.t 6)],bW 8 k7 [(.t 3),(.t 5),(.t 7)],ak 9 (.not (.t 8)),bW 10 gJ [(.t 9),(kI 12)],ag 1 10])
 .ret)),false⟩
def p9:K :=
 (aj [aN 33 .lss (.t 32) (.t 31)]
 (.seq (bq 33 .skip (.exit 0))
 (.seq (.block 1 (aj [ak 34 (.aA 5 (.t 30) (.t 32)),cF 35 5 34,ak 8 (.init 5 true (.t 35) true)]
 (aj [cF 36 5 8,ag 37 1,ag 38 2,bW 39 k7 [(.t 36),(.t 37),(.t 38)],ak 40 (.not (.t 39))]
 (bq 40 (aj [aM 6 (.c (.p (.bool false)))]
 .ret) .skip))))
 (.cX false [aN 41 .add (.t 32) (kI 1),ag 32 41]))))
def tY:K:=.loop [1,2,30,31,32] p9
def kQ:cZ:=⟨42,[.tmp 6],
 (aj [ak 3 (.box 5 true (.t 0) true),aM 6 (.c (.p (.bool false)))]
 (.seq (aj [bG 9 0 3,bE 10 9,aN 11 .eql (.t 10) (kI 24)]
 (bq 11 (aj [ag 12 1,bG 13 3 3,bE 14 13,bG 15 1 3,bE 16 15,ak 17 (.build [(.p (.str (bs []))),(.p (.int .i64 0))] [(0,1,(.t 14)),(1,1,(.t 16))]),bW 18 a6 [(.t 12),(.t 17)],ag 6 18]
 .ret) .skip))
 (.seq (aj [bG 19 0 3,bE 20 19,aN 21 .eql (.t 20) (kI 25)]
 (bq 21 (aj [ag 22 2,bG 23 3 3,bE 24 23,bG 25 1 3,bE 26 25,ak 27 (.build [(.p (.str (bs []))),(.p (.int .i64 0))] [(0,1,(.t 24)),(1,1,(.t 26))]),bW 28 a6 [(.t 22),(.t 27)],ag 6 28]
 .ret) .skip))
 (.seq (aj [bG 29 4 3,bE 30 29,ak 31 (.bV (.t 30)),aM 32 (kI 0)]
 (.block 0 tY))
 (aj [aM 6 (.c (.p (.bool true)))]
 .ret))))),false⟩
def mf:cZ:=⟨13,[.tmp 1],
 (aj [aM 1 (kI 0)]
 (.seq (.cX true [bG 2 2 0,bG 3 1 2,bE 4 3,bG 5 1 0,bE 6 5,ak 7 (.aA 6 (.t 6) (kI 0)),bG 8 1 7,bG 9 1 8,bE 10 9,aN 11 .neq (.t 4) (.t 10),bW 12 gJ [(.t 11),(kI 3)],ag 1 12])
 .ret)),false⟩
def oO:cZ:=⟨4,[.tmp 1],
 (aj [aM 1 (kI 0)]
 (aj [cF 2 8 0,bW 3 lO [(.t 2)],ag 1 3]
 .ret)),false⟩
def oE:K :=
 (aj [aN 16 .lss (.t 15) (.t 14)]
 (.seq (bq 16 .skip (.exit 0))
 (.seq (.block 1 (aj [ak 17 (.aA 11 (.t 13) (.t 15)),cF 18 11 17,ak 6 (.init 11 true (.t 18) true)]
 (aj [cF 19 11 6,ag 20 3,ag 21 4,bW 22 lI [(.t 19),(.t 20),(.t 21)],ag 7 22]
 (aj [ag 23 7,aN 24 .neq (.t 23) (kI 0)]
 (bq 24 (aj [ag 25 7,ag 2 25]
 .ret) .skip)))))
 (.cX false [aN 26 .add (.t 15) (kI 1),ag 15 26]))))
def rX:K:=.loop [3,4,13,14,15] oE
def nW:cZ:=⟨27,[.tmp 2],
 (aj [ak 1 (.box 8 true (.t 0) true),aM 2 (kI 0)]
 (.seq (.cX true [cF 8 8 1,bW 9 js [(.t 8)],cF 10 8 1,bW 11 k6 [(.t 10)],ag 3 9,ag 4 11])
 (.seq (aj [bG 12 7 1,bE 13 12,ak 14 (.bV (.t 13)),aM 15 (kI 0)]
 (.block 0 rX))
 (aj [aM 2 (kI 0)]
 .ret)))),false⟩
def kN:cZ:=⟨25,[.cell 4 5 true,.tmp 5],
 (aj [ak 2 (.box 5 true (.t 0) true),ak 4 (.alloc qo 5),aM 5 (kI 0)]
 (.seq (aj [ag 8 1,aN 9 .lss (.t 8) (kI 1),ag 10 9,⟨some 11,.mv (.t 1) false,some (10,false)⟩,⟨some 12,.arith .gtr (.t 11) (kI 64),some (10,false)⟩,ak 13 (.pick (.t 10) (.c (.p (.bool true))) (.t 12))]
 (bq 13 (aj [ak 14 (.build qo []),⟨none,.store 5 (.t 4) (.t 14),none⟩,aM 5 (kI 2)]
 .ret) .skip))
 (aj [cF 16 5 2,ag 17 1,bW 18 kY [(.t 16),(.t 17)],ag 15 18,ak 19 (.extract (.t 15) 0),ak 20 (.extract (.t 15) 1),ak 6 (.init 5 true (.t 19) true),ag 7 20]
 (.seq (aj [ag 21 7,ak 22 (.not (.t 21))]
 (bq 22 (aj [ak 23 (.build qo []),⟨none,.store 5 (.t 4) (.t 23),none⟩,aM 5 (kI 3)]
 .ret) .skip))
 (aj [cF 24 5 6,⟨none,.store 5 (.t 4) (.t 24),none⟩,aM 5 (kI 0)]
 .ret))))),false⟩
def oG:cZ:=⟨51,[.cell 4 11 true,.tmp 5],
 (aj [ak 2 (.box 11 true (.t 0) true),ak 4 (.alloc [(.p (.int .i64 0)),(.p (.int .i64 0)),(.p (.int .i64 0)),(.p (.int .u64 0)),(.p (.str (bs []))),.aF,(.p (.int .i64 0)),(.p (.int .i64 0)),(.p (.int .u64 0)),(.p (.str (bs []))),.aF] 11),aM 5 (kI 0)]
 (.seq (aj [bG 9 0 2,bE 10 9,aN 11 .lss (.t 10) (kI 1),ag 12 11,⟨some 13,.cQ 0 (.t 2),some (12,false)⟩,⟨some 14,.load 1 false (.t 13),some (12,false)⟩,⟨some 15,.arith .gtr (.t 14) (kI 4),some (12,false)⟩,ak 16 (.pick (.t 12) (.c (.p (.bool true))) (.t 15))]
 (bq 16 (aj [ak 17 (.build [(.p (.int .i64 0)),(.p (.int .i64 0)),(.p (.int .i64 0)),(.p (.int .u64 0)),(.p (.str (bs []))),.aF,(.p (.int .i64 0)),(.p (.int .i64 0)),(.p (.int .u64 0)),(.p (.str (bs []))),.aF] []),⟨none,.store 11 (.t 4) (.t 17),none⟩,aM 5 (kI 1)]
 .ret) .skip))
 (aj [bG 19 1 2,cF 20 5 19,ag 21 1,bW 22 ir [(.t 20),(.t 21)],ag 18 22,ak 23 (.extract (.t 18) 0),ak 24 (.extract (.t 18) 1),ak 6 (.init 5 true (.t 23) true),ag 7 24]
 (.seq (aj [ag 25 7,aN 26 .neq (.t 25) (kI 0)]
 (bq 26 (aj [ak 27 (.build [(.p (.int .i64 0)),(.p (.int .i64 0)),(.p (.int .i64 0)),(.p (.int .u64 0)),(.p (.str (bs []))),.aF,(.p (.int .i64 0)),(.p (.int .i64 0)),(.p (.int .u64 0)),(.p (.str (bs []))),.aF] []),ag 28 7,⟨none,.store 11 (.t 4) (.t 27),none⟩,ag 5 28]
 .ret) .skip))
 (aj [bG 29 6 2,cF 30 5 29,bW 31 iG [(.t 30)],ak 8 (.init 5 true (.t 31) false)]
 (.seq (aj [bG 32 0 2,bE 33 32,aN 34 .neq (.t 33) (kI 1)]
 (bq 34 (aj [bG 36 6 2,cF 37 5 36,ag 38 1,bW 39 ir [(.t 37),(.t 38)],ag 35 39,ak 40 (.extract (.t 35) 0),ak 41 (.extract (.t 35) 1),⟨none,.store 5 (.t 8) (.t 40),none⟩,ag 7 41]
 (aj [ag 42 7,aN 43 .neq (.t 42) (kI 0)]
 (bq 43 (aj [ak 44 (.build [(.p (.int .i64 0)),(.p (.int .i64 0)),(.p (.int .i64 0)),(.p (.int .u64 0)),(.p (.str (bs []))),.aF,(.p (.int .i64 0)),(.p (.int .i64 0)),(.p (.int .u64 0)),(.p (.str (bs []))),.aF] []),ag 45 7,⟨none,.store 11 (.t 4) (.t 44),none⟩,ag 5 45]
 .ret) .skip))) .skip))
 (aj [bG 46 0 2,bE 47 46,cF 48 5 6,cF 49 5 8,ak 50 (.build [(.p (.int .i64 0)),(.p (.int .i64 0)),(.p (.int .i64 0)),(.p (.int .u64 0)),(.p (.str (bs []))),.aF,(.p (.int .i64 0)),(.p (.int .i64 0)),(.p (.int .u64 0)),(.p (.str (bs []))),.aF] [(0,1,(.t 47)),(1,5,(.t 48)),(6,5,(.t 49))]),⟨none,.store 11 (.t 4) (.t 50),none⟩,aM 5 (kI 0)]
 .ret))))))),false⟩
def fJ:K :=
 (.seq (aj [ag 11 5,ag 12 0,ak 13 (.bV (.t 12)),aN 14 .lss (.t 11) (.t 13)]
 (bq 14 .skip (.exit 0)))
 (.seq (.block 1 (.seq (.cX true [ag 17 0,ag 18 5,ak 19 (.aA 11 (.t 17) (.t 18)),bG 20 0 19,bE 21 20,ag 22 1,ag 23 5,ak 24 (.aA 11 (.t 22) (.t 23)),bG 25 0 24,bE 26 25,aN 27 .neq (.t 21) (.t 26),ag 28 27,⟨some 29,.mv (.t 0) false,some (28,false)⟩,⟨some 30,.mv (.t 5) false,some (28,false)⟩,⟨some 31,.aA 11 (.t 29) (.t 30),some (28,false)⟩,⟨some 32,.cQ 1 (.t 31),some (28,false)⟩,⟨some 33,.load 5 true (.t 32),some (28,false)⟩,⟨some 34,.mv (.t 1) false,some (28,false)⟩,⟨some 35,.mv (.t 5) false,some (28,false)⟩,⟨some 36,.aA 11 (.t 34) (.t 35),some (28,false)⟩,⟨some 37,.cQ 1 (.t 36),some (28,false)⟩,⟨some 38,.load 5 true (.t 37),some (28,false)⟩,⟨some 39,.dW iZ [(.t 33),(.t 38)],some (28,false)⟩,⟨some 40,.not (.t 39),some (28,false)⟩,ak 41 (.pick (.t 28) (.c (.p (.bool true))) (.t 40)),ag 42 41,⟨some 43,.mv (.t 0) false,some (42,false)⟩,⟨some 44,.mv (.t 5) false,some (42,false)⟩,⟨some 45,.aA 11 (.t 43) (.t 44),some (42,false)⟩,⟨some 46,.cQ 6 (.t 45),some (42,false)⟩,⟨some 47,.load 5 true (.t 46),some (42,false)⟩,⟨some 48,.mv (.t 1) false,some (42,false)⟩,⟨some 49,.mv (.t 5) false,some (42,false)⟩,⟨some 50,.aA 11 (.t 48) (.t 49),some (42,false)⟩,⟨some 51,.cQ 6 (.t 50),some (42,false)⟩,⟨some 52,.load 5 true (.t 51),some (42,false)⟩,⟨some 53,.dW iZ [(.t 47),(.t 52)],some (42,false)⟩,⟨some 54,.not (.t 53),some (42,false)⟩,ak 55 (.pick (.t 42) (.c (.p (.bool true))) (.t 54))])
 (bq 55 (aj [aM 4 (.c (.p (.bool false)))]
 .ret) .skip)))
 (.cX false [ag 15 5,aN 16 .add (.t 15) (kI 1),ag 5 16])))
def ou:K:=.loop [0,1,5] fJ
def gV:cZ:=⟨56,[.tmp 4],
 (aj [aM 4 (.c (.p (.bool false)))]
 (.seq (aj [ag 6 0,ak 7 (.bV (.t 6)),ag 8 1,ak 9 (.bV (.t 8)),aN 10 .neq (.t 7) (.t 9)]
 (bq 10 (aj [aM 4 (.c (.p (.bool false)))]
 .ret) .skip))
 (.seq (aj [aM 5 (kI 0)]
 (.block 0 ou))
 (aj [aM 4 (.c (.p (.bool true)))]
 .ret)))),false⟩
def a8:cZ:=⟨9,[.tmp 4],
 (aj [aM 4 (.c (.p (.bool false)))]
 (aj [ag 5 0,ag 6 1,bW 7 aP [(.t 5),(.t 6)],aN 8 .geq (.t 7) (kI 0),ag 4 8]
 .ret)),false⟩
def jM:K :=
 (aj [aN 12 .lss (.t 11) (.t 10)]
 (.seq (bq 12 .skip (.exit 0))
 (.seq (.block 1 (aj [ak 13 (.aA 6 (.t 9) (.t 11)),cF 14 6 13,ak 5 (.init 6 true (.t 14) true)]
 (.cX false [ag 15 3,bG 16 1 5,cF 17 5 16,ak 18 (.jY 5 qo 1 [(0,5,(.t 17))]),ak 19 (.append 5 64 (.t 15) (.t 18)),ak 3 (.mv (.t 19) true)])))
 (.cX false [aN 20 .add (.t 11) (kI 1),ag 11 20]))))
def pJ:K:=.loop [1,3,9,10,11] jM
def gU:K :=
 (aj [aN 30 .lss (.t 29) (.t 28)]
 (.seq (bq 30 .skip (.exit 2))
 (.seq (.block 3 (aj [ak 31 (.aA 11 (.t 27) (.t 29)),cF 32 11 31,ak 7 (.init 11 true (.t 32) true)]
 (aj [ag 33 3,bG 34 1 7,cF 35 5 34,ak 36 (.jY 5 qo 1 [(0,5,(.t 35))]),ak 37 (.append 5 64 (.t 33) (.t 36)),ak 3 (.mv (.t 37) true)]
 (aj [bG 38 0 7,bE 39 38,aN 40 .neq (.t 39) (kI 1)]
 (bq 40 (.cX false [ag 41 3,bG 42 6 7,cF 43 5 42,ak 44 (.jY 5 qo 1 [(0,5,(.t 43))]),ak 45 (.append 5 64 (.t 41) (.t 44)),ak 3 (.mv (.t 45) true)]) .skip)))))
 (.cX false [aN 46 .add (.t 29) (kI 1),ag 29 46]))))
def te:K:=.loop [3,27,28,29] gU
def nI:cZ:=⟨48,[.tmp 2],
 (aj [ak 1 (.box 8 true (.t 0) true),aM 2 (.c .aF)]
 (aj [ak 3 (.mv (.c .aF) true)]
 (.seq (aj [bG 8 1 1,bE 9 8,ak 10 (.bV (.t 9)),aM 11 (kI 0)]
 (.block 0 pJ))
 (aj [ag 21 3,bG 22 2 1,cF 23 5 22,ak 24 (.jY 5 qo 1 [(0,5,(.t 23))]),ak 25 (.append 5 64 (.t 21) (.t 24)),ak 3 (.mv (.t 25) true)]
 (.seq (aj [bG 26 7 1,bE 27 26,ak 28 (.bV (.t 27)),aM 29 (kI 0)]
 (.block 2 te))
 (aj [ag 47 3,ag 2 47]
 .ret)))))),false⟩
def jP:K :=
 (.cX false [ak 3 (.init 5 true (.t 6) true)])
def jQ:K :=
 (.block 1 (aj [bG 7 1 3,bE 8 7,aN 9 .eql (.t 8) (kI 0)]
 (bq 9 (aj [⟨none,.store 1 (.t 2) (.c (.p (.bool true))),none⟩]
 .ret) .skip)))
def wO:K:=.range (.t 5) [6] [2] jP jQ
def kO:cZ:=⟨10,[.cell 2 1 false],
 (aj [ak 1 (.box 5 true (.t 0) true),ak 2 (.alloc [(.p (.bool false))] 1)]
 (.seq (aj [cF 4 5 1,bW 5 dn [(.t 4)]]
 (.block 0 wO))
 (aj [⟨none,.store 1 (.t 2) (.c (.p (.bool false))),none⟩]
 .ret))),false⟩
def kH:K :=
 (aj [aN 37 .lss (.t 36) (.t 35)]
 (.seq (bq 37 .skip (.exit 0))
 (.seq (.block 1 (aj [ak 38 (.aA 5 (.t 34) (.t 36)),cF 39 5 38,ak 5 (.init 5 true (.t 39) true)]
 (.cX true [bG 40 4 3,bE 41 40,cF 42 5 5,bW 43 bM [(.t 42)],ak 44 (.fB 5 qo 1 [(0,5,(.t 43))]),ak 45 (.append 5 64 (.t 41) (.t 44)),bG 46 4 3,⟨none,.store 1 (.t 46) (.t 45),none⟩])))
 (.cX false [aN 47 .add (.t 36) (kI 1),ag 36 47]))))
def oR:K:=.loop [2,3,34,35,36] kH
def gr:cZ:=⟨49,[.cell 2 5 true],
 (aj [ak 1 (.box 5 true (.t 0) true),ak 2 (.alloc qo 5)]
 (.seq (aj [bG 6 0 1,bE 7 6,aN 8 .eql (.t 7) (kI 26),ag 9 8,⟨some 10,.cQ 4 (.t 1),some (9,true)⟩,⟨some 11,.load 1 false (.t 10),some (9,true)⟩,⟨some 12,.bV (.t 11),some (9,true)⟩,⟨some 13,.arith .eql (.t 12) (kI 1),some (9,true)⟩,ak 14 (.pick (.t 9) (.t 13) (.c (.p (.bool false))))]
 (bq 14 (aj [bG 15 4 1,bE 16 15,ak 17 (.aA 5 (.t 16) (kI 0)),cF 18 5 17,bW 19 bM [(.t 18)],⟨none,.store 5 (.t 2) (.t 19),none⟩]
 .ret) .skip))
 (aj [bG 20 0 1,bE 21 20,bG 22 1 1,bE 23 22,bG 24 2 1,bE 25 24,bG 26 3 1,bE 27 26,ak 28 (.build qo [(0,1,(.t 21)),(1,1,(.t 23)),(2,1,(.t 25)),(3,1,(.t 27))]),ak 3 (.init 5 true (.t 28) false)]
 (.seq (aj [bG 29 0 1,bE 30 29,bW 31 dp [(.t 30)]]
 (bq 31 (.cX false [bG 32 0 3,⟨none,.store 1 (.t 32) (kI 1),none⟩]) .skip))
 (.seq (aj [bG 33 4 1,bE 34 33,ak 35 (.bV (.t 34)),aM 36 (kI 0)]
 (.block 0 oR))
 (aj [cF 48 5 3,⟨none,.store 5 (.t 2) (.t 48),none⟩]
 .ret)))))),false⟩
def uD:cZ:=⟨9,[.cell 2 5 true],
 (aj [ak 1 (.box 6 true (.t 0) true),ak 2 (.alloc qo 5)]
 (aj [bG 3 1 1,bG 4 1 3,bE 5 4,bG 6 0 1,bE 7 6,ak 8 (.build qo [(0,1,(kI 24)),(1,1,(.t 5)),(3,1,(.t 7))]),⟨none,.store 5 (.t 2) (.t 8),none⟩]
 .ret)),false⟩
def rK:cZ:=⟨41,[.cell 2 5 true],
 (aj [ak 1 (.box 11 true (.t 0) true),ak 2 (.alloc qo 5)]
 (.seq (.CO [bG 6 1 1,cF 7 5 6,bW 8 iG [(.t 7)],bG 9 6 1,cF 10 5 9,bW 11 iG [(.t 10)],ak 3 (.alloc qo 5),ak 4 (.alloc qo 5),⟨none,.store 5 (.t 3) (.t 8),none⟩,⟨none,.store 5 (.t 4) (.t 11),none⟩] [(6,7)])
 (.seq (aj [bG 12 0 1,bE 13 12]
 (.block 0 (aj [aN 15 .eql (.t 13) (kI 1),ag 14 15]
 (bq 14 (aj [cF 16 5 3,⟨none,.store 5 (.t 2) (.t 16),none⟩]
 .ret) (aj [aN 18 .eql (.t 13) (kI 2),ag 17 18]
 (bq 17 (aj [cF 19 5 3,cF 20 5 4,bW 21 jD [(kI 16),(.t 19),(.t 20)],⟨none,.store 5 (.t 2) (.t 21),none⟩]
 .ret) (aj [aN 23 .eql (.t 13) (kI 3),ag 22 23]
 (bq 22 (aj [bG 24 1 3,bE 25 24,cF 26 5 3,cF 27 5 4,ak 28 (.jY 5 qo 2 [(0,5,(.t 26)),(1,5,(.t 27))]),ak 29 (.build qo [(0,1,(kI 5)),(1,1,(.t 25)),(4,1,(.t 28))]),ak 5 (.init 5 true (.t 29) true)]
 (aj [cF 30 5 5,bG 31 1 3,bE 32 31,ak 33 (.build qo [(0,1,(kI 2)),(1,1,(.t 32))]),bW 34 jD [(kI 16),(.t 30),(.t 33)],⟨none,.store 5 (.t 2) (.t 34),none⟩]
 .ret)) (aj [aN 36 .eql (.t 13) (kI 4),ag 35 36]
 (bq 35 (aj [cF 37 5 3,cF 38 5 4,bW 39 jD [(kI 17),(.t 37),(.t 38)],⟨none,.store 5 (.t 2) (.t 39),none⟩]
 .ret) .skip))))))))))
 (aj [ak 40 (.build qo []),⟨none,.store 5 (.t 2) (.t 40),none⟩]
 .ret)))),false⟩
def wL:cZ:=⟨9,[.cell 2 5 true],
 (aj [ak 1 (.box 6 true (.t 0) true),ak 2 (.alloc qo 5)]
 (aj [bG 3 1 1,bG 4 1 3,bE 5 4,bG 6 0 1,bE 7 6,ak 8 (.build qo [(0,1,(kI 24)),(1,1,(.t 5)),(3,1,(.t 7))]),⟨none,.store 5 (.t 2) (.t 8),none⟩]
 .ret)),false⟩
def rE:K :=
 (.seq (aj [ag 7 4,ag 8 3,ak 9 (.bV (.t 8)),aN 10 .lss (.t 7) (.t 9)]
 (bq 10 .skip (.exit 0)))
 (.seq (.block 1 (aj [ag 13 3,ag 14 4,ak 15 (.aA 5 (.t 13) (.t 14)),bG 16 1 15,bE 17 16,aN 18 .eql (.t 17) (kI 0)]
 (bq 18 (aj [aM 2 (.c (.p (.bool true)))]
 .ret) .skip)))
 (.cX false [ag 11 4,aN 12 .add (.t 11) (kI 1),ag 4 12])))
def rV:K:=.loop [3,4] rE
def nS:cZ:=⟨19,[.tmp 2],
 (aj [ak 1 (.box 5 true (.t 0) true),aM 2 (.c (.p (.bool false)))]
 (aj [cF 5 5 1,bW 6 fT [(.t 5)],ag 3 6]
 (.seq (aj [aM 4 (kI 0)]
 (.block 0 rV))
 (aj [aM 2 (.c (.p (.bool false)))]
 .ret)))),false⟩
def fo:K :=
 (aj [aN 55 .lss (.t 54) (.t 53)]
 (.seq (bq 55 .skip (.exit 2))
 (.seq (.block 3 (aj [ak 56 (.aA 1 (.t 52) (.t 54)),bE 57 56,ag 17 57]
 (aj [ag 58 17,ag 59 14,ak 60 (.aA 1 (.t 58) (.t 59)),bE 61 60,aN 62 .neq (.t 61) (.c (.p (.int .u64 1)))]
 (bq 62 (.exit 1) .skip))))
 (.cX false [aN 63 .add (.t 54) (kI 1),ag 54 63]))))
def pM:K:=.loop [6,7,8,12,13,14,15,52,53,54] fo
def fk:K :=
 (aj [ag 14 48]
 (.cX false [ag 15 49]))
def fm:K :=
 (.block 1 (.seq (aj [bE 50 12,bE 51 13,ak 52 (.IW 1 (.t 50) none (some (.t 51)) none),ak 53 (.bV (.t 52)),aM 54 (kI 0)]
 (.block 2 pM))
 (.seq (.cX true [bE 64 12,bE 65 13,ak 66 (.aA 1 (.t 64) (.t 65)),bE 67 66,ag 68 14,ak 69 (.aA 1 (.t 67) (.t 68)),bE 70 69,bE 71 12,bE 72 13,aN 73 .add (.t 72) (kI 1),ak 74 (.aA 1 (.t 71) (.t 73)),bE 75 74,ag 76 14,ak 77 (.aA 1 (.t 75) (.t 76)),bE 78 77,aN 79 .neq (.t 70) (.t 78)])
 (bq 79 (aj [ag 80 15,ak 81 (.ox (.t 80) []),⟨none,.store 1 (.t 6) (.c (.p (.bool false))),none⟩,⟨none,.store 1 (.t 7) (.t 81),none⟩,⟨none,.store 1 (.t 8) (kI 0),none⟩]
 .ret) .skip))))
def yI:K:=.range (.t 47) [48,49] [6,7,8,12,13] fk fm
def ff:cZ:=⟨82,[.cell 6 1 false,.cell 7 1 false,.cell 8 1 false],
 (aj [ak 4 (.box 5 true (.t 1) true),ak 5 (.box 5 true (.t 2) true),ak 6 (.alloc [(.p (.bool false))] 1),ak 7 (.alloc [.aF] 1),ak 8 (.alloc [(.p (.int .i64 0))] 1)]
 (.seq .skip
 (.seq (.CO [ag 18 0,bW 19 di [(.t 18)],cF 20 5 4,cF 21 5 5,ak 22 (.jY 5 qo 2 [(0,5,(.t 20)),(1,5,(.t 21))]),ak 23 (.append 5 64 (.t 19) (.t 22)),ag 9 23] [(1,2),(1,3)])
 (aj [ag 25 9,bW 26 j3 [(.t 25)],ag 24 26,ak 27 (.extract (.t 24) 0),ak 28 (.extract (.t 24) 1),ag 10 27,ag 11 28]
 (.seq (aj [ag 29 11,aN 30 .neq (.t 29) (kI 0)]
 (bq 30 (aj [ag 31 11,⟨none,.store 1 (.t 6) (.c (.p (.bool false))),none⟩,⟨none,.store 1 (.t 7) (.c .aF),none⟩,⟨none,.store 1 (.t 8) (.t 31),none⟩]
 .ret) .skip))
 (.seq (aj [bG 32 1 4,bE 33 32,bG 34 1 5,bE 35 34,aN 36 .neq (.t 33) (.t 35),ag 37 36,⟨some 38,.mv (.t 0) false,some (37,false)⟩,⟨some 39,.dW aQ [(.t 38),(.c (.p (.fn dh [])))],some (37,false)⟩,ak 40 (.pick (.t 37) (.c (.p (.bool true))) (.t 39))]
 (bq 40 (aj [⟨none,.store 1 (.t 6) (.c (.p (.bool false))),none⟩,⟨none,.store 1 (.t 7) (.c .aF),none⟩,⟨none,.store 1 (.t 8) (kI 3),none⟩]
 .ret) .skip))
 (aj [ag 41 10,ag 42 9,bW 43 fp [(.t 41),(.t 42)],ak 12 (.init 1 false (.t 43) true)]
 (aj [ag 44 0,ak 45 (.bV (.t 44)),ak 13 (.init 1 false (.t 45) true)]
 (.seq .skip
 (.seq (aj [ag 46 10,bW 47 dY [(.t 46)]]
 (.block 0 yI))
 (aj [⟨none,.store 1 (.t 6) (.c (.p (.bool true))),none⟩,⟨none,.store 1 (.t 7) (.c .aF),none⟩,⟨none,.store 1 (.t 8) (kI 0),none⟩]
 .ret))))))))))),false⟩
def q9:K :=
 (.seq (aj [ag 21 8,ag 22 7,ak 23 (.bV (.t 22)),aN 24 .lss (.t 21) (.t 23)]
 (bq 24 .skip (.exit 2)))
 (.seq (.block 3 (aj [ag 27 7,ag 28 8,ak 29 (.aA 5 (.t 27) (.t 28)),bG 30 0 29,bE 31 30,ag 32 0,aN 33 .eql (.t 31) (.t 32)]
 (bq 33 (.cX true [ag 34 5,ag 35 7,ag 36 8,ak 37 (.aA 5 (.t 35) (.t 36)),bG 38 3 37,bE 39 38,ag 40 7,ag 41 8,ak 42 (.aA 5 (.t 40) (.t 41)),bG 43 1 42,bE 44 43,ak 45 (.build [(.p (.str (bs []))),(.p (.int .i64 0))] [(0,1,(.t 39)),(1,1,(.t 44))]),bW 46 np [(.t 34),(.t 45)],ag 5 46]) .skip)))
 (.cX false [ag 25 8,aN 26 .add (.t 25) (kI 1),ag 8 26])))
def AX:K:=.loop [0,1,5,6,7,8] q9
def uq:K :=
 (.seq (aj [ag 10 6,ag 11 1,ak 12 (.bV (.t 11)),aN 13 .lss (.t 10) (.t 12)]
 (bq 13 .skip (.exit 0)))
 (.seq (.block 1 (aj [ag 16 1,ag 17 6,ak 18 (.aA 5 (.t 16) (.t 17)),cF 19 5 18,bW 20 fT [(.t 19)],ag 7 20]
 (aj [aM 8 (kI 0)]
 (.block 2 AX))))
 (.cX false [ag 14 6,aN 15 .add (.t 14) (kI 1),ag 6 15])))
def AW:K:=.loop [0,1,5,6] uq
def s9:cZ:=⟨48,[.tmp 4],
 (aj [aM 4 (.c .aF)]
 (aj [ak 9 (.fB 2 [(.p (.str (bs []))),(.p (.int .i64 0))] 0 []),ag 5 9]
 (.seq (aj [aM 6 (kI 0)]
 (.block 0 AW))
 (aj [ag 47 5,ag 4 47]
 .ret)))),false⟩
def kS:cZ:=⟨36,[.tmp 4],
 (aj [ak 2 (.box 5 true (.t 0) true),ak 3 (.box 5 true (.t 1) true),aM 4 (.c (.p (.bool false)))]
 (.seq (aj [bG 5 0 2,bE 6 5,bG 7 0 3,bE 8 7,aN 9 .neq (.t 6) (.t 8),ag 10 9,⟨some 11,.cQ 1 (.t 2),some (10,false)⟩,⟨some 12,.load 1 false (.t 11),some (10,false)⟩,⟨some 13,.cQ 1 (.t 3),some (10,false)⟩,⟨some 14,.load 1 false (.t 13),some (10,false)⟩,⟨some 15,.arith .neq (.t 12) (.t 14),some (10,false)⟩,ak 16 (.pick (.t 10) (.c (.p (.bool true))) (.t 15)),ag 17 16,⟨some 18,.cQ 2 (.t 2),some (17,false)⟩,⟨some 19,.load 1 false (.t 18),some (17,false)⟩,⟨some 20,.cQ 2 (.t 3),some (17,false)⟩,⟨some 21,.load 1 false (.t 20),some (17,false)⟩,⟨some 22,.arith .neq (.t 19) (.t 21),some (17,false)⟩,ak 23 (.pick (.t 17) (.c (.p (.bool true))) (.t 22)),ag 24 23,⟨some 25,.cQ 3 (.t 2),some (24,false)⟩,⟨some 26,.load 1 false (.t 25),some (24,false)⟩,⟨some 27,.cQ 3 (.t 3),some (24,false)⟩,⟨some 28,.load 1 false (.t 27),some (24,false)⟩,⟨some 29,.arith .neq (.t 26) (.t 28),some (24,false)⟩,ak 30 (.pick (.t 24) (.c (.p (.bool true))) (.t 29))]
 (bq 30 (aj [aM 4 (.c (.p (.bool false)))]
 .ret) .skip))
 (aj [bG 31 4 2,bE 32 31,bG 33 4 3,bE 34 33,bW 35 aL [(.t 32),(.t 34),(.c (.p (.fn et [])))],ag 4 35]
 .ret))),false⟩
def bg:K :=
 (aj [aN 18 .lss (.t 17) (.t 16)]
 (.seq (bq 18 .skip (.exit 0))
 (.seq (.block 1 (aj [ag 19 17,ak 20 (.aA 6 (.t 15) (.t 17)),cF 21 6 20,ak 8 (.alloc [(.p (.str (bs []))),(.p (.int .i64 0)),(.p (.int .i64 0)),(.p (.int .u64 0)),(.p (.str (bs []))),.aF] 6),ag 7 19,⟨none,.store 6 (.t 8) (.t 21),none⟩]
 (aj [ag 22 1,ag 23 7,ak 24 (.aA 6 (.t 22) (.t 23)),cF 25 6 24,ak 9 (.init 6 true (.t 25) true)]
 (aj [ag 26 2,cF 27 6 8,cF 28 6 9,ak 29 (.ox (.t 26) [(.t 27),(.t 28)]),ak 30 (.not (.t 29))]
 (bq 30 (aj [aM 6 (.c (.p (.bool false)))]
 .ret) .skip)))))
 (.cX false [aN 31 .add (.t 17) (kI 1),ag 17 31]))))
def bH:K:=.loop [1,2,15,16,17] bg
def aI:cZ:=⟨32,[.tmp 6],
 (aj [aM 6 (.c (.p (.bool false)))]
 (.seq (aj [ag 10 0,ak 11 (.bV (.t 10)),ag 12 1,ak 13 (.bV (.t 12)),aN 14 .neq (.t 11) (.t 13)]
 (bq 14 (aj [aM 6 (.c (.p (.bool false)))]
 .ret) .skip))
 (.seq (aj [ag 15 0,ak 16 (.bV (.t 15)),aM 17 (kI 0)]
 (.block 0 bH))
 (aj [aM 6 (.c (.p (.bool true)))]
 .ret)))),false⟩
def nV:cZ:=⟨17,[.tmp 4],
 (aj [ak 2 (.box 6 true (.t 0) true),ak 3 (.box 6 true (.t 1) true),aM 4 (.c (.p (.bool false)))]
 (aj [bG 5 0 2,bE 6 5,bG 7 0 3,bE 8 7,aN 9 .eql (.t 6) (.t 8),ag 10 9,⟨some 11,.cQ 1 (.t 2),some (10,true)⟩,⟨some 12,.load 5 true (.t 11),some (10,true)⟩,⟨some 13,.cQ 1 (.t 3),some (10,true)⟩,⟨some 14,.load 5 true (.t 13),some (10,true)⟩,⟨some 15,.dW et [(.t 12),(.t 14)],some (10,true)⟩,ak 16 (.pick (.t 10) (.t 15) (.c (.p (.bool false)))),ag 4 16]
 .ret)),false⟩
def aZ:K :=
 (aj [aN 18 .lss (.t 17) (.t 16)]
 (.seq (bq 18 .skip (.exit 0))
 (.seq (.block 1 (aj [ag 19 17,ak 20 (.aA 11 (.t 15) (.t 17)),cF 21 11 20,ak 8 (.alloc [(.p (.int .i64 0)),(.p (.int .i64 0)),(.p (.int .i64 0)),(.p (.int .u64 0)),(.p (.str (bs []))),.aF,(.p (.int .i64 0)),(.p (.int .i64 0)),(.p (.int .u64 0)),(.p (.str (bs []))),.aF] 11),ag 7 19,⟨none,.store 11 (.t 8) (.t 21),none⟩]
 (aj [ag 22 1,ag 23 7,ak 24 (.aA 11 (.t 22) (.t 23)),cF 25 11 24,ak 9 (.init 11 true (.t 25) true)]
 (aj [ag 26 2,cF 27 11 8,cF 28 11 9,ak 29 (.ox (.t 26) [(.t 27),(.t 28)]),ak 30 (.not (.t 29))]
 (bq 30 (aj [aM 6 (.c (.p (.bool false)))]
 .ret) .skip)))))
 (.cX false [aN 31 .add (.t 17) (kI 1),ag 17 31]))))
def bA:K:=.loop [1,2,15,16,17] aZ
def aD:cZ:=⟨32,[.tmp 6],
 (aj [aM 6 (.c (.p (.bool false)))]
 (.seq (aj [ag 10 0,ak 11 (.bV (.t 10)),ag 12 1,ak 13 (.bV (.t 12)),aN 14 .neq (.t 11) (.t 13)]
 (bq 14 (aj [aM 6 (.c (.p (.bool false)))]
 .ret) .skip))
 (.seq (aj [ag 15 0,ak 16 (.bV (.t 15)),aM 17 (kI 0)]
 (.block 0 bA))
 (aj [aM 6 (.c (.p (.bool true)))]
 .ret)))),false⟩
def lB:cZ:=⟨24,[.tmp 4],
 (aj [ak 2 (.box 11 true (.t 0) true),ak 3 (.box 11 true (.t 1) true),aM 4 (.c (.p (.bool false)))]
 (aj [bG 5 0 2,bE 6 5,bG 7 0 3,bE 8 7,aN 9 .eql (.t 6) (.t 8),ag 10 9,⟨some 11,.cQ 1 (.t 2),some (10,true)⟩,⟨some 12,.load 5 true (.t 11),some (10,true)⟩,⟨some 13,.cQ 1 (.t 3),some (10,true)⟩,⟨some 14,.load 5 true (.t 13),some (10,true)⟩,⟨some 15,.dW et [(.t 12),(.t 14)],some (10,true)⟩,ak 16 (.pick (.t 10) (.t 15) (.c (.p (.bool false)))),ag 17 16,⟨some 18,.cQ 6 (.t 2),some (17,true)⟩,⟨some 19,.load 5 true (.t 18),some (17,true)⟩,⟨some 20,.cQ 6 (.t 3),some (17,true)⟩,⟨some 21,.load 5 true (.t 20),some (17,true)⟩,⟨some 22,.dW et [(.t 19),(.t 21)],some (17,true)⟩,ak 23 (.pick (.t 17) (.t 22) (.c (.p (.bool false)))),ag 4 23]
 .ret)),false⟩
def nG:cZ:=⟨5,[.tmp 2],
 (aj [aM 2 (.c .aF)]
 (aj [ag 3 0,bW 4 dX [(kI 24),(.t 3)],ag 2 4]
 .ret)),false⟩
def qc:K :=
 (aj [aN 9 .lss (.t 8) (.t 7)]
 (.seq (bq 9 .skip (.exit 0))
 (.seq (.block 1 (aj [ak 10 (.aA 6 (.t 6) (.t 8)),cF 11 6 10,ak 5 (.init 6 true (.t 11) true)]
 (.seq (aj [bG 12 0 5,bE 13 12,aN 14 .neq (.t 13) (.c (.p (.str (bs []))))]
 (bq 14 (.cX false [ag 15 3,cF 16 6 5,bW 17 mQ [(.t 16)],ak 18 (.jY 5 qo 1 [(0,5,(.t 17))]),ak 19 (.append 5 64 (.t 15) (.t 18)),ak 3 (.mv (.t 19) true)]) .skip))
 (.cX false [ag 20 3,bG 21 1 5,cF 22 5 21,ak 23 (.jY 5 qo 1 [(0,5,(.t 22))]),ak 24 (.append 5 64 (.t 20) (.t 23)),ak 3 (.mv (.t 24) true)]))))
 (.cX false [aN 25 .add (.t 8) (kI 1),ag 8 25]))))
def yk:K:=.loop [3,6,7,8] qc
def rO:cZ:=⟨27,[.tmp 2],
 (aj [aM 2 (.c .aF)]
 (aj [ak 3 (.mv (.c .aF) true)]
 (.seq (aj [ag 6 0,ak 7 (.bV (.t 6)),aM 8 (kI 0)]
 (.block 0 yk))
 (aj [ag 26 3,ag 2 26]
 .ret)))),false⟩
def oI:cZ:=⟨5,[.tmp 2],
 (aj [aM 2 (.c .aF)]
 (aj [ag 3 0,bW 4 dX [(kI 25),(.t 3)],ag 2 4]
 .ret)),false⟩
def vO:K :=
 (aj [aN 12 .lss (.t 11) (.t 10)]
 (.seq (bq 12 .skip (.exit 0))
 (.seq (.block 1 (aj [ak 13 (.aA 5 (.t 9) (.t 11)),cF 14 5 13,ak 5 (.init 5 true (.t 14) true)]
 (.cX true [bG 15 4 3,bE 16 15,cF 17 5 5,bW 18 iG [(.t 17)],ak 19 (.fB 5 qo 1 [(0,5,(.t 18))]),ak 20 (.append 5 64 (.t 16) (.t 19)),bG 21 4 3,⟨none,.store 1 (.t 21) (.t 20),none⟩])))
 (.cX false [aN 22 .add (.t 11) (kI 1),ag 11 22]))))
def zx:K:=.loop [2,3,9,10,11] vO
def uF:cZ:=⟨24,[.cell 2 5 true],
 (aj [ak 1 (.box 5 true (.t 0) true),ak 2 (.alloc qo 5)]
 (aj [cF 6 5 1,ak 3 (.init 5 true (.t 6) false)]
 (aj [bG 7 4 3,⟨none,.store 1 (.t 7) (.c .aF),none⟩]
 (.seq (aj [bG 8 4 1,bE 9 8,ak 10 (.bV (.t 9)),aM 11 (kI 0)]
 (.block 0 zx))
 (aj [cF 23 5 3,⟨none,.store 5 (.t 2) (.t 23),none⟩]
 .ret))))),false⟩
def rD:K :=
 (.seq (aj [ag 16 7,bG 17 4 3,bE 18 17,ak 19 (.bV (.t 18)),aN 20 .lss (.t 16) (.t 19),ag 21 20,⟨some 22,.mv (.t 2) false,some (21,true)⟩,⟨some 23,.arith .geq (.t 22) (kI 0),some (21,true)⟩,ak 24 (.pick (.t 21) (.t 23) (.c (.p (.bool false))))]
 (bq 24 .skip (.exit 0)))
 (.seq (.block 1 (.cX false [bG 27 4 3,bE 28 27,ag 29 7,ak 30 (.aA 5 (.t 28) (.t 29)),cF 31 5 30,ag 32 1,aN 33 .sub (.t 32) (kI 1),ag 34 2,bW 35 mO [(.t 31),(.t 33),(.t 34)],ag 2 35]))
 (.cX false [ag 25 7,aN 26 .add (.t 25) (kI 1),ag 7 26])))
def vQ:K:=.loop [1,2,3,7] rD
def mH:cZ:=⟨37,[.tmp 6],
 (aj [ak 3 (.box 5 true (.t 0) true),aM 6 (kI 0)]
 (.seq (aj [ag 8 1,aN 9 .lss (.t 8) (kI 1),ag 10 9,⟨some 11,.mv (.t 2) false,some (10,false)⟩,⟨some 12,.arith .lss (.t 11) (kI 1),some (10,false)⟩,ak 13 (.pick (.t 10) (.c (.p (.bool true))) (.t 12))]
 (bq 13 (aj [aM 6 (kI (-1))]
 .ret) .skip))
 (aj [ag 14 2,aN 15 .sub (.t 14) (kI 1),ag 2 15]
 (.seq (aj [aM 7 (kI 0)]
 (.block 0 vQ))
 (aj [ag 36 2,ag 6 36]
 .ret))))),false⟩
def nC:K :=
 (aj [aN 45 .lss (.t 44) (.t 43)]
 (.seq (bq 45 .skip (.exit 0))
 (.seq (.block 1 (aj [ak 46 (.aA 5 (.t 42) (.t 44)),cF 47 5 46,ak 9 (.init 5 true (.t 47) true)]
 (aj [ag 48 0,cF 49 5 9,bW 50 j6 [(.t 48),(.t 49)],ak 51 (.not (.t 50))]
 (bq 51 (aj [aM 4 (.c (.p (.bool false)))]
 .ret) .skip))))
 (.cX false [aN 52 .add (.t 44) (kI 1),ag 44 52]))))
def qw:K:=.loop [0,42,43,44] nC
def dC:cZ:=⟨53,[.tmp 4],
 (aj [ak 3 (.box 5 true (.t 1) true),aM 4 (.c (.p (.bool false)))]
 (.seq (aj [bG 10 0 3,bE 11 10,aN 12 .eql (.t 11) (kI 24),ag 13 12,⟨some 14,.cQ 0 (.t 3),some (13,false)⟩,⟨some 15,.load 1 false (.t 14),some (13,false)⟩,⟨some 16,.arith .eql (.t 15) (kI 25),some (13,false)⟩,ak 17 (.pick (.t 13) (.c (.p (.bool true))) (.t 16))]
 (bq 17 (aj [bG 18 0 3,bE 19 18,bG 20 1 3,bE 21 20,ak 22 (.build [(.p (.int .i64 0)),(.p (.int .i64 0))] [(0,1,(.t 19)),(1,1,(.t 21))]),ak 5 (.init 2 true (.t 22) true)]
 (aj [ag 24 0,bG 25 3 3,bE 26 25,ak 27 (.lookup .str (.p (.agg [(.int .i64 0),(.int .i64 0)])) (.t 24) (.t 26) true),ag 23 27,ak 28 (.extract (.t 23) 0),ak 29 (.extract (.t 23) 1),ak 6 (.init 2 true (.t 28) true),ag 7 29]
 (aj [ag 30 0,bG 31 3 3,bE 32 31,cF 33 2 5,⟨none,.Qb .str (.t 30) (.t 32) (.t 33),none⟩]
 (aj [ag 34 7,ak 35 (.not (.t 34)),ag 36 35,⟨some 37,.load 2 true (.t 6),some (36,false)⟩,⟨some 38,.load 2 true (.t 5),some (36,false)⟩,⟨some 39,.UD false [.int,.int] (.t 37) (.t 38),some (36,false)⟩,ak 40 (.pick (.t 36) (.c (.p (.bool true))) (.t 39)),ag 4 40]
 .ret)))) .skip))
 (.seq (aj [bG 41 4 3,bE 42 41,ak 43 (.bV (.t 42)),aM 44 (kI 0)]
 (.block 0 qw))
 (aj [aM 4 (.c (.p (.bool true)))]
 .ret)))),true⟩
def vP:K :=
 (aj [aN 10 .lss (.t 9) (.t 8)]
 (.seq (bq 10 .skip (.exit 0))
 (.seq (.block 1 (aj [ak 11 (.aA 5 (.t 7) (.t 9)),cF 12 5 11,ak 5 (.init 5 true (.t 12) true)]
 (.cX false [ag 13 3,cF 14 5 5,bW 15 mR [(.t 14)],aN 16 .add (.t 13) (.t 15),ag 3 16])))
 (.cX false [aN 17 .add (.t 9) (kI 1),ag 9 17]))))
def zy:K:=.loop [3,7,8,9] vP
def uG:cZ:=⟨19,[.tmp 2],
 (aj [ak 1 (.box 5 true (.t 0) true),aM 2 (kI 0)]
 (aj [aM 3 (kI 1)]
 (.seq (aj [bG 6 4 1,bE 7 6,ak 8 (.bV (.t 7)),aM 9 (kI 0)]
 (.block 0 zy))
 (aj [ag 18 3,ag 2 18]
 .ret)))),false⟩
def tQ:K :=
 (aj [aN 10 .lss (.t 9) (.t 8)]
 (.seq (bq 10 .skip (.exit 0))
 (.seq (.block 1 (aj [ak 11 (.aA 5 (.t 7) (.t 9)),cF 12 5 11,ak 5 (.init 5 true (.t 12) true)]
 (.cX false [ag 13 3,cF 14 5 5,bW 15 k9 [(.t 14)],ak 16 (.tv true [(.t 13),(.t 15)]),ag 3 16])))
 (.cX false [aN 17 .add (.t 9) (kI 1),ag 9 17]))))
def yl:K:=.loop [3,7,8,9] tQ
def rQ:cZ:=⟨20,[.tmp 2],
 (aj [ak 1 (.box 5 true (.t 0) true),aM 2 (kI 0)]
 (aj [aM 3 (kI 0)]
 (.seq (aj [bG 6 4 1,bE 7 6,ak 8 (.bV (.t 7)),aM 9 (kI 0)]
 (.block 0 yl))
 (aj [ag 18 3,aN 19 .add (.t 18) (kI 1),ag 2 19]
 .ret)))),false⟩
def lZ:K :=
 (aj [aN 12 .lss (.t 11) (.t 10)]
 (.seq (bq 12 .skip (.exit 0))
 (.seq (.block 1 (aj [ak 13 (.aA 5 (.t 9) (.t 11)),cF 14 5 13,ak 6 (.init 5 true (.t 14) true)]
 (aj [cF 15 5 6,ag 16 1,bW 17 gI [(.t 15),(.t 16)],ag 7 17]
 (aj [ag 18 7,aN 19 .neq (.t 18) (kI 0)]
 (bq 19 (aj [ag 20 7,ag 4 20]
 .ret) .skip)))))
 (.cX false [aN 21 .add (.t 11) (kI 1),ag 11 21]))))
def pH:K:=.loop [1,2,9,10,11] lZ
def kD:cZ:=⟨25,[.tmp 4],
 (aj [ak 2 (.box 5 true (.t 0) true),aM 4 (kI 0)]
 (.seq (aj [bG 8 4 2,bE 9 8,ak 10 (.bV (.t 9)),aM 11 (kI 0)]
 (.block 0 pH))
 (aj [cF 22 5 2,ag 23 1,bW 24 j5 [(.t 22),(.t 23)],ag 4 24]
 .ret))),false⟩
def jT:cZ:=⟨4,[.tmp 2],
 (aj [ak 1 (.box 5 true (.t 0) true),aM 2 (.c (.p .w9))]
 (aj [ak 3 (.xx b6 [(.t 1)]),ag 2 3]
 .ret)),false⟩
def jU:cZ:=⟨9,[.tmp 2],
 (aj [aM 2 (.c (.p (.bool false)))]
 (aj [ag 3 0,aN 4 .eql (.t 3) (kI 24),ag 5 4,⟨some 6,.mv (.t 0) false,some (5,false)⟩,⟨some 7,.arith .eql (.t 6) (kI 25),some (5,false)⟩,ak 8 (.pick (.t 5) (.c (.p (.bool true))) (.t 7)),ag 2 8]
 .ret)),false⟩
def cm:cZ:=⟨9,[.tmp 4],
 (aj [ak 3 (.box 2 true (.t 1) true),aM 4 (.c (.p (.bool false)))]
 (aj [ag 5 0,cF 6 2 3,bW 7 bP [(.t 5),(.t 6)],aN 8 .geq (.t 7) (kI 0),ag 4 8]
 .ret)),false⟩
def bN:cZ:=⟨68,[.tmp 6],
 (aj [ak 3 (.box 11 true (.t 0) true),aM 6 (kI 0)]
 (.seq (aj [cF 12 11 3,bW 13 nk [(.t 12)],ak 14 (.not (.t 13))]
 (bq 14 (aj [aM 6 (kI 1)]
 .ret) .skip))
 (.seq (aj [bG 15 1 3,cF 16 5 15,bW 17 ez [(.t 16),(.c (.p (.bool false)))],ag 7 17]
 (aj [ag 18 7,aN 19 .neq (.t 18) (kI 0)]
 (bq 19 (aj [ag 20 7,ag 6 20]
 .ret) .skip)))
 (.seq (aj [bG 21 0 3,bE 22 21,aN 23 .neq (.t 22) (kI 1)]
 (bq 23 (aj [bG 24 6 3,cF 25 5 24,bW 26 ez [(.t 25),(.c (.p (.bool false)))],ag 8 26]
 (aj [ag 27 8,aN 28 .neq (.t 27) (kI 0)]
 (bq 28 (aj [ag 29 8,ag 6 29]
 .ret) .skip))) .skip))
 (aj [ag 30 1,ag 31 1,ag 9 30,ag 10 31]
 (aj [bG 32 6 3,bG 33 1 32,bE 34 33,ag 11 34]
 (.seq (aj [bG 35 0 3,bE 36 35]
 (.block 0 (aj [aN 38 .eql (.t 36) (kI 1),ag 37 38]
 (bq 37 (.cX false [aM 9 (.c .aF),aM 10 (.c .aF),aM 11 (kI 1)]) (.seq (aj [aN 40 .eql (.t 36) (kI 3),ag 39 40]
 (bq 39 .skip (.cX false [aN 41 .eql (.t 36) (kI 4),ag 39 41])))
 (bq 39 (.cX false [aM 10 (.c .aF)]) .skip))))))
 (.seq (.block 1 (aj [bG 43 1 3,cF 44 5 43,ag 45 9,ag 46 2,bW 47 iC [(.t 44),(.t 45),(.t 46)],ak 48 (.not (.t 47)),ag 49 48,⟨some 50,.cQ 0 (.t 3),some (49,false)⟩,⟨some 51,.load 1 false (.t 50),some (49,false)⟩,⟨some 52,.arith .neq (.t 51) (kI 1),some (49,false)⟩,⟨some 53,.mv (.t 52) false,some (49,false)⟩,⟨some 54,.cQ 6 (.t 3),some (53,true)⟩,⟨some 55,.load 5 true (.t 54),some (53,true)⟩,⟨some 56,.mv (.t 10) false,some (53,true)⟩,⟨some 57,.mv (.t 2) false,some (53,true)⟩,⟨some 58,.dW iC [(.t 55),(.t 56),(.t 57)],some (53,true)⟩,⟨some 59,.not (.t 58),some (53,true)⟩,⟨some 60,.pick (.t 53) (.t 59) (.c (.p (.bool false))),some (49,false)⟩,ak 61 (.pick (.t 49) (.c (.p (.bool true))) (.t 60)),ag 42 61]
 (bq 42 (aj [aM 6 (kI 12)]
 .ret) (aj [bG 63 1 3,bG 64 1 63,bE 65 64,ag 66 11,aN 67 .neq (.t 65) (.t 66),ag 62 67]
 (bq 62 (aj [aM 6 (kI 3)]
 .ret) .skip)))))
 (aj [aM 6 (kI 0)]
 .ret))))))))),false⟩
def qp:K :=
 (.seq (aj [ag 7 4,bG 8 4 1,bE 9 8,ak 10 (.bV (.t 9)),aN 11 .lss (.t 7) (.t 10)]
 (bq 11 .skip (.exit 0)))
 (.seq (.block 1 (.cX false [ag 14 3,bG 15 4 1,bE 16 15,ag 17 4,ak 18 (.aA 5 (.t 16) (.t 17)),cF 19 5 18,bW 20 fT [(.t 19)],ak 21 (.append 5 64 (.t 14) (.t 20)),ak 3 (.mv (.t 21) true)]))
 (.cX false [ag 12 4,aN 13 .add (.t 12) (kI 1),ag 4 13])))
def vf:K:=.loop [1,3,4] qp
def oJ:cZ:=⟨23,[.tmp 2],
 (aj [ak 1 (.box 5 true (.t 0) true),aM 2 (.c .aF)]
 (aj [cF 5 5 1,ak 6 (.fB 5 qo 1 [(0,5,(.t 5))]),ak 3 (.mv (.t 6) true)]
 (.seq (aj [aM 4 (kI 0)]
 (.block 0 vf))
 (aj [ag 22 3,ag 2 22]
 .ret)))),false⟩
def p8:K :=
 (aj [aN 44 .lss (.t 43) (.t 42)]
 (.seq (bq 44 .skip (.exit 0))
 (.seq (.block 1 (aj [ak 45 (.aA 5 (.t 41) (.t 43)),cF 46 5 45,ak 8 (.init 5 true (.t 46) true)]
 (aj [cF 48 5 8,ag 49 1,bW 50 kY [(.t 48),(.t 49)],ag 47 50,ak 51 (.extract (.t 47) 0),ak 52 (.extract (.t 47) 1),ak 9 (.init 5 true (.t 51) true),ag 10 52]
 (.seq (aj [ag 53 10,ak 54 (.not (.t 53))]
 (bq 54 (aj [ak 55 (.build qo []),⟨none,.store 5 (.t 4) (.t 55),none⟩,aM 5 (.c (.p (.bool false)))]
 .ret) .skip))
 (.cX false [bG 56 4 6,bE 57 56,cF 58 5 9,ak 59 (.fB 5 qo 1 [(0,5,(.t 58))]),ak 60 (.append 5 64 (.t 57) (.t 59)),bG 61 4 6,⟨none,.store 1 (.t 61) (.t 60),none⟩])))))
 (.cX false [aN 62 .add (.t 43) (kI 1),ag 43 62]))))
def tV:K:=.loop [1,2,4,6,41,42,43] p8
def jq:cZ:=⟨81,[.cell 4 5 true,.tmp 5],
 (aj [ak 2 (.box 5 true (.t 0) true),ak 4 (.alloc qo 5),aM 5 (.c (.p (.bool false)))]
 (aj [bG 13 0 2,bE 14 13,bG 15 1 2,bE 16 15,bG 17 2 2,bE 18 17,bG 19 3 2,bE 20 19,ak 21 (.build qo [(0,1,(.t 14)),(1,1,(.t 16)),(2,1,(.t 18)),(3,1,(.t 20))]),ak 6 (.init 5 true (.t 21) false)]
 (.seq (aj [bG 22 4 2,bE 23 22,ak 24 (.bV (.t 23)),aN 25 .eql (.t 24) (kI 0)]
 (bq 25 (.seq (aj [bG 26 1 2,bE 27 26,aN 28 .eql (.t 27) (kI 0)]
 (bq 28 (aj [ag 29 1,bG 30 1 6,⟨none,.store 1 (.t 30) (.t 29),none⟩]
 (aj [bG 31 0 2,bE 32 31,aN 33 .eql (.t 32) (kI 2)]
 (bq 33 (.cX false [ag 34 1,bG 35 2 2,bE 36 35,bW 37 bJ [(.t 34),(.t 36)],bG 38 2 6,⟨none,.store 1 (.t 38) (.t 37),none⟩]) .skip))) .skip))
 (aj [cF 39 5 6,⟨none,.store 5 (.t 4) (.t 39),none⟩,aM 5 (.c (.p (.bool true)))]
 .ret)) .skip))
 (.seq (aj [bG 40 4 2,bE 41 40,ak 42 (.bV (.t 41)),aM 43 (kI 0)]
 (.block 0 tV))
 (.seq (.cX true [bG 64 0 2,bE 65 64,bG 66 1 2,bE 67 66,bG 68 2 2,bE 69 68,bG 70 4 6,bE 71 70,bW 72 fq [(.t 71)],bW 73 fS [(.t 65),(.t 67),(.t 69),(.t 72)],ag 63 73,ak 74 (.extract (.t 63) 0),ak 75 (.extract (.t 63) 1),ag 11 74,ag 12 75])
 (aj [ag 76 11,bG 77 1 6,⟨none,.store 1 (.t 77) (.t 76),none⟩]
 (aj [cF 78 5 6,ag 79 12,aN 80 .eql (.t 79) (kI 0),⟨none,.store 5 (.t 4) (.t 78),none⟩,ag 5 80]
 .ret))))))),false⟩
def aX:K :=
 (aj [aN 9 .lss (.t 8) (.t 7)]
 (.seq (bq 9 .skip (.exit 0))
 (.seq (.block 1 (aj [ag 10 8,ag 5 10]
 (aj [ag 11 1,ag 12 0,ag 13 5,ak 14 (.aA 5 (.t 12) (.t 13)),cF 15 5 14,ak 16 (.ox (.t 11) [(.t 15)])]
 (bq 16 (aj [ag 17 5,ag 4 17]
 .ret) .skip))))
 (.cX false [aN 18 .add (.t 8) (kI 1),ag 8 18]))))
def bS:K:=.loop [0,1,7,8] aX
def bk:cZ:=⟨19,[.tmp 4],
 (aj [aM 4 (kI 0)]
 (.seq (aj [ag 6 0,ak 7 (.bV (.t 6)),aM 8 (kI 0)]
 (.block 0 bS))
 (aj [aM 4 (kI (-1))]
 .ret))),false⟩
def uA:cZ:=⟨12,[.cell 6 5 true],
 (aj [ak 4 (.box 5 true (.t 1) true),ak 5 (.box 5 true (.t 2) true),ak 6 (.alloc qo 5)]
 (aj [ag 7 0,cF 8 5 4,cF 9 5 5,ak 10 (.jY 5 qo 2 [(0,5,(.t 8)),(1,5,(.t 9))]),ak 11 (.build qo [(0,1,(.t 7)),(1,1,(kI 1)),(4,1,(.t 10))]),⟨none,.store 5 (.t 6) (.t 11),none⟩]
 .ret)),false⟩
def fc:K :=
 (aj [aN 16 .lss (.t 15) (.t 14)]
 (.seq (bq 16 .skip (.exit 0))
 (.seq (.block 1 (aj [ak 17 (.aA 5 (.t 13) (.t 15)),cF 18 5 17,ak 5 (.init 5 true (.t 18) true)]
 (aj [cF 19 5 5,bW 20 k8 [(.t 19)],ag 6 20]
 (aj [ag 21 6,aN 22 .neq (.t 21) (kI 0)]
 (bq 22 (aj [ag 23 6,aM 2 (.c .aF),ag 3 23]
 .ret) .skip)))))
 (.cX false [aN 24 .add (.t 15) (kI 1),ag 15 24]))))
def qt:K:=.loop [0,13,14,15] fc
def gz:K :=
 (aj [aN 28 .lss (.t 27) (.t 26)]
 (.seq (bq 28 .skip (.exit 2))
 (.seq (.block 3 (aj [ak 29 (.aA 5 (.t 25) (.t 27)),cF 30 5 29,ak 9 (.init 5 true (.t 30) true)]
 (.cX false [ag 31 7,cF 32 5 9,bW 33 mS [(.t 32)],ak 34 (.append 2 24 (.t 31) (.t 33)),ak 7 (.mv (.t 34) true)])))
 (.cX false [aN 35 .add (.t 27) (kI 1),ag 27 35]))))
def qy:K:=.loop [7,25,26,27] gz
def gB:K :=
 (aj [aN 43 .lss (.t 42) (.t 41)]
 (.seq (bq 43 .skip (.exit 4))
 (.seq (.block 5 (aj [ag 44 42,ak 45 (.aA 2 (.t 40) (.t 42)),cF 46 2 45,ak 12 (.alloc [(.p (.str (bs []))),(.p (.int .i64 0))] 2),ag 11 44,⟨none,.store 2 (.t 12) (.t 46),none⟩]
 (.seq (.seq (.cX true [ag 47 11,aN 48 .gtr (.t 47) (kI 0),ag 49 48,⟨some 50,.mv (.t 7) false,some (49,true)⟩,⟨some 51,.mv (.t 11) false,some (49,true)⟩,⟨some 52,.arith .sub (.t 51) (kI 1),some (49,true)⟩,⟨some 53,.aA 2 (.t 50) (.t 52),some (49,true)⟩,⟨some 54,.cQ 0 (.t 53),some (49,true)⟩,⟨some 55,.load 1 false (.t 54),some (49,true)⟩,⟨some 56,.cQ 0 (.t 12),some (49,true)⟩,⟨some 57,.load 1 false (.t 56),some (49,true)⟩,⟨some 58,.arith .eql (.t 55) (.t 57),some (49,true)⟩,ak 59 (.pick (.t 49) (.t 58) (.c (.p (.bool false))))])
 (bq 59 (aj [aM 2 (.c .aF),aM 3 (kI 12)]
 .ret) .skip))
 (.cX false [ag 60 10,bG 61 1 12,bE 62 61,aN 63 .add (.t 60) (.t 62),ag 10 63]))))
 (.cX false [aN 64 .add (.t 42) (kI 1),ag 42 64]))))
def qA:K:=.loop [7,10,40,41,42] gB
def iw:cZ:=⟨68,[.tmp 2,.tmp 3],
 (aj [aM 2 (.c .aF),aM 3 (kI 0)]
 (.seq (aj [ag 13 0,ak 14 (.bV (.t 13)),aM 15 (kI 0)]
 (.block 0 qt))
 (aj [ak 7 (.mv (.c .aF) true)]
 (.seq (aj [ag 25 0,ak 26 (.bV (.t 25)),aM 27 (kI 0)]
 (.block 2 qy))
 (aj [ag 36 7,bW 37 a7 [(.t 36),(.c (.p (.fn cM [])))]]
 (aj [ag 38 7,bW 39 cy [(.t 38)],ak 7 (.mv (.t 39) true)]
 (aj [aM 10 (kI 0)]
 (.seq (aj [ag 40 7,ak 41 (.bV (.t 40)),aM 42 (kI 0)]
 (.block 4 qA))
 (.seq (aj [ag 65 10,aN 66 .gtr (.t 65) (kI 16)]
 (bq 66 (aj [aM 2 (.c .aF),aM 3 (kI 7)]
 .ret) .skip))
 (aj [ag 67 7,ag 2 67,aM 3 (kI 0)]
 .ret)))))))))),false⟩
def kL:cZ:=⟨6,[.tmp 2],
 (aj [ak 1 (.box 5 true (.t 0) true),aM 2 (.c (.p (.bool false)))]
 (aj [bG 3 1 1,bE 4 3,aN 5 .neq (.t 4) (kI 1),ag 2 5]
 .ret)),false⟩
def om:K :=
 (aj [aN 13 .lss (.t 12) (.t 11)]
 (.seq (bq 13 .skip (.exit 0))
 (.seq (.block 1 (aj [ak 14 (.aA 5 (.t 10) (.t 12)),cF 15 5 14,ak 7 (.init 5 true (.t 15) true)]
 (aj [cF 17 5 7,ag 18 0,bW 19 kW [(.t 17),(.t 18)],ag 16 19,ak 20 (.extract (.t 16) 0),ak 21 (.extract (.t 16) 1),ag 8 20,ag 9 21]
 (.cX false [ag 22 5,ag 23 8,ak 24 (.fB 1 [.aF] 1 [(0,1,(.t 23))]),ak 25 (.append 1 24 (.t 22) (.t 24)),ak 5 (.mv (.t 25) true)]))))
 (.cX false [aN 26 .add (.t 12) (kI 1),ag 12 26]))))
def rS:K:=.loop [0,5,10,11,12] om
def l7:cZ:=⟨28,[.tmp 4],
 (aj [aM 4 (.c .aF)]
 (aj [ak 5 (.mv (.c .aF) true)]
 (.seq (aj [ag 10 1,ak 11 (.bV (.t 10)),aM 12 (kI 0)]
 (.block 0 rS))
 (aj [ag 27 5,ag 4 27]
 .ret)))),false⟩
def jo:K :=
 (aj [aN 9 .lss (.t 8) (.t 7)]
 (.seq (bq 9 .skip (.exit 0))
 (.seq (.block 1 (aj [ak 10 (.aA 2 (.t 6) (.t 8)),cF 11 2 10,ak 5 (.init 2 true (.t 11) true)]
 (.cX false [bE 12 3,bG 13 1 5,bE 14 13,aN 15 .add (.t 12) (.t 14),⟨none,.store 1 (.t 3) (.t 15),none⟩])))
 (.cX false [aN 16 .add (.t 8) (kI 1),ag 8 16]))))
def ng:K:=.loop [1,3,6,7,8] jo
def gQ:cZ:=⟨18,[.tmp 2],
 (aj [ak 1 (.box 1 false (.t 0) true),aM 2 (.c (.p .w9))]
 (aj [ak 3 (.init 1 false (kI 0) false)]
 (.seq (aj [bE 6 1,ak 7 (.bV (.t 6)),aM 8 (kI 0)]
 (.block 0 ng))
 (aj [ak 17 (.xx b8 [(.t 3),(.t 1)]),ag 2 17]
 .ret)))),false⟩
def lr:K :=
 (.seq (aj [ag 9 7,ag 10 0,ak 11 (.bV (.t 10)),aN 12 .lss (.t 9) (.t 11)]
 (bq 12 .skip (.exit 0)))
 (.seq (.block 1 (.seq (.seq (.cX true [ag 15 0,ag 16 7,ak 17 (.aA 2 (.t 15) (.t 16)),bG 18 0 17,bE 19 18,bG 20 0 3,bE 21 20,aN 22 .eql (.t 19) (.t 21)])
 (bq 22 (aj [ag 23 0,ag 4 23]
 .ret) .skip))
 (.seq (.seq (.cX true [ag 24 6,ak 25 (.not (.t 24)),ag 26 25,⟨some 27,.cQ 0 (.t 3),some (26,true)⟩,⟨some 28,.load 1 false (.t 27),some (26,true)⟩,⟨some 29,.mv (.t 0) false,some (26,true)⟩,⟨some 30,.mv (.t 7) false,some (26,true)⟩,⟨some 31,.aA 2 (.t 29) (.t 30),some (26,true)⟩,⟨some 32,.cQ 0 (.t 31),some (26,true)⟩,⟨some 33,.load 1 false (.t 32),some (26,true)⟩,⟨some 34,.arith .lss (.t 28) (.t 33),some (26,true)⟩,ak 35 (.pick (.t 26) (.t 34) (.c (.p (.bool false))))])
 (bq 35 (aj [ag 36 5,cF 37 2 3,ak 38 (.fB 2 [(.p (.str (bs []))),(.p (.int .i64 0))] 1 [(0,2,(.t 37))]),ak 39 (.append 2 24 (.t 36) (.t 38)),ak 5 (.mv (.t 39) true)]
 (.cX false [aM 6 (.c (.p (.bool true)))])) .skip))
 (.cX false [ag 40 5,ag 41 0,ag 42 7,ak 43 (.aA 2 (.t 41) (.t 42)),cF 44 2 43,ak 45 (.fB 2 [(.p (.str (bs []))),(.p (.int .i64 0))] 1 [(0,2,(.t 44))]),ak 46 (.append 2 24 (.t 40) (.t 45)),ak 5 (.mv (.t 46) true)]))))
 (.cX false [ag 13 7,aN 14 .add (.t 13) (kI 1),ag 7 14])))
def nX:K:=.loop [0,3,5,6,7] lr
def nb:cZ:=⟨54,[.tmp 4],
 (aj [ak 3 (.box 2 true (.t 1) true),aM 4 (.c .aF)]
 (aj [ak 8 (.fB 2 [(.p (.str (bs []))),(.p (.int .i64 0))] 0 []),ak 5 (.mv (.t 8) true)]
 (aj [aM 6 (.c (.p (.bool false)))]
 (.seq (aj [aM 7 (kI 0)]
 (.block 0 nX))
 (.seq (aj [ag 47 6,ak 48 (.not (.t 47))]
 (bq 48 (.cX false [ag 49 5,cF 50 2 3,ak 51 (.fB 2 [(.p (.str (bs []))),(.p (.int .i64 0))] 1 [(0,2,(.t 50))]),ak 52 (.append 2 24 (.t 49) (.t 51)),ak 5 (.mv (.t 52) true)]) .skip))
 (aj [ag 53 5,ag 4 53]
 .ret)))))),false⟩
def bh:K :=
 (aj [aN 18 .lss (.t 17) (.t 16)]
 (.seq (bq 18 .skip (.exit 0))
 (.seq (.block 1 (aj [ag 19 17,ak 20 (.aA 5 (.t 15) (.t 17)),cF 21 5 20,ak 8 (.alloc qo 5),ag 7 19,⟨none,.store 5 (.t 8) (.t 21),none⟩]
 (aj [ag 22 1,ag 23 7,ak 24 (.aA 5 (.t 22) (.t 23)),cF 25 5 24,ak 9 (.init 5 true (.t 25) true)]
 (aj [ag 26 2,cF 27 5 8,cF 28 5 9,ak 29 (.ox (.t 26) [(.t 27),(.t 28)]),ak 30 (.not (.t 29))]
 (bq 30 (aj [aM 6 (.c (.p (.bool false)))]
 .ret) .skip)))))
 (.cX false [aN 31 .add (.t 17) (kI 1),ag 17 31]))))
def bI:K:=.loop [1,2,15,16,17] bh
def aJ:cZ:=⟨32,[.tmp 6],
 (aj [aM 6 (.c (.p (.bool false)))]
 (.seq (aj [ag 10 0,ak 11 (.bV (.t 10)),ag 12 1,ak 13 (.bV (.t 12)),aN 14 .neq (.t 11) (.t 13)]
 (bq 14 (aj [aM 6 (.c (.p (.bool false)))]
 .ret) .skip))
 (.seq (aj [ag 15 0,ak 16 (.bV (.t 15)),aM 17 (kI 0)]
 (.block 0 bI))
 (aj [aM 6 (.c (.p (.bool true)))]
 .ret)))),false⟩
def ej:K :=
 (.cX false [ak 8 (.init 5 true (.t 19) true)])
def ek:K :=
 (.block 3 (.seq (aj [bG 20 0 8,bE 21 20,bE 22 2,aN 23 .neq (.t 21) (.t 22)]
 (bq 23 (.exit 3) .skip))
 (aj [bE 25 5,bG 26 3 8,bE 27 26,bW 28 aS [(.t 25),(.t 27),(.c (.p (.fn cz [])))],ag 24 28,ak 29 (.extract (.t 24) 0),ak 30 (.extract (.t 24) 1),ag 9 29,ag 10 30]
 (aj [ag 31 10,ak 32 (.not (.t 31))]
 (bq 32 (.cX false [bE 33 5,ag 34 9,bG 35 3 8,bE 36 35,bG 37 1 8,bE 38 37,ak 39 (.build [(.p (.str (bs []))),(.p (.int .i64 0))] [(0,1,(.t 36)),(1,1,(.t 38))]),ak 40 (.fB 2 [(.p (.str (bs []))),(.p (.int .i64 0))] 1 [(0,2,(.t 39))]),bW 41 bK [(.t 33),(.t 34),(.t 40)],⟨none,.store 1 (.t 5) (.t 41),none⟩]) .skip)))))
def uJ:K:=.range (.t 18) [19] [2,5] ej ek
def kJ:K :=
 (aj [aN 14 .lss (.t 13) (.t 12)]
 (.seq (bq 14 .skip (.exit 0))
 (.seq (.block 1 (aj [ak 15 (.aA 5 (.t 11) (.t 13)),cF 16 5 15,ak 7 (.init 5 true (.t 16) true)]
 (aj [cF 17 5 7,bW 18 dn [(.t 17)]]
 (.block 2 uJ))))
 (.cX false [aN 42 .add (.t 13) (kI 1),ag 13 42]))))
def oS:K:=.loop [2,5,11,12,13] kJ
def jh:cZ:=⟨44,[.tmp 4],
 (aj [ak 2 (.box 1 false (.t 0) true),aM 4 (.c .aF)]
 (aj [ak 5 (.alloc [.aF] 1)]
 (.seq (aj [ag 11 1,ak 12 (.bV (.t 11)),aM 13 (kI 0)]
 (.block 0 oS))
 (aj [bE 43 5,ag 4 43]
 .ret)))),false⟩
def br:cZ:=⟨102,[.tmp 4],
 (aj [ak 2 (.box 5 true (.t 0) true),aM 4 (kI 0)]
 (aj [bG 8 0 2,bE 9 8,bW 10 eU [(.t 9)],ag 5 10]
 (.seq (.block 0 (aj [ag 12 5,aN 13 .lss (.t 12) (kI 0),ag 14 13,⟨some 15,.cQ 0 (.t 2),some (14,false)⟩,⟨some 16,.load 1 false (.t 15),some (14,false)⟩,⟨some 17,.arith .eql (.t 16) (kI 1),some (14,false)⟩,ak 18 (.pick (.t 14) (.c (.p (.bool true))) (.t 17)),ag 19 18,⟨some 20,.cQ 0 (.t 2),some (19,false)⟩,⟨some 21,.load 1 false (.t 20),some (19,false)⟩,⟨some 22,.arith .eql (.t 21) (kI 26),some (19,false)⟩,⟨some 23,.mv (.t 22) false,some (19,false)⟩,⟨some 24,.mv (.t 1) false,some (23,true)⟩,⟨some 25,.not (.t 24),some (23,true)⟩,⟨some 26,.pick (.t 23) (.t 25) (.c (.p (.bool false))),some (19,false)⟩,ak 27 (.pick (.t 19) (.c (.p (.bool true))) (.t 26)),ag 28 27,⟨some 29,.cQ 4 (.t 2),some (28,false)⟩,⟨some 30,.load 1 false (.t 29),some (28,false)⟩,⟨some 31,.bV (.t 30),some (28,false)⟩,⟨some 32,.mv (.t 5) false,some (28,false)⟩,⟨some 33,.arith .neq (.t 31) (.t 32),some (28,false)⟩,ak 34 (.pick (.t 28) (.c (.p (.bool true))) (.t 33)),ag 11 34]
 (bq 11 (aj [aM 4 (kI 4)]
 .ret) (aj [bG 36 3 2,bE 37 36,aN 38 .neq (.t 37) (.c (.p (.str (bs [])))),ag 39 38,⟨some 40,.cQ 0 (.t 2),some (39,true)⟩,⟨some 41,.load 1 false (.t 40),some (39,true)⟩,⟨some 42,.dW dp [(.t 41)],some (39,true)⟩,⟨some 43,.not (.t 42),some (39,true)⟩,ak 44 (.pick (.t 39) (.t 43) (.c (.p (.bool false)))),ag 45 44,⟨some 46,.cQ 2 (.t 2),some (45,false)⟩,⟨some 47,.load 1 false (.t 46),some (45,false)⟩,⟨some 48,.arith .neq (.t 47) (.c (.p (.int .u64 0))),some (45,false)⟩,⟨some 49,.mv (.t 48) false,some (45,false)⟩,⟨some 50,.cQ 0 (.t 2),some (49,true)⟩,⟨some 51,.load 1 false (.t 50),some (49,true)⟩,⟨some 52,.arith .neq (.t 51) (kI 2),some (49,true)⟩,⟨some 53,.pick (.t 49) (.t 52) (.c (.p (.bool false))),some (45,false)⟩,⟨some 54,.mv (.t 53) false,some (45,false)⟩,⟨some 55,.cQ 0 (.t 2),some (54,true)⟩,⟨some 56,.load 1 false (.t 55),some (54,true)⟩,⟨some 57,.arith .neq (.t 56) (kI 21),some (54,true)⟩,⟨some 58,.pick (.t 54) (.t 57) (.c (.p (.bool false))),some (45,false)⟩,ak 59 (.pick (.t 45) (.c (.p (.bool true))) (.t 58)),ag 35 59]
 (bq 35 (aj [aM 4 (kI 4)]
 .ret) (aj [bG 61 0 2,bE 62 61,bW 63 dp [(.t 62)],ag 64 63,⟨some 65,.cQ 3 (.t 2),some (64,true)⟩,⟨some 66,.load 1 false (.t 65),some (64,true)⟩,⟨some 67,.dW jG [(.t 66)],some (64,true)⟩,⟨some 68,.not (.t 67),some (64,true)⟩,ak 69 (.pick (.t 64) (.t 68) (.c (.p (.bool false)))),ag 60 69]
 (bq 60 (aj [aM 4 (kI 5)]
 .ret) .skip)))))))
 (.seq (.cX true [bG 71 0 2,bE 72 71,bG 73 1 2,bE 74 73,bG 75 2 2,bE 76 75,bG 77 4 2,bE 78 77,bW 79 fq [(.t 78)],bW 80 fS [(.t 72),(.t 74),(.t 76),(.t 79)],ag 70 80,ak 81 (.extract (.t 70) 0),ak 82 (.extract (.t 70) 1),ag 6 81,ag 7 82])
 (.seq (aj [ag 83 7,aN 84 .neq (.t 83) (kI 0),ag 85 84,⟨some 86,.mv (.t 6) false,some (85,false)⟩,⟨some 87,.cQ 1 (.t 2),some (85,false)⟩,⟨some 88,.load 1 false (.t 87),some (85,false)⟩,⟨some 89,.arith .neq (.t 86) (.t 88),some (85,false)⟩,ak 90 (.pick (.t 85) (.c (.p (.bool true))) (.t 89))]
 (bq 90 (aj [aM 4 (kI 3)]
 .ret) .skip))
 (.seq (aj [bG 91 0 2,bE 92 91,aN 93 .eql (.t 92) (kI 26),ag 94 93,⟨some 95,.cQ 4 (.t 2),some (94,true)⟩,⟨some 96,.load 1 false (.t 95),some (94,true)⟩,⟨some 97,.aA 5 (.t 96) (kI 0),some (94,true)⟩,⟨some 98,.load 5 true (.t 97),some (94,true)⟩,⟨some 99,.fB 1 [(.p (.int .i64 0))] 2 [(0,1,(kI 24)),(1,1,(kI 26))],some (94,true)⟩,⟨some 100,.dW lK [(.t 98),(.t 99)],some (94,true)⟩,ak 101 (.pick (.t 94) (.t 100) (.c (.p (.bool false))))]
 (bq 101 (aj [aM 4 (kI 12)]
 .ret) .skip))
 (aj [aM 4 (kI 0)]
 .ret))))))),false⟩
def ix:cZ:=⟨6,[],
 (.cX false [cF 3 5 1,ag 4 0,bW 5 iY [(.t 3),(.t 4)]]),true⟩
def l4:K :=
 (aj [aN 15 .lss (.t 14) (.t 13)]
 (.seq (bq 15 .skip (.exit 0))
 (.seq (.block 1 (aj [ak 16 (.aA 5 (.t 12) (.t 14)),cF 17 5 16,ak 6 (.init 5 true (.t 17) true)]
 (aj [cF 18 5 6,ag 19 1,bW 20 iY [(.t 18),(.t 19)],ak 21 (.not (.t 20))]
 (bq 21 (aj [aM 4 (.c (.p (.bool false)))]
 .ret) .skip))))
 (.cX false [aN 22 .add (.t 14) (kI 1),ag 14 22]))))
def pI:K:=.loop [1,12,13,14] l4
def gC:cZ:=⟨23,[.tmp 4],
 (aj [ak 2 (.box 5 true (.t 0) true),aM 4 (.c (.p (.bool false)))]
 (.seq (aj [ag 7 1,cF 8 5 2,ak 9 (.ox (.t 7) [(.t 8)]),ak 10 (.not (.t 9))]
 (bq 10 (aj [aM 4 (.c (.p (.bool false)))]
 .ret) .skip))
 (.seq (aj [bG 11 4 2,bE 12 11,ak 13 (.bV (.t 12)),aM 14 (kI 0)]
 (.block 0 pI))
 (aj [aM 4 (.c (.p (.bool true)))]
 .ret)))),true⟩
def du:K :=
 (aj [aN 9 .lss (.t 8) (.t 7)]
 (.seq (bq 9 .skip (.exit 0))
 (.seq (.block 1 (aj [ag 10 8,ag 5 10]
 (.seq (.cX true [cF 11 2 3,ag 12 0,ag 13 5,ak 14 (.aA 2 (.t 12) (.t 13)),cF 15 2 14,ak 16 (.UD false [.str,.int] (.t 11) (.t 15))])
 (bq 16 (aj [ag 17 5,ag 4 17]
 .ret) .skip))))
 (.cX false [aN 18 .add (.t 8) (kI 1),ag 8 18]))))
def eh:K:=.loop [0,3,7,8] du
def cL:cZ:=⟨19,[.tmp 4],
 (aj [ak 3 (.box 2 true (.t 1) true),aM 4 (kI 0)]
 (.seq (aj [ag 6 0,ak 7 (.bV (.t 6)),aM 8 (kI 0)]
 (.block 0 eh))
 (aj [aM 4 (kI (-1))]
 .ret))),false⟩
def kM:cZ:=⟨21,[.tmp 2],
 (aj [ak 1 (.box 11 true (.t 0) true),aM 2 (.c (.p (.bool false)))]
 (.seq (aj [bG 3 0 1,bE 4 3]
 (.block 0 (.seq (.block 3 (.block 2 (.seq (.block 1 (.seq (.seq (aj [aN 6 .eql (.t 4) (kI 1),ag 5 6]
 (bq 5 (.exit 1) .skip))
 (.seq (aj [aN 8 .eql (.t 4) (kI 3),ag 7 8]
 (bq 7 (.exit 2) .skip))
 (aj [aN 10 .eql (.t 4) (kI 4),ag 9 10]
 (bq 9 (.exit 3) .skip))))
 (.exit 0)))
 (.seq (aj [bG 11 6 1,cF 12 5 11,bW 13 nn [(.t 12)],ag 2 13]
 .ret)
 (.exit 0)))))
 (.seq (aj [bG 14 1 1,bG 15 0 14,bE 16 15,aN 17 .eql (.t 16) (kI 24),ag 2 17]
 .ret)
 (.exit 0)))))
 (aj [bG 18 0 1,bE 19 18,aN 20 .eql (.t 19) (kI 2),ag 2 20]
 .ret))),false⟩
def gw:K :=
 (aj [aN 16 .lss (.t 15) (.t 14)]
 (.seq (bq 16 .skip (.exit 0))
 (.seq (.block 1 (aj [ak 17 (.aA 2 (.t 13) (.t 15)),cF 18 2 17,ak 8 (.init 2 true (.t 18) true)]
 (aj [ag 19 1,cF 20 2 8,bW 21 a6 [(.t 19),(.t 20)],ak 22 (.not (.t 21))]
 (bq 22 (aj [aM 6 (.c (.p (.bool false)))]
 .ret) .skip))))
 (.cX false [aN 23 .add (.t 15) (kI 1),ag 15 23]))))
def qu:K:=.loop [1,2,3,13,14,15] gw
def iU:K :=
 (aj [aN 29 .lss (.t 28) (.t 27)]
 (.seq (bq 29 .skip (.exit 2))
 (.seq (.block 3 (aj [ak 30 (.aA 2 (.t 26) (.t 28)),cF 31 2 30,ak 10 (.init 2 true (.t 31) true)]
 (aj [ag 32 2,cF 33 2 10,bW 34 a6 [(.t 32),(.t 33)],ak 35 (.not (.t 34))]
 (bq 35 (aj [aM 6 (.c (.p (.bool false)))]
 .ret) .skip))))
 (.cX false [aN 36 .add (.t 28) (kI 1),ag 28 36]))))
def qz:K:=.loop [2,26,27,28] iU
def jS:cZ:=⟨37,[.tmp 6],
 (aj [ak 3 (.box 5 true (.t 0) true),aM 6 (.c (.p (.bool false)))]
 (.seq (aj [cF 11 5 3,ak 12 (.fB 5 qo 1 [(0,5,(.t 11))]),bW 13 gH [(.t 12)],ak 14 (.bV (.t 13)),aM 15 (kI 0)]
 (.block 0 qu))
 (.seq (aj [cF 24 5 3,ak 25 (.fB 5 qo 1 [(0,5,(.t 24))]),bW 26 iD [(.t 25)],ak 27 (.bV (.t 26)),aM 28 (kI 0)]
 (.block 2 qz))
 (aj [aM 6 (.c (.p (.bool true)))]
 .ret)))),false⟩
def wB:cZ:=⟨9,[.tmp 4],
 (aj [aM 4 (.c (.p (.int .u64 0)))]
 (aj [ag 5 1,ag 6 0,bW 7 jC [(.t 6)],aN 8 .and (.t 5) (.t 7),ag 4 8]
 .ret)),false⟩
def nB:K :=
 (aj [aN 25 .lss (.t 24) (.t 23)]
 (.seq (bq 25 .skip (.exit 0))
 (.seq (.block 1 (aj [ak 26 (.aA 1 (.t 22) (.t 24)),bE 27 26,ag 11 27]
 (aj [ag 28 11,bW 29 gG [(.t 28)],ak 30 (.not (.t 29))]
 (bq 30 (aj [aM 8 (kI 0),aM 9 (kI 3)]
 .ret) .skip))))
 (.cX false [aN 31 .add (.t 24) (kI 1),ag 24 31]))))
def qv:K:=.loop [0,1,2,3,22,23,24] nB
def dB:cZ:=⟨144,[.tmp 8,.tmp 9],
 (aj [aM 8 (kI 0),aM 9 (kI 0)]
 (.seq (aj [ag 12 0,bW 13 j4 [(.t 12)],ak 14 (.not (.t 13)),ag 15 14,⟨some 16,.mv (.t 3) false,some (15,false)⟩,⟨some 17,.bV (.t 16),some (15,false)⟩,⟨some 18,.mv (.t 0) false,some (15,false)⟩,⟨some 19,.dW eU [(.t 18)],some (15,false)⟩,⟨some 20,.arith .neq (.t 17) (.t 19),some (15,false)⟩,ak 21 (.pick (.t 15) (.c (.p (.bool true))) (.t 20))]
 (bq 21 (aj [aM 8 (kI 0),aM 9 (kI 4)]
 .ret) .skip))
 (.seq (aj [ag 22 3,ak 23 (.bV (.t 22)),aM 24 (kI 0)]
 (.block 0 qv))
 (.seq (aj [ag 32 0]
 (.block 2 (.seq (aj [aN 34 .eql (.t 32) (kI 1),ag 33 34]
 (bq 33 .skip (aj [aN 35 .eql (.t 32) (kI 2),ag 33 35]
 (bq 33 .skip (aj [aN 36 .eql (.t 32) (kI 24),ag 33 36]
 (bq 33 .skip (.cX false [aN 37 .eql (.t 32) (kI 25),ag 33 37])))))))
 (bq 33 (aj [ag 38 0,ag 39 1,ag 40 2,bW 41 lJ [(.t 38),(.t 39),(.t 40)],ak 42 (.extract (.t 41) 0),ak 43 (.extract (.t 41) 1),ag 8 42,ag 9 43]
 .ret) (.seq (aj [aN 45 .eql (.t 32) (kI 3),ag 44 45]
 (bq 44 .skip (aj [aN 46 .eql (.t 32) (kI 4),ag 44 46]
 (bq 44 .skip (.cX false [aN 47 .eql (.t 32) (kI 26),ag 44 47])))))
 (bq 44 (aj [ag 48 3,ak 49 (.aA 1 (.t 48) (kI 0)),bE 50 49,ag 8 50,aM 9 (kI 0)]
 .ret) (.seq (aj [aN 52 .eql (.t 32) (kI 21),ag 51 52]
 (bq 51 .skip (aj [aN 53 .eql (.t 32) (kI 22),ag 51 53]
 (bq 51 .skip (.cX false [aN 54 .eql (.t 32) (kI 23),ag 51 54])))))
 (bq 51 (aj [ag 55 0,ag 56 1,ag 57 2,ag 58 3,ak 59 (.aA 1 (.t 58) (kI 0)),bE 60 59,bW 61 gZ [(.t 55),(.t 56),(.t 57),(.t 60)],ak 62 (.extract (.t 61) 0),ak 63 (.extract (.t 61) 1),ag 8 62,ag 9 63]
 .ret) (aj [aN 65 .eql (.t 32) (kI 19),ag 64 65]
 (bq 64 (.seq (.cX true [ag 66 3,ak 67 (.aA 1 (.t 66) (kI 0)),bE 68 67,aN 69 .eql (.t 68) (kI 1),ag 70 69,⟨some 71,.mv (.t 3) false,some (70,true)⟩,⟨some 72,.aA 1 (.t 71) (kI 1),some (70,true)⟩,⟨some 73,.load 1 false (.t 72),some (70,true)⟩,⟨some 74,.mv (.t 3) false,some (70,true)⟩,⟨some 75,.aA 1 (.t 74) (kI 2),some (70,true)⟩,⟨some 76,.load 1 false (.t 75),some (70,true)⟩,⟨some 77,.arith .eql (.t 73) (.t 76),some (70,true)⟩,ak 78 (.pick (.t 70) (.t 77) (.c (.p (.bool false)))),ag 79 3,ak 80 (.aA 1 (.t 79) (kI 1)),bE 81 80,bW 82 ew [(.t 78),(.t 81)],ak 83 (.extract (.t 82) 0),ak 84 (.extract (.t 82) 1),ag 8 83,ag 9 84])
 .ret) (aj [aN 86 .eql (.t 32) (kI 20),ag 85 86]
 (bq 85 (.seq (.cX true [ag 87 3,ak 88 (.aA 1 (.t 87) (kI 0)),bE 89 88,aN 90 .geq (.t 89) (kI 1),ag 91 90,⟨some 92,.mv (.t 3) false,some (91,true)⟩,⟨some 93,.aA 1 (.t 92) (kI 1),some (91,true)⟩,⟨some 94,.load 1 false (.t 93),some (91,true)⟩,⟨some 95,.arith .geq (.t 94) (kI 1),some (91,true)⟩,ak 96 (.pick (.t 91) (.t 95) (.c (.p (.bool false)))),ag 97 96,⟨some 98,.mv (.t 3) false,some (97,true)⟩,⟨some 99,.aA 1 (.t 98) (kI 0),some (97,true)⟩,⟨some 100,.load 1 false (.t 99),some (97,true)⟩,⟨some 101,.mv (.t 3) false,some (97,true)⟩,⟨some 102,.aA 1 (.t 101) (kI 1),some (97,true)⟩,⟨some 103,.load 1 false (.t 102),some (97,true)⟩,⟨some 104,.arith .add (.t 100) (.t 103),some (97,true)⟩,⟨some 105,.arith .leq (.t 104) (kI 64),some (97,true)⟩,ak 106 (.pick (.t 97) (.t 105) (.c (.p (.bool false)))),ag 107 3,ak 108 (.aA 1 (.t 107) (kI 0)),bE 109 108,ag 110 3,ak 111 (.aA 1 (.t 110) (kI 1)),bE 112 111,aN 113 .add (.t 109) (.t 112),bW 114 ew [(.t 106),(.t 113)],ak 115 (.extract (.t 114) 0),ak 116 (.extract (.t 114) 1),ag 8 115,ag 9 116])
 .ret) (.seq (aj [aN 118 .eql (.t 32) (kI 16),ag 117 118]
 (bq 117 .skip (aj [aN 119 .eql (.t 32) (kI 17),ag 117 119]
 (bq 117 .skip (.cX false [aN 120 .eql (.t 32) (kI 18),ag 117 120])))))
 (bq 117 (.seq (.cX true [ag 121 3,ak 122 (.aA 1 (.t 121) (kI 0)),bE 123 122,ag 124 3,ak 125 (.aA 1 (.t 124) (kI 1)),bE 126 125,aN 127 .eql (.t 123) (.t 126),bW 128 ew [(.t 127),(kI 1)],ak 129 (.extract (.t 128) 0),ak 130 (.extract (.t 128) 1),ag 8 129,ag 9 130])
 .ret) .skip))))))))))))))
 (.seq (.cX true [ag 131 3,ak 132 (.aA 1 (.t 131) (kI 0)),bE 133 132,ag 134 3,ak 135 (.aA 1 (.t 134) (kI 1)),bE 136 135,aN 137 .eql (.t 133) (.t 136),ag 138 3,ak 139 (.aA 1 (.t 138) (kI 0)),bE 140 139,bW 141 ew [(.t 137),(.t 140)],ak 142 (.extract (.t 141) 0),ak 143 (.extract (.t 141) 1),ag 8 142,ag 9 143])
 .ret))))),false⟩
def oq:K :=
 (aj [aN 9 .lss (.t 8) (.t 7)]
 (.seq (bq 9 .skip (.exit 0))
 (.seq (.block 1 (aj [ak 10 (.aA 5 (.t 6) (.t 8)),cF 11 5 10,ak 5 (.init 5 true (.t 11) true)]
 (.cX false [ag 12 3,bG 13 1 5,bE 14 13,ak 15 (.fB 1 [(.p (.int .i64 0))] 1 [(0,1,(.t 14))]),ak 16 (.append 1 8 (.t 12) (.t 15)),ak 3 (.mv (.t 16) true)])))
 (.cX false [aN 17 .add (.t 8) (kI 1),ag 8 17]))))
def rT:K:=.loop [3,6,7,8] oq
def mb:cZ:=⟨19,[.tmp 2],
 (aj [aM 2 (.c .aF)]
 (aj [ak 3 (.mv (.c .aF) true)]
 (.seq (aj [ag 6 0,ak 7 (.bV (.t 6)),aM 8 (kI 0)]
 (.block 0 rT))
 (aj [ag 18 3,ag 2 18]
 .ret)))),false⟩
def jy:K :=
 (.cX false [ak 7 (.init 5 true (.t 21) true)])
def jz:K :=
 (.block 1 (.seq (aj [cF 22 5 7,bW 23 ph [(.t 22)],ag 8 23]
 (aj [ag 24 8,aN 25 .neq (.t 24) (kI 0)]
 (bq 25 (aj [ag 26 8,⟨none,.store 1 (.t 2) (.t 26),none⟩]
 .ret) .skip)))
 (aj [bG 27 0 7,bE 28 27,aN 29 .eql (.t 28) (kI 1)]
 (bq 29 (aj [bE 31 5,bG 32 3 7,bE 33 32,ak 34 (.lookup .str (.p (.int .i64 0)) (.t 31) (.t 33) true),ag 30 34,ak 35 (.extract (.t 30) 0),ak 36 (.extract (.t 30) 1),ag 9 35,ag 10 36]
 (aj [bE 37 6,ag 38 37,⟨some 39,.mv (.t 10) false,some (38,false)⟩,⟨some 40,.mv (.t 39) false,some (38,false)⟩,⟨some 41,.mv (.t 9) false,some (40,true)⟩,⟨some 42,.cQ 1 (.t 7),some (40,true)⟩,⟨some 43,.load 1 false (.t 42),some (40,true)⟩,⟨some 44,.arith .neq (.t 41) (.t 43),some (40,true)⟩,⟨some 45,.pick (.t 40) (.t 44) (.c (.p (.bool false))),some (38,false)⟩,ak 46 (.pick (.t 38) (.c (.p (.bool true))) (.t 45)),⟨none,.store 1 (.t 6) (.t 46),none⟩]
 (.cX false [bE 47 5,bG 48 3 7,bE 49 48,bG 50 1 7,bE 51 50,⟨none,.Qb .str (.t 47) (.t 49) (.t 51),none⟩]))) .skip))))
def CT:K:=.range (.t 20) [21] [2,5,6] jy jz
def nf:cZ:=⟨53,[.cell 2 1 false],
 (aj [ak 1 (.box 5 true (.t 0) true),ak 2 (.alloc [(.p (.int .i64 0))] 1)]
 (.seq (aj [cF 12 5 1,bW 13 iH [(.t 12),(kI 4096),(kI 64)],ag 11 13,ak 14 (.extract (.t 11) 0),ak 15 (.extract (.t 11) 1),ag 3 14,ag 4 15]
 (aj [ag 16 4,ak 17 (.not (.t 16))]
 (bq 17 (aj [⟨none,.store 1 (.t 2) (kI 7),none⟩]
 .ret) .skip)))
 (aj [ak 18 (.Bq),ak 5 (.init 1 false (.t 18) true)]
 (aj [ak 6 (.init 1 false (.c (.p (.bool false))) false)]
 (.seq (aj [cF 19 5 1,bW 20 q7 [(.t 19)]]
 (.block 0 CT))
 (.seq (aj [bE 52 6]
 (bq 52 (aj [⟨none,.store 1 (.t 2) (kI 12),none⟩]
 .ret) .skip))
 (aj [⟨none,.store 1 (.t 2) (kI 0),none⟩]
 .ret))))))),false⟩
def uH:cZ:=⟨10,[.tmp 2],
 (aj [ak 1 (.box 5 true (.t 0) true),aM 2 (.c .aF)]
 (aj [ak 3 (.alloc [.aF] 1)]
 (aj [cF 4 5 1,ak 5 (.xx fH [(.t 3)]),bW 6 jc [(.t 4),(.t 5)]]
 (aj [bE 7 3,bW 8 a7 [(.t 7),(.c (.p (.fn dI [])))]]
 (aj [bE 9 3,ag 2 9]
 .ret))))),false⟩
def yH:cZ:=⟨17,[.tmp 4],
 (aj [ak 2 (.box 2 true (.t 0) true),ak 3 (.box 2 true (.t 1) true),aM 4 (kI 0)]
 (.seq (.cX true [bG 5 0 2,bE 6 5,bG 7 0 3,bE 8 7,bW 9 o7 [(.t 6),(.t 8)],bG 10 1 2,bE 11 10,bG 12 1 3,bE 13 12,bW 14 sd [(.t 11),(.t 13)],ak 15 (.fB 1 [(.p (.int .i64 0))] 2 [(0,1,(.t 9)),(1,1,(.t 14))]),bW 16 zJ [(.t 15)],ag 4 16])
 .ret)),false⟩
def MB:K :=
 (aj [aN 9 .lss (.t 8) (.t 7)]
 (.seq (bq 9 .skip (.exit 0))
 (.seq (.block 1 (aj [ak 10 (.aA 1 (.t 6) (.t 8)),bE 11 10,ag 5 11]
 (aj [ag 12 5,ag 13 3,aN 14 .neq (.t 12) (.t 13)]
 (bq 14 (aj [ag 15 5,ag 2 15]
 .ret) .skip))))
 (.cX false [aN 16 .add (.t 8) (kI 1),ag 8 16]))))
def MC:K:=.loop [3,6,7,8] MB
def D9:cZ:=⟨18,[.tmp 2],
 (aj [aM 2 (kI 0)]
 (aj [aM 3 (kI 0)]
 (.seq (aj [ag 6 0,ak 7 (.bV (.t 6)),aM 8 (kI 0)]
 (.block 0 MC))
 (aj [ag 17 3,ag 2 17]
 .ret)))),false⟩
def uy:cZ:=⟨20,[.tmp 4],
 (aj [aM 4 (kI 0)]
 (aj [ag 7 0,bW 8 nj [(.t 7)],ag 5 8]
 (aj [ag 9 1,bW 10 nj [(.t 9)],ag 6 10]
 (.seq (aj [ag 11 5]
 (bq 11 (.seq (aj [ag 12 6]
 (bq 12 (aj [aM 4 (kI 0)]
 .ret) .skip))
 (aj [aM 4 (kI (-1))]
 .ret)) .skip))
 (.seq (aj [ag 13 6]
 (bq 13 (aj [aM 4 (kI 1)]
 .ret) .skip))
 (.seq (aj [ag 14 0,ag 15 1,aN 16 .lss (.t 14) (.t 15)]
 (bq 16 (aj [aM 4 (kI (-1))]
 .ret) .skip))
 (.seq (aj [ag 17 0,ag 18 1,aN 19 .gtr (.t 17) (.t 18)]
 (bq 19 (aj [aM 4 (kI 1)]
 .ret) .skip))
 (aj [aM 4 (kI 0)]
 .ret)))))))),false⟩
def xD:cZ:=⟨20,[.tmp 4],
 (aj [aM 4 (kI 0)]
 (aj [ag 7 0,bW 8 qC [(.t 7)],ag 5 8]
 (aj [ag 9 1,bW 10 qC [(.t 9)],ag 6 10]
 (.seq (aj [ag 11 5]
 (bq 11 (.seq (aj [ag 12 6]
 (bq 12 (aj [aM 4 (kI 0)]
 .ret) .skip))
 (aj [aM 4 (kI (-1))]
 .ret)) .skip))
 (.seq (aj [ag 13 6]
 (bq 13 (aj [aM 4 (kI 1)]
 .ret) .skip))
 (.seq (aj [ag 14 0,ag 15 1,aN 16 .lss (.t 14) (.t 15)]
 (bq 16 (aj [aM 4 (kI (-1))]
 .ret) .skip))
 (.seq (aj [ag 17 0,ag 18 1,aN 19 .gtr (.t 17) (.t 18)]
 (bq 19 (aj [aM 4 (kI 1)]
 .ret) .skip))
 (aj [aM 4 (kI 0)]
 .ret)))))))),false⟩
def fE:K :=
 (aj [aN 33 .lss (.t 32) (.t 31)]
 (.seq (bq 33 .skip (.exit 0))
 (.seq (.block 1 (aj [ag 34 32,ak 35 (.aA 2 (.t 30) (.t 32)),cF 36 2 35,ak 9 (.alloc [(.p (.str (bs []))),(.p (.int .i64 0))] 2),ag 8 34,⟨none,.store 2 (.t 9) (.t 36),none⟩]
 (.seq (aj [bE 38 7,bG 39 0 9,bE 40 39,ak 41 (.lookup .str (.p (.int .i64 0)) (.t 38) (.t 40) true),ag 37 41,ak 42 (.extract (.t 37) 0),ak 43 (.extract (.t 37) 1),ag 10 42,ag 11 43]
 (aj [ag 44 11]
 (bq 44 (aj [aM 4 (.c .aF),aM 5 (kI 12)]
 .ret) .skip)))
 (.cX false [bE 45 7,bG 46 0 9,bE 47 46,ag 48 8,⟨none,.Qb .str (.t 45) (.t 47) (.t 48),none⟩]))))
 (.cX false [aN 49 .add (.t 32) (kI 1),ag 32 49]))))
def lD:K:=.loop [1,2,7,30,31,32] fE
def fF:K :=
 (aj [aN 54 .lss (.t 53) (.t 52)]
 (.seq (bq 54 .skip (.exit 2))
 (.seq (.block 3 (aj [ak 55 (.aA 2 (.t 51) (.t 53)),cF 56 2 55,ak 13 (.init 2 true (.t 56) true)]
 (aj [bE 58 7,bG 59 0 13,bE 60 59,ak 61 (.lookup .str (.p (.int .i64 0)) (.t 58) (.t 60) true),ag 57 61,ak 62 (.extract (.t 57) 0),ak 63 (.extract (.t 57) 1),ag 14 62,ag 15 63]
 (.seq (.cX true [ag 64 15,ak 65 (.not (.t 64)),ag 66 65,⟨some 67,.mv (.t 1) false,some (66,false)⟩,⟨some 68,.mv (.t 14) false,some (66,false)⟩,⟨some 69,.aA 2 (.t 67) (.t 68),some (66,false)⟩,⟨some 70,.cQ 1 (.t 69),some (66,false)⟩,⟨some 71,.load 1 false (.t 70),some (66,false)⟩,⟨some 72,.cQ 1 (.t 13),some (66,false)⟩,⟨some 73,.load 1 false (.t 72),some (66,false)⟩,⟨some 74,.arith .neq (.t 71) (.t 73),some (66,false)⟩,ak 75 (.pick (.t 66) (.c (.p (.bool true))) (.t 74))])
 (bq 75 (aj [aM 4 (.c .aF),aM 5 (kI 12)]
 .ret) .skip)))))
 (.cX false [aN 76 .add (.t 53) (kI 1),ag 53 76]))))
def ua:K:=.loop [1,2,7,51,52,53] fF
def ig:K :=
 (aj [aN 80 .lss (.t 79) (.t 78)]
 (.seq (bq 80 .skip (.exit 4))
 (.seq (.block 5 (aj [ak 81 (.aA 2 (.t 77) (.t 79)),cF 82 2 81,ak 18 (.init 2 true (.t 82) true)]
 (aj [bG 83 1 18,bE 84 83,aN 85 .lss (.t 84) (kI 1),ag 86 85,⟨some 87,.cQ 1 (.t 18),some (86,false)⟩,⟨some 88,.load 1 false (.t 87),some (86,false)⟩,⟨some 89,.arith .gtr (.t 88) (kI 64),some (86,false)⟩,ak 90 (.pick (.t 86) (.c (.p (.bool true))) (.t 89))]
 (bq 90 (aj [aM 4 (.c .aF),aM 5 (kI 3)]
 .ret) .skip))))
 (.cX false [aN 91 .add (.t 79) (kI 1),ag 79 91]))))
def ub:K:=.loop [1,2,7,16,77,78,79] ig
def ly:K :=
 (aj [aN 98 .lss (.t 97) (.t 96)]
 (.seq (bq 98 .skip (.exit 6))
 (.seq (.block 7 (aj [ag 99 97,ak 100 (.aA 2 (.t 95) (.t 97)),cF 101 2 100,ak 21 (.alloc [(.p (.str (bs []))),(.p (.int .i64 0))] 2),ag 20 99,⟨none,.store 2 (.t 21) (.t 101),none⟩]
 (aj [bE 102 19,ag 103 20,ag 104 16,ak 105 (.aA 1 (.t 102) (.t 103)),⟨none,.store 1 (.t 105) (.t 104),none⟩]
 (aj [ag 106 16,bG 107 1 21,bE 108 107,aN 109 .add (.t 106) (.t 108),ag 16 109]
 (aj [ag 110 16,aN 111 .gtr (.t 110) (kI 16)]
 (bq 111 (aj [aM 4 (.c .aF),aM 5 (kI 7)]
 .ret) .skip))))))
 (.cX false [aN 112 .add (.t 97) (kI 1),ag 97 112]))))
def uc:K:=.loop [2,7,16,19,95,96,97] ly
def nR:K :=
 (aj [aN 119 .lss (.t 118) (.t 117)]
 (.seq (bq 119 .skip (.exit 8))
 (.seq (.block 9 (aj [ag 120 118,ak 23 (.init 1 false (.t 120) true)]
 (.cX false [ag 121 22,cF 122 5 2,ak 123 (.xx eT [(.t 23),(.t 19),(.t 7)]),bW 124 kX [(.t 122),(.t 123)],ak 125 (.fB 1 [(.p (.int .u64 0))] 1 [(0,1,(.t 124))]),ak 126 (.append 1 8 (.t 121) (.t 125)),ak 22 (.mv (.t 126) true)])))
 (.cX false [aN 127 .add (.t 118) (kI 1),ag 118 127]))))
def ud:K:=.loop [2,7,19,22,117,118] nR
def ik:cZ:=⟨129,[.tmp 4,.tmp 5],
 (aj [ak 2 (.box 5 true (.t 0) true),aM 4 (.c .aF),aM 5 (kI 0)]
 (.seq (aj [cF 24 5 2,bW 25 k8 [(.t 24)],ag 6 25]
 (aj [ag 26 6,aN 27 .neq (.t 26) (kI 0)]
 (bq 27 (aj [ag 28 6,aM 4 (.c .aF),ag 5 28]
 .ret) .skip)))
 (aj [ak 29 (.Bq),ak 7 (.init 1 false (.t 29) true)]
 (.seq (aj [ag 30 1,ak 31 (.bV (.t 30)),aM 32 (kI 0)]
 (.block 0 lD))
 (.seq (aj [cF 50 5 2,bW 51 mS [(.t 50)],ak 52 (.bV (.t 51)),aM 53 (kI 0)]
 (.block 2 ua))
 (aj [aM 16 (kI 0)]
 (.seq (aj [ag 77 1,ak 78 (.bV (.t 77)),aM 79 (kI 0)]
 (.block 4 ub))
 (aj [ag 92 1,ak 93 (.bV (.t 92)),ak 94 (.uh 1 8 [(.p (.int .i64 0))] (.t 93) (.t 93)),ak 19 (.init 1 false (.t 94) true)]
 (.seq (aj [ag 95 1,ak 96 (.bV (.t 95)),aM 97 (kI 0)]
 (.block 6 uc))
 (aj [ag 113 16,aN 114 .shl (kI 1) (.t 113),ak 115 (.uh 1 8 [(.p (.int .u64 0))] (kI 0) (.t 114)),ak 22 (.mv (.t 115) true)]
 (.seq (aj [ag 116 16,aN 117 .shl (kI 1) (.t 116),aM 118 (kI 0)]
 (.block 8 ud))
 (aj [ag 128 22,ag 4 128,aM 5 (kI 0)]
 .ret)))))))))))),false⟩
def eR:K :=
 (aj [aN 9 .lss (.t 8) (.t 7)]
 (.seq (bq 9 .skip (.exit 0))
 (.seq (.block 1 (aj [ag 10 8,ak 4 (.init 1 false (.t 10) true)]
 (aj [ak 11 (.xx bO [(.t 4),(.t 2)]),ag 5 11]
 (aj [ag 12 0,bE 13 4,ag 14 5,ak 15 (.ox (.t 12) [(.t 13),(.t 14)]),ak 16 (.not (.t 15))]
 (bq 16 .ret .skip)))))
 (.cX false [aN 17 .add (.t 8) (kI 1),ag 8 17]))))
def il:K:=.loop [0,2,7,8] eR
def ef:cZ:=⟨18,[],
 (aj [bE 6 1,aN 7 .shl (kI 1) (.t 6),aM 8 (kI 0)]
 (.block 0 il)),true⟩
def fI:K :=
 (aj [aN 12 .lss (.t 11) (.t 10)]
 (.seq (bq 12 .skip (.exit 0))
 (.seq (.block 1 (aj [ak 13 (.aA 2 (.t 9) (.t 11)),cF 14 2 13,ak 6 (.init 2 true (.t 14) true)]
 (.seq (.cX true [ag 15 3,bG 16 0 6,bE 17 16,ag 18 4,bG 19 1 6,bE 20 19,aN 21 .shl (.c (.p (.int .u64 1))) (.t 20),aN 22 .sub (.t 21) (.c (.p (.int .u64 1))),aN 23 .and (.t 18) (.t 22),ak 24 (.build [(.p (.str (bs []))),(.p (.int .u64 0))] [(0,1,(.t 17)),(1,1,(.t 23))]),ak 25 (.fB 2 [(.p (.str (bs []))),(.p (.int .u64 0))] 1 [(0,2,(.t 24))]),ak 26 (.append 2 24 (.t 15) (.t 25)),ak 3 (.mv (.t 26) true)])
 (.cX false [ag 27 4,bG 28 1 6,bE 29 28,aN 30 .shr (.t 27) (.t 29),ag 4 30]))))
 (.cX false [aN 31 .add (.t 11) (kI 1),ag 11 31]))))
def jW:K:=.loop [3,4,9,10,11] fI
def eF:cZ:=⟨33,[.tmp 2],
 (aj [aM 2 (.c .aF)]
 (aj [ak 3 (.mv (.c .aF) true)]
 (aj [bE 7 0,ak 8 (.conv .u64 (.t 7)),ag 4 8]
 (.seq (aj [bE 9 1,ak 10 (.bV (.t 9)),aM 11 (kI 0)]
 (.block 0 jW))
 (aj [ag 32 3,ag 2 32]
 .ret))))),false⟩
def bB:K :=
 (.seq (aj [ag 15 9,ag 16 10,aN 17 .lss (.t 15) (.t 16)]
 (bq 17 .skip (.exit 0)))
 (.block 1 (aj [ag 18 9,ag 19 10,aN 20 .add (.t 18) (.t 19),ak 21 (.conv .u64 (.t 20)),aN 22 .shr (.t 21) (.c (.p (.int .u64 1))),ak 23 (.conv .i64 (.t 22)),ag 11 23]
 (aj [ag 24 2,ag 25 0,ag 26 11,ak 27 (.aA 2 (.t 25) (.t 26)),cF 28 2 27,ag 29 1,ak 30 (.ox (.t 24) [(.t 28),(.t 29)]),aN 31 .lss (.t 30) (kI 0)]
 (bq 31 (.cX false [ag 32 11,aN 33 .add (.t 32) (kI 1),ag 9 33]) (.cX false [ag 34 11,ag 10 34]))))))
def bY:K:=.loop [0,1,2,8,9,10] bB
def aR:cZ:=⟨49,[.tmp 6,.tmp 7],
 (aj [aM 6 (kI 0),aM 7 (.c (.p (.bool false)))]
 (aj [ag 12 0,ak 13 (.bV (.t 12)),ag 8 13]
 (aj [ag 14 8,aM 9 (kI 0),ag 10 14]
 (.seq (.block 0 bY)
 (aj [ag 35 9,ag 36 9,ag 37 8,aN 38 .lss (.t 36) (.t 37),ag 39 38,⟨some 40,.mv (.t 2) false,some (39,true)⟩,⟨some 41,.mv (.t 0) false,some (39,true)⟩,⟨some 42,.mv (.t 9) false,some (39,true)⟩,⟨some 43,.aA 2 (.t 41) (.t 42),some (39,true)⟩,⟨some 44,.load 2 true (.t 43),some (39,true)⟩,⟨some 45,.mv (.t 1) false,some (39,true)⟩,⟨some 46,.ox (.t 40) [(.t 44),(.t 45)],some (39,true)⟩,⟨some 47,.arith .eql (.t 46) (kI 0),some (39,true)⟩,ak 48 (.pick (.t 39) (.t 47) (.c (.p (.bool false)))),ag 6 35,ag 7 48]
 .ret))))),false⟩
def gR:cZ:=⟨9,[.tmp 4],
 (aj [ak 2 (.box 2 true (.t 0) true),aM 4 (kI 0)]
 (aj [bG 5 0 2,bE 6 5,ag 7 1,bW 8 eQ [(.t 6),(.t 7)],ag 4 8]
 .ret)),false⟩
def kR:cZ:=⟨8,[.tmp 4],
 (aj [aM 4 (kI 0)]
 (aj [ag 5 0,ag 6 1,bW 7 bT [(.t 5),(.t 6)],ag 4 7]
 .ret)),false⟩
def l8:cZ:=⟨42,[.tmp 2],
 (aj [aM 2 (kI 0)]
 (aj [aM 3 (kI 0)]
 (.seq (aj [ag 4 0]
 (.block 0 (.seq (.block 4 (.seq (.block 3 (.seq (.block 2 (.seq (.block 1 (.seq (.seq (aj [aN 6 .eql (.t 4) (kI 19),ag 5 6]
 (bq 5 (.exit 1) .skip))
 (.seq (.seq (aj [aN 8 .eql (.t 4) (kI 5),ag 7 8]
 (bq 7 .skip (aj [aN 9 .eql (.t 4) (kI 6),ag 7 9]
 (bq 7 .skip (aj [aN 10 .eql (.t 4) (kI 7),ag 7 10]
 (bq 7 .skip (aj [aN 11 .eql (.t 4) (kI 8),ag 7 11]
 (bq 7 .skip (aj [aN 12 .eql (.t 4) (kI 9),ag 7 12]
 (bq 7 .skip (aj [aN 13 .eql (.t 4) (kI 10),ag 7 13]
 (bq 7 .skip (aj [aN 14 .eql (.t 4) (kI 11),ag 7 14]
 (bq 7 .skip (aj [aN 15 .eql (.t 4) (kI 12),ag 7 15]
 (bq 7 .skip (aj [aN 16 .eql (.t 4) (kI 13),ag 7 16]
 (bq 7 .skip (aj [aN 17 .eql (.t 4) (kI 14),ag 7 17]
 (bq 7 .skip (aj [aN 18 .eql (.t 4) (kI 15),ag 7 18]
 (bq 7 .skip (aj [aN 19 .eql (.t 4) (kI 16),ag 7 19]
 (bq 7 .skip (aj [aN 20 .eql (.t 4) (kI 17),ag 7 20]
 (bq 7 .skip (aj [aN 21 .eql (.t 4) (kI 18),ag 7 21]
 (bq 7 .skip (.cX false [aN 22 .eql (.t 4) (kI 20),ag 7 22])))))))))))))))))))))))))))))
 (bq 7 (.exit 2) .skip))
 (.seq (.seq (aj [aN 24 .eql (.t 4) (kI 3),ag 23 24]
 (bq 23 .skip (aj [aN 25 .eql (.t 4) (kI 4),ag 23 25]
 (bq 23 .skip (aj [aN 26 .eql (.t 4) (kI 21),ag 23 26]
 (bq 23 .skip (aj [aN 27 .eql (.t 4) (kI 22),ag 23 27]
 (bq 23 .skip (aj [aN 28 .eql (.t 4) (kI 23),ag 23 28]
 (bq 23 .skip (.cX false [aN 29 .eql (.t 4) (kI 26),ag 23 29])))))))))))
 (bq 23 (.exit 3) .skip))
 (.seq (aj [aN 31 .eql (.t 4) (kI 1),ag 30 31]
 (bq 30 .skip (aj [aN 32 .eql (.t 4) (kI 2),ag 30 32]
 (bq 30 .skip (aj [aN 33 .eql (.t 4) (kI 24),ag 30 33]
 (bq 30 .skip (.cX false [aN 34 .eql (.t 4) (kI 25),ag 30 34])))))))
 (bq 30 (.exit 4) .skip)))))
 (.exit 0)))
 (.cX false [ag 35 3,aN 36 .add (.t 35) (kI 1),ag 3 36])))
 (.cX false [ag 37 3,aN 38 .add (.t 37) (kI 1),ag 3 38])))
 (.cX false [ag 39 3,aN 40 .add (.t 39) (kI 1),ag 3 40])))
 (.seq (aj [ag 41 3,ag 2 41]
 .ret)
 (.exit 0)))))
 (aj [aM 2 (kI (-1))]
 .ret)))),false⟩
def oA:K :=
 (.cX false [ak 5 (.init 5 true (.t 8) true)])
def oB:K :=
 (.block 1 (aj [bE 9 3,bG 10 0 5,bE 11 10,bW 12 b7 [(.t 9),(.t 11)]]
 (bq 12 (aj [⟨none,.store 1 (.t 4) (.c (.p (.bool true))),none⟩]
 .ret) .skip)))
def AY:K:=.range (.t 7) [8] [3,4] oA oB
def qh:cZ:=⟨13,[.cell 4 1 false],
 (aj [ak 2 (.box 5 true (.t 0) true),ak 3 (.box 1 false (.t 1) true),ak 4 (.alloc [(.p (.bool false))] 1)]
 (.seq (aj [cF 6 5 2,bW 7 dn [(.t 6)]]
 (.block 0 AY))
 (aj [⟨none,.store 1 (.t 4) (.c (.p (.bool false))),none⟩]
 .ret))),false⟩
def rL:cZ:=⟨6,[.tmp 2],
 (aj [ak 1 (.box 5 true (.t 0) true),aM 2 (.c (.p (.bool false)))]
 (aj [cF 3 5 1,ak 4 (.build qo []),bW 5 et [(.t 3),(.t 4)],ag 2 5]
 .ret)),false⟩
def uv:cZ:=⟨7,[.tmp 2],
 (aj [aM 2 (.c (.p (.int .u64 0)))]
 (aj [ag 3 0,bW 4 fP [(.t 3)],aN 5 .sub (kI 64) (.t 4),aN 6 .shr (.c (.p (.int .u64 18446744073709551615))) (.t 5),ag 2 6]
 .ret)),false⟩
def oH:cZ:=⟨9,[.tmp 2],
 (aj [aM 2 (.c (.p (.bool false)))]
 (aj [ag 3 0,aN 4 .geq (.t 3) (kI 1),ag 5 4,⟨some 6,.mv (.t 0) false,some (5,true)⟩,⟨some 7,.arith .leq (.t 6) (kI 26),some (5,true)⟩,ak 8 (.pick (.t 5) (.t 7) (.c (.p (.bool false)))),ag 2 8]
 .ret)),false⟩
def nF:cZ:=⟨9,[.tmp 2],
 (aj [aM 2 (.c (.p (.bool false)))]
 (aj [ag 3 0,aN 4 .geq (.t 3) (kI 0),ag 5 4,⟨some 6,.mv (.t 0) false,some (5,true)⟩,⟨some 7,.arith .leq (.t 6) (kI 64),some (5,true)⟩,ak 8 (.pick (.t 5) (.t 7) (.c (.p (.bool false)))),ag 2 8]
 .ret)),false⟩
def qg:cZ:=⟨26,[.tmp 6,.tmp 7],
 (aj [aM 6 (kI 0),aM 7 (kI 0)]
 (.seq (aj [ag 8 1,bW 9 gG [(.t 8)],ak 10 (.not (.t 9)),ag 11 10,⟨some 12,.mv (.t 0) false,some (11,false)⟩,⟨some 13,.arith .eql (.t 12) (kI 2),some (11,false)⟩,⟨some 14,.mv (.t 13) false,some (11,false)⟩,⟨some 15,.mv (.t 1) false,some (14,true)⟩,⟨some 16,.arith .gtr (.t 15) (kI 0),some (14,true)⟩,⟨some 17,.pick (.t 14) (.t 16) (.c (.p (.bool false))),some (11,false)⟩,⟨some 18,.mv (.t 17) false,some (11,false)⟩,⟨some 19,.mv (.t 2) false,some (18,true)⟩,⟨some 20,.mv (.t 1) false,some (18,true)⟩,⟨some 21,.arith .shr (.t 19) (.t 20),some (18,true)⟩,⟨some 22,.arith .neq (.t 21) (.c (.p (.int .u64 0))),some (18,true)⟩,⟨some 23,.pick (.t 18) (.t 22) (.c (.p (.bool false))),some (11,false)⟩,ak 24 (.pick (.t 11) (.c (.p (.bool true))) (.t 23))]
 (bq 24 (aj [aM 6 (kI 0),aM 7 (kI 3)]
 .ret) .skip))
 (aj [ag 25 1,ag 6 25,aM 7 (kI 0)]
 .ret))),false⟩
def ma:cZ:=⟨45,[.tmp 8,.tmp 9],
 (aj [aM 8 (kI 0),aM 9 (kI 0)]
 (.seq (aj [ag 10 1,aN 11 .lss (.t 10) (kI 1),ag 12 11,⟨some 13,.mv (.t 1) false,some (12,false)⟩,⟨some 14,.arith .gtr (.t 13) (kI 64),some (12,false)⟩,ak 15 (.pick (.t 12) (.c (.p (.bool true))) (.t 14)),ag 16 15,⟨some 17,.mv (.t 3) false,some (16,false)⟩,⟨some 18,.arith .lss (.t 17) (kI 1),some (16,false)⟩,ak 19 (.pick (.t 16) (.c (.p (.bool true))) (.t 18))]
 (bq 19 (aj [aM 8 (kI 0),aM 9 (kI 3)]
 .ret) .skip))
 (.seq (aj [ag 20 0,aN 21 .neq (.t 20) (kI 21),ag 22 21,⟨some 23,.mv (.t 1) false,some (22,true)⟩,⟨some 24,.mv (.t 3) false,some (22,true)⟩,⟨some 25,.arith .lss (.t 23) (.t 24),some (22,true)⟩,ak 26 (.pick (.t 22) (.t 25) (.c (.p (.bool false)))),ag 27 26,⟨some 28,.mv (.t 0) false,some (27,false)⟩,⟨some 29,.arith .eql (.t 28) (kI 21),some (27,false)⟩,⟨some 30,.mv (.t 29) false,some (27,false)⟩,⟨some 31,.mv (.t 1) false,some (30,true)⟩,⟨some 32,.mv (.t 3) false,some (30,true)⟩,⟨some 33,.arith .gtr (.t 31) (.t 32),some (30,true)⟩,⟨some 34,.mv (.t 33) false,some (30,true)⟩,⟨some 35,.mv (.t 2) false,some (34,false)⟩,⟨some 36,.mv (.t 3) false,some (34,false)⟩,⟨some 37,.mv (.t 1) false,some (34,false)⟩,⟨some 38,.arith .sub (.t 36) (.t 37),some (34,false)⟩,⟨some 39,.conv .u64 (.t 38),some (34,false)⟩,⟨some 40,.arith .gtr (.t 35) (.t 39),some (34,false)⟩,⟨some 41,.pick (.t 34) (.c (.p (.bool true))) (.t 40),some (30,true)⟩,⟨some 42,.pick (.t 30) (.t 41) (.c (.p (.bool false))),some (27,false)⟩,ak 43 (.pick (.t 27) (.c (.p (.bool true))) (.t 42))]
 (bq 43 (aj [aM 8 (kI 0),aM 9 (kI 3)]
 .ret) .skip))
 (aj [ag 44 1,ag 8 44,aM 9 (kI 0)]
 .ret)))),false⟩
def nE:cZ:=⟨9,[.tmp 4,.tmp 5],
 (aj [aM 4 (kI 0),aM 5 (kI 0)]
 (.seq (aj [ag 6 0,ak 7 (.not (.t 6))]
 (bq 7 (aj [aM 4 (kI 0),aM 5 (kI 3)]
 .ret) .skip))
 (aj [ag 8 1,ag 4 8,aM 5 (kI 0)]
 .ret))),false⟩
def nD:K :=
 (aj [aN 24 .lss (.t 23) (.t 22)]
 (.seq (bq 24 .skip (.exit 0))
 (.seq (.block 1 (aj [ak 25 (.aA 5 (.t 21) (.t 23)),cF 26 5 25,ak 9 (.init 5 true (.t 26) true)]
 (aj [cF 28 5 9,ag 29 1,ag 30 2,aN 31 .sub (.t 30) (kI 1),bW 32 iH [(.t 28),(.t 29),(.t 31)],ag 27 32,ak 33 (.extract (.t 27) 0),ak 34 (.extract (.t 27) 1),ag 10 33,ag 11 34]
 (.seq (aj [ag 35 11,ak 36 (.not (.t 35))]
 (bq 36 (aj [aM 6 (kI 0),aM 7 (.c (.p (.bool false)))]
 .ret) .skip))
 (.cX false [ag 37 10,ag 1 37])))))
 (.cX false [aN 38 .add (.t 23) (kI 1),ag 23 38]))))
def qx:K:=.loop [1,2,21,22,23] nD
def iz:cZ:=⟨40,[.tmp 6,.tmp 7],
 (aj [ak 3 (.box 5 true (.t 0) true),aM 6 (kI 0),aM 7 (.c (.p (.bool false)))]
 (.seq (aj [ag 12 1,aN 13 .lss (.t 12) (kI 1),ag 14 13,⟨some 15,.mv (.t 2) false,some (14,false)⟩,⟨some 16,.arith .lss (.t 15) (kI 1),some (14,false)⟩,ak 17 (.pick (.t 14) (.c (.p (.bool true))) (.t 16))]
 (bq 17 (aj [aM 6 (kI 0),aM 7 (.c (.p (.bool false)))]
 .ret) .skip))
 (aj [ag 18 1,aN 19 .sub (.t 18) (kI 1),ag 1 19]
 (.seq (aj [bG 20 4 3,bE 21 20,ak 22 (.bV (.t 21)),aM 23 (kI 0)]
 (.block 0 qx))
 (aj [ag 39 1,ag 6 39,aM 7 (.c (.p (.bool true)))]
 .ret))))),false⟩
def wM:cZ:=⟨4,[.tmp 2],
 (aj [ak 1 (.box 5 true (.t 0) true),aM 2 (.c (.p .w9))]
 (aj [ak 3 (.xx ju [(.t 1)]),ag 2 3]
 .ret)),false⟩
def gD:cZ:=⟨82,[.tmp 2],
 (aj [ak 1 (.box 5 true (.t 0) true),aM 2 (kI 0)]
 (.seq (.block 0 (.seq (.cX true [bG 6 0 1,bE 7 6,bW 8 eU [(.t 7)],aN 9 .lss (.t 8) (kI 0),ag 10 9,⟨some 11,.cQ 0 (.t 1),some (10,false)⟩,⟨some 12,.load 1 false (.t 11),some (10,false)⟩,⟨some 13,.dW gY [(.t 12)],some (10,false)⟩,ak 14 (.pick (.t 10) (.c (.p (.bool true))) (.t 13)),ag 15 14,⟨some 16,.cQ 4 (.t 1),some (15,false)⟩,⟨some 17,.load 1 false (.t 16),some (15,false)⟩,⟨some 18,.bV (.t 17),some (15,false)⟩,⟨some 19,.cQ 0 (.t 1),some (15,false)⟩,⟨some 20,.load 1 false (.t 19),some (15,false)⟩,⟨some 21,.dW eU [(.t 20)],some (15,false)⟩,⟨some 22,.arith .neq (.t 18) (.t 21),some (15,false)⟩,ak 23 (.pick (.t 15) (.c (.p (.bool true))) (.t 22)),ag 5 23])
 (bq 5 (aj [aM 2 (kI 4)]
 .ret) (aj [bG 25 0 1,bE 26 25,aN 27 .neq (.t 26) (kI 1),ag 28 27,⟨some 29,.cQ 3 (.t 1),some (28,true)⟩,⟨some 30,.load 1 false (.t 29),some (28,true)⟩,⟨some 31,.arith .neq (.t 30) (.c (.p (.str (bs [])))),some (28,true)⟩,ak 32 (.pick (.t 28) (.t 31) (.c (.p (.bool false)))),ag 24 32]
 (bq 24 (aj [aM 2 (kI 4)]
 .ret) (aj [bG 34 0 1,bE 35 34,aN 36 .neq (.t 35) (kI 2),ag 37 36,⟨some 38,.cQ 0 (.t 1),some (37,true)⟩,⟨some 39,.load 1 false (.t 38),some (37,true)⟩,⟨some 40,.arith .neq (.t 39) (kI 21),some (37,true)⟩,ak 41 (.pick (.t 37) (.t 40) (.c (.p (.bool false)))),ag 42 41,⟨some 43,.cQ 2 (.t 1),some (42,true)⟩,⟨some 44,.load 1 false (.t 43),some (42,true)⟩,⟨some 45,.arith .neq (.t 44) (.c (.p (.int .u64 0))),some (42,true)⟩,ak 46 (.pick (.t 42) (.t 45) (.c (.p (.bool false)))),ag 33 46]
 (bq 33 (aj [aM 2 (kI 4)]
 .ret) (aj [bG 48 0 1,bE 49 48,aN 50 .eql (.t 49) (kI 1),ag 51 50,⟨some 52,.cQ 3 (.t 1),some (51,true)⟩,⟨some 53,.load 1 false (.t 52),some (51,true)⟩,⟨some 54,.dW jG [(.t 53)],some (51,true)⟩,⟨some 55,.not (.t 54),some (51,true)⟩,ak 56 (.pick (.t 51) (.t 55) (.c (.p (.bool false)))),ag 47 56]
 (bq 47 (aj [aM 2 (kI 5)]
 .ret) (aj [bG 58 1 1,bE 59 58,aN 60 .lss (.t 59) (kI 1),ag 57 60]
 (bq 57 (aj [aM 2 (kI 3)]
 .ret) .skip)))))))))))
 (.seq (.seq (.cX true [bG 62 0 1,bE 63 62,bG 64 1 1,bE 65 64,bG 66 2 1,bE 67 66,bG 68 4 1,bE 69 68,bW 70 lP [(.t 69)],bW 71 fS [(.t 63),(.t 65),(.t 67),(.t 70)],ag 61 71,ak 72 (.extract (.t 61) 0),ak 73 (.extract (.t 61) 1),ag 3 72,ag 4 73])
 (aj [ag 74 4,aN 75 .neq (.t 74) (kI 0),ag 76 75,⟨some 77,.mv (.t 3) false,some (76,false)⟩,⟨some 78,.cQ 1 (.t 1),some (76,false)⟩,⟨some 79,.load 1 false (.t 78),some (76,false)⟩,⟨some 80,.arith .neq (.t 77) (.t 79),some (76,false)⟩,ak 81 (.pick (.t 76) (.c (.p (.bool true))) (.t 80))]
 (bq 81 (aj [aM 2 (kI 3)]
 .ret) .skip)))
 (aj [aM 2 (kI 0)]
 .ret)))),false⟩
def l5:K :=
 (aj [aN 15 .lss (.t 14) (.t 13)]
 (.seq (bq 15 .skip (.exit 0))
 (.seq (.block 1 (aj [ak 16 (.aA 5 (.t 12) (.t 14)),cF 17 5 16,ak 6 (.init 5 true (.t 17) true)]
 (aj [cF 18 5 6,ag 19 1,bW 20 jc [(.t 18),(.t 19)],ak 21 (.not (.t 20))]
 (bq 21 (aj [aM 4 (.c (.p (.bool false)))]
 .ret) .skip))))
 (.cX false [aN 22 .add (.t 14) (kI 1),ag 14 22]))))
def pK:K:=.loop [1,12,13,14] l5
def fg:cZ:=⟨23,[.tmp 4],
 (aj [ak 2 (.box 5 true (.t 0) true),aM 4 (.c (.p (.bool false)))]
 (.seq (aj [ag 7 1,cF 8 5 2,ak 9 (.ox (.t 7) [(.t 8)]),ak 10 (.not (.t 9))]
 (bq 10 (aj [aM 4 (.c (.p (.bool false)))]
 .ret) .skip))
 (.seq (aj [bG 11 4 2,bE 12 11,ak 13 (.bV (.t 12)),aM 14 (kI 0)]
 (.block 0 pK))
 (aj [aM 4 (.c (.p (.bool true)))]
 .ret)))),true⟩
def lC:cZ:=⟨23,[.tmp 3],
 (aj [ak 2 (.box 5 true (.t 0) true),aM 3 (.c (.p (.bool false)))]
 (aj [ak 5 (.xx dN [(.t 2)]),ag 4 5]
 (.seq (aj [bG 6 0 2,bE 7 6,aN 8 .eql (.t 7) (kI 1),ag 9 8,⟨some 10,.load 1 false (.t 1),some (9,true)⟩,⟨some 11,.mv (.t 4) false,some (9,true)⟩,⟨some 12,.dW bD [(.t 10),(.t 11)],some (9,true)⟩,⟨some 13,.not (.t 12),some (9,true)⟩,ak 14 (.pick (.t 9) (.t 13) (.c (.p (.bool false))))]
 (bq 14 (.cX false [bE 15 1,bG 16 3 2,bE 17 16,bG 18 1 2,bE 19 18,ak 20 (.build [(.p (.str (bs []))),(.p (.int .i64 0))] [(0,1,(.t 17)),(1,1,(.t 19))]),ak 21 (.fB 2 [(.p (.str (bs []))),(.p (.int .i64 0))] 1 [(0,2,(.t 20))]),ak 22 (.append 2 24 (.t 15) (.t 21)),⟨none,.store 1 (.t 1) (.t 22),none⟩]) .skip))
 (aj [aM 3 (.c (.p (.bool true)))]
 .ret)))),true⟩
def nJ:cZ:=⟨9,[.tmp 3],
 (aj [ak 2 (.box 2 true (.t 0) true),aM 3 (.c (.p (.bool false)))]
 (aj [bG 4 0 2,bE 5 4,bG 6 3 1,bE 7 6,aN 8 .eql (.t 5) (.t 7),ag 3 8]
 .ret)),false⟩
def bR:cZ:=⟨9,[.tmp 4],
 (aj [aM 4 (.c (.p (.bool false)))]
 (aj [ag 5 0,ag 6 1,bW 7 bu [(.t 5),(.t 6)],aN 8 .geq (.t 7) (kI 0),ag 4 8]
 .ret)),false⟩
def CR:cZ:=⟨10,[.tmp 4],
 (aj [ak 2 (.box 2 true (.t 0) true),ak 3 (.box 2 true (.t 1) true),aM 4 (kI 0)]
 (aj [bG 5 0 2,bE 6 5,bG 7 0 3,bE 8 7,bW 9 eQ [(.t 6),(.t 8)],ag 4 9]
 .ret)),false⟩
def wK:cZ:=⟨6,[.tmp 2],
 (aj [aM 2 (.c (.p (.bool false)))]
 (aj [ag 3 0,ag 4 0,aN 5 .neq (.t 3) (.t 4),ag 2 5]
 .ret)),false⟩
def Ak:cZ:=⟨6,[.tmp 2],
 (aj [aM 2 (.c (.p (.bool false)))]
 (aj [ag 3 0,ag 4 0,aN 5 .neq (.t 3) (.t 4),ag 2 5]
 .ret)),false⟩
def tP:K :=
 (aj [aN 23 .lss (.t 22) (.t 21)]
 (.seq (bq 23 .skip (.exit 0))
 (.seq (.block 1 (aj [ak 24 (.aA 5 (.t 20) (.t 22)),cF 25 5 24,ak 8 (.init 5 true (.t 25) true)]
 (.cX true [ag 26 6,bG 27 1 8,bE 28 27,cF 29 5 8,ag 30 1,bW 31 kX [(.t 29),(.t 30)],ak 32 (.build [(.p (.int .i64 0)),(.p (.int .u64 0))] [(0,1,(.t 28)),(1,1,(.t 31))]),ak 33 (.fB 2 [(.p (.int .i64 0)),(.p (.int .u64 0))] 1 [(0,2,(.t 32))]),ak 34 (.append 2 16 (.t 26) (.t 33)),ak 6 (.mv (.t 34) true)])))
 (.cX false [aN 35 .add (.t 22) (kI 1),ag 22 35]))))
def yj:K:=.loop [1,2,6,20,21,22] tP
def pE:cZ:=⟨44,[.tmp 4],
 (aj [ak 2 (.box 5 true (.t 0) true),aM 4 (.c (.p (.int .u64 0)))]
 (.seq (aj [bG 9 0 2,bE 10 9,aN 11 .eql (.t 10) (kI 1)]
 (bq 11 (.seq (.CO [bG 12 1 2,bE 13 12,ag 14 1,cF 15 5 2,ak 16 (.ox (.t 14) [(.t 15)]),bW 17 bJ [(.t 13),(.t 16)],ag 4 17] [(1,4)])
 .ret) .skip))
 (aj [ak 5 (.alloc [(.p (.int .i64 0)),(.p (.int .u64 0)),(.p (.int .i64 0)),(.p (.int .u64 0)),(.p (.int .i64 0)),(.p (.int .u64 0))] 6)]
 (aj [ak 18 (.Z2 3 2 (.t 5) none (some (kI 0)) none),ak 6 (.mv (.t 18) true)]
 (.seq (aj [bG 19 4 2,bE 20 19,ak 21 (.bV (.t 20)),aM 22 (kI 0)]
 (.block 0 yj))
 (aj [bG 36 0 2,bE 37 36,bG 38 1 2,bE 39 38,bG 40 2 2,bE 41 40,ag 42 6,bW 43 ep [(.t 37),(.t 39),(.t 41),(.t 42)],ag 4 43]
 .ret)))))),false⟩
def oF:cZ:=⟨16,[.tmp 5],
 (aj [ak 4 (.box 5 true (.t 0) true),aM 5 (.c (.p (.int .u64 0)))]
 (.seq (.cX true [bE 6 1,ak 7 (.conv .u64 (.t 6)),bE 8 2,bE 9 3,bG 10 3 4,bE 11 10,ak 12 (.lookup .str (.p (.int .i64 0)) (.t 9) (.t 11) false),ak 13 (.aA 1 (.t 8) (.t 12)),bE 14 13,aN 15 .shr (.t 7) (.t 14),ag 5 15])
 .ret)),false⟩
def de:cZ:=⟨8,[.tmp 4],
 (aj [aM 4 (kI 0)]
 (aj [ag 5 0,ag 6 1,bW 7 dJ [(.t 5),(.t 6)],ag 4 7]
 .ret)),false⟩
def dv:cZ:=⟨9,[.tmp 4],
 (aj [aM 4 (.c (.p (.bool false)))]
 (aj [ag 5 0,ag 6 1,bW 7 cB [(.t 5),(.t 6)],aN 8 .geq (.t 7) (kI 0),ag 4 8]
 .ret)),false⟩
def rJ:cZ:=⟨6,[.tmp 2],
 (aj [aM 2 (kI 0)]
 (aj [ag 3 0,ak 4 (.tv true [(.t 3),(kI 1)]),ak 5 (.tv false [(.t 4),(kI 64)]),ag 2 5]
 .ret)),false⟩
def rP:cZ:=⟨6,[],
 (aj [ak 2 (.box 1 false (.t 0) true)]
 (.cX false [cF 3 5 1,ak 4 (.xx gi [(.t 2)]),bW 5 hU [(.t 3),(.t 4)]])),true⟩
def kK:K :=
 (aj [aN 11 .lss (.t 10) (.t 9)]
 (.seq (bq 11 .skip (.exit 0))
 (.seq (.block 1 (aj [ak 12 (.aA 5 (.t 8) (.t 10)),cF 13 5 12,ak 6 (.init 5 true (.t 13) true)]
 (aj [cF 14 5 6,ag 15 1,bW 16 hU [(.t 14),(.t 15)],ak 17 (.not (.t 16))]
 (bq 17 (aj [aM 4 (.c (.p (.bool false)))]
 .ret) .skip))))
 (.cX false [aN 18 .add (.t 10) (kI 1),ag 10 18]))))
def ow:K:=.loop [1,2,8,9,10] kK
def gW:cZ:=⟨22,[.tmp 4],
 (aj [ak 2 (.box 5 true (.t 0) true),aM 4 (.c (.p (.bool false)))]
 (.seq (aj [bG 7 4 2,bE 8 7,ak 9 (.bV (.t 8)),aM 10 (kI 0)]
 (.block 0 ow))
 (aj [ag 19 1,cF 20 5 2,ak 21 (.ox (.t 19) [(.t 20)]),ag 4 21]
 .ret))),true⟩
def oQ:cZ:=⟨8,[.tmp 3],
 (aj [ak 2 (.box 5 true (.t 0) true),aM 3 (.c (.p (.bool false)))]
 (.seq (.cX true [bE 4 1,cF 5 5 2,bW 6 iG [(.t 5)],ak 7 (.ox (.t 4) [(.t 6)]),ag 3 7])
 .ret)),true⟩
def l9:cZ:=⟨9,[.tmp 2],
 (aj [aM 2 (.c (.p (.bool false)))]
 (aj [ag 3 0,aN 4 .geq (.t 3) (kI 24),ag 5 4,⟨some 6,.mv (.t 0) false,some (5,true)⟩,⟨some 7,.arith .leq (.t 6) (kI 26),some (5,true)⟩,ak 8 (.pick (.t 5) (.t 7) (.c (.p (.bool false)))),ag 2 8]
 .ret)),false⟩
def rH:K :=
 (aj [aN 12 .lss (.t 11) (.t 10)]
 (.seq (bq 12 .skip (.exit 0))
 (.seq (.block 1 (aj [ag 13 11,ak 14 (.aA 5 (.t 9) (.t 11)),cF 15 5 14,ak 5 (.alloc qo 5),ag 4 13,⟨none,.store 5 (.t 5) (.t 15),none⟩]
 (.cX false [ag 16 3,ag 17 4,bG 18 1 5,bE 19 18,ak 20 (.aA 1 (.t 16) (.t 17)),⟨none,.store 1 (.t 20) (.t 19),none⟩])))
 (.cX false [aN 21 .add (.t 11) (kI 1),ag 11 21]))))
def wN:K:=.loop [3,9,10,11] rH
def qi:cZ:=⟨23,[.tmp 2],
 (aj [aM 2 (.c .aF)]
 (aj [ag 6 0,ak 7 (.bV (.t 6)),ak 8 (.uh 1 8 [(.p (.int .i64 0))] (.t 7) (.t 7)),ag 3 8]
 (.seq (aj [ag 9 0,ak 10 (.bV (.t 9)),aM 11 (kI 0)]
 (.block 0 wN))
 (aj [ag 22 3,ag 2 22]
 .ret)))),false⟩
def cJ:K :=
 (aj [aN 9 .lss (.t 8) (.t 7)]
 (.seq (bq 9 .skip (.exit 0))
 (.seq (.block 1 (aj [ag 10 8,ag 5 10]
 (aj [ag 11 1,ag 12 0,ag 13 5,ak 14 (.aA 2 (.t 12) (.t 13)),cF 15 2 14,ak 16 (.ox (.t 11) [(.t 15)])]
 (bq 16 (aj [ag 17 5,ag 4 17]
 .ret) .skip))))
 (.cX false [aN 18 .add (.t 8) (kI 1),ag 8 18]))))
def dH:K:=.loop [0,1,7,8] cJ
def cd:cZ:=⟨19,[.tmp 4],
 (aj [aM 4 (kI 0)]
 (.seq (aj [ag 6 0,ak 7 (.bV (.t 6)),aM 8 (kI 0)]
 (.block 0 dH))
 (aj [aM 4 (kI (-1))]
 .ret))),false⟩
def dd:cZ:=⟨105,[.tmp 8],
 (aj [aM 8 (.c (.p (.int .u64 0)))]
 (.seq (aj [ag 9 0]
 (.block 0 (aj [aN 11 .eql (.t 9) (kI 2),ag 10 11]
 (bq 10 (aj [ag 12 2,ag 8 12]
 .ret) (aj [aN 14 .eql (.t 9) (kI 3),ag 13 14]
 (bq 13 (aj [ag 15 1,ag 16 3,ak 17 (.aA 2 (.t 16) (kI 0)),bG 18 1 17,bE 19 18,bW 20 qT [(.t 15),(.t 19)],ag 8 20]
 .ret) (aj [aN 22 .eql (.t 9) (kI 4),ag 21 22]
 (bq 21 (aj [ag 23 1,ag 24 3,ak 25 (.aA 2 (.t 24) (kI 0)),bG 26 1 25,bE 27 26,bW 28 qS [(.t 23),(.t 27)],ag 8 28]
 .ret) (aj [aN 30 .eql (.t 9) (kI 19),ag 29 30]
 (bq 29 (.seq (aj [ag 31 3,ak 32 (.aA 2 (.t 31) (kI 0)),bG 33 1 32,bE 34 33,aN 35 .eql (.t 34) (.c (.p (.int .u64 1)))]
 (bq 35 (aj [ag 36 3,ak 37 (.aA 2 (.t 36) (kI 1)),bG 38 1 37,bE 39 38,ag 8 39]
 .ret) .skip))
 (aj [ag 40 3,ak 41 (.aA 2 (.t 40) (kI 2)),bG 42 1 41,bE 43 42,ag 8 43]
 .ret)) (aj [aN 45 .eql (.t 9) (kI 20),ag 44 45]
 (bq 44 (.seq (.cX true [ag 46 3,ak 47 (.aA 2 (.t 46) (kI 0)),bG 48 0 47,bE 49 48,ag 50 3,ak 51 (.aA 2 (.t 50) (kI 1)),bG 52 0 51,bE 53 52,ag 54 3,ak 55 (.aA 2 (.t 54) (kI 0)),bG 56 1 55,bE 57 56,ag 58 3,ak 59 (.aA 2 (.t 58) (kI 1)),bG 60 1 59,bE 61 60,bW 62 lG [(.t 49),(.t 53),(.t 57),(.t 61)],ag 8 62])
 .ret) (aj [aN 64 .eql (.t 9) (kI 21),ag 63 64]
 (bq 63 (aj [ag 65 2,ak 66 (.conv .i64 (.t 65)),ag 67 1,ag 68 3,ak 69 (.aA 2 (.t 68) (kI 0)),bG 70 1 69,bE 71 70,bW 72 jZ [(.t 66),(.t 67),(.t 71)],ag 8 72]
 .ret) (aj [aN 74 .eql (.t 9) (kI 22),ag 73 74]
 (bq 73 (aj [ag 75 3,ak 76 (.aA 2 (.t 75) (kI 0)),bG 77 1 76,bE 78 77,ag 8 78]
 .ret) (aj [aN 80 .eql (.t 9) (kI 23),ag 79 80]
 (bq 79 (.seq (.cX true [ag 81 3,ak 82 (.aA 2 (.t 81) (kI 0)),bG 83 0 82,bE 84 83,ag 85 1,ag 86 3,ak 87 (.aA 2 (.t 86) (kI 0)),bG 88 1 87,bE 89 88,bW 90 oY [(.t 84),(.t 85),(.t 89)],ag 8 90])
 .ret) .skip))))))))))))))))))
 (.seq (.cX true [ag 91 0,ag 92 3,ak 93 (.aA 2 (.t 92) (kI 0)),bG 94 0 93,bE 95 94,ag 96 3,ak 97 (.aA 2 (.t 96) (kI 0)),bG 98 1 97,bE 99 98,ag 100 3,ak 101 (.aA 2 (.t 100) (kI 1)),bG 102 1 101,bE 103 102,bW 104 lH [(.t 91),(.t 95),(.t 99),(.t 103)],ag 8 104])
 .ret))),false⟩
def eM:K :=
 (aj [aN 9 .lss (.t 8) (.t 7)]
 (.seq (bq 9 .skip (.exit 0))
 (.seq (.block 1 (aj [ag 10 8,ag 5 10]
 (aj [ag 11 1,ag 12 0,ag 13 5,ak 14 (.aA 1 (.t 12) (.t 13)),bE 15 14,aN 16 .eql (.t 11) (.t 15)]
 (bq 16 (aj [ag 17 5,ag 4 17]
 .ret) .skip))))
 (.cX false [aN 18 .add (.t 8) (kI 1),ag 8 18]))))
def eO:K:=.loop [0,1,7,8] eM
def cY:cZ:=⟨19,[.tmp 4],
 (aj [aM 4 (kI 0)]
 (.seq (aj [ag 6 0,ak 7 (.bV (.t 6)),aM 8 (kI 0)]
 (.block 0 eO))
 (aj [aM 4 (kI (-1))]
 .ret))),false⟩
def wE:cZ:=⟨9,[.tmp 4],
 (aj [aM 4 (.c (.p (.int .u64 0)))]
 (aj [ag 5 0,ag 6 1,ak 7 (.Hb (.t 6)),bW 8 bJ [(.t 5),(.t 7)],ag 4 8]
 .ret)),false⟩
def wD:cZ:=⟨9,[.tmp 4],
 (aj [aM 4 (.c (.p (.int .u64 0)))]
 (aj [ag 5 0,ag 6 1,ak 7 (.neg (.t 6)),bW 8 bJ [(.t 5),(.t 7)],ag 4 8]
 .ret)),false⟩
def qd:cZ:=⟨19,[.tmp 8],
 (aj [aM 8 (.c (.p (.int .u64 0)))]
 (.seq (.cX true [ag 9 0,ag 10 2,bW 11 bJ [(.t 9),(.t 10)],ag 12 1,bW 13 fP [(.t 12)],aN 14 .shl (.t 11) (.t 13),ag 15 1,ag 16 3,bW 17 bJ [(.t 15),(.t 16)],aN 18 .or (.t 14) (.t 17),ag 8 18])
 .ret)),false⟩
def l6:cZ:=⟨14,[.tmp 6],
 (aj [aM 6 (.c (.p (.int .u64 0)))]
 (.seq (aj [ag 7 0,aN 8 .lss (.t 7) (kI 0)]
 (bq 8 (aj [aM 6 (.c (.p (.int .u64 0)))]
 .ret) .skip))
 (aj [ag 9 1,ag 10 2,ag 11 0,aN 12 .shr (.t 10) (.t 11),bW 13 bJ [(.t 9),(.t 12)],ag 6 13]
 .ret))),false⟩
def uw:cZ:=⟨13,[.tmp 6],
 (aj [aM 6 (.c (.p (.int .u64 0)))]
 (aj [ag 7 1,ag 8 0,ag 9 2,bW 10 eS [(.t 8),(.t 9)],ak 11 (.conv .u64 (.t 10)),bW 12 bJ [(.t 7),(.t 11)],ag 6 12]
 .ret)),false⟩
def ck:cZ:=⟨95,[.tmp 8],
 (aj [aM 8 (.c (.p (.int .u64 0)))]
 (.seq (aj [ag 9 0]
 (.block 0 (aj [aN 11 .eql (.t 9) (kI 5),ag 10 11]
 (bq 10 (aj [ag 12 1,ag 13 2,ag 14 3,bW 15 qQ [(.t 12),(.t 13),(.t 14)],ag 8 15]
 .ret) (aj [aN 17 .eql (.t 9) (kI 6),ag 16 17]
 (bq 16 (aj [ag 18 1,ag 19 2,ag 20 3,bW 21 tk [(.t 18),(.t 19),(.t 20)],ag 8 21]
 .ret) (aj [aN 23 .eql (.t 9) (kI 7),ag 22 23]
 (bq 22 (aj [ag 24 1,ag 25 2,ag 26 3,bW 27 qY [(.t 24),(.t 25),(.t 26)],ag 8 27]
 .ret) (aj [aN 29 .eql (.t 9) (kI 8),ag 28 29]
 (bq 28 (aj [ag 30 1,ag 31 2,ag 32 3,bW 33 qP [(.t 30),(.t 31),(.t 32)],ag 8 33]
 .ret) (aj [aN 35 .eql (.t 9) (kI 9),ag 34 35]
 (bq 34 (aj [ag 36 1,ag 37 2,ag 38 3,bW 39 qW [(.t 36),(.t 37),(.t 38)],ag 8 39]
 .ret) (aj [aN 41 .eql (.t 9) (kI 10),ag 40 41]
 (bq 40 (aj [ag 42 1,ag 43 2,ag 44 3,bW 45 qR [(.t 42),(.t 43),(.t 44)],ag 8 45]
 .ret) (aj [aN 47 .eql (.t 9) (kI 11),ag 46 47]
 (bq 46 (aj [ag 48 1,ag 49 2,ag 50 3,bW 51 oZ [(.t 48),(.t 49),(.t 50)],ag 8 51]
 .ret) (aj [aN 53 .eql (.t 9) (kI 12),ag 52 53]
 (bq 52 (aj [ag 54 1,ag 55 2,ag 56 3,bW 57 o6 [(.t 54),(.t 55),(.t 56)],ag 8 57]
 .ret) (aj [aN 59 .eql (.t 9) (kI 13),ag 58 59]
 (bq 58 (aj [ag 60 1,ag 61 2,ag 62 3,bW 63 qU [(.t 60),(.t 61),(.t 62)],ag 8 63]
 .ret) (aj [aN 65 .eql (.t 9) (kI 14),ag 64 65]
 (bq 64 (aj [ag 66 1,ag 67 2,ag 68 3,bW 69 oX [(.t 66),(.t 67),(.t 68)],ag 8 69]
 .ret) (aj [aN 71 .eql (.t 9) (kI 15),ag 70 71]
 (bq 70 (aj [ag 72 1,ag 73 2,ag 74 3,bW 75 oW [(.t 72),(.t 73),(.t 74)],ag 8 75]
 .ret) (aj [aN 77 .eql (.t 9) (kI 16),ag 76 77]
 (bq 76 (.seq (aj [ag 78 1,ag 79 2,bW 80 mN [(.t 78),(.t 79)],ag 81 1,ag 82 3,bW 83 mN [(.t 81),(.t 82)],ak 84 (.UD false [.int,.int] (.t 80) (.t 83))]
 (bq 84 (aj [aM 8 (.c (.p (.int .u64 1)))]
 .ret) .skip))
 (aj [aM 8 (.c (.p (.int .u64 0)))]
 .ret)) (aj [aN 86 .eql (.t 9) (kI 17),ag 85 86]
 (bq 85 (aj [ag 87 1,ag 88 2,ag 89 3,bW 90 qX [(.t 87),(.t 88),(.t 89)],ag 8 90]
 .ret) .skip))))))))))))))))))))))))))))
 (aj [ag 91 1,ag 92 2,ag 93 3,bW 94 qV [(.t 91),(.t 92),(.t 93)],ag 8 94]
 .ret))),false⟩
def qe:cZ:=⟨15,[.tmp 4],
 (aj [aM 4 (kI 0)]
 (aj [ag 6 0,bW 7 fP [(.t 6)],aN 8 .sub (kI 64) (.t 7),ag 5 8]
 (aj [ag 9 1,ag 10 5,aN 11 .shl (.t 9) (.t 10),ak 12 (.conv .i64 (.t 11)),ag 13 5,aN 14 .shr (.t 12) (.t 13),ag 4 14]
 .ret))),false⟩
def wA:cZ:=⟨12,[.tmp 6],
 (aj [aM 6 (.c (.p (.int .u64 0)))]
 (aj [ag 7 0,ag 8 1,ag 9 2,aN 10 .and (.t 8) (.t 9),bW 11 bJ [(.t 7),(.t 10)],ag 6 11]
 .ret)),false⟩
def yG:cZ:=⟨12,[.tmp 6],
 (aj [aM 6 (.c (.p (.int .u64 0)))]
 (aj [ag 7 0,ag 8 1,ag 9 2,aN 10 .or (.t 8) (.t 9),bW 11 bJ [(.t 7),(.t 10)],ag 6 11]
 .ret)),false⟩
def wJ:cZ:=⟨12,[.tmp 6],
 (aj [aM 6 (.c (.p (.int .u64 0)))]
 (aj [ag 7 0,ag 8 1,ag 9 2,aN 10 .xor (.t 8) (.t 9),bW 11 bJ [(.t 7),(.t 10)],ag 6 11]
 .ret)),false⟩
def wz:cZ:=⟨12,[.tmp 6],
 (aj [aM 6 (.c (.p (.int .u64 0)))]
 (aj [ag 7 0,ag 8 1,ag 9 2,aN 10 .add (.t 8) (.t 9),bW 11 bJ [(.t 7),(.t 10)],ag 6 11]
 .ret)),false⟩
def wH:cZ:=⟨12,[.tmp 6],
 (aj [aM 6 (.c (.p (.int .u64 0)))]
 (aj [ag 7 0,ag 8 1,ag 9 2,aN 10 .sub (.t 8) (.t 9),bW 11 bJ [(.t 7),(.t 10)],ag 6 11]
 .ret)),false⟩
def wC:cZ:=⟨12,[.tmp 6],
 (aj [aM 6 (.c (.p (.int .u64 0)))]
 (aj [ag 7 0,ag 8 1,ag 9 2,aN 10 .mul (.t 8) (.t 9),bW 11 bJ [(.t 7),(.t 10)],ag 6 11]
 .ret)),false⟩
def rf:cZ:=⟨22,[.tmp 6],
 (aj [aM 6 (.c (.p (.int .u64 0)))]
 (aj [ag 9 0,ag 10 1,bW 11 bJ [(.t 9),(.t 10)],ag 12 0,ag 13 2,bW 14 bJ [(.t 12),(.t 13)],ag 7 11,ag 8 14]
 (.seq (aj [ag 15 8,aN 16 .eql (.t 15) (.c (.p (.int .u64 0)))]
 (bq 16 (aj [ag 17 0,bW 18 jC [(.t 17)],ag 6 18]
 .ret) .skip))
 (aj [ag 19 7,ag 20 8,aN 21 .quo (.t 19) (.t 20),ag 6 21]
 .ret)))),false⟩
def rh:cZ:=⟨21,[.tmp 6],
 (aj [aM 6 (.c (.p (.int .u64 0)))]
 (aj [ag 9 0,ag 10 1,bW 11 bJ [(.t 9),(.t 10)],ag 12 0,ag 13 2,bW 14 bJ [(.t 12),(.t 13)],ag 7 11,ag 8 14]
 (.seq (aj [ag 15 8,aN 16 .eql (.t 15) (.c (.p (.int .u64 0)))]
 (bq 16 (aj [ag 17 7,ag 6 17]
 .ret) .skip))
 (aj [ag 18 7,ag 19 8,aN 20 .rem (.t 18) (.t 19),ag 6 20]
 .ret)))),false⟩
def wF:cZ:=⟨11,[.tmp 6],
 (aj [aM 6 (.c (.p (.int .u64 0)))]
 (aj [ag 7 0,ag 8 1,ag 9 2,bW 10 fQ [(kI 0),(.t 7),(.t 8),(.t 9)],ag 6 10]
 .ret)),false⟩
def uu:cZ:=⟨11,[.tmp 6],
 (aj [aM 6 (.c (.p (.int .u64 0)))]
 (aj [ag 7 0,ag 8 1,ag 9 2,bW 10 fQ [(kI 1),(.t 7),(.t 8),(.t 9)],ag 6 10]
 .ret)),false⟩
def ur:cZ:=⟨11,[.tmp 6],
 (aj [aM 6 (.c (.p (.int .u64 0)))]
 (aj [ag 7 0,ag 8 1,ag 9 2,bW 10 fQ [(kI 2),(.t 7),(.t 8),(.t 9)],ag 6 10]
 .ret)),false⟩
def uz:cZ:=⟨10,[.cell 4 2 true],
 (aj [ak 4 (.alloc [(.p (.int .i64 0)),(.p (.int .u64 0))] 2)]
 (aj [ag 5 0,ag 6 0,ag 7 1,bW 8 bJ [(.t 6),(.t 7)],ak 9 (.build [(.p (.int .i64 0)),(.p (.int .u64 0))] [(0,1,(.t 5)),(1,1,(.t 8))]),⟨none,.store 2 (.t 4) (.t 9),none⟩]
 .ret)),false⟩
def wI:cZ:=⟨15,[.tmp 6],
 (aj [aM 6 (.c (.p (.int .u64 0)))]
 (aj [ag 7 0,ag 8 1,bW 9 bJ [(.t 7),(.t 8)],ag 10 0,ag 11 2,bW 12 bJ [(.t 10),(.t 11)],aN 13 .lss (.t 9) (.t 12),bW 14 mM [(.t 13)],ag 6 14]
 .ret)),false⟩
def wG:cZ:=⟨15,[.tmp 6],
 (aj [aM 6 (.c (.p (.int .u64 0)))]
 (aj [ag 7 0,ag 8 1,bW 9 eS [(.t 7),(.t 8)],ag 10 0,ag 11 2,bW 12 eS [(.t 10),(.t 11)],aN 13 .lss (.t 9) (.t 12),bW 14 mM [(.t 13)],ag 6 14]
 .ret)),false⟩
def fe:cZ:=⟨53,[.tmp 8],
 (aj [aM 8 (.c (.p (.int .u64 0)))]
 (aj [ag 12 1,ag 13 2,bW 14 bJ [(.t 12),(.t 13)],ag 15 1,ag 16 3,bW 17 bJ [(.t 15),(.t 16)],ag 9 14,ag 10 17]
 (aj [ag 18 10,ag 19 1,bW 20 fP [(.t 19)],ak 21 (.conv .u64 (.t 20)),aN 22 .geq (.t 18) (.t 21),ag 11 22]
 (.seq (aj [ag 23 0]
 (.block 0 (.seq (.block 2 (.seq (.block 1 (.seq (.seq (aj [aN 25 .eql (.t 23) (kI 2),ag 24 25]
 (bq 24 (.exit 1) .skip))
 (aj [aN 27 .eql (.t 23) (kI 1),ag 26 27]
 (bq 26 (.exit 2) .skip)))
 (.exit 0)))
 (aj [ag 28 1,ag 29 9,bW 30 eS [(.t 28),(.t 29)],aN 31 .lss (.t 30) (kI 0)]
 (bq 31 (.seq (aj [ag 32 11]
 (bq 32 (aj [ag 33 1,bW 34 jC [(.t 33)],ag 8 34]
 .ret) .skip))
 (aj [ag 35 1,ag 36 1,ag 37 9,bW 38 eS [(.t 36),(.t 37)],ag 39 10,aN 40 .shr (.t 38) (.t 39),ak 41 (.conv .u64 (.t 40)),bW 42 bJ [(.t 35),(.t 41)],ag 8 42]
 .ret)) .skip))))
 (.seq (.seq (aj [ag 43 11]
 (bq 43 (aj [aM 8 (.c (.p (.int .u64 0)))]
 .ret) .skip))
 (aj [ag 44 9,ag 45 10,aN 46 .shr (.t 44) (.t 45),ag 8 46]
 .ret))
 (.exit 0)))))
 (.seq (aj [ag 47 11]
 (bq 47 (aj [aM 8 (.c (.p (.int .u64 0)))]
 .ret) .skip))
 (aj [ag 48 1,ag 49 9,ag 50 10,aN 51 .shl (.t 49) (.t 50),bW 52 bJ [(.t 48),(.t 51)],ag 8 52]
 .ret)))))),false⟩
def ux:cZ:=⟨4,[.tmp 2],
 (aj [aM 2 (.c (.p (.int .u64 0)))]
 (.seq (aj [ag 3 0]
 (bq 3 (aj [aM 2 (.c (.p (.int .u64 1)))]
 .ret) .skip))
 (aj [aM 2 (.c (.p (.int .u64 0)))]
 .ret))),false⟩
def tbl:List (FuncId×cZ):=[
 (iN,fK),
 (mP,mI),
 (jE,qf),
 (kZ,pF),
 (tl,nU),
 (q5,lA),
 (er,oP),
 (ja,nH),
 (lL,lz),
 (iZ,mZ),
 (lM,nT),
 (nu,nc),
 (ft,eD),
 (pf,uB),
 (lN,jA),
 (nr,kP),
 (pg,mJ),
 (iE,oK),
 (js,rN),
 (k6,uC),
 (iF,jV),
 (o8,ri),
 (iq,rM),
 (fU,mc),
 (gJ,uE),
 (jG,jB),
 (eV,iy),
 (fV,oL),
 (nw,pG),
 (fW,oM),
 (nx,nd),
 (fX,oN),
 (ez,eu),
 (fY,me),
 (k7,kQ),
 (fZ,mf),
 (gh,oO),
 (lO,nW),
 (ir,kN),
 (qZ,oG),
 (hJ,gV),
 (aQ,a8),
 (jb,nI),
 (eP,kO),
 (bM,gr),
 (mQ,uD),
 (fR,rK),
 (q6,wL),
 (jF,nS),
 (gF,ff),
 (o9,s9),
 (et,kS),
 (aK,aI),
 (iu,nV),
 (aE,aD),
 (iv,lB),
 (gH,nG),
 (jt,rO),
 (iD,oI),
 (iG,uF),
 (mO,mH),
 (j6,dC),
 (mR,uG),
 (k9,rQ),
 (gI,kD),
 (dn,jT),
 (dp,jU),
 (a6,cm),
 (lI,bN),
 (fT,oJ),
 (kY,jq),
 (aP,bk),
 (jD,uA),
 (j3,iw),
 (dh,kL),
 (fp,l7),
 (dY,gQ),
 (np,nb),
 (aL,aJ),
 (dX,jh),
 (j5,br),
 (b6,ix),
 (iY,gC),
 (bP,cL),
 (nk,kM),
 (iC,jS),
 (bJ,wB),
 (fS,dB),
 (fq,mb),
 (k8,nf),
 (mS,uH),
 (cM,yH),
 (zJ,D9),
 (o7,uy),
 (sd,xD),
 (kW,ik),
 (b8,ef),
 (bO,eF),
 (aS,aR),
 (cz,gR),
 (eQ,kR),
 (eU,l8),
 (lK,qh),
 (nn,rL),
 (jC,uv),
 (j4,oH),
 (gG,nF),
 (lJ,qg),
 (gZ,ma),
 (ew,nE),
 (iH,iz),
 (q7,wM),
 (ph,gD),
 (jc,fg),
 (fH,lC),
 (dN,nJ),
 (bD,bR),
 (dI,CR),
 (nj,wK),
 (qC,Ak),
 (kX,pE),
 (eT,oF),
 (bT,de),
 (b7,dv),
 (fP,rJ),
 (ju,rP),
 (hU,gW),
 (gi,oQ),
 (gY,l9),
 (lP,qi),
 (bu,cd),
 (ep,dd),
 (cB,cY),
 (qT,wE),
 (qS,wD),
 (lG,qd),
 (jZ,l6),
 (oY,uw),
 (lH,ck),
 (eS,qe),
 (qQ,wA),
 (tk,yG),
 (qY,wJ),
 (qP,wz),
 (qW,wH),
 (qR,wC),
 (oZ,rf),
 (o6,rh),
 (qU,wF),
 (oX,uu),
 (oW,ur),
 (mN,uz),
 (qX,wI),
 (qV,wG),
 (fQ,fe),
 (mM,ux)]
def P:Prog:={ fn:=fun f=>tbl.lookup f,Qg:=fun f=>if f=di then some (wk)else if f=a7 then some (wm dI cM)else if f=cy then some (uX 2 V7)else if f=bK then some (Cv 2 24)else if f=dJ then some (BT uY)else none }
theorem Ff:P.fn iN=some fK:=rfl
theorem HF:P.fn mP=some mI:=rfl
theorem Dg:P.fn jE=some qf:=rfl
theorem Fl:P.fn kZ=some pF:=rfl
theorem OH:P.fn tl=some nU:=rfl
theorem Lk:P.fn q5=some lA:=rfl
theorem BP:P.fn er=some oP:=rfl
theorem Ax:P.fn ja=some nH:=rfl
theorem Dj:P.fn lL=some lz:=rfl
theorem Li:P.fn iZ=some mZ:=rfl
theorem Dl:P.fn lM=some nT:=rfl
theorem Fo:P.fn nu=some nc:=rfl
theorem zd:P.fn ft=some eD:=rfl
theorem HG:P.fn pf=some uB:=rfl
theorem Dp:P.fn lN=some jA:=rfl
theorem Fk:P.fn nr=some kP:=rfl
theorem HJ:P.fn pg=some mJ:=rfl
theorem BG:P.fn iE=some oK:=rfl
theorem Fm:P.fn js=some rN:=rfl
theorem HI:P.fn k6=some uC:=rfl
theorem sn:P.fn iF=some jV:=rfl
theorem HC:P.fn o8=some ri:=rfl
theorem Fg:P.fn iq=some rM:=rfl
theorem BH:P.fn fU=some mc:=rfl
theorem HL:P.fn gJ=some uE:=rfl
theorem HN:P.fn jG=some jB:=rfl
theorem BI:P.fn eV=some iy:=rfl
theorem BJ:P.fn fV=some oL:=rfl
theorem Fp:P.fn nw=some pG:=rfl
theorem BK:P.fn fW=some oM:=rfl
theorem Fs:P.fn nx=some nd:=rfl
theorem BL:P.fn fX=some oN:=rfl
theorem Au:P.fn ez=some eu:=rfl
theorem BM:P.fn fY=some me:=rfl
theorem Fq:P.fn k7=some kQ:=rfl
theorem BN:P.fn fZ=some mf:=rfl
theorem BO:P.fn gh=some oO:=rfl
theorem Dq:P.fn lO=some nW:=rfl
theorem Fh:P.fn ir=some kN:=rfl
theorem Lh:P.fn qZ=some oG:=rfl
theorem zc:P.fn hJ=some gV:=rfl
theorem ic:P.fn aQ=some a8:=rfl
theorem Ay:P.fn jb=some nI:=rfl
theorem xW:P.fn eP=some kO:=rfl
theorem vF:P.fn bM=some gr:=rfl
theorem HK:P.fn mQ=some uD:=rfl
theorem Fb:P.fn fR=some rK:=rfl
theorem Ll:P.fn q6=some wL:=rfl
theorem Dk:P.fn jF=some nS:=rfl
theorem Aq:P.fn gF=some ff:=rfl
theorem Lj:P.fn o9=some s9:=rfl
theorem HO:P.fn et=some kS:=rfl
theorem dO:P.fn aK=some aI:=rfl
theorem Dm:P.fn iu=some nV:=rfl
theorem dF:P.fn aE=some aD:=rfl
theorem Dn:P.fn iv=some lB:=rfl
theorem Av:P.fn gH=some nG:=rfl
theorem Ft:P.fn jt=some rO:=rfl
theorem BC:P.fn iD=some oI:=rfl
theorem HM:P.fn iG=some uF:=rfl
theorem HD:P.fn mO=some mH:=rfl
theorem Lm:P.fn j6=some dC:=rfl
theorem HP:P.fn mR=some uG:=rfl
theorem Fv:P.fn k9=some rQ:=rfl
theorem Aw:P.fn gI=some kD:=rfl
theorem xh:P.fn dn=some jT:=rfl
theorem xi:P.fn dp=some jU:=rfl
theorem ku:P.fn a6=some cm:=rfl
theorem Df:P.fn lI=some bN:=rfl
theorem BF:P.fn fT=some oJ:=rfl
theorem Fi:P.fn kY=some jq:=rfl
theorem jk:P.fn aP=some bk:=rfl
theorem HB:P.fn jD=some uA:=rfl
theorem Bx:P.fn j3=some iw:=rfl
theorem xU:P.fn dh=some kL:=rfl
theorem y8:P.fn fp=some l7:=rfl
theorem sU:P.fn dY=some gQ:=rfl
theorem Fj:P.fn np=some nb:=rfl
theorem dP:P.fn aL=some aJ:=rfl
theorem vG:P.fn dX=some jh:=rfl
theorem BD:P.fn j5=some br:=rfl
theorem BE:P.fn b6=some ix:=rfl
theorem IE:P.fn iY=some gC:=rfl
theorem mr:P.fn bP=some cL:=rfl
theorem Fc:P.fn nk=some kM:=rfl
theorem By:P.fn iC=some jS:=rfl
theorem K8:P.fn bJ=some wB:=rfl
theorem BA:P.fn fS=some dB:=rfl
theorem zb:P.fn fq=some mb:=rfl
theorem Fu:P.fn k8=some nf:=rfl
theorem HQ:P.fn mS=some uH:=rfl
theorem E9:P.fn kW=some ik:=rfl
theorem y7:P.fn b8=some ef:=rfl
theorem pX:P.fn bO=some eF:=rfl
theorem eI:P.fn aS=some aR:=rfl
theorem sZ:P.fn cz=some gR:=rfl
theorem xX:P.fn eQ=some kR:=rfl
theorem Bz:P.fn eU=some l8:=rfl
theorem Di:P.fn lK=some qh:=rfl
theorem Fe:P.fn nn=some rL:=rfl
theorem Hu:P.fn jC=some uv:=rfl
theorem BB:P.fn j4=some oH:=rfl
theorem As:P.fn gG=some nF:=rfl
theorem Dh:P.fn lJ=some qg:=rfl
theorem za:P.fn gZ=some ma:=rfl
theorem Ar:P.fn ew=some nE:=rfl
theorem BQ:P.fn iH=some iz:=rfl
theorem Ln:P.fn q7=some wM:=rfl
theorem HR:P.fn ph=some gD:=rfl
theorem IF:P.fn jc=some fg:=rfl
theorem Nh:P.fn fH=some lC:=rfl
theorem Az:P.fn dN=some nJ:=rfl
theorem iQ:P.fn bD=some bR:=rfl
theorem Fa:P.fn kX=some pE:=rfl
theorem Bv:P.fn eT=some oF:=rfl
theorem lf:P.fn bT=some de:=rfl
theorem lS:P.fn b7=some dv:=rfl
theorem E7:P.fn fP=some rJ:=rfl
theorem Qd:P.fn ju=some rP:=rfl
theorem GM:P.fn hU=some gW:=rfl
theorem Lo:P.fn gi=some oQ:=rfl
theorem y9:P.fn gY=some l9:=rfl
theorem Dr:P.fn lP=some qi:=rfl
theorem j8:P.fn bu=some cd:=rfl
theorem Bw:P.fn ep=some dd:=rfl
theorem nN:P.fn cB=some cY:=rfl
theorem Lb:P.fn qT=some wE:=rfl
theorem La:P.fn qS=some wD:=rfl
theorem Dc:P.fn lG=some qd:=rfl
theorem Bu:P.fn jZ=some l6:=rfl
theorem Hv:P.fn oY=some uw:=rfl
theorem De:P.fn lH=some ck:=rfl
theorem Dd:P.fn eS=some qe:=rfl
theorem K7:P.fn qQ=some wA:=rfl
theorem OG:P.fn tk=some yG:=rfl
theorem Lg:P.fn qY=some wJ:=rfl
theorem K6:P.fn qP=some wz:=rfl
theorem Le:P.fn qW=some wH:=rfl
theorem K9:P.fn qR=some wC:=rfl
theorem Hw:P.fn oZ=some rf:=rfl
theorem Hy:P.fn o6=some rh:=rfl
theorem Lc:P.fn qU=some wF:=rfl
theorem Ht:P.fn oX=some uu:=rfl
theorem Hs:P.fn oW=some ur:=rfl
theorem HA:P.fn mN=some uz:=rfl
theorem Lf:P.fn qX=some wI:=rfl
theorem Ld:P.fn qV=some wG:=rfl
theorem E8:P.fn fQ=some fe:=rfl
theorem Hz:P.fn mM=some ux:=rfl
theorem EN:Kp P zt [1,3,4]:=aw
theorem EP:Kp P vS [3,5]:=aw
theorem C6:Kp P tW [14,15,16]:=aw
theorem zS:Kp P zw [1,2,4,6,28,29,30]:=aw
theorem KQ:Kp P zA [1,4,6,69,70,71]:=aw
theorem Hm:Kp P rj [2,3,5]:=aw
theorem GB:Kp P tc [1,3,4,5,11,12,13]:=aw
theorem GD:Kp P td [1,3,4,5,33,34,35]:=aw
theorem Bg:Kp P rU [0,1,5]:=aw
theorem Bi:Kp P rW [3,4]:=aw
theorem oy:Kp P eN [2,8,9]:=aw
theorem P2:Kp P zu [1,4,5]:=aw
theorem IB:Kp P vg [0,1,5]:=aw
theorem Al:Kp P nK [1,3,4]:=aw
theorem Ap:Kp P vh [1,3,5]:=aw
theorem EO:Kp P vR [0,24,25]:=aw
theorem C7:Kp P tX [6,7,8]:=aw
theorem yu:Kp P tZ [3,8,9,10]:=aw
theorem C8:Kp P tY [1,2,30,31,32]:=aw
theorem Bj:Kp P rX [3,4,13,14,15]:=aw
theorem xM:Kp P ou [0,1,5]:=aw
theorem GC:Kp P pJ [1,3,9,10,11]:=aw
theorem GF:Kp P te [3,27,28,29]:=aw
theorem Be:Kp P oR [2,3,34,35,36]:=aw
theorem Bh:Kp P rV [3,4]:=aw
theorem tq:Kp P pM [6,7,8,12,13,14,15,52,53,54]:=aw
theorem Hn:Kp P AX [0,1,5,6,7,8]:=aw
theorem Hl:Kp P AW [0,1,5,6]:=aw
theorem dL:Kp P bH [1,2,15,16,17]:=aw
theorem dy:Kp P bA [1,2,15,16,17]:=aw
theorem M9:Kp P yk [3,6,7,8]:=aw
theorem P3:Kp P zx [2,3,9,10,11]:=aw
theorem EM:Kp P vQ [1,2,3,7]:=aw
theorem Am:Kp P qw [0,42,43,44]:=aw
theorem P4:Kp P zy [3,7,8,9]:=aw
theorem Na:Kp P yl [3,7,8,9]:=aw
theorem yY:Kp P pH [1,2,9,10,11]:=aw
theorem IA:Kp P vf [1,3,4]:=aw
theorem C5:Kp P tV [1,2,4,6,41,42,43]:=aw
theorem dr:Kp P bS [0,1,7,8]:=aw
theorem qD:Kp P qt [0,13,14,15]:=aw
theorem vp:Kp P qy [7,25,26,27]:=aw
theorem vq:Kp P qA [7,10,40,41,42]:=aw
theorem EK:Kp P rS [0,5,10,11,12]:=aw
theorem zQ:Kp P ng [1,3,6,7,8]:=aw
theorem yt:Kp P nX [0,3,5,6,7]:=aw
theorem dM:Kp P bI [1,2,15,16,17]:=aw
theorem Bf:Kp P oS [2,5,11,12,13]:=aw
theorem yZ:Kp P pI [1,12,13,14]:=aw
theorem lQ:Kp P eh [0,3,7,8]:=aw
theorem vn:Kp P qu [1,2,3,13,14,15]:=aw
theorem Ao:Kp P qz [2,26,27,28]:=aw
theorem je:Kp P qv [0,1,2,3,22,23,24]:=aw
theorem EL:Kp P rT [3,6,7,8]:=aw
theorem ql:Kp P lD [1,2,7,30,31,32]:=aw
theorem ug:Kp P ua [1,2,7,51,52,53]:=aw
theorem yv:Kp P ub [1,2,7,16,77,78,79]:=aw
theorem C9:Kp P uc [2,7,16,19,95,96,97]:=aw
theorem Nb:Kp P ud [2,7,19,22,117,118]:=aw
theorem qm:Kp P il [0,2,7,8]:=aw
theorem wX:Kp P jW [3,4,9,10,11]:=aw
theorem cR:Kp P bY [0,1,2,8,9,10]:=aw
theorem An:Kp P qx [1,2,21,22,23]:=aw
theorem y2:Kp P pK [1,12,13,14]:=aw
theorem M8:Kp P yj [1,2,6,20,21,22]:=aw
theorem xN:Kp P ow [1,2,8,9,10]:=aw
theorem KP:Kp P wN [3,9,10,11]:=aw
theorem jI:Kp P dH [0,1,7,8]:=aw
theorem mT:Kp P eO [0,1,7,8]:=aw
theorem sf{τ:Tm}{σ:ae}{nt:Nat}{rd:Option Nat}:exec P yJ ⟨τ,σ,nt,rd⟩=B7 τ nt rd (mA P [27] eB eC ((O.t 26).val τ) (τ.kept [4,6]) σ nt rd):=zi
theorem CL{τ:Tm}{σ:ae}{nt:Nat}{rd:Option Nat}:exec P wO ⟨τ,σ,nt,rd⟩=B7 τ nt rd (mA P [6] jP jQ ((O.t 5).val τ) (τ.kept [2]) σ nt rd):=zi
theorem xO{τ:Tm}{σ:ae}{nt:Nat}{rd:Option Nat}:exec P yI ⟨τ,σ,nt,rd⟩=B7 τ nt rd (mA P [48,49] fk fm ((O.t 47).val τ) (τ.kept [6,7,8,12,13]) σ nt rd):=zi
theorem AP{τ:Tm}{σ:ae}{nt:Nat}{rd:Option Nat}:exec P uJ ⟨τ,σ,nt,rd⟩=B7 τ nt rd (mA P [19] ej ek ((O.t 18).val τ) (τ.kept [2,5]) σ nt rd):=zi
theorem Bk{τ:Tm}{σ:ae}{nt:Nat}{rd:Option Nat}:exec P CT ⟨τ,σ,nt,rd⟩=B7 τ nt rd (mA P [21] jy jz ((O.t 20).val τ) (τ.kept [2,5,6]) σ nt rd):=zi
theorem IC{τ:Tm}{σ:ae}{nt:Nat}{rd:Option Nat}:exec P AY ⟨τ,σ,nt,rd⟩=B7 τ nt rd (mA P [8] oA oB ((O.t 7).val τ) (τ.kept [3,4]) σ nt rd):=zi
theorem sz:Rp P iN 57 [.tmp 4] fK:=fun h=>bC Ff h
theorem B0:Qp P mP:=ah HF rfl rfl
theorem x6:Rp P mP 52 [.tmp 2] mI:=fun h=>bC HF h
theorem yy:Qp P jE:=ah Dg rfl rfl
theorem Nu:Rp P jE 58 [.tmp 0] qf:=fun h=>bC Dg h
theorem lg:Qp P kZ:=ah Fl rfl rfl
theorem FG:Rp P kZ 26 [.tmp 2] pF:=fun h=>bC Fl h
theorem Cx:Qp P tl:=ah OH rfl rfl
theorem wq:Rp P tl 93 [.cell 4 8 true,.tmp 5] nU:=fun h=>bC OH h
theorem Wu:Qp P q5:=ah Lk rfl rfl
theorem tF:Rp P q5 72 [.tmp 4] lA:=fun h=>bC Lk h
theorem cO:Qp P er:=ah BP rfl rfl
theorem LY:Rp P er 6 [.tmp 2] oP:=fun h=>bC BP h
theorem IH:Qp P ja:=ah Ax rfl rfl
theorem IM:Rp P ja 65 [.tmp 2,.cell 3 5 true,.cell 4 5 true] nH:=fun h=>bC Ax h
theorem Nn:Qp P lL:=ah Dj rfl rfl
theorem yA:Rp P lL 27 [.tmp 4] lz:=fun h=>bC Dj h
theorem j9:Qp P iZ:=ah Li rfl rfl
theorem xl:Rp P iZ 38 [.tmp 4] mZ:=fun h=>bC Li h
theorem No:Qp P lM:=ah Dl rfl rfl
theorem Dx:Rp P lM 18 [.tmp 2] nT:=fun h=>bC Dl h
theorem pQ:Qp P nu:=ah Fo rfl rfl
theorem zZ:Rp P nu 22 [.tmp 2,.tmp 3,.tmp 4] nc:=fun h=>bC Fo h
theorem GO:Qp P ft:=ah zd rfl rfl
theorem mw:Rp P ft 60 [.tmp 4,.tmp 5,.tmp 6] eD:=fun h=>bC zd h
theorem Tr:Qp P pf:=ah HG rfl rfl
theorem TB:Rp P pf 43 [.tmp 2,.tmp 3] uB:=fun h=>bC HG h
theorem Np:Qp P lN:=ah Dp rfl rfl
theorem uj:Rp P lN 21 [.tmp 2] jA:=fun h=>bC Dp h
theorem Qo:Qp P nr:=ah Fk rfl rfl
theorem v7:Rp P nr 21 [.tmp 2] kP:=fun h=>bC Fk h
theorem Ts:Qp P pg:=ah HJ rfl rfl
theorem x7:Rp P pg 31 [.tmp 4] mJ:=fun h=>bC HJ h
theorem LA:Qp P iE:=ah BG rfl rfl
theorem LQ:Rp P iE 26 [.tmp 4] oK:=fun h=>bC BG h
theorem sr:Qp P js:=ah Fm rfl rfl
theorem Qw:Rp P js 7 [.tmp 2] rN:=fun h=>bC Fm h
theorem u0:Qp P k6:=ah HI rfl rfl
theorem TC:Rp P k6 7 [.tmp 2] uC:=fun h=>bC HI h
theorem B1:Qp P iF:=ah sn rfl rfl
theorem LS:Rp P iF 61 [.tmp 2] jV:=fun h=>bC sn h
theorem HW:Qp P o8:=ah HC rfl rfl
theorem H0:Rp P o8 15 [.cell 6 5 true,.tmp 7] ri:=fun h=>bC HC h
theorem Qn:Qp P iq:=ah Fg rfl rfl
theorem Qv:Rp P iq 8 [.cell 4 5 true] rM:=fun h=>bC Fg h
theorem LB:Qp P fU:=ah BH rfl rfl
theorem B4:Rp P fU 7 [.tmp 1] mc:=fun h=>bC BH h
theorem jJ:Qp P gJ:=ah HL rfl rfl
theorem TE:Rp P gJ 7 [.tmp 4] uE:=fun h=>bC HL h
theorem gN:Qp P jG:=ah HN rfl rfl
theorem ru:Rp P jG 50 [.tmp 2] jB:=fun h=>bC HN h
theorem LC:Qp P eV:=ah BI rfl rfl
theorem sD:Rp P eV 19 [.tmp 1] iy:=fun h=>bC BI h
theorem LD:Qp P fV:=ah BJ rfl rfl
theorem LU:Rp P fV 5 [.tmp 1] oL:=fun h=>bC BJ h
theorem Qq:Qp P nw:=ah Fp rfl rfl
theorem FH:Rp P nw 28 [.tmp 2] pG:=fun h=>bC Fp h
theorem LF:Qp P fW:=ah BK rfl rfl
theorem LV:Rp P fW 5 [.tmp 1] oM:=fun h=>bC BK h
theorem Qr:Qp P nx:=ah Fs rfl rfl
theorem z6:Rp P nx 22 [.tmp 2] nd:=fun h=>bC Fs h
theorem LG:Qp P fX:=ah BL rfl rfl
theorem LW:Rp P fX 5 [.tmp 1] oN:=fun h=>bC BL h
theorem bt:Qp P ez:=ah Au rfl rfl
theorem kG:Rp P ez 61 [.cell 4 1 false] eu:=fun h=>bC Au h
theorem LH:Qp P fY:=ah BM rfl rfl
theorem B5:Rp P fY 11 [.tmp 1] me:=fun h=>bC BM h
theorem vW:Qp P k7:=ah Fq rfl rfl
theorem v8:Rp P k7 42 [.tmp 6] kQ:=fun h=>bC Fq h
theorem LI:Qp P fZ:=ah BN rfl rfl
theorem B6:Rp P fZ 13 [.tmp 1] mf:=fun h=>bC BN h
theorem LJ:Qp P gh:=ah BO rfl rfl
theorem LX:Rp P gh 4 [.tmp 1] oO:=fun h=>bC BO h
theorem Nq:Qp P lO:=ah Dq rfl rfl
theorem Dz:Rp P lO 27 [.tmp 2] nW:=fun h=>bC Dq h
theorem jx:Qp P ir:=ah Fh rfl rfl
theorem vZ:Rp P ir 25 [.cell 4 5 true,.tmp 5] kN:=fun h=>bC Fh h
theorem Lx:Qp P qZ:=ah Lh rfl rfl
theorem zX:Rp P qZ 51 [.cell 4 11 true,.tmp 5] oG:=fun h=>bC Lh h
theorem tD:Qp P hJ:=ah zc rfl rfl
theorem tH:Rp P hJ 56 [.tmp 4] gV:=fun h=>bC zc h
theorem cT:Qp P aQ:=ah ic rfl rfl
theorem cU:Rp P aQ 9 [.tmp 4] a8:=fun h=>bC ic h
theorem II:Qp P jb:=ah Ay rfl rfl
theorem IN:Rp P jb 48 [.tmp 2] nI:=fun h=>bC Ay h
theorem FA:Qp P eP:=ah xW rfl rfl
theorem FF:Rp P eP 10 [.cell 2 1 false] kO:=fun h=>bC xW h
theorem jl:Qp P bM:=ah vF rfl rfl
theorem vJ:Rp P bM 49 [.cell 2 5 true] gr:=fun h=>bC vF h
theorem HX:Qp P mQ:=ah HK rfl rfl
theorem TD:Rp P mQ 9 [.cell 2 5 true] uD:=fun h=>bC HK h
theorem Ql:Qp P fR:=ah Fb rfl rfl
theorem Qt:Rp P fR 41 [.cell 2 5 true] rK:=fun h=>bC Fb h
theorem Wv:Qp P q6:=ah Ll rfl rfl
theorem WI:Rp P q6 9 [.cell 2 5 true] wL:=fun h=>bC Ll h
theorem Dt:Qp P jF:=ah Dk rfl rfl
theorem Dw:Rp P jF 19 [.tmp 2] nS:=fun h=>bC Dk h
theorem IG:Qp P gF:=ah Aq rfl rfl
theorem nO:Rp P gF 82 [.cell 6 1 false,.cell 7 1 false,.cell 8 1 false] ff:=fun h=>bC Aq h
theorem Wt:Qp P o9:=ah Lj rfl rfl
theorem LR:Rp P o9 48 [.tmp 4] s9:=fun h=>bC Lj h
theorem jK:Qp P et:=ah HO rfl rfl
theorem u6:Rp P et 36 [.tmp 4] kS:=fun h=>bC HO h
theorem dQ:Qp P aK:=ah dO rfl rfl
theorem cC:Rp P aK 32 [.tmp 6] aI:=fun h=>bC dO h
theorem Du:Qp P iu:=ah Dm rfl rfl
theorem Dy:Rp P iu 17 [.tmp 4] nV:=fun h=>bC Dm h
theorem ia:Qp P aE:=ah dF rfl rfl
theorem cj:Rp P aE 32 [.tmp 6] aD:=fun h=>bC dF h
theorem Dv:Qp P iv:=ah Dn rfl rfl
theorem yB:Rp P iv 24 [.tmp 4] lB:=fun h=>bC Dn h
theorem qG:Qp P gH:=ah Av rfl rfl
theorem IL:Rp P gH 5 [.tmp 2] nG:=fun h=>bC Av h
theorem su:Qp P jt:=ah Ft rfl rfl
theorem Qx:Rp P jt 27 [.tmp 2] rO:=fun h=>bC Ft h
theorem xj:Qp P iD:=ah BC rfl rfl
theorem LO:Rp P iD 5 [.tmp 2] oI:=fun h=>bC BC h
theorem rq:Qp P iG:=ah HM rfl rfl
theorem TF:Rp P iG 24 [.cell 2 5 true] uF:=fun h=>bC HM h
theorem BZ:Qp P mO:=ah HD rfl rfl
theorem x5:Rp P mO 37 [.tmp 6] mH:=fun h=>bC HD h
theorem ss:Qi P j6 dC:=wh Lm rfl rfl
theorem py:Qp P mR:=ah HP rfl rfl
theorem TG:Rp P mR 19 [.tmp 2] uG:=fun h=>bC HP h
theorem pS:Qp P k9:=ah Fv rfl rfl
theorem Qy:Rp P k9 20 [.tmp 2] rQ:=fun h=>bC Fv h
theorem kF:Qp P gI:=ah Aw rfl rfl
theorem AB:Rp P gI 25 [.tmp 4] kD:=fun h=>bC Aw h
theorem hZ:Qp P dn:=ah xh rfl rfl
theorem DY:Rp P dn 4 [.tmp 2] jT:=fun h=>bC xh h
theorem bf:Qp P dp:=ah xi rfl rfl
theorem DZ:Rp P dp 9 [.tmp 2] jU:=fun h=>bC xi h
theorem cr:Qp P a6:=ah ku rfl rfl
theorem kA:Rp P a6 9 [.tmp 4] cm:=fun h=>bC ku h
theorem Ds:Qp P lI:=ah Df rfl rfl
theorem cA:Rp P lI 68 [.tmp 6] bN:=fun h=>bC Df h
theorem px:Qp P fT:=ah BF rfl rfl
theorem LP:Rp P fT 23 [.tmp 2] oJ:=fun h=>bC BF h
theorem vV:Qp P kY:=ah Fi rfl rfl
theorem sB:Rp P kY 81 [.cell 4 5 true,.tmp 5] jq:=fun h=>bC Fi h
theorem dz:Qp P aP:=ah jk rfl rfl
theorem dA:Rp P aP 19 [.tmp 4] bk:=fun h=>bC jk h
theorem BY:Qp P jD:=ah HB rfl rfl
theorem TA:Rp P jD 12 [.cell 6 5 true] uA:=fun h=>bC HB h
theorem pw:Qp P j3:=ah Bx rfl rfl
theorem sx:Rp P j3 68 [.tmp 2,.tmp 3] iw:=fun h=>bC Bx h
theorem xZ:Qp P dh:=ah xU rfl rfl
theorem FE:Rp P dh 6 [.tmp 2] kL:=fun h=>bC xU h
theorem zh:Qp P fp:=ah y8 rfl rfl
theorem GP:Rp P fp 28 [.tmp 4] l7:=fun h=>bC y8 h
theorem s6:Qp P dY:=ah sU rfl rfl
theorem AQ:Rp P dY 18 [.tmp 2] gQ:=fun h=>bC sU h
theorem FB:Qp P np:=ah Fj rfl rfl
theorem zY:Rp P np 54 [.tmp 4] nb:=fun h=>bC Fj h
theorem jf:Qp P aL:=ah dP rfl rfl
theorem cD:Rp P aL 32 [.tmp 6] aJ:=fun h=>bC dP h
theorem vI:Qp P dX:=ah vG rfl rfl
theorem CN:Rp P dX 44 [.tmp 4] jh:=fun h=>bC vG h
theorem Ly:Qp P j5:=ah BD rfl rfl
theorem bQ:Rp P j5 102 [.tmp 4] br:=fun h=>bC BD h
theorem vz:Qi P iY gC:=wh IE rfl rfl
theorem mu:Qp P bP:=ah mr rfl rfl
theorem mz:Rp P bP 19 [.tmp 4] cL:=fun h=>bC mr h
theorem cP:Qp P nk:=ah Fc rfl rfl
theorem vY:Rp P nk 21 [.tmp 2] kM:=fun h=>bC Fc h
theorem cN:Qp P iC:=ah By rfl rfl
theorem xk:Rp P iC 37 [.tmp 6] jS:=fun h=>bC By h
theorem cg:Qp P bJ:=ah K8 rfl rfl
theorem Wy:Rp P bJ 9 [.tmp 4] wB:=fun h=>bC K8 h
theorem dG:Qp P fS:=ah BA rfl rfl
theorem gn:Rp P fS 144 [.tmp 8,.tmp 9] dB:=fun h=>bC BA h
theorem dS:Qp P fq:=ah zb rfl rfl
theorem GS:Rp P fq 19 [.tmp 2] mb:=fun h=>bC zb h
theorem lj:Qp P k8:=ah Fu rfl rfl
theorem z7:Rp P k8 53 [.cell 2 1 false] nf:=fun h=>bC Fu h
theorem u5:Qp P mS:=ah HQ rfl rfl
theorem TH:Rp P mS 10 [.tmp 2] uH:=fun h=>bC HQ h
theorem Qk:Qp P kW:=ah E9 rfl rfl
theorem pT:Rp P kW 129 [.tmp 4,.tmp 5] ik:=fun h=>bC E9 h
theorem xy:Qp P bO:=ah pX rfl rfl
theorem xz:Rp P bO 33 [.tmp 2] eF:=fun h=>bC pX h
theorem eK:Qp P aS:=ah eI rfl rfl
theorem cV:Rp P aS 49 [.tmp 6,.tmp 7] aR:=fun h=>bC eI h
theorem km:Qp P cz:=ah sZ rfl rfl
theorem AR:Rp P cz 9 [.tmp 4] gR:=fun h=>bC sZ h
theorem FC:Qp P eQ:=ah xX rfl rfl
theorem FI:Rp P eQ 8 [.tmp 4] kR:=fun h=>bC xX h
theorem aB:Qp P eU:=ah Bz rfl rfl
theorem B3:Rp P eU 42 [.tmp 2] l8:=fun h=>bC Bz h
theorem Nl:Qp P lK:=ah Di rfl rfl
theorem Nw:Rp P lK 13 [.cell 4 1 false] qh:=fun h=>bC Di h
theorem Qm:Qp P nn:=ah Fe rfl rfl
theorem Qu:Rp P nn 6 [.tmp 2] rL:=fun h=>bC Fe h
theorem BX:Qp P jC:=ah Hu rfl rfl
theorem Tv:Rp P jC 7 [.tmp 2] uv:=fun h=>bC Hu h
theorem gk:Qp P j4:=ah BB rfl rfl
theorem LN:Rp P j4 9 [.tmp 2] oH:=fun h=>bC BB h
theorem vw:Qp P gG:=ah As rfl rfl
theorem IK:Rp P gG 9 [.tmp 2] nF:=fun h=>bC As h
theorem Nk:Qp P lJ:=ah Dh rfl rfl
theorem Nv:Rp P lJ 26 [.tmp 6,.tmp 7] qg:=fun h=>bC Dh h
theorem GN:Qp P gZ:=ah za rfl rfl
theorem GR:Rp P gZ 45 [.tmp 8,.tmp 9] ma:=fun h=>bC za h
theorem qF:Qp P ew:=ah Ar rfl rfl
theorem IJ:Rp P ew 9 [.tmp 4,.tmp 5] nE:=fun h=>bC Ar h
theorem pz:Qp P iH:=ah BQ rfl rfl
theorem sE:Rp P iH 40 [.tmp 6,.tmp 7] iz:=fun h=>bC BQ h
theorem LK:Qp P q7:=ah Ln rfl rfl
theorem WJ:Rp P q7 4 [.tmp 2] wM:=fun h=>bC Ln h
theorem x4:Qp P ph:=ah HR rfl rfl
theorem mU:Rp P ph 82 [.tmp 2] gD:=fun h=>bC HR h
theorem vB:Qi P jc fg:=wh IF rfl rfl
theorem Nr:Qi P fH lC:=wh Nh rfl rfl
theorem AA:Qp P dN:=ah Az rfl rfl
theorem IP:Rp P dN 9 [.tmp 3] nJ:=fun h=>bC Az h
theorem iR:Qp P bD:=ah iQ rfl rfl
theorem iS:Rp P bD 9 [.tmp 4] bR:=fun h=>bC iQ h
theorem Fz:Qp P kX:=ah Fa rfl rfl
theorem FD:Rp P kX 44 [.tmp 4] pE:=fun h=>bC Fa h
theorem Lv:Qp P eT:=ah Bv rfl rfl
theorem LM:Rp P eT 16 [.tmp 5] oF:=fun h=>bC Bv h
theorem sq:Qp P bT:=ah lf rfl rfl
theorem sy:Rp P bT 8 [.tmp 4] de:=fun h=>bC lf h
theorem lT:Qp P b7:=ah lS rfl rfl
theorem sN:Rp P b7 9 [.tmp 4] dv:=fun h=>bC lS h
theorem gj:Qp P fP:=ah E7 rfl rfl
theorem Qs:Rp P fP 6 [.tmp 2] rJ:=fun h=>bC E7 h
theorem tE:Qi P hU gW:=wh GM rfl rfl
theorem LL:Qi P gi oQ:=wh Lo rfl rfl
theorem fu:Qp P gY:=ah y9 rfl rfl
theorem GQ:Rp P gY 9 [.tmp 2] l9:=fun h=>bC y9 h
theorem yz:Qp P lP:=ah Dr rfl rfl
theorem Nx:Rp P lP 23 [.tmp 2] qi:=fun h=>bC Dr h
theorem kd:Qp P bu:=ah j8 rfl rfl
theorem kg:Rp P bu 19 [.tmp 4] cd:=fun h=>bC j8 h
theorem Lw:Qp P ep:=ah Bw rfl rfl
theorem eX:Rp P ep 105 [.tmp 8] dd:=fun h=>bC Bw h
theorem vA:Qp P cB:=ah nN rfl rfl
theorem nP:Rp P cB 19 [.tmp 4] cY:=fun h=>bC nN h
theorem Wn:Qp P qT:=ah Lb rfl rfl
theorem WB:Rp P qT 9 [.tmp 4] wE:=fun h=>bC Lb h
theorem Wm:Qp P qS:=ah La rfl rfl
theorem WA:Rp P qS 9 [.tmp 4] wD:=fun h=>bC La h
theorem Ni:Qp P lG:=ah Dc rfl rfl
theorem Ns:Rp P lG 19 [.tmp 8] qd:=fun h=>bC Dc h
theorem Lu:Qp P jZ:=ah Bu rfl rfl
theorem B2:Rp P jZ 14 [.tmp 6] l6:=fun h=>bC Bu h
theorem Tn:Qp P oY:=ah Hv rfl rfl
theorem Tw:Rp P oY 13 [.tmp 6] uw:=fun h=>bC Hv h
theorem Nj:Qp P lH:=ah De rfl rfl
theorem dq:Rp P lH 95 [.tmp 8] ck:=fun h=>bC De h
theorem od:Qp P eS:=ah Dd rfl rfl
theorem Nt:Rp P eS 15 [.tmp 4] qe:=fun h=>bC Dd h
theorem Wk:Qp P qQ:=ah K7 rfl rfl
theorem Wx:Rp P qQ 12 [.tmp 6] wA:=fun h=>bC K7 h
theorem ZQ:Qp P tk:=ah OG rfl rfl
theorem ZS:Rp P tk 12 [.tmp 6] yG:=fun h=>bC OG h
theorem Ws:Qp P qY:=ah Lg rfl rfl
theorem WH:Rp P qY 12 [.tmp 6] wJ:=fun h=>bC Lg h
theorem Wj:Qp P qP:=ah K6 rfl rfl
theorem Ww:Rp P qP 12 [.tmp 6] wz:=fun h=>bC K6 h
theorem Wq:Qp P qW:=ah Le rfl rfl
theorem WE:Rp P qW 12 [.tmp 6] wH:=fun h=>bC Le h
theorem Wl:Qp P qR:=ah K9 rfl rfl
theorem Wz:Rp P qR 12 [.tmp 6] wC:=fun h=>bC K9 h
theorem To:Qp P oZ:=ah Hw rfl rfl
theorem HY:Rp P oZ 22 [.tmp 6] rf:=fun h=>bC Hw h
theorem Tp:Qp P o6:=ah Hy rfl rfl
theorem HZ:Rp P o6 21 [.tmp 6] rh:=fun h=>bC Hy h
theorem Wo:Qp P qU:=ah Lc rfl rfl
theorem WC:Rp P qU 11 [.tmp 6] wF:=fun h=>bC Lc h
theorem Tl:Qp P oX:=ah Ht rfl rfl
theorem Tu:Rp P oX 11 [.tmp 6] uu:=fun h=>bC Ht h
theorem Tk:Qp P oW:=ah Hs rfl rfl
theorem Tt:Rp P oW 11 [.tmp 6] ur:=fun h=>bC Hs h
theorem HV:Qp P mN:=ah HA rfl rfl
theorem Tz:Rp P mN 10 [.cell 4 2 true] uz:=fun h=>bC HA h
theorem Wr:Qp P qX:=ah Lf rfl rfl
theorem WG:Rp P qX 15 [.tmp 6] wI:=fun h=>bC Lf h
theorem Wp:Qp P qV:=ah Ld rfl rfl
theorem WD:Rp P qV 15 [.tmp 6] wG:=fun h=>bC Ld h
theorem zW:Qp P fQ:=ah E8 rfl rfl
theorem lp:Rp P fQ 53 [.tmp 8] fe:=fun h=>bC E8 h
theorem HU:Qp P mM:=ah Hz rfl rfl
theorem Tx:Rp P mM 4 [.tmp 2] ux:=fun h=>bC Hz h
theorem dj{args:List AV}{σ:ae}:kV P di args σ=(wk) args σ:=wS rfl
theorem kz{args:List AV}{σ:ae}:kV P a7 args σ=(wm dI cM) args σ:=wS rfl
theorem sv{args:List AV}{σ:ae}:kV P cy args σ=(uX 2 V7) args σ:=wS rfl
theorem sM{args:List AV}{σ:ae}:kV P bK args σ=(Cv 2 24) args σ:=wS rfl
theorem mE{args:List AV}{σ:ae}:kV P dJ args σ=(BT uY) args σ:=wS rfl
end
end Go.AE.S
