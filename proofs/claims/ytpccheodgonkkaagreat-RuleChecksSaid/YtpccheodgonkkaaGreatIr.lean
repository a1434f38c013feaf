import Derived.Test.YtpccheodgonkkaaGreatP0
set_option linter.unusedSimpArgs false
set_option linter.unusedVariables false
namespace Go.AE.S
open Go Go.AE
noncomputable section
set_option maxRecDepth 20000
def bs(l:List Nat):ByteArray:=⟨(l.map UInt8.ofNat).toArray⟩
def Tw(k:Int)(a b:Term):Term :=
 if k=1 then a
 else if k=2 then .mk 16 1 0 (bs []) [a,b]
 else if k=3 then .mk 16 1 0 (bs []) [.mk 5 a.w 0 (bs []) [a,b],.mk 2 a.w 0 (bs []) []]
 else if k=4 then .mk 17 1 0 (bs []) [a,b]
 else .mk 0 0 0 (bs []) []
def iK:FuncId:=3
def fk:FuncId:=5
def fU:FuncId:=10
def mb:FuncId:=11
def eH:FuncId:=12
def ja:FuncId:=13
def ma:FuncId:=14
def wu:FuncId:=15
def qK:FuncId:=17
def fB:FuncId:=18
def il:FuncId:=19
def k6:FuncId:=20
def iZ:FuncId:=21
def gI:FuncId:=22
def oN:FuncId:=25
def fW:FuncId:=28
def nZ:FuncId:=31
def mO:FuncId:=32
def oL:FuncId:=33
def mc:FuncId:=36
def n9:FuncId:=37
def jn:FuncId:=38
def mN:FuncId:=39
def u7:FuncId:=40
def qE:FuncId:=41
def iX:FuncId:=42
def gJ:FuncId:=43
def iq:FuncId:=44
def kC:FuncId:=45
def fA:FuncId:=46
def gK:FuncId:=47
def oO:FuncId:=48
def gL:FuncId:=49
def oP:FuncId:=50
def gM:FuncId:=51
def eJ:FuncId:=52
def gN:FuncId:=53
def me:FuncId:=54
def gO:FuncId:=55
def gP:FuncId:=56
def mP:FuncId:=57
def oI:FuncId:=58
def tg:FuncId:=59
def kA:FuncId:=60
def fh:FuncId:=61
def qJ:FuncId:=62
def iY:FuncId:=63
def tc:FuncId:=64
def iN:FuncId:=67
def aN:FuncId:=68
def jJ:FuncId:=69
def fg:FuncId:=70
def bT:FuncId:=71
def oc:FuncId:=72
def gG:FuncId:=73
def lI:FuncId:=74
def di:FuncId:=75
def oM:FuncId:=76
def tf:FuncId:=77
def ic:FuncId:=80
def mM:FuncId:=85
def jo:FuncId:=86
def eK:FuncId:=91
def j8:FuncId:=92
def fw:FuncId:=93
def eR:FuncId:=94
def kB:FuncId:=95
def fX:FuncId:=96
def qM:FuncId:=97
def nY:FuncId:=98
def k7:FuncId:=99
def od:FuncId:=100
def mg:FuncId:=101
def ik:FuncId:=102
def dv:FuncId:=103
def dw:FuncId:=104
def aT:FuncId:=105
def mJ:FuncId:=106
def qL:FuncId:=107
def jI:FuncId:=108
def qG:FuncId:=109
def qF:FuncId:=110
def fL:FuncId:=111
def te:FuncId:=112
def qI:FuncId:=113
def dY:FuncId:=114
def tJ:FuncId:=115
def th:FuncId:=116
def l8:FuncId:=117
def aS:FuncId:=119
def kr:FuncId:=120
def dZ:FuncId:=121
def dq:FuncId:=125
def kX:FuncId:=126
def dp:FuncId:=127
def fT:FuncId:=128
def eu:FuncId:=129
def oJ:FuncId:=139
def aM:FuncId:=140
def er:FuncId:=141
def kZ:FuncId:=142
def cg:FuncId:=143
def jH:FuncId:=144
def bW:FuncId:=145
def oG:FuncId:=146
def jm:FuncId:=147
def qH:FuncId:=148
def ku:FuncId:=149
def qC:FuncId:=150
def oK:FuncId:=151
def bP:FuncId:=152
def gH:FuncId:=153
def fV:FuncId:=154
def mf:FuncId:=157
def oe:FuncId:=158
def bf:FuncId:=159
def cT:FuncId:=160
def CX:FuncId:=161
def qA:FuncId:=162
def u6:FuncId:=163
def cD:FuncId:=164
def l6:FuncId:=165
def ck:FuncId:=166
def bV:FuncId:=167
def aW:FuncId:=186
def cF:FuncId:=187
def fi:FuncId:=188
def bS:FuncId:=189
def fu:FuncId:=190
def mL:FuncId:=191
def oH:FuncId:=192
def qB:FuncId:=193
def xS:FuncId:=194
def l9:FuncId:=195
def td:FuncId:=196
def qD:FuncId:=197
def kq:FuncId:=198
def kY:FuncId:=199
def ig:FuncId:=200
def mK:FuncId:=201
def iM:FuncId:=202
def eI:FuncId:=203
def jq:FuncId:=207
def ti:FuncId:=208
def qN:FuncId:=209
def jK:FuncId:=210
def gu:FuncId:=211
def ec:FuncId:=212
def bJ:FuncId:=213
def dR:FuncId:=214
def oF:FuncId:=217
def sr:FuncId:=218
def l7:FuncId:=219
def ft:FuncId:=220
def b8:FuncId:=227
def cj:FuncId:=230
def gE:FuncId:=231
def j9:FuncId:=234
def iO:FuncId:=235
def gQ:FuncId:=236
def iL:FuncId:=237
def mQ:FuncId:=238
def bD:FuncId:=239
def eC:FuncId:=250
def dU:FuncId:=252
def cK:FuncId:=254
def sP:FuncId:=263
def sN:FuncId:=264
def mH:FuncId:=265
def kW:FuncId:=266
def qx:FuncId:=267
def mI:FuncId:=268
def fq:FuncId:=271
def sL:FuncId:=272
def wq:FuncId:=273
def s9:FuncId:=274
def sH:FuncId:=275
def s6:FuncId:=276
def sM:FuncId:=277
def qy:FuncId:=278
def qz:FuncId:=279
def sU:FuncId:=280
def qw:FuncId:=281
def qv:FuncId:=282
def nX:FuncId:=283
def s7:FuncId:=284
def sZ:FuncId:=285
def gF:FuncId:=286
def nW:FuncId:=287
abbrev lA:List AV:=[.p (.int .i64 0),.p (.int .i64 0),.p (.int .u64 0),.p (.str (bs [])),.aA]
abbrev a7(d x:Nat):gr:=ak d (.load 1 false (.t x))
abbrev bQ(d s x:Nat):gr:=ak d (.load s true (.t x))
abbrev aZ(d f x:Nat):gr:=ak d (.bH f (.t x))
abbrev af(d x:Nat):gr:=aC d (.t x)
abbrev aP(x:Nat)(a b:K):K:=.cond (.t x) a b
abbrev bn(d:Nat)(f:FuncId)(l:List O):gr:=ak d (.cZ f l)
abbrev aF(d:Nat)(o:BinOp)(a b:O):gr:=ak d (.arith o a b)
abbrev aj(l:List gr)(k:K):K:=.seq (.cm false l) k
def iG:cH:=⟨15,[.tmp 2],
 (aj [ak 1 (.box 8 true (.t 0) true),aC 2 (.c (.p (.bool false)))]
 (.seq (aj [bQ 3 8 1,bn 4 mb [(.t 3)],ak 5 (.not (.t 4))]
 (aP 5 (aj [bn 6 eH [],af 2 6]
 .ret) .skip))
 (.seq (.cm true [bQ 7 8 1,bn 8 ja [(.t 7)],bQ 9 8 1,bn 10 ma [(.t 9)],aF 11 .eql (.t 8) (.t 10),af 12 11,⟨some 13,.cZ eH [],some (12,true)⟩,ak 14 (.pick (.t 12) (.t 13) (.c (.p (.bool false)))),af 2 14])
 .ret))),false⟩
def et:cH:=⟨46,[.tmp 2],
 (aj [ak 1 (.box 8 true (.t 0) true),aC 2 (.c (.p (.bool false)))]
 (.seq (aj [bQ 9 8 1,bn 10 mb [(.t 9)],ak 11 (.not (.t 10)),af 12 11,⟨some 13,.load 8 true (.t 1),some (12,false)⟩,⟨some 14,.cZ ma [(.t 13)],some (12,false)⟩,⟨some 15,.arith .neq (.t 14) (kI 0),some (12,false)⟩,ak 16 (.pick (.t 12) (.c (.p (.bool true))) (.t 15))]
 (aP 16 (aj [bn 17 eH [],af 2 17]
 .ret) .skip))
 (aj [bQ 19 8 1,bn 20 il [(.t 19)],af 18 20,ak 21 (.extract (.t 18) 0),ak 22 (.extract (.t 18) 1),ak 23 (.extract (.t 18) 2),ak 4 (.alloc lA 5),ak 5 (.alloc lA 5),af 3 21,⟨none,.store 5 (.t 4) (.t 22),none⟩,⟨none,.store 5 (.t 5) (.t 23),none⟩]
 (aj [bQ 25 8 1,bn 26 k6 [(.t 25)],af 24 26,ak 27 (.extract (.t 24) 0),ak 28 (.extract (.t 24) 1),ak 29 (.extract (.t 24) 2),ak 7 (.alloc lA 5),ak 8 (.alloc lA 5),af 6 27,⟨none,.store 5 (.t 7) (.t 28),none⟩,⟨none,.store 5 (.t 8) (.t 29),none⟩]
 (aj [af 30 3,af 31 6,bn 32 iZ [(.t 30),(.t 31)],af 33 32,⟨some 34,.load 5 true (.t 4),some (33,true)⟩,⟨some 35,.load 5 true (.t 7),some (33,true)⟩,⟨some 36,.cZ gI [(.t 34),(.t 35)],some (33,true)⟩,ak 37 (.pick (.t 33) (.t 36) (.c (.p (.bool false)))),af 38 37,⟨some 39,.load 5 true (.t 5),some (38,true)⟩,⟨some 40,.load 5 true (.t 8),some (38,true)⟩,⟨some 41,.cZ gI [(.t 39),(.t 40)],some (38,true)⟩,ak 42 (.pick (.t 38) (.t 41) (.c (.p (.bool false)))),af 43 42,⟨some 44,.cZ eH [],some (43,true)⟩,ak 45 (.pick (.t 43) (.t 44) (.c (.p (.bool false)))),af 2 45]
 .ret))))),false⟩
def dV:cH:=⟨51,[.tmp 2],
 (aj [ak 1 (.box 8 true (.t 0) true),aC 2 (.c (.p (.bool false)))]
 (.seq (aj [bQ 9 8 1,bn 10 mb [(.t 9)],ak 11 (.not (.t 10))]
 (aP 11 (aj [bn 12 eH [],af 2 12]
 .ret) .skip))
 (aj [bQ 14 8 1,bn 15 jn [(.t 14)],af 13 15,ak 16 (.extract (.t 13) 0),ak 17 (.extract (.t 13) 1),ak 3 (.init 8 true (.t 16) true),af 4 17]
 (aj [bQ 19 8 1,bn 20 mN [(.t 19)],af 18 20,ak 21 (.extract (.t 18) 0),ak 22 (.extract (.t 18) 1),ak 5 (.init 8 true (.t 21) true),af 6 22]
 (.seq (aj [af 23 4,af 24 6,aF 25 .neq (.t 23) (.t 24),af 26 25,⟨some 27,.load 8 true (.t 3),some (26,false)⟩,⟨some 28,.load 8 true (.t 5),some (26,false)⟩,⟨some 29,.cZ qK [(.t 27),(.t 28)],some (26,false)⟩,⟨some 30,.not (.t 29),some (26,false)⟩,ak 31 (.pick (.t 26) (.c (.p (.bool true))) (.t 30))]
 (aP 31 (aj [aC 2 (.c (.p (.bool false)))]
 .ret) .skip))
 (aj [bQ 33 8 3,bn 34 jn [(.t 33)],af 32 34,ak 35 (.extract (.t 32) 0),ak 36 (.extract (.t 32) 1),ak 7 (.init 8 true (.t 35) true),af 8 36]
 (aj [af 37 4,aF 38 .neq (.t 37) (kI 0),af 39 38,⟨some 40,.mv (.t 8) false,some (39,false)⟩,⟨some 41,.arith .neq (.t 40) (kI 0),some (39,false)⟩,ak 42 (.pick (.t 39) (.c (.p (.bool true))) (.t 41)),af 43 42,⟨some 44,.load 8 true (.t 7),some (43,false)⟩,⟨some 45,.load 8 true (.t 1),some (43,false)⟩,⟨some 46,.cZ qK [(.t 44),(.t 45)],some (43,false)⟩,ak 47 (.pick (.t 43) (.c (.p (.bool true))) (.t 46)),af 48 47,⟨some 49,.cZ eH [],some (48,true)⟩,ak 50 (.pick (.t 48) (.t 49) (.c (.p (.bool false)))),af 2 50]
 .ret))))))),false⟩
def ou:K :=
 (.seq (aj [af 20 4,aZ 21 7 1,a7 22 21,ak 23 (.bI (.t 22)),aF 24 .lss (.t 20) (.t 23)]
 (aP 24 .skip (.exit 0)))
 (.seq (.block 1 (.cm false [af 27 3,aZ 28 7 1,a7 29 28,af 30 4,ak 31 (.au 11 (.t 29) (.t 30)),aZ 32 6 31,bQ 33 5 32,ak 34 (.fp 5 lA 1 [(0,5,(.t 33))]),ak 35 (.append 5 64 (.t 27) (.t 34)),ak 3 (.mv (.t 35) true)]))
 (.cm false [af 25 4,aF 26 .add (.t 25) (kI 1),af 4 26])))
def CI:K:=.loop [1,3,4] ou
def ox:K :=
 (.seq (aj [af 36 5,af 37 3,ak 38 (.bI (.t 37)),aF 39 .lss (.t 36) (.t 38)]
 (aP 39 .skip (.exit 2)))
 (.seq (.block 3 (aj [af 43 3,af 44 5,ak 45 (.au 5 (.t 43) (.t 44)),bQ 46 5 45,bn 47 qE [(.t 46),(kI 20),(kI 40)],af 42 47,ak 48 (.extract (.t 42) 0),ak 49 (.extract (.t 42) 1),ak 6 (.init 5 true (.t 48) true),af 7 49]
 (aj [af 50 7,ak 51 (.not (.t 50))]
 (aP 51 (aj [aC 2 (.c (.p (.bool false)))]
 .ret) .skip))))
 (.cm false [af 40 5,aF 41 .add (.t 40) (kI 1),af 5 41])))
def yN:K:=.loop [3,5] ox
def nU:cH:=⟨52,[.tmp 2],
 (aj [ak 1 (.box 8 true (.t 0) true),aC 2 (.c (.p (.bool false)))]
 (.seq (aj [aZ 8 1 1,a7 9 8,ak 10 (.bI (.t 9)),aF 11 .gtr (.t 10) (kI 6),af 12 11,⟨some 13,.bH 7 (.t 1),some (12,false)⟩,⟨some 14,.load 1 false (.t 13),some (12,false)⟩,⟨some 15,.bI (.t 14),some (12,false)⟩,⟨some 16,.arith .gtr (.t 15) (kI 10),some (12,false)⟩,ak 17 (.pick (.t 12) (.c (.p (.bool true))) (.t 16))]
 (aP 17 (aj [aC 2 (.c (.p (.bool false)))]
 .ret) .skip))
 (aj [bQ 18 8 1,ak 19 (.Gs u7 [(.t 18)]),ak 3 (.mv (.t 19) true)]
 (.seq (aj [aC 4 (kI 0)]
 (.block 0 CI))
 (.seq (aj [aC 5 (kI 0)]
 (.block 2 yN))
 (aj [aC 2 (.c (.p (.bool true)))]
 .ret)))))),false⟩
def rQ:cH:=⟨58,[.tmp 0],
 (aj [aC 0 (.c (.p (.bool false)))]
 (aj [bn 8 iX [(.c (.p (.str (bs [97])))),(kI 0)],bn 9 iX [(.c (.p (.str (bs [97])))),(kI 0)],ak 10 (.fp 5 lA 2 [(0,5,(.t 8)),(1,5,(.t 9))]),ak 11 (.build lA [(0,1,(kI 8)),(4,1,(.t 10))]),ak 12 (.build [(.p (.str (bs []))),(.p (.int .i64 0)),(.p (.int .i64 0)),(.p (.int .u64 0)),(.p (.str (bs []))),.aA] [(1,5,(.t 11))]),ak 13 (.fp 6 [(.p (.str (bs []))),(.p (.int .i64 0)),(.p (.int .i64 0)),(.p (.int .u64 0)),(.p (.str (bs []))),.aA] 1 [(0,6,(.t 12))]),bn 14 iX [(.c (.p (.str (bs [97])))),(kI 0)],ak 15 (.build lA [(0,1,(kI 2)),(2,1,(.c (.p (.int .u64 1))))]),ak 16 (.dE 5 lA 2 [(0,5,(.t 14)),(1,5,(.t 15))]),ak 17 (.build lA [(0,1,(kI 13)),(4,1,(.t 16))]),ak 18 (.build [(.p (.str (bs []))),.aA,(.p (.int .i64 0)),(.p (.int .i64 0)),(.p (.int .u64 0)),(.p (.str (bs []))),.aA,.aA] [(0,1,(.c (.p (.str (bs [100,111,117,98,108,101]))))),(1,1,(.t 13)),(2,5,(.t 17))]),ak 1 (.init 8 true (.t 18) false)]
 (aj [bQ 20 8 1,bn 21 fW [(.t 20),(kI 3)],af 19 21,ak 22 (.extract (.t 19) 0),ak 23 (.extract (.t 19) 1),ak 24 (.extract (.t 19) 2),af 2 22,af 3 23,af 4 24]
 (aj [bn 25 iX [(.c (.p (.str (bs [97])))),(kI 0)],aZ 26 2 1,⟨none,.store 5 (.t 26) (.t 25),none⟩]
 (aj [bQ 28 8 1,bn 29 fW [(.t 28),(kI 3)],af 27 29,ak 30 (.extract (.t 27) 0),ak 31 (.extract (.t 27) 1),ak 32 (.extract (.t 27) 2),af 5 30,af 6 31,af 7 32]
 (aj [af 33 2,af 34 33,⟨some 35,.mv (.t 3) false,some (34,true)⟩,⟨some 36,.arith .eql (.t 35) (kI 0),some (34,true)⟩,ak 37 (.pick (.t 34) (.t 36) (.c (.p (.bool false)))),af 38 37,⟨some 39,.mv (.t 4) false,some (38,true)⟩,⟨some 40,.arith .eql (.t 39) (kI 0),some (38,true)⟩,ak 41 (.pick (.t 38) (.t 40) (.c (.p (.bool false)))),af 42 41,⟨some 43,.mv (.t 5) false,some (42,true)⟩,⟨some 44,.not (.t 43),some (42,true)⟩,ak 45 (.pick (.t 42) (.t 44) (.c (.p (.bool false)))),af 46 45,⟨some 47,.mv (.t 6) false,some (46,true)⟩,⟨some 48,.arith .eql (.t 47) (kI 1),some (46,true)⟩,ak 49 (.pick (.t 46) (.t 48) (.c (.p (.bool false)))),af 50 49,⟨some 51,.mv (.t 7) false,some (50,true)⟩,⟨some 52,.arith .eql (.t 51) (kI 0),some (50,true)⟩,ak 53 (.pick (.t 50) (.t 52) (.c (.p (.bool false)))),af 54 53,⟨some 55,.load 8 true (.t 1),some (54,true)⟩,⟨some 56,.cZ fB [(.t 55)],some (54,true)⟩,ak 57 (.pick (.t 54) (.t 56) (.c (.p (.bool false)))),af 0 57]
 .ret)))))),false⟩
def mr:K :=
 (aj [aF 17 .lss (.t 16) (.t 15)]
 (.seq (aP 17 .skip (.exit 0))
 (.seq (.block 1 (aj [ak 18 (.au 1 (.t 14) (.t 16)),a7 19 18,af 4 19]
 (aj [af 20 4,ak 21 (.rE (.t 20) []),af 5 21]
 (aj [af 22 5,aF 23 .neq (.t 22) (kI 0)]
 (aP 23 (aj [af 24 5,af 2 24]
 .ret) .skip)))))
 (.cm false [aF 25 .add (.t 16) (kI 1),af 16 25]))))
def wY:K:=.loop [14,15,16] mr
def rh:cH:=⟨26,[.tmp 2],
 (aj [ak 1 (.box 8 true (.t 0) true),aC 2 (kI 0)]
 (.seq (aj [ak 6 (.AD gJ [(.t 1)]),ak 7 (.AD fA [(.t 1)]),ak 8 (.AD gK [(.t 1)]),ak 9 (.AD gL [(.t 1)]),ak 10 (.AD gM [(.t 1)]),ak 11 (.AD gN [(.t 1)]),ak 12 (.AD gO [(.t 1)]),ak 13 (.AD gP [(.t 1)]),ak 14 (.fp 1 [(.p .Aa)] 8 [(0,1,(.t 6)),(1,1,(.t 7)),(2,1,(.t 8)),(3,1,(.t 9)),(4,1,(.t 10)),(5,1,(.t 11)),(6,1,(.t 12)),(7,1,(.t 13))]),ak 15 (.bI (.t 14)),aC 16 (kI 0)]
 (.block 0 wY))
 (aj [aC 2 (kI 0)]
 .ret))),false⟩
def ot:K :=
 (.seq (aj [af 43 6,aZ 44 7 1,a7 45 44,ak 46 (.bI (.t 45)),aF 47 .lss (.t 43) (.t 46)]
 (aP 47 .skip (.exit 0)))
 (.seq (.block 1 (aj [aZ 50 7 1,a7 51 50,af 52 6,ak 53 (.au 11 (.t 51) (.t 52)),bQ 54 11 53,af 55 4,af 56 5,bn 57 qJ [(.t 54),(.t 55),(.t 56)],af 3 57]
 (aj [af 58 3,aF 59 .neq (.t 58) (kI 0)]
 (aP 59 (aj [af 60 3,af 2 60]
 .ret) .skip))))
 (.cm false [af 48 6,aF 49 .add (.t 48) (kI 1),af 6 49])))
def rm:K:=.loop [1,4,5,6] ot
def jh:cH:=⟨61,[.tmp 2],
 (aj [ak 1 (.box 8 true (.t 0) true),aC 2 (kI 0)]
 (.seq (aj [aZ 7 0 1,a7 8 7,bn 9 oI [(.t 8)],ak 10 (.not (.t 9))]
 (aP 10 (aj [aC 2 (kI 5)]
 .ret) .skip))
 (aj [bQ 11 8 1,bn 12 tg [(.t 11)],af 3 12]
 (.seq (aj [af 13 3,aF 14 .neq (.t 13) (kI 0)]
 (aP 14 (aj [af 15 3,af 2 15]
 .ret) .skip))
 (aj [aZ 16 2 1,bQ 17 5 16,bn 18 kA [(.t 17),(.c (.p (.bool true)))],af 3 18]
 (.seq (aj [af 19 3,aF 20 .neq (.t 19) (kI 0)]
 (aP 20 (aj [af 21 3,af 2 21]
 .ret) .skip))
 (aj [bQ 23 8 1,bn 24 nZ [(.t 23)],af 22 24,ak 25 (.extract (.t 22) 0),ak 26 (.extract (.t 22) 1),af 4 25,af 5 26]
 (.seq (aj [aZ 27 2 1,bQ 28 5 27,af 29 4,af 30 5,bn 31 fh [(.t 28),(.t 29),(.t 30)],ak 32 (.not (.t 31))]
 (aP 32 (aj [aC 2 (kI 12)]
 .ret) .skip))
 (.seq (.seq (.cm true [aZ 33 2 1,aZ 34 1 33,a7 35 34,aZ 36 1 1,a7 37 36,ak 38 (.au 6 (.t 37) (kI 0)),aZ 39 1 38,aZ 40 1 39,a7 41 40,aF 42 .neq (.t 35) (.t 41)])
 (aP 42 (aj [aC 2 (kI 3)]
 .ret) .skip))
 (.seq (aj [aC 6 (kI 0)]
 (.block 0 rm))
 (aj [aC 2 (kI 0)]
 .ret))))))))))),false⟩
def ow:K :=
 (aj [aF 31 .lss (.t 30) (.t 29)]
 (.seq (aP 31 .skip (.exit 0))
 (.seq (.block 1 (aj [ak 32 (.au 6 (.t 28) (.t 30)),bQ 33 6 32,ak 8 (.init 6 true (.t 33) true)]
 (aj [aZ 35 1 8,bQ 36 5 35,af 37 1,bn 38 iY [(.t 36),(.t 37)],af 34 38,ak 39 (.extract (.t 34) 0),ak 40 (.extract (.t 34) 1),ak 9 (.init 5 true (.t 39) true),af 10 40]
 (.seq (aj [af 41 10,aF 42 .neq (.t 41) (kI 0)]
 (aP 42 (aj [ak 43 (.build [(.p (.str (bs []))),.aA,(.p (.int .i64 0)),(.p (.int .i64 0)),(.p (.int .u64 0)),(.p (.str (bs []))),.aA,.aA] []),af 44 10,⟨none,.store 8 (.t 4) (.t 43),none⟩,af 5 44]
 .ret) .skip))
 (.cm false [aZ 45 1 6,a7 46 45,aZ 47 0 8,a7 48 47,bQ 49 5 9,ak 50 (.build [(.p (.str (bs []))),(.p (.int .i64 0)),(.p (.int .i64 0)),(.p (.int .u64 0)),(.p (.str (bs []))),.aA] [(0,1,(.t 48)),(1,5,(.t 49))]),ak 51 (.fp 6 [(.p (.str (bs []))),(.p (.int .i64 0)),(.p (.int .i64 0)),(.p (.int .u64 0)),(.p (.str (bs []))),.aA] 1 [(0,6,(.t 50))]),ak 52 (.append 6 80 (.t 46) (.t 51)),aZ 53 1 6,⟨none,.store 1 (.t 53) (.t 52),none⟩])))))
 (.cm false [aF 54 .add (.t 30) (kI 1),af 30 54]))))
def CL:K:=.loop [1,2,4,6,28,29,30] ow
def sB:K :=
 (aj [aF 72 .lss (.t 71) (.t 70)]
 (.seq (aP 72 .skip (.exit 2))
 (.seq (.block 3 (aj [ak 73 (.au 11 (.t 69) (.t 71)),bQ 74 11 73,ak 14 (.init 11 true (.t 74) true)]
 (aj [bQ 76 11 14,af 77 1,bn 78 tc [(.t 76),(.t 77)],af 75 78,ak 79 (.extract (.t 75) 0),ak 80 (.extract (.t 75) 1),ak 15 (.init 11 true (.t 79) true),af 16 80]
 (.seq (aj [af 81 16,aF 82 .neq (.t 81) (kI 0)]
 (aP 82 (aj [ak 83 (.build [(.p (.str (bs []))),.aA,(.p (.int .i64 0)),(.p (.int .i64 0)),(.p (.int .u64 0)),(.p (.str (bs []))),.aA,.aA] []),af 84 16,⟨none,.store 8 (.t 4) (.t 83),none⟩,af 5 84]
 .ret) .skip))
 (.cm false [aZ 85 7 6,a7 86 85,bQ 87 11 15,ak 88 (.fp 11 [(.p (.int .i64 0)),(.p (.int .i64 0)),(.p (.int .i64 0)),(.p (.int .u64 0)),(.p (.str (bs []))),.aA,(.p (.int .i64 0)),(.p (.int .i64 0)),(.p (.int .u64 0)),(.p (.str (bs []))),.aA] 1 [(0,11,(.t 87))]),ak 89 (.append 11 136 (.t 86) (.t 88)),aZ 90 7 6,⟨none,.store 1 (.t 90) (.t 89),none⟩])))))
 (.cm false [aF 91 .add (.t 71) (kI 1),af 71 91]))))
def CO:K:=.loop [1,4,6,69,70,71] sB
def pt:cH:=⟨93,[.cell 4 8 true,.tmp 5],
 (aj [ak 2 (.box 8 true (.t 0) true),ak 4 (.alloc [(.p (.str (bs []))),.aA,(.p (.int .i64 0)),(.p (.int .i64 0)),(.p (.int .u64 0)),(.p (.str (bs []))),.aA,.aA] 8),aC 5 (kI 0)]
 (.seq (aj [af 17 1,aF 18 .lss (.t 17) (kI 1),af 19 18,⟨some 20,.mv (.t 1) false,some (19,false)⟩,⟨some 21,.arith .gtr (.t 20) (kI 64),some (19,false)⟩,ak 22 (.pick (.t 19) (.c (.p (.bool true))) (.t 21))]
 (aP 22 (aj [ak 23 (.build [(.p (.str (bs []))),.aA,(.p (.int .i64 0)),(.p (.int .i64 0)),(.p (.int .u64 0)),(.p (.str (bs []))),.aA,.aA] []),⟨none,.store 8 (.t 4) (.t 23),none⟩,aC 5 (kI 2)]
 .ret) .skip))
 (aj [aZ 24 0 2,a7 25 24,ak 26 (.build [(.p (.str (bs []))),.aA,(.p (.int .i64 0)),(.p (.int .i64 0)),(.p (.int .u64 0)),(.p (.str (bs []))),.aA,.aA] [(0,1,(.t 25))]),ak 6 (.init 8 true (.t 26) false)]
 (.seq (aj [aZ 27 1 2,a7 28 27,ak 29 (.bI (.t 28)),aC 30 (kI 0)]
 (.block 0 CL))
 (aj [aZ 56 2 2,bQ 57 5 56,af 58 1,bn 59 iY [(.t 57),(.t 58)],af 55 59,ak 60 (.extract (.t 55) 0),ak 61 (.extract (.t 55) 1),ak 11 (.init 5 true (.t 60) true),af 12 61]
 (.seq (aj [af 62 12,aF 63 .neq (.t 62) (kI 0)]
 (aP 63 (aj [ak 64 (.build [(.p (.str (bs []))),.aA,(.p (.int .i64 0)),(.p (.int .i64 0)),(.p (.int .u64 0)),(.p (.str (bs []))),.aA,.aA] []),af 65 12,⟨none,.store 8 (.t 4) (.t 64),none⟩,af 5 65]
 .ret) .skip))
 (aj [bQ 66 5 11,aZ 67 2 6,⟨none,.store 5 (.t 67) (.t 66),none⟩]
 (.seq (aj [aZ 68 7 2,a7 69 68,ak 70 (.bI (.t 69)),aC 71 (kI 0)]
 (.block 2 CO))
 (aj [bQ 92 8 6,⟨none,.store 8 (.t 4) (.t 92),none⟩,aC 5 (kI 0)]
 .ret))))))))),false⟩
def nS:K :=
 (.seq (aj [af 36 5,aZ 37 1 2,a7 38 37,ak 39 (.bI (.t 38)),aF 40 .lss (.t 36) (.t 39)]
 (aP 40 .skip (.exit 0)))
 (.seq (.block 1 (.seq (.cm true [aZ 43 1 2,a7 44 43,af 45 5,ak 46 (.au 6 (.t 44) (.t 45)),aZ 47 0 46,a7 48 47,aZ 49 1 3,a7 50 49,af 51 5,ak 52 (.au 6 (.t 50) (.t 51)),aZ 53 0 52,a7 54 53,aF 55 .neq (.t 48) (.t 54),af 56 55,⟨some 57,.bH 1 (.t 2),some (56,false)⟩,⟨some 58,.load 1 false (.t 57),some (56,false)⟩,⟨some 59,.mv (.t 5) false,some (56,false)⟩,⟨some 60,.au 6 (.t 58) (.t 59),some (56,false)⟩,⟨some 61,.bH 1 (.t 60),some (56,false)⟩,⟨some 62,.load 5 true (.t 61),some (56,false)⟩,⟨some 63,.bH 1 (.t 3),some (56,false)⟩,⟨some 64,.load 1 false (.t 63),some (56,false)⟩,⟨some 65,.mv (.t 5) false,some (56,false)⟩,⟨some 66,.au 6 (.t 64) (.t 65),some (56,false)⟩,⟨some 67,.bH 1 (.t 66),some (56,false)⟩,⟨some 68,.load 5 true (.t 67),some (56,false)⟩,⟨some 69,.cZ gI [(.t 62),(.t 68)],some (56,false)⟩,⟨some 70,.not (.t 69),some (56,false)⟩,ak 71 (.pick (.t 56) (.c (.p (.bool true))) (.t 70))])
 (aP 71 (aj [aC 4 (.c (.p (.bool false)))]
 .ret) .skip)))
 (.cm false [af 41 5,aF 42 .add (.t 41) (kI 1),af 5 42])))
def tD:K:=.loop [2,3,5] nS
def mB:cH:=⟨72,[.tmp 4],
 (aj [ak 2 (.box 8 true (.t 0) true),ak 3 (.box 8 true (.t 1) true),aC 4 (.c (.p (.bool false)))]
 (.seq (aj [aZ 6 0 2,a7 7 6,aZ 8 0 3,a7 9 8,aF 10 .neq (.t 7) (.t 9),af 11 10,⟨some 12,.bH 1 (.t 2),some (11,false)⟩,⟨some 13,.load 1 false (.t 12),some (11,false)⟩,⟨some 14,.bI (.t 13),some (11,false)⟩,⟨some 15,.bH 1 (.t 3),some (11,false)⟩,⟨some 16,.load 1 false (.t 15),some (11,false)⟩,⟨some 17,.bI (.t 16),some (11,false)⟩,⟨some 18,.arith .neq (.t 14) (.t 17),some (11,false)⟩,ak 19 (.pick (.t 11) (.c (.p (.bool true))) (.t 18)),af 20 19,⟨some 21,.bH 2 (.t 2),some (20,false)⟩,⟨some 22,.load 5 true (.t 21),some (20,false)⟩,⟨some 23,.bH 2 (.t 3),some (20,false)⟩,⟨some 24,.load 5 true (.t 23),some (20,false)⟩,⟨some 25,.cZ gI [(.t 22),(.t 24)],some (20,false)⟩,⟨some 26,.not (.t 25),some (20,false)⟩,ak 27 (.pick (.t 20) (.c (.p (.bool true))) (.t 26)),af 28 27,⟨some 29,.bH 7 (.t 2),some (28,false)⟩,⟨some 30,.load 1 false (.t 29),some (28,false)⟩,⟨some 31,.bH 7 (.t 3),some (28,false)⟩,⟨some 32,.load 1 false (.t 31),some (28,false)⟩,⟨some 33,.cZ iN [(.t 30),(.t 32)],some (28,false)⟩,⟨some 34,.not (.t 33),some (28,false)⟩,ak 35 (.pick (.t 28) (.c (.p (.bool true))) (.t 34))]
 (aP 35 (aj [aC 4 (.c (.p (.bool false)))]
 .ret) .skip))
 (.seq (aj [aC 5 (kI 0)]
 (.block 0 tD))
 (aj [aC 4 (.c (.p (.bool true)))]
 .ret)))),false⟩
def qm:cH:=⟨6,[.tmp 2],
 (aj [ak 1 (.box 8 true (.t 0) true),aC 2 (.c (.p (.bool false)))]
 (aj [bQ 3 8 1,bn 4 jJ [(.t 3)],bn 5 aN [(.t 4),(.c (.p (.fn fg [])))],af 2 5]
 .ret)),false⟩
def iE:K :=
 (aj [aF 14 .lss (.t 13) (.t 12)]
 (.seq (aP 14 .skip (.exit 0))
 (.seq (.block 1 (aj [ak 15 (.au 6 (.t 11) (.t 13)),bQ 16 6 15,ak 7 (.init 6 true (.t 16) true)]
 (aj [aZ 17 0 7,a7 18 17,aF 19 .neq (.t 18) (.c (.p (.str (bs []))))]
 (aP 19 (.cm true [af 20 5,bQ 21 6 7,bn 22 oc [(.t 21)],bn 23 bT [(.t 22)],aZ 24 1 7,bQ 25 5 24,bn 26 bT [(.t 25)],ak 27 (.fp 5 lA 2 [(0,5,(.t 23)),(1,5,(.t 26))]),ak 28 (.build lA [(0,1,(kI 16)),(1,1,(kI 1)),(4,1,(.t 27))]),ak 29 (.fp 5 lA 1 [(0,5,(.t 28))]),ak 30 (.append 5 64 (.t 20) (.t 29)),ak 5 (.mv (.t 30) true)]) .skip))))
 (.cm false [aF 31 .add (.t 13) (kI 1),af 13 31]))))
def v8:K:=.loop [1,3,4,5,11,12,13] iE
def kK:K :=
 (aj [aF 36 .lss (.t 35) (.t 34)]
 (.seq (aP 36 .skip (.exit 2))
 (.seq (.block 3 (aj [ak 37 (.au 11 (.t 33) (.t 35)),bQ 38 11 37,ak 9 (.init 11 true (.t 38) true)]
 (.cm false [af 39 5,bQ 40 11 9,bn 41 gG [(.t 40)],bn 42 bT [(.t 41)],ak 43 (.fp 5 lA 1 [(0,5,(.t 42))]),ak 44 (.append 5 64 (.t 39) (.t 43)),ak 5 (.mv (.t 44) true)])))
 (.cm false [aF 45 .add (.t 35) (kI 1),af 35 45]))))
def we:K:=.loop [1,3,4,5,33,34,35] kK
def oZ:cH:=⟨65,[.tmp 2,.cell 3 5 true,.cell 4 5 true],
 (aj [ak 1 (.box 8 true (.t 0) true),aC 2 (.c .aA),ak 3 (.alloc lA 5),ak 4 (.alloc lA 5)]
 (aj [ak 5 (.mv (.c .aA) true)]
 (.seq (aj [aZ 10 1 1,a7 11 10,ak 12 (.bI (.t 11)),aC 13 (kI 0)]
 (.block 0 v8))
 (.seq (aj [aZ 32 7 1,a7 33 32,ak 34 (.bI (.t 33)),aC 35 (kI 0)]
 (.block 2 we))
 (.seq (aj [aZ 46 1 1,a7 47 46,ak 48 (.bI (.t 47)),aF 49 .eql (.t 48) (kI 0)]
 (aP 49 (aj [af 50 5,ak 51 (.build lA []),aZ 52 2 1,bQ 53 5 52,bn 54 bT [(.t 53)],af 2 50,⟨none,.store 5 (.t 3) (.t 51),none⟩,⟨none,.store 5 (.t 4) (.t 54),none⟩]
 .ret) .skip))
 (.seq (.cm true [af 55 5,aZ 56 1 1,a7 57 56,ak 58 (.au 6 (.t 57) (kI 0)),aZ 59 1 58,bQ 60 5 59,bn 61 bT [(.t 60)],aZ 62 2 1,bQ 63 5 62,bn 64 bT [(.t 63)],af 2 55,⟨none,.store 5 (.t 3) (.t 61),none⟩,⟨none,.store 5 (.t 4) (.t 64),none⟩])
 .ret)))))),false⟩
def jC:K :=
 (.seq (aj [af 9 6,aZ 10 1 1,a7 11 10,ak 12 (.bI (.t 11)),aF 13 .lss (.t 9) (.t 12)]
 (aP 13 .skip (.exit 0)))
 (.seq (.block 1 (aj [aZ 16 1 1,a7 17 16,af 18 6,ak 19 (.au 6 (.t 17) (.t 18)),aZ 20 0 19,a7 21 20,aF 22 .neq (.t 21) (.c (.p (.str (bs []))))]
 (aP 22 (.cm true [af 23 5,aZ 24 1 1,a7 25 24,af 26 6,ak 27 (.au 6 (.t 25) (.t 26)),bQ 28 6 27,bn 29 oM [(.t 28)],bn 30 di [(.t 29)],aZ 31 1 1,a7 32 31,af 33 6,ak 34 (.au 6 (.t 32) (.t 33)),aZ 35 1 34,bQ 36 5 35,bn 37 di [(.t 36)],bn 38 lI [(kI 16),(kI 1),(.t 30),(.t 37)],ak 39 (.fp 5 lA 1 [(0,5,(.t 38))]),ak 40 (.append 5 64 (.t 23) (.t 39)),ak 5 (.mv (.t 40) true)]) .skip)))
 (.cm false [af 14 6,aF 15 .add (.t 14) (kI 1),af 6 15])))
def x9:K:=.loop [1,3,4,5,6] jC
def lD:K :=
 (.seq (aj [af 41 7,aZ 42 7 1,a7 43 42,ak 44 (.bI (.t 43)),aF 45 .lss (.t 41) (.t 44)]
 (aP 45 .skip (.exit 2)))
 (.seq (.block 3 (.cm false [af 48 5,aZ 49 7 1,a7 50 49,af 51 7,ak 52 (.au 11 (.t 50) (.t 51)),bQ 53 11 52,bn 54 tf [(.t 53)],bn 55 di [(.t 54)],ak 56 (.fp 5 lA 1 [(0,5,(.t 55))]),ak 57 (.append 5 64 (.t 48) (.t 56)),ak 5 (.mv (.t 57) true)]))
 (.cm false [af 46 7,aF 47 .add (.t 46) (kI 1),af 7 47])))
def yc:K:=.loop [1,3,4,5,7] lD
def qg:cH:=⟨68,[.tmp 2,.cell 3 5 true,.cell 4 5 true],
 (aj [ak 1 (.box 8 true (.t 0) true),aC 2 (.c .aA),ak 3 (.alloc lA 5),ak 4 (.alloc lA 5)]
 (aj [ak 8 (.dE 5 lA 0 []),ak 5 (.mv (.t 8) true)]
 (.seq (aj [aC 6 (kI 0)]
 (.block 0 x9))
 (.seq (aj [aC 7 (kI 0)]
 (.block 2 yc))
 (.seq (.cm true [af 58 5,aZ 59 1 1,a7 60 59,ak 61 (.au 6 (.t 60) (kI 0)),aZ 62 1 61,bQ 63 5 62,bn 64 di [(.t 63)],aZ 65 2 1,bQ 66 5 65,bn 67 di [(.t 66)],af 2 58,⟨none,.store 5 (.t 3) (.t 64),none⟩,⟨none,.store 5 (.t 4) (.t 67),none⟩])
 .ret))))),false⟩
def pX:K :=
 (.seq (aj [af 11 5,af 12 0,ak 13 (.bI (.t 12)),aF 14 .lss (.t 11) (.t 13)]
 (aP 14 .skip (.exit 0)))
 (.seq (.block 1 (.seq (.cm true [af 17 0,af 18 5,ak 19 (.au 5 (.t 17) (.t 18)),bQ 20 5 19,af 21 1,af 22 5,ak 23 (.au 5 (.t 21) (.t 22)),bQ 24 5 23,bn 25 gI [(.t 20),(.t 24)],ak 26 (.not (.t 25))])
 (aP 26 (aj [aC 4 (.c (.p (.bool false)))]
 .ret) .skip)))
 (.cm false [af 15 5,aF 16 .add (.t 15) (kI 1),af 5 16])))
def uQ:K:=.loop [0,1,5] pX
def mz:cH:=⟨27,[.tmp 4],
 (aj [aC 4 (.c (.p (.bool false)))]
 (.seq (aj [af 6 0,ak 7 (.bI (.t 6)),af 8 1,ak 9 (.bI (.t 8)),aF 10 .neq (.t 7) (.t 9)]
 (aP 10 (aj [aC 4 (.c (.p (.bool false)))]
 .ret) .skip))
 (.seq (aj [aC 5 (kI 0)]
 (.block 0 uQ))
 (aj [aC 4 (.c (.p (.bool true)))]
 .ret)))),false⟩
def oy:cH:=⟨38,[.tmp 4],
 (aj [ak 2 (.box 5 true (.t 0) true),ak 3 (.box 5 true (.t 1) true),aC 4 (.c (.p (.bool false)))]
 (aj [aZ 5 0 2,a7 6 5,aZ 7 0 3,a7 8 7,aF 9 .eql (.t 6) (.t 8),af 10 9,⟨some 11,.bH 1 (.t 2),some (10,true)⟩,⟨some 12,.load 1 false (.t 11),some (10,true)⟩,⟨some 13,.bH 1 (.t 3),some (10,true)⟩,⟨some 14,.load 1 false (.t 13),some (10,true)⟩,⟨some 15,.arith .eql (.t 12) (.t 14),some (10,true)⟩,ak 16 (.pick (.t 10) (.t 15) (.c (.p (.bool false)))),af 17 16,⟨some 18,.bH 2 (.t 2),some (17,true)⟩,⟨some 19,.load 1 false (.t 18),some (17,true)⟩,⟨some 20,.bH 2 (.t 3),some (17,true)⟩,⟨some 21,.load 1 false (.t 20),some (17,true)⟩,⟨some 22,.arith .eql (.t 19) (.t 21),some (17,true)⟩,ak 23 (.pick (.t 17) (.t 22) (.c (.p (.bool false)))),af 24 23,⟨some 25,.bH 3 (.t 2),some (24,true)⟩,⟨some 26,.load 1 false (.t 25),some (24,true)⟩,⟨some 27,.bH 3 (.t 3),some (24,true)⟩,⟨some 28,.load 1 false (.t 27),some (24,true)⟩,⟨some 29,.arith .eql (.t 26) (.t 28),some (24,true)⟩,ak 30 (.pick (.t 24) (.t 29) (.c (.p (.bool false)))),af 31 30,⟨some 32,.bH 4 (.t 2),some (31,true)⟩,⟨some 33,.load 1 false (.t 32),some (31,true)⟩,⟨some 34,.bH 4 (.t 3),some (31,true)⟩,⟨some 35,.load 1 false (.t 34),some (31,true)⟩,⟨some 36,.cZ iZ [(.t 33),(.t 35)],some (31,true)⟩,ak 37 (.pick (.t 31) (.t 36) (.c (.p (.bool false)))),af 4 37]
 .ret)),false⟩
def oB:cH:=⟨22,[.tmp 2,.tmp 3,.tmp 4],
 (aj [ak 1 (.box 8 true (.t 0) true),aC 2 (.c (.p (.bool false))),aC 3 (.c .aA),aC 4 (kI 0)]
 (.seq (aj [bQ 6 8 1,bn 7 ja [(.t 6)],af 5 7]
 (aj [af 8 5,aF 9 .neq (.t 8) (kI 0)]
 (aP 9 (aj [af 10 5,aC 2 (.c (.p (.bool false))),aC 3 (.c .aA),af 4 10]
 .ret) .skip)))
 (.seq (aj [bQ 11 8 1,bn 12 fB [(.t 11)]]
 (aP 12 (aj [aC 2 (.c (.p (.bool false))),aC 3 (.c .aA),aC 4 (kI 3)]
 .ret) .skip))
 (aj [bQ 13 8 1,bn 14 il [(.t 13)],ak 15 (.extract (.t 14) 0),ak 16 (.extract (.t 14) 1),ak 17 (.extract (.t 14) 2),bn 18 ic [(.t 15),(.t 16),(.t 17)],ak 19 (.extract (.t 18) 0),ak 20 (.extract (.t 18) 1),ak 21 (.extract (.t 18) 2),af 2 19,af 3 20,af 4 21]
 .ret)))),false⟩
def cC:K :=
 (.seq (aj [af 27 9,af 28 8,aF 29 .leq (.t 27) (.t 28)]
 (aP 29 .skip (.exit 0)))
 (.seq (.block 1 (aj [bQ 32 8 2,ak 10 (.init 8 true (.t 32) false)]
 (.seq (aj [bQ 33 8 2,bn 34 fB [(.t 33)]]
 (aP 34 (aj [bQ 36 8 2,af 37 9,bn 38 wu [(.t 36),(.t 37)],af 35 38,ak 39 (.extract (.t 35) 0),ak 40 (.extract (.t 35) 1),ak 11 (.init 8 true (.t 39) true),af 12 40]
 (.seq (aj [af 41 12,aF 42 .neq (.t 41) (kI 0)]
 (aP 42 (aj [af 43 9,af 44 12,aC 4 (.c (.p (.bool false))),af 5 43,af 6 44]
 .ret) .skip))
 (.cm false [bQ 45 8 11,⟨none,.store 8 (.t 10) (.t 45),none⟩]))) .skip))
 (aj [bQ 47 8 10,bn 48 oN [(.t 47)],af 46 48,ak 49 (.extract (.t 46) 0),ak 50 (.extract (.t 46) 1),ak 51 (.extract (.t 46) 2),af 13 49,af 14 50,af 15 51]
 (aj [af 52 15,aF 53 .neq (.t 52) (kI 0),af 54 53,⟨some 55,.mv (.t 13) false,some (54,false)⟩,⟨some 56,.not (.t 55),some (54,false)⟩,ak 57 (.pick (.t 54) (.c (.p (.bool true))) (.t 56))]
 (aP 57 (aj [af 58 9,af 59 15,aC 4 (.c (.p (.bool false))),af 5 58,af 6 59]
 .ret) .skip))))))
 (.cm false [af 30 9,aF 31 .add (.t 30) (kI 1),af 9 31])))
def fe:K:=.loop [2,8,9] cC
def eP:cH:=⟨60,[.tmp 4,.tmp 5,.tmp 6],
 (aj [ak 2 (.box 8 true (.t 0) true),aC 4 (.c (.p (.bool false))),aC 5 (kI 0),aC 6 (kI 0)]
 (.seq (aj [bQ 16 8 2,bn 17 ja [(.t 16)],af 7 17]
 (aj [af 18 7,aF 19 .neq (.t 18) (kI 0)]
 (aP 19 (aj [af 20 7,aC 4 (.c (.p (.bool false))),aC 5 (kI 1),af 6 20]
 .ret) .skip)))
 (aj [af 21 1,ak 22 (.wE true [(.t 21),(kI 1)]),ak 23 (.wE false [(.t 22),(kI 8)]),af 8 23]
 (.seq (aj [bQ 24 8 2,bn 25 fB [(.t 24)],ak 26 (.not (.t 25))]
 (aP 26 (.cm false [aC 8 (kI 1)]) .skip))
 (.seq (aj [aC 9 (kI 1)]
 (.block 0 fe))
 (aj [aC 4 (.c (.p (.bool true))),aC 5 (kI 0),aC 6 (kI 0)]
 .ret)))))),false⟩
def uv:K :=
 (.seq (aj [af 7 5,aZ 8 1 1,a7 9 8,ak 10 (.bI (.t 9)),aF 11 .lss (.t 7) (.t 10)]
 (aP 11 .skip (.exit 0)))
 (.seq (.block 1 (.seq (aj [aZ 14 1 1,a7 15 14,af 16 5,ak 17 (.au 6 (.t 15) (.t 16)),aZ 18 0 17,a7 19 18,aF 20 .neq (.t 19) (.c (.p (.str (bs []))))]
 (aP 20 (.cm false [af 21 4,aZ 22 1 1,a7 23 22,af 24 5,ak 25 (.au 6 (.t 23) (.t 24)),bQ 26 6 25,bn 27 oM [(.t 26)],ak 28 (.fp 5 lA 1 [(0,5,(.t 27))]),ak 29 (.append 5 64 (.t 21) (.t 28)),ak 4 (.mv (.t 29) true)]) .skip))
 (.cm false [af 30 4,aZ 31 1 1,a7 32 31,af 33 5,ak 34 (.au 6 (.t 32) (.t 33)),aZ 35 1 34,bQ 36 5 35,ak 37 (.fp 5 lA 1 [(0,5,(.t 36))]),ak 38 (.append 5 64 (.t 30) (.t 37)),ak 4 (.mv (.t 38) true)])))
 (.cm false [af 12 5,aF 13 .add (.t 12) (kI 1),af 5 13])))
def CJ:K:=.loop [1,4,5] uv
def xF:cH:=⟨43,[.tmp 2,.tmp 3],
 (aj [ak 1 (.box 8 true (.t 0) true),aC 2 (.c .aA),aC 3 (.c .aA)]
 (aj [ak 6 (.dE 5 lA 0 []),ak 4 (.mv (.t 6) true)]
 (.seq (aj [aC 5 (kI 0)]
 (.block 0 CJ))
 (aj [af 39 4,bn 40 mM [(kI 24),(.t 39)],af 41 4,bn 42 mM [(kI 25),(.t 41)],af 2 40,af 3 42]
 .ret)))),false⟩
def km:cH:=⟨21,[.tmp 2],
 (aj [ak 1 (.box 8 true (.t 0) true),aC 2 (.c (.p (.bool false)))]
 (aj [aZ 3 1 1,a7 4 3,ak 5 (.bI (.t 4)),aF 6 .eql (.t 5) (kI 1),af 7 6,⟨some 8,.bH 1 (.t 1),some (7,true)⟩,⟨some 9,.load 1 false (.t 8),some (7,true)⟩,⟨some 10,.au 6 (.t 9) (kI 0),some (7,true)⟩,⟨some 11,.bH 0 (.t 10),some (7,true)⟩,⟨some 12,.load 1 false (.t 11),some (7,true)⟩,⟨some 13,.arith .eql (.t 12) (.c (.p (.str (bs [])))),some (7,true)⟩,ak 14 (.pick (.t 7) (.t 13) (.c (.p (.bool false)))),af 15 14,⟨some 16,.bH 7 (.t 1),some (15,true)⟩,⟨some 17,.load 1 false (.t 16),some (15,true)⟩,⟨some 18,.bI (.t 17),some (15,true)⟩,⟨some 19,.arith .eql (.t 18) (kI 0),some (15,true)⟩,ak 20 (.pick (.t 15) (.t 19) (.c (.p (.bool false)))),af 2 20]
 .ret)),false⟩
def lU:cH:=⟨21,[.tmp 2],
 (aj [ak 1 (.box 8 true (.t 0) true),aC 2 (.c (.p (.bool false)))]
 (aj [aZ 3 1 1,a7 4 3,ak 5 (.bI (.t 4)),aF 6 .eql (.t 5) (kI 1),af 7 6,⟨some 8,.bH 1 (.t 1),some (7,true)⟩,⟨some 9,.load 1 false (.t 8),some (7,true)⟩,⟨some 10,.au 6 (.t 9) (kI 0),some (7,true)⟩,⟨some 11,.bH 0 (.t 10),some (7,true)⟩,⟨some 12,.load 1 false (.t 11),some (7,true)⟩,⟨some 13,.arith .eql (.t 12) (.c (.p (.str (bs [])))),some (7,true)⟩,ak 14 (.pick (.t 7) (.t 13) (.c (.p (.bool false)))),af 15 14,⟨some 16,.bH 7 (.t 1),some (15,true)⟩,⟨some 17,.load 1 false (.t 16),some (15,true)⟩,⟨some 18,.bI (.t 17),some (15,true)⟩,⟨some 19,.arith .eql (.t 18) (kI 0),some (15,true)⟩,ak 20 (.pick (.t 15) (.t 19) (.c (.p (.bool false)))),af 2 20]
 .ret)),false⟩
def uG:cH:=⟨7,[.tmp 2],
 (aj [ak 1 (.box 8 true (.t 0) true),aC 2 (.c .aA)]
 (aj [aZ 3 1 1,a7 4 3,bn 5 j8 [(.t 4)],bn 6 eK [(.t 5)],af 2 6]
 .ret)),false⟩
def xG:cH:=⟨7,[.tmp 2],
 (aj [ak 1 (.box 8 true (.t 0) true),aC 2 (.c .aA)]
 (aj [aZ 3 1 1,a7 4 3,bn 5 j8 [(.t 4)],bn 6 fw [(.t 5)],af 2 6]
 .ret)),false⟩
def fo:cH:=⟨57,[.cell 2 8 true,.tmp 3],
 (aj [ak 1 (.box 8 true (.t 0) true),ak 2 (.alloc [(.p (.str (bs []))),.aA,(.p (.int .i64 0)),(.p (.int .i64 0)),(.p (.int .u64 0)),(.p (.str (bs []))),.aA,.aA] 8),aC 3 (kI 0)]
 (.seq (aj [bQ 6 8 1,bn 7 ja [(.t 6)],af 4 7]
 (aj [af 8 4,aF 9 .neq (.t 8) (kI 0)]
 (aP 9 (aj [ak 10 (.build [(.p (.str (bs []))),.aA,(.p (.int .i64 0)),(.p (.int .i64 0)),(.p (.int .u64 0)),(.p (.str (bs []))),.aA,.aA] []),af 11 4,⟨none,.store 8 (.t 2) (.t 10),none⟩,af 3 11]
 .ret) .skip)))
 (.seq (aj [bQ 12 8 1,bn 13 mO [(.t 12)],ak 14 (.not (.t 13)),af 15 14,⟨some 16,.bH 2 (.t 1),some (15,false)⟩,⟨some 17,.load 5 true (.t 16),some (15,false)⟩,⟨some 18,.cZ eR [(.t 17)],some (15,false)⟩,ak 19 (.pick (.t 15) (.c (.p (.bool true))) (.t 18))]
 (aP 19 (aj [ak 20 (.build [(.p (.str (bs []))),.aA,(.p (.int .i64 0)),(.p (.int .i64 0)),(.p (.int .u64 0)),(.p (.str (bs []))),.aA,.aA] []),⟨none,.store 8 (.t 2) (.t 20),none⟩,aC 3 (kI 1)]
 .ret) .skip))
 (aj [aZ 21 1 1,a7 22 21,ak 23 (.au 6 (.t 22) (kI 0)),aZ 24 1 23,bQ 25 5 24,ak 5 (.init 5 true (.t 25) true)]
 (.seq (.seq (.cm true [bQ 26 5 5,ak 27 (.fp 5 lA 1 [(0,5,(.t 26))]),bn 28 eK [(.t 27)],aZ 29 2 1,bQ 30 5 29,ak 31 (.fp 5 lA 1 [(0,5,(.t 30))]),bn 32 eK [(.t 31)],bn 33 kB [(.t 28),(.t 32)],ak 34 (.not (.t 33)),af 35 34,⟨some 36,.load 5 true (.t 5),some (35,false)⟩,⟨some 37,.fp 5 lA 1 [(0,5,(.t 36))],some (35,false)⟩,⟨some 38,.cZ fw [(.t 37)],some (35,false)⟩,⟨some 39,.bH 2 (.t 1),some (35,false)⟩,⟨some 40,.load 5 true (.t 39),some (35,false)⟩,⟨some 41,.fp 5 lA 1 [(0,5,(.t 40))],some (35,false)⟩,⟨some 42,.cZ fw [(.t 41)],some (35,false)⟩,⟨some 43,.cZ kB [(.t 38),(.t 42)],some (35,false)⟩,⟨some 44,.not (.t 43),some (35,false)⟩,ak 45 (.pick (.t 35) (.c (.p (.bool true))) (.t 44))])
 (aP 45 (aj [ak 46 (.build [(.p (.str (bs []))),.aA,(.p (.int .i64 0)),(.p (.int .i64 0)),(.p (.int .u64 0)),(.p (.str (bs []))),.aA,.aA] []),⟨none,.store 8 (.t 2) (.t 46),none⟩,aC 3 (kI 12)]
 .ret) .skip))
 (.seq (.cm true [aZ 47 0 1,a7 48 47,aZ 49 2 1,bQ 50 5 49,bn 51 fX [(.t 50)],ak 52 (.build [(.p (.str (bs []))),(.p (.int .i64 0)),(.p (.int .i64 0)),(.p (.int .u64 0)),(.p (.str (bs []))),.aA] [(1,5,(.t 51))]),ak 53 (.fp 6 [(.p (.str (bs []))),(.p (.int .i64 0)),(.p (.int .i64 0)),(.p (.int .u64 0)),(.p (.str (bs []))),.aA] 1 [(0,6,(.t 52))]),bQ 54 5 5,bn 55 fX [(.t 54)],ak 56 (.build [(.p (.str (bs []))),.aA,(.p (.int .i64 0)),(.p (.int .i64 0)),(.p (.int .u64 0)),(.p (.str (bs []))),.aA,.aA] [(0,1,(.t 48)),(1,1,(.t 53)),(2,5,(.t 55))]),⟨none,.store 8 (.t 2) (.t 56),none⟩,aC 3 (kI 0)])
 .ret)))))),false⟩
def iV:cH:=⟨48,[.cell 2 8 true,.tmp 3],
 (aj [ak 1 (.box 8 true (.t 0) true),ak 2 (.alloc [(.p (.str (bs []))),.aA,(.p (.int .i64 0)),(.p (.int .i64 0)),(.p (.int .u64 0)),(.p (.str (bs []))),.aA,.aA] 8),aC 3 (kI 0)]
 (aj [bQ 6 8 1,bn 7 ma [(.t 6)],af 4 7]
 (.seq (aj [af 8 4,aF 9 .neq (.t 8) (kI 0)]
 (aP 9 (aj [ak 10 (.build [(.p (.str (bs []))),.aA,(.p (.int .i64 0)),(.p (.int .i64 0)),(.p (.int .u64 0)),(.p (.str (bs []))),.aA,.aA] []),af 11 4,⟨none,.store 8 (.t 2) (.t 10),none⟩,af 3 11]
 .ret) .skip))
 (.seq (aj [bQ 12 8 1,bn 13 oL [(.t 12)],ak 14 (.not (.t 13)),af 15 14,⟨some 16,.bH 2 (.t 1),some (15,false)⟩,⟨some 17,.load 5 true (.t 16),some (15,false)⟩,⟨some 18,.cZ qM [(.t 17)],some (15,false)⟩,ak 19 (.pick (.t 15) (.c (.p (.bool true))) (.t 18))]
 (aP 19 (aj [ak 20 (.build [(.p (.str (bs []))),.aA,(.p (.int .i64 0)),(.p (.int .i64 0)),(.p (.int .u64 0)),(.p (.str (bs []))),.aA,.aA] []),⟨none,.store 8 (.t 2) (.t 20),none⟩,aC 3 (kI 1)]
 .ret) .skip))
 (aj [aZ 21 2 1,bQ 22 5 21,ak 23 (.fp 5 lA 1 [(0,5,(.t 22))]),af 5 23]
 (.seq (.seq (.cm true [aZ 24 1 1,a7 25 24,ak 26 (.au 6 (.t 25) (kI 0)),aZ 27 1 26,bQ 28 5 27,af 29 5,bn 30 mM [(kI 24),(.t 29)],af 31 5,bn 32 mM [(kI 25),(.t 31)],bn 33 fh [(.t 28),(.t 30),(.t 32)],ak 34 (.not (.t 33))])
 (aP 34 (aj [ak 35 (.build [(.p (.str (bs []))),.aA,(.p (.int .i64 0)),(.p (.int .i64 0)),(.p (.int .u64 0)),(.p (.str (bs []))),.aA,.aA] []),⟨none,.store 8 (.t 2) (.t 35),none⟩,aC 3 (kI 12)]
 .ret) .skip))
 (.seq (.cm true [aZ 36 0 1,a7 37 36,aZ 38 2 1,bQ 39 5 38,ak 40 (.build [(.p (.str (bs []))),(.p (.int .i64 0)),(.p (.int .i64 0)),(.p (.int .u64 0)),(.p (.str (bs []))),.aA] [(1,5,(.t 39))]),ak 41 (.fp 6 [(.p (.str (bs []))),(.p (.int .i64 0)),(.p (.int .i64 0)),(.p (.int .u64 0)),(.p (.str (bs []))),.aA] 1 [(0,6,(.t 40))]),aZ 42 1 1,a7 43 42,ak 44 (.au 6 (.t 43) (kI 0)),aZ 45 1 44,bQ 46 5 45,ak 47 (.build [(.p (.str (bs []))),.aA,(.p (.int .i64 0)),(.p (.int .i64 0)),(.p (.int .u64 0)),(.p (.str (bs []))),.aA,.aA] [(0,1,(.t 37)),(1,1,(.t 41)),(2,5,(.t 46))]),⟨none,.store 8 (.t 2) (.t 47),none⟩,aC 3 (kI 0)])
 .ret))))))),false⟩
def lC:K :=
 (.seq (aj [af 7 4,aZ 8 1 1,a7 9 8,ak 10 (.bI (.t 9)),aF 11 .lss (.t 7) (.t 10)]
 (aP 11 .skip (.exit 0)))
 (.seq (.block 1 (.cm false [af 14 3,aZ 15 1 1,a7 16 15,af 17 4,ak 18 (.au 6 (.t 16) (.t 17)),aZ 19 1 18,bQ 20 5 19,ak 21 (.fp 5 lA 1 [(0,5,(.t 20))]),ak 22 (.append 5 64 (.t 14) (.t 21)),ak 3 (.mv (.t 22) true)]))
 (.cm false [af 12 4,aF 13 .add (.t 12) (kI 1),af 4 13])))
def sg:K:=.loop [1,3,4] lC
def jE:K :=
 (.seq (aj [af 28 5,aZ 29 7 1,a7 30 29,ak 31 (.bI (.t 30)),aF 32 .lss (.t 28) (.t 31)]
 (aP 32 .skip (.exit 2)))
 (.seq (.block 3 (aj [af 35 3,aZ 36 7 1,a7 37 36,af 38 5,ak 39 (.au 11 (.t 37) (.t 38)),aZ 40 1 39,bQ 41 5 40,ak 42 (.fp 5 lA 1 [(0,5,(.t 41))]),ak 43 (.append 5 64 (.t 35) (.t 42)),ak 3 (.mv (.t 43) true)]
 (aj [aZ 44 7 1,a7 45 44,af 46 5,ak 47 (.au 11 (.t 45) (.t 46)),aZ 48 0 47,a7 49 48,aF 50 .neq (.t 49) (kI 1)]
 (aP 50 (.cm false [af 51 3,aZ 52 7 1,a7 53 52,af 54 5,ak 55 (.au 11 (.t 53) (.t 54)),aZ 56 6 55,bQ 57 5 56,ak 58 (.fp 5 lA 1 [(0,5,(.t 57))]),ak 59 (.append 5 64 (.t 51) (.t 58)),ak 3 (.mv (.t 59) true)]) .skip))))
 (.cm false [af 33 5,aF 34 .add (.t 33) (kI 1),af 5 34])))
def yd:K:=.loop [1,3,5] jE
def qh:cH:=⟨61,[.tmp 2],
 (aj [ak 1 (.box 8 true (.t 0) true),aC 2 (.c .aA)]
 (aj [ak 6 (.dE 5 lA 0 []),ak 3 (.mv (.t 6) true)]
 (.seq (aj [aC 4 (kI 0)]
 (.block 0 sg))
 (aj [af 23 3,aZ 24 2 1,bQ 25 5 24,ak 26 (.fp 5 lA 1 [(0,5,(.t 25))]),ak 27 (.append 5 64 (.t 23) (.t 26)),ak 3 (.mv (.t 27) true)]
 (.seq (aj [aC 5 (kI 0)]
 (.block 2 yd))
 (aj [af 60 3,af 2 60]
 .ret)))))),false⟩
def tu:cH:=⟨15,[.cell 6 5 true,.tmp 7],
 (aj [ak 3 (.box 5 true (.t 0) true),ak 6 (.alloc lA 5),aC 7 (.c (.p (.bool false)))]
 (.seq (aj [bQ 8 5 3,af 9 1,af 10 2,bn 11 nY [(.t 8),(.t 9),(.t 10)],aF 12 .lss (.t 11) (kI 0)]
 (aP 12 (aj [ak 13 (.build lA []),⟨none,.store 5 (.t 6) (.t 13),none⟩,aC 7 (.c (.p (.bool false)))]
 .ret) .skip))
 (aj [bQ 14 5 3,⟨none,.store 5 (.t 6) (.t 14),none⟩,aC 7 (.c (.p (.bool true)))]
 .ret))),false⟩
def uE:cH:=⟨8,[.cell 4 5 true],
 (aj [ak 4 (.alloc lA 5)]
 (aj [af 5 1,af 6 0,ak 7 (.build lA [(0,1,(kI 24)),(1,1,(.t 5)),(3,1,(.t 6))]),⟨none,.store 5 (.t 4) (.t 7),none⟩]
 .ret)),false⟩
def nu:cH:=⟨7,[.tmp 1],
 (aj [aC 1 (kI 0)]
 (aj [aZ 2 0 0,a7 3 2,bn 4 kC [(.t 3)],ak 5 (.not (.t 4)),bn 6 iq [(.t 5),(kI 5)],af 1 6]
 .ret)),false⟩
def xI:cH:=⟨7,[.tmp 4],
 (aj [aC 4 (kI 0)]
 (.seq (aj [af 5 0]
 (aP 5 (aj [af 6 1,af 4 6]
 .ret) .skip))
 (aj [aC 4 (kI 0)]
 .ret))),false⟩
def uy:K :=
 (aj [aF 26 .lss (.t 25) (.t 24)]
 (.seq (aP 26 .skip (.exit 0))
 (.seq (.block 1 (aj [af 27 25,af 3 27]
 (aj [af 28 0,af 29 3,ak 30 (.Kw (.t 28) (.t 29)),af 4 30]
 (aj [af 31 4,aF 32 .lss (.t 31) (.c (.p (.int .u8 97))),af 33 32,⟨some 34,.mv (.t 4) false,some (33,false)⟩,⟨some 35,.arith .gtr (.t 34) (.c (.p (.int .u8 122))),some (33,false)⟩,ak 36 (.pick (.t 33) (.c (.p (.bool true))) (.t 35)),af 37 36,⟨some 38,.mv (.t 4) false,some (37,true)⟩,⟨some 39,.arith .lss (.t 38) (.c (.p (.int .u8 48))),some (37,true)⟩,⟨some 40,.mv (.t 39) false,some (37,true)⟩,⟨some 41,.mv (.t 4) false,some (40,false)⟩,⟨some 42,.arith .gtr (.t 41) (.c (.p (.int .u8 57))),some (40,false)⟩,⟨some 43,.pick (.t 40) (.c (.p (.bool true))) (.t 42),some (37,true)⟩,ak 44 (.pick (.t 37) (.t 43) (.c (.p (.bool false)))),af 45 44,⟨some 46,.mv (.t 4) false,some (45,true)⟩,⟨some 47,.arith .neq (.t 46) (.c (.p (.int .u8 95))),some (45,true)⟩,ak 48 (.pick (.t 45) (.t 47) (.c (.p (.bool false))))]
 (aP 48 (aj [aC 2 (.c (.p (.bool false)))]
 .ret) .skip)))))
 (.cm false [aF 49 .add (.t 25) (kI 1),af 25 49]))))
def yM:K:=.loop [0,24,25] uy
def ko:cH:=⟨50,[.tmp 2],
 (aj [aC 2 (.c (.p (.bool false)))]
 (.seq (aj [af 5 0,ak 6 (.KF (.t 5)),aF 7 .lss (.t 6) (kI 1),af 8 7,⟨some 9,.mv (.t 0) false,some (8,false)⟩,⟨some 10,.KF (.t 9),some (8,false)⟩,⟨some 11,.arith .gtr (.t 10) (kI 16),some (8,false)⟩,ak 12 (.pick (.t 8) (.c (.p (.bool true))) (.t 11)),af 13 12,⟨some 14,.mv (.t 0) false,some (13,false)⟩,⟨some 15,.Kw (.t 14) (kI 0),some (13,false)⟩,⟨some 16,.arith .lss (.t 15) (.c (.p (.int .u8 97))),some (13,false)⟩,ak 17 (.pick (.t 13) (.c (.p (.bool true))) (.t 16)),af 18 17,⟨some 19,.mv (.t 0) false,some (18,false)⟩,⟨some 20,.Kw (.t 19) (kI 0),some (18,false)⟩,⟨some 21,.arith .gtr (.t 20) (.c (.p (.int .u8 122))),some (18,false)⟩,ak 22 (.pick (.t 18) (.c (.p (.bool true))) (.t 21))]
 (aP 22 (aj [aC 2 (.c (.p (.bool false)))]
 .ret) .skip))
 (.seq (aj [af 23 0,ak 24 (.KF (.t 23)),aC 25 (kI 0)]
 (.block 0 yM))
 (aj [aC 2 (.c (.p (.bool true)))]
 .ret)))),false⟩
def ji:cH:=⟨19,[.tmp 1],
 (aj [aC 1 (kI 0)]
 (aj [aZ 2 1 0,a7 3 2,ak 4 (.bI (.t 3)),aF 5 .eql (.t 4) (kI 0),af 6 5,⟨some 7,.bH 1 (.t 0),some (6,false)⟩,⟨some 8,.load 1 false (.t 7),some (6,false)⟩,⟨some 9,.bI (.t 8),some (6,false)⟩,⟨some 10,.arith .gtr (.t 9) (kI 4),some (6,false)⟩,ak 11 (.pick (.t 6) (.c (.p (.bool true))) (.t 10)),af 12 11,⟨some 13,.bH 7 (.t 0),some (12,false)⟩,⟨some 14,.load 1 false (.t 13),some (12,false)⟩,⟨some 15,.bI (.t 14),some (12,false)⟩,⟨some 16,.arith .gtr (.t 15) (kI 8),some (12,false)⟩,ak 17 (.pick (.t 12) (.c (.p (.bool true))) (.t 16)),bn 18 iq [(.t 17),(kI 7)],af 1 18]
 .ret)),false⟩
def qi:cH:=⟨5,[.tmp 1],
 (aj [aC 1 (kI 0)]
 (aj [aZ 2 1 0,a7 3 2,bn 4 oO [(.t 3)],af 1 4]
 .ret)),false⟩
def mu:K :=
 (aj [aF 9 .lss (.t 8) (.t 7)]
 (.seq (aP 9 .skip (.exit 0))
 (.seq (.block 1 (aj [ak 10 (.au 6 (.t 6) (.t 8)),bQ 11 6 10,ak 4 (.init 6 true (.t 11) true)]
 (.seq (aj [aZ 12 1 4,bQ 13 5 12,bn 14 eJ [(.t 13),(.c (.p (.bool false)))],af 5 14]
 (aj [af 15 5,aF 16 .neq (.t 15) (kI 0)]
 (aP 16 (aj [af 17 5,af 2 17]
 .ret) .skip)))
 (aj [aZ 18 0 4,a7 19 18,aF 20 .neq (.t 19) (.c (.p (.str (bs [])))),af 21 20,⟨some 22,.bH 0 (.t 4),some (21,true)⟩,⟨some 23,.load 1 false (.t 22),some (21,true)⟩,⟨some 24,.cZ kC [(.t 23)],some (21,true)⟩,⟨some 25,.not (.t 24),some (21,true)⟩,ak 26 (.pick (.t 21) (.t 25) (.c (.p (.bool false))))]
 (aP 26 (aj [aC 2 (kI 5)]
 .ret) .skip)))))
 (.cm false [aF 27 .add (.t 8) (kI 1),af 8 27]))))
def wZ:K:=.loop [6,7,8] mu
def ri:cH:=⟨28,[.tmp 2],
 (aj [aC 2 (kI 0)]
 (.seq (aj [af 6 0,ak 7 (.bI (.t 6)),aC 8 (kI 0)]
 (.block 0 wZ))
 (aj [aC 2 (kI 0)]
 .ret))),false⟩
def qj:cH:=⟨5,[.tmp 1],
 (aj [aC 1 (kI 0)]
 (aj [aZ 2 1 0,a7 3 2,bn 4 oP [(.t 3)],af 1 4]
 .ret)),false⟩
def po:K :=
 (aj [aF 11 .lss (.t 10) (.t 9)]
 (.seq (aP 11 .skip (.exit 0))
 (.seq (.block 1 (aj [ak 12 (.au 5 (.t 8) (.t 10)),bQ 13 5 12,ak 5 (.init 5 true (.t 13) true)]
 (aj [af 14 3,bQ 15 5 5,bn 16 k7 [(.t 14),(.t 15)],ak 17 (.not (.t 16))]
 (aP 17 (aj [aC 2 (kI 12)]
 .ret) .skip))))
 (.cm false [aF 18 .add (.t 10) (kI 1),af 10 18]))))
def w6:K:=.loop [3,8,9,10] po
def oC:cH:=⟨22,[.tmp 2],
 (aj [aC 2 (kI 0)]
 (aj [ak 6 (.EH),af 3 6]
 (.seq (aj [af 7 0,bn 8 j8 [(.t 7)],ak 9 (.bI (.t 8)),aC 10 (kI 0)]
 (.block 0 w6))
 (.seq (aj [af 19 3,ak 20 (.BI (.t 19)),aF 21 .gtr (.t 20) (kI 16)]
 (aP 21 (aj [aC 2 (kI 7)]
 .ret) .skip))
 (aj [aC 2 (kI 0)]
 .ret))))),false⟩
def qk:cH:=⟨5,[.tmp 1],
 (aj [aC 1 (kI 0)]
 (aj [aZ 2 2 0,bQ 3 5 2,bn 4 eJ [(.t 3),(.c (.p (.bool true)))],af 1 4]
 .ret)),false⟩
def eM:K :=
 (.cm false [ak 7 (.init 5 true (.t 27) true)])
def eN:K :=
 (.block 1 (.seq (aj [aZ 28 0 7,a7 29 28,bn 30 dw [(.t 29)],ak 31 (.not (.t 30))]
 (aP 31 (.exit 1) .skip))
 (aj [a7 33 6,aZ 34 3 7,a7 35 34,ak 36 (.lookup .str (.agg lA) (.t 33) (.t 35) true),af 32 36,ak 37 (.extract (.t 32) 0),ak 38 (.extract (.t 32) 1),ak 8 (.init 5 true (.t 37) true),af 9 38]
 (.seq (aj [af 39 9,af 40 39,⟨some 41,.bH 0 (.t 8),some (40,true)⟩,⟨some 42,.load 1 false (.t 41),some (40,true)⟩,⟨some 43,.bH 0 (.t 7),some (40,true)⟩,⟨some 44,.load 1 false (.t 43),some (40,true)⟩,⟨some 45,.arith .neq (.t 42) (.t 44),some (40,true)⟩,⟨some 46,.mv (.t 45) false,some (40,true)⟩,⟨some 47,.bH 1 (.t 8),some (46,false)⟩,⟨some 48,.load 1 false (.t 47),some (46,false)⟩,⟨some 49,.bH 1 (.t 7),some (46,false)⟩,⟨some 50,.load 1 false (.t 49),some (46,false)⟩,⟨some 51,.arith .neq (.t 48) (.t 50),some (46,false)⟩,⟨some 52,.pick (.t 46) (.c (.p (.bool true))) (.t 51),some (40,true)⟩,ak 53 (.pick (.t 40) (.t 52) (.c (.p (.bool false))))]
 (aP 53 (aj [⟨none,.store 1 (.t 4) (kI 12),none⟩]
 .ret) .skip))
 (.cm false [a7 54 6,aZ 55 3 7,a7 56 55,bQ 57 5 7,⟨none,.VC .str (.t 54) (.t 56) (.t 57),none⟩])))))
def BZ:K:=.range (.t 26) [27] [4,6] eM eN
def eG:cH:=⟨61,[.cell 4 1 false],
 (aj [ak 2 (.box 5 true (.t 0) true),ak 4 (.alloc [(.p (.int .i64 0))] 1)]
 (.seq (aj [bQ 10 5 2,bn 11 od [(.t 10)],aF 12 .gtr (.t 11) (kI 4096),af 13 12,⟨some 14,.load 5 true (.t 2),some (13,false)⟩,⟨some 15,.cZ mg [(.t 14)],some (13,false)⟩,⟨some 16,.arith .gtr (.t 15) (kI 64),some (13,false)⟩,ak 17 (.pick (.t 13) (.c (.p (.bool true))) (.t 16))]
 (aP 17 (aj [⟨none,.store 1 (.t 4) (kI 7),none⟩]
 .ret) .skip))
 (.seq (aj [bQ 18 5 2,af 19 1,bn 20 ik [(.t 18),(.t 19)],af 5 20]
 (aj [af 21 5,aF 22 .neq (.t 21) (kI 0)]
 (aP 22 (aj [af 23 5,⟨none,.store 1 (.t 4) (.t 23),none⟩]
 .ret) .skip)))
 (aj [ak 24 (.EH),ak 6 (.init 1 false (.t 24) true)]
 (.seq (aj [bQ 25 5 2,bn 26 dv [(.t 25)]]
 (.block 0 BZ))
 (.seq (aj [a7 58 6,ak 59 (.BI (.t 58)),aF 60 .gtr (.t 59) (kI 16)]
 (aP 60 (aj [⟨none,.store 1 (.t 4) (kI 7),none⟩]
 .ret) .skip))
 (aj [⟨none,.store 1 (.t 4) (kI 0),none⟩]
 .ret))))))),false⟩
def nw:cH:=⟨11,[.tmp 1],
 (aj [aC 1 (kI 0)]
 (.seq (.cm true [aZ 2 2 0,bQ 3 5 2,bQ 4 8 0,bn 5 mc [(.t 4)],bQ 6 8 0,bn 7 n9 [(.t 6)],bn 8 me [(.t 3),(.t 5),(.t 7)],ak 9 (.not (.t 8)),bn 10 iq [(.t 9),(kI 12)],af 1 10])
 .ret)),false⟩
def rM:K :=
 (aj [aF 33 .lss (.t 32) (.t 31)]
 (.seq (aP 33 .skip (.exit 0))
 (.seq (.block 1 (aj [ak 34 (.au 5 (.t 30) (.t 32)),bQ 35 5 34,ak 8 (.init 5 true (.t 35) true)]
 (aj [bQ 36 5 8,af 37 1,af 38 2,bn 39 me [(.t 36),(.t 37),(.t 38)],ak 40 (.not (.t 39))]
 (aP 40 (aj [aC 6 (.c (.p (.bool false)))]
 .ret) .skip))))
 (.cm false [aF 41 .add (.t 32) (kI 1),af 32 41]))))
def w5:K:=.loop [1,2,30,31,32] rM
def lV:cH:=⟨42,[.tmp 6],
 (aj [ak 3 (.box 5 true (.t 0) true),aC 6 (.c (.p (.bool false)))]
 (.seq (aj [aZ 9 0 3,a7 10 9,aF 11 .eql (.t 10) (kI 24)]
 (aP 11 (aj [af 12 1,aZ 13 3 3,a7 14 13,aZ 15 1 3,a7 16 15,ak 17 (.build [(.p (.str (bs []))),(.p (.int .i64 0))] [(0,1,(.t 14)),(1,1,(.t 16))]),bn 18 aT [(.t 12),(.t 17)],af 6 18]
 .ret) .skip))
 (.seq (aj [aZ 19 0 3,a7 20 19,aF 21 .eql (.t 20) (kI 25)]
 (aP 21 (aj [af 22 2,aZ 23 3 3,a7 24 23,aZ 25 1 3,a7 26 25,ak 27 (.build [(.p (.str (bs []))),(.p (.int .i64 0))] [(0,1,(.t 24)),(1,1,(.t 26))]),bn 28 aT [(.t 22),(.t 27)],af 6 28]
 .ret) .skip))
 (.seq (aj [aZ 29 4 3,a7 30 29,ak 31 (.bI (.t 30)),aC 32 (kI 0)]
 (.block 0 w5))
 (aj [aC 6 (.c (.p (.bool true)))]
 .ret))))),false⟩
def nx:cH:=⟨13,[.tmp 1],
 (aj [aC 1 (kI 0)]
 (.seq (.cm true [aZ 2 2 0,aZ 3 1 2,a7 4 3,aZ 5 1 0,a7 6 5,ak 7 (.au 6 (.t 6) (kI 0)),aZ 8 1 7,aZ 9 1 8,a7 10 9,aF 11 .neq (.t 4) (.t 10),bn 12 iq [(.t 11),(kI 3)],af 1 12])
 .ret)),false⟩
def ql:cH:=⟨4,[.tmp 1],
 (aj [aC 1 (kI 0)]
 (aj [bQ 2 8 0,bn 3 mP [(.t 2)],af 1 3]
 .ret)),false⟩
def pY:K :=
 (aj [aF 16 .lss (.t 15) (.t 14)]
 (.seq (aP 16 .skip (.exit 0))
 (.seq (.block 1 (aj [ak 17 (.au 11 (.t 13) (.t 15)),bQ 18 11 17,ak 6 (.init 11 true (.t 18) true)]
 (aj [bQ 19 11 6,af 20 3,af 21 4,bn 22 mJ [(.t 19),(.t 20),(.t 21)],af 7 22]
 (aj [af 23 7,aF 24 .neq (.t 23) (kI 0)]
 (aP 24 (aj [af 25 7,af 2 25]
 .ret) .skip)))))
 (.cm false [aF 26 .add (.t 15) (kI 1),af 15 26]))))
def uR:K:=.loop [3,4,13,14,15] pY
def pw:cH:=⟨27,[.tmp 2],
 (aj [ak 1 (.box 8 true (.t 0) true),aC 2 (kI 0)]
 (.seq (.cm true [bQ 8 8 1,bn 9 mc [(.t 8)],bQ 10 8 1,bn 11 n9 [(.t 10)],af 3 9,af 4 11])
 (.seq (aj [aZ 12 7 1,a7 13 12,ak 14 (.bI (.t 13)),aC 15 (kI 0)]
 (.block 0 uR))
 (aj [aC 2 (kI 0)]
 .ret)))),false⟩
def xo:K :=
 (.seq (aj [af 23 3,af 24 0,ak 25 (.KF (.t 24)),aF 26 .lss (.t 23) (.t 25)]
 (aP 26 .skip (.exit 0)))
 (.seq (.block 1 (aj [af 29 0,af 30 3,ak 31 (.Kw (.t 29) (.t 30)),af 4 31]
 (aj [af 32 4,aF 33 .geq (.t 32) (.c (.p (.int .u8 97))),af 34 33,⟨some 35,.mv (.t 4) false,some (34,true)⟩,⟨some 36,.arith .leq (.t 35) (.c (.p (.int .u8 122))),some (34,true)⟩,ak 37 (.pick (.t 34) (.t 36) (.c (.p (.bool false)))),ak 38 (.not (.t 37)),af 39 38,⟨some 40,.mv (.t 4) false,some (39,true)⟩,⟨some 41,.arith .geq (.t 40) (.c (.p (.int .u8 48))),some (39,true)⟩,⟨some 42,.mv (.t 41) false,some (39,true)⟩,⟨some 43,.mv (.t 4) false,some (42,true)⟩,⟨some 44,.arith .leq (.t 43) (.c (.p (.int .u8 57))),some (42,true)⟩,⟨some 45,.pick (.t 42) (.t 44) (.c (.p (.bool false))),some (39,true)⟩,⟨some 46,.not (.t 45),some (39,true)⟩,ak 47 (.pick (.t 39) (.t 46) (.c (.p (.bool false)))),af 48 47,⟨some 49,.mv (.t 4) false,some (48,true)⟩,⟨some 50,.arith .neq (.t 49) (.c (.p (.int .u8 95))),some (48,true)⟩,ak 51 (.pick (.t 48) (.t 50) (.c (.p (.bool false))))]
 (aP 51 (aj [aC 2 (.c (.p (.bool false)))]
 .ret) .skip))))
 (.cm false [af 27 3,aF 28 .add (.t 27) (kI 1),af 3 28])))
def AN:K:=.loop [0,3] xo
def mA:cH:=⟨52,[.tmp 2],
 (aj [aC 2 (.c (.p (.bool false)))]
 (.seq (aj [af 5 0,ak 6 (.KF (.t 5)),aF 7 .lss (.t 6) (kI 1),af 8 7,⟨some 9,.mv (.t 0) false,some (8,false)⟩,⟨some 10,.KF (.t 9),some (8,false)⟩,⟨some 11,.arith .gtr (.t 10) (kI 16),some (8,false)⟩,ak 12 (.pick (.t 8) (.c (.p (.bool true))) (.t 11)),af 13 12,⟨some 14,.mv (.t 0) false,some (13,false)⟩,⟨some 15,.Kw (.t 14) (kI 0),some (13,false)⟩,⟨some 16,.arith .lss (.t 15) (.c (.p (.int .u8 97))),some (13,false)⟩,ak 17 (.pick (.t 13) (.c (.p (.bool true))) (.t 16)),af 18 17,⟨some 19,.mv (.t 0) false,some (18,false)⟩,⟨some 20,.Kw (.t 19) (kI 0),some (18,false)⟩,⟨some 21,.arith .gtr (.t 20) (.c (.p (.int .u8 122))),some (18,false)⟩,ak 22 (.pick (.t 18) (.c (.p (.bool true))) (.t 21))]
 (aP 22 (aj [aC 2 (.c (.p (.bool false)))]
 .ret) .skip))
 (.seq (aj [aC 3 (kI 0)]
 (.block 0 AN))
 (aj [aC 2 (.c (.p (.bool true)))]
 .ret)))),false⟩
def je:K :=
 (.seq (aj [af 23 3,aZ 24 1 1,a7 25 24,ak 26 (.bI (.t 25)),aF 27 .lss (.t 23) (.t 26)]
 (aP 27 .skip (.exit 0)))
 (.seq (.block 1 (aj [aZ 30 1 1,a7 31 30,af 32 3,ak 33 (.au 6 (.t 31) (.t 32)),aZ 34 1 33,bQ 35 5 34,bn 36 kA [(.t 35),(.c (.p (.bool false)))],af 4 36]
 (.seq (aj [af 37 4,aF 38 .neq (.t 37) (kI 0)]
 (aP 38 (aj [af 39 4,af 2 39]
 .ret) .skip))
 (aj [aZ 40 1 1,a7 41 40,af 42 3,ak 43 (.au 6 (.t 41) (.t 42)),aZ 44 0 43,a7 45 44,aF 46 .neq (.t 45) (.c (.p (.str (bs [])))),af 47 46,⟨some 48,.bH 1 (.t 1),some (47,true)⟩,⟨some 49,.load 1 false (.t 48),some (47,true)⟩,⟨some 50,.mv (.t 3) false,some (47,true)⟩,⟨some 51,.au 6 (.t 49) (.t 50),some (47,true)⟩,⟨some 52,.bH 0 (.t 51),some (47,true)⟩,⟨some 53,.load 1 false (.t 52),some (47,true)⟩,⟨some 54,.cZ oI [(.t 53)],some (47,true)⟩,⟨some 55,.not (.t 54),some (47,true)⟩,ak 56 (.pick (.t 47) (.t 55) (.c (.p (.bool false))))]
 (aP 56 (aj [aC 2 (kI 5)]
 .ret) .skip)))))
 (.cm false [af 28 3,aF 29 .add (.t 28) (kI 1),af 3 29])))
def tE:K:=.loop [1,3] je
def kU:cH:=⟨71,[.tmp 2],
 (aj [ak 1 (.box 8 true (.t 0) true),aC 2 (kI 0)]
 (.seq (aj [aZ 7 1 1,a7 8 7,ak 9 (.bI (.t 8)),aF 10 .lss (.t 9) (kI 1),af 11 10,⟨some 12,.bH 1 (.t 1),some (11,false)⟩,⟨some 13,.load 1 false (.t 12),some (11,false)⟩,⟨some 14,.bI (.t 13),some (11,false)⟩,⟨some 15,.arith .gtr (.t 14) (kI 4),some (11,false)⟩,ak 16 (.pick (.t 11) (.c (.p (.bool true))) (.t 15)),af 17 16,⟨some 18,.bH 7 (.t 1),some (17,false)⟩,⟨some 19,.load 1 false (.t 18),some (17,false)⟩,⟨some 20,.bI (.t 19),some (17,false)⟩,⟨some 21,.arith .gtr (.t 20) (kI 8),some (17,false)⟩,ak 22 (.pick (.t 17) (.c (.p (.bool true))) (.t 21))]
 (aP 22 (aj [aC 2 (kI 7)]
 .ret) .skip))
 (.seq (aj [aC 3 (kI 0)]
 (.block 0 tE))
 (.seq (aj [bQ 57 8 1,bn 58 jI [(.t 57)],bn 59 qL [(.t 58)]]
 (aP 59 (aj [aC 2 (kI 12)]
 .ret) .skip))
 (aj [bQ 61 8 1,bn 62 nZ [(.t 61)],af 60 62,ak 63 (.extract (.t 60) 0),ak 64 (.extract (.t 60) 1),af 5 63,af 6 64]
 (.seq (aj [af 65 5,ak 66 (.bI (.t 65)),af 67 6,ak 68 (.bI (.t 67)),aF 69 .add (.t 66) (.t 68),aF 70 .gtr (.t 69) (kI 16)]
 (aP 70 (aj [aC 2 (kI 7)]
 .ret) .skip))
 (aj [aC 2 (kI 0)]
 .ret))))))),false⟩
def uu:K :=
 (.seq (aj [af 19 6,af 20 5,ak 21 (.bI (.t 20)),aF 22 .lss (.t 19) (.t 21)]
 (aP 22 .skip (.exit 0)))
 (.seq (.block 1 (aj [af 25 5,af 26 6,ak 27 (.au 5 (.t 25) (.t 26)),bQ 28 5 27,af 29 1,bn 30 te [(.t 28),(.t 29)],af 7 30]
 (aj [af 31 7,aF 32 .neq (.t 31) (kI 0)]
 (aP 32 (aj [af 33 7,af 4 33]
 .ret) .skip))))
 (.cm false [af 23 6,aF 24 .add (.t 23) (kI 1),af 6 24])))
def yI:K:=.loop [1,2,5,6] uu
def kj:cH:=⟨44,[.tmp 4],
 (aj [ak 2 (.box 5 true (.t 0) true),aC 4 (kI 0)]
 (.seq (aj [bQ 10 5 2,bn 11 qG [(.t 10),(kI 4096)],ak 12 (.not (.t 11)),af 13 12,⟨some 14,.load 5 true (.t 2),some (13,false)⟩,⟨some 15,.cZ qF [(.t 14),(kI 64)],some (13,false)⟩,ak 16 (.pick (.t 13) (.c (.p (.bool true))) (.t 15))]
 (aP 16 (aj [aC 4 (kI 7)]
 .ret) .skip))
 (aj [bQ 17 5 2,bn 18 fL [(.t 17)],af 5 18]
 (.seq (aj [aC 6 (kI 0)]
 (.block 0 yI))
 (aj [bQ 35 5 2,bn 36 qI [(.t 35)],af 34 36,ak 37 (.extract (.t 34) 0),ak 38 (.extract (.t 34) 1),af 8 37,af 9 38]
 (.seq (aj [af 39 9,ak 40 (.not (.t 39))]
 (aP 40 (aj [aC 4 (kI 12)]
 .ret) .skip))
 (.seq (aj [af 41 8,ak 42 (.bI (.t 41)),aF 43 .gtr (.t 42) (kI 16)]
 (aP 43 (aj [aC 4 (kI 7)]
 .ret) .skip))
 (aj [aC 4 (kI 0)]
 .ret)))))))),false⟩
def lO:K :=
 (.seq (aj [af 11 8,af 12 7,ak 13 (.bI (.t 12)),aF 14 .lss (.t 11) (.t 13)]
 (aP 14 .skip (.exit 0)))
 (.seq (.block 1 (.seq (.cm true [af 17 7,af 18 8,ak 19 (.au 5 (.t 17) (.t 18)),aZ 20 0 19,a7 21 20,aF 22 .eql (.t 21) (kI 24),af 23 22,⟨some 24,.mv (.t 1) false,some (23,true)⟩,⟨some 25,.mv (.t 7) false,some (23,true)⟩,⟨some 26,.mv (.t 8) false,some (23,true)⟩,⟨some 27,.au 5 (.t 25) (.t 26),some (23,true)⟩,⟨some 28,.bH 3 (.t 27),some (23,true)⟩,⟨some 29,.load 1 false (.t 28),some (23,true)⟩,⟨some 30,.mv (.t 7) false,some (23,true)⟩,⟨some 31,.mv (.t 8) false,some (23,true)⟩,⟨some 32,.au 5 (.t 30) (.t 31),some (23,true)⟩,⟨some 33,.bH 1 (.t 32),some (23,true)⟩,⟨some 34,.load 1 false (.t 33),some (23,true)⟩,⟨some 35,.cZ tJ [(.t 24),(.t 29),(.t 34)],some (23,true)⟩,⟨some 36,.not (.t 35),some (23,true)⟩,ak 37 (.pick (.t 23) (.t 36) (.c (.p (.bool false)))),af 38 37,⟨some 39,.mv (.t 7) false,some (38,false)⟩,⟨some 40,.mv (.t 8) false,some (38,false)⟩,⟨some 41,.au 5 (.t 39) (.t 40),some (38,false)⟩,⟨some 42,.bH 0 (.t 41),some (38,false)⟩,⟨some 43,.load 1 false (.t 42),some (38,false)⟩,⟨some 44,.arith .eql (.t 43) (kI 25),some (38,false)⟩,⟨some 45,.mv (.t 44) false,some (38,false)⟩,⟨some 46,.mv (.t 2) false,some (45,true)⟩,⟨some 47,.mv (.t 7) false,some (45,true)⟩,⟨some 48,.mv (.t 8) false,some (45,true)⟩,⟨some 49,.au 5 (.t 47) (.t 48),some (45,true)⟩,⟨some 50,.bH 3 (.t 49),some (45,true)⟩,⟨some 51,.load 1 false (.t 50),some (45,true)⟩,⟨some 52,.mv (.t 7) false,some (45,true)⟩,⟨some 53,.mv (.t 8) false,some (45,true)⟩,⟨some 54,.au 5 (.t 52) (.t 53),some (45,true)⟩,⟨some 55,.bH 1 (.t 54),some (45,true)⟩,⟨some 56,.load 1 false (.t 55),some (45,true)⟩,⟨some 57,.cZ tJ [(.t 46),(.t 51),(.t 56)],some (45,true)⟩,⟨some 58,.not (.t 57),some (45,true)⟩,⟨some 59,.pick (.t 45) (.t 58) (.c (.p (.bool false))),some (38,false)⟩,ak 60 (.pick (.t 38) (.c (.p (.bool true))) (.t 59))])
 (aP 60 (aj [aC 6 (.c (.p (.bool false)))]
 .ret) .skip)))
 (.cm false [af 15 8,aF 16 .add (.t 15) (kI 1),af 8 16])))
def yJ:K:=.loop [1,2,7,8] lO
def tx:cH:=⟨61,[.tmp 6],
 (aj [ak 3 (.box 5 true (.t 0) true),aC 6 (.c (.p (.bool false)))]
 (aj [bQ 9 5 3,bn 10 dY [(.t 9)],af 7 10]
 (.seq (aj [aC 8 (kI 0)]
 (.block 0 yJ))
 (aj [aC 6 (.c (.p (.bool true)))]
 .ret)))),false⟩
def bC:cH:=⟨137,[.tmp 6],
 (aj [ak 3 (.box 11 true (.t 0) true),aC 6 (kI 0)]
 (aj [aZ 10 0 3,a7 11 10,aF 12 .eql (.t 11) (kI 3),af 13 12,⟨some 14,.bH 0 (.t 3),some (13,false)⟩,⟨some 15,.load 1 false (.t 14),some (13,false)⟩,⟨some 16,.arith .eql (.t 15) (kI 4),some (13,false)⟩,ak 17 (.pick (.t 13) (.c (.p (.bool true))) (.t 16)),af 7 17]
 (.seq (aj [aZ 18 0 3,a7 19 18,aF 20 .lss (.t 19) (kI 1),af 21 20,⟨some 22,.bH 0 (.t 3),some (21,false)⟩,⟨some 23,.load 1 false (.t 22),some (21,false)⟩,⟨some 24,.arith .gtr (.t 23) (kI 4),some (21,false)⟩,ak 25 (.pick (.t 21) (.c (.p (.bool true))) (.t 24)),af 26 25,⟨some 27,.bH 0 (.t 3),some (26,false)⟩,⟨some 28,.load 1 false (.t 27),some (26,false)⟩,⟨some 29,.arith .eql (.t 28) (kI 1),some (26,false)⟩,⟨some 30,.mv (.t 29) false,some (26,false)⟩,⟨some 31,.bH 6 (.t 3),some (30,true)⟩,⟨some 32,.load 5 true (.t 31),some (30,true)⟩,⟨some 33,.cZ th [(.t 32)],some (30,true)⟩,⟨some 34,.not (.t 33),some (30,true)⟩,⟨some 35,.pick (.t 30) (.t 34) (.c (.p (.bool false))),some (26,false)⟩,ak 36 (.pick (.t 26) (.c (.p (.bool true))) (.t 35)),af 37 36,⟨some 38,.mv (.t 7) false,some (37,false)⟩,⟨some 39,.mv (.t 38) false,some (37,false)⟩,⟨some 40,.bH 1 (.t 3),some (39,true)⟩,⟨some 41,.bH 0 (.t 40),some (39,true)⟩,⟨some 42,.load 1 false (.t 41),some (39,true)⟩,⟨some 43,.arith .neq (.t 42) (kI 24),some (39,true)⟩,⟨some 44,.pick (.t 39) (.t 43) (.c (.p (.bool false))),some (37,false)⟩,ak 45 (.pick (.t 37) (.c (.p (.bool true))) (.t 44))]
 (aP 45 (aj [aC 6 (kI 1)]
 .ret) .skip))
 (aj [aZ 46 1 3,bQ 47 5 46,bn 48 kA [(.t 47),(.c (.p (.bool false)))],af 8 48]
 (.seq (aj [af 49 8,aF 50 .eql (.t 49) (kI 0),af 51 50,⟨some 52,.bH 0 (.t 3),some (51,true)⟩,⟨some 53,.load 1 false (.t 52),some (51,true)⟩,⟨some 54,.arith .neq (.t 53) (kI 1),some (51,true)⟩,ak 55 (.pick (.t 51) (.t 54) (.c (.p (.bool false))))]
 (aP 55 (.cm false [aZ 56 6 3,bQ 57 5 56,bn 58 kA [(.t 57),(.c (.p (.bool false)))],af 8 58]) .skip))
 (.seq (aj [af 59 8,aF 60 .neq (.t 59) (kI 0)]
 (aP 60 (aj [af 61 8,af 6 61]
 .ret) .skip))
 (aj [ak 62 (.dE 2 [(.p (.str (bs []))),(.p (.int .i64 0))] 0 []),af 9 62]
 (.seq (.block 0 (aj [aZ 64 0 3,a7 65 64,aF 66 .eql (.t 65) (kI 1),af 67 66,⟨some 68,.bH 1 (.t 3),some (67,true)⟩,⟨some 69,.load 5 true (.t 68),some (67,true)⟩,⟨some 70,.mv (.t 9) false,some (67,true)⟩,⟨some 71,.mv (.t 2) false,some (67,true)⟩,⟨some 72,.cZ fh [(.t 69),(.t 70),(.t 71)],some (67,true)⟩,⟨some 73,.not (.t 72),some (67,true)⟩,ak 74 (.pick (.t 67) (.t 73) (.c (.p (.bool false)))),af 63 74]
 (aP 63 (aj [aC 6 (kI 12)]
 .ret) (aj [aZ 76 0 3,a7 77 76,aF 78 .eql (.t 77) (kI 2),af 79 78,⟨some 80,.bH 1 (.t 3),some (79,true)⟩,⟨some 81,.load 5 true (.t 80),some (79,true)⟩,⟨some 82,.mv (.t 1) false,some (79,true)⟩,⟨some 83,.mv (.t 2) false,some (79,true)⟩,⟨some 84,.cZ fh [(.t 81),(.t 82),(.t 83)],some (79,true)⟩,⟨some 85,.not (.t 84),some (79,true)⟩,⟨some 86,.mv (.t 85) false,some (79,true)⟩,⟨some 87,.bH 6 (.t 3),some (86,false)⟩,⟨some 88,.load 5 true (.t 87),some (86,false)⟩,⟨some 89,.mv (.t 1) false,some (86,false)⟩,⟨some 90,.mv (.t 2) false,some (86,false)⟩,⟨some 91,.cZ fh [(.t 88),(.t 89),(.t 90)],some (86,false)⟩,⟨some 92,.not (.t 91),some (86,false)⟩,⟨some 93,.pick (.t 86) (.c (.p (.bool true))) (.t 92),some (79,true)⟩,ak 94 (.pick (.t 79) (.t 93) (.c (.p (.bool false)))),af 75 94]
 (aP 75 (aj [aC 6 (kI 12)]
 .ret) (aj [af 96 7,af 97 96,⟨some 98,.bH 1 (.t 3),some (97,true)⟩,⟨some 99,.load 5 true (.t 98),some (97,true)⟩,⟨some 100,.mv (.t 1) false,some (97,true)⟩,⟨some 101,.mv (.t 2) false,some (97,true)⟩,⟨some 102,.cZ fh [(.t 99),(.t 100),(.t 101)],some (97,true)⟩,⟨some 103,.not (.t 102),some (97,true)⟩,⟨some 104,.mv (.t 103) false,some (97,true)⟩,⟨some 105,.bH 6 (.t 3),some (104,false)⟩,⟨some 106,.load 5 true (.t 105),some (104,false)⟩,⟨some 107,.mv (.t 9) false,some (104,false)⟩,⟨some 108,.mv (.t 2) false,some (104,false)⟩,⟨some 109,.cZ fh [(.t 106),(.t 107),(.t 108)],some (104,false)⟩,⟨some 110,.not (.t 109),some (104,false)⟩,⟨some 111,.pick (.t 104) (.c (.p (.bool true))) (.t 110),some (97,true)⟩,ak 112 (.pick (.t 97) (.t 111) (.c (.p (.bool false)))),af 95 112]
 (aP 95 (aj [aC 6 (kI 12)]
 .ret) (aj [aZ 114 0 3,a7 115 114,aF 116 .eql (.t 115) (kI 1),af 117 116,⟨some 118,.bH 1 (.t 3),some (117,true)⟩,⟨some 119,.bH 1 (.t 118),some (117,true)⟩,⟨some 120,.load 1 false (.t 119),some (117,true)⟩,⟨some 121,.arith .neq (.t 120) (kI 1),some (117,true)⟩,ak 122 (.pick (.t 117) (.t 121) (.c (.p (.bool false)))),af 123 122,⟨some 124,.bH 0 (.t 3),some (123,false)⟩,⟨some 125,.load 1 false (.t 124),some (123,false)⟩,⟨some 126,.arith .neq (.t 125) (kI 1),some (123,false)⟩,⟨some 127,.mv (.t 126) false,some (123,false)⟩,⟨some 128,.bH 1 (.t 3),some (127,true)⟩,⟨some 129,.bH 1 (.t 128),some (127,true)⟩,⟨some 130,.load 1 false (.t 129),some (127,true)⟩,⟨some 131,.bH 6 (.t 3),some (127,true)⟩,⟨some 132,.bH 1 (.t 131),some (127,true)⟩,⟨some 133,.load 1 false (.t 132),some (127,true)⟩,⟨some 134,.arith .neq (.t 130) (.t 133),some (127,true)⟩,⟨some 135,.pick (.t 127) (.t 134) (.c (.p (.bool false))),some (123,false)⟩,ak 136 (.pick (.t 123) (.c (.p (.bool true))) (.t 135)),af 113 136]
 (aP 113 (aj [aC 6 (kI 3)]
 .ret) .skip)))))))))
 (aj [aC 6 (kI 0)]
 .ret))))))))),false⟩
def lS:cH:=⟨25,[.cell 4 5 true,.tmp 5],
 (aj [ak 2 (.box 5 true (.t 0) true),ak 4 (.alloc lA 5),aC 5 (kI 0)]
 (.seq (aj [af 8 1,aF 9 .lss (.t 8) (kI 1),af 10 9,⟨some 11,.mv (.t 1) false,some (10,false)⟩,⟨some 12,.arith .gtr (.t 11) (kI 64),some (10,false)⟩,ak 13 (.pick (.t 10) (.c (.p (.bool true))) (.t 12))]
 (aP 13 (aj [ak 14 (.build lA []),⟨none,.store 5 (.t 4) (.t 14),none⟩,aC 5 (kI 2)]
 .ret) .skip))
 (aj [bQ 16 5 2,af 17 1,bn 18 l8 [(.t 16),(.t 17)],af 15 18,ak 19 (.extract (.t 15) 0),ak 20 (.extract (.t 15) 1),ak 6 (.init 5 true (.t 19) true),af 7 20]
 (.seq (aj [af 21 7,ak 22 (.not (.t 21))]
 (aP 22 (aj [ak 23 (.build lA []),⟨none,.store 5 (.t 4) (.t 23),none⟩,aC 5 (kI 3)]
 .ret) .skip))
 (aj [bQ 24 5 6,⟨none,.store 5 (.t 4) (.t 24),none⟩,aC 5 (kI 0)]
 .ret))))),false⟩
def p8:cH:=⟨51,[.cell 4 11 true,.tmp 5],
 (aj [ak 2 (.box 11 true (.t 0) true),ak 4 (.alloc [(.p (.int .i64 0)),(.p (.int .i64 0)),(.p (.int .i64 0)),(.p (.int .u64 0)),(.p (.str (bs []))),.aA,(.p (.int .i64 0)),(.p (.int .i64 0)),(.p (.int .u64 0)),(.p (.str (bs []))),.aA] 11),aC 5 (kI 0)]
 (.seq (aj [aZ 9 0 2,a7 10 9,aF 11 .lss (.t 10) (kI 1),af 12 11,⟨some 13,.bH 0 (.t 2),some (12,false)⟩,⟨some 14,.load 1 false (.t 13),some (12,false)⟩,⟨some 15,.arith .gtr (.t 14) (kI 4),some (12,false)⟩,ak 16 (.pick (.t 12) (.c (.p (.bool true))) (.t 15))]
 (aP 16 (aj [ak 17 (.build [(.p (.int .i64 0)),(.p (.int .i64 0)),(.p (.int .i64 0)),(.p (.int .u64 0)),(.p (.str (bs []))),.aA,(.p (.int .i64 0)),(.p (.int .i64 0)),(.p (.int .u64 0)),(.p (.str (bs []))),.aA] []),⟨none,.store 11 (.t 4) (.t 17),none⟩,aC 5 (kI 1)]
 .ret) .skip))
 (aj [aZ 19 1 2,bQ 20 5 19,af 21 1,bn 22 iY [(.t 20),(.t 21)],af 18 22,ak 23 (.extract (.t 18) 0),ak 24 (.extract (.t 18) 1),ak 6 (.init 5 true (.t 23) true),af 7 24]
 (.seq (aj [af 25 7,aF 26 .neq (.t 25) (kI 0)]
 (aP 26 (aj [ak 27 (.build [(.p (.int .i64 0)),(.p (.int .i64 0)),(.p (.int .i64 0)),(.p (.int .u64 0)),(.p (.str (bs []))),.aA,(.p (.int .i64 0)),(.p (.int .i64 0)),(.p (.int .u64 0)),(.p (.str (bs []))),.aA] []),af 28 7,⟨none,.store 11 (.t 4) (.t 27),none⟩,af 5 28]
 .ret) .skip))
 (aj [aZ 29 6 2,bQ 30 5 29,bn 31 fX [(.t 30)],ak 8 (.init 5 true (.t 31) false)]
 (.seq (aj [aZ 32 0 2,a7 33 32,aF 34 .neq (.t 33) (kI 1)]
 (aP 34 (aj [aZ 36 6 2,bQ 37 5 36,af 38 1,bn 39 iY [(.t 37),(.t 38)],af 35 39,ak 40 (.extract (.t 35) 0),ak 41 (.extract (.t 35) 1),⟨none,.store 5 (.t 8) (.t 40),none⟩,af 7 41]
 (aj [af 42 7,aF 43 .neq (.t 42) (kI 0)]
 (aP 43 (aj [ak 44 (.build [(.p (.int .i64 0)),(.p (.int .i64 0)),(.p (.int .i64 0)),(.p (.int .u64 0)),(.p (.str (bs []))),.aA,(.p (.int .i64 0)),(.p (.int .i64 0)),(.p (.int .u64 0)),(.p (.str (bs []))),.aA] []),af 45 7,⟨none,.store 11 (.t 4) (.t 44),none⟩,af 5 45]
 .ret) .skip))) .skip))
 (aj [aZ 46 0 2,a7 47 46,bQ 48 5 6,bQ 49 5 8,ak 50 (.build [(.p (.int .i64 0)),(.p (.int .i64 0)),(.p (.int .i64 0)),(.p (.int .u64 0)),(.p (.str (bs []))),.aA,(.p (.int .i64 0)),(.p (.int .i64 0)),(.p (.int .u64 0)),(.p (.str (bs []))),.aA] [(0,1,(.t 47)),(1,5,(.t 48)),(6,5,(.t 49))]),⟨none,.store 11 (.t 4) (.t 50),none⟩,aC 5 (kI 0)]
 .ret))))))),false⟩
def gz:K :=
 (.seq (aj [af 11 5,af 12 0,ak 13 (.bI (.t 12)),aF 14 .lss (.t 11) (.t 13)]
 (aP 14 .skip (.exit 0)))
 (.seq (.block 1 (.seq (.cm true [af 17 0,af 18 5,ak 19 (.au 11 (.t 17) (.t 18)),aZ 20 0 19,a7 21 20,af 22 1,af 23 5,ak 24 (.au 11 (.t 22) (.t 23)),aZ 25 0 24,a7 26 25,aF 27 .neq (.t 21) (.t 26),af 28 27,⟨some 29,.mv (.t 0) false,some (28,false)⟩,⟨some 30,.mv (.t 5) false,some (28,false)⟩,⟨some 31,.au 11 (.t 29) (.t 30),some (28,false)⟩,⟨some 32,.bH 1 (.t 31),some (28,false)⟩,⟨some 33,.load 5 true (.t 32),some (28,false)⟩,⟨some 34,.mv (.t 1) false,some (28,false)⟩,⟨some 35,.mv (.t 5) false,some (28,false)⟩,⟨some 36,.au 11 (.t 34) (.t 35),some (28,false)⟩,⟨some 37,.bH 1 (.t 36),some (28,false)⟩,⟨some 38,.load 5 true (.t 37),some (28,false)⟩,⟨some 39,.cZ gI [(.t 33),(.t 38)],some (28,false)⟩,⟨some 40,.not (.t 39),some (28,false)⟩,ak 41 (.pick (.t 28) (.c (.p (.bool true))) (.t 40)),af 42 41,⟨some 43,.mv (.t 0) false,some (42,false)⟩,⟨some 44,.mv (.t 5) false,some (42,false)⟩,⟨some 45,.au 11 (.t 43) (.t 44),some (42,false)⟩,⟨some 46,.bH 6 (.t 45),some (42,false)⟩,⟨some 47,.load 5 true (.t 46),some (42,false)⟩,⟨some 48,.mv (.t 1) false,some (42,false)⟩,⟨some 49,.mv (.t 5) false,some (42,false)⟩,⟨some 50,.au 11 (.t 48) (.t 49),some (42,false)⟩,⟨some 51,.bH 6 (.t 50),some (42,false)⟩,⟨some 52,.load 5 true (.t 51),some (42,false)⟩,⟨some 53,.cZ gI [(.t 47),(.t 52)],some (42,false)⟩,⟨some 54,.not (.t 53),some (42,false)⟩,ak 55 (.pick (.t 42) (.c (.p (.bool true))) (.t 54))])
 (aP 55 (aj [aC 4 (.c (.p (.bool false)))]
 .ret) .skip)))
 (.cm false [af 15 5,aF 16 .add (.t 15) (kI 1),af 5 16])))
def pN:K:=.loop [0,1,5] gz
def iH:cH:=⟨56,[.tmp 4],
 (aj [aC 4 (.c (.p (.bool false)))]
 (.seq (aj [af 6 0,ak 7 (.bI (.t 6)),af 8 1,ak 9 (.bI (.t 8)),aF 10 .neq (.t 7) (.t 9)]
 (aP 10 (aj [aC 4 (.c (.p (.bool false)))]
 .ret) .skip))
 (.seq (aj [aC 5 (kI 0)]
 (.block 0 pN))
 (aj [aC 4 (.c (.p (.bool true)))]
 .ret)))),false⟩
def bh:cH:=⟨9,[.tmp 4],
 (aj [aC 4 (.c (.p (.bool false)))]
 (aj [af 5 0,af 6 1,bn 7 aS [(.t 5),(.t 6)],aF 8 .geq (.t 7) (kI 0),af 4 8]
 .ret)),false⟩
def kJ:K :=
 (aj [aF 12 .lss (.t 11) (.t 10)]
 (.seq (aP 12 .skip (.exit 0))
 (.seq (.block 1 (aj [ak 13 (.au 6 (.t 9) (.t 11)),bQ 14 6 13,ak 5 (.init 6 true (.t 14) true)]
 (.cm false [af 15 3,aZ 16 1 5,bQ 17 5 16,ak 18 (.fp 5 lA 1 [(0,5,(.t 17))]),ak 19 (.append 5 64 (.t 15) (.t 18)),ak 3 (.mv (.t 19) true)])))
 (.cm false [aF 20 .add (.t 11) (kI 1),af 11 20]))))
def rp:K:=.loop [1,3,9,10,11] kJ
def iF:K :=
 (aj [aF 30 .lss (.t 29) (.t 28)]
 (.seq (aP 30 .skip (.exit 2))
 (.seq (.block 3 (aj [ak 31 (.au 11 (.t 27) (.t 29)),bQ 32 11 31,ak 7 (.init 11 true (.t 32) true)]
 (aj [af 33 3,aZ 34 1 7,bQ 35 5 34,ak 36 (.fp 5 lA 1 [(0,5,(.t 35))]),ak 37 (.append 5 64 (.t 33) (.t 36)),ak 3 (.mv (.t 37) true)]
 (aj [aZ 38 0 7,a7 39 38,aF 40 .neq (.t 39) (kI 1)]
 (aP 40 (.cm false [af 41 3,aZ 42 6 7,bQ 43 5 42,ak 44 (.fp 5 lA 1 [(0,5,(.t 43))]),ak 45 (.append 5 64 (.t 41) (.t 44)),ak 3 (.mv (.t 45) true)]) .skip)))))
 (.cm false [aF 46 .add (.t 29) (kI 1),af 29 46]))))
def wg:K:=.loop [3,27,28,29] iF
def o6:cH:=⟨48,[.tmp 2],
 (aj [ak 1 (.box 8 true (.t 0) true),aC 2 (.c .aA)]
 (aj [ak 3 (.mv (.c .aA) true)]
 (.seq (aj [aZ 8 1 1,a7 9 8,ak 10 (.bI (.t 9)),aC 11 (kI 0)]
 (.block 0 rp))
 (aj [af 21 3,aZ 22 2 1,bQ 23 5 22,ak 24 (.fp 5 lA 1 [(0,5,(.t 23))]),ak 25 (.append 5 64 (.t 21) (.t 24)),ak 3 (.mv (.t 25) true)]
 (.seq (aj [aZ 26 7 1,a7 27 26,ak 28 (.bI (.t 27)),aC 29 (kI 0)]
 (.block 2 wg))
 (aj [af 47 3,af 2 47]
 .ret)))))),false⟩
def kO:K :=
 (.cm false [ak 3 (.init 5 true (.t 6) true)])
def kP:K :=
 (.block 1 (aj [aZ 7 1 3,a7 8 7,aF 9 .eql (.t 8) (kI 0)]
 (aP 9 (aj [⟨none,.store 1 (.t 2) (.c (.p (.bool true))),none⟩]
 .ret) .skip)))
def zE:K:=.range (.t 5) [6] [2] kO kP
def lT:cH:=⟨10,[.cell 2 1 false],
 (aj [ak 1 (.box 5 true (.t 0) true),ak 2 (.alloc [(.p (.bool false))] 1)]
 (.seq (aj [bQ 4 5 1,bn 5 dv [(.t 4)]]
 (.block 0 zE))
 (aj [⟨none,.store 1 (.t 2) (.c (.p (.bool false))),none⟩]
 .ret))),false⟩
def lM:K :=
 (aj [aF 37 .lss (.t 36) (.t 35)]
 (.seq (aP 37 .skip (.exit 0))
 (.seq (.block 1 (aj [ak 38 (.au 5 (.t 34) (.t 36)),bQ 39 5 38,ak 5 (.init 5 true (.t 39) true)]
 (.cm true [aZ 40 4 3,a7 41 40,bQ 42 5 5,bn 43 bT [(.t 42)],ak 44 (.dE 5 lA 1 [(0,5,(.t 43))]),ak 45 (.append 5 64 (.t 41) (.t 44)),aZ 46 4 3,⟨none,.store 1 (.t 46) (.t 45),none⟩])))
 (.cm false [aF 47 .add (.t 36) (kI 1),af 36 47]))))
def qo:K:=.loop [2,3,34,35,36] lM
def gY:cH:=⟨49,[.cell 2 5 true],
 (aj [ak 1 (.box 5 true (.t 0) true),ak 2 (.alloc lA 5)]
 (.seq (aj [aZ 6 0 1,a7 7 6,aF 8 .eql (.t 7) (kI 26),af 9 8,⟨some 10,.bH 4 (.t 1),some (9,true)⟩,⟨some 11,.load 1 false (.t 10),some (9,true)⟩,⟨some 12,.bI (.t 11),some (9,true)⟩,⟨some 13,.arith .eql (.t 12) (kI 1),some (9,true)⟩,ak 14 (.pick (.t 9) (.t 13) (.c (.p (.bool false))))]
 (aP 14 (aj [aZ 15 4 1,a7 16 15,ak 17 (.au 5 (.t 16) (kI 0)),bQ 18 5 17,bn 19 bT [(.t 18)],⟨none,.store 5 (.t 2) (.t 19),none⟩]
 .ret) .skip))
 (aj [aZ 20 0 1,a7 21 20,aZ 22 1 1,a7 23 22,aZ 24 2 1,a7 25 24,aZ 26 3 1,a7 27 26,ak 28 (.build lA [(0,1,(.t 21)),(1,1,(.t 23)),(2,1,(.t 25)),(3,1,(.t 27))]),ak 3 (.init 5 true (.t 28) false)]
 (.seq (aj [aZ 29 0 1,a7 30 29,bn 31 dw [(.t 30)]]
 (aP 31 (.cm false [aZ 32 0 3,⟨none,.store 1 (.t 32) (kI 1),none⟩]) .skip))
 (.seq (aj [aZ 33 4 1,a7 34 33,ak 35 (.bI (.t 34)),aC 36 (kI 0)]
 (.block 0 qo))
 (aj [bQ 48 5 3,⟨none,.store 5 (.t 2) (.t 48),none⟩]
 .ret)))))),false⟩
def xH:cH:=⟨9,[.cell 2 5 true],
 (aj [ak 1 (.box 6 true (.t 0) true),ak 2 (.alloc lA 5)]
 (aj [aZ 3 1 1,aZ 4 1 3,a7 5 4,aZ 6 0 1,a7 7 6,ak 8 (.build lA [(0,1,(kI 24)),(1,1,(.t 5)),(3,1,(.t 7))]),⟨none,.store 5 (.t 2) (.t 8),none⟩]
 .ret)),false⟩
def uC:cH:=⟨41,[.cell 2 5 true],
 (aj [ak 1 (.box 11 true (.t 0) true),ak 2 (.alloc lA 5)]
 (.seq (.Gj [aZ 6 1 1,bQ 7 5 6,bn 8 fX [(.t 7)],aZ 9 6 1,bQ 10 5 9,bn 11 fX [(.t 10)],ak 3 (.alloc lA 5),ak 4 (.alloc lA 5),⟨none,.store 5 (.t 3) (.t 8),none⟩,⟨none,.store 5 (.t 4) (.t 11),none⟩] [(6,7)])
 (.seq (aj [aZ 12 0 1,a7 13 12]
 (.block 0 (aj [aF 15 .eql (.t 13) (kI 1),af 14 15]
 (aP 14 (aj [bQ 16 5 3,⟨none,.store 5 (.t 2) (.t 16),none⟩]
 .ret) (aj [aF 18 .eql (.t 13) (kI 2),af 17 18]
 (aP 17 (aj [bQ 19 5 3,bQ 20 5 4,bn 21 kr [(kI 16),(.t 19),(.t 20)],⟨none,.store 5 (.t 2) (.t 21),none⟩]
 .ret) (aj [aF 23 .eql (.t 13) (kI 3),af 22 23]
 (aP 22 (aj [aZ 24 1 3,a7 25 24,bQ 26 5 3,bQ 27 5 4,ak 28 (.fp 5 lA 2 [(0,5,(.t 26)),(1,5,(.t 27))]),ak 29 (.build lA [(0,1,(kI 5)),(1,1,(.t 25)),(4,1,(.t 28))]),ak 5 (.init 5 true (.t 29) true)]
 (aj [bQ 30 5 5,aZ 31 1 3,a7 32 31,ak 33 (.build lA [(0,1,(kI 2)),(1,1,(.t 32))]),bn 34 kr [(kI 16),(.t 30),(.t 33)],⟨none,.store 5 (.t 2) (.t 34),none⟩]
 .ret)) (aj [aF 36 .eql (.t 13) (kI 4),af 35 36]
 (aP 35 (aj [bQ 37 5 3,bQ 38 5 4,bn 39 kr [(kI 17),(.t 37),(.t 38)],⟨none,.store 5 (.t 2) (.t 39),none⟩]
 .ret) .skip))))))))))
 (aj [ak 40 (.build lA []),⟨none,.store 5 (.t 2) (.t 40),none⟩]
 .ret)))),false⟩
def BX:cH:=⟨15,[.cell 8 5 true],
 (aj [ak 6 (.box 5 true (.t 2) true),ak 7 (.box 5 true (.t 3) true),ak 8 (.alloc lA 5)]
 (aj [af 9 0,af 10 1,bQ 11 5 6,bQ 12 5 7,ak 13 (.fp 5 lA 2 [(0,5,(.t 11)),(1,5,(.t 12))]),ak 14 (.build lA [(0,1,(.t 9)),(1,1,(.t 10)),(4,1,(.t 13))]),⟨none,.store 5 (.t 8) (.t 14),none⟩]
 .ret)),false⟩
def q8:K :=
 (.seq (aj [af 21 4,aZ 22 4 1,a7 23 22,ak 24 (.bI (.t 23)),aF 25 .lss (.t 21) (.t 24)]
 (aP 25 .skip (.exit 0)))
 (.seq (.block 1 (.cm true [aZ 28 4 3,a7 29 28,aZ 30 4 1,a7 31 30,af 32 4,ak 33 (.au 5 (.t 31) (.t 32)),bQ 34 5 33,bn 35 di [(.t 34)],ak 36 (.dE 5 lA 1 [(0,5,(.t 35))]),ak 37 (.append 5 64 (.t 29) (.t 36)),aZ 38 4 3,⟨none,.store 1 (.t 38) (.t 37),none⟩]))
 (.cm false [af 26 4,aF 27 .add (.t 26) (kI 1),af 4 27])))
def vZ:K:=.loop [1,2,3,4] q8
def lF:cH:=⟨43,[.cell 2 5 true],
 (aj [ak 1 (.box 5 true (.t 0) true),ak 2 (.alloc lA 5)]
 (.seq (aj [aZ 5 0 1,a7 6 5,aF 7 .eql (.t 6) (kI 26),af 8 7,⟨some 9,.bH 4 (.t 1),some (8,true)⟩,⟨some 10,.load 1 false (.t 9),some (8,true)⟩,⟨some 11,.bI (.t 10),some (8,true)⟩,⟨some 12,.arith .eql (.t 11) (kI 1),some (8,true)⟩,ak 13 (.pick (.t 8) (.t 12) (.c (.p (.bool false))))]
 (aP 13 (aj [aZ 14 4 1,a7 15 14,ak 16 (.au 5 (.t 15) (kI 0)),bQ 17 5 16,bn 18 di [(.t 17)],⟨none,.store 5 (.t 2) (.t 18),none⟩]
 .ret) .skip))
 (aj [bQ 19 5 1,ak 3 (.init 5 true (.t 19) false)]
 (aj [aZ 20 4 3,⟨none,.store 1 (.t 20) (.c .aA),none⟩]
 (.seq (aj [aC 4 (kI 0)]
 (.block 0 vZ))
 (.seq (aj [bQ 39 5 3,bn 40 dZ [(.t 39)]]
 (aP 40 (.cm false [aZ 41 0 3,⟨none,.store 1 (.t 41) (kI 1),none⟩]) .skip))
 (aj [bQ 42 5 3,⟨none,.store 5 (.t 2) (.t 42),none⟩]
 .ret))))))),false⟩
def zB:cH:=⟨9,[.cell 2 5 true],
 (aj [ak 1 (.box 6 true (.t 0) true),ak 2 (.alloc lA 5)]
 (aj [aZ 3 1 1,aZ 4 1 3,a7 5 4,aZ 6 0 1,a7 7 6,ak 8 (.build lA [(0,1,(kI 24)),(1,1,(.t 5)),(3,1,(.t 7))]),⟨none,.store 5 (.t 2) (.t 8),none⟩]
 .ret)),false⟩
def oA:cH:=⟨39,[.cell 2 5 true],
 (aj [ak 1 (.box 11 true (.t 0) true),ak 2 (.alloc lA 5)]
 (.seq (aj [aZ 3 0 1,a7 4 3]
 (.block 0 (aj [aF 6 .eql (.t 4) (kI 1),af 5 6]
 (aP 5 (aj [aZ 7 1 1,bQ 8 5 7,⟨none,.store 5 (.t 2) (.t 8),none⟩]
 .ret) (aj [aF 10 .eql (.t 4) (kI 2),af 9 10]
 (aP 9 (aj [aZ 11 1 1,bQ 12 5 11,aZ 13 6 1,bQ 14 5 13,bn 15 lI [(kI 16),(kI 1),(.t 12),(.t 14)],⟨none,.store 5 (.t 2) (.t 15),none⟩]
 .ret) (aj [aF 17 .eql (.t 4) (kI 3),af 16 17]
 (aP 16 (.seq (.cm true [aZ 18 1 1,aZ 19 1 18,a7 20 19,aZ 21 1 1,bQ 22 5 21,aZ 23 6 1,bQ 24 5 23,bn 25 lI [(kI 5),(.t 20),(.t 22),(.t 24)],aZ 26 1 1,aZ 27 1 26,a7 28 27,ak 29 (.build lA [(0,1,(kI 2)),(1,1,(.t 28))]),bn 30 lI [(kI 16),(kI 1),(.t 25),(.t 29)],⟨none,.store 5 (.t 2) (.t 30),none⟩])
 .ret) (aj [aF 32 .eql (.t 4) (kI 4),af 31 32]
 (aP 31 (aj [aZ 33 1 1,bQ 34 5 33,aZ 35 6 1,bQ 36 5 35,bn 37 lI [(kI 17),(kI 1),(.t 34),(.t 36)],⟨none,.store 5 (.t 2) (.t 37),none⟩]
 .ret) .skip))))))))))
 (aj [ak 38 (.build lA []),⟨none,.store 5 (.t 2) (.t 38),none⟩]
 .ret))),false⟩
def fS:K :=
 (aj [aF 55 .lss (.t 54) (.t 53)]
 (.seq (aP 55 .skip (.exit 2))
 (.seq (.block 3 (aj [ak 56 (.au 1 (.t 52) (.t 54)),a7 57 56,af 17 57]
 (aj [af 58 17,af 59 14,ak 60 (.au 1 (.t 58) (.t 59)),a7 61 60,aF 62 .neq (.t 61) (.c (.p (.int .u64 1)))]
 (aP 62 (.exit 1) .skip))))
 (.cm false [aF 63 .add (.t 54) (kI 1),af 54 63]))))
def ru:K:=.loop [6,7,8,12,13,14,15,52,53,54] fS
def fQ:K :=
 (aj [af 14 48]
 (.cm false [af 15 49]))
def fR:K :=
 (.block 1 (.seq (aj [a7 50 12,a7 51 13,ak 52 (.NB 1 (.t 50) none (some (.t 51)) none),ak 53 (.bI (.t 52)),aC 54 (kI 0)]
 (.block 2 ru))
 (.seq (.cm true [a7 64 12,a7 65 13,ak 66 (.au 1 (.t 64) (.t 65)),a7 67 66,af 68 14,ak 69 (.au 1 (.t 67) (.t 68)),a7 70 69,a7 71 12,a7 72 13,aF 73 .add (.t 72) (kI 1),ak 74 (.au 1 (.t 71) (.t 73)),a7 75 74,af 76 14,ak 77 (.au 1 (.t 75) (.t 76)),a7 78 77,aF 79 .neq (.t 70) (.t 78)])
 (aP 79 (aj [af 80 15,ak 81 (.rE (.t 80) []),⟨none,.store 1 (.t 6) (.c (.p (.bool false))),none⟩,⟨none,.store 1 (.t 7) (.t 81),none⟩,⟨none,.store 1 (.t 8) (kI 0),none⟩]
 .ret) .skip))))
def BY:K:=.range (.t 47) [48,49] [6,7,8,12,13] fQ fR
def fH:cH:=⟨82,[.cell 6 1 false,.cell 7 1 false,.cell 8 1 false],
 (aj [ak 4 (.box 5 true (.t 1) true),ak 5 (.box 5 true (.t 2) true),ak 6 (.alloc [(.p (.bool false))] 1),ak 7 (.alloc [.aA] 1),ak 8 (.alloc [(.p (.int .i64 0))] 1)]
 (.seq .skip
 (.seq (.Gj [af 18 0,bn 19 dq [(.t 18)],bQ 20 5 4,bQ 21 5 5,ak 22 (.fp 5 lA 2 [(0,5,(.t 20)),(1,5,(.t 21))]),ak 23 (.append 5 64 (.t 19) (.t 22)),af 9 23] [(1,2),(1,3)])
 (aj [af 25 9,bn 26 kX [(.t 25)],af 24 26,ak 27 (.extract (.t 24) 0),ak 28 (.extract (.t 24) 1),af 10 27,af 11 28]
 (.seq (aj [af 29 11,aF 30 .neq (.t 29) (kI 0)]
 (aP 30 (aj [af 31 11,⟨none,.store 1 (.t 6) (.c (.p (.bool false))),none⟩,⟨none,.store 1 (.t 7) (.c .aA),none⟩,⟨none,.store 1 (.t 8) (.t 31),none⟩]
 .ret) .skip))
 (.seq (aj [aZ 32 1 4,a7 33 32,aZ 34 1 5,a7 35 34,aF 36 .neq (.t 33) (.t 35),af 37 36,⟨some 38,.mv (.t 0) false,some (37,false)⟩,⟨some 39,.cZ aN [(.t 38),(.c (.p (.fn dp [])))],some (37,false)⟩,ak 40 (.pick (.t 37) (.c (.p (.bool true))) (.t 39))]
 (aP 40 (aj [⟨none,.store 1 (.t 6) (.c (.p (.bool false))),none⟩,⟨none,.store 1 (.t 7) (.c .aA),none⟩,⟨none,.store 1 (.t 8) (kI 3),none⟩]
 .ret) .skip))
 (aj [af 41 10,af 42 9,bn 43 fT [(.t 41),(.t 42)],ak 12 (.init 1 false (.t 43) true)]
 (aj [af 44 0,ak 45 (.bI (.t 44)),ak 13 (.init 1 false (.t 45) true)]
 (.seq .skip
 (.seq (aj [af 46 10,bn 47 eu [(.t 46)]]
 (.block 0 BY))
 (aj [⟨none,.store 1 (.t 6) (.c (.p (.bool true))),none⟩,⟨none,.store 1 (.t 7) (.c .aA),none⟩,⟨none,.store 1 (.t 8) (kI 0),none⟩]
 .ret))))))))))),false⟩
def tp:K :=
 (.seq (aj [af 21 8,af 22 7,ak 23 (.bI (.t 22)),aF 24 .lss (.t 21) (.t 23)]
 (aP 24 .skip (.exit 2)))
 (.seq (.block 3 (aj [af 27 7,af 28 8,ak 29 (.au 5 (.t 27) (.t 28)),aZ 30 0 29,a7 31 30,af 32 0,aF 33 .eql (.t 31) (.t 32)]
 (aP 33 (.cm true [af 34 5,af 35 7,af 36 8,ak 37 (.au 5 (.t 35) (.t 36)),aZ 38 3 37,a7 39 38,af 40 7,af 41 8,ak 42 (.au 5 (.t 40) (.t 41)),aZ 43 1 42,a7 44 43,ak 45 (.build [(.p (.str (bs []))),(.p (.int .i64 0))] [(0,1,(.t 39)),(1,1,(.t 44))]),bn 46 oJ [(.t 34),(.t 45)],af 5 46]) .skip)))
 (.cm false [af 25 8,aF 26 .add (.t 25) (kI 1),af 8 26])))
def D9:K:=.loop [0,1,5,6,7,8] tp
def xq:K :=
 (.seq (aj [af 10 6,af 11 1,ak 12 (.bI (.t 11)),aF 13 .lss (.t 10) (.t 12)]
 (aP 13 .skip (.exit 0)))
 (.seq (.block 1 (aj [af 16 1,af 17 6,ak 18 (.au 5 (.t 16) (.t 17)),bQ 19 5 18,bn 20 dY [(.t 19)],af 7 20]
 (aj [aC 8 (kI 0)]
 (.block 2 D9))))
 (.cm false [af 14 6,aF 15 .add (.t 14) (kI 1),af 6 15])))
def D8:K:=.loop [0,1,5,6] xq
def vW:cH:=⟨48,[.tmp 4],
 (aj [aC 4 (.c .aA)]
 (aj [ak 9 (.dE 2 [(.p (.str (bs []))),(.p (.int .i64 0))] 0 []),af 5 9]
 (.seq (aj [aC 6 (kI 0)]
 (.block 0 D8))
 (aj [af 47 5,af 4 47]
 .ret)))),false⟩
def lX:cH:=⟨36,[.tmp 4],
 (aj [ak 2 (.box 5 true (.t 0) true),ak 3 (.box 5 true (.t 1) true),aC 4 (.c (.p (.bool false)))]
 (.seq (aj [aZ 5 0 2,a7 6 5,aZ 7 0 3,a7 8 7,aF 9 .neq (.t 6) (.t 8),af 10 9,⟨some 11,.bH 1 (.t 2),some (10,false)⟩,⟨some 12,.load 1 false (.t 11),some (10,false)⟩,⟨some 13,.bH 1 (.t 3),some (10,false)⟩,⟨some 14,.load 1 false (.t 13),some (10,false)⟩,⟨some 15,.arith .neq (.t 12) (.t 14),some (10,false)⟩,ak 16 (.pick (.t 10) (.c (.p (.bool true))) (.t 15)),af 17 16,⟨some 18,.bH 2 (.t 2),some (17,false)⟩,⟨some 19,.load 1 false (.t 18),some (17,false)⟩,⟨some 20,.bH 2 (.t 3),some (17,false)⟩,⟨some 21,.load 1 false (.t 20),some (17,false)⟩,⟨some 22,.arith .neq (.t 19) (.t 21),some (17,false)⟩,ak 23 (.pick (.t 17) (.c (.p (.bool true))) (.t 22)),af 24 23,⟨some 25,.bH 3 (.t 2),some (24,false)⟩,⟨some 26,.load 1 false (.t 25),some (24,false)⟩,⟨some 27,.bH 3 (.t 3),some (24,false)⟩,⟨some 28,.load 1 false (.t 27),some (24,false)⟩,⟨some 29,.arith .neq (.t 26) (.t 28),some (24,false)⟩,ak 30 (.pick (.t 24) (.c (.p (.bool true))) (.t 29))]
 (aP 30 (aj [aC 4 (.c (.p (.bool false)))]
 .ret) .skip))
 (aj [aZ 31 4 2,a7 32 31,aZ 33 4 3,a7 34 33,bn 35 aM [(.t 32),(.t 34),(.c (.p (.fn jo [])))],af 4 35]
 .ret))),false⟩
def oW:cH:=⟨5,[.tmp 2],
 (aj [aC 2 (.c .aA)]
 (aj [af 3 0,bn 4 er [(kI 24),(.t 3)],af 2 4]
 .ret)),false⟩
def rN:K :=
 (aj [aF 9 .lss (.t 8) (.t 7)]
 (.seq (aP 9 .skip (.exit 0))
 (.seq (.block 1 (aj [ak 10 (.au 6 (.t 6) (.t 8)),bQ 11 6 10,ak 5 (.init 6 true (.t 11) true)]
 (.seq (aj [aZ 12 0 5,a7 13 12,aF 14 .neq (.t 13) (.c (.p (.str (bs []))))]
 (aP 14 (.cm false [af 15 3,bQ 16 6 5,bn 17 oc [(.t 16)],ak 18 (.fp 5 lA 1 [(0,5,(.t 17))]),ak 19 (.append 5 64 (.t 15) (.t 18)),ak 3 (.mv (.t 19) true)]) .skip))
 (.cm false [af 20 3,aZ 21 1 5,bQ 22 5 21,ak 23 (.fp 5 lA 1 [(0,5,(.t 22))]),ak 24 (.append 5 64 (.t 20) (.t 23)),ak 3 (.mv (.t 24) true)]))))
 (.cm false [aF 25 .add (.t 8) (kI 1),af 8 25]))))
def By:K:=.loop [3,6,7,8] rN
def uH:cH:=⟨27,[.tmp 2],
 (aj [aC 2 (.c .aA)]
 (aj [ak 3 (.mv (.c .aA) true)]
 (.seq (aj [af 6 0,ak 7 (.bI (.t 6)),aC 8 (kI 0)]
 (.block 0 By))
 (aj [af 26 3,af 2 26]
 .ret)))),false⟩
def qc:cH:=⟨5,[.tmp 2],
 (aj [aC 2 (.c .aA)]
 (aj [af 3 0,bn 4 er [(kI 25),(.t 3)],af 2 4]
 .ret)),false⟩
def kL:cH:=⟨11,[.tmp 2],
 (aj [ak 1 (.box 5 true (.t 0) true),aC 2 (.c (.p (.bool false)))]
 (aj [aZ 3 0 1,a7 4 3,aF 5 .eql (.t 4) (kI 26),af 6 5,⟨some 7,.bH 4 (.t 1),some (6,false)⟩,⟨some 8,.load 1 false (.t 7),some (6,false)⟩,⟨some 9,.cZ aN [(.t 8),(.c (.p (.fn eR [])))],some (6,false)⟩,ak 10 (.pick (.t 6) (.c (.p (.bool true))) (.t 9)),af 2 10]
 .ret)),false⟩
def pZ:K :=
 (aj [aF 10 .lss (.t 9) (.t 8)]
 (.seq (aP 10 .skip (.exit 0))
 (.seq (.block 1 (aj [ak 11 (.au 2 (.t 7) (.t 9)),bQ 12 2 11,ak 6 (.init 2 true (.t 12) true)]
 (aj [af 13 1,bQ 14 2 6,bn 15 aT [(.t 13),(.t 14)],ak 16 (.not (.t 15))]
 (aP 16 (aj [aC 4 (.c (.p (.bool false)))]
 .ret) .skip))))
 (.cm false [aF 17 .add (.t 9) (kI 1),af 9 17]))))
def uV:K:=.loop [1,7,8,9] pZ
def px:cH:=⟨18,[.tmp 4],
 (aj [aC 4 (.c (.p (.bool false)))]
 (.seq (aj [af 7 0,ak 8 (.bI (.t 7)),aC 9 (kI 0)]
 (.block 0 uV))
 (aj [aC 4 (.c (.p (.bool true)))]
 .ret))),false⟩
def yE:K :=
 (aj [aF 12 .lss (.t 11) (.t 10)]
 (.seq (aP 12 .skip (.exit 0))
 (.seq (.block 1 (aj [ak 13 (.au 5 (.t 9) (.t 11)),bQ 14 5 13,ak 5 (.init 5 true (.t 14) true)]
 (.cm true [aZ 15 4 3,a7 16 15,bQ 17 5 5,bn 18 fX [(.t 17)],ak 19 (.dE 5 lA 1 [(0,5,(.t 18))]),ak 20 (.append 5 64 (.t 16) (.t 19)),aZ 21 4 3,⟨none,.store 1 (.t 21) (.t 20),none⟩])))
 (.cm false [aF 22 .add (.t 11) (kI 1),af 11 22]))))
def CM:K:=.loop [2,3,9,10,11] yE
def xJ:cH:=⟨24,[.cell 2 5 true],
 (aj [ak 1 (.box 5 true (.t 0) true),ak 2 (.alloc lA 5)]
 (aj [bQ 6 5 1,ak 3 (.init 5 true (.t 6) false)]
 (aj [aZ 7 4 3,⟨none,.store 1 (.t 7) (.c .aA),none⟩]
 (.seq (aj [aZ 8 4 1,a7 9 8,ak 10 (.bI (.t 9)),aC 11 (kI 0)]
 (.block 0 CM))
 (aj [bQ 23 5 3,⟨none,.store 5 (.t 2) (.t 23),none⟩]
 .ret))))),false⟩
def ux:K :=
 (.seq (aj [af 7 4,af 8 3,ak 9 (.bI (.t 8)),aF 10 .lss (.t 7) (.t 9)]
 (aP 10 .skip (.exit 0)))
 (.seq (.block 1 (aj [af 13 3,af 14 4,ak 15 (.au 5 (.t 13) (.t 14)),aZ 16 0 15,a7 17 16,aF 18 .eql (.t 17) (kI 26)]
 (aP 18 (aj [aC 2 (.c (.p (.bool true)))]
 .ret) .skip)))
 (.cm false [af 11 4,aF 12 .add (.t 11) (kI 1),af 4 12])))
def yL:K:=.loop [3,4] ux
def tC:cH:=⟨19,[.tmp 2],
 (aj [ak 1 (.box 5 true (.t 0) true),aC 2 (.c (.p (.bool false)))]
 (aj [bQ 5 5 1,bn 6 dY [(.t 5)],af 3 6]
 (.seq (aj [aC 4 (kI 0)]
 (.block 0 yL))
 (aj [aC 2 (.c (.p (.bool false)))]
 .ret)))),false⟩
def ur:K :=
 (.seq (aj [af 16 7,aZ 17 4 3,a7 18 17,ak 19 (.bI (.t 18)),aF 20 .lss (.t 16) (.t 19),af 21 20,⟨some 22,.mv (.t 2) false,some (21,true)⟩,⟨some 23,.arith .geq (.t 22) (kI 0),some (21,true)⟩,ak 24 (.pick (.t 21) (.t 23) (.c (.p (.bool false))))]
 (aP 24 .skip (.exit 0)))
 (.seq (.block 1 (.cm false [aZ 27 4 3,a7 28 27,af 29 7,ak 30 (.au 5 (.t 28) (.t 29)),bQ 31 5 30,af 32 1,aF 33 .sub (.t 32) (kI 1),af 34 2,bn 35 nY [(.t 31),(.t 33),(.t 34)],af 2 35]))
 (.cm false [af 25 7,aF 26 .add (.t 25) (kI 1),af 7 26])))
def yH:K:=.loop [1,2,3,7] ur
def nT:cH:=⟨37,[.tmp 6],
 (aj [ak 3 (.box 5 true (.t 0) true),aC 6 (kI 0)]
 (.seq (aj [af 8 1,aF 9 .lss (.t 8) (kI 1),af 10 9,⟨some 11,.mv (.t 2) false,some (10,false)⟩,⟨some 12,.arith .lss (.t 11) (kI 1),some (10,false)⟩,ak 13 (.pick (.t 10) (.c (.p (.bool true))) (.t 12))]
 (aP 13 (aj [aC 6 (kI (-1))]
 .ret) .skip))
 (aj [af 14 2,aF 15 .sub (.t 14) (kI 1),af 2 15]
 (.seq (aj [aC 7 (kI 0)]
 (.block 0 yH))
 (aj [af 36 2,af 6 36]
 .ret))))),false⟩
def oS:K :=
 (aj [aF 45 .lss (.t 44) (.t 43)]
 (.seq (aP 45 .skip (.exit 0))
 (.seq (.block 1 (aj [ak 46 (.au 5 (.t 42) (.t 44)),bQ 47 5 46,ak 9 (.init 5 true (.t 47) true)]
 (aj [af 48 0,bQ 49 5 9,bn 50 k7 [(.t 48),(.t 49)],ak 51 (.not (.t 50))]
 (aP 51 (aj [aC 4 (.c (.p (.bool false)))]
 .ret) .skip))))
 (.cm false [aF 52 .add (.t 44) (kI 1),af 44 52]))))
def si:K:=.loop [0,42,43,44] oS
def dK:cH:=⟨53,[.tmp 4],
 (aj [ak 3 (.box 5 true (.t 1) true),aC 4 (.c (.p (.bool false)))]
 (.seq (aj [aZ 10 0 3,a7 11 10,aF 12 .eql (.t 11) (kI 24),af 13 12,⟨some 14,.bH 0 (.t 3),some (13,false)⟩,⟨some 15,.load 1 false (.t 14),some (13,false)⟩,⟨some 16,.arith .eql (.t 15) (kI 25),some (13,false)⟩,ak 17 (.pick (.t 13) (.c (.p (.bool true))) (.t 16))]
 (aP 17 (aj [aZ 18 0 3,a7 19 18,aZ 20 1 3,a7 21 20,ak 22 (.build [(.p (.int .i64 0)),(.p (.int .i64 0))] [(0,1,(.t 19)),(1,1,(.t 21))]),ak 5 (.init 2 true (.t 22) true)]
 (aj [af 24 0,aZ 25 3 3,a7 26 25,ak 27 (.lookup .str (.p (.agg [(.int .i64 0),(.int .i64 0)])) (.t 24) (.t 26) true),af 23 27,ak 28 (.extract (.t 23) 0),ak 29 (.extract (.t 23) 1),ak 6 (.init 2 true (.t 28) true),af 7 29]
 (aj [af 30 0,aZ 31 3 3,a7 32 31,bQ 33 2 5,⟨none,.VC .str (.t 30) (.t 32) (.t 33),none⟩]
 (aj [af 34 7,ak 35 (.not (.t 34)),af 36 35,⟨some 37,.load 2 true (.t 6),some (36,false)⟩,⟨some 38,.load 2 true (.t 5),some (36,false)⟩,⟨some 39,.eqA false [.int,.int] (.t 37) (.t 38),some (36,false)⟩,ak 40 (.pick (.t 36) (.c (.p (.bool true))) (.t 39)),af 4 40]
 .ret)))) .skip))
 (.seq (aj [aZ 41 4 3,a7 42 41,ak 43 (.bI (.t 42)),aC 44 (kI 0)]
 (.block 0 si))
 (aj [aC 4 (.c (.p (.bool true)))]
 .ret)))),true⟩
def yF:K :=
 (aj [aF 10 .lss (.t 9) (.t 8)]
 (.seq (aP 10 .skip (.exit 0))
 (.seq (.block 1 (aj [ak 11 (.au 5 (.t 7) (.t 9)),bQ 12 5 11,ak 5 (.init 5 true (.t 12) true)]
 (.cm false [af 13 3,bQ 14 5 5,bn 15 od [(.t 14)],aF 16 .add (.t 13) (.t 15),af 3 16])))
 (.cm false [aF 17 .add (.t 9) (kI 1),af 9 17]))))
def CN:K:=.loop [3,7,8,9] yF
def xK:cH:=⟨19,[.tmp 2],
 (aj [ak 1 (.box 5 true (.t 0) true),aC 2 (kI 0)]
 (aj [aC 3 (kI 1)]
 (.seq (aj [aZ 6 4 1,a7 7 6,ak 8 (.bI (.t 7)),aC 9 (kI 0)]
 (.block 0 CN))
 (aj [af 18 3,af 2 18]
 .ret)))),false⟩
def wW:K :=
 (aj [aF 10 .lss (.t 9) (.t 8)]
 (.seq (aP 10 .skip (.exit 0))
 (.seq (.block 1 (aj [ak 11 (.au 5 (.t 7) (.t 9)),bQ 12 5 11,ak 5 (.init 5 true (.t 12) true)]
 (.cm false [af 13 3,bQ 14 5 5,bn 15 mg [(.t 14)],ak 16 (.wE true [(.t 13),(.t 15)]),af 3 16])))
 (.cm false [aF 17 .add (.t 9) (kI 1),af 9 17]))))
def Bz:K:=.loop [3,7,8,9] wW
def uK:cH:=⟨20,[.tmp 2],
 (aj [ak 1 (.box 5 true (.t 0) true),aC 2 (kI 0)]
 (aj [aC 3 (kI 0)]
 (.seq (aj [aZ 6 4 1,a7 7 6,ak 8 (.bI (.t 7)),aC 9 (kI 0)]
 (.block 0 Bz))
 (aj [af 18 3,aF 19 .add (.t 18) (kI 1),af 2 19]
 .ret)))),false⟩
def nd:K :=
 (aj [aF 12 .lss (.t 11) (.t 10)]
 (.seq (aP 12 .skip (.exit 0))
 (.seq (.block 1 (aj [ak 13 (.au 5 (.t 9) (.t 11)),bQ 14 5 13,ak 6 (.init 5 true (.t 14) true)]
 (aj [bQ 15 5 6,af 16 1,bn 17 ik [(.t 15),(.t 16)],af 7 17]
 (aj [af 18 7,aF 19 .neq (.t 18) (kI 0)]
 (aP 19 (aj [af 20 7,af 4 20]
 .ret) .skip)))))
 (.cm false [aF 21 .add (.t 11) (kI 1),af 11 21]))))
def rj:K:=.loop [1,2,9,10,11] nd
def lE:cH:=⟨25,[.tmp 4],
 (aj [ak 2 (.box 5 true (.t 0) true),aC 4 (kI 0)]
 (.seq (aj [aZ 8 4 2,a7 9 8,ak 10 (.bI (.t 9)),aC 11 (kI 0)]
 (.block 0 rj))
 (aj [bQ 22 5 2,af 23 1,bn 24 kZ [(.t 22),(.t 23)],af 4 24]
 .ret))),false⟩
def kS:cH:=⟨4,[.tmp 2],
 (aj [ak 1 (.box 5 true (.t 0) true),aC 2 (.c (.p .Aa))]
 (aj [ak 3 (.AD cg [(.t 1)]),af 2 3]
 .ret)),false⟩
def kT:cH:=⟨9,[.tmp 2],
 (aj [aC 2 (.c (.p (.bool false)))]
 (aj [af 3 0,aF 4 .eql (.t 3) (kI 24),af 5 4,⟨some 6,.mv (.t 0) false,some (5,false)⟩,⟨some 7,.arith .eql (.t 6) (kI 25),some (5,false)⟩,ak 8 (.pick (.t 5) (.c (.p (.bool true))) (.t 7)),af 2 8]
 .ret)),false⟩
def cA:cH:=⟨9,[.tmp 4],
 (aj [ak 3 (.box 2 true (.t 1) true),aC 4 (.c (.p (.bool false)))]
 (aj [af 5 0,bQ 6 2 3,bn 7 bW [(.t 5),(.t 6)],aF 8 .geq (.t 7) (kI 0),af 4 8]
 .ret)),false⟩
def bU:cH:=⟨68,[.tmp 6],
 (aj [ak 3 (.box 11 true (.t 0) true),aC 6 (kI 0)]
 (.seq (aj [bQ 12 11 3,bn 13 oG [(.t 12)],ak 14 (.not (.t 13))]
 (aP 14 (aj [aC 6 (kI 1)]
 .ret) .skip))
 (.seq (aj [aZ 15 1 3,bQ 16 5 15,bn 17 eJ [(.t 16),(.c (.p (.bool false)))],af 7 17]
 (aj [af 18 7,aF 19 .neq (.t 18) (kI 0)]
 (aP 19 (aj [af 20 7,af 6 20]
 .ret) .skip)))
 (.seq (aj [aZ 21 0 3,a7 22 21,aF 23 .neq (.t 22) (kI 1)]
 (aP 23 (aj [aZ 24 6 3,bQ 25 5 24,bn 26 eJ [(.t 25),(.c (.p (.bool false)))],af 8 26]
 (aj [af 27 8,aF 28 .neq (.t 27) (kI 0)]
 (aP 28 (aj [af 29 8,af 6 29]
 .ret) .skip))) .skip))
 (aj [af 30 1,af 31 1,af 9 30,af 10 31]
 (aj [aZ 32 6 3,aZ 33 1 32,a7 34 33,af 11 34]
 (.seq (aj [aZ 35 0 3,a7 36 35]
 (.block 0 (aj [aF 38 .eql (.t 36) (kI 1),af 37 38]
 (aP 37 (.cm false [aC 9 (.c .aA),aC 10 (.c .aA),aC 11 (kI 1)]) (.seq (aj [aF 40 .eql (.t 36) (kI 3),af 39 40]
 (aP 39 .skip (.cm false [aF 41 .eql (.t 36) (kI 4),af 39 41])))
 (aP 39 (.cm false [aC 10 (.c .aA)]) .skip))))))
 (.seq (.block 1 (aj [aZ 43 1 3,bQ 44 5 43,af 45 9,af 46 2,bn 47 jm [(.t 44),(.t 45),(.t 46)],ak 48 (.not (.t 47)),af 49 48,⟨some 50,.bH 0 (.t 3),some (49,false)⟩,⟨some 51,.load 1 false (.t 50),some (49,false)⟩,⟨some 52,.arith .neq (.t 51) (kI 1),some (49,false)⟩,⟨some 53,.mv (.t 52) false,some (49,false)⟩,⟨some 54,.bH 6 (.t 3),some (53,true)⟩,⟨some 55,.load 5 true (.t 54),some (53,true)⟩,⟨some 56,.mv (.t 10) false,some (53,true)⟩,⟨some 57,.mv (.t 2) false,some (53,true)⟩,⟨some 58,.cZ jm [(.t 55),(.t 56),(.t 57)],some (53,true)⟩,⟨some 59,.not (.t 58),some (53,true)⟩,⟨some 60,.pick (.t 53) (.t 59) (.c (.p (.bool false))),some (49,false)⟩,ak 61 (.pick (.t 49) (.c (.p (.bool true))) (.t 60)),af 42 61]
 (aP 42 (aj [aC 6 (kI 12)]
 .ret) (aj [aZ 63 1 3,aZ 64 1 63,a7 65 64,af 66 11,aF 67 .neq (.t 65) (.t 66),af 62 67]
 (aP 62 (aj [aC 6 (kI 3)]
 .ret) .skip)))))
 (aj [aC 6 (kI 0)]
 .ret))))))))),false⟩
def j4:K :=
 (.seq (aj [af 11 4,af 12 3,aF 13 .lss (.t 11) (.t 12)]
 (aP 13 .skip (.exit 2)))
 (.seq (.block 3 (.seq (.cm true [af 16 0,af 17 3,ak 18 (.au 5 (.t 16) (.t 17)),aZ 19 3 18,a7 20 19,af 21 0,af 22 4,ak 23 (.au 5 (.t 21) (.t 22)),aZ 24 3 23,a7 25 24,aF 26 .eql (.t 20) (.t 25),af 27 26,⟨some 28,.mv (.t 0) false,some (27,true)⟩,⟨some 29,.mv (.t 3) false,some (27,true)⟩,⟨some 30,.au 5 (.t 28) (.t 29),some (27,true)⟩,⟨some 31,.bH 0 (.t 30),some (27,true)⟩,⟨some 32,.load 1 false (.t 31),some (27,true)⟩,⟨some 33,.mv (.t 0) false,some (27,true)⟩,⟨some 34,.mv (.t 4) false,some (27,true)⟩,⟨some 35,.au 5 (.t 33) (.t 34),some (27,true)⟩,⟨some 36,.bH 0 (.t 35),some (27,true)⟩,⟨some 37,.load 1 false (.t 36),some (27,true)⟩,⟨some 38,.arith .neq (.t 32) (.t 37),some (27,true)⟩,⟨some 39,.mv (.t 38) false,some (27,true)⟩,⟨some 40,.mv (.t 0) false,some (39,false)⟩,⟨some 41,.mv (.t 3) false,some (39,false)⟩,⟨some 42,.au 5 (.t 40) (.t 41),some (39,false)⟩,⟨some 43,.bH 1 (.t 42),some (39,false)⟩,⟨some 44,.load 1 false (.t 43),some (39,false)⟩,⟨some 45,.mv (.t 0) false,some (39,false)⟩,⟨some 46,.mv (.t 4) false,some (39,false)⟩,⟨some 47,.au 5 (.t 45) (.t 46),some (39,false)⟩,⟨some 48,.bH 1 (.t 47),some (39,false)⟩,⟨some 49,.load 1 false (.t 48),some (39,false)⟩,⟨some 50,.arith .neq (.t 44) (.t 49),some (39,false)⟩,⟨some 51,.pick (.t 39) (.c (.p (.bool true))) (.t 50),some (27,true)⟩,ak 52 (.pick (.t 27) (.t 51) (.c (.p (.bool false))))])
 (aP 52 (aj [aC 2 (.c (.p (.bool true)))]
 .ret) .skip)))
 (.cm false [af 14 4,aF 15 .add (.t 14) (kI 1),af 4 15])))
def yO:K:=.loop [0,3,4] j4
def uw:K :=
 (.seq (aj [af 5 3,af 6 0,ak 7 (.bI (.t 6)),aF 8 .lss (.t 5) (.t 7)]
 (aP 8 .skip (.exit 0)))
 (.seq (.block 1 (aj [aC 4 (kI 0)]
 (.block 2 yO)))
 (.cm false [af 9 3,aF 10 .add (.t 9) (kI 1),af 3 10])))
def yK:K:=.loop [0,3] uw
def tz:cH:=⟨53,[.tmp 2],
 (aj [aC 2 (.c (.p (.bool false)))]
 (.seq (aj [aC 3 (kI 0)]
 (.block 0 yK))
 (aj [aC 2 (.c (.p (.bool false)))]
 .ret))),false⟩
def eO:K :=
 (.seq (aj [af 38 6,af 39 5,ak 40 (.bI (.t 39)),aF 41 .lss (.t 38) (.t 40)]
 (aP 41 .skip (.exit 2)))
 (.seq (.block 3 (aj [af 44 5,af 45 6,ak 46 (.au 5 (.t 44) (.t 45)),aZ 47 0 46,a7 48 47,aF 49 .eql (.t 48) (kI 24),af 50 49,⟨some 51,.mv (.t 5) false,some (50,false)⟩,⟨some 52,.mv (.t 6) false,some (50,false)⟩,⟨some 53,.au 5 (.t 51) (.t 52),some (50,false)⟩,⟨some 54,.bH 0 (.t 53),some (50,false)⟩,⟨some 55,.load 1 false (.t 54),some (50,false)⟩,⟨some 56,.arith .eql (.t 55) (kI 25),some (50,false)⟩,ak 57 (.pick (.t 50) (.c (.p (.bool true))) (.t 56))]
 (aP 57 (.cm false [af 58 3,af 59 5,af 60 6,ak 61 (.au 5 (.t 59) (.t 60)),bQ 62 5 61,ak 63 (.fp 5 lA 1 [(0,5,(.t 62))]),ak 64 (.append 5 64 (.t 58) (.t 63)),ak 3 (.mv (.t 64) true)]) .skip)))
 (.cm false [af 42 6,aF 43 .add (.t 42) (kI 1),af 6 43])))
def wc:K:=.loop [1,3,4,5,6] eO
def ng:K :=
 (.seq (aj [af 8 4,aZ 9 1 1,a7 10 9,ak 11 (.bI (.t 10)),aF 12 .lss (.t 8) (.t 11)]
 (aP 12 .skip (.exit 0)))
 (.seq (.block 1 (.seq (aj [aZ 15 1 1,a7 16 15,af 17 4,ak 18 (.au 6 (.t 16) (.t 17)),aZ 19 0 18,a7 20 19,aF 21 .neq (.t 20) (.c (.p (.str (bs []))))]
 (aP 21 (.cm false [af 22 3,aZ 23 1 1,a7 24 23,af 25 4,ak 26 (.au 6 (.t 24) (.t 25)),bQ 27 6 26,bn 28 oM [(.t 27)],ak 29 (.fp 5 lA 1 [(0,5,(.t 28))]),ak 30 (.append 5 64 (.t 22) (.t 29)),ak 3 (.mv (.t 30) true)]) .skip))
 (aj [aZ 31 1 1,a7 32 31,af 33 4,ak 34 (.au 6 (.t 32) (.t 33)),aZ 35 1 34,bQ 36 5 35,bn 37 dY [(.t 36)],af 5 37]
 (aj [aC 6 (kI 0)]
 (.block 2 wc)))))
 (.cm false [af 13 4,aF 14 .add (.t 13) (kI 1),af 4 14])))
def v7:K:=.loop [1,3,4] ng
def oY:cH:=⟨66,[.tmp 2],
 (aj [ak 1 (.box 8 true (.t 0) true),aC 2 (.c .aA)]
 (aj [ak 7 (.dE 5 lA 0 []),ak 3 (.mv (.t 7) true)]
 (.seq (aj [aC 4 (kI 0)]
 (.block 0 v7))
 (aj [af 65 3,af 2 65]
 .ret)))),false⟩
def xE:cH:=⟨9,[.tmp 4],
 (aj [ak 2 (.box 5 true (.t 0) true),aC 4 (.c (.p (.bool false)))]
 (aj [bQ 5 5 2,af 6 1,bn 7 qH [(.t 5),(.t 6)],aF 8 .geq (.t 7) (kI 0),af 4 8]
 .ret)),false⟩
def xn:K :=
 (.seq (aj [af 8 5,aZ 9 4 2,a7 10 9,ak 11 (.bI (.t 10)),aF 12 .lss (.t 8) (.t 11)]
 (aP 12 .skip (.exit 0)))
 (.seq (.block 1 (aj [aZ 15 4 2,a7 16 15,af 17 5,ak 18 (.au 5 (.t 16) (.t 17)),bQ 19 5 18,af 20 1,aF 21 .sub (.t 20) (kI 1),bn 22 qF [(.t 19),(.t 21)]]
 (aP 22 (aj [aC 4 (.c (.p (.bool true)))]
 .ret) .skip)))
 (.cm false [af 13 5,aF 14 .add (.t 13) (kI 1),af 5 14])))
def AM:K:=.loop [1,2,5] xn
def sD:cH:=⟨23,[.tmp 4],
 (aj [ak 2 (.box 5 true (.t 0) true),aC 4 (.c (.p (.bool false)))]
 (.seq (aj [af 6 1,aF 7 .lss (.t 6) (kI 1)]
 (aP 7 (aj [aC 4 (.c (.p (.bool true)))]
 .ret) .skip))
 (.seq (aj [aC 5 (kI 0)]
 (.block 0 AM))
 (aj [aC 4 (.c (.p (.bool false)))]
 .ret)))),false⟩
def q7:K :=
 (.seq (aj [af 6 4,aZ 7 4 1,a7 8 7,ak 9 (.bI (.t 8)),aF 10 .lss (.t 6) (.t 9)]
 (aP 10 .skip (.exit 0)))
 (.seq (.block 1 (.cm false [af 13 3,aZ 14 4 1,a7 15 14,af 16 4,ak 17 (.au 5 (.t 15) (.t 16)),bQ 18 5 17,bn 19 fL [(.t 18)],ak 20 (.append 5 64 (.t 13) (.t 19)),ak 3 (.mv (.t 20) true)]))
 (.cm false [af 11 4,aF 12 .add (.t 11) (kI 1),af 4 12])))
def vY:K:=.loop [1,3,4] q7
def oX:cH:=⟨26,[.tmp 2],
 (aj [ak 1 (.box 5 true (.t 0) true),aC 2 (.c .aA)]
 (aj [ak 5 (.dE 5 lA 0 []),ak 3 (.mv (.t 5) true)]
 (.seq (aj [aC 4 (kI 0)]
 (.block 0 vY))
 (aj [af 21 3,bQ 22 5 1,ak 23 (.dE 5 lA 1 [(0,5,(.t 22))]),ak 24 (.append 5 64 (.t 21) (.t 23)),ak 3 (.mv (.t 24) true)]
 (aj [af 25 3,af 2 25]
 .ret))))),false⟩
def AJ:K :=
 (.seq (aj [af 95 8,af 96 7,ak 97 (.bI (.t 96)),aF 98 .lss (.t 95) (.t 97)]
 (aP 98 .skip (.exit 0)))
 (.seq (.block 1 (aj [af 101 7,af 102 8,ak 103 (.au 5 (.t 101) (.t 102)),aZ 104 0 103,a7 105 104,aF 106 .eql (.t 105) (kI 24),af 107 106,⟨some 108,.mv (.t 7) false,some (107,false)⟩,⟨some 109,.mv (.t 8) false,some (107,false)⟩,⟨some 110,.au 5 (.t 108) (.t 109),some (107,false)⟩,⟨some 111,.bH 0 (.t 110),some (107,false)⟩,⟨some 112,.load 1 false (.t 111),some (107,false)⟩,⟨some 113,.arith .eql (.t 112) (kI 26),some (107,false)⟩,ak 114 (.pick (.t 107) (.c (.p (.bool true))) (.t 113))]
 (aP 114 (aj [aC 4 (kI 12)]
 .ret) .skip)))
 (.cm false [af 99 8,aF 100 .add (.t 99) (kI 1),af 8 100])))
def AP:K:=.loop [7,8] AJ
def cI:cH:=⟨115,[.tmp 4],
 (aj [ak 2 (.box 5 true (.t 0) true),aC 4 (kI 0)]
 (.seq (.seq (.cm true [aZ 9 0 2,a7 10 9,bn 11 ku [(.t 10)],aF 12 .lss (.t 11) (kI 0),af 13 12,⟨some 14,.bH 0 (.t 2),some (13,false)⟩,⟨some 15,.load 1 false (.t 14),some (13,false)⟩,⟨some 16,.arith .eql (.t 15) (kI 1),some (13,false)⟩,ak 17 (.pick (.t 13) (.c (.p (.bool true))) (.t 16)),af 18 17,⟨some 19,.bH 0 (.t 2),some (18,false)⟩,⟨some 20,.load 1 false (.t 19),some (18,false)⟩,⟨some 21,.arith .eql (.t 20) (kI 26),some (18,false)⟩,⟨some 22,.mv (.t 21) false,some (18,false)⟩,⟨some 23,.mv (.t 1) false,some (22,true)⟩,⟨some 24,.not (.t 23),some (22,true)⟩,⟨some 25,.pick (.t 22) (.t 24) (.c (.p (.bool false))),some (18,false)⟩,ak 26 (.pick (.t 18) (.c (.p (.bool true))) (.t 25)),af 27 26,⟨some 28,.bH 4 (.t 2),some (27,false)⟩,⟨some 29,.load 1 false (.t 28),some (27,false)⟩,⟨some 30,.bI (.t 29),some (27,false)⟩,⟨some 31,.bH 0 (.t 2),some (27,false)⟩,⟨some 32,.load 1 false (.t 31),some (27,false)⟩,⟨some 33,.cZ ku [(.t 32)],some (27,false)⟩,⟨some 34,.arith .neq (.t 30) (.t 33),some (27,false)⟩,ak 35 (.pick (.t 27) (.c (.p (.bool true))) (.t 34))])
 (aP 35 (aj [aC 4 (kI 4)]
 .ret) .skip))
 (.seq (aj [bQ 36 5 2,bn 37 dZ [(.t 36)],ak 38 (.not (.t 37)),af 39 38,⟨some 40,.bH 3 (.t 2),some (39,true)⟩,⟨some 41,.load 1 false (.t 40),some (39,true)⟩,⟨some 42,.arith .neq (.t 41) (.c (.p (.str (bs [])))),some (39,true)⟩,ak 43 (.pick (.t 39) (.t 42) (.c (.p (.bool false)))),af 44 43,⟨some 45,.bH 0 (.t 2),some (44,false)⟩,⟨some 46,.load 1 false (.t 45),some (44,false)⟩,⟨some 47,.arith .neq (.t 46) (kI 2),some (44,false)⟩,⟨some 48,.mv (.t 47) false,some (44,false)⟩,⟨some 49,.bH 0 (.t 2),some (48,true)⟩,⟨some 50,.load 1 false (.t 49),some (48,true)⟩,⟨some 51,.arith .neq (.t 50) (kI 21),some (48,true)⟩,⟨some 52,.pick (.t 48) (.t 51) (.c (.p (.bool false))),some (44,false)⟩,⟨some 53,.mv (.t 52) false,some (44,false)⟩,⟨some 54,.bH 2 (.t 2),some (53,true)⟩,⟨some 55,.load 1 false (.t 54),some (53,true)⟩,⟨some 56,.arith .neq (.t 55) (.c (.p (.int .u64 0))),some (53,true)⟩,⟨some 57,.pick (.t 53) (.t 56) (.c (.p (.bool false))),some (44,false)⟩,ak 58 (.pick (.t 44) (.c (.p (.bool true))) (.t 57))]
 (aP 58 (aj [aC 4 (kI 4)]
 .ret) .skip))
 (.seq (aj [bQ 59 5 2,bn 60 dZ [(.t 59)],af 61 60,⟨some 62,.bH 3 (.t 2),some (61,true)⟩,⟨some 63,.load 1 false (.t 62),some (61,true)⟩,⟨some 64,.cZ oI [(.t 63)],some (61,true)⟩,⟨some 65,.not (.t 64),some (61,true)⟩,ak 66 (.pick (.t 61) (.t 65) (.c (.p (.bool false))))]
 (aP 66 (aj [aC 4 (kI 5)]
 .ret) .skip))
 (.seq (.cm true [aZ 68 0 2,a7 69 68,aZ 70 1 2,a7 71 70,aZ 72 2 2,a7 73 72,bQ 74 5 2,bn 75 oK [(.t 74)],bn 76 qC [(.t 69),(.t 71),(.t 73),(.t 75)],af 67 76,ak 77 (.extract (.t 67) 0),ak 78 (.extract (.t 67) 1),af 5 77,af 6 78])
 (.seq (aj [af 79 6,aF 80 .neq (.t 79) (kI 0),af 81 80,⟨some 82,.mv (.t 5) false,some (81,false)⟩,⟨some 83,.bH 1 (.t 2),some (81,false)⟩,⟨some 84,.load 1 false (.t 83),some (81,false)⟩,⟨some 85,.arith .neq (.t 82) (.t 84),some (81,false)⟩,ak 86 (.pick (.t 81) (.c (.p (.bool true))) (.t 85))]
 (aP 86 (aj [aC 4 (kI 3)]
 .ret) .skip))
 (.seq (aj [aZ 87 0 2,a7 88 87,aF 89 .neq (.t 88) (kI 26)]
 (aP 89 (aj [aC 4 (kI 0)]
 .ret) .skip))
 (aj [aZ 90 4 2,a7 91 90,ak 92 (.au 5 (.t 91) (kI 0)),bQ 93 5 92,bn 94 fL [(.t 93)],af 7 94]
 (.seq (aj [aC 8 (kI 0)]
 (.block 0 AP))
 (aj [aC 4 (kI 0)]
 .ret)))))))))),false⟩
def q9:K :=
 (.seq (aj [af 24 8,af 25 6,aF 26 .lss (.t 24) (.t 25)]
 (aP 26 .skip (.exit 2)))
 (.seq (.block 3 (.seq (.cm true [af 29 4,af 30 8,ak 31 (.au 5 (.t 29) (.t 30)),bQ 32 5 31,bn 33 dZ [(.t 32)],af 34 33,⟨some 35,.mv (.t 4) false,some (34,true)⟩,⟨some 36,.mv (.t 8) false,some (34,true)⟩,⟨some 37,.au 5 (.t 35) (.t 36),some (34,true)⟩,⟨some 38,.bH 3 (.t 37),some (34,true)⟩,⟨some 39,.load 1 false (.t 38),some (34,true)⟩,⟨some 40,.mv (.t 4) false,some (34,true)⟩,⟨some 41,.mv (.t 6) false,some (34,true)⟩,⟨some 42,.au 5 (.t 40) (.t 41),some (34,true)⟩,⟨some 43,.bH 3 (.t 42),some (34,true)⟩,⟨some 44,.load 1 false (.t 43),some (34,true)⟩,⟨some 45,.arith .eql (.t 39) (.t 44),some (34,true)⟩,ak 46 (.pick (.t 34) (.t 45) (.c (.p (.bool false))))])
 (aP 46 (aj [aC 7 (.c (.p (.bool true)))]
 (.seq (.cm true [af 47 4,af 48 8,ak 49 (.au 5 (.t 47) (.t 48)),aZ 50 1 49,a7 51 50,af 52 4,af 53 6,ak 54 (.au 5 (.t 52) (.t 53)),aZ 55 1 54,a7 56 55,aF 57 .neq (.t 51) (.t 56),af 58 57,⟨some 59,.mv (.t 4) false,some (58,false)⟩,⟨some 60,.mv (.t 8) false,some (58,false)⟩,⟨some 61,.au 5 (.t 59) (.t 60),some (58,false)⟩,⟨some 62,.bH 0 (.t 61),some (58,false)⟩,⟨some 63,.load 1 false (.t 62),some (58,false)⟩,⟨some 64,.mv (.t 4) false,some (58,false)⟩,⟨some 65,.mv (.t 6) false,some (58,false)⟩,⟨some 66,.au 5 (.t 64) (.t 65),some (58,false)⟩,⟨some 67,.bH 0 (.t 66),some (58,false)⟩,⟨some 68,.load 1 false (.t 67),some (58,false)⟩,⟨some 69,.arith .neq (.t 63) (.t 68),some (58,false)⟩,ak 70 (.pick (.t 58) (.c (.p (.bool true))) (.t 69))])
 (aP 70 (aj [aC 2 (.c .aA),aC 3 (.c (.p (.bool false)))]
 .ret) .skip))) .skip)))
 (.cm false [af 27 8,aF 28 .add (.t 27) (kI 1),af 8 28])))
def uW:K:=.loop [4,5,6,7,8] q9
def oq:K :=
 (.seq (aj [af 12 6,af 13 4,ak 14 (.bI (.t 13)),aF 15 .lss (.t 12) (.t 14)]
 (aP 15 .skip (.exit 0)))
 (.seq (.block 1 (.seq (aj [af 18 4,af 19 6,ak 20 (.au 5 (.t 18) (.t 19)),bQ 21 5 20,bn 22 dZ [(.t 21)],ak 23 (.not (.t 22))]
 (aP 23 (.exit 1) .skip))
 (aj [aC 7 (.c (.p (.bool false)))]
 (.seq (aj [aC 8 (kI 0)]
 (.block 2 uW))
 (aj [af 71 7,ak 72 (.not (.t 71))]
 (aP 72 (.cm false [af 73 5,af 74 4,af 75 6,ak 76 (.au 5 (.t 74) (.t 75)),aZ 77 3 76,a7 78 77,ak 79 (.dE 1 [(.p (.str (bs [])))] 1 [(0,1,(.t 78))]),ak 80 (.append 1 16 (.t 73) (.t 79)),ak 5 (.mv (.t 80) true)]) .skip))))))
 (.cm false [af 16 6,aF 17 .add (.t 16) (kI 1),af 6 17])))
def rl:K:=.loop [4,5,6] oq
def tv:cH:=⟨82,[.tmp 2,.tmp 3],
 (aj [ak 1 (.box 5 true (.t 0) true),aC 2 (.c .aA),aC 3 (.c (.p (.bool false)))]
 (aj [bQ 9 5 1,bn 10 dY [(.t 9)],af 4 10]
 (aj [ak 11 (.dE 1 [(.p (.str (bs [])))] 0 []),ak 5 (.mv (.t 11) true)]
 (.seq (aj [aC 6 (kI 0)]
 (.block 0 rl))
 (aj [af 81 5,af 2 81,aC 3 (.c (.p (.bool true)))]
 .ret))))),false⟩
def r9:K :=
 (.seq (aj [af 7 4,aZ 8 4 1,a7 9 8,ak 10 (.bI (.t 9)),aF 11 .lss (.t 7) (.t 10)]
 (aP 11 .skip (.exit 0)))
 (.seq (.block 1 (.cm false [af 14 3,aZ 15 4 1,a7 16 15,af 17 4,ak 18 (.au 5 (.t 16) (.t 17)),bQ 19 5 18,bn 20 dY [(.t 19)],ak 21 (.append 5 64 (.t 14) (.t 20)),ak 3 (.mv (.t 21) true)]))
 (.cm false [af 12 4,aF 13 .add (.t 12) (kI 1),af 4 13])))
def x8:K:=.loop [1,3,4] r9
def qe:cH:=⟨23,[.tmp 2],
 (aj [ak 1 (.box 5 true (.t 0) true),aC 2 (.c .aA)]
 (aj [bQ 5 5 1,ak 6 (.dE 5 lA 1 [(0,5,(.t 5))]),ak 3 (.mv (.t 6) true)]
 (.seq (aj [aC 4 (kI 0)]
 (.block 0 x8))
 (aj [af 22 3,af 2 22]
 .ret)))),false⟩
def vU:K :=
 (.seq (aj [af 8 7,af 9 0,ak 10 (.bI (.t 9)),aF 11 .lss (.t 8) (.t 10)]
 (aP 11 .skip (.exit 0)))
 (.seq (.block 1 (aj [af 14 0,af 15 7,ak 16 (.au 2 (.t 14) (.t 15)),aZ 17 0 16,a7 18 17,af 19 1,aF 20 .eql (.t 18) (.t 19),af 21 20,⟨some 22,.mv (.t 0) false,some (21,true)⟩,⟨some 23,.mv (.t 7) false,some (21,true)⟩,⟨some 24,.au 2 (.t 22) (.t 23),some (21,true)⟩,⟨some 25,.bH 1 (.t 24),some (21,true)⟩,⟨some 26,.load 1 false (.t 25),some (21,true)⟩,⟨some 27,.mv (.t 2) false,some (21,true)⟩,⟨some 28,.arith .eql (.t 26) (.t 27),some (21,true)⟩,ak 29 (.pick (.t 21) (.t 28) (.c (.p (.bool false))))]
 (aP 29 (aj [aC 6 (.c (.p (.bool true)))]
 .ret) .skip)))
 (.cm false [af 12 7,aF 13 .add (.t 12) (kI 1),af 7 13])))
def CK:K:=.loop [0,1,2,7] vU
def y7:cH:=⟨30,[.tmp 6],
 (aj [aC 6 (.c (.p (.bool false)))]
 (.seq (aj [aC 7 (kI 0)]
 (.block 0 CK))
 (aj [aC 6 (.c (.p (.bool false)))]
 .ret))),false⟩
def mC:cH:=⟨27,[.tmp 2],
 (aj [ak 1 (.box 5 true (.t 0) true),aC 2 (.c (.p (.bool false)))]
 (aj [aZ 3 0 1,a7 4 3,aF 5 .eql (.t 4) (kI 0),af 6 5,⟨some 7,.bH 1 (.t 1),some (6,true)⟩,⟨some 8,.load 1 false (.t 7),some (6,true)⟩,⟨some 9,.arith .eql (.t 8) (kI 0),some (6,true)⟩,ak 10 (.pick (.t 6) (.t 9) (.c (.p (.bool false)))),af 11 10,⟨some 12,.bH 2 (.t 1),some (11,true)⟩,⟨some 13,.load 1 false (.t 12),some (11,true)⟩,⟨some 14,.arith .eql (.t 13) (.c (.p (.int .u64 0))),some (11,true)⟩,ak 15 (.pick (.t 11) (.t 14) (.c (.p (.bool false)))),af 16 15,⟨some 17,.bH 3 (.t 1),some (16,true)⟩,⟨some 18,.load 1 false (.t 17),some (16,true)⟩,⟨some 19,.arith .eql (.t 18) (.c (.p (.str (bs [])))),some (16,true)⟩,ak 20 (.pick (.t 16) (.t 19) (.c (.p (.bool false)))),af 21 20,⟨some 22,.bH 4 (.t 1),some (21,true)⟩,⟨some 23,.load 1 false (.t 22),some (21,true)⟩,⟨some 24,.bI (.t 23),some (21,true)⟩,⟨some 25,.arith .eql (.t 24) (kI 0),some (21,true)⟩,ak 26 (.pick (.t 21) (.t 25) (.c (.p (.bool false)))),af 2 26]
 .ret)),false⟩
def rL:K :=
 (aj [aF 44 .lss (.t 43) (.t 42)]
 (.seq (aP 44 .skip (.exit 0))
 (.seq (.block 1 (aj [ak 45 (.au 5 (.t 41) (.t 43)),bQ 46 5 45,ak 8 (.init 5 true (.t 46) true)]
 (aj [bQ 48 5 8,af 49 1,bn 50 l8 [(.t 48),(.t 49)],af 47 50,ak 51 (.extract (.t 47) 0),ak 52 (.extract (.t 47) 1),ak 9 (.init 5 true (.t 51) true),af 10 52]
 (.seq (aj [af 53 10,ak 54 (.not (.t 53))]
 (aP 54 (aj [ak 55 (.build lA []),⟨none,.store 5 (.t 4) (.t 55),none⟩,aC 5 (.c (.p (.bool false)))]
 .ret) .skip))
 (.cm false [aZ 56 4 6,a7 57 56,bQ 58 5 9,ak 59 (.dE 5 lA 1 [(0,5,(.t 58))]),ak 60 (.append 5 64 (.t 57) (.t 59)),aZ 61 4 6,⟨none,.store 1 (.t 61) (.t 60),none⟩])))))
 (.cm false [aF 62 .add (.t 43) (kI 1),af 43 62]))))
def wX:K:=.loop [1,2,4,6,41,42,43] rL
def j5:cH:=⟨81,[.cell 4 5 true,.tmp 5],
 (aj [ak 2 (.box 5 true (.t 0) true),ak 4 (.alloc lA 5),aC 5 (.c (.p (.bool false)))]
 (aj [aZ 13 0 2,a7 14 13,aZ 15 1 2,a7 16 15,aZ 17 2 2,a7 18 17,aZ 19 3 2,a7 20 19,ak 21 (.build lA [(0,1,(.t 14)),(1,1,(.t 16)),(2,1,(.t 18)),(3,1,(.t 20))]),ak 6 (.init 5 true (.t 21) false)]
 (.seq (aj [aZ 22 4 2,a7 23 22,ak 24 (.bI (.t 23)),aF 25 .eql (.t 24) (kI 0)]
 (aP 25 (.seq (aj [aZ 26 1 2,a7 27 26,aF 28 .eql (.t 27) (kI 0)]
 (aP 28 (aj [af 29 1,aZ 30 1 6,⟨none,.store 1 (.t 30) (.t 29),none⟩]
 (aj [aZ 31 0 2,a7 32 31,aF 33 .eql (.t 32) (kI 2)]
 (aP 33 (.cm false [af 34 1,aZ 35 2 2,a7 36 35,bn 37 bP [(.t 34),(.t 36)],aZ 38 2 6,⟨none,.store 1 (.t 38) (.t 37),none⟩]) .skip))) .skip))
 (aj [bQ 39 5 6,⟨none,.store 5 (.t 4) (.t 39),none⟩,aC 5 (.c (.p (.bool true)))]
 .ret)) .skip))
 (.seq (aj [aZ 40 4 2,a7 41 40,ak 42 (.bI (.t 41)),aC 43 (kI 0)]
 (.block 0 wX))
 (.seq (.cm true [aZ 64 0 2,a7 65 64,aZ 66 1 2,a7 67 66,aZ 68 2 2,a7 69 68,aZ 70 4 6,a7 71 70,bn 72 fV [(.t 71)],bn 73 gH [(.t 65),(.t 67),(.t 69),(.t 72)],af 63 73,ak 74 (.extract (.t 63) 0),ak 75 (.extract (.t 63) 1),af 11 74,af 12 75])
 (aj [af 76 11,aZ 77 1 6,⟨none,.store 1 (.t 77) (.t 76),none⟩]
 (aj [bQ 78 5 6,af 79 12,aF 80 .eql (.t 79) (kI 0),⟨none,.store 5 (.t 4) (.t 78),none⟩,af 5 80]
 .ret))))))),false⟩
def a8:K :=
 (aj [aF 9 .lss (.t 8) (.t 7)]
 (.seq (aP 9 .skip (.exit 0))
 (.seq (.block 1 (aj [af 10 8,af 5 10]
 (aj [af 11 1,af 12 0,af 13 5,ak 14 (.au 5 (.t 12) (.t 13)),bQ 15 5 14,ak 16 (.rE (.t 11) [(.t 15)])]
 (aP 16 (aj [af 17 5,af 4 17]
 .ret) .skip))))
 (.cm false [aF 18 .add (.t 8) (kI 1),af 8 18]))))
def b6:K:=.loop [0,1,7,8] a8
def bp:cH:=⟨19,[.tmp 4],
 (aj [aC 4 (kI 0)]
 (.seq (aj [af 6 0,ak 7 (.bI (.t 6)),aC 8 (kI 0)]
 (.block 0 b6))
 (aj [aC 4 (kI (-1))]
 .ret))),false⟩
def xB:cH:=⟨12,[.cell 6 5 true],
 (aj [ak 4 (.box 5 true (.t 1) true),ak 5 (.box 5 true (.t 2) true),ak 6 (.alloc lA 5)]
 (aj [af 7 0,bQ 8 5 4,bQ 9 5 5,ak 10 (.fp 5 lA 2 [(0,5,(.t 8)),(1,5,(.t 9))]),ak 11 (.build lA [(0,1,(.t 7)),(1,1,(kI 1)),(4,1,(.t 10))]),⟨none,.store 5 (.t 6) (.t 11),none⟩]
 .ret)),false⟩
def qf:cH:=⟨11,[.tmp 2],
 (aj [ak 1 (.box 5 true (.t 0) true),aC 2 (.c (.p (.bool false)))]
 (aj [aZ 3 0 1,a7 4 3,aF 5 .eql (.t 4) (kI 24),af 6 5,⟨some 7,.bH 0 (.t 1),some (6,false)⟩,⟨some 8,.load 1 false (.t 7),some (6,false)⟩,⟨some 9,.arith .eql (.t 8) (kI 25),some (6,false)⟩,ak 10 (.pick (.t 6) (.c (.p (.bool true))) (.t 9)),af 2 10]
 .ret)),false⟩
def fF:K :=
 (aj [aF 16 .lss (.t 15) (.t 14)]
 (.seq (aP 16 .skip (.exit 0))
 (.seq (.block 1 (aj [ak 17 (.au 5 (.t 13) (.t 15)),bQ 18 5 17,ak 5 (.init 5 true (.t 18) true)]
 (aj [bQ 19 5 5,bn 20 mf [(.t 19)],af 6 20]
 (aj [af 21 6,aF 22 .neq (.t 21) (kI 0)]
 (aP 22 (aj [af 23 6,aC 2 (.c .aA),af 3 23]
 .ret) .skip)))))
 (.cm false [aF 24 .add (.t 15) (kI 1),af 15 24]))))
def sd:K:=.loop [0,13,14,15] fF
def hJ:K :=
 (aj [aF 28 .lss (.t 27) (.t 26)]
 (.seq (aP 28 .skip (.exit 2))
 (.seq (.block 3 (aj [ak 29 (.au 5 (.t 25) (.t 27)),bQ 30 5 29,ak 9 (.init 5 true (.t 30) true)]
 (.cm false [af 31 7,bQ 32 5 9,bn 33 oe [(.t 32)],ak 34 (.append 2 24 (.t 31) (.t 33)),ak 7 (.mv (.t 34) true)])))
 (.cm false [aF 35 .add (.t 27) (kI 1),af 27 35]))))
def sk:K:=.loop [7,25,26,27] hJ
def hU:K :=
 (aj [aF 43 .lss (.t 42) (.t 41)]
 (.seq (aP 43 .skip (.exit 4))
 (.seq (.block 5 (aj [af 44 42,ak 45 (.au 2 (.t 40) (.t 42)),bQ 46 2 45,ak 12 (.alloc [(.p (.str (bs []))),(.p (.int .i64 0))] 2),af 11 44,⟨none,.store 2 (.t 12) (.t 46),none⟩]
 (.seq (.seq (.cm true [af 47 11,aF 48 .gtr (.t 47) (kI 0),af 49 48,⟨some 50,.mv (.t 7) false,some (49,true)⟩,⟨some 51,.mv (.t 11) false,some (49,true)⟩,⟨some 52,.arith .sub (.t 51) (kI 1),some (49,true)⟩,⟨some 53,.au 2 (.t 50) (.t 52),some (49,true)⟩,⟨some 54,.bH 0 (.t 53),some (49,true)⟩,⟨some 55,.load 1 false (.t 54),some (49,true)⟩,⟨some 56,.bH 0 (.t 12),some (49,true)⟩,⟨some 57,.load 1 false (.t 56),some (49,true)⟩,⟨some 58,.arith .eql (.t 55) (.t 57),some (49,true)⟩,ak 59 (.pick (.t 49) (.t 58) (.c (.p (.bool false))))])
 (aP 59 (aj [aC 2 (.c .aA),aC 3 (kI 12)]
 .ret) .skip))
 (.cm false [af 60 10,aZ 61 1 12,a7 62 61,aF 63 .add (.t 60) (.t 62),af 10 63]))))
 (.cm false [aF 64 .add (.t 42) (kI 1),af 42 64]))))
def sn:K:=.loop [7,10,40,41,42] hU
def jf:cH:=⟨68,[.tmp 2,.tmp 3],
 (aj [aC 2 (.c .aA),aC 3 (kI 0)]
 (.seq (aj [af 13 0,ak 14 (.bI (.t 13)),aC 15 (kI 0)]
 (.block 0 sd))
 (aj [ak 7 (.mv (.c .aA) true)]
 (.seq (aj [af 25 0,ak 26 (.bI (.t 25)),aC 27 (kI 0)]
 (.block 2 sk))
 (aj [af 36 7,bn 37 bf [(.t 36),(.c (.p (.fn cT [])))]]
 (aj [af 38 7,bn 39 cD [(.t 38)],ak 7 (.mv (.t 39) true)]
 (aj [aC 10 (kI 0)]
 (.seq (aj [af 40 7,ak 41 (.bI (.t 40)),aC 42 (kI 0)]
 (.block 4 sn))
 (.seq (aj [af 65 10,aF 66 .gtr (.t 65) (kI 16)]
 (aP 66 (aj [aC 2 (.c .aA),aC 3 (kI 7)]
 .ret) .skip))
 (aj [af 67 7,af 2 67,aC 3 (kI 0)]
 .ret)))))))))),false⟩
def lQ:cH:=⟨6,[.tmp 2],
 (aj [ak 1 (.box 5 true (.t 0) true),aC 2 (.c (.p (.bool false)))]
 (aj [aZ 3 1 1,a7 4 3,aF 5 .neq (.t 4) (kI 1),af 2 5]
 .ret)),false⟩
def pJ:K :=
 (aj [aF 13 .lss (.t 12) (.t 11)]
 (.seq (aP 13 .skip (.exit 0))
 (.seq (.block 1 (aj [ak 14 (.au 5 (.t 10) (.t 12)),bQ 15 5 14,ak 7 (.init 5 true (.t 15) true)]
 (aj [bQ 17 5 7,af 18 0,bn 19 l6 [(.t 17),(.t 18)],af 16 19,ak 20 (.extract (.t 16) 0),ak 21 (.extract (.t 16) 1),af 8 20,af 9 21]
 (.cm false [af 22 5,af 23 8,ak 24 (.dE 1 [.aA] 1 [(0,1,(.t 23))]),ak 25 (.append 1 24 (.t 22) (.t 24)),ak 5 (.mv (.t 25) true)]))))
 (.cm false [aF 26 .add (.t 12) (kI 1),af 12 26]))))
def uM:K:=.loop [0,5,10,11,12] pJ
def nj:cH:=⟨28,[.tmp 4],
 (aj [aC 4 (.c .aA)]
 (aj [ak 5 (.mv (.c .aA) true)]
 (.seq (aj [af 10 1,ak 11 (.bI (.t 10)),aC 12 (kI 0)]
 (.block 0 uM))
 (aj [af 27 5,af 4 27]
 .ret)))),false⟩
def j3:K :=
 (aj [aF 9 .lss (.t 8) (.t 7)]
 (.seq (aP 9 .skip (.exit 0))
 (.seq (.block 1 (aj [ak 10 (.au 2 (.t 6) (.t 8)),bQ 11 2 10,ak 5 (.init 2 true (.t 11) true)]
 (.cm false [a7 12 3,aZ 13 1 5,a7 14 13,aF 15 .add (.t 12) (.t 14),⟨none,.store 1 (.t 3) (.t 15),none⟩])))
 (.cm false [aF 16 .add (.t 8) (kI 1),af 8 16]))))
def oE:K:=.loop [1,3,6,7,8] j3
def iz:cH:=⟨18,[.tmp 2],
 (aj [ak 1 (.box 1 false (.t 0) true),aC 2 (.c (.p .Aa))]
 (aj [ak 3 (.init 1 false (kI 0) false)]
 (.seq (aj [a7 6 1,ak 7 (.bI (.t 6)),aC 8 (kI 0)]
 (.block 0 oE))
 (aj [ak 17 (.AD ck [(.t 3),(.t 1)]),af 2 17]
 .ret)))),false⟩
def mq:K :=
 (.seq (aj [af 9 7,af 10 0,ak 11 (.bI (.t 10)),aF 12 .lss (.t 9) (.t 11)]
 (aP 12 .skip (.exit 0)))
 (.seq (.block 1 (.seq (.seq (.cm true [af 15 0,af 16 7,ak 17 (.au 2 (.t 15) (.t 16)),aZ 18 0 17,a7 19 18,aZ 20 0 3,a7 21 20,aF 22 .eql (.t 19) (.t 21)])
 (aP 22 (aj [af 23 0,af 4 23]
 .ret) .skip))
 (.seq (.seq (.cm true [af 24 6,ak 25 (.not (.t 24)),af 26 25,⟨some 27,.bH 0 (.t 3),some (26,true)⟩,⟨some 28,.load 1 false (.t 27),some (26,true)⟩,⟨some 29,.mv (.t 0) false,some (26,true)⟩,⟨some 30,.mv (.t 7) false,some (26,true)⟩,⟨some 31,.au 2 (.t 29) (.t 30),some (26,true)⟩,⟨some 32,.bH 0 (.t 31),some (26,true)⟩,⟨some 33,.load 1 false (.t 32),some (26,true)⟩,⟨some 34,.arith .lss (.t 28) (.t 33),some (26,true)⟩,ak 35 (.pick (.t 26) (.t 34) (.c (.p (.bool false))))])
 (aP 35 (aj [af 36 5,bQ 37 2 3,ak 38 (.dE 2 [(.p (.str (bs []))),(.p (.int .i64 0))] 1 [(0,2,(.t 37))]),ak 39 (.append 2 24 (.t 36) (.t 38)),ak 5 (.mv (.t 39) true)]
 (.cm false [aC 6 (.c (.p (.bool true)))])) .skip))
 (.cm false [af 40 5,af 41 0,af 42 7,ak 43 (.au 2 (.t 41) (.t 42)),bQ 44 2 43,ak 45 (.dE 2 [(.p (.str (bs []))),(.p (.int .i64 0))] 1 [(0,2,(.t 44))]),ak 46 (.append 2 24 (.t 40) (.t 45)),ak 5 (.mv (.t 46) true)]))))
 (.cm false [af 13 7,aF 14 .add (.t 13) (kI 1),af 7 14])))
def py:K:=.loop [0,3,5,6,7] mq
def oz:cH:=⟨54,[.tmp 4],
 (aj [ak 3 (.box 2 true (.t 1) true),aC 4 (.c .aA)]
 (aj [ak 8 (.dE 2 [(.p (.str (bs []))),(.p (.int .i64 0))] 0 []),ak 5 (.mv (.t 8) true)]
 (aj [aC 6 (.c (.p (.bool false)))]
 (.seq (aj [aC 7 (kI 0)]
 (.block 0 py))
 (.seq (aj [af 47 6,ak 48 (.not (.t 47))]
 (aP 48 (.cm false [af 49 5,bQ 50 2 3,ak 51 (.dE 2 [(.p (.str (bs []))),(.p (.int .i64 0))] 1 [(0,2,(.t 50))]),ak 52 (.append 2 24 (.t 49) (.t 51)),ak 5 (.mv (.t 52) true)]) .skip))
 (aj [af 53 5,af 4 53]
 .ret)))))),false⟩
def bm:K :=
 (aj [aF 18 .lss (.t 17) (.t 16)]
 (.seq (aP 18 .skip (.exit 0))
 (.seq (.block 1 (aj [af 19 17,ak 20 (.au 5 (.t 15) (.t 17)),bQ 21 5 20,ak 8 (.alloc lA 5),af 7 19,⟨none,.store 5 (.t 8) (.t 21),none⟩]
 (aj [af 22 1,af 23 7,ak 24 (.au 5 (.t 22) (.t 23)),bQ 25 5 24,ak 9 (.init 5 true (.t 25) true)]
 (aj [af 26 2,bQ 27 5 8,bQ 28 5 9,ak 29 (.rE (.t 26) [(.t 27),(.t 28)]),ak 30 (.not (.t 29))]
 (aP 30 (aj [aC 6 (.c (.p (.bool false)))]
 .ret) .skip)))))
 (.cm false [aF 31 .add (.t 17) (kI 1),af 17 31]))))
def bO:K:=.loop [1,2,15,16,17] bm
def aL:cH:=⟨32,[.tmp 6],
 (aj [aC 6 (.c (.p (.bool false)))]
 (.seq (aj [af 10 0,ak 11 (.bI (.t 10)),af 12 1,ak 13 (.bI (.t 12)),aF 14 .neq (.t 11) (.t 13)]
 (aP 14 (aj [aC 6 (.c (.p (.bool false)))]
 .ret) .skip))
 (.seq (aj [af 15 0,ak 16 (.bI (.t 15)),aC 17 (kI 0)]
 (.block 0 bO))
 (aj [aC 6 (.c (.p (.bool true)))]
 .ret)))),false⟩
def eA:K :=
 (.cm false [ak 8 (.init 5 true (.t 19) true)])
def eB:K :=
 (.block 3 (.seq (aj [aZ 20 0 8,a7 21 20,a7 22 2,aF 23 .neq (.t 21) (.t 22)]
 (aP 23 (.exit 3) .skip))
 (aj [a7 25 5,aZ 26 3 8,a7 27 26,bn 28 aW [(.t 25),(.t 27),(.c (.p (.fn cF [])))],af 24 28,ak 29 (.extract (.t 24) 0),ak 30 (.extract (.t 24) 1),af 9 29,af 10 30]
 (aj [af 31 10,ak 32 (.not (.t 31))]
 (aP 32 (.cm false [a7 33 5,af 34 9,aZ 35 3 8,a7 36 35,aZ 37 1 8,a7 38 37,ak 39 (.build [(.p (.str (bs []))),(.p (.int .i64 0))] [(0,1,(.t 36)),(1,1,(.t 38))]),ak 40 (.dE 2 [(.p (.str (bs []))),(.p (.int .i64 0))] 1 [(0,2,(.t 39))]),bn 41 bS [(.t 33),(.t 34),(.t 40)],⟨none,.store 1 (.t 5) (.t 41),none⟩]) .skip)))))
def xM:K:=.range (.t 18) [19] [2,5] eA eB
def lN:K :=
 (aj [aF 14 .lss (.t 13) (.t 12)]
 (.seq (aP 14 .skip (.exit 0))
 (.seq (.block 1 (aj [ak 15 (.au 5 (.t 11) (.t 13)),bQ 16 5 15,ak 7 (.init 5 true (.t 16) true)]
 (aj [bQ 17 5 7,bn 18 dv [(.t 17)]]
 (.block 2 xM))))
 (.cm false [aF 42 .add (.t 13) (kI 1),af 13 42]))))
def qp:K:=.loop [2,5,11,12,13] lN
def jT:cH:=⟨44,[.tmp 4],
 (aj [ak 2 (.box 1 false (.t 0) true),aC 4 (.c .aA)]
 (aj [ak 5 (.alloc [.aA] 1)]
 (.seq (aj [af 11 1,ak 12 (.bI (.t 11)),aC 13 (kI 0)]
 (.block 0 qp))
 (aj [a7 43 5,af 4 43]
 .ret)))),false⟩
def bw:cH:=⟨102,[.tmp 4],
 (aj [ak 2 (.box 5 true (.t 0) true),aC 4 (kI 0)]
 (aj [aZ 8 0 2,a7 9 8,bn 10 fu [(.t 9)],af 5 10]
 (.seq (.block 0 (aj [af 12 5,aF 13 .lss (.t 12) (kI 0),af 14 13,⟨some 15,.bH 0 (.t 2),some (14,false)⟩,⟨some 16,.load 1 false (.t 15),some (14,false)⟩,⟨some 17,.arith .eql (.t 16) (kI 1),some (14,false)⟩,ak 18 (.pick (.t 14) (.c (.p (.bool true))) (.t 17)),af 19 18,⟨some 20,.bH 0 (.t 2),some (19,false)⟩,⟨some 21,.load 1 false (.t 20),some (19,false)⟩,⟨some 22,.arith .eql (.t 21) (kI 26),some (19,false)⟩,⟨some 23,.mv (.t 22) false,some (19,false)⟩,⟨some 24,.mv (.t 1) false,some (23,true)⟩,⟨some 25,.not (.t 24),some (23,true)⟩,⟨some 26,.pick (.t 23) (.t 25) (.c (.p (.bool false))),some (19,false)⟩,ak 27 (.pick (.t 19) (.c (.p (.bool true))) (.t 26)),af 28 27,⟨some 29,.bH 4 (.t 2),some (28,false)⟩,⟨some 30,.load 1 false (.t 29),some (28,false)⟩,⟨some 31,.bI (.t 30),some (28,false)⟩,⟨some 32,.mv (.t 5) false,some (28,false)⟩,⟨some 33,.arith .neq (.t 31) (.t 32),some (28,false)⟩,ak 34 (.pick (.t 28) (.c (.p (.bool true))) (.t 33)),af 11 34]
 (aP 11 (aj [aC 4 (kI 4)]
 .ret) (aj [aZ 36 3 2,a7 37 36,aF 38 .neq (.t 37) (.c (.p (.str (bs [])))),af 39 38,⟨some 40,.bH 0 (.t 2),some (39,true)⟩,⟨some 41,.load 1 false (.t 40),some (39,true)⟩,⟨some 42,.cZ dw [(.t 41)],some (39,true)⟩,⟨some 43,.not (.t 42),some (39,true)⟩,ak 44 (.pick (.t 39) (.t 43) (.c (.p (.bool false)))),af 45 44,⟨some 46,.bH 2 (.t 2),some (45,false)⟩,⟨some 47,.load 1 false (.t 46),some (45,false)⟩,⟨some 48,.arith .neq (.t 47) (.c (.p (.int .u64 0))),some (45,false)⟩,⟨some 49,.mv (.t 48) false,some (45,false)⟩,⟨some 50,.bH 0 (.t 2),some (49,true)⟩,⟨some 51,.load 1 false (.t 50),some (49,true)⟩,⟨some 52,.arith .neq (.t 51) (kI 2),some (49,true)⟩,⟨some 53,.pick (.t 49) (.t 52) (.c (.p (.bool false))),some (45,false)⟩,⟨some 54,.mv (.t 53) false,some (45,false)⟩,⟨some 55,.bH 0 (.t 2),some (54,true)⟩,⟨some 56,.load 1 false (.t 55),some (54,true)⟩,⟨some 57,.arith .neq (.t 56) (kI 21),some (54,true)⟩,⟨some 58,.pick (.t 54) (.t 57) (.c (.p (.bool false))),some (45,false)⟩,ak 59 (.pick (.t 45) (.c (.p (.bool true))) (.t 58)),af 35 59]
 (aP 35 (aj [aC 4 (kI 4)]
 .ret) (aj [aZ 61 0 2,a7 62 61,bn 63 dw [(.t 62)],af 64 63,⟨some 65,.bH 3 (.t 2),some (64,true)⟩,⟨some 66,.load 1 false (.t 65),some (64,true)⟩,⟨some 67,.cZ kC [(.t 66)],some (64,true)⟩,⟨some 68,.not (.t 67),some (64,true)⟩,ak 69 (.pick (.t 64) (.t 68) (.c (.p (.bool false)))),af 60 69]
 (aP 60 (aj [aC 4 (kI 5)]
 .ret) .skip)))))))
 (.seq (.cm true [aZ 71 0 2,a7 72 71,aZ 73 1 2,a7 74 73,aZ 75 2 2,a7 76 75,aZ 77 4 2,a7 78 77,bn 79 fV [(.t 78)],bn 80 gH [(.t 72),(.t 74),(.t 76),(.t 79)],af 70 80,ak 81 (.extract (.t 70) 0),ak 82 (.extract (.t 70) 1),af 6 81,af 7 82])
 (.seq (aj [af 83 7,aF 84 .neq (.t 83) (kI 0),af 85 84,⟨some 86,.mv (.t 6) false,some (85,false)⟩,⟨some 87,.bH 1 (.t 2),some (85,false)⟩,⟨some 88,.load 1 false (.t 87),some (85,false)⟩,⟨some 89,.arith .neq (.t 86) (.t 88),some (85,false)⟩,ak 90 (.pick (.t 85) (.c (.p (.bool true))) (.t 89))]
 (aP 90 (aj [aC 4 (kI 3)]
 .ret) .skip))
 (.seq (aj [aZ 91 0 2,a7 92 91,aF 93 .eql (.t 92) (kI 26),af 94 93,⟨some 95,.bH 4 (.t 2),some (94,true)⟩,⟨some 96,.load 1 false (.t 95),some (94,true)⟩,⟨some 97,.au 5 (.t 96) (kI 0),some (94,true)⟩,⟨some 98,.load 5 true (.t 97),some (94,true)⟩,⟨some 99,.dE 1 [(.p (.int .i64 0))] 2 [(0,1,(kI 24)),(1,1,(kI 26))],some (94,true)⟩,⟨some 100,.cZ mL [(.t 98),(.t 99)],some (94,true)⟩,ak 101 (.pick (.t 94) (.t 100) (.c (.p (.bool false))))]
 (aP 101 (aj [aC 4 (kI 12)]
 .ret) .skip))
 (aj [aC 4 (kI 0)]
 .ret))))))),false⟩
def jg:cH:=⟨6,[],
 (.cm false [bQ 3 5 1,af 4 0,bn 5 jH [(.t 3),(.t 4)]]),true⟩
def nf:K :=
 (aj [aF 15 .lss (.t 14) (.t 13)]
 (.seq (aP 15 .skip (.exit 0))
 (.seq (.block 1 (aj [ak 16 (.au 5 (.t 12) (.t 14)),bQ 17 5 16,ak 6 (.init 5 true (.t 17) true)]
 (aj [bQ 18 5 6,af 19 1,bn 20 jH [(.t 18),(.t 19)],ak 21 (.not (.t 20))]
 (aP 21 (aj [aC 4 (.c (.p (.bool false)))]
 .ret) .skip))))
 (.cm false [aF 22 .add (.t 14) (kI 1),af 14 22]))))
def rk:K:=.loop [1,12,13,14] nf
def hZ:cH:=⟨23,[.tmp 4],
 (aj [ak 2 (.box 5 true (.t 0) true),aC 4 (.c (.p (.bool false)))]
 (.seq (aj [af 7 1,bQ 8 5 2,ak 9 (.rE (.t 7) [(.t 8)]),ak 10 (.not (.t 9))]
 (aP 10 (aj [aC 4 (.c (.p (.bool false)))]
 .ret) .skip))
 (.seq (aj [aZ 11 4 2,a7 12 11,ak 13 (.bI (.t 12)),aC 14 (kI 0)]
 (.block 0 rk))
 (aj [aC 4 (.c (.p (.bool true)))]
 .ret)))),true⟩
def dB:K :=
 (aj [aF 9 .lss (.t 8) (.t 7)]
 (.seq (aP 9 .skip (.exit 0))
 (.seq (.block 1 (aj [af 10 8,af 5 10]
 (.seq (.cm true [bQ 11 2 3,af 12 0,af 13 5,ak 14 (.au 2 (.t 12) (.t 13)),bQ 15 2 14,ak 16 (.eqA false [.str,.int] (.t 11) (.t 15))])
 (aP 16 (aj [af 17 5,af 4 17]
 .ret) .skip))))
 (.cm false [aF 18 .add (.t 8) (kI 1),af 8 18]))))
def ez:K:=.loop [0,3,7,8] dB
def cS:cH:=⟨19,[.tmp 4],
 (aj [ak 3 (.box 2 true (.t 1) true),aC 4 (kI 0)]
 (.seq (aj [af 6 0,ak 7 (.bI (.t 6)),aC 8 (kI 0)]
 (.block 0 ez))
 (aj [aC 4 (kI (-1))]
 .ret))),false⟩
def lR:cH:=⟨21,[.tmp 2],
 (aj [ak 1 (.box 11 true (.t 0) true),aC 2 (.c (.p (.bool false)))]
 (.seq (aj [aZ 3 0 1,a7 4 3]
 (.block 0 (.seq (.block 3 (.block 2 (.seq (.block 1 (.seq (.seq (aj [aF 6 .eql (.t 4) (kI 1),af 5 6]
 (aP 5 (.exit 1) .skip))
 (.seq (aj [aF 8 .eql (.t 4) (kI 3),af 7 8]
 (aP 7 (.exit 2) .skip))
 (aj [aF 10 .eql (.t 4) (kI 4),af 9 10]
 (aP 9 (.exit 3) .skip))))
 (.exit 0)))
 (.seq (aj [aZ 11 6 1,bQ 12 5 11,bn 13 oH [(.t 12)],af 2 13]
 .ret)
 (.exit 0)))))
 (.seq (aj [aZ 14 1 1,aZ 15 0 14,a7 16 15,aF 17 .eql (.t 16) (kI 24),af 2 17]
 .ret)
 (.exit 0)))))
 (aj [aZ 18 0 1,a7 19 18,aF 20 .eql (.t 19) (kI 2),af 2 20]
 .ret))),false⟩
def gZ:K :=
 (aj [aF 16 .lss (.t 15) (.t 14)]
 (.seq (aP 16 .skip (.exit 0))
 (.seq (.block 1 (aj [ak 17 (.au 2 (.t 13) (.t 15)),bQ 18 2 17,ak 8 (.init 2 true (.t 18) true)]
 (aj [af 19 1,bQ 20 2 8,bn 21 aT [(.t 19),(.t 20)],ak 22 (.not (.t 21))]
 (aP 22 (aj [aC 6 (.c (.p (.bool false)))]
 .ret) .skip))))
 (.cm false [aF 23 .add (.t 15) (kI 1),af 15 23]))))
def se:K:=.loop [1,2,3,13,14,15] gZ
def jD:K :=
 (aj [aF 29 .lss (.t 28) (.t 27)]
 (.seq (aP 29 .skip (.exit 2))
 (.seq (.block 3 (aj [ak 30 (.au 2 (.t 26) (.t 28)),bQ 31 2 30,ak 10 (.init 2 true (.t 31) true)]
 (aj [af 32 2,bQ 33 2 10,bn 34 aT [(.t 32),(.t 33)],ak 35 (.not (.t 34))]
 (aP 35 (aj [aC 6 (.c (.p (.bool false)))]
 .ret) .skip))))
 (.cm false [aF 36 .add (.t 28) (kI 1),af 28 36]))))
def sm:K:=.loop [2,26,27,28] jD
def kR:cH:=⟨37,[.tmp 6],
 (aj [ak 3 (.box 5 true (.t 0) true),aC 6 (.c (.p (.bool false)))]
 (.seq (aj [bQ 11 5 3,ak 12 (.dE 5 lA 1 [(0,5,(.t 11))]),bn 13 eK [(.t 12)],ak 14 (.bI (.t 13)),aC 15 (kI 0)]
 (.block 0 se))
 (.seq (aj [bQ 24 5 3,ak 25 (.dE 5 lA 1 [(0,5,(.t 24))]),bn 26 fw [(.t 25)],ak 27 (.bI (.t 26)),aC 28 (kI 0)]
 (.block 2 sm))
 (aj [aC 6 (.c (.p (.bool true)))]
 .ret)))),false⟩
def xp:K :=
 (aj [aF 12 .lss (.t 11) (.t 10)]
 (.seq (aP 12 .skip (.exit 0))
 (.seq (.block 1 (aj [af 13 11,af 5 13]
 (.seq (aj [af 14 1,aF 15 .lss (.t 14) (kI 0)]
 (aP 15 (aj [aC 4 (kI (-1))]
 .ret) .skip))
 (.cm false [aZ 16 4 2,a7 17 16,af 18 5,ak 19 (.au 5 (.t 17) (.t 18)),bQ 20 5 19,af 21 1,bn 22 qH [(.t 20),(.t 21)],af 1 22]))))
 (.cm false [aF 23 .add (.t 11) (kI 1),af 11 23]))))
def AO:K:=.loop [1,2,10,11] xp
def vV:cH:=⟨25,[.tmp 4],
 (aj [ak 2 (.box 5 true (.t 0) true),aC 4 (kI 0)]
 (aj [af 6 1,aF 7 .sub (.t 6) (kI 1),af 1 7]
 (.seq (aj [aZ 8 4 2,a7 9 8,ak 10 (.bI (.t 9)),aC 11 (kI 0)]
 (.block 0 AO))
 (aj [af 24 1,af 4 24]
 .ret)))),false⟩
def qd:cH:=⟨16,[.tmp 2],
 (aj [aC 2 (kI 0)]
 (.seq (aj [af 3 0,aF 4 .lss (.t 3) (kI 1),af 5 4,⟨some 6,.mv (.t 0) false,some (5,false)⟩,⟨some 7,.arith .gtr (.t 6) (kI 26),some (5,false)⟩,ak 8 (.pick (.t 5) (.c (.p (.bool true))) (.t 7))]
 (aP 8 (aj [aC 2 (kI (-1))]
 .ret) .skip))
 (.seq (aj [af 9 0,bn 10 qB [(.t 9)]]
 (aP 10 (aj [aC 2 (kI 0)]
 .ret) .skip))
 (.seq (aj [af 11 0,ak 12 (.dE 1 [(.p (.int .i64 0))] 6 [(0,1,(kI 3)),(1,1,(kI 4)),(2,1,(kI 21)),(3,1,(kI 22)),(4,1,(kI 23)),(5,1,(kI 26))]),bn 13 xS [(.t 11),(.t 12)]]
 (aP 13 (aj [aC 2 (kI 1)]
 .ret) .skip))
 (.seq (aj [af 14 0,aF 15 .eql (.t 14) (kI 19)]
 (aP 15 (aj [aC 2 (kI 3)]
 .ret) .skip))
 (aj [aC 2 (kI 2)]
 .ret)))))),false⟩
def uq:K :=
 (aj [aF 24 .lss (.t 23) (.t 22)]
 (.seq (aP 24 .skip (.exit 0))
 (.seq (.block 1 (aj [af 25 23,af 10 25]
 (aj [af 26 3,af 27 10,ak 28 (.au 1 (.t 26) (.t 27)),a7 29 28,bn 30 l9 [(.t 29)],ak 31 (.not (.t 30))]
 (aP 31 (aj [aC 8 (kI 0),aC 9 (kI 3)]
 .ret) .skip))))
 (.cm false [aF 32 .add (.t 23) (kI 1),af 23 32]))))
def yG:K:=.loop [0,1,2,3,22,23] uq
def eo:cH:=⟨133,[.tmp 8,.tmp 9],
 (aj [aC 8 (kI 0),aC 9 (kI 0)]
 (.seq (aj [af 11 0,bn 12 ku [(.t 11)],aF 13 .lss (.t 12) (kI 0),af 14 13,⟨some 15,.mv (.t 3) false,some (14,false)⟩,⟨some 16,.bI (.t 15),some (14,false)⟩,⟨some 17,.mv (.t 0) false,some (14,false)⟩,⟨some 18,.cZ ku [(.t 17)],some (14,false)⟩,⟨some 19,.arith .neq (.t 16) (.t 18),some (14,false)⟩,ak 20 (.pick (.t 14) (.c (.p (.bool true))) (.t 19))]
 (aP 20 (aj [aC 8 (kI 0),aC 9 (kI 4)]
 .ret) .skip))
 (.seq (aj [af 21 3,ak 22 (.bI (.t 21)),aC 23 (kI 0)]
 (.block 0 yG))
 (.seq (aj [af 33 0,bn 34 qB [(.t 33)]]
 (aP 34 (aj [af 35 0,af 36 1,af 37 2,bn 38 td [(.t 35),(.t 36),(.t 37)],ak 39 (.extract (.t 38) 0),ak 40 (.extract (.t 38) 1),af 8 39,af 9 40]
 .ret) .skip))
 (.seq (aj [af 41 0,aF 42 .eql (.t 41) (kI 21),af 43 42,⟨some 44,.mv (.t 0) false,some (43,false)⟩,⟨some 45,.arith .eql (.t 44) (kI 22),some (43,false)⟩,ak 46 (.pick (.t 43) (.c (.p (.bool true))) (.t 45)),af 47 46,⟨some 48,.mv (.t 0) false,some (47,false)⟩,⟨some 49,.arith .eql (.t 48) (kI 23),some (47,false)⟩,ak 50 (.pick (.t 47) (.c (.p (.bool true))) (.t 49))]
 (aP 50 (aj [af 51 0,af 52 1,af 53 2,af 54 3,ak 55 (.au 1 (.t 54) (kI 0)),a7 56 55,bn 57 qD [(.t 51),(.t 52),(.t 53),(.t 56)],ak 58 (.extract (.t 57) 0),ak 59 (.extract (.t 57) 1),af 8 58,af 9 59]
 .ret) .skip))
 (.seq (aj [af 60 3,ak 61 (.bI (.t 60)),aF 62 .eql (.t 61) (kI 1)]
 (aP 62 (aj [af 63 3,ak 64 (.au 1 (.t 63) (kI 0)),a7 65 64,af 8 65,aC 9 (kI 0)]
 .ret) .skip))
 (.seq (aj [af 66 0,aF 67 .eql (.t 66) (kI 20)]
 (aP 67 (.seq (.seq (.cm true [af 68 3,ak 69 (.au 1 (.t 68) (kI 0)),a7 70 69,aF 71 .lss (.t 70) (kI 1),af 72 71,⟨some 73,.mv (.t 3) false,some (72,false)⟩,⟨some 74,.au 1 (.t 73) (kI 1),some (72,false)⟩,⟨some 75,.load 1 false (.t 74),some (72,false)⟩,⟨some 76,.arith .lss (.t 75) (kI 1),some (72,false)⟩,ak 77 (.pick (.t 72) (.c (.p (.bool true))) (.t 76)),af 78 77,⟨some 79,.mv (.t 3) false,some (78,false)⟩,⟨some 80,.au 1 (.t 79) (kI 0),some (78,false)⟩,⟨some 81,.load 1 false (.t 80),some (78,false)⟩,⟨some 82,.mv (.t 3) false,some (78,false)⟩,⟨some 83,.au 1 (.t 82) (kI 1),some (78,false)⟩,⟨some 84,.load 1 false (.t 83),some (78,false)⟩,⟨some 85,.arith .add (.t 81) (.t 84),some (78,false)⟩,⟨some 86,.arith .gtr (.t 85) (kI 64),some (78,false)⟩,ak 87 (.pick (.t 78) (.c (.p (.bool true))) (.t 86))])
 (aP 87 (aj [aC 8 (kI 0),aC 9 (kI 3)]
 .ret) .skip))
 (.seq (.cm true [af 88 3,ak 89 (.au 1 (.t 88) (kI 0)),a7 90 89,af 91 3,ak 92 (.au 1 (.t 91) (kI 1)),a7 93 92,aF 94 .add (.t 90) (.t 93),af 8 94,aC 9 (kI 0)])
 .ret)) .skip))
 (.seq (aj [af 95 0,aF 96 .eql (.t 95) (kI 19)]
 (aP 96 (.seq (.seq (.cm true [af 97 3,ak 98 (.au 1 (.t 97) (kI 0)),a7 99 98,aF 100 .neq (.t 99) (kI 1),af 101 100,⟨some 102,.mv (.t 3) false,some (101,false)⟩,⟨some 103,.au 1 (.t 102) (kI 1),some (101,false)⟩,⟨some 104,.load 1 false (.t 103),some (101,false)⟩,⟨some 105,.mv (.t 3) false,some (101,false)⟩,⟨some 106,.au 1 (.t 105) (kI 2),some (101,false)⟩,⟨some 107,.load 1 false (.t 106),some (101,false)⟩,⟨some 108,.arith .neq (.t 104) (.t 107),some (101,false)⟩,ak 109 (.pick (.t 101) (.c (.p (.bool true))) (.t 108))])
 (aP 109 (aj [aC 8 (kI 0),aC 9 (kI 3)]
 .ret) .skip))
 (aj [af 110 3,ak 111 (.au 1 (.t 110) (kI 1)),a7 112 111,af 8 112,aC 9 (kI 0)]
 .ret)) .skip))
 (.seq (.seq (.cm true [af 113 3,ak 114 (.au 1 (.t 113) (kI 0)),a7 115 114,af 116 3,ak 117 (.au 1 (.t 116) (kI 1)),a7 118 117,aF 119 .neq (.t 115) (.t 118)])
 (aP 119 (aj [aC 8 (kI 0),aC 9 (kI 3)]
 .ret) .skip))
 (.seq (aj [af 120 0,aF 121 .eql (.t 120) (kI 16),af 122 121,⟨some 123,.mv (.t 0) false,some (122,false)⟩,⟨some 124,.arith .eql (.t 123) (kI 17),some (122,false)⟩,ak 125 (.pick (.t 122) (.c (.p (.bool true))) (.t 124)),af 126 125,⟨some 127,.mv (.t 0) false,some (126,false)⟩,⟨some 128,.arith .eql (.t 127) (kI 18),some (126,false)⟩,ak 129 (.pick (.t 126) (.c (.p (.bool true))) (.t 128))]
 (aP 129 (aj [aC 8 (kI 1),aC 9 (kI 0)]
 .ret) .skip))
 (aj [af 130 3,ak 131 (.au 1 (.t 130) (kI 0)),a7 132 131,af 8 132,aC 9 (kI 0)]
 .ret))))))))))),false⟩
def wV:K :=
 (.seq (aj [af 6 4,aZ 7 4 1,a7 8 7,ak 9 (.bI (.t 8)),aF 10 .lss (.t 6) (.t 9)]
 (aP 10 .skip (.exit 0)))
 (.seq (.block 1 (.cm false [af 13 3,aZ 14 4 1,a7 15 14,af 16 4,ak 17 (.au 5 (.t 15) (.t 16)),aZ 18 1 17,a7 19 18,ak 20 (.dE 1 [(.p (.int .i64 0))] 1 [(0,1,(.t 19))]),ak 21 (.append 1 8 (.t 13) (.t 20)),ak 3 (.mv (.t 21) true)]))
 (.cm false [af 11 4,aF 12 .add (.t 11) (kI 1),af 4 12])))
def Bx:K:=.loop [1,3,4] wV
def uF:cH:=⟨23,[.tmp 2],
 (aj [ak 1 (.box 5 true (.t 0) true),aC 2 (.c .aA)]
 (aj [ak 5 (.dE 1 [(.p (.int .i64 0))] 0 []),ak 3 (.mv (.t 5) true)]
 (.seq (aj [aC 4 (kI 0)]
 (.block 0 Bx))
 (aj [af 22 3,af 2 22]
 .ret)))),false⟩
def zn:cH:=⟨9,[.tmp 4],
 (aj [aC 4 (.c (.p (.int .u64 0)))]
 (aj [af 5 1,af 6 0,bn 7 kq [(.t 6)],aF 8 .and (.t 5) (.t 7),af 4 8]
 .ret)),false⟩
def oR:K :=
 (aj [aF 25 .lss (.t 24) (.t 23)]
 (.seq (aP 25 .skip (.exit 0))
 (.seq (.block 1 (aj [ak 26 (.au 1 (.t 22) (.t 24)),a7 27 26,af 11 27]
 (aj [af 28 11,bn 29 ig [(.t 28)],ak 30 (.not (.t 29))]
 (aP 30 (aj [aC 8 (kI 0),aC 9 (kI 3)]
 .ret) .skip))))
 (.cm false [aF 31 .add (.t 24) (kI 1),af 24 31]))))
def sf:K:=.loop [0,1,2,3,22,23,24] oR
def dJ:cH:=⟨144,[.tmp 8,.tmp 9],
 (aj [aC 8 (kI 0),aC 9 (kI 0)]
 (.seq (aj [af 12 0,bn 13 kY [(.t 12)],ak 14 (.not (.t 13)),af 15 14,⟨some 16,.mv (.t 3) false,some (15,false)⟩,⟨some 17,.bI (.t 16),some (15,false)⟩,⟨some 18,.mv (.t 0) false,some (15,false)⟩,⟨some 19,.cZ fu [(.t 18)],some (15,false)⟩,⟨some 20,.arith .neq (.t 17) (.t 19),some (15,false)⟩,ak 21 (.pick (.t 15) (.c (.p (.bool true))) (.t 20))]
 (aP 21 (aj [aC 8 (kI 0),aC 9 (kI 4)]
 .ret) .skip))
 (.seq (aj [af 22 3,ak 23 (.bI (.t 22)),aC 24 (kI 0)]
 (.block 0 sf))
 (.seq (aj [af 32 0]
 (.block 2 (.seq (aj [aF 34 .eql (.t 32) (kI 1),af 33 34]
 (aP 33 .skip (aj [aF 35 .eql (.t 32) (kI 2),af 33 35]
 (aP 33 .skip (aj [aF 36 .eql (.t 32) (kI 24),af 33 36]
 (aP 33 .skip (.cm false [aF 37 .eql (.t 32) (kI 25),af 33 37])))))))
 (aP 33 (aj [af 38 0,af 39 1,af 40 2,bn 41 mK [(.t 38),(.t 39),(.t 40)],ak 42 (.extract (.t 41) 0),ak 43 (.extract (.t 41) 1),af 8 42,af 9 43]
 .ret) (.seq (aj [aF 45 .eql (.t 32) (kI 3),af 44 45]
 (aP 44 .skip (aj [aF 46 .eql (.t 32) (kI 4),af 44 46]
 (aP 44 .skip (.cm false [aF 47 .eql (.t 32) (kI 26),af 44 47])))))
 (aP 44 (aj [af 48 3,ak 49 (.au 1 (.t 48) (kI 0)),a7 50 49,af 8 50,aC 9 (kI 0)]
 .ret) (.seq (aj [aF 52 .eql (.t 32) (kI 21),af 51 52]
 (aP 51 .skip (aj [aF 53 .eql (.t 32) (kI 22),af 51 53]
 (aP 51 .skip (.cm false [aF 54 .eql (.t 32) (kI 23),af 51 54])))))
 (aP 51 (aj [af 55 0,af 56 1,af 57 2,af 58 3,ak 59 (.au 1 (.t 58) (kI 0)),a7 60 59,bn 61 iM [(.t 55),(.t 56),(.t 57),(.t 60)],ak 62 (.extract (.t 61) 0),ak 63 (.extract (.t 61) 1),af 8 62,af 9 63]
 .ret) (aj [aF 65 .eql (.t 32) (kI 19),af 64 65]
 (aP 64 (.seq (.cm true [af 66 3,ak 67 (.au 1 (.t 66) (kI 0)),a7 68 67,aF 69 .eql (.t 68) (kI 1),af 70 69,⟨some 71,.mv (.t 3) false,some (70,true)⟩,⟨some 72,.au 1 (.t 71) (kI 1),some (70,true)⟩,⟨some 73,.load 1 false (.t 72),some (70,true)⟩,⟨some 74,.mv (.t 3) false,some (70,true)⟩,⟨some 75,.au 1 (.t 74) (kI 2),some (70,true)⟩,⟨some 76,.load 1 false (.t 75),some (70,true)⟩,⟨some 77,.arith .eql (.t 73) (.t 76),some (70,true)⟩,ak 78 (.pick (.t 70) (.t 77) (.c (.p (.bool false)))),af 79 3,ak 80 (.au 1 (.t 79) (kI 1)),a7 81 80,bn 82 eI [(.t 78),(.t 81)],ak 83 (.extract (.t 82) 0),ak 84 (.extract (.t 82) 1),af 8 83,af 9 84])
 .ret) (aj [aF 86 .eql (.t 32) (kI 20),af 85 86]
 (aP 85 (.seq (.cm true [af 87 3,ak 88 (.au 1 (.t 87) (kI 0)),a7 89 88,aF 90 .geq (.t 89) (kI 1),af 91 90,⟨some 92,.mv (.t 3) false,some (91,true)⟩,⟨some 93,.au 1 (.t 92) (kI 1),some (91,true)⟩,⟨some 94,.load 1 false (.t 93),some (91,true)⟩,⟨some 95,.arith .geq (.t 94) (kI 1),some (91,true)⟩,ak 96 (.pick (.t 91) (.t 95) (.c (.p (.bool false)))),af 97 96,⟨some 98,.mv (.t 3) false,some (97,true)⟩,⟨some 99,.au 1 (.t 98) (kI 0),some (97,true)⟩,⟨some 100,.load 1 false (.t 99),some (97,true)⟩,⟨some 101,.mv (.t 3) false,some (97,true)⟩,⟨some 102,.au 1 (.t 101) (kI 1),some (97,true)⟩,⟨some 103,.load 1 false (.t 102),some (97,true)⟩,⟨some 104,.arith .add (.t 100) (.t 103),some (97,true)⟩,⟨some 105,.arith .leq (.t 104) (kI 64),some (97,true)⟩,ak 106 (.pick (.t 97) (.t 105) (.c (.p (.bool false)))),af 107 3,ak 108 (.au 1 (.t 107) (kI 0)),a7 109 108,af 110 3,ak 111 (.au 1 (.t 110) (kI 1)),a7 112 111,aF 113 .add (.t 109) (.t 112),bn 114 eI [(.t 106),(.t 113)],ak 115 (.extract (.t 114) 0),ak 116 (.extract (.t 114) 1),af 8 115,af 9 116])
 .ret) (.seq (aj [aF 118 .eql (.t 32) (kI 16),af 117 118]
 (aP 117 .skip (aj [aF 119 .eql (.t 32) (kI 17),af 117 119]
 (aP 117 .skip (.cm false [aF 120 .eql (.t 32) (kI 18),af 117 120])))))
 (aP 117 (.seq (.cm true [af 121 3,ak 122 (.au 1 (.t 121) (kI 0)),a7 123 122,af 124 3,ak 125 (.au 1 (.t 124) (kI 1)),a7 126 125,aF 127 .eql (.t 123) (.t 126),bn 128 eI [(.t 127),(kI 1)],ak 129 (.extract (.t 128) 0),ak 130 (.extract (.t 128) 1),af 8 129,af 9 130])
 .ret) .skip))))))))))))))
 (.seq (.cm true [af 131 3,ak 132 (.au 1 (.t 131) (kI 0)),a7 133 132,af 134 3,ak 135 (.au 1 (.t 134) (kI 1)),a7 136 135,aF 137 .eql (.t 133) (.t 136),af 138 3,ak 139 (.au 1 (.t 138) (kI 0)),a7 140 139,bn 141 eI [(.t 137),(.t 140)],ak 142 (.extract (.t 141) 0),ak 143 (.extract (.t 141) 1),af 8 142,af 9 143])
 .ret))))),false⟩
def pK:K :=
 (aj [aF 9 .lss (.t 8) (.t 7)]
 (.seq (aP 9 .skip (.exit 0))
 (.seq (.block 1 (aj [ak 10 (.au 5 (.t 6) (.t 8)),bQ 11 5 10,ak 5 (.init 5 true (.t 11) true)]
 (.cm false [af 12 3,aZ 13 1 5,a7 14 13,ak 15 (.dE 1 [(.p (.int .i64 0))] 1 [(0,1,(.t 14))]),ak 16 (.append 1 8 (.t 12) (.t 15)),ak 3 (.mv (.t 16) true)])))
 (.cm false [aF 17 .add (.t 8) (kI 1),af 8 17]))))
def uP:K:=.loop [3,6,7,8] pK
def nr:cH:=⟨19,[.tmp 2],
 (aj [aC 2 (.c .aA)]
 (aj [ak 3 (.mv (.c .aA) true)]
 (.seq (aj [af 6 0,ak 7 (.bI (.t 6)),aC 8 (kI 0)]
 (.block 0 uP))
 (aj [af 18 3,af 2 18]
 .ret)))),false⟩
def kg:K :=
 (.cm false [ak 7 (.init 5 true (.t 21) true)])
def ki:K :=
 (.block 1 (.seq (aj [bQ 22 5 7,bn 23 qN [(.t 22)],af 8 23]
 (aj [af 24 8,aF 25 .neq (.t 24) (kI 0)]
 (aP 25 (aj [af 26 8,⟨none,.store 1 (.t 2) (.t 26),none⟩]
 .ret) .skip)))
 (aj [aZ 27 0 7,a7 28 27,aF 29 .eql (.t 28) (kI 1)]
 (aP 29 (aj [a7 31 5,aZ 32 3 7,a7 33 32,ak 34 (.lookup .str (.p (.int .i64 0)) (.t 31) (.t 33) true),af 30 34,ak 35 (.extract (.t 30) 0),ak 36 (.extract (.t 30) 1),af 9 35,af 10 36]
 (aj [a7 37 6,af 38 37,⟨some 39,.mv (.t 10) false,some (38,false)⟩,⟨some 40,.mv (.t 39) false,some (38,false)⟩,⟨some 41,.mv (.t 9) false,some (40,true)⟩,⟨some 42,.bH 1 (.t 7),some (40,true)⟩,⟨some 43,.load 1 false (.t 42),some (40,true)⟩,⟨some 44,.arith .neq (.t 41) (.t 43),some (40,true)⟩,⟨some 45,.pick (.t 40) (.t 44) (.c (.p (.bool false))),some (38,false)⟩,ak 46 (.pick (.t 38) (.c (.p (.bool true))) (.t 45)),⟨none,.store 1 (.t 6) (.t 46),none⟩]
 (.cm false [a7 47 5,aZ 48 3 7,a7 49 48,aZ 50 1 7,a7 51 50,⟨none,.VC .str (.t 47) (.t 49) (.t 51),none⟩]))) .skip))))
def Gp:K:=.range (.t 20) [21] [2,5,6] kg ki
def oD:cH:=⟨53,[.cell 2 1 false],
 (aj [ak 1 (.box 5 true (.t 0) true),ak 2 (.alloc [(.p (.int .i64 0))] 1)]
 (.seq (aj [bQ 12 5 1,bn 13 jq [(.t 12),(kI 4096),(kI 64)],af 11 13,ak 14 (.extract (.t 11) 0),ak 15 (.extract (.t 11) 1),af 3 14,af 4 15]
 (aj [af 16 4,ak 17 (.not (.t 16))]
 (aP 17 (aj [⟨none,.store 1 (.t 2) (kI 7),none⟩]
 .ret) .skip)))
 (aj [ak 18 (.EH),ak 5 (.init 1 false (.t 18) true)]
 (aj [ak 6 (.init 1 false (.c (.p (.bool false))) false)]
 (.seq (aj [bQ 19 5 1,bn 20 ti [(.t 19)]]
 (.block 0 Gp))
 (.seq (aj [a7 52 6]
 (aP 52 (aj [⟨none,.store 1 (.t 2) (kI 12),none⟩]
 .ret) .skip))
 (aj [⟨none,.store 1 (.t 2) (kI 0),none⟩]
 .ret))))))),false⟩
def xL:cH:=⟨10,[.tmp 2],
 (aj [ak 1 (.box 5 true (.t 0) true),aC 2 (.c .aA)]
 (aj [ak 3 (.alloc [.aA] 1)]
 (aj [bQ 4 5 1,ak 5 (.AD gu [(.t 3)]),bn 6 jK [(.t 4),(.t 5)]]
 (aj [a7 7 3,bn 8 bf [(.t 7),(.c (.p (.fn dR [])))]]
 (aj [a7 9 3,af 2 9]
 .ret))))),false⟩
def BV:cH:=⟨17,[.tmp 4],
 (aj [ak 2 (.box 2 true (.t 0) true),ak 3 (.box 2 true (.t 1) true),aC 4 (kI 0)]
 (.seq (.cm true [aZ 5 0 2,a7 6 5,aZ 7 0 3,a7 8 7,bn 9 qA [(.t 6),(.t 8)],aZ 10 1 2,a7 11 10,aZ 12 1 3,a7 13 12,bn 14 u6 [(.t 11),(.t 13)],ak 15 (.dE 1 [(.p (.int .i64 0))] 2 [(0,1,(.t 9)),(1,1,(.t 14))]),bn 16 CX [(.t 15)],af 4 16])
 .ret)),false⟩
def RH:K :=
 (aj [aF 9 .lss (.t 8) (.t 7)]
 (.seq (aP 9 .skip (.exit 0))
 (.seq (.block 1 (aj [ak 10 (.au 1 (.t 6) (.t 8)),a7 11 10,af 5 11]
 (aj [af 12 5,af 13 3,aF 14 .neq (.t 12) (.t 13)]
 (aP 14 (aj [af 15 5,af 2 15]
 .ret) .skip))))
 (.cm false [aF 16 .add (.t 8) (kI 1),af 8 16]))))
def RI:K:=.loop [3,6,7,8] RH
def HQ:cH:=⟨18,[.tmp 2],
 (aj [aC 2 (kI 0)]
 (aj [aC 3 (kI 0)]
 (.seq (aj [af 6 0,ak 7 (.bI (.t 6)),aC 8 (kI 0)]
 (.block 0 RI))
 (aj [af 17 3,af 2 17]
 .ret)))),false⟩
def xz:cH:=⟨20,[.tmp 4],
 (aj [aC 4 (kI 0)]
 (aj [af 7 0,bn 8 oF [(.t 7)],af 5 8]
 (aj [af 9 1,bn 10 oF [(.t 9)],af 6 10]
 (.seq (aj [af 11 5]
 (aP 11 (.seq (aj [af 12 6]
 (aP 12 (aj [aC 4 (kI 0)]
 .ret) .skip))
 (aj [aC 4 (kI (-1))]
 .ret)) .skip))
 (.seq (aj [af 13 6]
 (aP 13 (aj [aC 4 (kI 1)]
 .ret) .skip))
 (.seq (aj [af 14 0,af 15 1,aF 16 .lss (.t 14) (.t 15)]
 (aP 16 (aj [aC 4 (kI (-1))]
 .ret) .skip))
 (.seq (aj [af 17 0,af 18 1,aF 19 .gtr (.t 17) (.t 18)]
 (aP 19 (aj [aC 4 (kI 1)]
 .ret) .skip))
 (aj [aC 4 (kI 0)]
 .ret)))))))),false⟩
def AL:cH:=⟨20,[.tmp 4],
 (aj [aC 4 (kI 0)]
 (aj [af 7 0,bn 8 sr [(.t 7)],af 5 8]
 (aj [af 9 1,bn 10 sr [(.t 9)],af 6 10]
 (.seq (aj [af 11 5]
 (aP 11 (.seq (aj [af 12 6]
 (aP 12 (aj [aC 4 (kI 0)]
 .ret) .skip))
 (aj [aC 4 (kI (-1))]
 .ret)) .skip))
 (.seq (aj [af 13 6]
 (aP 13 (aj [aC 4 (kI 1)]
 .ret) .skip))
 (.seq (aj [af 14 0,af 15 1,aF 16 .lss (.t 14) (.t 15)]
 (aP 16 (aj [aC 4 (kI (-1))]
 .ret) .skip))
 (.seq (aj [af 17 0,af 18 1,aF 19 .gtr (.t 17) (.t 18)]
 (aP 19 (aj [aC 4 (kI 1)]
 .ret) .skip))
 (aj [aC 4 (kI 0)]
 .ret)))))))),false⟩
def gp:K :=
 (aj [aF 33 .lss (.t 32) (.t 31)]
 (.seq (aP 33 .skip (.exit 0))
 (.seq (.block 1 (aj [af 34 32,ak 35 (.au 2 (.t 30) (.t 32)),bQ 36 2 35,ak 9 (.alloc [(.p (.str (bs []))),(.p (.int .i64 0))] 2),af 8 34,⟨none,.store 2 (.t 9) (.t 36),none⟩]
 (.seq (aj [a7 38 7,aZ 39 0 9,a7 40 39,ak 41 (.lookup .str (.p (.int .i64 0)) (.t 38) (.t 40) true),af 37 41,ak 42 (.extract (.t 37) 0),ak 43 (.extract (.t 37) 1),af 10 42,af 11 43]
 (aj [af 44 11]
 (aP 44 (aj [aC 4 (.c .aA),aC 5 (kI 12)]
 .ret) .skip)))
 (.cm false [a7 45 7,aZ 46 0 9,a7 47 46,af 48 8,⟨none,.VC .str (.t 45) (.t 47) (.t 48),none⟩]))))
 (.cm false [aF 49 .add (.t 32) (kI 1),af 32 49]))))
def mE:K:=.loop [1,2,7,30,31,32] gp
def gq:K :=
 (aj [aF 54 .lss (.t 53) (.t 52)]
 (.seq (aP 54 .skip (.exit 2))
 (.seq (.block 3 (aj [ak 55 (.au 2 (.t 51) (.t 53)),bQ 56 2 55,ak 13 (.init 2 true (.t 56) true)]
 (aj [a7 58 7,aZ 59 0 13,a7 60 59,ak 61 (.lookup .str (.p (.int .i64 0)) (.t 58) (.t 60) true),af 57 61,ak 62 (.extract (.t 57) 0),ak 63 (.extract (.t 57) 1),af 14 62,af 15 63]
 (.seq (.cm true [af 64 15,ak 65 (.not (.t 64)),af 66 65,⟨some 67,.mv (.t 1) false,some (66,false)⟩,⟨some 68,.mv (.t 14) false,some (66,false)⟩,⟨some 69,.au 2 (.t 67) (.t 68),some (66,false)⟩,⟨some 70,.bH 1 (.t 69),some (66,false)⟩,⟨some 71,.load 1 false (.t 70),some (66,false)⟩,⟨some 72,.bH 1 (.t 13),some (66,false)⟩,⟨some 73,.load 1 false (.t 72),some (66,false)⟩,⟨some 74,.arith .neq (.t 71) (.t 73),some (66,false)⟩,ak 75 (.pick (.t 66) (.c (.p (.bool true))) (.t 74))])
 (aP 75 (aj [aC 4 (.c .aA),aC 5 (kI 12)]
 .ret) .skip)))))
 (.cm false [aF 76 .add (.t 53) (kI 1),af 53 76]))))
def w7:K:=.loop [1,2,7,51,52,53] gq
def iT:K :=
 (aj [aF 80 .lss (.t 79) (.t 78)]
 (.seq (aP 80 .skip (.exit 4))
 (.seq (.block 5 (aj [ak 81 (.au 2 (.t 77) (.t 79)),bQ 82 2 81,ak 18 (.init 2 true (.t 82) true)]
 (aj [aZ 83 1 18,a7 84 83,aF 85 .lss (.t 84) (kI 1),af 86 85,⟨some 87,.bH 1 (.t 18),some (86,false)⟩,⟨some 88,.load 1 false (.t 87),some (86,false)⟩,⟨some 89,.arith .gtr (.t 88) (kI 64),some (86,false)⟩,ak 90 (.pick (.t 86) (.c (.p (.bool true))) (.t 89))]
 (aP 90 (aj [aC 4 (.c .aA),aC 5 (kI 3)]
 .ret) .skip))))
 (.cm false [aF 91 .add (.t 79) (kI 1),af 79 91]))))
def w8:K:=.loop [1,2,7,16,77,78,79] iT
def mw:K :=
 (aj [aF 98 .lss (.t 97) (.t 96)]
 (.seq (aP 98 .skip (.exit 6))
 (.seq (.block 7 (aj [af 99 97,ak 100 (.au 2 (.t 95) (.t 97)),bQ 101 2 100,ak 21 (.alloc [(.p (.str (bs []))),(.p (.int .i64 0))] 2),af 20 99,⟨none,.store 2 (.t 21) (.t 101),none⟩]
 (aj [a7 102 19,af 103 20,af 104 16,ak 105 (.au 1 (.t 102) (.t 103)),⟨none,.store 1 (.t 105) (.t 104),none⟩]
 (aj [af 106 16,aZ 107 1 21,a7 108 107,aF 109 .add (.t 106) (.t 108),af 16 109]
 (aj [af 110 16,aF 111 .gtr (.t 110) (kI 16)]
 (aP 111 (aj [aC 4 (.c .aA),aC 5 (kI 7)]
 .ret) .skip))))))
 (.cm false [aF 112 .add (.t 97) (kI 1),af 97 112]))))
def w9:K:=.loop [2,7,16,19,95,96,97] mw
def pq:K :=
 (aj [aF 119 .lss (.t 118) (.t 117)]
 (.seq (aP 119 .skip (.exit 8))
 (.seq (.block 9 (aj [af 120 118,ak 23 (.init 1 false (.t 120) true)]
 (.cm false [af 121 22,bQ 122 5 2,ak 123 (.AD ft [(.t 23),(.t 19),(.t 7)]),bn 124 l7 [(.t 122),(.t 123)],ak 125 (.dE 1 [(.p (.int .u64 0))] 1 [(0,1,(.t 124))]),ak 126 (.append 1 8 (.t 121) (.t 125)),ak 22 (.mv (.t 126) true)])))
 (.cm false [aF 127 .add (.t 118) (kI 1),af 118 127]))))
def xc:K:=.loop [2,7,19,22,117,118] pq
def iU:cH:=⟨129,[.tmp 4,.tmp 5],
 (aj [ak 2 (.box 5 true (.t 0) true),aC 4 (.c .aA),aC 5 (kI 0)]
 (.seq (aj [bQ 24 5 2,bn 25 mf [(.t 24)],af 6 25]
 (aj [af 26 6,aF 27 .neq (.t 26) (kI 0)]
 (aP 27 (aj [af 28 6,aC 4 (.c .aA),af 5 28]
 .ret) .skip)))
 (aj [ak 29 (.EH),ak 7 (.init 1 false (.t 29) true)]
 (.seq (aj [af 30 1,ak 31 (.bI (.t 30)),aC 32 (kI 0)]
 (.block 0 mE))
 (.seq (aj [bQ 50 5 2,bn 51 oe [(.t 50)],ak 52 (.bI (.t 51)),aC 53 (kI 0)]
 (.block 2 w7))
 (aj [aC 16 (kI 0)]
 (.seq (aj [af 77 1,ak 78 (.bI (.t 77)),aC 79 (kI 0)]
 (.block 4 w8))
 (aj [af 92 1,ak 93 (.bI (.t 92)),ak 94 (.xh 1 8 [(.p (.int .i64 0))] (.t 93) (.t 93)),ak 19 (.init 1 false (.t 94) true)]
 (.seq (aj [af 95 1,ak 96 (.bI (.t 95)),aC 97 (kI 0)]
 (.block 6 w9))
 (aj [af 113 16,aF 114 .shl (kI 1) (.t 113),ak 115 (.xh 1 8 [(.p (.int .u64 0))] (kI 0) (.t 114)),ak 22 (.mv (.t 115) true)]
 (.seq (aj [af 116 16,aF 117 .shl (kI 1) (.t 116),aC 118 (kI 0)]
 (.block 8 xc))
 (aj [af 128 22,af 4 128,aC 5 (kI 0)]
 .ret)))))))))))),false⟩
def fm:K :=
 (aj [aF 9 .lss (.t 8) (.t 7)]
 (.seq (aP 9 .skip (.exit 0))
 (.seq (.block 1 (aj [af 10 8,ak 4 (.init 1 false (.t 10) true)]
 (aj [ak 11 (.AD bV [(.t 4),(.t 2)]),af 5 11]
 (aj [af 12 0,a7 13 4,af 14 5,ak 15 (.rE (.t 12) [(.t 13),(.t 14)]),ak 16 (.not (.t 15))]
 (aP 16 .ret .skip)))))
 (.cm false [aF 17 .add (.t 8) (kI 1),af 8 17]))))
def iW:K:=.loop [0,2,7,8] fm
def ew:cH:=⟨18,[],
 (aj [a7 6 1,aF 7 .shl (kI 1) (.t 6),aC 8 (kI 0)]
 (.block 0 iW)),true⟩
def gw:K :=
 (aj [aF 12 .lss (.t 11) (.t 10)]
 (.seq (aP 12 .skip (.exit 0))
 (.seq (.block 1 (aj [ak 13 (.au 2 (.t 9) (.t 11)),bQ 14 2 13,ak 6 (.init 2 true (.t 14) true)]
 (.seq (.cm true [af 15 3,aZ 16 0 6,a7 17 16,af 18 4,aZ 19 1 6,a7 20 19,aF 21 .shl (.c (.p (.int .u64 1))) (.t 20),aF 22 .sub (.t 21) (.c (.p (.int .u64 1))),aF 23 .and (.t 18) (.t 22),ak 24 (.build [(.p (.str (bs []))),(.p (.int .u64 0))] [(0,1,(.t 17)),(1,1,(.t 23))]),ak 25 (.dE 2 [(.p (.str (bs []))),(.p (.int .u64 0))] 1 [(0,2,(.t 24))]),ak 26 (.append 2 24 (.t 15) (.t 25)),ak 3 (.mv (.t 26) true)])
 (.cm false [af 27 4,aZ 28 1 6,a7 29 28,aF 30 .shr (.t 27) (.t 29),af 4 30]))))
 (.cm false [aF 31 .add (.t 11) (kI 1),af 11 31]))))
def kV:K:=.loop [3,4,9,10,11] gw
def eS:cH:=⟨33,[.tmp 2],
 (aj [aC 2 (.c .aA)]
 (aj [ak 3 (.mv (.c .aA) true)]
 (aj [a7 7 0,ak 8 (.conv .u64 (.t 7)),af 4 8]
 (.seq (aj [a7 9 1,ak 10 (.bI (.t 9)),aC 11 (kI 0)]
 (.block 0 kV))
 (aj [af 32 3,af 2 32]
 .ret))))),false⟩
def bG:K :=
 (.seq (aj [af 15 9,af 16 10,aF 17 .lss (.t 15) (.t 16)]
 (aP 17 .skip (.exit 0)))
 (.block 1 (aj [af 18 9,af 19 10,aF 20 .add (.t 18) (.t 19),ak 21 (.conv .u64 (.t 20)),aF 22 .shr (.t 21) (.c (.p (.int .u64 1))),ak 23 (.conv .i64 (.t 22)),af 11 23]
 (aj [af 24 2,af 25 0,af 26 11,ak 27 (.au 2 (.t 25) (.t 26)),bQ 28 2 27,af 29 1,ak 30 (.rE (.t 24) [(.t 28),(.t 29)]),aF 31 .lss (.t 30) (kI 0)]
 (aP 31 (.cm false [af 32 11,aF 33 .add (.t 32) (kI 1),af 9 33]) (.cm false [af 34 11,af 10 34]))))))
def cd:K:=.loop [0,1,2,8,9,10] bG
def aV:cH:=⟨49,[.tmp 6,.tmp 7],
 (aj [aC 6 (kI 0),aC 7 (.c (.p (.bool false)))]
 (aj [af 12 0,ak 13 (.bI (.t 12)),af 8 13]
 (aj [af 14 8,aC 9 (kI 0),af 10 14]
 (.seq (.block 0 cd)
 (aj [af 35 9,af 36 9,af 37 8,aF 38 .lss (.t 36) (.t 37),af 39 38,⟨some 40,.mv (.t 2) false,some (39,true)⟩,⟨some 41,.mv (.t 0) false,some (39,true)⟩,⟨some 42,.mv (.t 9) false,some (39,true)⟩,⟨some 43,.au 2 (.t 41) (.t 42),some (39,true)⟩,⟨some 44,.load 2 true (.t 43),some (39,true)⟩,⟨some 45,.mv (.t 1) false,some (39,true)⟩,⟨some 46,.rE (.t 40) [(.t 44),(.t 45)],some (39,true)⟩,⟨some 47,.arith .eql (.t 46) (kI 0),some (39,true)⟩,ak 48 (.pick (.t 39) (.t 47) (.c (.p (.bool false)))),af 6 35,af 7 48]
 .ret))))),false⟩
def iA:cH:=⟨9,[.tmp 4],
 (aj [ak 2 (.box 2 true (.t 0) true),aC 4 (kI 0)]
 (aj [aZ 5 0 2,a7 6 5,af 7 1,bn 8 fi [(.t 6),(.t 7)],af 4 8]
 .ret)),false⟩
def lW:cH:=⟨8,[.tmp 4],
 (aj [aC 4 (kI 0)]
 (aj [af 5 0,af 6 1,bn 7 b8 [(.t 5),(.t 6)],af 4 7]
 .ret)),false⟩
def nk:cH:=⟨42,[.tmp 2],
 (aj [aC 2 (kI 0)]
 (aj [aC 3 (kI 0)]
 (.seq (aj [af 4 0]
 (.block 0 (.seq (.block 4 (.seq (.block 3 (.seq (.block 2 (.seq (.block 1 (.seq (.seq (aj [aF 6 .eql (.t 4) (kI 19),af 5 6]
 (aP 5 (.exit 1) .skip))
 (.seq (.seq (aj [aF 8 .eql (.t 4) (kI 5),af 7 8]
 (aP 7 .skip (aj [aF 9 .eql (.t 4) (kI 6),af 7 9]
 (aP 7 .skip (aj [aF 10 .eql (.t 4) (kI 7),af 7 10]
 (aP 7 .skip (aj [aF 11 .eql (.t 4) (kI 8),af 7 11]
 (aP 7 .skip (aj [aF 12 .eql (.t 4) (kI 9),af 7 12]
 (aP 7 .skip (aj [aF 13 .eql (.t 4) (kI 10),af 7 13]
 (aP 7 .skip (aj [aF 14 .eql (.t 4) (kI 11),af 7 14]
 (aP 7 .skip (aj [aF 15 .eql (.t 4) (kI 12),af 7 15]
 (aP 7 .skip (aj [aF 16 .eql (.t 4) (kI 13),af 7 16]
 (aP 7 .skip (aj [aF 17 .eql (.t 4) (kI 14),af 7 17]
 (aP 7 .skip (aj [aF 18 .eql (.t 4) (kI 15),af 7 18]
 (aP 7 .skip (aj [aF 19 .eql (.t 4) (kI 16),af 7 19]
 (aP 7 .skip (aj [aF 20 .eql (.t 4) (kI 17),af 7 20]
 (aP 7 .skip (aj [aF 21 .eql (.t 4) (kI 18),af 7 21]
 (aP 7 .skip (.cm false [aF 22 .eql (.t 4) (kI 20),af 7 22])))))))))))))))))))))))))))))
 (aP 7 (.exit 2) .skip))
 (.seq (.seq (aj [aF 24 .eql (.t 4) (kI 3),af 23 24]
 (aP 23 .skip (aj [aF 25 .eql (.t 4) (kI 4),af 23 25]
 (aP 23 .skip (aj [aF 26 .eql (.t 4) (kI 21),af 23 26]
 (aP 23 .skip (aj [aF 27 .eql (.t 4) (kI 22),af 23 27]
 (aP 23 .skip (aj [aF 28 .eql (.t 4) (kI 23),af 23 28]
 (aP 23 .skip (.cm false [aF 29 .eql (.t 4) (kI 26),af 23 29])))))))))))
 (aP 23 (.exit 3) .skip))
 (.seq (aj [aF 31 .eql (.t 4) (kI 1),af 30 31]
 (aP 30 .skip (aj [aF 32 .eql (.t 4) (kI 2),af 30 32]
 (aP 30 .skip (aj [aF 33 .eql (.t 4) (kI 24),af 30 33]
 (aP 30 .skip (.cm false [aF 34 .eql (.t 4) (kI 25),af 30 34])))))))
 (aP 30 (.exit 4) .skip)))))
 (.exit 0)))
 (.cm false [af 35 3,aF 36 .add (.t 35) (kI 1),af 3 36])))
 (.cm false [af 37 3,aF 38 .add (.t 37) (kI 1),af 3 38])))
 (.cm false [af 39 3,aF 40 .add (.t 39) (kI 1),af 3 40])))
 (.seq (aj [af 41 3,af 2 41]
 .ret)
 (.exit 0)))))
 (aj [aC 2 (kI (-1))]
 .ret)))),false⟩
def pV:K :=
 (.cm false [ak 5 (.init 5 true (.t 8) true)])
def pW:K :=
 (.block 1 (aj [a7 9 3,aZ 10 0 5,a7 11 10,bn 12 cj [(.t 9),(.t 11)]]
 (aP 12 (aj [⟨none,.store 1 (.t 4) (.c (.p (.bool true))),none⟩]
 .ret) .skip)))
def Ea:K:=.range (.t 7) [8] [3,4] pV pW
def rS:cH:=⟨13,[.cell 4 1 false],
 (aj [ak 2 (.box 5 true (.t 0) true),ak 3 (.box 1 false (.t 1) true),ak 4 (.alloc [(.p (.bool false))] 1)]
 (.seq (aj [bQ 6 5 2,bn 7 dv [(.t 6)]]
 (.block 0 Ea))
 (aj [⟨none,.store 1 (.t 4) (.c (.p (.bool false))),none⟩]
 .ret))),false⟩
def uD:cH:=⟨6,[.tmp 2],
 (aj [ak 1 (.box 5 true (.t 0) true),aC 2 (.c (.p (.bool false)))]
 (aj [bQ 3 5 1,ak 4 (.build lA []),bn 5 jo [(.t 3),(.t 4)],af 2 5]
 .ret)),false⟩
def zy:cH:=⟨6,[.tmp 2],
 (aj [aC 2 (.c (.p (.bool false)))]
 (aj [af 3 0,ak 4 (.dE 1 [(.p (.int .i64 0))] 4 [(0,1,(kI 1)),(1,1,(kI 2)),(2,1,(kI 24)),(3,1,(kI 25))]),bn 5 xS [(.t 3),(.t 4)],af 2 5]
 .ret)),false⟩
def FK:K :=
 (aj [aF 9 .lss (.t 8) (.t 7)]
 (.seq (aP 9 .skip (.exit 0))
 (.seq (.block 1 (aj [af 10 8,af 5 10]
 (aj [af 11 1,af 12 5,ak 13 (.au 1 (.t 11) (.t 12)),a7 14 13,af 15 0,aF 16 .eql (.t 14) (.t 15)]
 (aP 16 (aj [aC 4 (.c (.p (.bool true)))]
 .ret) .skip))))
 (.cm false [aF 17 .add (.t 8) (kI 1),af 8 17]))))
def FN:K:=.loop [0,1,7,8] FK
def BW:cH:=⟨18,[.tmp 4],
 (aj [aC 4 (.c (.p (.bool false)))]
 (.seq (aj [af 6 1,ak 7 (.bI (.t 6)),aC 8 (kI 0)]
 (.block 0 FN))
 (aj [aC 4 (.c (.p (.bool false)))]
 .ret))),false⟩
def xD:cH:=⟨9,[.tmp 2],
 (aj [aC 2 (.c (.p (.bool false)))]
 (aj [af 3 0,aF 4 .geq (.t 3) (kI 0),af 5 4,⟨some 6,.mv (.t 0) false,some (5,true)⟩,⟨some 7,.arith .leq (.t 6) (kI 64),some (5,true)⟩,ak 8 (.pick (.t 5) (.t 7) (.c (.p (.bool false)))),af 2 8]
 .ret)),false⟩
def zA:cH:=⟨31,[.tmp 6,.tmp 7],
 (aj [aC 6 (kI 0),aC 7 (kI 0)]
 (.seq (aj [af 8 1,bn 9 l9 [(.t 8)],ak 10 (.not (.t 9)),af 11 10,⟨some 12,.mv (.t 0) false,some (11,false)⟩,⟨some 13,.arith .eql (.t 12) (kI 2),some (11,false)⟩,⟨some 14,.mv (.t 13) false,some (11,false)⟩,⟨some 15,.mv (.t 1) false,some (14,true)⟩,⟨some 16,.arith .gtr (.t 15) (kI 0),some (14,true)⟩,⟨some 17,.pick (.t 14) (.t 16) (.c (.p (.bool false))),some (11,false)⟩,⟨some 18,.mv (.t 17) false,some (11,false)⟩,⟨some 19,.mv (.t 1) false,some (18,true)⟩,⟨some 20,.arith .lss (.t 19) (kI 64),some (18,true)⟩,⟨some 21,.pick (.t 18) (.t 20) (.c (.p (.bool false))),some (11,false)⟩,⟨some 22,.mv (.t 21) false,some (11,false)⟩,⟨some 23,.mv (.t 2) false,some (22,true)⟩,⟨some 24,.mv (.t 1) false,some (22,true)⟩,⟨some 25,.conv .u64 (.t 24),some (22,true)⟩,⟨some 26,.arith .shl (.c (.p (.int .u64 1))) (.t 25),some (22,true)⟩,⟨some 27,.arith .geq (.t 23) (.t 26),some (22,true)⟩,⟨some 28,.pick (.t 22) (.t 27) (.c (.p (.bool false))),some (11,false)⟩,ak 29 (.pick (.t 11) (.c (.p (.bool true))) (.t 28))]
 (aP 29 (aj [aC 6 (kI 0),aC 7 (kI 3)]
 .ret) .skip))
 (aj [af 30 1,af 6 30,aC 7 (kI 0)]
 .ret))),false⟩
def xC:cH:=⟨46,[.tmp 8,.tmp 9],
 (aj [aC 8 (kI 0),aC 9 (kI 0)]
 (.seq (aj [af 10 1,bn 11 l9 [(.t 10)],ak 12 (.not (.t 11)),af 13 12,⟨some 14,.mv (.t 1) false,some (13,false)⟩,⟨some 15,.arith .lss (.t 14) (kI 1),some (13,false)⟩,ak 16 (.pick (.t 13) (.c (.p (.bool true))) (.t 15)),af 17 16,⟨some 18,.mv (.t 3) false,some (17,false)⟩,⟨some 19,.arith .lss (.t 18) (kI 1),some (17,false)⟩,ak 20 (.pick (.t 17) (.c (.p (.bool true))) (.t 19))]
 (aP 20 (aj [aC 8 (kI 0),aC 9 (kI 3)]
 .ret) .skip))
 (.seq (aj [af 21 0,aF 22 .eql (.t 21) (kI 21),af 23 22,⟨some 24,.mv (.t 1) false,some (23,true)⟩,⟨some 25,.mv (.t 3) false,some (23,true)⟩,⟨some 26,.arith .gtr (.t 24) (.t 25),some (23,true)⟩,⟨some 27,.mv (.t 26) false,some (23,true)⟩,⟨some 28,.mv (.t 2) false,some (27,false)⟩,⟨some 29,.mv (.t 3) false,some (27,false)⟩,⟨some 30,.mv (.t 1) false,some (27,false)⟩,⟨some 31,.arith .sub (.t 29) (.t 30),some (27,false)⟩,⟨some 32,.conv .u64 (.t 31),some (27,false)⟩,⟨some 33,.arith .gtr (.t 28) (.t 32),some (27,false)⟩,⟨some 34,.pick (.t 27) (.c (.p (.bool true))) (.t 33),some (23,true)⟩,ak 35 (.pick (.t 23) (.t 34) (.c (.p (.bool false)))),af 36 35,⟨some 37,.mv (.t 0) false,some (36,false)⟩,⟨some 38,.arith .neq (.t 37) (kI 21),some (36,false)⟩,⟨some 39,.mv (.t 38) false,some (36,false)⟩,⟨some 40,.mv (.t 1) false,some (39,true)⟩,⟨some 41,.mv (.t 3) false,some (39,true)⟩,⟨some 42,.arith .lss (.t 40) (.t 41),some (39,true)⟩,⟨some 43,.pick (.t 39) (.t 42) (.c (.p (.bool false))),some (36,false)⟩,ak 44 (.pick (.t 36) (.c (.p (.bool true))) (.t 43))]
 (aP 44 (aj [aC 8 (kI 0),aC 9 (kI 3)]
 .ret) .skip))
 (aj [af 45 1,af 8 45,aC 9 (kI 0)]
 .ret)))),false⟩
def xu:cH:=⟨7,[.tmp 2],
 (aj [aC 2 (.c (.p (.int .u64 0)))]
 (aj [af 3 0,bn 4 gE [(.t 3)],aF 5 .sub (kI 64) (.t 4),aF 6 .shr (.c (.p (.int .u64 18446744073709551615))) (.t 5),af 2 6]
 .ret)),false⟩
def p9:cH:=⟨9,[.tmp 2],
 (aj [aC 2 (.c (.p (.bool false)))]
 (aj [af 3 0,aF 4 .geq (.t 3) (kI 1),af 5 4,⟨some 6,.mv (.t 0) false,some (5,true)⟩,⟨some 7,.arith .leq (.t 6) (kI 26),some (5,true)⟩,ak 8 (.pick (.t 5) (.t 7) (.c (.p (.bool false)))),af 2 8]
 .ret)),false⟩
def oV:cH:=⟨9,[.tmp 2],
 (aj [aC 2 (.c (.p (.bool false)))]
 (aj [af 3 0,aF 4 .geq (.t 3) (kI 0),af 5 4,⟨some 6,.mv (.t 0) false,some (5,true)⟩,⟨some 7,.arith .leq (.t 6) (kI 64),some (5,true)⟩,ak 8 (.pick (.t 5) (.t 7) (.c (.p (.bool false)))),af 2 8]
 .ret)),false⟩
def rR:cH:=⟨26,[.tmp 6,.tmp 7],
 (aj [aC 6 (kI 0),aC 7 (kI 0)]
 (.seq (aj [af 8 1,bn 9 ig [(.t 8)],ak 10 (.not (.t 9)),af 11 10,⟨some 12,.mv (.t 0) false,some (11,false)⟩,⟨some 13,.arith .eql (.t 12) (kI 2),some (11,false)⟩,⟨some 14,.mv (.t 13) false,some (11,false)⟩,⟨some 15,.mv (.t 1) false,some (14,true)⟩,⟨some 16,.arith .gtr (.t 15) (kI 0),some (14,true)⟩,⟨some 17,.pick (.t 14) (.t 16) (.c (.p (.bool false))),some (11,false)⟩,⟨some 18,.mv (.t 17) false,some (11,false)⟩,⟨some 19,.mv (.t 2) false,some (18,true)⟩,⟨some 20,.mv (.t 1) false,some (18,true)⟩,⟨some 21,.arith .shr (.t 19) (.t 20),some (18,true)⟩,⟨some 22,.arith .neq (.t 21) (.c (.p (.int .u64 0))),some (18,true)⟩,⟨some 23,.pick (.t 18) (.t 22) (.c (.p (.bool false))),some (11,false)⟩,ak 24 (.pick (.t 11) (.c (.p (.bool true))) (.t 23))]
 (aP 24 (aj [aC 6 (kI 0),aC 7 (kI 3)]
 .ret) .skip))
 (aj [af 25 1,af 6 25,aC 7 (kI 0)]
 .ret))),false⟩
def np:cH:=⟨45,[.tmp 8,.tmp 9],
 (aj [aC 8 (kI 0),aC 9 (kI 0)]
 (.seq (aj [af 10 1,aF 11 .lss (.t 10) (kI 1),af 12 11,⟨some 13,.mv (.t 1) false,some (12,false)⟩,⟨some 14,.arith .gtr (.t 13) (kI 64),some (12,false)⟩,ak 15 (.pick (.t 12) (.c (.p (.bool true))) (.t 14)),af 16 15,⟨some 17,.mv (.t 3) false,some (16,false)⟩,⟨some 18,.arith .lss (.t 17) (kI 1),some (16,false)⟩,ak 19 (.pick (.t 16) (.c (.p (.bool true))) (.t 18))]
 (aP 19 (aj [aC 8 (kI 0),aC 9 (kI 3)]
 .ret) .skip))
 (.seq (aj [af 20 0,aF 21 .neq (.t 20) (kI 21),af 22 21,⟨some 23,.mv (.t 1) false,some (22,true)⟩,⟨some 24,.mv (.t 3) false,some (22,true)⟩,⟨some 25,.arith .lss (.t 23) (.t 24),some (22,true)⟩,ak 26 (.pick (.t 22) (.t 25) (.c (.p (.bool false)))),af 27 26,⟨some 28,.mv (.t 0) false,some (27,false)⟩,⟨some 29,.arith .eql (.t 28) (kI 21),some (27,false)⟩,⟨some 30,.mv (.t 29) false,some (27,false)⟩,⟨some 31,.mv (.t 1) false,some (30,true)⟩,⟨some 32,.mv (.t 3) false,some (30,true)⟩,⟨some 33,.arith .gtr (.t 31) (.t 32),some (30,true)⟩,⟨some 34,.mv (.t 33) false,some (30,true)⟩,⟨some 35,.mv (.t 2) false,some (34,false)⟩,⟨some 36,.mv (.t 3) false,some (34,false)⟩,⟨some 37,.mv (.t 1) false,some (34,false)⟩,⟨some 38,.arith .sub (.t 36) (.t 37),some (34,false)⟩,⟨some 39,.conv .u64 (.t 38),some (34,false)⟩,⟨some 40,.arith .gtr (.t 35) (.t 39),some (34,false)⟩,⟨some 41,.pick (.t 34) (.c (.p (.bool true))) (.t 40),some (30,true)⟩,⟨some 42,.pick (.t 30) (.t 41) (.c (.p (.bool false))),some (27,false)⟩,ak 43 (.pick (.t 27) (.c (.p (.bool true))) (.t 42))]
 (aP 43 (aj [aC 8 (kI 0),aC 9 (kI 3)]
 .ret) .skip))
 (aj [af 44 1,af 8 44,aC 9 (kI 0)]
 .ret)))),false⟩
def oU:cH:=⟨9,[.tmp 4,.tmp 5],
 (aj [aC 4 (kI 0),aC 5 (kI 0)]
 (.seq (aj [af 6 0,ak 7 (.not (.t 6))]
 (aP 7 (aj [aC 4 (kI 0),aC 5 (kI 3)]
 .ret) .skip))
 (aj [af 8 1,af 4 8,aC 5 (kI 0)]
 .ret))),false⟩
def oT:K :=
 (aj [aF 24 .lss (.t 23) (.t 22)]
 (.seq (aP 24 .skip (.exit 0))
 (.seq (.block 1 (aj [ak 25 (.au 5 (.t 21) (.t 23)),bQ 26 5 25,ak 9 (.init 5 true (.t 26) true)]
 (aj [bQ 28 5 9,af 29 1,af 30 2,aF 31 .sub (.t 30) (kI 1),bn 32 jq [(.t 28),(.t 29),(.t 31)],af 27 32,ak 33 (.extract (.t 27) 0),ak 34 (.extract (.t 27) 1),af 10 33,af 11 34]
 (.seq (aj [af 35 11,ak 36 (.not (.t 35))]
 (aP 36 (aj [aC 6 (kI 0),aC 7 (.c (.p (.bool false)))]
 .ret) .skip))
 (.cm false [af 37 10,af 1 37])))))
 (.cm false [aF 38 .add (.t 23) (kI 1),af 23 38]))))
def sj:K:=.loop [1,2,21,22,23] oT
def jj:cH:=⟨40,[.tmp 6,.tmp 7],
 (aj [ak 3 (.box 5 true (.t 0) true),aC 6 (kI 0),aC 7 (.c (.p (.bool false)))]
 (.seq (aj [af 12 1,aF 13 .lss (.t 12) (kI 1),af 14 13,⟨some 15,.mv (.t 2) false,some (14,false)⟩,⟨some 16,.arith .lss (.t 15) (kI 1),some (14,false)⟩,ak 17 (.pick (.t 14) (.c (.p (.bool true))) (.t 16))]
 (aP 17 (aj [aC 6 (kI 0),aC 7 (.c (.p (.bool false)))]
 .ret) .skip))
 (aj [af 18 1,aF 19 .sub (.t 18) (kI 1),af 1 19]
 (.seq (aj [aZ 20 4 3,a7 21 20,ak 22 (.bI (.t 21)),aC 23 (kI 0)]
 (.block 0 sj))
 (aj [af 39 1,af 6 39,aC 7 (.c (.p (.bool true)))]
 .ret))))),false⟩
def zC:cH:=⟨4,[.tmp 2],
 (aj [ak 1 (.box 5 true (.t 0) true),aC 2 (.c (.p .Aa))]
 (aj [ak 3 (.AD j9 [(.t 1)]),af 2 3]
 .ret)),false⟩
def ia:cH:=⟨82,[.tmp 2],
 (aj [ak 1 (.box 5 true (.t 0) true),aC 2 (kI 0)]
 (.seq (.block 0 (.seq (.cm true [aZ 6 0 1,a7 7 6,bn 8 fu [(.t 7)],aF 9 .lss (.t 8) (kI 0),af 10 9,⟨some 11,.bH 0 (.t 1),some (10,false)⟩,⟨some 12,.load 1 false (.t 11),some (10,false)⟩,⟨some 13,.cZ iL [(.t 12)],some (10,false)⟩,ak 14 (.pick (.t 10) (.c (.p (.bool true))) (.t 13)),af 15 14,⟨some 16,.bH 4 (.t 1),some (15,false)⟩,⟨some 17,.load 1 false (.t 16),some (15,false)⟩,⟨some 18,.bI (.t 17),some (15,false)⟩,⟨some 19,.bH 0 (.t 1),some (15,false)⟩,⟨some 20,.load 1 false (.t 19),some (15,false)⟩,⟨some 21,.cZ fu [(.t 20)],some (15,false)⟩,⟨some 22,.arith .neq (.t 18) (.t 21),some (15,false)⟩,ak 23 (.pick (.t 15) (.c (.p (.bool true))) (.t 22)),af 5 23])
 (aP 5 (aj [aC 2 (kI 4)]
 .ret) (aj [aZ 25 0 1,a7 26 25,aF 27 .neq (.t 26) (kI 1),af 28 27,⟨some 29,.bH 3 (.t 1),some (28,true)⟩,⟨some 30,.load 1 false (.t 29),some (28,true)⟩,⟨some 31,.arith .neq (.t 30) (.c (.p (.str (bs [])))),some (28,true)⟩,ak 32 (.pick (.t 28) (.t 31) (.c (.p (.bool false)))),af 24 32]
 (aP 24 (aj [aC 2 (kI 4)]
 .ret) (aj [aZ 34 0 1,a7 35 34,aF 36 .neq (.t 35) (kI 2),af 37 36,⟨some 38,.bH 0 (.t 1),some (37,true)⟩,⟨some 39,.load 1 false (.t 38),some (37,true)⟩,⟨some 40,.arith .neq (.t 39) (kI 21),some (37,true)⟩,ak 41 (.pick (.t 37) (.t 40) (.c (.p (.bool false)))),af 42 41,⟨some 43,.bH 2 (.t 1),some (42,true)⟩,⟨some 44,.load 1 false (.t 43),some (42,true)⟩,⟨some 45,.arith .neq (.t 44) (.c (.p (.int .u64 0))),some (42,true)⟩,ak 46 (.pick (.t 42) (.t 45) (.c (.p (.bool false)))),af 33 46]
 (aP 33 (aj [aC 2 (kI 4)]
 .ret) (aj [aZ 48 0 1,a7 49 48,aF 50 .eql (.t 49) (kI 1),af 51 50,⟨some 52,.bH 3 (.t 1),some (51,true)⟩,⟨some 53,.load 1 false (.t 52),some (51,true)⟩,⟨some 54,.cZ kC [(.t 53)],some (51,true)⟩,⟨some 55,.not (.t 54),some (51,true)⟩,ak 56 (.pick (.t 51) (.t 55) (.c (.p (.bool false)))),af 47 56]
 (aP 47 (aj [aC 2 (kI 5)]
 .ret) (aj [aZ 58 1 1,a7 59 58,aF 60 .lss (.t 59) (kI 1),af 57 60]
 (aP 57 (aj [aC 2 (kI 3)]
 .ret) .skip)))))))))))
 (.seq (.seq (.cm true [aZ 62 0 1,a7 63 62,aZ 64 1 1,a7 65 64,aZ 66 2 1,a7 67 66,aZ 68 4 1,a7 69 68,bn 70 mQ [(.t 69)],bn 71 gH [(.t 63),(.t 65),(.t 67),(.t 70)],af 61 71,ak 72 (.extract (.t 61) 0),ak 73 (.extract (.t 61) 1),af 3 72,af 4 73])
 (aj [af 74 4,aF 75 .neq (.t 74) (kI 0),af 76 75,⟨some 77,.mv (.t 3) false,some (76,false)⟩,⟨some 78,.bH 1 (.t 1),some (76,false)⟩,⟨some 79,.load 1 false (.t 78),some (76,false)⟩,⟨some 80,.arith .neq (.t 77) (.t 79),some (76,false)⟩,ak 81 (.pick (.t 76) (.c (.p (.bool true))) (.t 80))]
 (aP 81 (aj [aC 2 (kI 3)]
 .ret) .skip)))
 (aj [aC 2 (kI 0)]
 .ret)))),false⟩
def nh:K :=
 (aj [aF 15 .lss (.t 14) (.t 13)]
 (.seq (aP 15 .skip (.exit 0))
 (.seq (.block 1 (aj [ak 16 (.au 5 (.t 12) (.t 14)),bQ 17 5 16,ak 6 (.init 5 true (.t 17) true)]
 (aj [bQ 18 5 6,af 19 1,bn 20 jK [(.t 18),(.t 19)],ak 21 (.not (.t 20))]
 (aP 21 (aj [aC 4 (.c (.p (.bool false)))]
 .ret) .skip))))
 (.cm false [aF 22 .add (.t 14) (kI 1),af 14 22]))))
def rq:K:=.loop [1,12,13,14] nh
def fI:cH:=⟨23,[.tmp 4],
 (aj [ak 2 (.box 5 true (.t 0) true),aC 4 (.c (.p (.bool false)))]
 (.seq (aj [af 7 1,bQ 8 5 2,ak 9 (.rE (.t 7) [(.t 8)]),ak 10 (.not (.t 9))]
 (aP 10 (aj [aC 4 (.c (.p (.bool false)))]
 .ret) .skip))
 (.seq (aj [aZ 11 4 2,a7 12 11,ak 13 (.bI (.t 12)),aC 14 (kI 0)]
 (.block 0 rq))
 (aj [aC 4 (.c (.p (.bool true)))]
 .ret)))),true⟩
def mD:cH:=⟨23,[.tmp 3],
 (aj [ak 2 (.box 5 true (.t 0) true),aC 3 (.c (.p (.bool false)))]
 (aj [ak 5 (.AD ec [(.t 2)]),af 4 5]
 (.seq (aj [aZ 6 0 2,a7 7 6,aF 8 .eql (.t 7) (kI 1),af 9 8,⟨some 10,.load 1 false (.t 1),some (9,true)⟩,⟨some 11,.mv (.t 4) false,some (9,true)⟩,⟨some 12,.cZ bJ [(.t 10),(.t 11)],some (9,true)⟩,⟨some 13,.not (.t 12),some (9,true)⟩,ak 14 (.pick (.t 9) (.t 13) (.c (.p (.bool false))))]
 (aP 14 (.cm false [a7 15 1,aZ 16 3 2,a7 17 16,aZ 18 1 2,a7 19 18,ak 20 (.build [(.p (.str (bs []))),(.p (.int .i64 0))] [(0,1,(.t 17)),(1,1,(.t 19))]),ak 21 (.dE 2 [(.p (.str (bs []))),(.p (.int .i64 0))] 1 [(0,2,(.t 20))]),ak 22 (.append 2 24 (.t 15) (.t 21)),⟨none,.store 1 (.t 1) (.t 22),none⟩]) .skip))
 (aj [aC 3 (.c (.p (.bool true)))]
 .ret)))),true⟩
def o7:cH:=⟨9,[.tmp 3],
 (aj [ak 2 (.box 2 true (.t 0) true),aC 3 (.c (.p (.bool false)))]
 (aj [aZ 4 0 2,a7 5 4,aZ 6 3 1,a7 7 6,aF 8 .eql (.t 5) (.t 7),af 3 8]
 .ret)),false⟩
def bZ:cH:=⟨9,[.tmp 4],
 (aj [aC 4 (.c (.p (.bool false)))]
 (aj [af 5 0,af 6 1,bn 7 bD [(.t 5),(.t 6)],aF 8 .geq (.t 7) (kI 0),af 4 8]
 .ret)),false⟩
def Gm:cH:=⟨10,[.tmp 4],
 (aj [ak 2 (.box 2 true (.t 0) true),ak 3 (.box 2 true (.t 1) true),aC 4 (kI 0)]
 (aj [aZ 5 0 2,a7 6 5,aZ 7 0 3,a7 8 7,bn 9 fi [(.t 6),(.t 8)],af 4 9]
 .ret)),false⟩
def zx:cH:=⟨6,[.tmp 2],
 (aj [aC 2 (.c (.p (.bool false)))]
 (aj [af 3 0,af 4 0,aF 5 .neq (.t 3) (.t 4),af 2 5]
 .ret)),false⟩
def Ds:cH:=⟨6,[.tmp 2],
 (aj [aC 2 (.c (.p (.bool false)))]
 (aj [af 3 0,af 4 0,aF 5 .neq (.t 3) (.t 4),af 2 5]
 .ret)),false⟩
def wU:K :=
 (aj [aF 23 .lss (.t 22) (.t 21)]
 (.seq (aP 23 .skip (.exit 0))
 (.seq (.block 1 (aj [ak 24 (.au 5 (.t 20) (.t 22)),bQ 25 5 24,ak 8 (.init 5 true (.t 25) true)]
 (.cm true [af 26 6,aZ 27 1 8,a7 28 27,bQ 29 5 8,af 30 1,bn 31 l7 [(.t 29),(.t 30)],ak 32 (.build [(.p (.int .i64 0)),(.p (.int .u64 0))] [(0,1,(.t 28)),(1,1,(.t 31))]),ak 33 (.dE 2 [(.p (.int .i64 0)),(.p (.int .u64 0))] 1 [(0,2,(.t 32))]),ak 34 (.append 2 16 (.t 26) (.t 33)),ak 6 (.mv (.t 34) true)])))
 (.cm false [aF 35 .add (.t 22) (kI 1),af 22 35]))))
def Bw:K:=.loop [1,2,6,20,21,22] wU
def rf:cH:=⟨44,[.tmp 4],
 (aj [ak 2 (.box 5 true (.t 0) true),aC 4 (.c (.p (.int .u64 0)))]
 (.seq (aj [aZ 9 0 2,a7 10 9,aF 11 .eql (.t 10) (kI 1)]
 (aP 11 (.seq (.Gj [aZ 12 1 2,a7 13 12,af 14 1,bQ 15 5 2,ak 16 (.rE (.t 14) [(.t 15)]),bn 17 bP [(.t 13),(.t 16)],af 4 17] [(1,4)])
 .ret) .skip))
 (aj [ak 5 (.alloc [(.p (.int .i64 0)),(.p (.int .u64 0)),(.p (.int .i64 0)),(.p (.int .u64 0)),(.p (.int .i64 0)),(.p (.int .u64 0))] 6)]
 (aj [ak 18 (.ais 3 2 (.t 5) none (some (kI 0)) none),ak 6 (.mv (.t 18) true)]
 (.seq (aj [aZ 19 4 2,a7 20 19,ak 21 (.bI (.t 20)),aC 22 (kI 0)]
 (.block 0 Bw))
 (aj [aZ 36 0 2,a7 37 36,aZ 38 1 2,a7 39 38,aZ 40 2 2,a7 41 40,af 42 6,bn 43 eC [(.t 37),(.t 39),(.t 41),(.t 42)],af 4 43]
 .ret)))))),false⟩
def p7:cH:=⟨16,[.tmp 5],
 (aj [ak 4 (.box 5 true (.t 0) true),aC 5 (.c (.p (.int .u64 0)))]
 (.seq (.cm true [a7 6 1,ak 7 (.conv .u64 (.t 6)),a7 8 2,a7 9 3,aZ 10 3 4,a7 11 10,ak 12 (.lookup .str (.p (.int .i64 0)) (.t 9) (.t 11) false),ak 13 (.au 1 (.t 8) (.t 12)),a7 14 13,aF 15 .shr (.t 7) (.t 14),af 5 15])
 .ret)),false⟩
def dn:cH:=⟨8,[.tmp 4],
 (aj [aC 4 (kI 0)]
 (aj [af 5 0,af 6 1,bn 7 dU [(.t 5),(.t 6)],af 4 7]
 .ret)),false⟩
def dC:cH:=⟨9,[.tmp 4],
 (aj [aC 4 (.c (.p (.bool false)))]
 (aj [af 5 0,af 6 1,bn 7 cK [(.t 5),(.t 6)],aF 8 .geq (.t 7) (kI 0),af 4 8]
 .ret)),false⟩
def uB:cH:=⟨6,[.tmp 2],
 (aj [aC 2 (kI 0)]
 (aj [af 3 0,ak 4 (.wE true [(.t 3),(kI 1)]),ak 5 (.wE false [(.t 4),(kI 64)]),af 2 5]
 .ret)),false⟩
def uJ:cH:=⟨6,[],
 (aj [ak 2 (.box 1 false (.t 0) true)]
 (.cm false [bQ 3 5 1,ak 4 (.AD gQ [(.t 2)]),bn 5 iO [(.t 3),(.t 4)]])),true⟩
def lP:K :=
 (aj [aF 11 .lss (.t 10) (.t 9)]
 (.seq (aP 11 .skip (.exit 0))
 (.seq (.block 1 (aj [ak 12 (.au 5 (.t 8) (.t 10)),bQ 13 5 12,ak 6 (.init 5 true (.t 13) true)]
 (aj [bQ 14 5 6,af 15 1,bn 16 iO [(.t 14),(.t 15)],ak 17 (.not (.t 16))]
 (aP 17 (aj [aC 4 (.c (.p (.bool false)))]
 .ret) .skip))))
 (.cm false [aF 18 .add (.t 10) (kI 1),af 10 18]))))
def pO:K:=.loop [1,2,8,9,10] lP
def iI:cH:=⟨22,[.tmp 4],
 (aj [ak 2 (.box 5 true (.t 0) true),aC 4 (.c (.p (.bool false)))]
 (.seq (aj [aZ 7 4 2,a7 8 7,ak 9 (.bI (.t 8)),aC 10 (kI 0)]
 (.block 0 pO))
 (aj [af 19 1,bQ 20 5 2,ak 21 (.rE (.t 19) [(.t 20)]),af 4 21]
 .ret))),true⟩
def qn:cH:=⟨8,[.tmp 3],
 (aj [ak 2 (.box 5 true (.t 0) true),aC 3 (.c (.p (.bool false)))]
 (.seq (.cm true [a7 4 1,bQ 5 5 2,bn 6 fX [(.t 5)],ak 7 (.rE (.t 4) [(.t 6)]),af 3 7])
 .ret)),true⟩
def nn:cH:=⟨9,[.tmp 2],
 (aj [aC 2 (.c (.p (.bool false)))]
 (aj [af 3 0,aF 4 .geq (.t 3) (kI 24),af 5 4,⟨some 6,.mv (.t 0) false,some (5,true)⟩,⟨some 7,.arith .leq (.t 6) (kI 26),some (5,true)⟩,ak 8 (.pick (.t 5) (.t 7) (.c (.p (.bool false)))),af 2 8]
 .ret)),false⟩
def uz:K :=
 (aj [aF 12 .lss (.t 11) (.t 10)]
 (.seq (aP 12 .skip (.exit 0))
 (.seq (.block 1 (aj [af 13 11,ak 14 (.au 5 (.t 9) (.t 11)),bQ 15 5 14,ak 5 (.alloc lA 5),af 4 13,⟨none,.store 5 (.t 5) (.t 15),none⟩]
 (.cm false [af 16 3,af 17 4,aZ 18 1 5,a7 19 18,ak 20 (.au 1 (.t 16) (.t 17)),⟨none,.store 1 (.t 20) (.t 19),none⟩])))
 (.cm false [aF 21 .add (.t 11) (kI 1),af 11 21]))))
def zD:K:=.loop [3,9,10,11] uz
def rT:cH:=⟨23,[.tmp 2],
 (aj [aC 2 (.c .aA)]
 (aj [af 6 0,ak 7 (.bI (.t 6)),ak 8 (.xh 1 8 [(.p (.int .i64 0))] (.t 7) (.t 7)),af 3 8]
 (.seq (aj [af 9 0,ak 10 (.bI (.t 9)),aC 11 (kI 0)]
 (.block 0 zD))
 (aj [af 22 3,af 2 22]
 .ret)))),false⟩
def cP:K :=
 (aj [aF 9 .lss (.t 8) (.t 7)]
 (.seq (aP 9 .skip (.exit 0))
 (.seq (.block 1 (aj [af 10 8,af 5 10]
 (aj [af 11 1,af 12 0,af 13 5,ak 14 (.au 2 (.t 12) (.t 13)),bQ 15 2 14,ak 16 (.rE (.t 11) [(.t 15)])]
 (aP 16 (aj [af 17 5,af 4 17]
 .ret) .skip))))
 (.cm false [aF 18 .add (.t 8) (kI 1),af 8 18]))))
def dQ:K:=.loop [0,1,7,8] cP
def cu:cH:=⟨19,[.tmp 4],
 (aj [aC 4 (kI 0)]
 (.seq (aj [af 6 0,ak 7 (.bI (.t 6)),aC 8 (kI 0)]
 (.block 0 dQ))
 (aj [aC 4 (kI (-1))]
 .ret))),false⟩
def dj:cH:=⟨105,[.tmp 8],
 (aj [aC 8 (.c (.p (.int .u64 0)))]
 (.seq (aj [af 9 0]
 (.block 0 (aj [aF 11 .eql (.t 9) (kI 2),af 10 11]
 (aP 10 (aj [af 12 2,af 8 12]
 .ret) (aj [aF 14 .eql (.t 9) (kI 3),af 13 14]
 (aP 13 (aj [af 15 1,af 16 3,ak 17 (.au 2 (.t 16) (kI 0)),aZ 18 1 17,a7 19 18,bn 20 sP [(.t 15),(.t 19)],af 8 20]
 .ret) (aj [aF 22 .eql (.t 9) (kI 4),af 21 22]
 (aP 21 (aj [af 23 1,af 24 3,ak 25 (.au 2 (.t 24) (kI 0)),aZ 26 1 25,a7 27 26,bn 28 sN [(.t 23),(.t 27)],af 8 28]
 .ret) (aj [aF 30 .eql (.t 9) (kI 19),af 29 30]
 (aP 29 (.seq (aj [af 31 3,ak 32 (.au 2 (.t 31) (kI 0)),aZ 33 1 32,a7 34 33,aF 35 .eql (.t 34) (.c (.p (.int .u64 1)))]
 (aP 35 (aj [af 36 3,ak 37 (.au 2 (.t 36) (kI 1)),aZ 38 1 37,a7 39 38,af 8 39]
 .ret) .skip))
 (aj [af 40 3,ak 41 (.au 2 (.t 40) (kI 2)),aZ 42 1 41,a7 43 42,af 8 43]
 .ret)) (aj [aF 45 .eql (.t 9) (kI 20),af 44 45]
 (aP 44 (.seq (.cm true [af 46 3,ak 47 (.au 2 (.t 46) (kI 0)),aZ 48 0 47,a7 49 48,af 50 3,ak 51 (.au 2 (.t 50) (kI 1)),aZ 52 0 51,a7 53 52,af 54 3,ak 55 (.au 2 (.t 54) (kI 0)),aZ 56 1 55,a7 57 56,af 58 3,ak 59 (.au 2 (.t 58) (kI 1)),aZ 60 1 59,a7 61 60,bn 62 mH [(.t 49),(.t 53),(.t 57),(.t 61)],af 8 62])
 .ret) (aj [aF 64 .eql (.t 9) (kI 21),af 63 64]
 (aP 63 (aj [af 65 2,ak 66 (.conv .i64 (.t 65)),af 67 1,af 68 3,ak 69 (.au 2 (.t 68) (kI 0)),aZ 70 1 69,a7 71 70,bn 72 kW [(.t 66),(.t 67),(.t 71)],af 8 72]
 .ret) (aj [aF 74 .eql (.t 9) (kI 22),af 73 74]
 (aP 73 (aj [af 75 3,ak 76 (.au 2 (.t 75) (kI 0)),aZ 77 1 76,a7 78 77,af 8 78]
 .ret) (aj [aF 80 .eql (.t 9) (kI 23),af 79 80]
 (aP 79 (.seq (.cm true [af 81 3,ak 82 (.au 2 (.t 81) (kI 0)),aZ 83 0 82,a7 84 83,af 85 1,af 86 3,ak 87 (.au 2 (.t 86) (kI 0)),aZ 88 1 87,a7 89 88,bn 90 qx [(.t 84),(.t 85),(.t 89)],af 8 90])
 .ret) .skip))))))))))))))))))
 (.seq (.cm true [af 91 0,af 92 3,ak 93 (.au 2 (.t 92) (kI 0)),aZ 94 0 93,a7 95 94,af 96 3,ak 97 (.au 2 (.t 96) (kI 0)),aZ 98 1 97,a7 99 98,af 100 3,ak 101 (.au 2 (.t 100) (kI 1)),aZ 102 1 101,a7 103 102,bn 104 mI [(.t 91),(.t 95),(.t 99),(.t 103)],af 8 104])
 .ret))),false⟩
def fc:K :=
 (aj [aF 9 .lss (.t 8) (.t 7)]
 (.seq (aP 9 .skip (.exit 0))
 (.seq (.block 1 (aj [af 10 8,af 5 10]
 (aj [af 11 1,af 12 0,af 13 5,ak 14 (.au 1 (.t 12) (.t 13)),a7 15 14,aF 16 .eql (.t 11) (.t 15)]
 (aP 16 (aj [af 17 5,af 4 17]
 .ret) .skip))))
 (.cm false [aF 18 .add (.t 8) (kI 1),af 8 18]))))
def ff:K:=.loop [0,1,7,8] fc
def dh:cH:=⟨19,[.tmp 4],
 (aj [aC 4 (kI 0)]
 (.seq (aj [af 6 0,ak 7 (.bI (.t 6)),aC 8 (kI 0)]
 (.block 0 ff))
 (aj [aC 4 (kI (-1))]
 .ret))),false⟩
def zq:cH:=⟨9,[.tmp 4],
 (aj [aC 4 (.c (.p (.int .u64 0)))]
 (aj [af 5 0,af 6 1,ak 7 (.Li (.t 6)),bn 8 bP [(.t 5),(.t 7)],af 4 8]
 .ret)),false⟩
def zp:cH:=⟨9,[.tmp 4],
 (aj [aC 4 (.c (.p (.int .u64 0)))]
 (aj [af 5 0,af 6 1,ak 7 (.neg (.t 6)),bn 8 bP [(.t 5),(.t 7)],af 4 8]
 .ret)),false⟩
def rO:cH:=⟨19,[.tmp 8],
 (aj [aC 8 (.c (.p (.int .u64 0)))]
 (.seq (.cm true [af 9 0,af 10 2,bn 11 bP [(.t 9),(.t 10)],af 12 1,bn 13 gE [(.t 12)],aF 14 .shl (.t 11) (.t 13),af 15 1,af 16 3,bn 17 bP [(.t 15),(.t 16)],aF 18 .or (.t 14) (.t 17),af 8 18])
 .ret)),false⟩
def ni:cH:=⟨14,[.tmp 6],
 (aj [aC 6 (.c (.p (.int .u64 0)))]
 (.seq (aj [af 7 0,aF 8 .lss (.t 7) (kI 0)]
 (aP 8 (aj [aC 6 (.c (.p (.int .u64 0)))]
 .ret) .skip))
 (aj [af 9 1,af 10 2,af 11 0,aF 12 .shr (.t 10) (.t 11),bn 13 bP [(.t 9),(.t 12)],af 6 13]
 .ret))),false⟩
def xw:cH:=⟨13,[.tmp 6],
 (aj [aC 6 (.c (.p (.int .u64 0)))]
 (aj [af 7 1,af 8 0,af 9 2,bn 10 fq [(.t 8),(.t 9)],ak 11 (.conv .u64 (.t 10)),bn 12 bP [(.t 7),(.t 11)],af 6 12]
 .ret)),false⟩
def cz:cH:=⟨95,[.tmp 8],
 (aj [aC 8 (.c (.p (.int .u64 0)))]
 (.seq (aj [af 9 0]
 (.block 0 (aj [aF 11 .eql (.t 9) (kI 5),af 10 11]
 (aP 10 (aj [af 12 1,af 13 2,af 14 3,bn 15 sL [(.t 12),(.t 13),(.t 14)],af 8 15]
 .ret) (aj [aF 17 .eql (.t 9) (kI 6),af 16 17]
 (aP 16 (aj [af 18 1,af 19 2,af 20 3,bn 21 wq [(.t 18),(.t 19),(.t 20)],af 8 21]
 .ret) (aj [aF 23 .eql (.t 9) (kI 7),af 22 23]
 (aP 22 (aj [af 24 1,af 25 2,af 26 3,bn 27 s9 [(.t 24),(.t 25),(.t 26)],af 8 27]
 .ret) (aj [aF 29 .eql (.t 9) (kI 8),af 28 29]
 (aP 28 (aj [af 30 1,af 31 2,af 32 3,bn 33 sH [(.t 30),(.t 31),(.t 32)],af 8 33]
 .ret) (aj [aF 35 .eql (.t 9) (kI 9),af 34 35]
 (aP 34 (aj [af 36 1,af 37 2,af 38 3,bn 39 s6 [(.t 36),(.t 37),(.t 38)],af 8 39]
 .ret) (aj [aF 41 .eql (.t 9) (kI 10),af 40 41]
 (aP 40 (aj [af 42 1,af 43 2,af 44 3,bn 45 sM [(.t 42),(.t 43),(.t 44)],af 8 45]
 .ret) (aj [aF 47 .eql (.t 9) (kI 11),af 46 47]
 (aP 46 (aj [af 48 1,af 49 2,af 50 3,bn 51 qy [(.t 48),(.t 49),(.t 50)],af 8 51]
 .ret) (aj [aF 53 .eql (.t 9) (kI 12),af 52 53]
 (aP 52 (aj [af 54 1,af 55 2,af 56 3,bn 57 qz [(.t 54),(.t 55),(.t 56)],af 8 57]
 .ret) (aj [aF 59 .eql (.t 9) (kI 13),af 58 59]
 (aP 58 (aj [af 60 1,af 61 2,af 62 3,bn 63 sU [(.t 60),(.t 61),(.t 62)],af 8 63]
 .ret) (aj [aF 65 .eql (.t 9) (kI 14),af 64 65]
 (aP 64 (aj [af 66 1,af 67 2,af 68 3,bn 69 qw [(.t 66),(.t 67),(.t 68)],af 8 69]
 .ret) (aj [aF 71 .eql (.t 9) (kI 15),af 70 71]
 (aP 70 (aj [af 72 1,af 73 2,af 74 3,bn 75 qv [(.t 72),(.t 73),(.t 74)],af 8 75]
 .ret) (aj [aF 77 .eql (.t 9) (kI 16),af 76 77]
 (aP 76 (.seq (aj [af 78 1,af 79 2,bn 80 nX [(.t 78),(.t 79)],af 81 1,af 82 3,bn 83 nX [(.t 81),(.t 82)],ak 84 (.eqA false [.int,.int] (.t 80) (.t 83))]
 (aP 84 (aj [aC 8 (.c (.p (.int .u64 1)))]
 .ret) .skip))
 (aj [aC 8 (.c (.p (.int .u64 0)))]
 .ret)) (aj [aF 86 .eql (.t 9) (kI 17),af 85 86]
 (aP 85 (aj [af 87 1,af 88 2,af 89 3,bn 90 s7 [(.t 87),(.t 88),(.t 89)],af 8 90]
 .ret) .skip))))))))))))))))))))))))))))
 (aj [af 91 1,af 92 2,af 93 3,bn 94 sZ [(.t 91),(.t 92),(.t 93)],af 8 94]
 .ret))),false⟩
def rP:cH:=⟨15,[.tmp 4],
 (aj [aC 4 (kI 0)]
 (aj [af 6 0,bn 7 gE [(.t 6)],aF 8 .sub (kI 64) (.t 7),af 5 8]
 (aj [af 9 1,af 10 5,aF 11 .shl (.t 9) (.t 10),ak 12 (.conv .i64 (.t 11)),af 13 5,aF 14 .shr (.t 12) (.t 13),af 4 14]
 .ret))),false⟩
def zm:cH:=⟨12,[.tmp 6],
 (aj [aC 6 (.c (.p (.int .u64 0)))]
 (aj [af 7 0,af 8 1,af 9 2,aF 10 .and (.t 8) (.t 9),bn 11 bP [(.t 7),(.t 10)],af 6 11]
 .ret)),false⟩
def BU:cH:=⟨12,[.tmp 6],
 (aj [aC 6 (.c (.p (.int .u64 0)))]
 (aj [af 7 0,af 8 1,af 9 2,aF 10 .or (.t 8) (.t 9),bn 11 bP [(.t 7),(.t 10)],af 6 11]
 .ret)),false⟩
def zw:cH:=⟨12,[.tmp 6],
 (aj [aC 6 (.c (.p (.int .u64 0)))]
 (aj [af 7 0,af 8 1,af 9 2,aF 10 .xor (.t 8) (.t 9),bn 11 bP [(.t 7),(.t 10)],af 6 11]
 .ret)),false⟩
def zl:cH:=⟨12,[.tmp 6],
 (aj [aC 6 (.c (.p (.int .u64 0)))]
 (aj [af 7 0,af 8 1,af 9 2,aF 10 .add (.t 8) (.t 9),bn 11 bP [(.t 7),(.t 10)],af 6 11]
 .ret)),false⟩
def zt:cH:=⟨12,[.tmp 6],
 (aj [aC 6 (.c (.p (.int .u64 0)))]
 (aj [af 7 0,af 8 1,af 9 2,aF 10 .sub (.t 8) (.t 9),bn 11 bP [(.t 7),(.t 10)],af 6 11]
 .ret)),false⟩
def zo:cH:=⟨12,[.tmp 6],
 (aj [aC 6 (.c (.p (.int .u64 0)))]
 (aj [af 7 0,af 8 1,af 9 2,aF 10 .mul (.t 8) (.t 9),bn 11 bP [(.t 7),(.t 10)],af 6 11]
 .ret)),false⟩
def tq:cH:=⟨22,[.tmp 6],
 (aj [aC 6 (.c (.p (.int .u64 0)))]
 (aj [af 9 0,af 10 1,bn 11 bP [(.t 9),(.t 10)],af 12 0,af 13 2,bn 14 bP [(.t 12),(.t 13)],af 7 11,af 8 14]
 (.seq (aj [af 15 8,aF 16 .eql (.t 15) (.c (.p (.int .u64 0)))]
 (aP 16 (aj [af 17 0,bn 18 kq [(.t 17)],af 6 18]
 .ret) .skip))
 (aj [af 19 7,af 20 8,aF 21 .quo (.t 19) (.t 20),af 6 21]
 .ret)))),false⟩
def tr:cH:=⟨21,[.tmp 6],
 (aj [aC 6 (.c (.p (.int .u64 0)))]
 (aj [af 9 0,af 10 1,bn 11 bP [(.t 9),(.t 10)],af 12 0,af 13 2,bn 14 bP [(.t 12),(.t 13)],af 7 11,af 8 14]
 (.seq (aj [af 15 8,aF 16 .eql (.t 15) (.c (.p (.int .u64 0)))]
 (aP 16 (aj [af 17 7,af 6 17]
 .ret) .skip))
 (aj [af 18 7,af 19 8,aF 20 .rem (.t 18) (.t 19),af 6 20]
 .ret)))),false⟩
def zr:cH:=⟨11,[.tmp 6],
 (aj [aC 6 (.c (.p (.int .u64 0)))]
 (aj [af 7 0,af 8 1,af 9 2,bn 10 gF [(kI 0),(.t 7),(.t 8),(.t 9)],af 6 10]
 .ret)),false⟩
def xt:cH:=⟨11,[.tmp 6],
 (aj [aC 6 (.c (.p (.int .u64 0)))]
 (aj [af 7 0,af 8 1,af 9 2,bn 10 gF [(kI 1),(.t 7),(.t 8),(.t 9)],af 6 10]
 .ret)),false⟩
def xr:cH:=⟨11,[.tmp 6],
 (aj [aC 6 (.c (.p (.int .u64 0)))]
 (aj [af 7 0,af 8 1,af 9 2,bn 10 gF [(kI 2),(.t 7),(.t 8),(.t 9)],af 6 10]
 .ret)),false⟩
def xA:cH:=⟨10,[.cell 4 2 true],
 (aj [ak 4 (.alloc [(.p (.int .i64 0)),(.p (.int .u64 0))] 2)]
 (aj [af 5 0,af 6 0,af 7 1,bn 8 bP [(.t 6),(.t 7)],ak 9 (.build [(.p (.int .i64 0)),(.p (.int .u64 0))] [(0,1,(.t 5)),(1,1,(.t 8))]),⟨none,.store 2 (.t 4) (.t 9),none⟩]
 .ret)),false⟩
def zu:cH:=⟨15,[.tmp 6],
 (aj [aC 6 (.c (.p (.int .u64 0)))]
 (aj [af 7 0,af 8 1,bn 9 bP [(.t 7),(.t 8)],af 10 0,af 11 2,bn 12 bP [(.t 10),(.t 11)],aF 13 .lss (.t 9) (.t 12),bn 14 nW [(.t 13)],af 6 14]
 .ret)),false⟩
def zs:cH:=⟨15,[.tmp 6],
 (aj [aC 6 (.c (.p (.int .u64 0)))]
 (aj [af 7 0,af 8 1,bn 9 fq [(.t 7),(.t 8)],af 10 0,af 11 2,bn 12 fq [(.t 10),(.t 11)],aF 13 .lss (.t 9) (.t 12),bn 14 nW [(.t 13)],af 6 14]
 .ret)),false⟩
def fG:cH:=⟨53,[.tmp 8],
 (aj [aC 8 (.c (.p (.int .u64 0)))]
 (aj [af 12 1,af 13 2,bn 14 bP [(.t 12),(.t 13)],af 15 1,af 16 3,bn 17 bP [(.t 15),(.t 16)],af 9 14,af 10 17]
 (aj [af 18 10,af 19 1,bn 20 gE [(.t 19)],ak 21 (.conv .u64 (.t 20)),aF 22 .geq (.t 18) (.t 21),af 11 22]
 (.seq (aj [af 23 0]
 (.block 0 (.seq (.block 2 (.seq (.block 1 (.seq (.seq (aj [aF 25 .eql (.t 23) (kI 2),af 24 25]
 (aP 24 (.exit 1) .skip))
 (aj [aF 27 .eql (.t 23) (kI 1),af 26 27]
 (aP 26 (.exit 2) .skip)))
 (.exit 0)))
 (aj [af 28 1,af 29 9,bn 30 fq [(.t 28),(.t 29)],aF 31 .lss (.t 30) (kI 0)]
 (aP 31 (.seq (aj [af 32 11]
 (aP 32 (aj [af 33 1,bn 34 kq [(.t 33)],af 8 34]
 .ret) .skip))
 (aj [af 35 1,af 36 1,af 37 9,bn 38 fq [(.t 36),(.t 37)],af 39 10,aF 40 .shr (.t 38) (.t 39),ak 41 (.conv .u64 (.t 40)),bn 42 bP [(.t 35),(.t 41)],af 8 42]
 .ret)) .skip))))
 (.seq (.seq (aj [af 43 11]
 (aP 43 (aj [aC 8 (.c (.p (.int .u64 0)))]
 .ret) .skip))
 (aj [af 44 9,af 45 10,aF 46 .shr (.t 44) (.t 45),af 8 46]
 .ret))
 (.exit 0)))))
 (.seq (aj [af 47 11]
 (aP 47 (aj [aC 8 (.c (.p (.int .u64 0)))]
 .ret) .skip))
 (aj [af 48 1,af 49 9,af 50 10,aF 51 .shl (.t 49) (.t 50),bn 52 bP [(.t 48),(.t 51)],af 8 52]
 .ret)))))),false⟩
def xy:cH:=⟨4,[.tmp 2],
 (aj [aC 2 (.c (.p (.int .u64 0)))]
 (.seq (aj [af 3 0]
 (aP 3 (aj [aC 2 (.c (.p (.int .u64 1)))]
 .ret) .skip))
 (aj [aC 2 (.c (.p (.int .u64 0)))]
 .ret))),false⟩
def tbl:List (FuncId×cH):=[
 (iK,iG),
 (fk,et),
 (fU,dV),
 (mb,nU),
 (eH,rQ),
 (ja,rh),
 (ma,jh),
 (wu,pt),
 (qK,mB),
 (fB,qm),
 (il,oZ),
 (k6,qg),
 (iZ,mz),
 (gI,oy),
 (oN,oB),
 (fW,eP),
 (nZ,xF),
 (mO,km),
 (oL,lU),
 (mc,uG),
 (n9,xG),
 (jn,fo),
 (mN,iV),
 (u7,qh),
 (qE,tu),
 (iX,uE),
 (gJ,nu),
 (iq,xI),
 (kC,ko),
 (fA,ji),
 (gK,qi),
 (oO,ri),
 (gL,qj),
 (oP,oC),
 (gM,qk),
 (eJ,eG),
 (gN,nw),
 (me,lV),
 (gO,nx),
 (gP,ql),
 (mP,pw),
 (oI,mA),
 (tg,kU),
 (kA,kj),
 (fh,tx),
 (qJ,bC),
 (iY,lS),
 (tc,p8),
 (iN,iH),
 (aN,bh),
 (jJ,o6),
 (fg,lT),
 (bT,gY),
 (oc,xH),
 (gG,uC),
 (lI,BX),
 (di,lF),
 (oM,zB),
 (tf,oA),
 (ic,fH),
 (mM,vW),
 (jo,lX),
 (eK,oW),
 (j8,uH),
 (fw,qc),
 (eR,kL),
 (kB,px),
 (fX,xJ),
 (qM,tC),
 (nY,nT),
 (k7,dK),
 (od,xK),
 (mg,uK),
 (ik,lE),
 (dv,kS),
 (dw,kT),
 (aT,cA),
 (mJ,bU),
 (qL,tz),
 (jI,oY),
 (qG,xE),
 (qF,sD),
 (fL,oX),
 (te,cI),
 (qI,tv),
 (dY,qe),
 (tJ,y7),
 (th,mC),
 (l8,j5),
 (aS,bp),
 (kr,xB),
 (dZ,qf),
 (kX,jf),
 (dp,lQ),
 (fT,nj),
 (eu,iz),
 (oJ,oz),
 (aM,aL),
 (er,jT),
 (kZ,bw),
 (cg,jg),
 (jH,hZ),
 (bW,cS),
 (oG,lR),
 (jm,kR),
 (qH,vV),
 (ku,qd),
 (qC,eo),
 (oK,uF),
 (bP,zn),
 (gH,dJ),
 (fV,nr),
 (mf,oD),
 (oe,xL),
 (cT,BV),
 (CX,HQ),
 (qA,xz),
 (u6,AL),
 (l6,iU),
 (ck,ew),
 (bV,eS),
 (aW,aV),
 (cF,iA),
 (fi,lW),
 (fu,nk),
 (mL,rS),
 (oH,uD),
 (qB,zy),
 (xS,BW),
 (l9,xD),
 (td,zA),
 (qD,xC),
 (kq,xu),
 (kY,p9),
 (ig,oV),
 (mK,rR),
 (iM,np),
 (eI,oU),
 (jq,jj),
 (ti,zC),
 (qN,ia),
 (jK,fI),
 (gu,mD),
 (ec,o7),
 (bJ,bZ),
 (dR,Gm),
 (oF,zx),
 (sr,Ds),
 (l7,rf),
 (ft,p7),
 (b8,dn),
 (cj,dC),
 (gE,uB),
 (j9,uJ),
 (iO,iI),
 (gQ,qn),
 (iL,nn),
 (mQ,rT),
 (bD,cu),
 (eC,dj),
 (cK,dh),
 (sP,zq),
 (sN,zp),
 (mH,rO),
 (kW,ni),
 (qx,xw),
 (mI,cz),
 (fq,rP),
 (sL,zm),
 (wq,BU),
 (s9,zw),
 (sH,zl),
 (s6,zt),
 (sM,zo),
 (qy,tq),
 (qz,tr),
 (sU,zr),
 (qw,xt),
 (qv,xr),
 (nX,xA),
 (s7,zu),
 (sZ,zs),
 (gF,fG),
 (nW,xy)]
def P:Prog:={ fn:=fun f=>tbl.lookup f,VH:=fun f=>if f=dq then some (ze)else if f=bf then some (zf dR cT)else if f=cD then some (xU 2 okV)else if f=bS then some (FW 2 24)else if f=dU then some (Ff xV)else none }
theorem Hu:P.fn iK=some iG:=rfl
theorem D3:P.fn fk=some et:=rfl
theorem ER:P.fn fU=some dV:=rfl
theorem LZ:P.fn mb=some nU:=rfl
theorem GL:P.fn eH=some rQ:=rfl
theorem Jd:P.fn ja=some rh:=rfl
theorem LX:P.fn ma=some jh:=rfl
theorem TV:P.fn wu=some pt:=rfl
theorem Qh:P.fn qK=some mB:=rfl
theorem Fa:P.fn fB=some qm:=rfl
theorem DG:P.fn il=some oZ:=rfl
theorem E0:P.fn k6=some qg:=rfl
theorem GO:P.fn iZ=some mz:=rfl
theorem Qb:P.fn gI=some oy:=rfl
theorem Jf:P.fn oN=some oB:=rfl
theorem Cr:P.fn fW=some eP:=rfl
theorem L2:P.fn nZ=some xF:=rfl
theorem GQ:P.fn mO=some km:=rfl
theorem Jc:P.fn oL=some lU:=rfl
theorem Je:P.fn mc=some uG:=rfl
theorem L7:P.fn n9=some xG:=rfl
theorem Fb:P.fn jn=some fo:=rfl
theorem GP:P.fn mN=some iV:=rfl
theorem E1:P.fn u7=some qh:=rfl
theorem LR:P.fn qE=some tu:=rfl
theorem I7:P.fn iX=some uE:=rfl
theorem E2:P.fn gJ=some nu:=rfl
theorem L9:P.fn iq=some xI:=rfl
theorem Mb:P.fn kC=some ko:=rfl
theorem E3:P.fn fA=some ji:=rfl
theorem E4:P.fn gK=some qi:=rfl
theorem Jg:P.fn oO=some ri:=rfl
theorem E5:P.fn gL=some qj:=rfl
theorem Ji:P.fn oP=some oC:=rfl
theorem E6:P.fn gM=some qk:=rfl
theorem DA:P.fn eJ=some eG:=rfl
theorem E7:P.fn gN=some nw:=rfl
theorem Jh:P.fn me=some lV:=rfl
theorem E8:P.fn gO=some nx:=rfl
theorem E9:P.fn gP=some ql:=rfl
theorem GR:P.fn mP=some pw:=rfl
theorem Qd:P.fn oI=some mA:=rfl
theorem Qk:P.fn tg=some kU:=rfl
theorem LV:P.fn kA=some kj:=rfl
theorem L4:P.fn fh=some tx:=rfl
theorem LY:P.fn qJ=some bC:=rfl
theorem I8:P.fn iY=some lS:=rfl
theorem P8:P.fn tc=some p8:=rfl
theorem Cq:P.fn iN=some iH:=rfl
theorem iS:P.fn aN=some bh:=rfl
theorem DH:P.fn jJ=some o6:=rfl
theorem Bg:P.fn fg=some lT:=rfl
theorem yx:P.fn bT=some gY:=rfl
theorem L8:P.fn oc=some xH:=rfl
theorem I4:P.fn gG=some uC:=rfl
theorem TU:P.fn lI=some BX:=rfl
theorem DE:P.fn di=some lF:=rfl
theorem Ql:P.fn oM=some zB:=rfl
theorem Qj:P.fn tf=some oA:=rfl
theorem Dx:P.fn ic=some fH:=rfl
theorem Qf:P.fn mM=some vW:=rfl
theorem Mc:P.fn jo=some lX:=rfl
theorem DB:P.fn eK=some oW:=rfl
theorem Jj:P.fn j8=some uH:=rfl
theorem EV:P.fn fw=some qc:=rfl
theorem Cs:P.fn eR=some kL:=rfl
theorem GS:P.fn kB=some px:=rfl
theorem Ma:P.fn fX=some xJ:=rfl
theorem L6:P.fn qM=some tC:=rfl
theorem LS:P.fn nY=some nT:=rfl
theorem Qn:P.fn k7=some dK:=rfl
theorem Md:P.fn od=some xK:=rfl
theorem Jl:P.fn mg=some uK:=rfl
theorem DC:P.fn ik=some lE:=rfl
theorem Ag:P.fn dv=some kS:=rfl
theorem Ah:P.fn dw=some kT:=rfl
theorem lx:P.fn aT=some cA:=rfl
theorem GK:P.fn mJ=some bU:=rfl
theorem L5:P.fn qL=some tz:=rfl
theorem DF:P.fn jI=some oY:=rfl
theorem LU:P.fn qG=some xE:=rfl
theorem Qc:P.fn qF=some sD:=rfl
theorem DD:P.fn fL=some oX:=rfl
theorem Qg:P.fn te=some cI:=rfl
theorem LW:P.fn qI=some tv:=rfl
theorem EY:P.fn dY=some qe:=rfl
theorem TT:P.fn tJ=some y7:=rfl
theorem Qm:P.fn th=some mC:=rfl
theorem I9:P.fn l8=some j5:=rfl
theorem jV:P.fn aS=some bp:=rfl
theorem LM:P.fn kr=some xB:=rfl
theorem EZ:P.fn dZ=some qf:=rfl
theorem EO:P.fn kX=some jf:=rfl
theorem Be:P.fn dp=some lQ:=rfl
theorem Cm:P.fn fT=some nj:=rfl
theorem vP:P.fn eu=some iz:=rfl
theorem Ja:P.fn oJ=some oz:=rfl
theorem ed:P.fn aM=some aL:=rfl
theorem yz:P.fn er=some jT:=rfl
theorem EW:P.fn kZ=some bw:=rfl
theorem EX:P.fn cg=some jg:=rfl
theorem Nj:P.fn jH=some hZ:=rfl
theorem nH:P.fn bW=some cS:=rfl
theorem I5:P.fn oG=some lR:=rfl
theorem EP:P.fn jm=some kR:=rfl
theorem Qe:P.fn qH=some vV:=rfl
theorem LN:P.fn ku=some qd:=rfl
theorem LO:P.fn qC=some eo:=rfl
theorem Jb:P.fn oK=some uF:=rfl
theorem PZ:P.fn bP=some zn:=rfl
theorem ET:P.fn gH=some dJ:=rfl
theorem Cp:P.fn fV=some nr:=rfl
theorem Jk:P.fn mf=some oD:=rfl
theorem Me:P.fn oe=some xL:=rfl
theorem I1:P.fn l6=some iU:=rfl
theorem Cl:P.fn ck=some ew:=rfl
theorem rH:P.fn bV=some eS:=rfl
theorem eV:P.fn aW=some aV:=rfl
theorem vQ:P.fn cF=some iA:=rfl
theorem Bh:P.fn fi=some lW:=rfl
theorem ES:P.fn fu=some nk:=rfl
theorem GN:P.fn mL=some rS:=rfl
theorem I6:P.fn oH=some uD:=rfl
theorem P9:P.fn qB=some zy:=rfl
theorem YR:P.fn xS=some BW:=rfl
theorem LQ:P.fn l9=some xD:=rfl
theorem Qa:P.fn td=some zA:=rfl
theorem LP:P.fn qD=some xC:=rfl
theorem LG:P.fn kq=some xu:=rfl
theorem EU:P.fn kY=some p9:=rfl
theorem Dz:P.fn ig=some oV:=rfl
theorem GM:P.fn mK=some rR:=rfl
theorem Co:P.fn iM=some np:=rfl
theorem Dy:P.fn eI=some oU:=rfl
theorem Fc:P.fn jq=some jj:=rfl
theorem Qo:P.fn ti=some zC:=rfl
theorem Mf:P.fn qN=some ia:=rfl
theorem Nk:P.fn jK=some fI:=rfl
theorem Sn:P.fn gu=some mD:=rfl
theorem DI:P.fn ec=some o7:=rfl
theorem jy:P.fn bJ=some bZ:=rfl
theorem I3:P.fn l7=some rf:=rfl
theorem EM:P.fn ft=some p7:=rfl
theorem mh:P.fn b8=some dn:=rfl
theorem mU:P.fn cj=some dC:=rfl
theorem IZ:P.fn gE=some uB:=rfl
theorem VF:P.fn j9=some uJ:=rfl
theorem KM:P.fn iO=some iI:=rfl
theorem Qq:P.fn gQ=some qn:=rfl
theorem Cn:P.fn iL=some nn:=rfl
theorem GU:P.fn mQ=some rT:=rfl
theorem lf:P.fn bD=some cu:=rfl
theorem EN:P.fn eC=some dj:=rfl
theorem pg:P.fn cK=some dh:=rfl
theorem P2:P.fn sP=some zq:=rfl
theorem P1:P.fn sN=some zp:=rfl
theorem GH:P.fn mH=some rO:=rfl
theorem EL:P.fn kW=some ni:=rfl
theorem LH:P.fn qx=some xw:=rfl
theorem GJ:P.fn mI=some cz:=rfl
theorem GI:P.fn fq=some rP:=rfl
theorem PY:P.fn sL=some zm:=rfl
theorem TS:P.fn wq=some BU:=rfl
theorem P7:P.fn s9=some zw:=rfl
theorem PX:P.fn sH=some zl:=rfl
theorem P5:P.fn s6=some zt:=rfl
theorem P0:P.fn sM=some zo:=rfl
theorem LI:P.fn qy=some tq:=rfl
theorem LJ:P.fn qz=some tr:=rfl
theorem P3:P.fn sU=some zr:=rfl
theorem LF:P.fn qw=some xt:=rfl
theorem LD:P.fn qv=some xr:=rfl
theorem LL:P.fn nX=some xA:=rfl
theorem P6:P.fn s7=some zu:=rfl
theorem P4:P.fn sZ=some zs:=rfl
theorem I0:P.fn gF=some fG:=rfl
theorem LK:P.fn nW=some xy:=rfl
theorem IC:Kp P CI [1,3,4]:=ax
theorem IH:Kp P yN [3,5]:=ax
theorem GA:Kp P wY [14,15,16]:=ax
theorem IB:Kp P rm [1,4,5,6]:=ax
theorem C8:Kp P CL [1,2,4,6,28,29,30]:=ax
theorem PE:Kp P CO [1,4,6,69,70,71]:=ax
theorem Lx:Kp P tD [2,3,5]:=ax
theorem KB:Kp P v8 [1,3,4,5,11,12,13]:=ax
theorem KD:Kp P we [1,3,4,5,33,34,35]:=ax
theorem Nb:Kp P x9 [1,3,4,5,6]:=ax
theorem Nd:Kp P yc [1,3,4,5,7]:=ax
theorem Ey:Kp P uQ [0,1,5]:=ax
theorem pQ:Kp P fe [2,8,9]:=ax
theorem Vo:Kp P CJ [1,4,5]:=ax
theorem Nc:Kp P sg [1,3,4]:=ax
theorem Nf:Kp P yd [1,3,5]:=ax
theorem IG:Kp P yM [0,24,25]:=ax
theorem GB:Kp P wZ [6,7,8]:=ax
theorem BG:Kp P w6 [3,8,9,10]:=ax
theorem GC:Kp P w5 [1,2,30,31,32]:=ax
theorem Ez:Kp P uR [3,4,13,14,15]:=ax
theorem Lt:Kp P AN [0,3]:=ax
theorem A6:Kp P tE [1,3]:=ax
theorem yQ:Kp P yI [1,2,5,6]:=ax
theorem ID:Kp P yJ [1,2,7,8]:=ax
theorem A5:Kp P pN [0,1,5]:=ax
theorem KC:Kp P rp [1,3,9,10,11]:=ax
theorem KE:Kp P wg [3,27,28,29]:=ax
theorem Ev:Kp P qo [2,3,34,35,36]:=ax
theorem Kz:Kp P vZ [1,2,3,4]:=ax
theorem wB:Kp P ru [6,7,8,12,13,14,15,52,53,54]:=ax
theorem Ly:Kp P D9 [0,1,5,6,7,8]:=ax
theorem Lv:Kp P D8 [0,1,5,6]:=ax
theorem Sg:Kp P By [3,6,7,8]:=ax
theorem EA:Kp P uV [1,7,8,9]:=ax
theorem Vp:Kp P CM [2,3,9,10,11]:=ax
theorem IF:Kp P yL [3,4]:=ax
theorem Iz:Kp P yH [1,2,3,7]:=ax
theorem Du:Kp P si [0,42,43,44]:=ax
theorem Vq:Kp P CN [3,7,8,9]:=ax
theorem Si:Kp P Bz [3,7,8,9]:=ax
theorem Cb:Kp P rj [1,2,9,10,11]:=ax
theorem II:Kp P yO [0,3,4]:=ax
theorem IE:Kp P yK [0,3]:=ax
theorem Ce:Kp P wc [1,3,4,5,6]:=ax
theorem KA:Kp P v7 [1,3,4]:=ax
theorem Ls:Kp P AM [1,2,5]:=ax
theorem Ky:Kp P vY [1,3,4]:=ax
theorem Lw:Kp P AP [7,8]:=ax
theorem C9:Kp P uW [4,5,6,7,8]:=ax
theorem IA:Kp P rl [4,5,6]:=ax
theorem Na:Kp P x8 [1,3,4]:=ax
theorem PC:Kp P CK [0,1,2,7]:=ax
theorem Gz:Kp P wX [1,2,4,6,41,42,43]:=ax
theorem dz:Kp P b6 [0,1,7,8]:=ax
theorem ss:Kp P sd [0,13,14,15]:=ax
theorem yj:Kp P sk [7,25,26,27]:=ax
theorem yk:Kp P sn [7,10,40,41,42]:=ax
theorem Ix:Kp P uM [0,5,10,11,12]:=ax
theorem C7:Kp P oE [1,3,6,7,8]:=ax
theorem BF:Kp P py [0,3,5,6,7]:=ax
theorem dX:Kp P bO [1,2,15,16,17]:=ax
theorem Ew:Kp P qp [2,5,11,12,13]:=ax
theorem Cc:Kp P rk [1,12,13,14]:=ax
theorem mS:Kp P ez [0,3,7,8]:=ax
theorem yi:Kp P se [1,2,3,13,14,15]:=ax
theorem Dw:Kp P sm [2,26,27,28]:=ax
theorem Lu:Kp P AO [1,2,10,11]:=ax
theorem jb:Kp P yG [0,1,2,3,22,23]:=ax
theorem Sf:Kp P Bx [1,3,4]:=ax
theorem jL:Kp P sf [0,1,2,3,22,23,24]:=ax
theorem Iy:Kp P uP [3,6,7,8]:=ax
theorem rX:Kp P mE [1,2,7,30,31,32]:=ax
theorem xg:Kp P w7 [1,2,7,51,52,53]:=ax
theorem BH:Kp P w8 [1,2,7,16,77,78,79]:=ax
theorem GD:Kp P w9 [2,7,16,19,95,96,97]:=ax
theorem Sj:Kp P xc [2,7,19,22,117,118]:=ax
theorem rY:Kp P iW [0,2,7,8]:=ax
theorem zV:Kp P kV [3,4,9,10,11]:=ax
theorem cX:Kp P cd [0,1,2,8,9,10]:=ax
theorem TH:Kp P FN [0,1,7,8]:=ax
theorem Dv:Kp P sj [1,2,21,22,23]:=ax
theorem Cd:Kp P rq [1,12,13,14]:=ax
theorem Se:Kp P Bw [1,2,6,20,21,22]:=ax
theorem A7:Kp P pO [1,2,8,9,10]:=ax
theorem PD:Kp P zD [3,9,10,11]:=ax
theorem kE:Kp P dQ [0,1,7,8]:=ax
theorem oh:Kp P ff [0,1,7,8]:=ax
theorem ve{τ:Tm}{σ:ah}{nt:Nat}{rd:Option Nat}:exec P BZ ⟨τ,σ,nt,rd⟩=Fy τ nt rd (nN P [27] eM eN ((O.t 26).val τ) (τ.kept [4,6]) σ nt rd):=Cy
theorem Gg{τ:Tm}{σ:ah}{nt:Nat}{rd:Option Nat}:exec P zE ⟨τ,σ,nt,rd⟩=Fy τ nt rd (nN P [6] kO kP ((O.t 5).val τ) (τ.kept [2]) σ nt rd):=Cy
theorem A8{τ:Tm}{σ:ah}{nt:Nat}{rd:Option Nat}:exec P BY ⟨τ,σ,nt,rd⟩=Fy τ nt rd (nN P [48,49] fQ fR ((O.t 47).val τ) (τ.kept [6,7,8,12,13]) σ nt rd):=Cy
theorem D1{τ:Tm}{σ:ah}{nt:Nat}{rd:Option Nat}:exec P xM ⟨τ,σ,nt,rd⟩=Fy τ nt rd (nN P [19] eA eB ((O.t 18).val τ) (τ.kept [2,5]) σ nt rd):=Cy
theorem EB{τ:Tm}{σ:ah}{nt:Nat}{rd:Option Nat}:exec P Gp ⟨τ,σ,nt,rd⟩=Fy τ nt rd (nN P [21] kg ki ((O.t 20).val τ) (τ.kept [2,5,6]) σ nt rd):=Cy
theorem Ng{τ:Tm}{σ:ah}{nt:Nat}{rd:Option Nat}:exec P Ea ⟨τ,σ,nt,rd⟩=Fy τ nt rd (nN P [8] pV pW ((O.t 7).val τ) (τ.kept [3,4]) σ nt rd):=Cy
theorem Al:Rp P iK 15 [.tmp 2] iG:=fun h=>bg Hu h
theorem pI:Rp P fk 46 [.tmp 2] et:=fun h=>bg D3 h
theorem mm:Rp P fU 51 [.tmp 2] dV:=fun h=>bg ER h
theorem mi:Qp P mb:=ag LZ rfl rfl
theorem Bp:Rp P mb 52 [.tmp 2] nU:=fun h=>bg LZ h
theorem jc:Qp P eH:=ag GL rfl rfl
theorem Sy:Rp P eH 58 [.tmp 0] rQ:=fun h=>bg GL h
theorem dW:Qp P ja:=ag Jd rfl rfl
theorem Jy:Rp P ja 26 [.tmp 2] rh:=fun h=>bg Jd h
theorem oi:Qp P ma:=ag LX rfl rfl
theorem qY:Rp P ma 61 [.tmp 2] jh:=fun h=>bg LX h
theorem FZ:Qp P wu:=ag TV rfl rfl
theorem zi:Rp P wu 93 [.cell 4 8 true,.tmp 5] pt:=fun h=>bg TV h
theorem Hy:Qp P qK:=ag Qh rfl rfl
theorem wN:Rp P qK 72 [.tmp 4] mB:=fun h=>bg Qh h
theorem dr:Qp P fB:=ag Fa rfl rfl
theorem QZ:Rp P fB 6 [.tmp 2] qm:=fun h=>bg Fa h
theorem DJ:Qp P il:=ag DG rfl rfl
theorem Nt:Rp P il 65 [.tmp 2,.cell 3 5 true,.cell 4 5 true] oZ:=fun h=>bg DG h
theorem QC:Qp P k6:=ag E0 rfl rfl
theorem QU:Rp P k6 68 [.tmp 2,.cell 3 5 true,.cell 4 5 true] qg:=fun h=>bg E0 h
theorem GW:Qp P iZ:=ag GO rfl rfl
theorem BN:Rp P iZ 27 [.tmp 4] mz:=fun h=>bg GO h
theorem jO:Qp P gI:=ag Qb rfl rfl
theorem Am:Rp P gI 38 [.tmp 4] oy:=fun h=>bg Qb h
theorem rA:Qp P oN:=ag Jf rfl rfl
theorem Dg:Rp P oN 22 [.tmp 2,.tmp 3,.tmp 4] oB:=fun h=>bg Jf h
theorem KO:Qp P fW:=ag Cr rfl rfl
theorem nL:Rp P fW 60 [.tmp 4,.tmp 5,.tmp 6] eP:=fun h=>bg Cr h
theorem tX:Qp P nZ:=ag L2 rfl rfl
theorem Zh:Rp P nZ 43 [.tmp 2,.tmp 3] xF:=fun h=>bg L2 h
theorem rZ:Qp P mO:=ag GQ rfl rfl
theorem xj:Rp P mO 21 [.tmp 2] km:=fun h=>bg GQ h
theorem yT:Qp P oL:=ag Jc rfl rfl
theorem yY:Rp P oL 21 [.tmp 2] lU:=fun h=>bg Jc h
theorem yU:Qp P mc:=ag Je rfl rfl
theorem VW:Rp P mc 7 [.tmp 2] uG:=fun h=>bg Je h
theorem Bm:Qp P n9:=ag L7 rfl rfl
theorem Zi:Rp P n9 7 [.tmp 2] xG:=fun h=>bg L7 h
theorem Aj:Qp P jn:=ag Fb rfl rfl
theorem nK:Rp P jn 57 [.cell 2 8 true,.tmp 3] fo:=fun h=>bg Fb h
theorem BK:Qp P mN:=ag GP rfl rfl
theorem r6:Rp P mN 48 [.cell 2 8 true,.tmp 3] iV:=fun h=>bg GP h
theorem Mj:Qp P qE:=ag LR rfl rfl
theorem Mo:Rp P qE 15 [.cell 6 5 true,.tmp 7] tu:=fun h=>bg LR h
theorem VO:Qp P iX:=ag I7 rfl rfl
theorem VU:Rp P iX 8 [.cell 4 5 true] uE:=fun h=>bg I7 h
theorem QD:Qp P gJ:=ag E2 rfl rfl
theorem Fv:Rp P gJ 7 [.tmp 1] nu:=fun h=>bg E2 h
theorem kG:Qp P iq:=ag L9 rfl rfl
theorem Zk:Rp P iq 7 [.tmp 4] xI:=fun h=>bg L9 h
theorem iv:Qp P kC:=ag Mb rfl rfl
theorem tZ:Rp P kC 50 [.tmp 2] ko:=fun h=>bg Mb h
theorem QE:Qp P fA:=ag E3 rfl rfl
theorem vA:Rp P fA 19 [.tmp 1] ji:=fun h=>bg E3 h
theorem QF:Qp P gK:=ag E4 rfl rfl
theorem QV:Rp P gK 5 [.tmp 1] qi:=fun h=>bg E4 h
theorem VP:Qp P oO:=ag Jg rfl rfl
theorem Jz:Rp P oO 28 [.tmp 2] ri:=fun h=>bg Jg h
theorem QG:Qp P gL:=ag E5 rfl rfl
theorem QW:Rp P gL 5 [.tmp 1] qj:=fun h=>bg E5 h
theorem VQ:Qp P oP:=ag Ji rfl rfl
theorem Dh:Rp P oP 22 [.tmp 2] oC:=fun h=>bg Ji h
theorem QH:Qp P gM:=ag E6 rfl rfl
theorem QX:Rp P gM 5 [.tmp 1] qk:=fun h=>bg E6 h
theorem bA:Qp P eJ:=ag DA rfl rfl
theorem lL:Rp P eJ 61 [.cell 4 1 false] eG:=fun h=>bg DA h
theorem QI:Qp P gN:=ag E7 rfl rfl
theorem Fw:Rp P gN 11 [.tmp 1] nw:=fun h=>bg E7 h
theorem yV:Qp P me:=ag Jh rfl rfl
theorem yZ:Rp P me 42 [.tmp 6] lV:=fun h=>bg Jh h
theorem QJ:Qp P gO:=ag E8 rfl rfl
theorem Fx:Rp P gO 13 [.tmp 1] nx:=fun h=>bg E8 h
theorem QK:Qp P gP:=ag E9 rfl rfl
theorem QY:Rp P gP 4 [.tmp 1] ql:=fun h=>bg E9 h
theorem Su:Qp P mP:=ag GR rfl rfl
theorem GX:Rp P mP 27 [.tmp 2] pw:=fun h=>bg GR h
theorem iQ:Qp P oI:=ag Qd rfl rfl
theorem wM:Rp P oI 52 [.tmp 2] mA:=fun h=>bg Qd h
theorem wK:Qp P tg:=ag Qk rfl rfl
theorem tl:Rp P tg 71 [.tmp 2] kU:=fun h=>bg Qk h
theorem bE:Qp P kA:=ag LV rfl rfl
theorem tY:Rp P kA 44 [.tmp 4] kj:=fun h=>bg LV h
theorem cR:Qp P fh:=ag L4 rfl rfl
theorem Mq:Rp P fh 61 [.tmp 6] tx:=fun h=>bg L4 h
theorem Mk:Qp P qJ:=ag LY rfl rfl
theorem bY:Rp P qJ 137 [.tmp 6] bC:=fun h=>bg LY h
theorem kd:Qp P iY:=ag I8 rfl rfl
theorem yX:Rp P iY 25 [.cell 4 5 true,.tmp 5] lS:=fun h=>bg I8 h
theorem Qy:Qp P tc:=ag P8 rfl rfl
theorem De:Rp P tc 51 [.cell 4 11 true,.tmp 5] p8:=fun h=>bg P8 h
theorem wJ:Qp P iN:=ag Cq rfl rfl
theorem wO:Rp P iN 56 [.tmp 4] iH:=fun h=>bg Cq h
theorem cy:Qp P aN:=ag iS rfl rfl
theorem dd:Rp P aN 9 [.tmp 4] bh:=fun h=>bg iS h
theorem Nn:Qp P jJ:=ag DH rfl rfl
theorem Nu:Rp P jJ 48 [.tmp 2] o6:=fun h=>bg DH h
theorem Jr:Qp P fg:=ag Bg rfl rfl
theorem Jx:Rp P fg 10 [.cell 2 1 false] lT:=fun h=>bg Bg h
theorem jW:Qp P bT:=ag yx rfl rfl
theorem yB:Rp P bT 49 [.cell 2 5 true] gY:=fun h=>bg yx h
theorem Ml:Qp P oc:=ag L8 rfl rfl
theorem Zj:Rp P oc 9 [.cell 2 5 true] xH:=fun h=>bg L8 h
theorem VM:Qp P gG:=ag I4 rfl rfl
theorem VS:Rp P gG 41 [.cell 2 5 true] uC:=fun h=>bg I4 h
theorem zh:Qp P lI:=ag TU rfl rfl
theorem aif:Rp P lI 15 [.cell 8 5 true] BX:=fun h=>bg TU h
theorem ph:Qp P di:=ag DE rfl rfl
theorem DM:Rp P di 43 [.cell 2 5 true] lF:=fun h=>bg DE h
theorem Hz:Qp P oM:=ag Ql rfl rfl
theorem aeS:Rp P oM 9 [.cell 2 5 true] zB:=fun h=>bg Ql h
theorem aeE:Qp P tf:=ag Qj rfl rfl
theorem An:Rp P tf 39 [.cell 2 5 true] oA:=fun h=>bg Qj h
theorem Nl:Qp P ic:=ag Dx rfl rfl
theorem pj:Rp P ic 82 [.cell 6 1 false,.cell 7 1 false,.cell 8 1 false] fH:=fun h=>bg Dx h
theorem Hw:Qp P mM:=ag Qf rfl rfl
theorem QS:Rp P mM 48 [.tmp 4] vW:=fun h=>bg Qf h
theorem Fq:Qp P jo:=ag Mc rfl rfl
theorem xY:Rp P jo 36 [.tmp 4] lX:=fun h=>bg Mc h
theorem jM:Qp P eK:=ag DB rfl rfl
theorem Nq:Rp P eK 5 [.tmp 2] oW:=fun h=>bg DB h
theorem vp:Qp P j8:=ag Jj rfl rfl
theorem VX:Rp P j8 27 [.tmp 2] uH:=fun h=>bg Jj h
theorem qU:Qp P fw:=ag EV rfl rfl
theorem QP:Rp P fw 5 [.tmp 2] qc:=fun h=>bg EV h
theorem nI:Qp P eR:=ag Cs rfl rfl
theorem Cx:Rp P eR 11 [.tmp 2] kL:=fun h=>bg Cs h
theorem BL:Qp P kB:=ag GS rfl rfl
theorem GY:Rp P kB 18 [.tmp 4] px:=fun h=>bg GS h
theorem qV:Qp P fX:=ag Ma rfl rfl
theorem Zl:Rp P fX 24 [.cell 2 5 true] xJ:=fun h=>bg Ma h
theorem Fp:Qp P qM:=ag L6 rfl rfl
theorem Ms:Rp P qM 19 [.tmp 2] tC:=fun h=>bg L6 h
theorem Fl:Qp P nY:=ag LS rfl rfl
theorem Bo:Rp P nY 37 [.tmp 6] nT:=fun h=>bg LS h
theorem vn:Qi P k7 dK:=y9 Qn rfl rfl
theorem qW:Qp P od:=ag Md rfl rfl
theorem Zm:Rp P od 19 [.tmp 2] xK:=fun h=>bg Md h
theorem rB:Qp P mg:=ag Jl rfl rfl
theorem VY:Rp P mg 20 [.tmp 2] uK:=fun h=>bg Jl h
theorem lK:Qp P ik:=ag DC rfl rfl
theorem DL:Rp P ik 25 [.tmp 4] lE:=fun h=>bg DC h
theorem iP:Qp P dv:=ag Ag rfl rfl
theorem HA:Rp P dv 4 [.tmp 2] kS:=fun h=>bg Ag h
theorem bk:Qp P dw:=ag Ah rfl rfl
theorem HB:Rp P dw 9 [.tmp 2] kT:=fun h=>bg Ah h
theorem bK:Qp P aT:=ag lx rfl rfl
theorem lz:Rp P aT 9 [.tmp 4] cA:=fun h=>bg lx h
theorem GV:Qp P mJ:=ag GK rfl rfl
theorem cG:Rp P mJ 68 [.tmp 6] bU:=fun h=>bg GK h
theorem Fo:Qp P qL:=ag L5 rfl rfl
theorem Mr:Rp P qL 53 [.tmp 2] tz:=fun h=>bg L5 h
theorem yo:Qp P jI:=ag DF rfl rfl
theorem Ns:Rp P jI 66 [.tmp 2] oY:=fun h=>bg DF h
theorem tW:Qp P qG:=ag LU rfl rfl
theorem Zg:Rp P qG 9 [.tmp 4] xE:=fun h=>bg LU h
theorem tk:Qp P qF:=ag Qc rfl rfl
theorem HC:Rp P qF 23 [.tmp 4] sD:=fun h=>bg Qc h
theorem jP:Qp P fL:=ag DD rfl rfl
theorem Nr:Rp P fL 26 [.tmp 2] oX:=fun h=>bg DD h
theorem QB:Qp P te:=ag Qg rfl rfl
theorem dy:Rp P te 115 [.tmp 4] cI:=fun h=>bg Qg h
theorem Fm:Qp P qI:=ag LW rfl rfl
theorem Mp:Rp P qI 82 [.tmp 2,.tmp 3] tv:=fun h=>bg LW h
theorem eE:Qp P dY:=ag EY rfl rfl
theorem QR:Rp P dY 23 [.tmp 2] qe:=fun h=>bg EY h
theorem FY:Qp P tJ:=ag TT rfl rfl
theorem T1:Rp P tJ 30 [.tmp 6] y7:=fun h=>bg TT h
theorem Ai:Qp P th:=ag Qm rfl rfl
theorem wP:Rp P th 27 [.tmp 2] mC:=fun h=>bg Qm h
theorem yS:Qp P l8:=ag I9 rfl rfl
theorem vz:Rp P l8 81 [.cell 4 5 true,.tmp 5] j5:=fun h=>bg I9 h
theorem dH:Qp P aS:=ag jV rfl rfl
theorem dI:Rp P aS 19 [.tmp 4] bp:=fun h=>bg jV h
theorem Fk:Qp P kr:=ag LM rfl rfl
theorem Zc:Rp P kr 12 [.cell 6 5 true] xB:=fun h=>bg LM h
theorem bz:Qp P dZ:=ag EZ rfl rfl
theorem QT:Rp P dZ 11 [.tmp 2] qf:=fun h=>bg EZ h
theorem qT:Qp P kX:=ag EO rfl rfl
theorem vu:Rp P kX 68 [.tmp 2,.tmp 3] jf:=fun h=>bg EO h
theorem Bk:Qp P dp:=ag Be rfl rfl
theorem Jw:Rp P dp 6 [.tmp 2] lQ:=fun h=>bg Be h
theorem Cw:Qp P fT:=ag Cm rfl rfl
theorem KP:Rp P fT 28 [.tmp 4] nj:=fun h=>bg Cm h
theorem vR:Qp P eu:=ag vP rfl rfl
theorem D4:Rp P eu 18 [.tmp 2] iz:=fun h=>bg vP h
theorem Jt:Qp P oJ:=ag Ja rfl rfl
theorem Df:Rp P oJ 54 [.tmp 4] oz:=fun h=>bg Ja h
theorem jQ:Qp P aM:=ag ed rfl rfl
theorem cL:Rp P aM 32 [.tmp 6] aL:=fun h=>bg ed h
theorem yA:Qp P er:=ag yz rfl rfl
theorem Gi:Rp P er 44 [.tmp 4] jT:=fun h=>bg yz h
theorem Qz:Qp P kZ:=ag EW rfl rfl
theorem bX:Rp P kZ 102 [.tmp 4] bw:=fun h=>bg EW h
theorem yn:Qi P jH hZ:=y9 Nj rfl rfl
theorem nJ:Qp P bW:=ag nH rfl rfl
theorem nM:Rp P bW 19 [.tmp 4] cS:=fun h=>bg nH h
theorem cV:Qp P oG:=ag I5 rfl rfl
theorem yW:Rp P oG 21 [.tmp 2] lR:=fun h=>bg I5 h
theorem cU:Qp P jm:=ag EP rfl rfl
theorem Ak:Rp P jm 37 [.tmp 6] kR:=fun h=>bg EP h
theorem QA:Qp P qH:=ag Qe rfl rfl
theorem QQ:Rp P qH 25 [.tmp 4] vV:=fun h=>bg Qe h
theorem bq:Qp P ku:=ag LN rfl rfl
theorem Fu:Rp P ku 16 [.tmp 2] qd:=fun h=>bg LN h
theorem kF:Qp P qC:=ag LO rfl rfl
theorem iw:Rp P qC 133 [.tmp 8,.tmp 9] eo:=fun h=>bg LO h
theorem jd:Qp P oK:=ag Jb rfl rfl
theorem VV:Rp P oK 23 [.tmp 2] uF:=fun h=>bg Jb h
theorem cx:Qp P bP:=ag PZ rfl rfl
theorem aeH:Rp P bP 9 [.tmp 4] zn:=fun h=>bg PZ h
theorem dO:Qp P gH:=ag ET rfl rfl
theorem gV:Rp P gH 144 [.tmp 8,.tmp 9] dJ:=fun h=>bg ET h
theorem ej:Qp P fV:=ag Cp rfl rfl
theorem KS:Rp P fV 19 [.tmp 2] nr:=fun h=>bg Cp h
theorem mj:Qp P mf:=ag Jk rfl rfl
theorem Di:Rp P mf 53 [.cell 2 1 false] oD:=fun h=>bg Jk h
theorem xX:Qp P oe:=ag Me rfl rfl
theorem Zn:Rp P oe 10 [.tmp 2] xL:=fun h=>bg Me h
theorem VK:Qp P l6:=ag I1 rfl rfl
theorem rC:Rp P l6 129 [.tmp 4,.tmp 5] iU:=fun h=>bg I1 h
theorem AF:Qp P bV:=ag rH rfl rfl
theorem AG:Rp P bV 33 [.tmp 2] eS:=fun h=>bg rH h
theorem eX:Qp P aW:=ag eV rfl rfl
theorem de:Rp P aW 49 [.tmp 6,.tmp 7] aV:=fun h=>bg eV h
theorem lu:Qp P cF:=ag vQ rfl rfl
theorem D5:Rp P cF 9 [.tmp 4] iA:=fun h=>bg vQ h
theorem Ju:Qp P fi:=ag Bh rfl rfl
theorem JA:Rp P fi 8 [.tmp 4] lW:=fun h=>bg Bh h
theorem aI:Qp P fu:=ag ES rfl rfl
theorem Ft:Rp P fu 42 [.tmp 2] nk:=fun h=>bg ES h
theorem Ss:Qp P mL:=ag GN rfl rfl
theorem SA:Rp P mL 13 [.cell 4 1 false] rS:=fun h=>bg GN h
theorem VN:Qp P oH:=ag I6 rfl rfl
theorem VT:Rp P oH 6 [.tmp 2] uD:=fun h=>bg I6 h
theorem jN:Qp P qB:=ag P9 rfl rfl
theorem aeQ:Rp P qB 6 [.tmp 2] zy:=fun h=>bg P9 h
theorem Js:Qp P xS:=ag YR rfl rfl
theorem Zd:Rp P xS 18 [.tmp 4] BW:=fun h=>bg YR h
theorem Bl:Qp P l9:=ag LQ rfl rfl
theorem Zf:Rp P l9 9 [.tmp 2] xD:=fun h=>bg LQ h
theorem aeD:Qp P td:=ag Qa rfl rfl
theorem aeR:Rp P td 31 [.tmp 6,.tmp 7] zA:=fun h=>bg Qa h
theorem Y5:Qp P qD:=ag LP rfl rfl
theorem Ze:Rp P qD 46 [.tmp 8,.tmp 9] xC:=fun h=>bg LP h
theorem Fj:Qp P kq:=ag LG rfl rfl
theorem Y8:Rp P kq 7 [.tmp 2] xu:=fun h=>bg LG h
theorem gT:Qp P kY:=ag EU rfl rfl
theorem QO:Rp P kY 9 [.tmp 2] p9:=fun h=>bg EU h
theorem ym:Qp P ig:=ag Dz rfl rfl
theorem Np:Rp P ig 9 [.tmp 2] oV:=fun h=>bg Dz h
theorem Sr:Qp P mK:=ag GM rfl rfl
theorem Sz:Rp P mK 26 [.tmp 6,.tmp 7] rR:=fun h=>bg GM h
theorem KN:Qp P iM:=ag Co rfl rfl
theorem KR:Rp P iM 45 [.tmp 8,.tmp 9] np:=fun h=>bg Co h
theorem su:Qp P eI:=ag Dy rfl rfl
theorem No:Rp P eI 9 [.tmp 4,.tmp 5] oU:=fun h=>bg Dy h
theorem qX:Qp P jq:=ag Fc rfl rfl
theorem vB:Rp P jq 40 [.tmp 6,.tmp 7] jj:=fun h=>bg Fc h
theorem QL:Qp P ti:=ag Qo rfl rfl
theorem aeT:Rp P ti 4 [.tmp 2] zC:=fun h=>bg Qo h
theorem Bn:Qp P qN:=ag Mf rfl rfl
theorem oj:Rp P qN 82 [.tmp 2] ia:=fun h=>bg Mf h
theorem yq:Qi P jK fI:=y9 Nk rfl rfl
theorem Sv:Qi P gu mD:=y9 Sn rfl rfl
theorem DK:Qp P ec:=ag DI rfl rfl
theorem Nv:Rp P ec 9 [.tmp 3] o7:=fun h=>bg DI h
theorem jz:Qp P bJ:=ag jy rfl rfl
theorem jA:Rp P bJ 9 [.tmp 4] bZ:=fun h=>bg jy h
theorem Jq:Qp P l7:=ag I3 rfl rfl
theorem Jv:Rp P l7 44 [.tmp 4] rf:=fun h=>bg I3 h
theorem Qw:Qp P ft:=ag EM rfl rfl
theorem QN:Rp P ft 16 [.tmp 5] p7:=fun h=>bg EM h
theorem vm:Qp P b8:=ag mh rfl rfl
theorem vw:Rp P b8 8 [.tmp 4] dn:=fun h=>bg mh h
theorem mV:Qp P cj:=ag mU rfl rfl
theorem vK:Rp P cj 9 [.tmp 4] dC:=fun h=>bg mU h
theorem gS:Qp P gE:=ag IZ rfl rfl
theorem VR:Rp P gE 6 [.tmp 2] uB:=fun h=>bg IZ h
theorem wL:Qi P iO iI:=y9 KM rfl rfl
theorem QM:Qi P gQ qn:=y9 Qq rfl rfl
theorem fZ:Qp P iL:=ag Cn rfl rfl
theorem KQ:Rp P iL 9 [.tmp 2] nn:=fun h=>bg Cn h
theorem BM:Qp P mQ:=ag GU rfl rfl
theorem SB:Rp P mQ 23 [.tmp 2] rT:=fun h=>bg GU h
theorem lg:Qp P bD:=ag lf rfl rfl
theorem lj:Rp P bD 19 [.tmp 4] cu:=fun h=>bg lf h
theorem Qx:Qp P eC:=ag EN rfl rfl
theorem fD:Rp P eC 105 [.tmp 8] dj:=fun h=>bg EN h
theorem yp:Qp P cK:=ag pg rfl rfl
theorem pk:Rp P cK 19 [.tmp 4] dh:=fun h=>bg pg h
theorem aex:Qp P sP:=ag P2 rfl rfl
theorem aeK:Rp P sP 9 [.tmp 4] zq:=fun h=>bg P2 h
theorem aew:Qp P sN:=ag P1 rfl rfl
theorem aeJ:Rp P sN 9 [.tmp 4] zp:=fun h=>bg P1 h
theorem Sp:Qp P mH:=ag GH rfl rfl
theorem Sw:Rp P mH 19 [.tmp 8] rO:=fun h=>bg GH h
theorem Qv:Qp P kW:=ag EL rfl rfl
theorem Fs:Rp P kW 14 [.tmp 6] ni:=fun h=>bg EL h
theorem Y1:Qp P qx:=ag LH rfl rfl
theorem Y9:Rp P qx 13 [.tmp 6] xw:=fun h=>bg LH h
theorem Sq:Qp P mI:=ag GJ rfl rfl
theorem dx:Rp P mI 95 [.tmp 8] cz:=fun h=>bg GJ h
theorem pC:Qp P fq:=ag GI rfl rfl
theorem Sx:Rp P fq 15 [.tmp 4] rP:=fun h=>bg GI h
theorem aeu:Qp P sL:=ag PY rfl rfl
theorem aeG:Rp P sL 12 [.tmp 6] zm:=fun h=>bg PY h
theorem aia:Qp P wq:=ag TS rfl rfl
theorem aic:Rp P wq 12 [.tmp 6] BU:=fun h=>bg TS h
theorem aeC:Qp P s9:=ag P7 rfl rfl
theorem aeP:Rp P s9 12 [.tmp 6] zw:=fun h=>bg P7 h
theorem aet:Qp P sH:=ag PX rfl rfl
theorem aeF:Rp P sH 12 [.tmp 6] zl:=fun h=>bg PX h
theorem aeA:Qp P s6:=ag P5 rfl rfl
theorem aeN:Rp P s6 12 [.tmp 6] zt:=fun h=>bg P5 h
theorem aev:Qp P sM:=ag P0 rfl rfl
theorem aeI:Rp P sM 12 [.tmp 6] zo:=fun h=>bg P0 h
theorem Y2:Qp P qy:=ag LI rfl rfl
theorem Mm:Rp P qy 22 [.tmp 6] tq:=fun h=>bg LI h
theorem Y3:Qp P qz:=ag LJ rfl rfl
theorem Mn:Rp P qz 21 [.tmp 6] tr:=fun h=>bg LJ h
theorem aey:Qp P sU:=ag P3 rfl rfl
theorem aeL:Rp P sU 11 [.tmp 6] zr:=fun h=>bg P3 h
theorem Y0:Qp P qw:=ag LF rfl rfl
theorem Y7:Rp P qw 11 [.tmp 6] xt:=fun h=>bg LF h
theorem YZ:Qp P qv:=ag LD rfl rfl
theorem Y6:Rp P qv 11 [.tmp 6] xr:=fun h=>bg LD h
theorem Mi:Qp P nX:=ag LL rfl rfl
theorem Zb:Rp P nX 10 [.cell 4 2 true] xA:=fun h=>bg LL h
theorem aeB:Qp P s7:=ag P6 rfl rfl
theorem aeO:Rp P s7 15 [.tmp 6] zu:=fun h=>bg P6 h
theorem aez:Qp P sZ:=ag P4 rfl rfl
theorem aeM:Rp P sZ 15 [.tmp 6] zs:=fun h=>bg P4 h
theorem Dd:Qp P gF:=ag I0 rfl rfl
theorem ml:Rp P gF 53 [.tmp 8] fG:=fun h=>bg I0 h
theorem Mh:Qp P nW:=ag LK rfl rfl
theorem Za:Rp P nW 4 [.tmp 2] xy:=fun h=>bg LK h
theorem dt{args:List AV}{σ:ah}:l5 P dq args σ=(ze) args σ:=zJ rfl
theorem ly{args:List AV}{σ:ah}:l5 P bf args σ=(zf dR cT) args σ:=zJ rfl
theorem vq{args:List AV}{σ:ah}:l5 P cD args σ=(xU 2 okV) args σ:=zJ rfl
theorem vJ{args:List AV}{σ:ah}:l5 P bS args σ=(FW 2 24) args σ:=zJ rfl
theorem nR{args:List AV}{σ:ah}:l5 P dU args σ=(Ff xV) args σ:=zJ rfl
end
end Go.AE.S
