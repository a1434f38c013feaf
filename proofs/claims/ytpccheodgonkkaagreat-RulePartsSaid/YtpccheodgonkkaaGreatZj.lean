import Derived.Test.YtpccheodgonkkaaGreatZi
import Derived.Test.YtpccheodgonkkaaGreatA6
import Derived.Test.YtpccheodgonkkaaGreatA4
import Derived.Test.YtpccheodgonkkaaGreatRows
set_option maxHeartbeats 0
set_option linter.unusedSimpArgs false
set_option linter.unusedVariables false
namespace Go.Proofs.YtpccheodgonkkaaGreat
open Go Go.AE Go.AE.S
def apt:List FuncId:=[jc,hU,fH,ju,gi,b8,iY,b6,j6,a7,cy,di,bK]
def cq(f:FuncId):Bool:=!apt.contains f
theorem Eh:al Tryz.prog cq ⟨[],[],[],[],[],[]⟩ false iN=some fK:=by kernel_rfl
theorem RH:al Tryz.prog cq ⟨[],[3,19],[],[19],[],[34]⟩ false mP=some mI:=by kernel_rfl
theorem MK:al Tryz.prog cq ⟨[1],[],[10,13,16],[],[],[10,13]⟩ false jE=some qf:=by kernel_rfl
theorem Po:al Tryz.prog cq ⟨[],[],[],[],[],[14]⟩ false kZ=some pF:=by kernel_rfl
theorem YI:al Tryz.prog cq ⟨[4,6],[46,86],[],[],[],[51,88]⟩ false tl=some nU:=by kernel_rfl
theorem Vi:al Tryz.prog cq ⟨[],[],[],[],[],[]⟩ false q5=some lA:=by kernel_rfl
theorem JY:al Tryz.prog cq ⟨[],[],[],[],[],[]⟩ false er=some oP:=by kernel_rfl
theorem It:al Tryz.prog cq ⟨[3,4],[5,5],[27],[],[],[27,29,43]⟩ false ja=some nH:=by kernel_rfl
theorem MN:al Tryz.prog cq ⟨[],[],[],[],[],[]⟩ false lL=some lz:=by kernel_rfl
theorem Vg:al Tryz.prog cq ⟨[],[],[],[],[],[]⟩ false iZ=some mZ:=by kernel_rfl
theorem MP:al Tryz.prog cq ⟨[],[],[],[],[],[]⟩ false lM=some nT:=by kernel_rfl
theorem Pq:al Tryz.prog cq ⟨[],[],[],[],[],[]⟩ false nu=some nc:=by kernel_rfl
theorem Gn:al Tryz.prog cq ⟨[10],[],[],[],[],[]⟩ false ft=some eD:=by kernel_rfl
theorem RI:al Tryz.prog cq ⟨[],[4,4,6],[],[],[],[28,37]⟩ false pf=some uB:=by kernel_rfl
theorem MS:al Tryz.prog cq ⟨[],[],[],[],[],[]⟩ false lN=some jA:=by kernel_rfl
theorem Pn:al Tryz.prog cq ⟨[],[],[],[],[],[]⟩ false nr=some kP:=by kernel_rfl
theorem RL:al Tryz.prog cq ⟨[],[],[],[],[],[]⟩ false pg=some mJ:=by kernel_rfl
theorem JO:al Tryz.prog cq ⟨[],[],[],[],[],[]⟩ false iE=some oK:=by kernel_rfl
theorem Pp:al Tryz.prog cq ⟨[],[],[],[],[],[]⟩ false js=some rN:=by kernel_rfl
theorem RJ:al Tryz.prog cq ⟨[],[],[],[],[],[]⟩ false k6=some uC:=by kernel_rfl
theorem JP:al Tryz.prog cq ⟨[],[3,3,3,3,6],[],[],[],[21,26,42,58]⟩ false iF=some jV:=by kernel_rfl
theorem RF:al Tryz.prog cq ⟨[6],[],[],[],[],[]⟩ false o8=some ri:=by kernel_rfl
theorem Pj:al Tryz.prog cq ⟨[4],[],[],[],[],[]⟩ false iq=some rM:=by kernel_rfl
theorem JQ:al Tryz.prog cq ⟨[],[],[],[],[],[]⟩ false fU=some mc:=by kernel_rfl
theorem RN:al Tryz.prog cq ⟨[],[],[],[],[],[]⟩ false gJ=some uE:=by kernel_rfl
theorem RP:al Tryz.prog cq ⟨[],[],[],[],[],[]⟩ false jG=some jB:=by kernel_rfl
theorem JR:al Tryz.prog cq ⟨[],[],[],[],[],[]⟩ false eV=some iy:=by kernel_rfl
theorem JS:al Tryz.prog cq ⟨[],[],[],[],[],[]⟩ false fV=some oL:=by kernel_rfl
theorem Pr:al Tryz.prog cq ⟨[],[],[],[],[],[]⟩ false nw=some pG:=by kernel_rfl
theorem JT:al Tryz.prog cq ⟨[],[],[],[],[],[]⟩ false fW=some oM:=by kernel_rfl
theorem Pt:al Tryz.prog cq ⟨[],[],[],[],[],[]⟩ false nx=some nd:=by kernel_rfl
theorem JU:al Tryz.prog cq ⟨[],[],[],[],[],[]⟩ false fX=some oN:=by kernel_rfl
theorem Ip:al Tryz.prog cq ⟨[4],[],[],[],[],[]⟩ false ez=some eu:=by kernel_rfl
theorem JV:al Tryz.prog cq ⟨[],[],[],[],[],[]⟩ false fY=some me:=by kernel_rfl
theorem Ps:al Tryz.prog cq ⟨[],[],[],[],[],[]⟩ false k7=some kQ:=by kernel_rfl
theorem JW:al Tryz.prog cq ⟨[],[],[],[],[],[]⟩ false fZ=some mf:=by kernel_rfl
theorem JX:al Tryz.prog cq ⟨[],[],[],[],[],[]⟩ false gh=some oO:=by kernel_rfl
theorem MT:al Tryz.prog cq ⟨[],[],[],[],[],[]⟩ false lO=some nW:=by kernel_rfl
theorem Pk:al Tryz.prog cq ⟨[4],[],[],[],[],[]⟩ false ir=some kN:=by kernel_rfl
theorem Ve:al Tryz.prog cq ⟨[4,8],[],[],[],[],[]⟩ false qZ=some oG:=by kernel_rfl
theorem Gm:al Tryz.prog cq ⟨[],[],[],[],[],[]⟩ false hJ=some gV:=by kernel_rfl
theorem oz:al Tryz.prog cq ⟨[],[],[],[],[],[]⟩ false aQ=some a8:=by kernel_rfl
theorem Iu:al Tryz.prog cq ⟨[],[3,3,3,3],[],[],[],[18,24,36,44]⟩ false jb=some nI:=by kernel_rfl
theorem Ei:al Tryz.prog cq ⟨[2],[],[],[],[],[]⟩ false eP=some kO:=by kernel_rfl
theorem CH:al Tryz.prog cq ⟨[2,3],[41],[],[],[],[]⟩ false bM=some gr:=by kernel_rfl
theorem RM:al Tryz.prog cq ⟨[2],[],[],[],[],[]⟩ false mQ=some uD:=by kernel_rfl
theorem Pe:al Tryz.prog cq ⟨[2,3,4],[],[28],[],[],[28]⟩ false fR=some rK:=by kernel_rfl
theorem Vj:al Tryz.prog cq ⟨[2],[],[],[],[],[]⟩ false q6=some wL:=by kernel_rfl
theorem MO:al Tryz.prog cq ⟨[],[],[],[],[],[]⟩ false jF=some nS:=by kernel_rfl
theorem Il:al Tryz.prog cq ⟨[6,7,8],[19],[22],[],[],[]⟩ false gF=some ff:=by kernel_rfl
theorem Vh:al Tryz.prog cq ⟨[],[],[],[],[],[]⟩ false o9=some s9:=by kernel_rfl
theorem RQ:al Tryz.prog cq ⟨[],[],[],[],[],[]⟩ false et=some kS:=by kernel_rfl
theorem iW:al Tryz.prog cq ⟨[8],[],[],[],[],[]⟩ false aK=some aI:=by kernel_rfl
theorem MQ:al Tryz.prog cq ⟨[],[],[],[],[],[]⟩ false iu=some nV:=by kernel_rfl
theorem gX:al Tryz.prog cq ⟨[8],[],[],[],[],[]⟩ false aE=some aD:=by kernel_rfl
theorem MR:al Tryz.prog cq ⟨[],[],[],[],[],[]⟩ false iv=some lB:=by kernel_rfl
theorem Iq:al Tryz.prog cq ⟨[],[],[],[],[],[]⟩ false gH=some nG:=by kernel_rfl
theorem Pu:al Tryz.prog cq ⟨[],[3,3],[],[],[],[18,23]⟩ false jt=some rO:=by kernel_rfl
theorem JL:al Tryz.prog cq ⟨[],[],[],[],[],[]⟩ false iD=some oI:=by kernel_rfl
theorem RO:al Tryz.prog cq ⟨[2,3],[16],[],[],[],[]⟩ false iG=some uF:=by kernel_rfl
theorem RG:al Tryz.prog cq ⟨[],[],[],[],[],[]⟩ false mO=some mH:=by kernel_rfl
theorem JZ:al Tryz.prog cq ⟨[],[],[],[],[],[]⟩ true j6=some dC:=by kernel_rfl
theorem RR:al Tryz.prog cq ⟨[],[],[],[],[],[]⟩ false mR=some uG:=by kernel_rfl
theorem Px:al Tryz.prog cq ⟨[],[],[],[],[],[]⟩ false k9=some rQ:=by kernel_rfl
theorem Ir:al Tryz.prog cq ⟨[],[],[],[],[],[]⟩ false gI=some kD:=by kernel_rfl
theorem DL:al Tryz.prog cq ⟨[],[],[],[],[],[]⟩ false dn=some jT:=by kernel_rfl
theorem DM:al Tryz.prog cq ⟨[],[],[],[],[],[]⟩ false dp=some jU:=by kernel_rfl
theorem rB:al Tryz.prog cq ⟨[],[],[],[],[],[]⟩ false a6=some cm:=by kernel_rfl
theorem MJ:al Tryz.prog cq ⟨[],[],[],[],[],[]⟩ false lI=some bN:=by kernel_rfl
theorem JN:al Tryz.prog cq ⟨[],[3,6],[],[],[],[]⟩ false fT=some oJ:=by kernel_rfl
theorem Pl:al Tryz.prog cq ⟨[4,6],[57],[],[],[],[]⟩ false kY=some jq:=by kernel_rfl
theorem pZ:al Tryz.prog cq ⟨[],[],[],[],[],[]⟩ false aP=some bk:=by kernel_rfl
theorem RC:al Tryz.prog cq ⟨[6],[],[10],[],[],[10]⟩ false jD=some uA:=by kernel_rfl
theorem JG:al Tryz.prog cq ⟨[12],[7,39],[],[],[],[]⟩ false j3=some iw:=by kernel_rfl
theorem Eg:al Tryz.prog cq ⟨[],[],[],[],[],[]⟩ false dh=some kL:=by kernel_rfl
theorem Gi:al Tryz.prog cq ⟨[],[5],[],[],[],[]⟩ false fp=some l7:=by kernel_rfl
theorem AJ:al Tryz.prog cq ⟨[3],[],[],[],[],[]⟩ false dY=some gQ:=by kernel_rfl
theorem Pm:al Tryz.prog cq ⟨[],[5,5,5,8],[],[],[],[]⟩ false np=some nb:=by kernel_rfl
theorem iX:al Tryz.prog cq ⟨[8],[],[],[],[],[]⟩ false aL=some aJ:=by kernel_rfl
theorem CI:al Tryz.prog cq ⟨[5],[],[40],[],[],[]⟩ false dX=some jh:=by kernel_rfl
theorem JM:al Tryz.prog cq ⟨[],[],[99],[],[],[]⟩ false j5=some br:=by kernel_rfl
theorem A4:al Tryz.prog cq ⟨[],[],[],[],[],[]⟩ true b6=some ix:=by kernel_rfl
theorem Is:al Tryz.prog cq ⟨[],[],[],[],[],[]⟩ true iY=some gC:=by kernel_rfl
theorem th:al Tryz.prog cq ⟨[],[],[],[],[],[]⟩ false bP=some cL:=by kernel_rfl
theorem Pf:al Tryz.prog cq ⟨[],[],[],[],[],[]⟩ false nk=some kM:=by kernel_rfl
theorem JH:al Tryz.prog cq ⟨[],[],[12,25],[],[],[]⟩ false iC=some jS:=by kernel_rfl
theorem U4:al Tryz.prog cq ⟨[],[],[],[],[],[]⟩ false bJ=some wB:=by kernel_rfl
theorem JJ:al Tryz.prog cq ⟨[],[],[],[],[],[]⟩ false fS=some dB:=by kernel_rfl
theorem Gl:al Tryz.prog cq ⟨[],[3],[],[],[],[]⟩ false fq=some mb:=by kernel_rfl
theorem Pw:al Tryz.prog cq ⟨[2,6],[],[],[],[],[]⟩ false k8=some nf:=by kernel_rfl
theorem RS:al Tryz.prog cq ⟨[3],[],[],[],[],[]⟩ false mS=some uH:=by kernel_rfl
theorem Gh:al Tryz.prog cq ⟨[],[],[15],[],[],[]⟩ false cM=some yH:=by kernel_rfl
theorem Pb:al Tryz.prog cq ⟨[],[],[],[],[],[]⟩ false zJ=some D9:=by kernel_rfl
theorem A3:al Tryz.prog cq ⟨[],[],[],[],[],[]⟩ false o7=some uy:=by kernel_rfl
theorem Ef:al Tryz.prog cq ⟨[],[],[],[],[],[]⟩ false sd=some xD:=by kernel_rfl
theorem Pc:al Tryz.prog cq ⟨[9,21],[22,115],[],[],[],[]⟩ false kW=some ik:=by kernel_rfl
theorem yP:al Tryz.prog cq ⟨[],[],[],[],[],[]⟩ true b8=some ef:=by kernel_rfl
theorem xw:al Tryz.prog cq ⟨[],[3],[],[],[],[]⟩ false bO=some eF:=by kernel_rfl
theorem kC:al Tryz.prog cq ⟨[],[],[],[],[],[]⟩ false aS=some aR:=by kernel_rfl
theorem AK:al Tryz.prog cq ⟨[],[],[],[],[],[]⟩ false cz=some gR:=by kernel_rfl
theorem Ej:al Tryz.prog cq ⟨[],[],[],[],[],[]⟩ false eQ=some kR:=by kernel_rfl
theorem JI:al Tryz.prog cq ⟨[],[],[],[],[],[]⟩ false eU=some l8:=by kernel_rfl
theorem MM:al Tryz.prog cq ⟨[4],[],[],[],[],[]⟩ false lK=some qh:=by kernel_rfl
theorem Ph:al Tryz.prog cq ⟨[],[],[],[],[],[]⟩ false nn=some rL:=by kernel_rfl
theorem Rw:al Tryz.prog cq ⟨[],[],[],[],[],[]⟩ false jC=some uv:=by kernel_rfl
theorem JK:al Tryz.prog cq ⟨[],[],[],[],[],[]⟩ false j4=some oH:=by kernel_rfl
theorem Io:al Tryz.prog cq ⟨[],[],[],[],[],[]⟩ false gG=some nF:=by kernel_rfl
theorem ML:al Tryz.prog cq ⟨[],[],[],[],[],[]⟩ false lJ=some qg:=by kernel_rfl
theorem Gk:al Tryz.prog cq ⟨[],[],[],[],[],[]⟩ false gZ=some ma:=by kernel_rfl
theorem Im:al Tryz.prog cq ⟨[],[],[],[],[],[]⟩ false ew=some nE:=by kernel_rfl
theorem J1:al Tryz.prog cq ⟨[],[],[],[],[],[]⟩ false iH=some iz:=by kernel_rfl
theorem Vk:al Tryz.prog cq ⟨[],[],[],[],[],[]⟩ false q7=some wM:=by kernel_rfl
theorem RT:al Tryz.prog cq ⟨[],[],[],[],[],[]⟩ false ph=some gD:=by kernel_rfl
theorem Iw:al Tryz.prog cq ⟨[],[],[],[],[],[]⟩ true jc=some fg:=by kernel_rfl
theorem MU:al Tryz.prog cq ⟨[],[15],[],[],[],[]⟩ true fH=some lC:=by kernel_rfl
theorem Iv:al Tryz.prog cq ⟨[],[],[],[],[],[]⟩ false dN=some nJ:=by kernel_rfl
theorem pP:al Tryz.prog cq ⟨[],[],[],[],[],[]⟩ false bD=some bR:=by kernel_rfl
theorem MV:al Tryz.prog cq ⟨[],[],[],[],[],[]⟩ false dI=some CR:=by kernel_rfl
theorem DK:al Tryz.prog cq ⟨[],[],[],[],[],[]⟩ false nj=some wK:=by kernel_rfl
theorem Ik:al Tryz.prog cq ⟨[],[],[],[],[],[]⟩ false qC=some Ak:=by kernel_rfl
theorem Pd:al Tryz.prog cq ⟨[5],[6,18],[],[],[],[]⟩ false kX=some pE:=by kernel_rfl
theorem JE:al Tryz.prog cq ⟨[],[],[],[],[],[]⟩ false eT=some oF:=by kernel_rfl
theorem r7:al Tryz.prog cq ⟨[],[],[],[],[],[]⟩ false bT=some de:=by kernel_rfl
theorem sL:al Tryz.prog cq ⟨[],[],[],[],[],[]⟩ false b7=some dv:=by kernel_rfl
theorem O8:al Tryz.prog cq ⟨[],[],[],[],[],[]⟩ false fP=some rJ:=by kernel_rfl
theorem Pv:al Tryz.prog cq ⟨[],[],[],[],[],[]⟩ true ju=some rP:=by kernel_rfl
theorem Gp:al Tryz.prog cq ⟨[],[],[],[],[],[]⟩ true hU=some gW:=by kernel_rfl
theorem J0:al Tryz.prog cq ⟨[],[],[],[],[],[]⟩ true gi=some oQ:=by kernel_rfl
theorem Gj:al Tryz.prog cq ⟨[],[],[],[],[],[]⟩ false gY=some l9:=by kernel_rfl
theorem MW:al Tryz.prog cq ⟨[5],[],[],[],[],[]⟩ false lP=some qi:=by kernel_rfl
theorem qN:al Tryz.prog cq ⟨[],[],[],[],[],[]⟩ false bu=some cd:=by kernel_rfl
theorem JF:al Tryz.prog cq ⟨[],[],[],[],[],[]⟩ false ep=some dd:=by kernel_rfl
theorem vl:al Tryz.prog cq ⟨[],[],[],[],[],[]⟩ false cB=some cY:=by kernel_rfl
theorem U7:al Tryz.prog cq ⟨[],[],[],[],[],[]⟩ false qT=some wE:=by kernel_rfl
theorem U6:al Tryz.prog cq ⟨[],[],[],[],[],[]⟩ false qS=some wD:=by kernel_rfl
theorem MG:al Tryz.prog cq ⟨[],[],[],[],[],[]⟩ false lG=some qd:=by kernel_rfl
theorem JD:al Tryz.prog cq ⟨[],[],[],[],[],[]⟩ false jZ=some l6:=by kernel_rfl
theorem Rx:al Tryz.prog cq ⟨[],[],[],[],[],[]⟩ false oY=some uw:=by kernel_rfl
theorem MI:al Tryz.prog cq ⟨[],[],[],[],[],[]⟩ false lH=some ck:=by kernel_rfl
theorem MH:al Tryz.prog cq ⟨[],[],[],[],[],[]⟩ false eS=some qe:=by kernel_rfl
theorem U3:al Tryz.prog cq ⟨[],[],[],[],[],[]⟩ false qQ=some wA:=by kernel_rfl
theorem YG:al Tryz.prog cq ⟨[],[],[],[],[],[]⟩ false tk=some yG:=by kernel_rfl
theorem Vd:al Tryz.prog cq ⟨[],[],[],[],[],[]⟩ false qY=some wJ:=by kernel_rfl
theorem U2:al Tryz.prog cq ⟨[],[],[],[],[],[]⟩ false qP=some wz:=by kernel_rfl
theorem Va:al Tryz.prog cq ⟨[],[],[],[],[],[]⟩ false qW=some wH:=by kernel_rfl
theorem U5:al Tryz.prog cq ⟨[],[],[],[],[],[]⟩ false qR=some wC:=by kernel_rfl
theorem Ry:al Tryz.prog cq ⟨[],[],[],[],[],[]⟩ false oZ=some rf:=by kernel_rfl
theorem Rz:al Tryz.prog cq ⟨[],[],[],[],[],[]⟩ false o6=some rh:=by kernel_rfl
theorem U8:al Tryz.prog cq ⟨[],[],[],[],[],[]⟩ false qU=some wF:=by kernel_rfl
theorem Rv:al Tryz.prog cq ⟨[],[],[],[],[],[]⟩ false oX=some uu:=by kernel_rfl
theorem Ru:al Tryz.prog cq ⟨[],[],[],[],[],[]⟩ false oW=some ur:=by kernel_rfl
theorem RB:al Tryz.prog cq ⟨[4],[],[],[],[],[]⟩ false mN=some uz:=by kernel_rfl
theorem Vb:al Tryz.prog cq ⟨[],[],[],[],[],[]⟩ false qX=some wI:=by kernel_rfl
theorem U9:al Tryz.prog cq ⟨[],[],[],[],[],[]⟩ false qV=some wG:=by kernel_rfl
theorem O9:al Tryz.prog cq ⟨[],[],[],[],[],[]⟩ false fQ=some fe:=by kernel_rfl
theorem RA:al Tryz.prog cq ⟨[],[],[],[],[],[]⟩ false mM=some ux:=by kernel_rfl
theorem bj:∀g∈Tryz.prog.funcs,(g.name == "runtime.NumGoroutine")=false:=by
 have h:(Tryz.prog.funcs.all fun g=>(g.name == "runtime.NumGoroutine") == false)=true:=by kernel_rfl
 intro g hg;have:=Array.all_eq_true_iff_forall_mem.1 h g hg;simpa using this
set_option maxRecDepth 100000 in
theorem alK:∀x∈tbl,OV Tryz.prog cq x.1 x.2:=by
 simp only[tbl,List.forall_mem_cons]
 exact⟨(ai bj Eh).1,
  (ai bj RH).1,
  (ai bj MK).1,
  (ai bj Po).1,
  (ai bj YI).1,
  (ai bj Vi).1,
  (ai bj JY).1,
  (ai bj It).1,
  (ai bj MN).1,
  (ai bj Vg).1,
  (ai bj MP).1,
  (ai bj Pq).1,
  (ai bj Gn).1,
  (ai bj RI).1,
  (ai bj MS).1,
  (ai bj Pn).1,
  (ai bj RL).1,
  (ai bj JO).1,
  (ai bj Pp).1,
  (ai bj RJ).1,
  (ai bj JP).1,
  (ai bj RF).1,
  (ai bj Pj).1,
  (ai bj JQ).1,
  (ai bj RN).1,
  (ai bj RP).1,
  (ai bj JR).1,
  (ai bj JS).1,
  (ai bj Pr).1,
  (ai bj JT).1,
  (ai bj Pt).1,
  (ai bj JU).1,
  (ai bj Ip).1,
  (ai bj JV).1,
  (ai bj Ps).1,
  (ai bj JW).1,
  (ai bj JX).1,
  (ai bj MT).1,
  (ai bj Pk).1,
  (ai bj Ve).1,
  (ai bj Gm).1,
  (ai bj oz).1,
  (ai bj Iu).1,
  (ai bj Ei).1,
  (ai bj CH).1,
  (ai bj RM).1,
  (ai bj Pe).1,
  (ai bj Vj).1,
  (ai bj MO).1,
  (ai bj Il).1,
  (ai bj Vh).1,
  (ai bj RQ).1,
  (ai bj iW).1,
  (ai bj MQ).1,
  (ai bj gX).1,
  (ai bj MR).1,
  (ai bj Iq).1,
  (ai bj Pu).1,
  (ai bj JL).1,
  (ai bj RO).1,
  (ai bj RG).1,
  (ai bj JZ).1,
  (ai bj RR).1,
  (ai bj Px).1,
  (ai bj Ir).1,
  (ai bj DL).1,
  (ai bj DM).1,
  (ai bj rB).1,
  (ai bj MJ).1,
  (ai bj JN).1,
  (ai bj Pl).1,
  (ai bj pZ).1,
  (ai bj RC).1,
  (ai bj JG).1,
  (ai bj Eg).1,
  (ai bj Gi).1,
  (ai bj AJ).1,
  (ai bj Pm).1,
  (ai bj iX).1,
  (ai bj CI).1,
  (ai bj JM).1,
  (ai bj A4).1,
  (ai bj Is).1,
  (ai bj th).1,
  (ai bj Pf).1,
  (ai bj JH).1,
  (ai bj U4).1,
  (ai bj JJ).1,
  (ai bj Gl).1,
  (ai bj Pw).1,
  (ai bj RS).1,
  (ai bj Gh).1,
  (ai bj Pb).1,
  (ai bj A3).1,
  (ai bj Ef).1,
  (ai bj Pc).1,
  (ai bj yP).1,
  (ai bj xw).1,
  (ai bj kC).1,
  (ai bj AK).1,
  (ai bj Ej).1,
  (ai bj JI).1,
  (ai bj MM).1,
  (ai bj Ph).1,
  (ai bj Rw).1,
  (ai bj JK).1,
  (ai bj Io).1,
  (ai bj ML).1,
  (ai bj Gk).1,
  (ai bj Im).1,
  (ai bj J1).1,
  (ai bj Vk).1,
  (ai bj RT).1,
  (ai bj Iw).1,
  (ai bj MU).1,
  (ai bj Iv).1,
  (ai bj pP).1,
  (ai bj MV).1,
  (ai bj DK).1,
  (ai bj Ik).1,
  (ai bj Pd).1,
  (ai bj JE).1,
  (ai bj r7).1,
  (ai bj sL).1,
  (ai bj O8).1,
  (ai bj Pv).1,
  (ai bj Gp).1,
  (ai bj J0).1,
  (ai bj Gj).1,
  (ai bj MW).1,
  (ai bj qN).1,
  (ai bj JF).1,
  (ai bj vl).1,
  (ai bj U7).1,
  (ai bj U6).1,
  (ai bj MG).1,
  (ai bj JD).1,
  (ai bj Rx).1,
  (ai bj MI).1,
  (ai bj MH).1,
  (ai bj U3).1,
  (ai bj YG).1,
  (ai bj Vd).1,
  (ai bj U2).1,
  (ai bj Va).1,
  (ai bj U5).1,
  (ai bj Ry).1,
  (ai bj Rz).1,
  (ai bj U8).1,
  (ai bj Rv).1,
  (ai bj Ru).1,
  (ai bj RB).1,
  (ai bj Vb).1,
  (ai bj U9).1,
  (ai bj O9).1,
  (ai bj RA).1,by simp⟩
theorem aij:(tbl.all fun x=>!x.2.imp || !cq x.1)=true:=by kernel_rfl
theorem DS{α:Type}:∀{l:List (FuncId×α)} {f:FuncId} {a:α},l.lookup f=some a→(f,a)∈l
 | [],_,_,h=>by cases h
 |(g,b)::l,f,a,h=>by
  simp only[List.lookup]at h;split at h
  ·rename_i he
   have:f=g:=by simpa using he
   cases h;rw[this];simp
  ·exact abn _ (DS h)
end Go.Proofs.YtpccheodgonkkaaGreat
