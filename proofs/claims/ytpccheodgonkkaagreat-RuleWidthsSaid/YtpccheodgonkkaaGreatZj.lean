import Derived.Test.YtpccheodgonkkaaGreatZi
import Derived.Test.YtpccheodgonkkaaGreatA6
import Derived.Test.YtpccheodgonkkaaGreatA4
import Derived.Test.YtpccheodgonkkaaGreatRows
set_option maxHeartbeats 0
set_option linter.unusedSimpArgs false
set_option linter.unusedVariables false
namespace Go.Proofs.YtpccheodgonkkaaGreat
open Go Go.AE Go.AE.S
def avA:List FuncId:=[ju,iz,fR,jR,gu,cg,jo,b9,kJ,bf,cD,dj,bO]
def cq(f:FuncId):Bool:=!avA.contains f
theorem Gn:an Tryz.prog cq ⟨[],[],[],[],[],[]⟩ false iv=some dS:=by kernel_rfl
theorem Wx:an Tryz.prog cq ⟨[],[3,19],[],[19],[],[34]⟩ false qi=some nA:=by kernel_rfl
theorem Q1:an Tryz.prog cq ⟨[1],[],[10,13,16],[],[],[10,13]⟩ false j6=some rf:=by kernel_rfl
theorem TX:an Tryz.prog cq ⟨[],[],[],[],[],[14]⟩ false jP=some qD:=by kernel_rfl
theorem Wv:an Tryz.prog cq ⟨[],[],[],[],[],[]⟩ false qg=some iP:=by kernel_rfl
theorem agt:an Tryz.prog cq ⟨[4,6],[46,86],[],[],[],[51,88]⟩ false sZ=some oM:=by kernel_rfl
theorem aiN:an Tryz.prog cq ⟨[4,6],[47],[],[],[],[56]⟩ false y2=some rk:=by kernel_rfl
theorem acy:an Tryz.prog cq ⟨[],[],[],[],[],[]⟩ false so=some mc:=by kernel_rfl
theorem NO:an Tryz.prog cq ⟨[],[],[],[],[],[]⟩ false eC=some pJ:=by kernel_rfl
theorem L8:an Tryz.prog cq ⟨[3,4],[5,5],[27],[],[],[27,29,43]⟩ false js=some oC:=by kernel_rfl
theorem Q4:an Tryz.prog cq ⟨[],[],[],[],[],[]⟩ false mu=some ma:=by kernel_rfl
theorem Z9:an Tryz.prog cq ⟨[],[],[],[],[],[]⟩ false jq=some nT:=by kernel_rfl
theorem TZ:an Tryz.prog cq ⟨[],[],[],[],[],[]⟩ false oh=some nV:=by kernel_rfl
theorem JD:an Tryz.prog cq ⟨[10],[],[],[],[],[]⟩ false fH=some eK:=by kernel_rfl
theorem Wy:an Tryz.prog cq ⟨[],[4,4,6],[],[],[],[28,37]⟩ false nH=some wW:=by kernel_rfl
theorem TY:an Tryz.prog cq ⟨[],[],[],[],[],[]⟩ false lQ=some tP:=by kernel_rfl
theorem WB:an Tryz.prog cq ⟨[],[],[],[],[],[]⟩ false nI=some wX:=by kernel_rfl
theorem NF:an Tryz.prog cq ⟨[],[3,3,3,3,6],[],[],[],[21,26,42,58]⟩ false uj=some pE:=by kernel_rfl
theorem Wq:an Tryz.prog cq ⟨[6],[],[],[],[],[]⟩ false p8=some sF:=by kernel_rfl
theorem TR:an Tryz.prog cq ⟨[4],[],[],[],[],[]⟩ false iJ=some tK:=by kernel_rfl
theorem NG:an Tryz.prog cq ⟨[],[],[],[],[],[]⟩ false gj=some mU:=by kernel_rfl
theorem WD:an Tryz.prog cq ⟨[],[],[],[],[],[]⟩ false gS=some wZ:=by kernel_rfl
theorem WG:an Tryz.prog cq ⟨[],[],[],[],[],[]⟩ false j9=some jY:=by kernel_rfl
theorem NH:an Tryz.prog cq ⟨[],[],[],[],[],[]⟩ false fg=some iQ:=by kernel_rfl
theorem NI:an Tryz.prog cq ⟨[],[],[],[],[],[]⟩ false gk=some pF:=by kernel_rfl
theorem T0:an Tryz.prog cq ⟨[],[],[],[],[],[]⟩ false oi=some qE:=by kernel_rfl
theorem NJ:an Tryz.prog cq ⟨[],[],[],[],[],[]⟩ false gm=some pG:=by kernel_rfl
theorem T2:an Tryz.prog cq ⟨[],[],[],[],[],[]⟩ false oj=some nW:=by kernel_rfl
theorem NK:an Tryz.prog cq ⟨[],[],[],[],[],[]⟩ false gn=some pH:=by kernel_rfl
theorem LZ:an Tryz.prog cq ⟨[4],[],[],[],[],[]⟩ false eF=some eD:=by kernel_rfl
theorem NL:an Tryz.prog cq ⟨[],[],[],[],[],[]⟩ false gp=some mV:=by kernel_rfl
theorem T1:an Tryz.prog cq ⟨[],[],[],[],[],[]⟩ false lR=some lE:=by kernel_rfl
theorem NM:an Tryz.prog cq ⟨[],[],[],[],[],[]⟩ false gq=some mW:=by kernel_rfl
theorem NN:an Tryz.prog cq ⟨[],[],[],[],[],[]⟩ false gr=some pI:=by kernel_rfl
theorem Q5:an Tryz.prog cq ⟨[],[],[],[],[],[]⟩ false mw=some oN:=by kernel_rfl
theorem acu:an Tryz.prog cq ⟨[],[],[],[],[],[]⟩ false od=some mb:=by kernel_rfl
theorem acz:an Tryz.prog cq ⟨[],[],[],[],[],[]⟩ false sq=some kC:=by kernel_rfl
theorem Wt:an Tryz.prog cq ⟨[],[],[],[],[],[]⟩ false j8=some jX:=by kernel_rfl
theorem Wz:an Tryz.prog cq ⟨[],[],[],[],[],[]⟩ false fG=some sH:=by kernel_rfl
theorem Ww:an Tryz.prog cq ⟨[],[],[],[],[],[]⟩ false qh=some bz:=by kernel_rfl
theorem TS:an Tryz.prog cq ⟨[4],[],[],[],[],[]⟩ false iK=some lC:=by kernel_rfl
theorem Z5:an Tryz.prog cq ⟨[4,8],[],[],[],[],[]⟩ false sk=some py:=by kernel_rfl
theorem aiL:an Tryz.prog cq ⟨[4],[],[],[],[],[]⟩ false rq=some wV:=by kernel_rfl
theorem TW:an Tryz.prog cq ⟨[8],[6,13],[],[],[],[53]⟩ false og=some qC:=by kernel_rfl
theorem JC:an Tryz.prog cq ⟨[],[],[],[],[],[]⟩ false iy=some iq:=by kernel_rfl
theorem pk:an Tryz.prog cq ⟨[],[],[],[],[],[]⟩ false aS=some bg:=by kernel_rfl
theorem L9:an Tryz.prog cq ⟨[],[3,3,3,3],[],[],[],[18,24,36,44]⟩ false jt=some oD:=by kernel_rfl
theorem Ha:an Tryz.prog cq ⟨[2],[],[],[],[],[]⟩ false eW=some lD:=by kernel_rfl
theorem Fp:an Tryz.prog cq ⟨[2,3],[41],[],[],[],[]⟩ false bR=some gH:=by kernel_rfl
theorem WC:an Tryz.prog cq ⟨[2],[],[],[],[],[]⟩ false nJ=some wY:=by kernel_rfl
theorem TO:an Tryz.prog cq ⟨[2,3,4],[],[28],[],[],[28]⟩ false gh=some tH:=by kernel_rfl
theorem acA:an Tryz.prog cq ⟨[2],[],[],[],[],[]⟩ false qk=some yP:=by kernel_rfl
theorem LW:an Tryz.prog cq ⟨[6,7,8],[19],[22],[],[],[]⟩ false gO=some fp:=by kernel_rfl
theorem agr:an Tryz.prog cq ⟨[],[],[],[],[],[]⟩ false vC=some Ba:=by kernel_rfl
theorem acw:an Tryz.prog cq ⟨[],[],[],[],[],[]⟩ false qe=some vd:=by kernel_rfl
theorem WH:an Tryz.prog cq ⟨[],[],[],[],[],[]⟩ false iY=some lG:=by kernel_rfl
theorem L2:an Tryz.prog cq ⟨[],[],[],[],[],[]⟩ false gQ=some oz:=by kernel_rfl
theorem T4:an Tryz.prog cq ⟨[],[3,3],[],[],[],[18,23]⟩ false jQ=some tQ:=by kernel_rfl
theorem NA:an Tryz.prog cq ⟨[],[],[],[],[],[]⟩ false iW=some pA:=by kernel_rfl
theorem WE:an Tryz.prog cq ⟨[2,3],[16],[],[],[],[]⟩ false iX=some w5:=by kernel_rfl
theorem Wr:an Tryz.prog cq ⟨[],[],[],[],[],[]⟩ false nG=some nz:=by kernel_rfl
theorem NP:an Tryz.prog cq ⟨[],[],[],[],[],[]⟩ true kJ=some dI:=by kernel_rfl
theorem WI:an Tryz.prog cq ⟨[],[],[],[],[],[]⟩ false nK=some w6:=by kernel_rfl
theorem T7:an Tryz.prog cq ⟨[],[],[],[],[],[]⟩ false lT=some tW:=by kernel_rfl
theorem L4:an Tryz.prog cq ⟨[],[],[],[],[],[]⟩ false gR=some lg:=by kernel_rfl
theorem Gp:an Tryz.prog cq ⟨[],[],[],[],[],[]⟩ false dq=some kA:=by kernel_rfl
theorem Gq:an Tryz.prog cq ⟨[],[],[],[],[],[]⟩ false dr=some kB:=by kernel_rfl
theorem tp:an Tryz.prog cq ⟨[],[],[],[],[],[]⟩ false a8=some cy:=by kernel_rfl
theorem Q0:an Tryz.prog cq ⟨[],[],[],[],[],[]⟩ false mn=some bS:=by kernel_rfl
theorem WA:an Tryz.prog cq ⟨[],[],[],[],[],[]⟩ false qj=some sL:=by kernel_rfl
theorem L7:an Tryz.prog cq ⟨[],[3,3,7],[],[],[],[29,63]⟩ false jr=some oB:=by kernel_rfl
theorem Ws:an Tryz.prog cq ⟨[],[],[],[],[],[]⟩ false qc=some wU:=by kernel_rfl
theorem acs:an Tryz.prog cq ⟨[],[],[],[],[],[]⟩ false p9=some rW:=by kernel_rfl
theorem L6:an Tryz.prog cq ⟨[],[3,3,5],[],[],[],[]⟩ false fu=some oA:=by kernel_rfl
theorem acx:an Tryz.prog cq ⟨[],[],[],[],[],[]⟩ false sn=some cH:=by kernel_rfl
theorem Wu:an Tryz.prog cq ⟨[],[5,11],[],[],[],[]⟩ false qf=some sG:=by kernel_rfl
theorem NC:an Tryz.prog cq ⟨[],[3,6],[],[],[],[]⟩ false eB=some pC:=by kernel_rfl
theorem ags:an Tryz.prog cq ⟨[],[],[],[],[],[]⟩ false sU=some yq:=by kernel_rfl
theorem acB:an Tryz.prog cq ⟨[],[],[],[],[],[]⟩ false sr=some me:=by kernel_rfl
theorem TT:an Tryz.prog cq ⟨[4,6],[57],[],[],[],[]⟩ false lN=some jN:=by kernel_rfl
theorem aiM:an Tryz.prog cq ⟨[4,6],[54],[],[],[],[]⟩ false xi=some rj:=by kernel_rfl
theorem qY:an Tryz.prog cq ⟨[],[],[],[],[],[]⟩ false aQ=some bm:=by kernel_rfl
theorem Wj:an Tryz.prog cq ⟨[6],[],[10],[],[],[10]⟩ false j5=some wR:=by kernel_rfl
theorem ND:an Tryz.prog cq ⟨[],[],[],[],[],[]⟩ false ff=some pD:=by kernel_rfl
theorem Nv:an Tryz.prog cq ⟨[12],[7,39],[],[],[],[]⟩ false kF=some iN:=by kernel_rfl
theorem G9:an Tryz.prog cq ⟨[],[],[],[],[],[]⟩ false di=some lA:=by kernel_rfl
theorem Jy:an Tryz.prog cq ⟨[],[5],[],[],[],[]⟩ false fE=some mP:=by kernel_rfl
theorem Dc:an Tryz.prog cq ⟨[3],[],[],[],[],[]⟩ false ep=some hU:=by kernel_rfl
theorem amv:an Tryz.prog cq ⟨[],[],[],[],[],[]⟩ false Ch=some GW:=by kernel_rfl
theorem agq:an Tryz.prog cq ⟨[],[],[],[],[],[]⟩ false vB=some A9:=by kernel_rfl
theorem TU:an Tryz.prog cq ⟨[],[5,5,5,8],[],[],[],[]⟩ false oe=some nU:=by kernel_rfl
theorem jm:an Tryz.prog cq ⟨[8],[],[],[],[],[]⟩ false aL=some aK:=by kernel_rfl
theorem Fq:an Tryz.prog cq ⟨[5],[],[40],[],[],[]⟩ false eo=some jD:=by kernel_rfl
theorem NB:an Tryz.prog cq ⟨[],[],[99],[],[],[]⟩ false kH=some bt:=by kernel_rfl
theorem Dw:an Tryz.prog cq ⟨[],[],[],[],[],[]⟩ true b9=some iO:=by kernel_rfl
theorem L5:an Tryz.prog cq ⟨[],[],[],[],[],[]⟩ true jo=some gM:=by kernel_rfl
theorem vq:an Tryz.prog cq ⟨[],[],[],[],[],[]⟩ false bU=some cQ:=by kernel_rfl
theorem TP:an Tryz.prog cq ⟨[],[],[],[],[],[]⟩ false n9=some lB:=by kernel_rfl
theorem Nw:an Tryz.prog cq ⟨[],[],[12,25],[],[],[]⟩ false iV=some ku:=by kernel_rfl
theorem acv:an Tryz.prog cq ⟨[],[],[],[],[],[]⟩ false qd=some u7:=by kernel_rfl
theorem Wm:an Tryz.prog cq ⟨[],[],[12],[],[],[]⟩ false j7=some pB:=by kernel_rfl
theorem Wn:an Tryz.prog cq ⟨[],[],[],[],[],[]⟩ false nF=some ej:=by kernel_rfl
theorem TV:an Tryz.prog cq ⟨[],[3,5],[],[],[],[]⟩ false lP=some tM:=by kernel_rfl
theorem ZW:an Tryz.prog cq ⟨[],[],[],[],[],[]⟩ false bN=some yD:=by kernel_rfl
theorem Ny:an Tryz.prog cq ⟨[],[],[],[],[],[]⟩ false gi=some dH:=by kernel_rfl
theorem JB:an Tryz.prog cq ⟨[],[3],[],[],[],[]⟩ false fF=some mT:=by kernel_rfl
theorem T6:an Tryz.prog cq ⟨[2,6],[],[],[],[],[]⟩ false lS=some nX:=by kernel_rfl
theorem WJ:an Tryz.prog cq ⟨[3],[],[],[],[],[]⟩ false nL=some w7:=by kernel_rfl
theorem Jx:an Tryz.prog cq ⟨[],[],[15],[],[],[]⟩ false cR=some A8:=by kernel_rfl
theorem TL:an Tryz.prog cq ⟨[],[],[],[],[],[]⟩ false Cg=some GV:=by kernel_rfl
theorem Dv:an Tryz.prog cq ⟨[],[],[],[],[],[]⟩ false pX=some wP:=by kernel_rfl
theorem G8:an Tryz.prog cq ⟨[],[],[],[],[],[]⟩ false ui=some zM:=by kernel_rfl
theorem TM:an Tryz.prog cq ⟨[9,21],[22,115],[],[],[],[]⟩ false lL=some iH:=by kernel_rfl
theorem Bj:an Tryz.prog cq ⟨[],[],[],[],[],[]⟩ true cg=some et:=by kernel_rfl
theorem zC:an Tryz.prog cq ⟨[],[3],[],[],[],[]⟩ false bT=some eN:=by kernel_rfl
theorem k9:an Tryz.prog cq ⟨[],[],[],[],[],[]⟩ false aU=some aT:=by kernel_rfl
theorem Dd:an Tryz.prog cq ⟨[],[],[],[],[],[]⟩ false cF=some hZ:=by kernel_rfl
theorem Hb:an Tryz.prog cq ⟨[],[],[],[],[],[]⟩ false eX=some lF:=by kernel_rfl
theorem Nx:an Tryz.prog cq ⟨[],[],[],[],[],[]⟩ false fe=some mQ:=by kernel_rfl
theorem Q3:an Tryz.prog cq ⟨[4],[],[],[],[],[]⟩ false mr=some ri:=by kernel_rfl
theorem TQ:an Tryz.prog cq ⟨[],[],[],[],[],[]⟩ false oc=some tJ:=by kernel_rfl
theorem Z7:an Tryz.prog cq ⟨[],[],[4],[],[],[]⟩ false pY=some yN:=by kernel_rfl
theorem aiK:an Tryz.prog cq ⟨[],[],[],[],[],[]⟩ false xh=some Bb:=by kernel_rfl
theorem Wp:an Tryz.prog cq ⟨[],[],[],[],[],[]⟩ false lO=some wT:=by kernel_rfl
theorem Z8:an Tryz.prog cq ⟨[],[],[],[],[],[]⟩ false sm=some yO:=by kernel_rfl
theorem Wo:an Tryz.prog cq ⟨[],[],[],[],[],[]⟩ false pZ=some wS:=by kernel_rfl
theorem Wc:an Tryz.prog cq ⟨[],[],[],[],[],[]⟩ false j4=some wM:=by kernel_rfl
theorem Nz:an Tryz.prog cq ⟨[],[],[],[],[],[]⟩ false kG=some pz:=by kernel_rfl
theorem LY:an Tryz.prog cq ⟨[],[],[],[],[],[]⟩ false gP=some oy:=by kernel_rfl
theorem Q2:an Tryz.prog cq ⟨[],[],[],[],[],[]⟩ false mq=some rh:=by kernel_rfl
theorem JA:an Tryz.prog cq ⟨[],[],[],[],[],[]⟩ false ix=some mS:=by kernel_rfl
theorem LX:an Tryz.prog cq ⟨[],[],[],[],[],[]⟩ false eE=some ox:=by kernel_rfl
theorem NR:an Tryz.prog cq ⟨[],[],[],[],[],[]⟩ false iZ=some iR:=by kernel_rfl
theorem acC:an Tryz.prog cq ⟨[],[],[],[],[],[]⟩ false ss=some yQ:=by kernel_rfl
theorem WK:an Tryz.prog cq ⟨[],[],[],[],[],[]⟩ false ql=some gN:=by kernel_rfl
theorem Mb:an Tryz.prog cq ⟨[],[],[],[],[],[]⟩ true ju=some fq:=by kernel_rfl
theorem Q6:an Tryz.prog cq ⟨[],[15],[],[],[],[]⟩ true fR=some mf:=by kernel_rfl
theorem Ma:an Tryz.prog cq ⟨[],[],[],[],[],[]⟩ false dY=some oE:=by kernel_rfl
theorem qN:an Tryz.prog cq ⟨[],[],[],[],[],[]⟩ false bH=some bX:=by kernel_rfl
theorem Q7:an Tryz.prog cq ⟨[],[],[],[],[],[]⟩ false dO=some FA:=by kernel_rfl
theorem Gm:an Tryz.prog cq ⟨[],[],[],[],[],[]⟩ false nZ=some yM:=by kernel_rfl
theorem LV:an Tryz.prog cq ⟨[],[],[],[],[],[]⟩ false rO=some CO:=by kernel_rfl
theorem TN:an Tryz.prog cq ⟨[5],[6,18],[],[],[],[]⟩ false lM=some qB:=by kernel_rfl
theorem Nt:an Tryz.prog cq ⟨[],[],[],[],[],[]⟩ false fc=some px:=by kernel_rfl
theorem ug:an Tryz.prog cq ⟨[],[],[],[],[],[]⟩ false bZ=some dh:=by kernel_rfl
theorem uL:an Tryz.prog cq ⟨[],[],[],[],[],[]⟩ false cd=some dy:=by kernel_rfl
theorem TJ:an Tryz.prog cq ⟨[],[],[],[],[],[]⟩ false fY=some tF:=by kernel_rfl
theorem T5:an Tryz.prog cq ⟨[],[],[],[],[],[]⟩ true jR=some tV:=by kernel_rfl
theorem JE:an Tryz.prog cq ⟨[],[],[],[],[],[]⟩ true iz=some ir:=by kernel_rfl
theorem NQ:an Tryz.prog cq ⟨[],[],[],[],[],[]⟩ true gu=some pK:=by kernel_rfl
theorem Jz:an Tryz.prog cq ⟨[],[],[],[],[],[]⟩ false iw=some mR:=by kernel_rfl
theorem Q8:an Tryz.prog cq ⟨[5],[],[],[],[],[]⟩ false mz=some rl:=by kernel_rfl
theorem rZ:an Tryz.prog cq ⟨[],[],[],[],[],[]⟩ false bA=some cm:=by kernel_rfl
theorem Nu:an Tryz.prog cq ⟨[],[],[],[],[],[]⟩ false eA=some dg:=by kernel_rfl
theorem xA:an Tryz.prog cq ⟨[],[],[],[],[],[]⟩ false cI=some de:=by kernel_rfl
theorem ZZ:an Tryz.prog cq ⟨[],[],[],[],[],[]⟩ false sd=some yG:=by kernel_rfl
theorem ZY:an Tryz.prog cq ⟨[],[],[],[],[],[]⟩ false r9=some yF:=by kernel_rfl
theorem QX:an Tryz.prog cq ⟨[],[],[],[],[],[]⟩ false ml=some q8:=by kernel_rfl
theorem Ns:an Tryz.prog cq ⟨[],[],[],[],[],[]⟩ false kE=some mO:=by kernel_rfl
theorem We:an Tryz.prog cq ⟨[],[],[],[],[],[]⟩ false pU=some wN:=by kernel_rfl
theorem QZ:an Tryz.prog cq ⟨[],[],[],[],[],[]⟩ false mm=some cx:=by kernel_rfl
theorem QY:an Tryz.prog cq ⟨[],[],[],[],[],[]⟩ false eZ=some q9:=by kernel_rfl
theorem ZV:an Tryz.prog cq ⟨[],[],[],[],[],[]⟩ false r7=some yC:=by kernel_rfl
theorem ago:an Tryz.prog cq ⟨[],[],[],[],[],[]⟩ false vA=some A7:=by kernel_rfl
theorem Z4:an Tryz.prog cq ⟨[],[],[],[],[],[]⟩ false sj=some yL:=by kernel_rfl
theorem ZU:an Tryz.prog cq ⟨[],[],[],[],[],[]⟩ false r6=some yB:=by kernel_rfl
theorem Z2:an Tryz.prog cq ⟨[],[],[],[],[],[]⟩ false sg=some yJ:=by kernel_rfl
theorem ZX:an Tryz.prog cq ⟨[],[],[],[],[],[]⟩ false r8=some yE:=by kernel_rfl
theorem Wf:an Tryz.prog cq ⟨[],[],[],[],[],[]⟩ false pV=some sD:=by kernel_rfl
theorem Wg:an Tryz.prog cq ⟨[],[],[],[],[],[]⟩ false pW=some sE:=by kernel_rfl
theorem Z0:an Tryz.prog cq ⟨[],[],[],[],[],[]⟩ false se=some yH:=by kernel_rfl
theorem Wb:an Tryz.prog cq ⟨[],[],[],[],[],[]⟩ false pT=some wL:=by kernel_rfl
theorem Wa:an Tryz.prog cq ⟨[],[],[],[],[],[]⟩ false pS=some wK:=by kernel_rfl
theorem Wi:an Tryz.prog cq ⟨[4],[],[],[],[],[]⟩ false nE=some wQ:=by kernel_rfl
theorem Z3:an Tryz.prog cq ⟨[],[],[],[],[],[]⟩ false si=some yK:=by kernel_rfl
theorem Z1:an Tryz.prog cq ⟨[],[],[],[],[],[]⟩ false sf=some yI:=by kernel_rfl
theorem TK:an Tryz.prog cq ⟨[],[],[],[],[],[]⟩ false fZ=some fo:=by kernel_rfl
theorem Wh:an Tryz.prog cq ⟨[],[],[],[],[],[]⟩ false nD=some wO:=by kernel_rfl
theorem aX:∀g∈Tryz.prog.funcs,(g.name == "runtime.NumGoroutine")=false:=by
 have h:(Tryz.prog.funcs.all fun g=>(g.name == "runtime.NumGoroutine") == false)=true:=by kernel_rfl
 intro g hg;have:=Array.all_eq_true_iff_forall_mem.1 h g hg;simpa using this
set_option maxRecDepth 100000 in
theorem arD:∀x∈tbl,Tu Tryz.prog cq x.1 x.2:=by
 simp only[tbl,List.forall_mem_cons]
 exact⟨(ai aX Gn).1,
  (ai aX Wx).1,
  (ai aX Q1).1,
  (ai aX TX).1,
  (ai aX Wv).1,
  (ai aX agt).1,
  (ai aX aiN).1,
  (ai aX acy).1,
  (ai aX NO).1,
  (ai aX L8).1,
  (ai aX Q4).1,
  (ai aX Z9).1,
  (ai aX TZ).1,
  (ai aX JD).1,
  (ai aX Wy).1,
  (ai aX TY).1,
  (ai aX WB).1,
  (ai aX NF).1,
  (ai aX Wq).1,
  (ai aX TR).1,
  (ai aX NG).1,
  (ai aX WD).1,
  (ai aX WG).1,
  (ai aX NH).1,
  (ai aX NI).1,
  (ai aX T0).1,
  (ai aX NJ).1,
  (ai aX T2).1,
  (ai aX NK).1,
  (ai aX LZ).1,
  (ai aX NL).1,
  (ai aX T1).1,
  (ai aX NM).1,
  (ai aX NN).1,
  (ai aX Q5).1,
  (ai aX acu).1,
  (ai aX acz).1,
  (ai aX Wt).1,
  (ai aX Wz).1,
  (ai aX Ww).1,
  (ai aX TS).1,
  (ai aX Z5).1,
  (ai aX aiL).1,
  (ai aX TW).1,
  (ai aX JC).1,
  (ai aX pk).1,
  (ai aX L9).1,
  (ai aX Ha).1,
  (ai aX Fp).1,
  (ai aX WC).1,
  (ai aX TO).1,
  (ai aX acA).1,
  (ai aX LW).1,
  (ai aX agr).1,
  (ai aX acw).1,
  (ai aX WH).1,
  (ai aX L2).1,
  (ai aX T4).1,
  (ai aX NA).1,
  (ai aX WE).1,
  (ai aX Wr).1,
  (ai aX NP).1,
  (ai aX WI).1,
  (ai aX T7).1,
  (ai aX L4).1,
  (ai aX Gp).1,
  (ai aX Gq).1,
  (ai aX tp).1,
  (ai aX Q0).1,
  (ai aX WA).1,
  (ai aX L7).1,
  (ai aX Ws).1,
  (ai aX acs).1,
  (ai aX L6).1,
  (ai aX acx).1,
  (ai aX Wu).1,
  (ai aX NC).1,
  (ai aX ags).1,
  (ai aX acB).1,
  (ai aX TT).1,
  (ai aX aiM).1,
  (ai aX qY).1,
  (ai aX Wj).1,
  (ai aX ND).1,
  (ai aX Nv).1,
  (ai aX G9).1,
  (ai aX Jy).1,
  (ai aX Dc).1,
  (ai aX amv).1,
  (ai aX agq).1,
  (ai aX TU).1,
  (ai aX jm).1,
  (ai aX Fq).1,
  (ai aX NB).1,
  (ai aX Dw).1,
  (ai aX L5).1,
  (ai aX vq).1,
  (ai aX TP).1,
  (ai aX Nw).1,
  (ai aX acv).1,
  (ai aX Wm).1,
  (ai aX Wn).1,
  (ai aX TV).1,
  (ai aX ZW).1,
  (ai aX Ny).1,
  (ai aX JB).1,
  (ai aX T6).1,
  (ai aX WJ).1,
  (ai aX Jx).1,
  (ai aX TL).1,
  (ai aX Dv).1,
  (ai aX G8).1,
  (ai aX TM).1,
  (ai aX Bj).1,
  (ai aX zC).1,
  (ai aX k9).1,
  (ai aX Dd).1,
  (ai aX Hb).1,
  (ai aX Nx).1,
  (ai aX Q3).1,
  (ai aX TQ).1,
  (ai aX Z7).1,
  (ai aX aiK).1,
  (ai aX Wp).1,
  (ai aX Z8).1,
  (ai aX Wo).1,
  (ai aX Wc).1,
  (ai aX Nz).1,
  (ai aX LY).1,
  (ai aX Q2).1,
  (ai aX JA).1,
  (ai aX LX).1,
  (ai aX NR).1,
  (ai aX acC).1,
  (ai aX WK).1,
  (ai aX Mb).1,
  (ai aX Q6).1,
  (ai aX Ma).1,
  (ai aX qN).1,
  (ai aX Q7).1,
  (ai aX Gm).1,
  (ai aX LV).1,
  (ai aX TN).1,
  (ai aX Nt).1,
  (ai aX ug).1,
  (ai aX uL).1,
  (ai aX TJ).1,
  (ai aX T5).1,
  (ai aX JE).1,
  (ai aX NQ).1,
  (ai aX Jz).1,
  (ai aX Q8).1,
  (ai aX rZ).1,
  (ai aX Nu).1,
  (ai aX xA).1,
  (ai aX ZZ).1,
  (ai aX ZY).1,
  (ai aX QX).1,
  (ai aX Ns).1,
  (ai aX We).1,
  (ai aX QZ).1,
  (ai aX QY).1,
  (ai aX ZV).1,
  (ai aX ago).1,
  (ai aX Z4).1,
  (ai aX ZU).1,
  (ai aX Z2).1,
  (ai aX ZX).1,
  (ai aX Wf).1,
  (ai aX Wg).1,
  (ai aX Z0).1,
  (ai aX Wb).1,
  (ai aX Wa).1,
  (ai aX Wi).1,
  (ai aX Z3).1,
  (ai aX Z1).1,
  (ai aX TK).1,
  (ai aX Wh).1,by simp⟩
theorem aoh:(tbl.all fun x=>!x.2.imp || !cq x.1)=true:=by kernel_rfl
theorem Gy{α:Type}:∀{l:List (FuncId×α)} {f:FuncId} {a:α},l.lookup f=some a→(f,a)∈l
 | [],_,_,h=>by cases h
 |(g,b)::l,f,a,h=>by
  simp only[List.lookup]at h;split at h
  ·rename_i he
   have:f=g:=by simpa using he
   cases h;rw[this];simp
  ·exact abp _ (Gy h)
end Go.Proofs.YtpccheodgonkkaaGreat
