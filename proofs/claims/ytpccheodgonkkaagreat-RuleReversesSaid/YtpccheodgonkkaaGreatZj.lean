import Derived.Test.YtpccheodgonkkaaGreatZi
import Derived.Test.YtpccheodgonkkaaGreatA6
import Derived.Test.YtpccheodgonkkaaGreatA4
import Derived.Test.YtpccheodgonkkaaGreatRows
set_option maxHeartbeats 0
set_option linter.unusedSimpArgs false
set_option linter.unusedVariables false
namespace Go.Proofs.YtpccheodgonkkaaGreat
open Go Go.AE Go.AE.S
def av2:List FuncId:=[jK,iO,gu,j9,gQ,ck,jH,cg,k7,bf,cD,dq,bS]
def cq(f:FuncId):Bool:=!av2.contains f
theorem Hd:an Tryz.prog cq ⟨[],[],[],[],[],[]⟩ false iK=some iG:=by kernel_rfl
theorem DU:an Tryz.prog cq ⟨[4,5,7,8],[],[],[],[],[]⟩ false fk=some et:=by kernel_rfl
theorem Eg:an Tryz.prog cq ⟨[],[],[],[],[],[]⟩ false fU=some dV:=by kernel_rfl
theorem Xs:an Tryz.prog cq ⟨[],[3,19],[],[19],[],[34]⟩ false mb=some nU:=by kernel_rfl
theorem RS:an Tryz.prog cq ⟨[1],[],[10,13,16],[],[],[10,13]⟩ false eH=some rQ:=by kernel_rfl
theorem UI:an Tryz.prog cq ⟨[],[],[],[],[],[14]⟩ false ja=some rh:=by kernel_rfl
theorem Xq:an Tryz.prog cq ⟨[],[],[],[],[],[]⟩ false ma=some jh:=by kernel_rfl
theorem ag3:an Tryz.prog cq ⟨[4,6],[46,86],[],[],[],[51,88]⟩ false wu=some pt:=by kernel_rfl
theorem adj:an Tryz.prog cq ⟨[],[],[],[],[],[]⟩ false qK=some mB:=by kernel_rfl
theorem OH:an Tryz.prog cq ⟨[],[],[],[],[],[]⟩ false fB=some qm:=by kernel_rfl
theorem MY:an Tryz.prog cq ⟨[3,4],[5,5],[27],[],[],[27,29,43]⟩ false il=some oZ:=by kernel_rfl
theorem Ox:an Tryz.prog cq ⟨[3,4],[5,5,8],[],[],[],[39,56]⟩ false k6=some qg:=by kernel_rfl
theorem RW:an Tryz.prog cq ⟨[],[],[],[],[],[]⟩ false iZ=some mz:=by kernel_rfl
theorem adb:an Tryz.prog cq ⟨[],[],[],[],[],[]⟩ false gI=some oy:=by kernel_rfl
theorem UK:an Tryz.prog cq ⟨[],[],[],[],[],[]⟩ false oN=some oB:=by kernel_rfl
theorem Ki:an Tryz.prog cq ⟨[10],[],[],[],[],[]⟩ false fW=some eP:=by kernel_rfl
theorem Xt:an Tryz.prog cq ⟨[],[4,4,6],[],[],[],[28,37]⟩ false nZ=some xF:=by kernel_rfl
theorem RY:an Tryz.prog cq ⟨[],[],[],[],[],[]⟩ false mO=some km:=by kernel_rfl
theorem UH:an Tryz.prog cq ⟨[],[],[],[],[],[]⟩ false oL=some lU:=by kernel_rfl
theorem UJ:an Tryz.prog cq ⟨[],[],[],[],[],[]⟩ false mc=some uG:=by kernel_rfl
theorem Xx:an Tryz.prog cq ⟨[],[],[],[],[],[]⟩ false n9=some xG:=by kernel_rfl
theorem OI:an Tryz.prog cq ⟨[2],[],[27,31,37,41,53],[],[],[27,31,37,41,53]⟩ false jn=some fo:=by kernel_rfl
theorem RX:an Tryz.prog cq ⟨[2],[],[41],[],[],[23,41]⟩ false mN=some iV:=by kernel_rfl
theorem Oy:an Tryz.prog cq ⟨[],[3,3,3,3,6],[],[],[],[21,26,42,58]⟩ false u7=some qh:=by kernel_rfl
theorem Xl:an Tryz.prog cq ⟨[6],[],[],[],[],[]⟩ false qE=some tu:=by kernel_rfl
theorem UC:an Tryz.prog cq ⟨[4],[],[],[],[],[]⟩ false iX=some uE:=by kernel_rfl
theorem Oz:an Tryz.prog cq ⟨[],[],[],[],[],[]⟩ false gJ=some nu:=by kernel_rfl
theorem Xz:an Tryz.prog cq ⟨[],[],[],[],[],[]⟩ false iq=some xI:=by kernel_rfl
theorem XB:an Tryz.prog cq ⟨[],[],[],[],[],[]⟩ false kC=some ko:=by kernel_rfl
theorem OA:an Tryz.prog cq ⟨[],[],[],[],[],[]⟩ false fA=some ji:=by kernel_rfl
theorem OB:an Tryz.prog cq ⟨[],[],[],[],[],[]⟩ false gK=some qi:=by kernel_rfl
theorem UL:an Tryz.prog cq ⟨[],[],[],[],[],[]⟩ false oO=some ri:=by kernel_rfl
theorem OC:an Tryz.prog cq ⟨[],[],[],[],[],[]⟩ false gL=some qj:=by kernel_rfl
theorem UN:an Tryz.prog cq ⟨[],[],[],[],[],[]⟩ false oP=some oC:=by kernel_rfl
theorem OD:an Tryz.prog cq ⟨[],[],[],[],[],[]⟩ false gM=some qk:=by kernel_rfl
theorem MR:an Tryz.prog cq ⟨[4],[],[],[],[],[]⟩ false eJ=some eG:=by kernel_rfl
theorem OE:an Tryz.prog cq ⟨[],[],[],[],[],[]⟩ false gN=some nw:=by kernel_rfl
theorem UM:an Tryz.prog cq ⟨[],[],[],[],[],[]⟩ false me=some lV:=by kernel_rfl
theorem OF:an Tryz.prog cq ⟨[],[],[],[],[],[]⟩ false gO=some nx:=by kernel_rfl
theorem OG:an Tryz.prog cq ⟨[],[],[],[],[],[]⟩ false gP=some ql:=by kernel_rfl
theorem RZ:an Tryz.prog cq ⟨[],[],[],[],[],[]⟩ false mP=some pw:=by kernel_rfl
theorem adf:an Tryz.prog cq ⟨[],[],[],[],[],[]⟩ false oI=some mA:=by kernel_rfl
theorem adl:an Tryz.prog cq ⟨[],[],[],[],[],[]⟩ false tg=some kU:=by kernel_rfl
theorem Xo:an Tryz.prog cq ⟨[],[],[],[],[],[]⟩ false kA=some kj:=by kernel_rfl
theorem Xu:an Tryz.prog cq ⟨[],[],[],[],[],[]⟩ false fh=some tx:=by kernel_rfl
theorem Xr:an Tryz.prog cq ⟨[],[],[],[],[],[]⟩ false qJ=some bC:=by kernel_rfl
theorem UD:an Tryz.prog cq ⟨[4],[],[],[],[],[]⟩ false iY=some lS:=by kernel_rfl
theorem ac7:an Tryz.prog cq ⟨[4,8],[],[],[],[],[]⟩ false tc=some p8:=by kernel_rfl
theorem Kh:an Tryz.prog cq ⟨[],[],[],[],[],[]⟩ false iN=some iH:=by kernel_rfl
theorem pT:an Tryz.prog cq ⟨[],[],[],[],[],[]⟩ false aN=some bh:=by kernel_rfl
theorem MZ:an Tryz.prog cq ⟨[],[3,3,3,3],[],[],[],[18,24,36,44]⟩ false jJ=some o6:=by kernel_rfl
theorem HX:an Tryz.prog cq ⟨[2],[],[],[],[],[]⟩ false fg=some lT:=by kernel_rfl
theorem Gb:an Tryz.prog cq ⟨[2,3],[41],[],[],[],[]⟩ false bT=some gY:=by kernel_rfl
theorem Xy:an Tryz.prog cq ⟨[2],[],[],[],[],[]⟩ false oc=some xH:=by kernel_rfl
theorem Uz:an Tryz.prog cq ⟨[2,3,4],[],[28],[],[],[28]⟩ false gG=some uC:=by kernel_rfl
theorem ag2:an Tryz.prog cq ⟨[8],[],[13],[],[],[13]⟩ false lI=some BX:=by kernel_rfl
theorem MW:an Tryz.prog cq ⟨[2,3],[29],[],[],[],[]⟩ false di=some lF:=by kernel_rfl
theorem adm:an Tryz.prog cq ⟨[2],[],[],[],[],[]⟩ false oM=some zB:=by kernel_rfl
theorem adk:an Tryz.prog cq ⟨[2],[],[],[],[],[]⟩ false tf=some oA:=by kernel_rfl
theorem MO:an Tryz.prog cq ⟨[6,7,8],[19],[22],[],[],[]⟩ false ic=some fH:=by kernel_rfl
theorem adh:an Tryz.prog cq ⟨[],[],[],[],[],[]⟩ false mM=some vW:=by kernel_rfl
theorem XC:an Tryz.prog cq ⟨[],[],[],[],[],[]⟩ false jo=some lX:=by kernel_rfl
theorem MS:an Tryz.prog cq ⟨[],[],[],[],[],[]⟩ false eK=some oW:=by kernel_rfl
theorem UO:an Tryz.prog cq ⟨[],[3,3],[],[],[],[18,23]⟩ false j8=some uH:=by kernel_rfl
theorem Ot:an Tryz.prog cq ⟨[],[],[],[],[],[]⟩ false fw=some qc:=by kernel_rfl
theorem Kj:an Tryz.prog cq ⟨[],[],[],[],[],[]⟩ false eR=some kL:=by kernel_rfl
theorem R0:an Tryz.prog cq ⟨[],[],[],[],[],[]⟩ false kB=some px:=by kernel_rfl
theorem XA:an Tryz.prog cq ⟨[2,3],[16],[],[],[],[]⟩ false fX=some xJ:=by kernel_rfl
theorem Xw:an Tryz.prog cq ⟨[],[],[],[],[],[]⟩ false qM=some tC:=by kernel_rfl
theorem Xm:an Tryz.prog cq ⟨[],[],[],[],[],[]⟩ false nY=some nT:=by kernel_rfl
theorem OJ:an Tryz.prog cq ⟨[],[],[],[],[],[]⟩ true k7=some dK:=by kernel_rfl
theorem XD:an Tryz.prog cq ⟨[],[],[],[],[],[]⟩ false od=some xK:=by kernel_rfl
theorem UR:an Tryz.prog cq ⟨[],[],[],[],[],[]⟩ false mg=some uK:=by kernel_rfl
theorem MT:an Tryz.prog cq ⟨[],[],[],[],[],[]⟩ false ik=some lE:=by kernel_rfl
theorem He:an Tryz.prog cq ⟨[],[],[],[],[],[]⟩ false dv=some kS:=by kernel_rfl
theorem Hf:an Tryz.prog cq ⟨[],[],[],[],[],[]⟩ false dw=some kT:=by kernel_rfl
theorem uj:an Tryz.prog cq ⟨[],[],[],[],[],[]⟩ false aT=some cA:=by kernel_rfl
theorem RR:an Tryz.prog cq ⟨[],[],[],[],[],[]⟩ false mJ=some bU:=by kernel_rfl
theorem Xv:an Tryz.prog cq ⟨[],[],[],[],[],[]⟩ false qL=some tz:=by kernel_rfl
theorem MX:an Tryz.prog cq ⟨[],[3,3,7],[],[],[],[29,63]⟩ false jI=some oY:=by kernel_rfl
theorem Xn:an Tryz.prog cq ⟨[],[],[],[],[],[]⟩ false qG=some xE:=by kernel_rfl
theorem ade:an Tryz.prog cq ⟨[],[],[],[],[],[]⟩ false qF=some sD:=by kernel_rfl
theorem MV:an Tryz.prog cq ⟨[],[3,3,5],[],[],[],[]⟩ false fL=some oX:=by kernel_rfl
theorem adi:an Tryz.prog cq ⟨[],[],[],[],[],[]⟩ false te=some cI:=by kernel_rfl
theorem Xp:an Tryz.prog cq ⟨[],[5,11],[],[],[],[]⟩ false qI=some tv:=by kernel_rfl
theorem Ov:an Tryz.prog cq ⟨[],[3,6],[],[],[],[]⟩ false dY=some qe:=by kernel_rfl
theorem ag1:an Tryz.prog cq ⟨[],[],[],[],[],[]⟩ false tJ=some y7:=by kernel_rfl
theorem adn:an Tryz.prog cq ⟨[],[],[],[],[],[]⟩ false th=some mC:=by kernel_rfl
theorem UE:an Tryz.prog cq ⟨[4,6],[57],[],[],[],[]⟩ false l8=some j5:=by kernel_rfl
theorem rJ:an Tryz.prog cq ⟨[],[],[],[],[],[]⟩ false aS=some bp:=by kernel_rfl
theorem Xe:an Tryz.prog cq ⟨[6],[],[10],[],[],[10]⟩ false kr=some xB:=by kernel_rfl
theorem Ow:an Tryz.prog cq ⟨[],[],[],[],[],[]⟩ false dZ=some qf:=by kernel_rfl
theorem Ol:an Tryz.prog cq ⟨[12],[7,39],[],[],[],[]⟩ false kX=some jf:=by kernel_rfl
theorem HW:an Tryz.prog cq ⟨[],[],[],[],[],[]⟩ false dp=some lQ:=by kernel_rfl
theorem Kd:an Tryz.prog cq ⟨[],[5],[],[],[],[]⟩ false fT=some nj:=by kernel_rfl
theorem DT:an Tryz.prog cq ⟨[3],[],[],[],[],[]⟩ false eu=some iz:=by kernel_rfl
theorem UF:an Tryz.prog cq ⟨[],[5,5,5,8],[],[],[],[]⟩ false oJ=some oz:=by kernel_rfl
theorem jF:an Tryz.prog cq ⟨[8],[],[],[],[],[]⟩ false aM=some aL:=by kernel_rfl
theorem Gc:an Tryz.prog cq ⟨[5],[],[40],[],[],[]⟩ false er=some jT:=by kernel_rfl
theorem Ou:an Tryz.prog cq ⟨[],[],[99],[],[],[]⟩ false kZ=some bw:=by kernel_rfl
theorem Eh:an Tryz.prog cq ⟨[],[],[],[],[],[]⟩ true cg=some jg:=by kernel_rfl
theorem MU:an Tryz.prog cq ⟨[],[],[],[],[],[]⟩ true jH=some hZ:=by kernel_rfl
theorem wj:an Tryz.prog cq ⟨[],[],[],[],[],[]⟩ false bW=some cS:=by kernel_rfl
theorem UA:an Tryz.prog cq ⟨[],[],[],[],[],[]⟩ false oG=some lR:=by kernel_rfl
theorem Om:an Tryz.prog cq ⟨[],[],[12,25],[],[],[]⟩ false jm=some kR:=by kernel_rfl
theorem adg:an Tryz.prog cq ⟨[],[],[],[],[],[]⟩ false qH=some vV:=by kernel_rfl
theorem Xh:an Tryz.prog cq ⟨[],[],[12],[],[],[]⟩ false ku=some qd:=by kernel_rfl
theorem Xi:an Tryz.prog cq ⟨[],[],[],[],[],[]⟩ false qC=some eo:=by kernel_rfl
theorem UG:an Tryz.prog cq ⟨[],[3,5],[],[],[],[]⟩ false oK=some uF:=by kernel_rfl
theorem acY:an Tryz.prog cq ⟨[],[],[],[],[],[]⟩ false bP=some zn:=by kernel_rfl
theorem Oo:an Tryz.prog cq ⟨[],[],[],[],[],[]⟩ false gH=some dJ:=by kernel_rfl
theorem Kg:an Tryz.prog cq ⟨[],[3],[],[],[],[]⟩ false fV=some nr:=by kernel_rfl
theorem UQ:an Tryz.prog cq ⟨[2,6],[],[],[],[],[]⟩ false mf=some oD:=by kernel_rfl
theorem XE:an Tryz.prog cq ⟨[3],[],[],[],[],[]⟩ false oe=some xL:=by kernel_rfl
theorem Kc:an Tryz.prog cq ⟨[],[],[15],[],[],[]⟩ false cT=some BV:=by kernel_rfl
theorem Uw:an Tryz.prog cq ⟨[],[],[],[],[],[]⟩ false CX=some HQ:=by kernel_rfl
theorem Ef:an Tryz.prog cq ⟨[],[],[],[],[],[]⟩ false qA=some xz:=by kernel_rfl
theorem HV:an Tryz.prog cq ⟨[],[],[],[],[],[]⟩ false u6=some AL:=by kernel_rfl
theorem Ux:an Tryz.prog cq ⟨[9,21],[22,115],[],[],[],[]⟩ false l6=some iU:=by kernel_rfl
theorem B5:an Tryz.prog cq ⟨[],[],[],[],[],[]⟩ true ck=some ew:=by kernel_rfl
theorem AB:an Tryz.prog cq ⟨[],[3],[],[],[],[]⟩ false bV=some eS:=by kernel_rfl
theorem lB:an Tryz.prog cq ⟨[],[],[],[],[],[]⟩ false aW=some aV:=by kernel_rfl
theorem DV:an Tryz.prog cq ⟨[],[],[],[],[],[]⟩ false cF=some iA:=by kernel_rfl
theorem HY:an Tryz.prog cq ⟨[],[],[],[],[],[]⟩ false fi=some lW:=by kernel_rfl
theorem On:an Tryz.prog cq ⟨[],[],[],[],[],[]⟩ false fu=some nk:=by kernel_rfl
theorem RU:an Tryz.prog cq ⟨[4],[],[],[],[],[]⟩ false mL=some rS:=by kernel_rfl
theorem UB:an Tryz.prog cq ⟨[],[],[],[],[],[]⟩ false oH=some uD:=by kernel_rfl
theorem ac9:an Tryz.prog cq ⟨[],[],[4],[],[],[]⟩ false qB=some zy:=by kernel_rfl
theorem ajh:an Tryz.prog cq ⟨[],[],[],[],[],[]⟩ false xS=some BW:=by kernel_rfl
theorem Xk:an Tryz.prog cq ⟨[],[],[],[],[],[]⟩ false l9=some xD:=by kernel_rfl
theorem ada:an Tryz.prog cq ⟨[],[],[],[],[],[]⟩ false td=some zA:=by kernel_rfl
theorem Xj:an Tryz.prog cq ⟨[],[],[],[],[],[]⟩ false qD=some xC:=by kernel_rfl
theorem W8:an Tryz.prog cq ⟨[],[],[],[],[],[]⟩ false kq=some xu:=by kernel_rfl
theorem Oq:an Tryz.prog cq ⟨[],[],[],[],[],[]⟩ false kY=some p9:=by kernel_rfl
theorem MQ:an Tryz.prog cq ⟨[],[],[],[],[],[]⟩ false ig=some oV:=by kernel_rfl
theorem RT:an Tryz.prog cq ⟨[],[],[],[],[],[]⟩ false mK=some rR:=by kernel_rfl
theorem Kf:an Tryz.prog cq ⟨[],[],[],[],[],[]⟩ false iM=some np:=by kernel_rfl
theorem MP:an Tryz.prog cq ⟨[],[],[],[],[],[]⟩ false eI=some oU:=by kernel_rfl
theorem OL:an Tryz.prog cq ⟨[],[],[],[],[],[]⟩ false jq=some jj:=by kernel_rfl
theorem ado:an Tryz.prog cq ⟨[],[],[],[],[],[]⟩ false ti=some zC:=by kernel_rfl
theorem XF:an Tryz.prog cq ⟨[],[],[],[],[],[]⟩ false qN=some ia:=by kernel_rfl
theorem M4:an Tryz.prog cq ⟨[],[],[],[],[],[]⟩ true jK=some fI:=by kernel_rfl
theorem R1:an Tryz.prog cq ⟨[],[15],[],[],[],[]⟩ true gu=some mD:=by kernel_rfl
theorem M0:an Tryz.prog cq ⟨[],[],[],[],[],[]⟩ false ec=some o7:=by kernel_rfl
theorem ry:an Tryz.prog cq ⟨[],[],[],[],[],[]⟩ false bJ=some bZ:=by kernel_rfl
theorem R2:an Tryz.prog cq ⟨[],[],[],[],[],[]⟩ false dR=some Gm:=by kernel_rfl
theorem Hc:an Tryz.prog cq ⟨[],[],[],[],[],[]⟩ false oF=some zx:=by kernel_rfl
theorem MN:an Tryz.prog cq ⟨[],[],[],[],[],[]⟩ false sr=some Ds:=by kernel_rfl
theorem Uy:an Tryz.prog cq ⟨[5],[6,18],[],[],[],[]⟩ false l7=some rf:=by kernel_rfl
theorem Oi:an Tryz.prog cq ⟨[],[],[],[],[],[]⟩ false ft=some p7:=by kernel_rfl
theorem u0:an Tryz.prog cq ⟨[],[],[],[],[],[]⟩ false b8=some dn:=by kernel_rfl
theorem vI:an Tryz.prog cq ⟨[],[],[],[],[],[]⟩ false cj=some dC:=by kernel_rfl
theorem Uu:an Tryz.prog cq ⟨[],[],[],[],[],[]⟩ false gE=some uB:=by kernel_rfl
theorem UP:an Tryz.prog cq ⟨[],[],[],[],[],[]⟩ true j9=some uJ:=by kernel_rfl
theorem Kk:an Tryz.prog cq ⟨[],[],[],[],[],[]⟩ true iO=some iI:=by kernel_rfl
theorem OK:an Tryz.prog cq ⟨[],[],[],[],[],[]⟩ true gQ=some qn:=by kernel_rfl
theorem Ke:an Tryz.prog cq ⟨[],[],[],[],[],[]⟩ false iL=some nn:=by kernel_rfl
theorem R4:an Tryz.prog cq ⟨[5],[],[],[],[],[]⟩ false mQ=some rT:=by kernel_rfl
theorem sG:an Tryz.prog cq ⟨[],[],[],[],[],[]⟩ false bD=some cu:=by kernel_rfl
theorem Oj:an Tryz.prog cq ⟨[],[],[],[],[],[]⟩ false eC=some dj:=by kernel_rfl
theorem yg:an Tryz.prog cq ⟨[],[],[],[],[],[]⟩ false cK=some dh:=by kernel_rfl
theorem ac1:an Tryz.prog cq ⟨[],[],[],[],[],[]⟩ false sP=some zq:=by kernel_rfl
theorem ac0:an Tryz.prog cq ⟨[],[],[],[],[],[]⟩ false sN=some zp:=by kernel_rfl
theorem RO:an Tryz.prog cq ⟨[],[],[],[],[],[]⟩ false mH=some rO:=by kernel_rfl
theorem Oh:an Tryz.prog cq ⟨[],[],[],[],[],[]⟩ false kW=some ni:=by kernel_rfl
theorem W9:an Tryz.prog cq ⟨[],[],[],[],[],[]⟩ false qx=some xw:=by kernel_rfl
theorem RQ:an Tryz.prog cq ⟨[],[],[],[],[],[]⟩ false mI=some cz:=by kernel_rfl
theorem RP:an Tryz.prog cq ⟨[],[],[],[],[],[]⟩ false fq=some rP:=by kernel_rfl
theorem acX:an Tryz.prog cq ⟨[],[],[],[],[],[]⟩ false sL=some zm:=by kernel_rfl
theorem agZ:an Tryz.prog cq ⟨[],[],[],[],[],[]⟩ false wq=some BU:=by kernel_rfl
theorem ac6:an Tryz.prog cq ⟨[],[],[],[],[],[]⟩ false s9=some zw:=by kernel_rfl
theorem acW:an Tryz.prog cq ⟨[],[],[],[],[],[]⟩ false sH=some zl:=by kernel_rfl
theorem ac4:an Tryz.prog cq ⟨[],[],[],[],[],[]⟩ false s6=some zt:=by kernel_rfl
theorem acZ:an Tryz.prog cq ⟨[],[],[],[],[],[]⟩ false sM=some zo:=by kernel_rfl
theorem Xa:an Tryz.prog cq ⟨[],[],[],[],[],[]⟩ false qy=some tq:=by kernel_rfl
theorem Xb:an Tryz.prog cq ⟨[],[],[],[],[],[]⟩ false qz=some tr:=by kernel_rfl
theorem ac2:an Tryz.prog cq ⟨[],[],[],[],[],[]⟩ false sU=some zr:=by kernel_rfl
theorem W7:an Tryz.prog cq ⟨[],[],[],[],[],[]⟩ false qw=some xt:=by kernel_rfl
theorem W6:an Tryz.prog cq ⟨[],[],[],[],[],[]⟩ false qv=some xr:=by kernel_rfl
theorem Xd:an Tryz.prog cq ⟨[4],[],[],[],[],[]⟩ false nX=some xA:=by kernel_rfl
theorem ac5:an Tryz.prog cq ⟨[],[],[],[],[],[]⟩ false s7=some zu:=by kernel_rfl
theorem ac3:an Tryz.prog cq ⟨[],[],[],[],[],[]⟩ false sZ=some zs:=by kernel_rfl
theorem Uv:an Tryz.prog cq ⟨[],[],[],[],[],[]⟩ false gF=some fG:=by kernel_rfl
theorem Xc:an Tryz.prog cq ⟨[],[],[],[],[],[]⟩ false nW=some xy:=by kernel_rfl
theorem aU:∀g∈Tryz.prog.funcs,(g.name == "runtime.NumGoroutine")=false:=by
 have h:(Tryz.prog.funcs.all fun g=>(g.name == "runtime.NumGoroutine") == false)=true:=by kernel_rfl
 intro g hg;have:=Array.all_eq_true_iff_forall_mem.1 h g hg;simpa using this
set_option maxRecDepth 100000 in
theorem ar9:∀x∈tbl,Ud Tryz.prog cq x.1 x.2:=by
 simp only[tbl,List.forall_mem_cons]
 exact⟨(ai aU Hd).1,
  (ai aU DU).1,
  (ai aU Eg).1,
  (ai aU Xs).1,
  (ai aU RS).1,
  (ai aU UI).1,
  (ai aU Xq).1,
  (ai aU ag3).1,
  (ai aU adj).1,
  (ai aU OH).1,
  (ai aU MY).1,
  (ai aU Ox).1,
  (ai aU RW).1,
  (ai aU adb).1,
  (ai aU UK).1,
  (ai aU Ki).1,
  (ai aU Xt).1,
  (ai aU RY).1,
  (ai aU UH).1,
  (ai aU UJ).1,
  (ai aU Xx).1,
  (ai aU OI).1,
  (ai aU RX).1,
  (ai aU Oy).1,
  (ai aU Xl).1,
  (ai aU UC).1,
  (ai aU Oz).1,
  (ai aU Xz).1,
  (ai aU XB).1,
  (ai aU OA).1,
  (ai aU OB).1,
  (ai aU UL).1,
  (ai aU OC).1,
  (ai aU UN).1,
  (ai aU OD).1,
  (ai aU MR).1,
  (ai aU OE).1,
  (ai aU UM).1,
  (ai aU OF).1,
  (ai aU OG).1,
  (ai aU RZ).1,
  (ai aU adf).1,
  (ai aU adl).1,
  (ai aU Xo).1,
  (ai aU Xu).1,
  (ai aU Xr).1,
  (ai aU UD).1,
  (ai aU ac7).1,
  (ai aU Kh).1,
  (ai aU pT).1,
  (ai aU MZ).1,
  (ai aU HX).1,
  (ai aU Gb).1,
  (ai aU Xy).1,
  (ai aU Uz).1,
  (ai aU ag2).1,
  (ai aU MW).1,
  (ai aU adm).1,
  (ai aU adk).1,
  (ai aU MO).1,
  (ai aU adh).1,
  (ai aU XC).1,
  (ai aU MS).1,
  (ai aU UO).1,
  (ai aU Ot).1,
  (ai aU Kj).1,
  (ai aU R0).1,
  (ai aU XA).1,
  (ai aU Xw).1,
  (ai aU Xm).1,
  (ai aU OJ).1,
  (ai aU XD).1,
  (ai aU UR).1,
  (ai aU MT).1,
  (ai aU He).1,
  (ai aU Hf).1,
  (ai aU uj).1,
  (ai aU RR).1,
  (ai aU Xv).1,
  (ai aU MX).1,
  (ai aU Xn).1,
  (ai aU ade).1,
  (ai aU MV).1,
  (ai aU adi).1,
  (ai aU Xp).1,
  (ai aU Ov).1,
  (ai aU ag1).1,
  (ai aU adn).1,
  (ai aU UE).1,
  (ai aU rJ).1,
  (ai aU Xe).1,
  (ai aU Ow).1,
  (ai aU Ol).1,
  (ai aU HW).1,
  (ai aU Kd).1,
  (ai aU DT).1,
  (ai aU UF).1,
  (ai aU jF).1,
  (ai aU Gc).1,
  (ai aU Ou).1,
  (ai aU Eh).1,
  (ai aU MU).1,
  (ai aU wj).1,
  (ai aU UA).1,
  (ai aU Om).1,
  (ai aU adg).1,
  (ai aU Xh).1,
  (ai aU Xi).1,
  (ai aU UG).1,
  (ai aU acY).1,
  (ai aU Oo).1,
  (ai aU Kg).1,
  (ai aU UQ).1,
  (ai aU XE).1,
  (ai aU Kc).1,
  (ai aU Uw).1,
  (ai aU Ef).1,
  (ai aU HV).1,
  (ai aU Ux).1,
  (ai aU B5).1,
  (ai aU AB).1,
  (ai aU lB).1,
  (ai aU DV).1,
  (ai aU HY).1,
  (ai aU On).1,
  (ai aU RU).1,
  (ai aU UB).1,
  (ai aU ac9).1,
  (ai aU ajh).1,
  (ai aU Xk).1,
  (ai aU ada).1,
  (ai aU Xj).1,
  (ai aU W8).1,
  (ai aU Oq).1,
  (ai aU MQ).1,
  (ai aU RT).1,
  (ai aU Kf).1,
  (ai aU MP).1,
  (ai aU OL).1,
  (ai aU ado).1,
  (ai aU XF).1,
  (ai aU M4).1,
  (ai aU R1).1,
  (ai aU M0).1,
  (ai aU ry).1,
  (ai aU R2).1,
  (ai aU Hc).1,
  (ai aU MN).1,
  (ai aU Uy).1,
  (ai aU Oi).1,
  (ai aU u0).1,
  (ai aU vI).1,
  (ai aU Uu).1,
  (ai aU UP).1,
  (ai aU Kk).1,
  (ai aU OK).1,
  (ai aU Ke).1,
  (ai aU R4).1,
  (ai aU sG).1,
  (ai aU Oj).1,
  (ai aU yg).1,
  (ai aU ac1).1,
  (ai aU ac0).1,
  (ai aU RO).1,
  (ai aU Oh).1,
  (ai aU W9).1,
  (ai aU RQ).1,
  (ai aU RP).1,
  (ai aU acX).1,
  (ai aU agZ).1,
  (ai aU ac6).1,
  (ai aU acW).1,
  (ai aU ac4).1,
  (ai aU acZ).1,
  (ai aU Xa).1,
  (ai aU Xb).1,
  (ai aU ac2).1,
  (ai aU W7).1,
  (ai aU W6).1,
  (ai aU Xd).1,
  (ai aU ac5).1,
  (ai aU ac3).1,
  (ai aU Uv).1,
  (ai aU Xc).1,by simp⟩
theorem aoH:(tbl.all fun x=>!x.2.imp || !cq x.1)=true:=by kernel_rfl
theorem Ho{α:Type}:∀{l:List (FuncId×α)} {f:FuncId} {a:α},l.lookup f=some a→(f,a)∈l
 | [],_,_,h=>by cases h
 |(g,b)::l,f,a,h=>by
  simp only[List.lookup]at h;split at h
  ·rename_i he
   have:f=g:=by simpa using he
   cases h;rw[this];simp
  ·exact abp _ (Ho h)
end Go.Proofs.YtpccheodgonkkaaGreat
