import Derived.Test.YtpccheodgonkkaaGreatD0
import Derived.Test.YtpccheodgonkkaaGreatP0
import Derived.Test.YtpccheodgonkkaaGreatC0
set_option maxHeartbeats 0
set_option linter.unusedSimpArgs false
set_option linter.unusedVariables false
namespace Go.AE.S
open Go Go.AE
variable {τ:Tm} {σ:ah} {rd:Option Nat}
structure Wd where
 w:Int
 v:Nat
def jZ(x:Wd):List PV:=[.int .i64 x.w,.int .u64 (x.v:Int)]
def rv(o:Int)(c a b:Nat):Nat :=
 if o=5 then(a &&& b) % 2^c else
 if o=6 then(a |||b) % 2^c else
 if o=7 then(a ^^^ b) % 2^c else
 if o=8 then(a+b) % 2^c else
 if o=9 then(a+(18446744073709551616-b)) % 2^c else
 if o=10 then(a*b) % 2^c else
 if o=11 then Z5 c a b else
 if o=12 then Z8 c a b else
 if o=13 then aiq c a b else
 if o=14 then IS c a b else
 if o=15 then Ob c a b else
 if o=16 then B8 (decide (a % 2^c=b % 2^c))else
 if o=17 then B8 (decide (a % 2^c<b % 2^c))else
 B8 (decide (As c a<As c b))
theorem akU(w:Int)(a:Nat)(ha:W a):R P nX [.int .i64 w,.int .u64 (a:Int)]=some (.agg (jZ ⟨w,a % 2^cw w⟩)):=by
 have h:=mT w a ha;have hb:∀(x y:Int),j7 [.p (.int .i64 0),.p (.int .u64 0)] [(0,1,.p (.int .i64 x)),(1,1,.p (.int .u64 y))]=some (.p (.agg [.int .i64 x,.int .u64 y])):=fun _ _=>rfl
 have h1:∀σ:ah,uX 2 (aX [.p (.int .i64 0),.p (.int .u64 0)] σ)=some (.ptr σ.length 1 0 0,σ++[.pv 2 [[.int .i64 0,.int .u64 0]] false]):=fun _=>rfl
 have h2:∀(x y x' y':Int),eY [.pv 2 [[.int .i64 x,.int .u64 y]] false] 2 (.ptr 0 1 0 0) (.p (.agg [.int .i64 x',.int .u64 y']))=some [.pv 2 [[.int .i64 x',.int .u64 y']] false]:=fun _ _ _ _=>rfl
 have h3:∀(x y:Int),iu [.pv 2 [[.int .i64 x,.int .u64 y]] false] 2 true (.ptr 0 1 0 0)=some (.p (.agg [.int .i64 x,.int .u64 y])):=fun _ _=>rfl
 have h4:∀(x y:Int),RF 1 0 0 2 true (some (.pv 2 [[.int .i64 x,.int .u64 y]] false))=some (.p (.agg [.int .i64 x,.int .u64 y])):=fun _ _=>rfl
 have h5:∀(x y x' y':Int),Wj [.pv 2 [[.int .i64 x,.int .u64 y]] false] 0 1 0 0 [.p (.int .i64 x'),.p (.int .u64 y')] (some (.pv 2 [[.int .i64 x,.int .u64 y]] false))=some [.pv 2 [[.int .i64 x',.int .u64 y']] false]:=fun _ _ _ _=>rfl
 (rw[Zb (aD rfl),xA];simp(disch:=omega)only[aB,↓aa,seval,-List.reduceReplicate,reduceCtorEq,ae,cx,h,hb,jZ,h1,h2,h3,h4,h5])
theorem aqm(w w':Int)(x y:Int):X7 false [.int,.int] (.p (.agg [.int .i64 w,.int .u64 x])) (.p (.agg [.int .i64 w,.int .u64 y]))=some (.p (.bool (decide (x=y)))):=by
 simp[X7,dF,pF];rw[abC];simp
theorem akP(o w:Int)(a b:Nat)(ha:W a)(hb0:W b):R P mI [.int .i64 o,.int .i64 w,.int .u64 (a:Int),.int .u64 (b:Int)]=some (.int .u64 ((rv o (cw w) a b:Nat):Int)):=by
 rcases cY (o=5)with e5|e5
 ·have hb:rv o (cw w) a b=(a &&& b) % 2^cw w:=by unfold rv;simp only[e5,if_true,if_false]
  rw[hb];have k1:=auj w a b ha hb0
  (rw[dx (aD rfl),cz];simp(disch:=omega)only[aB,↓aa,seval,-List.reduceReplicate,reduceCtorEq,ae,e5,aeu,k1])
 rcases cY (o=6)with e6|e6
 ·have hb:rv o (cw w) a b=(a |||b) % 2^cw w:=by unfold rv;simp only[e5,e6,if_true,if_false]
  rw[hb];have k1:=av9 w a b ha hb0
  (rw[dx (aD rfl),cz];simp(disch:=omega)only[aB,↓aa,seval,-List.reduceReplicate,reduceCtorEq,ae,e5,e6,aia,k1])
 rcases cY (o=7)with e7|e7
 ·have hb:rv o (cw w) a b=(a ^^^ b) % 2^cw w:=by unfold rv;simp only[e5,e6,e7,if_true,if_false]
  rw[hb];have k1:=aur w a b ha hb0
  (rw[dx (aD rfl),cz];simp(disch:=omega)only[aB,↓aa,seval,-List.reduceReplicate,reduceCtorEq,ae,e5,e6,e7,aeC,k1])
 rcases cY (o=8)with e8|e8
 ·have hb:rv o (cw w) a b=(a+b) % 2^cw w:=by unfold rv;simp only[e5,e6,e7,e8,if_true,if_false]
  rw[hb];have k1:=aui w a b ha hb0
  (rw[dx (aD rfl),cz];simp(disch:=omega)only[aB,↓aa,seval,-List.reduceReplicate,reduceCtorEq,ae,e5,e6,e7,e8,aet,k1])
 rcases cY (o=9)with e9|e9
 ·have hb:rv o (cw w) a b=(a+(18446744073709551616-b)) % 2^cw w:=by unfold rv;simp only[e5,e6,e7,e8,e9,if_true,if_false]
  rw[hb];have k1:=aup w a b ha hb0
  (rw[dx (aD rfl),cz];simp(disch:=omega)only[aB,↓aa,seval,-List.reduceReplicate,reduceCtorEq,ae,e5,e6,e7,e8,e9,aeA,k1])
 rcases cY (o=10)with e10|e10
 ·have hb:rv o (cw w) a b=(a*b) % 2^cw w:=by unfold rv;simp only[e5,e6,e7,e8,e9,e10,if_true,if_false]
  rw[hb];have k1:=auk w a b ha hb0
  (rw[dx (aD rfl),cz];simp(disch:=omega)only[aB,↓aa,seval,-List.reduceReplicate,reduceCtorEq,ae,e5,e6,e7,e8,e9,e10,aev,k1])
 rcases cY (o=11)with e11|e11
 ·have hb:rv o (cw w) a b=Z5 (cw w) a b:=by unfold rv;simp only[e5,e6,e7,e8,e9,e10,e11,if_true,if_false]
  rw[hb];have k1:=aqX w a b ha hb0
  (rw[dx (aD rfl),cz];simp(disch:=omega)only[aB,↓aa,seval,-List.reduceReplicate,reduceCtorEq,ae,e5,e6,e7,e8,e9,e10,e11,Y2,k1])
 rcases cY (o=12)with e12|e12
 ·have hb:rv o (cw w) a b=Z8 (cw w) a b:=by unfold rv;simp only[e5,e6,e7,e8,e9,e10,e11,e12,if_true,if_false]
  rw[hb];have k1:=aqY w a b ha hb0
  (rw[dx (aD rfl),cz];simp(disch:=omega)only[aB,↓aa,seval,-List.reduceReplicate,reduceCtorEq,ae,e5,e6,e7,e8,e9,e10,e11,e12,Y3,k1])
 rcases cY (o=13)with e13|e13
 ·have hb:rv o (cw w) a b=aiq (cw w) a b:=by unfold rv;simp only[e5,e6,e7,e8,e9,e10,e11,e12,e13,if_true,if_false]
  rw[hb];have k1:=aun w a b ha hb0
  (rw[dx (aD rfl),cz];simp(disch:=omega)only[aB,↓aa,seval,-List.reduceReplicate,reduceCtorEq,ae,e5,e6,e7,e8,e9,e10,e11,e12,e13,aey,k1])
 rcases cY (o=14)with e14|e14
 ·have hb:rv o (cw w) a b=IS (cw w) a b:=by unfold rv;simp only[e5,e6,e7,e8,e9,e10,e11,e12,e13,e14,if_true,if_false]
  rw[hb];have k1:=aqV w a b ha hb0
  (rw[dx (aD rfl),cz];simp(disch:=omega)only[aB,↓aa,seval,-List.reduceReplicate,reduceCtorEq,ae,e5,e6,e7,e8,e9,e10,e11,e12,e13,e14,Y0,k1])
 rcases cY (o=15)with e15|e15
 ·have hb:rv o (cw w) a b=Ob (cw w) a b:=by unfold rv;simp only[e5,e6,e7,e8,e9,e10,e11,e12,e13,e14,e15,if_true,if_false]
  rw[hb];have k1:=aqU w a b ha hb0
  (rw[dx (aD rfl),cz];simp(disch:=omega)only[aB,↓aa,seval,-List.reduceReplicate,reduceCtorEq,ae,e5,e6,e7,e8,e9,e10,e11,e12,e13,e14,e15,YZ,k1])
 rcases cY (o=16)with e16|e16
 ·have hb:rv o (cw w) a b=B8 (decide (a % 2^(cw w)=b % 2^cw w)):=by unfold rv;simp only[e5,e6,e7,e8,e9,e10,e11,e12,e13,e14,e15,e16,if_true,if_false]
  rw[hb];have k1:=akU w a ha;have k2:=akU w b hb0;simp only[jZ]at k1 k2;have he:=fun x y=>aqm w w x y
  by_cases h0:a % 2^cw w=b % 2^cw w
  ·have hl:((((a % 2^cw w:Nat):Int))=((b % 2^cw w:Nat):Int))=True:=by rw[h0];simp
   rw[decide_eq_true h0]
   (rw[dx (aD rfl),cz];simp(disch:=omega)only[aB,↓aa,seval,-List.reduceReplicate,reduceCtorEq,ae,e5,e6,e7,e8,e9,e10,e11,e12,e13,e14,e15,e16,Mi,k1,k2,he,hl,B8])
  ·have hl:((((a % 2^cw w:Nat):Int))=((b % 2^cw w:Nat):Int))=False:=by simp only[eq_iff_iff,iff_false];omega
   rw[decide_eq_false h0]
   (rw[dx (aD rfl),cz];simp(disch:=omega)only[aB,↓aa,seval,-List.reduceReplicate,reduceCtorEq,ae,e5,e6,e7,e8,e9,e10,e11,e12,e13,e14,e15,e16,Mi,k1,k2,he,hl,B8])
 rcases cY (o=17)with e17|e17
 ·have hb:rv o (cw w) a b=B8 (decide (a % 2^(cw w)<b % 2^cw w)):=by unfold rv;simp only[e5,e6,e7,e8,e9,e10,e11,e12,e13,e14,e15,e16,e17,if_true,if_false]
  rw[hb];have k1:=auq w a b ha hb0
  (rw[dx (aD rfl),cz];simp(disch:=omega)only[aB,↓aa,seval,-List.reduceReplicate,reduceCtorEq,ae,e5,e6,e7,e8,e9,e10,e11,e12,e13,e14,e15,e16,e17,aeB,k1])
 have hb:rv o (cw w) a b=B8 (decide (As (cw w) a<As (cw w) b)):=by unfold rv;simp only[e5,e6,e7,e8,e9,e10,e11,e12,e13,e14,e15,e16,e17,if_false]
 rw[hb];have k1:=auo w a b ha hb0
 (rw[dx (aD rfl),cz];simp(disch:=omega)only[aB,↓aa,seval,-List.reduceReplicate,reduceCtorEq,ae,e5,e6,e7,e8,e9,e10,e11,e12,e13,e14,e15,e16,e17,aez,k1])
theorem asy{x:Wd}:iu σ 1 false (.p (.ptr (jZ x) 0))=some (.p (.int .i64 x.w)):=rfl
theorem Wr{x:Wd}:iu σ 1 false (.p (.ptr (jZ x) 1))=some (.p (.int .u64 (x.v:Int))):=rfl
theorem amk{x:Wd}:Pd 0 (.p (.ptr (jZ x) 0))=some (.p (.ptr (jZ x) 0)):=rfl
theorem J0{x:Wd}:Pd 1 (.p (.ptr (jZ x) 0))=some (.p (.ptr (jZ x) 1)):=rfl
theorem Wq{x:Wd}{l:List (List PV)}:gj σ 2 (.p (.aO (jZ x::l))) (.p (.int .i64 0))=some (.p (.ptr (jZ x) 0)):=rfl
theorem ao0{x y:Wd}{l:List (List PV)}:gj σ 2 (.p (.aO (jZ x::jZ y::l))) (.p (.int .i64 1))=some (.p (.ptr (jZ y) 0)):=rfl
theorem avz{x y z:Wd}{l:List (List PV)}:gj σ 2 (.p (.aO (jZ x::jZ y::jZ z::l))) (.p (.int .i64 2))=some (.p (.ptr (jZ z) 0)):=rfl
theorem J1{x:Wd}:(jZ x)[0]?=some (.int .i64 x.w):=rfl
theorem J2{x:Wd}:(jZ x)[1]?=some (.int .u64 (x.v:Int)):=rfl
def av7(v:Nat):Int:=IntKind.i64.wrap (v:Int)
def vN(o r:Int)(v:Nat):List Wd→Nat
 | []=>v
 | [x]=>if o=3 then(18446744073709551615-x.v) % 2^cw r else if o=4 then(18446744073709551616-x.v) % 2^cw r else if o=21 then Ig (av7 v) (cw r) x.v else if o=23 then agy (cw x.w) (cw r) x.v else x.v
 | [x,y]=>if o=20 then NH (cw x.w) (cw y.w) x.v y.v else rv o (cw x.w) x.v y.v
 |x::y::z::_=>if x.v=1 then y.v else z.v
theorem anK(r:Int)(v:Nat)(l:List Wd):R P eC [.int .i64 2,.int .i64 r,.int .u64 (v:Int),.aO (l.map jZ)]=some (.int .u64 (v:Int)):=by
 (rw[fD (aD rfl),dj];simp(disch:=omega)only[aB,↓aa,seval,-List.reduceReplicate,reduceCtorEq,ae])
theorem anL(o r:Int)(v:Nat)(x:Wd)(ho:o=3∨o=4∨o=21∨o=22∨o=23)(hv:W v)(hx:W x.v):R P eC [.int .i64 o,.int .i64 r,.int .u64 (v:Int),.aO [jZ x]]=some (.int .u64 ((vN o r v [x]:Nat):Int)):=by
 rcases ho with rfl|rfl|rfl|rfl|rfl
 ·have k:=aum r x.v hx
  (rw[fD (aD rfl),dj];simp(disch:=omega)only[aB,↓aa,seval,-List.reduceReplicate,reduceCtorEq,ae,Wq,J0,Wr,J1,J2,aex,k])
  rfl
 ·have k:=aul r x.v hx
  (rw[fD (aD rfl),dj];simp(disch:=omega)only[aB,↓aa,seval,-List.reduceReplicate,reduceCtorEq,ae,Wq,J0,Wr,J1,J2,aew,k])
  rfl
 ·have k:=ahZ (IntKind.i64.wrap (v:Int)) r x.v hx
  (rw[fD (aD rfl),dj];simp(disch:=omega)only[aB,↓aa,seval,-List.reduceReplicate,reduceCtorEq,ae,Wq,J0,Wr,J1,J2,Qv,k])
  rfl
 ·(rw[fD (aD rfl),dj];simp(disch:=omega)only[aB,↓aa,seval,-List.reduceReplicate,reduceCtorEq,ae,Wq,J0,Wr,J1,J2])
  rfl
 ·have k:=aqW x.w r x.v hx
  (rw[fD (aD rfl),dj];simp(disch:=omega)only[aB,↓aa,seval,-List.reduceReplicate,reduceCtorEq,ae,Wq,amk,asy,J0,Wr,J1,J2,Y1,k])
  rfl
theorem anM(o r:Int)(v:Nat)(x y:Wd)(ho:(5≤o∧o≤18)∨o=20)(hx:W x.v)(hy:W y.v):R P eC [.int .i64 o,.int .i64 r,.int .u64 (v:Int),.aO [jZ x,jZ y]]=some (.int .u64 ((vN o r v [x,y]:Nat):Int)):=by
 by_cases h20:o=20
 ·subst h20
  have k:=akM x.w y.w x.v y.v hx hy;have hb:vN 20 r v [x,y]=NH (cw x.w) (cw y.w) x.v y.v:=by simp[vN]
  rw[hb]
  (rw[fD (aD rfl),dj];simp(disch:=omega)only[aB,↓aa,seval,-List.reduceReplicate,reduceCtorEq,ae,Wq,ao0,amk,asy,J0,Wr,J1,J2,Sp,k])
 ·have hb:vN o r v [x,y]=rv o (cw x.w) x.v y.v:=by simp[vN,h20]
  rw[hb];have e2:(o=2)=False:=by simp;omega
  have e3:(o=3)=False:=by simp;omega
  have e4:(o=4)=False:=by simp;omega
  have e19:(o=19)=False:=by simp;omega
  have e20:(o=20)=False:=by simp;omega
  have e21:(o=21)=False:=by simp;omega
  have e22:(o=22)=False:=by simp;omega
  have e23:(o=23)=False:=by simp;omega
  have k:=akP o x.w x.v y.v hx hy
  (rw[fD (aD rfl),dj];simp(disch:=omega)only[aB,↓aa,seval,-List.reduceReplicate,reduceCtorEq,ae,e2,e3,e4,e19,e20,e21,e22,e23,Wq,ao0,amk,asy,J0,Wr,J1,J2,Sq,k])
theorem anN(r:Int)(v:Nat)(x y z:Wd):R P eC [.int .i64 19,.int .i64 r,.int .u64 (v:Int),.aO [jZ x,jZ y,jZ z]]=some (.int .u64 ((vN 19 r v [x,y,z]:Nat):Int)):=by
 by_cases h1:x.v=1
 ·have e:((x.v:Int)=1)=True:=by simp only[eq_iff_iff,iff_true];omega
  have hb:vN 19 r v [x,y,z]=y.v:=by simp[vN,h1]
  rw[hb]
  (rw[fD (aD rfl),dj];simp(disch:=omega)only[aB,↓aa,seval,-List.reduceReplicate,reduceCtorEq,ae,Wq,ao0,avz,J0,Wr,J1,J2,e])
 ·have e:((x.v:Int)=1)=False:=by simp only[eq_iff_iff,iff_false];omega
  have hb:vN 19 r v [x,y,z]=z.v:=by simp[vN,h1]
  rw[hb]
  (rw[fD (aD rfl),dj];simp(disch:=omega)only[aB,↓aa,seval,-List.reduceReplicate,reduceCtorEq,ae,Wq,ao0,avz,J0,Wr,J1,J2,e])
def aiU(o:Int)(n:Nat):Prop:=(o=2∧n=0)∨((o=3∨o=4∨o=21∨o=22∨o=23)∧n=1)∨(((5≤o∧o≤18)∨o=20)∧n=2)∨(o=19∧n=3)
theorem ah0(o r:Int)(v:Nat)(l:List Wd)(ha:aiU o l.length)(hv:W v)(hl:∀x∈l,W x.v):R P eC [.int .i64 o,.int .i64 r,.int .u64 (v:Int),.aO (l.map jZ)]=some (.int .u64 ((vN o r v l:Nat):Int)):=by
 rcases ha with⟨rfl,h⟩|⟨ho,h⟩|⟨ho,h⟩|⟨rfl,h⟩
 ·match l,h with
  | [],_=>exact anK r v []
 ·match l,h with
  | [x],_=>exact anL o r v x ho hv (hl x (by simp))
 ·match l,h with
  | [x,y],_=>exact anM o r v x y ho (hl x (by simp)) (hl y (by simp))
 ·match l,h with
  | [x,y,z],_=>exact anN r v x y z
theorem amO{c:Nat}(h:1≤c∧c≤64)(a b:Nat):Ob c a b<2^c:=by
 have hp:0<2^c:=RD (by omega)
 have hm:a % 2^c<2^c:=S3 _ hp;unfold Ob IS;split
 ·split
  ·exact hp
  ·exact abr (ab4 _ _) hm
 ·split
  ·omega
  ·rename_i hn
   have hs:=Bj (c:=c) (n:=b % 2^c) (by omega)
   have hr:a % 2^c / 2^(b % 2^c)<2^(c-b % 2^c):=by rw[aci (RD (by omega)),hs];exact hm
   have hle:2^(c-b % 2^c)≤2^c:=aa7 (by omega) (by omega)
   omega
theorem U9(b:Bool):B8 b<2:=by unfold B8;split<;>omega
theorem ap6{c:Nat}(h:1≤c∧c≤64)(o:Int)(a b:Nat):rv o c a b<2^c:=by
 have hp:0<2^c:=RD (by omega)
 have h2:2≤2^c:=by have:=aa7 (show 0<2 by omega) h.1;simpa using this
 have hm:=fun x=>S3 x hp
 have fl:=fun b=>WD (U9 b) h2
 unfold rv;by_cases h5:o=5
 ·rw[if_pos h5];exact hm _
 rw[if_neg h5];by_cases h6:o=6
 ·rw[if_pos h6];exact hm _
 rw[if_neg h6];by_cases h7:o=7
 ·rw[if_pos h7];exact hm _
 rw[if_neg h7];by_cases h8:o=8
 ·rw[if_pos h8];exact hm _
 rw[if_neg h8];by_cases h9:o=9
 ·rw[if_pos h9];exact hm _
 rw[if_neg h9];by_cases h10:o=10
 ·rw[if_pos h10];exact hm _
 rw[if_neg h10];by_cases h11:o=11
 ·rw[if_pos h11]
  unfold Z5;split
  ·omega
  ·exact abr (ab4 _ _) (hm _)
 rw[if_neg h11];by_cases h12:o=12
 ·rw[if_pos h12]
  unfold Z8;split
  ·exact hm _
  ·exact abr (Nat.mod_le _ _) (hm _)
 rw[if_neg h12];by_cases h13:o=13
 ·rw[if_pos h13]
  unfold aiq;split
  ·exact hp
  ·exact hm _
 rw[if_neg h13];by_cases h14:o=14
 ·rw[if_pos h14]
  unfold IS;split
  ·exact hp
  ·exact abr (ab4 _ _) (hm _)
 rw[if_neg h14];by_cases h15:o=15
 ·rw[if_pos h15];exact amO h _ _
 rw[if_neg h15];by_cases h16:o=16
 ·rw[if_pos h16];exact fl _
 rw[if_neg h16];by_cases h17:o=17
 ·rw[if_pos h17];exact fl _
 rw[if_neg h17];exact fl _
def Dq(n:Nat):List PV:=[.int .u64 (n:Int)]
theorem ath{n:Int}:lr σ 1 1 (gR (List.replicate 1 [.p (.int .u64 0)]).flatten [(0,1,.p (.int .u64 n))])=some (.sl σ.length 1,σ++[.pv 1 [[.int .u64 n]] false]):=rfl
end Go.AE.S
namespace Go.AE
namespace Term
mutual
def AI(E:ByteArray→Nat):Term→Nat
 |.mk o w v s as=>if o=1 then E s % 2^S.cw w else S.vN o w v.toNat (vT E as)
def vT(E:ByteArray→Nat):List Term→List S.Wd
 | []=>[]
 |a::r=>⟨a.w,AI E a⟩::vT E r
end
theorem NW(E:ByteArray→Nat)(t:Term):t.AI E=if t.op=1 then E t.name % 2^S.cw t.w else S.vN t.op t.w t.v.toNat (vT E t.args):=by
 cases t;rw[AI];rfl
theorem uh(E:ByteArray→Nat):∀l:List Term,vT E l=l.map fun a=>⟨a.w,a.AI E⟩
 | []=>by rw[vT];rfl
 |a::r=>by rw[vT,uh E r];rfl
end Term
namespace S
open Go Go.AE
structure aiW (t:Term):Prop where
 ar:(t.args.length:Int)=arity t.op∧0≤arity t.op∧¬(24≤t.op∧t.op≤26)
 w:1≤t.w
 wd:bM t.op t.w t.v (t.args.map Term.w)=(t.w,0)
theorem agm{t:Term}(h:vh t=0):aiW t:=by
 unfold vh at h;split at h
 ·cases h
 rename_i h1;split at h
 ·cases h
 rename_i h2;split at h
 ·cases h
 rename_i h3;split at h
 ·cases h
 split at h
 ·cases h
 split at h
 ·cases h
 split at h
 ·cases h
 rename_i h7;split at h
 ·cases h
 rename_i h8;split at h
 ·cases h
 rename_i h9;refine⟨⟨Ww.1 h3,by omega,h2⟩,by omega,?_⟩
 exact Prod.ext (Ww.1 h9) (Ww.1 h8)
theorem atb{o:Int}{n:Nat}(h:(n:Int)=arity o∧0≤arity o∧¬(24≤o∧o≤26))(h1:o≠1):aiU o n:=by
 obtain⟨ha,hn,hp⟩:=h;unfold arity at ha hn;unfold aiU;split at ha
 ·omega
 ·split at ha
  ·omega
  ·split at ha
   ·omega
   ·split at ha
    ·omega
    ·rename_i a b c d
     rw[if_neg a,if_neg b,if_neg c,if_neg d]at hn;omega
def InW(l:List Wd):Prop:=∀x∈l,x.v<2^cw x.w
theorem atk{a b:Int}(h:a≤b):cw a≤cw b:=by unfold cw jl;omega
theorem YU{a b:Nat}(h:a≤b):2^a≤2^b:=aa7 (by omega) h
theorem anb{o w v:Int}{l:List Wd}(hw1:1≤w)(ho1:o≠1)(hv:0≤v)(har:aiU o l.length)(hwd:bM o w v (l.map (·.w))=(w,0))(hl:InW l):vN o w v.toNat l<2^cw w∧(∀x,l=[x]→o=3∨o=4→cw w=cw x.w):=by
 have hm:=fun y=>S3 y (show 0<2^cw w from RD (by omega))
 rcases har with⟨rfl,h⟩|⟨ho,h⟩|⟨ho,h⟩|⟨rfl,h⟩
 ·have hl0:l=[]:=Lc.1 h
  subst hl0;refine⟨?_,fun x h=>by cases h⟩
  have e:bM 2 w v []=rG 2 w v:=rfl;rw[B0,e]at hwd;unfold rG at hwd;split at hwd
  ·have:=congrArg Prod.snd hwd;simp at this
  ·rename_i hc
   have hcw:cw w=w.toNat:=by unfold cw jl;omega
   show v.toNat<2^cw w;rw[hcw]
   have h2:v<(2:Int)^w.toNat:=by
    rcases Int.lt_or_le v ((2:Int)^w.toNat)with h|h
    ·exact h
    ·exact absurd (.inr ⟨rfl,by omega,h⟩) hc
   have h3:((2:Int)^w.toNat)=((2^w.toNat:Nat):Int):=by simp
   omega
 ·match l,h,hl with
  | [x],_,hl=>
   have hx:=hl x (by simp)
   have hok:∀f:Int,o=3∨o=4→bM o w v [f]=if okW f=false then(0,3)else(f,0):=by
    intro f h;rcases h with rfl|rfl<;>simp[bM,arity]
   have hsz:∀f:Int,o=21∨o=22∨o=23→bM o w v [f]=if okW f=false then(0,3)else q5 o w v f:=by
    intro f h;rcases h with rfl|rfl|rfl<;>simp[bM,arity]
   rw[rK,B0]at hwd
   have h34:o=3∨o=4→cw w=cw x.w:=by
    intro h;rw[hok _ h]at hwd;split at hwd
    ·have:=congrArg Prod.snd hwd;simp at this
    ·have:=congrArg Prod.fst hwd;simp at this;rw[this]
   refine⟨?_,fun y hy h=>by cases hy;exact h34 h⟩
   simp only[vN];by_cases h3:o=3
   ·rw[if_pos h3];exact hm _
   rw[if_neg h3];by_cases h4:o=4
   ·rw[if_pos h4];exact hm _
   rw[if_neg h4];by_cases h21:o=21
   ·rw[if_pos h21]
    unfold Ig;split
    ·exact RD (by omega)
    ·exact hm _
   rw[if_neg h21];by_cases h23:o=23
   ·rw[if_pos h23]
    unfold agy;exact hm _
   rw[if_neg h23];have h22:o=22:=by omega
   rw[hsz _ (.inr (.inl h22))]at hwd;split at hwd
   ·have:=congrArg Prod.snd hwd;simp at this
   ·unfold q5 at hwd
    split at hwd
    ·have:=congrArg Prod.snd hwd;simp at this
    ·rename_i hc
     have hle:x.w≤w:=by omega
     exact WD hx (YU (atk hle))
 ·match l,h,hl with
  | [x,y],_,hl=>
   have hx:=hl x (by simp)
   have hy:=hl y (by simp)
   refine⟨?_,fun z hz=>by simp at hz⟩
   rw[rK,rK,B0]at hwd;simp only[vN];by_cases h20:o=20
   ·subst h20
    rw[if_pos rfl];have e:bM 20 w v [x.w,y.w]=if[x.w,y.w].all okW=false then(0,3)else if 1≤x.w∧1≤y.w∧x.w+y.w≤64 then(x.w+y.w,0)else(0,3):=by simp[bM,arity]
    rw[e]at hwd;split at hwd
    ·have:=congrArg Prod.snd hwd;simp at this
    ·split at hwd
     ·rename_i hc
      have hw:x.w+y.w=w:=congrArg Prod.fst hwd;have hcw:cw w=cw x.w+cw y.w:=by unfold cw jl;omega
      rw[hcw];unfold NH;refine Nat.or_lt_two_pow ?_ (WD (S3 _ (RD (by omega))) (YU (by omega)))
      refine abr (Nat.mod_le _ _) ?_;rw[Nat.pow_add];exact Nat.mul_lt_mul_of_pos_right (S3 _ (RD (by omega))) (RD (by omega))
     ·have:=congrArg Prod.snd hwd;simp at this
   ·rw[if_neg h20]
    have ho':5≤o∧o≤18:=by omega
    have e:bM o w v [x.w,y.w]=if[x.w,y.w].all okW=false then(0,3)else if x.w=y.w then(if o=16∨o=17∨o=18 then(1,0)else(x.w,0))else(0,3):=by
     have ha:arity o=2:=by unfold arity;rw[if_neg (by omega),if_neg (by omega),if_neg (by omega),if_pos (by omega)]
     unfold bM;rw[ha,if_neg (by simp),if_neg (show ¬(2:Int)=0 by omega),if_neg (show ¬(o=21∨o=22∨o=23) by omega),if_neg (show ¬(2:Int)=1 by omega),if_neg h20,if_neg (show ¬o=19 by omega)]
     rfl
    rw[e]at hwd;split at hwd
    ·have:=congrArg Prod.snd hwd;simp at this
    ·split at hwd
     ·split at hwd
      ·rename_i hc
       have hw:(1:Int)=w:=congrArg Prod.fst hwd;have hcw:cw w=1:=by rw[←hw];rfl
       rw[hcw];have hf:=U9;rcases hc with rfl|rfl|rfl<;>simp only[rv]<;>simp<;>exact U9 _
      ·have hw:x.w=w:=congrArg Prod.fst hwd
       rw[←hw];exact ap6 (yv x.w) o _ _
     ·have:=congrArg Prod.snd hwd;simp at this
 ·match l,h,hl with
  | [x,y,z],_,hl=>
   have hy:=hl y (by simp)
   have hz:=hl z (by simp)
   refine⟨?_,fun z hz=>by simp at hz⟩
   rw[rK,rK,rK,B0]at hwd;have e:bM 19 w v [x.w,y.w,z.w]=if[x.w,y.w,z.w].all okW=false then(0,3)else if x.w=1∧y.w=z.w then(y.w,0)else(0,3):=by simp[bM,arity]
   rw[e]at hwd;split at hwd
   ·have:=congrArg Prod.snd hwd;simp at this
   ·split at hwd
    ·rename_i hc
     have hw:y.w=w:=congrArg Prod.fst hwd;simp only[vN];split
     ·rw[←hw];exact hy
     ·rw[←hw,hc.2];exact hz
    ·have:=congrArg Prod.snd hwd;simp at this
end S
end Go.AE
namespace Go.AE.S
open Go Go.AE
def Qt(n:ByteArray):List V2→Nat
 | []=>0
 |a::r=>if slt a.name n=true then Qt n r+1 else 0
def ad0(n:ByteArray)(s:List V2):Bool:=match s[Qt n s]? with|some a=>decide (a.name=n)|none=>false
def Vj(s:List V2)(u:Term):List V2:=if u.op=1 then if ad0 u.name s=true then s else s.take (Qt u.name s)++[⟨u.name,u.w⟩]++s.drop (Qt u.name s)else s
theorem Vk(s:List V2)(u:Term):Vj s u=if u.op=1 then pG s ⟨u.name,u.w⟩else s:=by
 unfold Vj;by_cases h1:u.op=1
 ·rw[if_pos h1,if_pos h1]
  induction s with
  |nil=>rfl
  |cons a r ih=>
   unfold pG;by_cases h2:a.name=u.name
   ·have h3:¬slt a.name u.name=true:=by rw[h2,gX];simp
    have h4:Qt u.name (a::r)=0:=by unfold Qt;rw[if_neg h3]
    rw[if_pos h2,if_pos (by unfold ad0;rw[h4];simp[h2])]
   ·rw[if_neg h2]
    by_cases h3:slt u.name a.name=true
    ·have h4:Qt u.name (a::r)=0:=by unfold Qt;rw[if_neg (by rw[r8 h3];simp)]
     rw[if_pos h3,if_neg (by unfold ad0;rw[h4];simp[h2]),h4]
     rfl
    ·have h5:slt a.name u.name=true:=by
      rcases sz a.name u.name with h|h|h
      ·exact h
      ·exact absurd h h2
      ·exact absurd h h3
     have h4:Qt u.name (a::r)=Qt u.name r+1:=by conv=>lhs;unfold Qt;rw[if_pos h5]
     have h6:ad0 u.name (a::r)=ad0 u.name r:=by unfold ad0;rw[h4];rfl
     rw[if_neg h3,←ih,h6,h4];by_cases h7:ad0 u.name r=true
     ·rw[if_pos h7,if_pos h7]
     ·rw[if_neg h7,if_neg h7];rfl
 ·rw[if_neg h1,if_neg h1]
theorem zU:∀{s:List V2} {v x:V2},dS s→(x∈pG s v↔x∈s∨(x=v∧∀a∈s,a.name≠v.name))
 | [],v,x,_=>by simp[pG]
 |a::r,v,x,hs=>by
  have hs':=MJ.1 hs;unfold pG;split
  ·rename_i h2
   constructor
   ·exact .inl
   ·rintro(h|⟨_,h⟩)
    ·exact h
    ·exact absurd h2 (h a (by simp))
  ·rename_i h2
   split
   ·rename_i h3
    have hno:∀b∈a::r,b.name≠v.name:=by
     intro b hb e;rcases pU.1 hb with rfl|hb
     ·exact h2 e
     ·have:=hs'.1 b hb
      rw[e,r8 h3]at this;cases this
    rw[pU];constructor
    ·rintro(h|h)
     ·exact .inr ⟨h,hno⟩
     ·exact .inl h
    ·rintro(h|⟨h,_⟩)
     ·exact .inr h
     ·exact .inl h
   ·rw[pU,pU,zU hs'.2]
    constructor
    ·rintro(h|h|⟨h,h'⟩)
     ·exact .inl (.inl h)
     ·exact .inl (.inr h)
     ·refine .inr ⟨h,fun b hb=>?_⟩
      rcases pU.1 hb with rfl|hb
      ·exact h2
      ·exact h' b hb
    ·rintro((h|h)|⟨h,h'⟩)
     ·exact .inl h
     ·exact .inr (.inl h)
     ·exact .inr (.inr ⟨h,fun b hb=>h' b (by simp[hb])⟩)
theorem B1{s:List V2}{u:Term}{x:V2}:x∈yP s u↔x∈s∨(u.op=1∧x=⟨u.name,u.w⟩∧∀a∈s,a.name≠u.name):=by
 unfold yP
 have hany:s.any (isV u)=false↔∀a∈s,a.name≠u.name:=by
  rw[RB];constructor
  ·intro h a ha e;exact h a ha (decide_eq_true e)
  ·intro h a ha e;exact h a ha (of_decide_eq_true e)
 split
 ·rename_i h
  simp only[D6,J7];constructor
  ·rintro(h'|h')
   ·exact .inl h'
   ·exact .inr ⟨h.1,h',hany.1 h.2⟩
  ·rintro(h'|⟨_,h',_⟩)
   ·exact .inl h'
   ·exact .inr h'
 ·rename_i h
  constructor
  ·exact .inl
  ·rintro(h'|⟨h1,_,h2⟩)
   ·exact h'
   ·exact absurd ⟨h1,hany.2 h2⟩ h
theorem Lp{s:List V2}{u:Term}(h:dS s):dS (Vj s u):=by
 rw[Vk];split
 ·exact Et h
 ·exact h
theorem Is:∀{l:List Term} {s:List V2},dS s→dS (l.foldl Vj s)
 | [],_,h=>h
 |u::l,s,h=>Is (l:=l) (Lp h)
theorem W3:∀{l:List Term} {s m:List V2},dS m→(∀x,x∈s↔x∈m)→∀x,x∈l.foldl yP s↔x∈l.foldl Vj m
 | [],s,m,_,h=>h
 |u::l,s,m,hm,h=>by
  refine W3 (l:=l) (Lp hm) fun x=>?_
  rw[B1,Vk];by_cases h1:u.op=1
  ·rw[if_pos h1,zU hm,h x]
   constructor
   ·rintro(h'|⟨_,h',h2⟩)
    ·exact .inl h'
    ·exact .inr ⟨h',fun a ha=>h2 a ((h a).2 ha)⟩
   ·rintro(h'|⟨h',h2⟩)
    ·exact .inl h'
    ·exact .inr ⟨h1,h',fun a ha=>h2 a ((h a).1 ha)⟩
  ·rw[if_neg h1,h x]
   constructor
   ·rintro(h'|⟨h',_⟩)
    ·exact h'
    ·exact absurd h' h1
   ·exact .inl
theorem ame(t:Term):nP t=t.pre.foldl Vj []:=by
 refine K6 (Hj (G7 (by simp[AK]))) (Is (by simp[dS])) fun x=>?_
 rw[nP,tQ];exact W3 (by simp[dS]) (fun x=>Iff.rfl) x
variable {τ:Tm} {σ:ah} {rd:Option Nat}
theorem aj6{s:List V2}{u:Term}:(Vj s u).length≤s.length+1:=by
 rw[Vk];split
 ·exact It _ _
 ·omega
theorem TB:∀{l:List Term} {s:List V2},(l.foldl Vj s).length≤s.length+l.length
 | [],s=>by simp
 |u::l,s=>by
  have h1:=TB (l:=l) (s:=Vj s u);have h2:=aj6 (s:=s) (u:=u);simp only[S1,lZ];omega
def NX(t:Term):Prop:=∀u∈t.post,vh u=0
theorem acN{t:Term}(h:NX t):aiW t:=agm (h t ((k8 t t).2 (mZ.2 (.inl rfl))))
theorem S6{t a:Term}(h:NX t)(ha:a∈t.args):NX a:=fun u hu=>h u ((k8 t u).2 (mZ.2 (.inr ⟨a,ha,(k8 a u).1 hu⟩)))
theorem asr(E:ByteArray→Nat)(t:Term):NX t→iD t→t.AI E<2^cw t.w∧(t.op≠1→aiU t.op t.args.length∧InW (Term.vT E t.args)∧∀x,Term.vT E t.args=[x]→t.op=3∨t.op=4→cw t.w=cw x.w):=by
 induction t using Term.ind with
 |h t ih=>
 intro h ht;have hn:=acN h
 have hin:InW (Term.vT E t.args):=by
  rw[Term.uh];intro x hx;obtain⟨a,ha,rfl⟩:=Gq.1 hx;exact(ih a ha (S6 h ha) (ht.args ha)).1
 rw[Term.NW];by_cases h1:t.op=1
 ·rw[if_pos h1]
  exact⟨S3 _ (RD (by omega)),fun h=>absurd h1 h⟩
 ·rw[if_neg h1]
  have har:=atb hn.ar h1;have hlen:(Term.vT E t.args).length=t.args.length:=by rw[Term.uh];simp
  have hm:(Term.vT E t.args).map (·.w)=t.args.map Term.w:=by rw[Term.uh,ab0];rfl
  have:=anb hn.w h1 ht.v.1 (by rw[hlen];exact har) (by rw[hm];exact hn.wd) hin
  exact⟨this.1,fun _=>⟨har,hin,this.2⟩⟩
abbrev sV8(s:List Wd):ah:=[.gone,.pv 2 (s.map jZ) false]
abbrev aqj(g:AV)(t:Term)(s:List Wd)(i:Int):List (Nat×AV):=[(1,g),(2,.p (.ptr t.row 0)),(6,.sl 1 s.length),(20,.p (.aO (t.args.map Term.row))),(21,.p (.int .i64 t.args.length)),(22,.p (.int .i64 i))]
theorem ati{w v:Int}:lr σ 2 1 (gR (List.replicate 1 [.p (.int .i64 0),.p (.int .u64 0)]).flatten [(0,2,.p (.agg [.int .i64 w,.int .u64 v]))])=some (.sl σ.length 1,σ++[.pv 2 [[.int .i64 w,.int .u64 v]] false]):=rfl
theorem ate{w v:Int}:j7 [.p (.int .i64 0),.p (.int .u64 0)] [(0,1,.p (.int .i64 w)),(1,1,.p (.int .u64 v))]=some (.p (.agg [.int .i64 w,.int .u64 v])):=rfl
theorem avL:uX 6 (aX [.p (.int .i64 0),.p (.int .u64 0),.p (.int .i64 0),.p (.int .u64 0),.p (.int .i64 0),.p (.int .u64 0)] σ)=some (.ptr σ.length 1 0 0,σ++[.pv 6 [[.int .i64 0,.int .u64 0,.int .i64 0,.int .u64 0,.int .i64 0,.int .u64 0]] false]):=rfl
theorem auZ:apK [.pv 6 [[.int .i64 0,.int .u64 0,.int .i64 0,.int .u64 0,.int .i64 0,.int .u64 0]] false] 3 2 (.ptr 0 1 0 0) none (some (.p (.int .i64 0))) none=some (.sl 1 0,[.gone,.pv 2 [] false]):=rfl
theorem alm(k:Nat)(o:Obj)(rows:List (List PV))(e:Nat)(fr:Bool):aG [o,.pv e rows fr] (k+1) (.sl 1 rows.length)=some (.aO rows):=by simp[aG]
theorem adZ(n:Nat):Obj.below n .gone=true:=rfl
theorem arV{o o1:Obj}{r:List PV}{fr:Bool}:nO [o,o1,.pv 2 [r] fr] 2 (.sl 2 1)=some (.inl [r]):=FH rfl rfl (.inl rfl)
theorem SG(f:FuncId)(cap:List PV)(E:ByteArray→Nat)(hE:∀n,W (E n))(t:Term) :
  (∀u∈t.post,∀σ:ah,u.op=1→tH P (.p (.fn f cap)) [.p (.agg u.row)] σ=some (.p (.int .u64 (E u.name:Int)),σ))→NX t→iD t→t.count≤1000000→R P l7 [.agg t.row,.fn f cap]=some (.int .u64 (t.AI E:Int)):=by
 induction t using Term.ind with
 |h t ih=>
 intro hf h ht hc;rw[Term.NW];by_cases h1:t.op=1
 ·rw[if_pos h1]
  have e1:(t.op=1)=True:=by simp[h1]
  have hv:=fun σ=>hf t ((k8 t t).2 (mZ.2 (.inl rfl))) σ h1
  have hcut:=mT t.w (E t.name) (hE _)
  (rw[Jv (aD rfl),rf];simp(disch:=omega)only[aB,↓aa,seval,-List.reduceReplicate,reduceCtorEq,ae,e1,hv,cx,hcut,Bq,ua,Br,j6,eW,xQ,Ab,Ul,acd])
 ·rw[if_neg h1]
  have e1:(t.op=1)=False:=by simp[h1]
  have hct:=Term.count_eq t;have hlen:=Term.dL t.args;obtain⟨har,hin,_⟩:=(asr E t h ht).2 h1
  obtain⟨hk,hl⟩:=fY (P:=P) (nt:=44) (lv:=[1,2,6,20,21,22]) (b:=wU) (rd:=none) (as:=t.args) (fun i (s:List Wd)=>aqj (.p (.fn f cap)) t s i) sV8 (fun _ s a=>s++[⟨a.w,a.AI E⟩]) (fun i s=>s.length=i)
   (fun i a s ha hi hs=>by
    have hm:=mR ha;have hac:=Term.cJ hm;have hr:=ih a hm (fun u hu=>hf u ((k8 t u).2 (mZ.2 (.inr ⟨a,hm,(k8 a u).1 hu⟩)))) (S6 h hm) (ht.args hm) (by omega)
    have hlt:((i:Int)<t.args.length)=True:=by simpa using hi
    have hx:=fun σ=>aH (k:=.i64) (es:=5) (σ:=σ) (aw (f:=Term.row) ha) a.az
    have hap:=dP (σ:=[.gone,.pv 2 (s.map jZ) false,.pv 2 [[.int .i64 a.w,.int .u64 (a.AI E:Int)]] false]) (b:=1) (n:=s.length) (e:=2) (es:=2) (bytes:=16) (rows:=s.map jZ) (new:=[[.int .i64 a.w,.int .u64 (a.AI E:Int)]]) rfl (by simp) (.inl rfl) (by simp only[lZ,nz];omega)
    refine⟨by simp[hs],?_⟩
    simp only[wU];simp(disch:=omega)only[aB,↓aa,seval,-List.reduceReplicate,reduceCtorEq,ae,hlt,hx,Jq,hr,ate,ati,arV,hap,aR,jS,CR,adZ,jZ,aqj,sV8]) (fun i s=>rfl) [] rfl _ (zb (fun a=>(⟨a.w,a.AI E⟩:Wd)) t.args 0 [])
  have hv:([]:List Wd)++t.args.map (fun a=>(⟨a.w,a.AI E⟩:Wd))=Term.vT E t.args:=by rw[Term.uh];rfl
  rw[hv]at hl;have hvl:(Term.vT E t.args).length=t.args.length:=by rw[Term.uh];simp
  have hvN:((t.v.toNat:Nat):Int)=t.v:=by have:=ht.v.1;omega
  have hcomp:=ah0 t.op t.w t.v.toNat (Term.vT E t.args) (by rw[hvl];exact har) (by have:=ht.v;unfold RJ at this;show _<_;omega) (fun x hx=>WD (hin x hx) (TY (yv x.w).2))
  rw[hvN]at hcomp;have hl':al P Bw [(1,.p (.fn f cap)),(2,.p (.ptr t.row 0)),(6,.sl 1 0),(20,.p (.aO (t.args.map Term.row))),(21,.p (.int .i64 t.args.length)),(22,.p (.int .i64 0))] [.gone,.pv 2 [] false] 44 none=_:=hl;have hP:=fun k o=>alm k o ((Term.vT E t.args).map jZ) 2 false
  rw[aR]at hP;generalize Term.vT E t.args=vs at *
  (rw[Jv (aD rfl),rf];simp(disch:=omega)only[aB,↓aa,seval,-List.reduceReplicate,reduceCtorEq,ae,e1,avL,auZ,aR,Se,hl',wU,lH,hP,Qx,hcomp,aqj,sV8])
structure Bd where
 name:ByteArray
 v:Nat
def W4(b:Bd):List PV:=[.str b.name,.int .u64 (b.v:Int)]
def A9(n:ByteArray):List Bd→Option Nat
 | []=>none
 |b::r=>if b.name=n then some b.v else A9 n r
def acU(l:List Bd)(t:Term):Bool:=t.post.all fun u=>decide (¬u.op=1) ||(A9 u.name l).isSome
def U7(l:List Bd)(n:ByteArray):Nat:=(A9 n l).getD 0
theorem Td{t:Term}(h:ix t=0):NX t:=by
 unfold ix at h;split at h
 ·rw[ads]at h
  split at h
  ·rename_i h0;exact absurd h h0
  ·rename_i h0
   exact Eo (Ww.1 h0)
 ·cases h
theorem PS:∀(l:List Term) (s:List V2) (n:ByteArray),(∃v∈l.foldl yP s,v.name=n)↔(∃v∈s,v.name=n)∨∃u∈l,u.op=1∧u.name=n
 | [],s,n=>by simp
 |u::l,s,n=>by
  rw[S1,PS l];constructor
  ·rintro(⟨v,hv,hn⟩|⟨u',hu,h⟩)
   ·rcases B1.1 hv with h|⟨h1,h2,_⟩
    ·exact .inl ⟨v,h,hn⟩
    ·subst h2;exact .inr ⟨u,by simp,h1,hn⟩
   ·exact .inr ⟨u',by simp[hu],h⟩
  ·rintro(⟨v,hv,hn⟩|⟨u',hu,h1,h2⟩)
   ·exact .inl ⟨v,B1.2 (.inl hv),hn⟩
   ·rcases pU.1 hu with rfl|hu
    ·by_cases hex:∃a∈s,a.name=u'.name
     ·obtain⟨a,ha,hn⟩:=hex
      exact .inl ⟨a,B1.2 (.inl ha),hn.trans h2⟩
     ·exact .inl ⟨⟨u'.name,u'.w⟩,B1.2 (.inr ⟨h1,rfl,fun a ha hn=>hex ⟨a,ha,hn⟩⟩),h2⟩
    ·exact .inr ⟨u',hu,h1,h2⟩
theorem akC{es:List (PV×AV)}{fr:Bool}{r:ah}{kl:ny}{k:PV}{z:AV}{o:Option AV}(hl:tj kl k=true)(h:findKey kl k es=some o):vf (.map es fr::r) kl z (.map 0) (.p k) true=some (z6 [o.getD z,.p (.bool o.isSome)]):=by
 simp only[vf,YK,S2,hl,if_true,h,Az]
theorem aqM{es:List (PV×PV)}{kl:ny}{k:PV}{z:AV}{o:Option PV}(hl:tj kl k=true)(h:findKey kl k es=some o):vf σ kl z (.p (.pmap es)) (.p k) false=some ((o.map AV.p).getD z):=by
 simp[vf,YK,hl,h]
theorem aqS{es es':List (PV×AV)}{r:ah}{kl:ny}{k:PV}{v:AV}(h:tj kl k=true)(h':vG kl k v es=some es'):PR (.map es false::r) kl (.map 0) (.p k) v=some (.any,.map es' false::r):=by
 simp[PR,h,h']
theorem ldM{M:List (PV×AV)}{fr fr':Bool}{r:ah}:iu (.map M fr::.av 1 [[.map 0]] fr'::r) 1 false (.ptr 1 1 0 0)=some (.map 0):=rfl
end Go.AE.S
namespace Go.AE
namespace Term
end Term
namespace S
open Go Go.AE
variable {τ:Tm} {σ:ah} {rd:Option Nat}
end S
end Go.AE
namespace Go.AE.S
open Go Go.AE
variable {τ:Tm} {σ:ah} {rd:Option Nat}
end Go.AE.S
namespace Go.AE
namespace Term
end Term
namespace S
open Go Go.AE
variable {τ:Tm} {σ:ah} {rd:Option Nat}
theorem rV{a b:Term}:Ee σ 5 2 (gR (List.replicate 2 [.p (.int .i64 0),.p (.int .i64 0),.p (.int .u64 0),.p (.str (bs [])),.aA]).flatten [(0,5,.p (.agg a.row)),(5,5,.p (.agg b.row))])=some (.p (.aO [a.row,b.row]),σ):=by rw[Term.a6 a,Term.a6 b];rfl
end S
end Go.AE
namespace Go.AE.S
open Go Go.AE
variable {τ:Tm} {σ:ah} {rd:Option Nat}
theorem avU{z0 z1:AV}{s:ByteArray}{n:Int}:j7 [z0,z1] [(0,1,.p (.str s)),(1,1,.p (.int .u64 n))]=some (.p (.agg [.str s,.int .u64 n])):=rfl
end Go.AE.S
