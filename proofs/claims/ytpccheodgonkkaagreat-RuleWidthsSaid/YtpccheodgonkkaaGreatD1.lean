import Derived.Test.YtpccheodgonkkaaGreatD0
import Derived.Test.YtpccheodgonkkaaGreatP0
import Derived.Test.YtpccheodgonkkaaGreatC0
set_option maxHeartbeats 0
set_option linter.unusedSimpArgs false
set_option linter.unusedVariables false
namespace Go.AE.S
open Go Go.AE
variable {τ:Tm} {σ:ag} {rd:Option Nat}
structure Wd where
 w:Int
 v:Nat
def jK(x:Wd):List PV:=[.int .i64 x.w,.int .u64 (x.v:Int)]
def qM(o:Int)(c a b:Nat):Nat :=
 if o=5 then(a &&& b) % 2^c else
 if o=6 then(a |||b) % 2^c else
 if o=7 then(a ^^^ b) % 2^c else
 if o=8 then(a+b) % 2^c else
 if o=9 then(a+(18446744073709551616-b)) % 2^c else
 if o=10 then(a*b) % 2^c else
 if o=11 then Zm c a b else
 if o=12 then Zp c a b else
 if o=13 then ahV c a b else
 if o=14 then H4 c a b else
 if o=15 then Nl c a b else
 if o=16 then Bl (decide (a % 2^c=b % 2^c))else
 if o=17 then Bl (decide (a % 2^c<b % 2^c))else
 Bl (decide (zs c a<zs c b))
theorem akp(w:Int)(a:Nat)(ha:W a):R P nE [.int .i64 w,.int .u64 (a:Int)]=some (.agg (jK ⟨w,a % 2^cw w⟩)):=by
 have h:=mC w a ha;have hb:∀(x y:Int),k8 [.p (.int .i64 0),.p (.int .u64 0)] [(0,1,.p (.int .i64 x)),(1,1,.p (.int .u64 y))]=some (.p (.agg [.int .i64 x,.int .u64 y])):=fun _ _=>rfl
 have h1:∀σ:ag,vl 2 (aW [.p (.int .i64 0),.p (.int .u64 0)] σ)=some (.ptr σ.length 1 0 0,σ++[.pv 2 [[.int .i64 0,.int .u64 0]] false]):=fun _=>rfl
 have h2:∀(x y x' y':Int),eM [.pv 2 [[.int .i64 x,.int .u64 y]] false] 2 (.ptr 0 1 0 0) (.p (.agg [.int .i64 x',.int .u64 y']))=some [.pv 2 [[.int .i64 x',.int .u64 y']] false]:=fun _ _ _ _=>rfl
 have h3:∀(x y:Int),gU [.pv 2 [[.int .i64 x,.int .u64 y]] false] 2 true (.ptr 0 1 0 0)=some (.p (.agg [.int .i64 x,.int .u64 y])):=fun _ _=>rfl
 have h4:∀(x y:Int),Mm 1 0 0 2 true (some (.pv 2 [[.int .i64 x,.int .u64 y]] false))=some (.p (.agg [.int .i64 x,.int .u64 y])):=fun _ _=>rfl
 have h5:∀(x y x' y':Int),RU [.pv 2 [[.int .i64 x,.int .u64 y]] false] 0 1 0 0 [.p (.int .i64 x'),.p (.int .u64 y')] (some (.pv 2 [[.int .i64 x,.int .u64 y]] false))=some [.pv 2 [[.int .i64 x',.int .u64 y']] false]:=fun _ _ _ _=>rfl
 (rw[Yq (aD rfl),wQ];simp(disch:=omega)only[aA,↓aa,seval,-List.reduceReplicate,reduceCtorEq,ae,cr,h,hb,jK,h1,h2,h3,h4,h5])
theorem apQ(w w':Int)(x y:Int):Xg false [.int,.int] (.p (.agg [.int .i64 w,.int .u64 x])) (.p (.agg [.int .i64 w,.int .u64 y]))=some (.p (.bool (decide (x=y)))):=by
 simp[Xg,dD,oX];rw[abE];simp
theorem akk(o w:Int)(a b:Nat)(ha:W a)(hb0:W b):R P mm [.int .i64 o,.int .i64 w,.int .u64 (a:Int),.int .u64 (b:Int)]=some (.int .u64 ((qM o (cw w) a b:Nat):Int)):=by
 rcases dB (o=5)with e5|e5
 ·have hb:qM o (cw w) a b=(a &&& b) % 2^cw w:=by unfold qM;simp only[e5,if_true,if_false]
  rw[hb];have k1:=atF w a b ha hb0
  (rw[dt (aD rfl),cx];simp(disch:=omega)only[aA,↓aa,seval,-List.reduceReplicate,reduceCtorEq,ae,e5,adI,k1])
 rcases dB (o=6)with e6|e6
 ·have hb:qM o (cw w) a b=(a |||b) % 2^cw w:=by unfold qM;simp only[e5,e6,if_true,if_false]
  rw[hb];have k1:=avH w a b ha hb0
  (rw[dt (aD rfl),cx];simp(disch:=omega)only[aA,↓aa,seval,-List.reduceReplicate,reduceCtorEq,ae,e5,e6,ahC,k1])
 rcases dB (o=7)with e7|e7
 ·have hb:qM o (cw w) a b=(a ^^^ b) % 2^cw w:=by unfold qM;simp only[e5,e6,e7,if_true,if_false]
  rw[hb];have k1:=atO w a b ha hb0
  (rw[dt (aD rfl),cx];simp(disch:=omega)only[aA,↓aa,seval,-List.reduceReplicate,reduceCtorEq,ae,e5,e6,e7,adQ,k1])
 rcases dB (o=8)with e8|e8
 ·have hb:qM o (cw w) a b=(a+b) % 2^cw w:=by unfold qM;simp only[e5,e6,e7,e8,if_true,if_false]
  rw[hb];have k1:=atD w a b ha hb0
  (rw[dt (aD rfl),cx];simp(disch:=omega)only[aA,↓aa,seval,-List.reduceReplicate,reduceCtorEq,ae,e5,e6,e7,e8,adH,k1])
 rcases dB (o=9)with e9|e9
 ·have hb:qM o (cw w) a b=(a+(18446744073709551616-b)) % 2^cw w:=by unfold qM;simp only[e5,e6,e7,e8,e9,if_true,if_false]
  rw[hb];have k1:=atM w a b ha hb0
  (rw[dt (aD rfl),cx];simp(disch:=omega)only[aA,↓aa,seval,-List.reduceReplicate,reduceCtorEq,ae,e5,e6,e7,e8,e9,adO,k1])
 rcases dB (o=10)with e10|e10
 ·have hb:qM o (cw w) a b=(a*b) % 2^cw w:=by unfold qM;simp only[e5,e6,e7,e8,e9,e10,if_true,if_false]
  rw[hb];have k1:=atH w a b ha hb0
  (rw[dt (aD rfl),cx];simp(disch:=omega)only[aA,↓aa,seval,-List.reduceReplicate,reduceCtorEq,ae,e5,e6,e7,e8,e9,e10,adJ,k1])
 rcases dB (o=11)with e11|e11
 ·have hb:qM o (cw w) a b=Zm (cw w) a b:=by unfold qM;simp only[e5,e6,e7,e8,e9,e10,e11,if_true,if_false]
  rw[hb];have k1:=aqs w a b ha hb0
  (rw[dt (aD rfl),cx];simp(disch:=omega)only[aA,↓aa,seval,-List.reduceReplicate,reduceCtorEq,ae,e5,e6,e7,e8,e9,e10,e11,Yh,k1])
 rcases dB (o=12)with e12|e12
 ·have hb:qM o (cw w) a b=Zp (cw w) a b:=by unfold qM;simp only[e5,e6,e7,e8,e9,e10,e11,e12,if_true,if_false]
  rw[hb];have k1:=aqt w a b ha hb0
  (rw[dt (aD rfl),cx];simp(disch:=omega)only[aA,↓aa,seval,-List.reduceReplicate,reduceCtorEq,ae,e5,e6,e7,e8,e9,e10,e11,e12,Yi,k1])
 rcases dB (o=13)with e13|e13
 ·have hb:qM o (cw w) a b=ahV (cw w) a b:=by unfold qM;simp only[e5,e6,e7,e8,e9,e10,e11,e12,e13,if_true,if_false]
  rw[hb];have k1:=atK w a b ha hb0
  (rw[dt (aD rfl),cx];simp(disch:=omega)only[aA,↓aa,seval,-List.reduceReplicate,reduceCtorEq,ae,e5,e6,e7,e8,e9,e10,e11,e12,e13,adM,k1])
 rcases dB (o=14)with e14|e14
 ·have hb:qM o (cw w) a b=H4 (cw w) a b:=by unfold qM;simp only[e5,e6,e7,e8,e9,e10,e11,e12,e13,e14,if_true,if_false]
  rw[hb];have k1:=aqq w a b ha hb0
  (rw[dt (aD rfl),cx];simp(disch:=omega)only[aA,↓aa,seval,-List.reduceReplicate,reduceCtorEq,ae,e5,e6,e7,e8,e9,e10,e11,e12,e13,e14,Yf,k1])
 rcases dB (o=15)with e15|e15
 ·have hb:qM o (cw w) a b=Nl (cw w) a b:=by unfold qM;simp only[e5,e6,e7,e8,e9,e10,e11,e12,e13,e14,e15,if_true,if_false]
  rw[hb];have k1:=aqp w a b ha hb0
  (rw[dt (aD rfl),cx];simp(disch:=omega)only[aA,↓aa,seval,-List.reduceReplicate,reduceCtorEq,ae,e5,e6,e7,e8,e9,e10,e11,e12,e13,e14,e15,Ye,k1])
 rcases dB (o=16)with e16|e16
 ·have hb:qM o (cw w) a b=Bl (decide (a % 2^(cw w)=b % 2^cw w)):=by unfold qM;simp only[e5,e6,e7,e8,e9,e10,e11,e12,e13,e14,e15,e16,if_true,if_false]
  rw[hb];have k1:=akp w a ha;have k2:=akp w b hb0;simp only[jK]at k1 k2;have he:=fun x y=>apQ w w x y
  by_cases h0:a % 2^cw w=b % 2^cw w
  ·have hl:((((a % 2^cw w:Nat):Int))=((b % 2^cw w:Nat):Int))=True:=by rw[h0];simp
   rw[decide_eq_true h0]
   (rw[dt (aD rfl),cx];simp(disch:=omega)only[aA,↓aa,seval,-List.reduceReplicate,reduceCtorEq,ae,e5,e6,e7,e8,e9,e10,e11,e12,e13,e14,e15,e16,Ln,k1,k2,he,hl,Bl])
  ·have hl:((((a % 2^cw w:Nat):Int))=((b % 2^cw w:Nat):Int))=False:=by simp only[eq_iff_iff,iff_false];omega
   rw[decide_eq_false h0]
   (rw[dt (aD rfl),cx];simp(disch:=omega)only[aA,↓aa,seval,-List.reduceReplicate,reduceCtorEq,ae,e5,e6,e7,e8,e9,e10,e11,e12,e13,e14,e15,e16,Ln,k1,k2,he,hl,Bl])
 rcases dB (o=17)with e17|e17
 ·have hb:qM o (cw w) a b=Bl (decide (a % 2^(cw w)<b % 2^cw w)):=by unfold qM;simp only[e5,e6,e7,e8,e9,e10,e11,e12,e13,e14,e15,e16,e17,if_true,if_false]
  rw[hb];have k1:=atN w a b ha hb0
  (rw[dt (aD rfl),cx];simp(disch:=omega)only[aA,↓aa,seval,-List.reduceReplicate,reduceCtorEq,ae,e5,e6,e7,e8,e9,e10,e11,e12,e13,e14,e15,e16,e17,adP,k1])
 have hb:qM o (cw w) a b=Bl (decide (zs (cw w) a<zs (cw w) b)):=by unfold qM;simp only[e5,e6,e7,e8,e9,e10,e11,e12,e13,e14,e15,e16,e17,if_false]
 rw[hb];have k1:=atL w a b ha hb0
 (rw[dt (aD rfl),cx];simp(disch:=omega)only[aA,↓aa,seval,-List.reduceReplicate,reduceCtorEq,ae,e5,e6,e7,e8,e9,e10,e11,e12,e13,e14,e15,e16,e17,adN,k1])
theorem arZ{x:Wd}:gU σ 1 false (.p (.ptr (jK x) 0))=some (.p (.int .i64 x.w)):=rfl
theorem VA{x:Wd}:gU σ 1 false (.p (.ptr (jK x) 1))=some (.p (.int .u64 (x.v:Int))):=rfl
theorem alT{x:Wd}:Og 0 (.p (.ptr (jK x) 0))=some (.p (.ptr (jK x) 0)):=rfl
theorem Jk{x:Wd}:Og 1 (.p (.ptr (jK x) 0))=some (.p (.ptr (jK x) 1)):=rfl
theorem Vz{x:Wd}{l:List (List PV)}:jS σ 2 (.p (.aM (jK x::l))) (.p (.int .i64 0))=some (.p (.ptr (jK x) 0)):=rfl
theorem aoz{x y:Wd}{l:List (List PV)}:jS σ 2 (.p (.aM (jK x::jK y::l))) (.p (.int .i64 1))=some (.p (.ptr (jK y) 0)):=rfl
theorem au7{x y z:Wd}{l:List (List PV)}:jS σ 2 (.p (.aM (jK x::jK y::jK z::l))) (.p (.int .i64 2))=some (.p (.ptr (jK z) 0)):=rfl
theorem Jl{x:Wd}:(jK x)[0]?=some (.int .i64 x.w):=rfl
theorem Jm{x:Wd}:(jK x)[1]?=some (.int .u64 (x.v:Int)):=rfl
def avF(v:Nat):Int:=IntKind.i64.wrap (v:Int)
def uQ(o r:Int)(v:Nat):List Wd→Nat
 | []=>v
 | [x]=>if o=3 then(18446744073709551615-x.v) % 2^cw r else if o=4 then(18446744073709551616-x.v) % 2^cw r else if o=21 then Hq (avF v) (cw r) x.v else if o=23 then afP (cw x.w) (cw r) x.v else x.v
 | [x,y]=>if o=20 then MO (cw x.w) (cw y.w) x.v y.v else qM o (cw x.w) x.v y.v
 |x::y::z::_=>if x.v=1 then y.v else z.v
theorem ang(r:Int)(v:Nat)(l:List Wd):R P eA [.int .i64 2,.int .i64 r,.int .u64 (v:Int),.aM (l.map jK)]=some (.int .u64 (v:Int)):=by
 (rw[fj (aD rfl),dg];simp(disch:=omega)only[aA,↓aa,seval,-List.reduceReplicate,reduceCtorEq,ae])
theorem anh(o r:Int)(v:Nat)(x:Wd)(ho:o=3∨o=4∨o=21∨o=22∨o=23)(hv:W v)(hx:W x.v):R P eA [.int .i64 o,.int .i64 r,.int .u64 (v:Int),.aM [jK x]]=some (.int .u64 ((uQ o r v [x]:Nat):Int)):=by
 rcases ho with rfl|rfl|rfl|rfl|rfl
 ·have k:=atJ r x.v hx
  (rw[fj (aD rfl),dg];simp(disch:=omega)only[aA,↓aa,seval,-List.reduceReplicate,reduceCtorEq,ae,Vz,Jk,VA,Jl,Jm,adL,k])
  rfl
 ·have k:=atI r x.v hx
  (rw[fj (aD rfl),dg];simp(disch:=omega)only[aA,↓aa,seval,-List.reduceReplicate,reduceCtorEq,ae,Vz,Jk,VA,Jl,Jm,adK,k])
  rfl
 ·have k:=ahr (IntKind.i64.wrap (v:Int)) r x.v hx
  (rw[fj (aD rfl),dg];simp(disch:=omega)only[aA,↓aa,seval,-List.reduceReplicate,reduceCtorEq,ae,Vz,Jk,VA,Jl,Jm,PA,k])
  rfl
 ·(rw[fj (aD rfl),dg];simp(disch:=omega)only[aA,↓aa,seval,-List.reduceReplicate,reduceCtorEq,ae,Vz,Jk,VA,Jl,Jm])
  rfl
 ·have k:=aqr x.w r x.v hx
  (rw[fj (aD rfl),dg];simp(disch:=omega)only[aA,↓aa,seval,-List.reduceReplicate,reduceCtorEq,ae,Vz,alT,arZ,Jk,VA,Jl,Jm,Yg,k])
  rfl
theorem ani(o r:Int)(v:Nat)(x y:Wd)(ho:(5≤o∧o≤18)∨o=20)(hx:W x.v)(hy:W y.v):R P eA [.int .i64 o,.int .i64 r,.int .u64 (v:Int),.aM [jK x,jK y]]=some (.int .u64 ((uQ o r v [x,y]:Nat):Int)):=by
 by_cases h20:o=20
 ·subst h20
  have k:=akh x.w y.w x.v y.v hx hy;have hb:uQ 20 r v [x,y]=MO (cw x.w) (cw y.w) x.v y.v:=by simp[uQ]
  rw[hb]
  (rw[fj (aD rfl),dg];simp(disch:=omega)only[aA,↓aa,seval,-List.reduceReplicate,reduceCtorEq,ae,Vz,aoz,alT,arZ,Jk,VA,Jl,Jm,Rv,k])
 ·have hb:uQ o r v [x,y]=qM o (cw x.w) x.v y.v:=by simp[uQ,h20]
  rw[hb];have e2:(o=2)=False:=by simp;omega
  have e3:(o=3)=False:=by simp;omega
  have e4:(o=4)=False:=by simp;omega
  have e19:(o=19)=False:=by simp;omega
  have e20:(o=20)=False:=by simp;omega
  have e21:(o=21)=False:=by simp;omega
  have e22:(o=22)=False:=by simp;omega
  have e23:(o=23)=False:=by simp;omega
  have k:=akk o x.w x.v y.v hx hy
  (rw[fj (aD rfl),dg];simp(disch:=omega)only[aA,↓aa,seval,-List.reduceReplicate,reduceCtorEq,ae,e2,e3,e4,e19,e20,e21,e22,e23,Vz,aoz,alT,arZ,Jk,VA,Jl,Jm,Rw,k])
theorem anj(r:Int)(v:Nat)(x y z:Wd):R P eA [.int .i64 19,.int .i64 r,.int .u64 (v:Int),.aM [jK x,jK y,jK z]]=some (.int .u64 ((uQ 19 r v [x,y,z]:Nat):Int)):=by
 by_cases h1:x.v=1
 ·have e:((x.v:Int)=1)=True:=by simp only[eq_iff_iff,iff_true];omega
  have hb:uQ 19 r v [x,y,z]=y.v:=by simp[uQ,h1]
  rw[hb]
  (rw[fj (aD rfl),dg];simp(disch:=omega)only[aA,↓aa,seval,-List.reduceReplicate,reduceCtorEq,ae,Vz,aoz,au7,Jk,VA,Jl,Jm,e])
 ·have e:((x.v:Int)=1)=False:=by simp only[eq_iff_iff,iff_false];omega
  have hb:uQ 19 r v [x,y,z]=z.v:=by simp[uQ,h1]
  rw[hb]
  (rw[fj (aD rfl),dg];simp(disch:=omega)only[aA,↓aa,seval,-List.reduceReplicate,reduceCtorEq,ae,Vz,aoz,au7,Jk,VA,Jl,Jm,e])
def aip(o:Int)(n:Nat):Prop:=(o=2∧n=0)∨((o=3∨o=4∨o=21∨o=22∨o=23)∧n=1)∨(((5≤o∧o≤18)∨o=20)∧n=2)∨(o=19∧n=3)
theorem ahs(o r:Int)(v:Nat)(l:List Wd)(ha:aip o l.length)(hv:W v)(hl:∀x∈l,W x.v):R P eA [.int .i64 o,.int .i64 r,.int .u64 (v:Int),.aM (l.map jK)]=some (.int .u64 ((uQ o r v l:Nat):Int)):=by
 rcases ha with⟨rfl,h⟩|⟨ho,h⟩|⟨ho,h⟩|⟨rfl,h⟩
 ·match l,h with
  | [],_=>exact ang r v []
 ·match l,h with
  | [x],_=>exact anh o r v x ho hv (hl x (by simp))
 ·match l,h with
  | [x,y],_=>exact ani o r v x y ho (hl x (by simp)) (hl y (by simp))
 ·match l,h with
  | [x,y,z],_=>exact anj r v x y z
theorem aml{c:Nat}(h:1≤c∧c≤64)(a b:Nat):Nl c a b<2^c:=by
 have hp:0<2^c:=Nc (by omega)
 have hm:a % 2^c<2^c:=QO _ hp;unfold Nl H4;split
 ·split
  ·exact hp
  ·exact abg (abY _ _) hm
 ·split
  ·omega
  ·rename_i hn
   have hs:=Ao (c:=c) (n:=b % 2^c) (by omega)
   have hr:a % 2^c / 2^(b % 2^c)<2^(c-b % 2^c):=by rw[ach (Nc (by omega)),hs];exact hm
   have hle:2^(c-b % 2^c)≤2^c:=aa7 (by omega) (by omega)
   omega
theorem Uo(b:Bool):Bl b<2:=by unfold Bl;split<;>omega
theorem apz{c:Nat}(h:1≤c∧c≤64)(o:Int)(a b:Nat):qM o c a b<2^c:=by
 have hp:0<2^c:=Nc (by omega)
 have h2:2≤2^c:=by have:=aa7 (show 0<2 by omega) h.1;simpa using this
 have hm:=fun x=>QO x hp
 have fl:=fun b=>VI (Uo b) h2
 unfold qM;by_cases h5:o=5
 ·rw[if_pos h5];exact hm _
 rw[if_neg h5];by_cases h6:o=6
 ·rw[if_pos h6];exact hm _
 rw[if_neg h6];by_cases h7:o=7
 ·rw[if_pos h7];exact hm _
 rw[if_neg h7];by_cases h8:o=8
 ·rw[if_pos h8];exact hm _
 rw[if_neg h8];by_cases h9:o=9
 ·rw[if_pos h9];exact hm _
 rw[if_neg h9];by_cases h10:o=10
 ·rw[if_pos h10];exact hm _
 rw[if_neg h10];by_cases h11:o=11
 ·rw[if_pos h11]
  unfold Zm;split
  ·omega
  ·exact abg (abY _ _) (hm _)
 rw[if_neg h11];by_cases h12:o=12
 ·rw[if_pos h12]
  unfold Zp;split
  ·exact hm _
  ·exact abg (Nat.mod_le _ _) (hm _)
 rw[if_neg h12];by_cases h13:o=13
 ·rw[if_pos h13]
  unfold ahV;split
  ·exact hp
  ·exact hm _
 rw[if_neg h13];by_cases h14:o=14
 ·rw[if_pos h14]
  unfold H4;split
  ·exact hp
  ·exact abg (abY _ _) (hm _)
 rw[if_neg h14];by_cases h15:o=15
 ·rw[if_pos h15];exact aml h _ _
 rw[if_neg h15];by_cases h16:o=16
 ·rw[if_pos h16];exact fl _
 rw[if_neg h16];by_cases h17:o=17
 ·rw[if_pos h17];exact fl _
 rw[if_neg h17];exact fl _
def CM(n:Nat):List PV:=[.int .u64 (n:Int)]
theorem asJ{n:Int}:kU σ 1 1 (gz (List.replicate 1 [.p (.int .u64 0)]).flatten [(0,1,.p (.int .u64 n))])=some (.sl σ.length 1,σ++[.pv 1 [[.int .u64 n]] false]):=rfl
end Go.AE.S
namespace Go.AE
namespace Term
mutual
def zJ(E:ByteArray→Nat):Term→Nat
 |.mk o w v s as=>if o=1 then E s % 2^S.cw w else S.uQ o w v.toNat (u5 E as)
def u5(E:ByteArray→Nat):List Term→List S.Wd
 | []=>[]
 |a::r=>⟨a.w,zJ E a⟩::u5 E r
end
theorem M4(E:ByteArray→Nat)(t:Term):t.zJ E=if t.op=1 then E t.name % 2^S.cw t.w else S.uQ t.op t.w t.v.toNat (u5 E t.args):=by
 cases t;rw[zJ];rfl
theorem tl(E:ByteArray→Nat):∀l:List Term,u5 E l=l.map fun a=>⟨a.w,a.zJ E⟩
 | []=>by rw[u5];rfl
 |a::r=>by rw[u5,tl E r];rfl
end Term
namespace S
open Go Go.AE
structure air (t:Term):Prop where
 ar:(t.args.length:Int)=arity t.op∧0≤arity t.op∧¬(24≤t.op∧t.op≤26)
 w:1≤t.w
 wd:bw t.op t.w t.v (t.args.map Term.w)=(t.w,0)
theorem afA{t:Term}(h:ur t=0):air t:=by
 unfold ur at h;split at h
 ·cases h
 rename_i h1;split at h
 ·cases h
 rename_i h2;split at h
 ·cases h
 rename_i h3;split at h
 ·cases h
 split at h
 ·cases h
 split at h
 ·cases h
 split at h
 ·cases h
 rename_i h7;split at h
 ·cases h
 rename_i h8;split at h
 ·cases h
 rename_i h9;refine⟨⟨VD.1 h3,by omega,h2⟩,by omega,?_⟩
 exact Prod.ext (VD.1 h9) (VD.1 h8)
theorem asC{o:Int}{n:Nat}(h:(n:Int)=arity o∧0≤arity o∧¬(24≤o∧o≤26))(h1:o≠1):aip o n:=by
 obtain⟨ha,hn,hp⟩:=h;unfold arity at ha hn;unfold aip;split at ha
 ·omega
 ·split at ha
  ·omega
  ·split at ha
   ·omega
   ·split at ha
    ·omega
    ·rename_i a b c d
     rw[if_neg a,if_neg b,if_neg c,if_neg d]at hn;omega
def InW(l:List Wd):Prop:=∀x∈l,x.v<2^cw x.w
theorem asN{a b:Int}(h:a≤b):cw a≤cw b:=by unfold cw fM;omega
theorem X9{a b:Nat}(h:a≤b):2^a≤2^b:=aa7 (by omega) h
theorem amF{o w v:Int}{l:List Wd}(hw1:1≤w)(ho1:o≠1)(hv:0≤v)(har:aip o l.length)(hwd:bw o w v (l.map (·.w))=(w,0))(hl:InW l):uQ o w v.toNat l<2^cw w∧(∀x,l=[x]→o=3∨o=4→cw w=cw x.w):=by
 have hm:=fun y=>QO y (show 0<2^cw w from Nc (by omega))
 rcases har with⟨rfl,h⟩|⟨ho,h⟩|⟨ho,h⟩|⟨rfl,h⟩
 ·have hl0:l=[]:=Jq.1 h
  subst hl0;refine⟨?_,fun x h=>by cases h⟩
  have e:bw 2 w v []=qV 2 w v:=rfl;rw[Cb,e]at hwd;unfold qV at hwd;split at hwd
  ·have:=congrArg Prod.snd hwd;simp at this
  ·rename_i hc
   have hcw:cw w=w.toNat:=by unfold cw fM;omega
   show v.toNat<2^cw w;rw[hcw]
   have h2:v<(2:Int)^w.toNat:=by
    rcases Int.lt_or_le v ((2:Int)^w.toNat)with h|h
    ·exact h
    ·exact absurd (.inr ⟨rfl,by omega,h⟩) hc
   have h3:((2:Int)^w.toNat)=((2^w.toNat:Nat):Int):=by simp
   omega
 ·match l,h,hl with
  | [x],_,hl=>
   have hx:=hl x (by simp)
   have hok:∀f:Int,o=3∨o=4→bw o w v [f]=if okW f=false then(0,3)else(f,0):=by
    intro f h;rcases h with rfl|rfl<;>simp[bw,arity]
   have hsz:∀f:Int,o=21∨o=22∨o=23→bw o w v [f]=if okW f=false then(0,3)else pj o w v f:=by
    intro f h;rcases h with rfl|rfl|rfl<;>simp[bw,arity]
   rw[sP,Cb]at hwd
   have h34:o=3∨o=4→cw w=cw x.w:=by
    intro h;rw[hok _ h]at hwd;split at hwd
    ·have:=congrArg Prod.snd hwd;simp at this
    ·have:=congrArg Prod.fst hwd;simp at this;rw[this]
   refine⟨?_,fun y hy h=>by cases hy;exact h34 h⟩
   simp only[uQ];by_cases h3:o=3
   ·rw[if_pos h3];exact hm _
   rw[if_neg h3];by_cases h4:o=4
   ·rw[if_pos h4];exact hm _
   rw[if_neg h4];by_cases h21:o=21
   ·rw[if_pos h21]
    unfold Hq;split
    ·exact Nc (by omega)
    ·exact hm _
   rw[if_neg h21];by_cases h23:o=23
   ·rw[if_pos h23]
    unfold afP;exact hm _
   rw[if_neg h23];have h22:o=22:=by omega
   rw[hsz _ (.inr (.inl h22))]at hwd;split at hwd
   ·have:=congrArg Prod.snd hwd;simp at this
   ·unfold pj at hwd
    split at hwd
    ·have:=congrArg Prod.snd hwd;simp at this
    ·rename_i hc
     have hle:x.w≤w:=by omega
     exact VI hx (X9 (asN hle))
 ·match l,h,hl with
  | [x,y],_,hl=>
   have hx:=hl x (by simp)
   have hy:=hl y (by simp)
   refine⟨?_,fun z hz=>by simp at hz⟩
   rw[sP,sP,Cb]at hwd;simp only[uQ];by_cases h20:o=20
   ·subst h20
    rw[if_pos rfl];have e:bw 20 w v [x.w,y.w]=if[x.w,y.w].all okW=false then(0,3)else if 1≤x.w∧1≤y.w∧x.w+y.w≤64 then(x.w+y.w,0)else(0,3):=by simp[bw,arity]
    rw[e]at hwd;split at hwd
    ·have:=congrArg Prod.snd hwd;simp at this
    ·split at hwd
     ·rename_i hc
      have hw:x.w+y.w=w:=congrArg Prod.fst hwd;have hcw:cw w=cw x.w+cw y.w:=by unfold cw fM;omega
      rw[hcw];unfold MO;refine Nat.or_lt_two_pow ?_ (VI (QO _ (Nc (by omega))) (X9 (by omega)))
      refine abg (Nat.mod_le _ _) ?_;rw[Nat.pow_add];exact Nat.mul_lt_mul_of_pos_right (QO _ (Nc (by omega))) (Nc (by omega))
     ·have:=congrArg Prod.snd hwd;simp at this
   ·rw[if_neg h20]
    have ho':5≤o∧o≤18:=by omega
    have e:bw o w v [x.w,y.w]=if[x.w,y.w].all okW=false then(0,3)else if x.w=y.w then(if o=16∨o=17∨o=18 then(1,0)else(x.w,0))else(0,3):=by
     have ha:arity o=2:=by unfold arity;rw[if_neg (by omega),if_neg (by omega),if_neg (by omega),if_pos (by omega)]
     unfold bw;rw[ha,if_neg (by simp),if_neg (show ¬(2:Int)=0 by omega),if_neg (show ¬(o=21∨o=22∨o=23) by omega),if_neg (show ¬(2:Int)=1 by omega),if_neg h20,if_neg (show ¬o=19 by omega)]
     rfl
    rw[e]at hwd;split at hwd
    ·have:=congrArg Prod.snd hwd;simp at this
    ·split at hwd
     ·split at hwd
      ·rename_i hc
       have hw:(1:Int)=w:=congrArg Prod.fst hwd;have hcw:cw w=1:=by rw[←hw];rfl
       rw[hcw];have hf:=Uo;rcases hc with rfl|rfl|rfl<;>simp only[qM]<;>simp<;>exact Uo _
      ·have hw:x.w=w:=congrArg Prod.fst hwd
       rw[←hw];exact apz (xN x.w) o _ _
     ·have:=congrArg Prod.snd hwd;simp at this
 ·match l,h,hl with
  | [x,y,z],_,hl=>
   have hy:=hl y (by simp)
   have hz:=hl z (by simp)
   refine⟨?_,fun z hz=>by simp at hz⟩
   rw[sP,sP,sP,Cb]at hwd;have e:bw 19 w v [x.w,y.w,z.w]=if[x.w,y.w,z.w].all okW=false then(0,3)else if x.w=1∧y.w=z.w then(y.w,0)else(0,3):=by simp[bw,arity]
   rw[e]at hwd;split at hwd
   ·have:=congrArg Prod.snd hwd;simp at this
   ·split at hwd
    ·rename_i hc
     have hw:y.w=w:=congrArg Prod.fst hwd;simp only[uQ];split
     ·rw[←hw];exact hy
     ·rw[←hw,hc.2];exact hz
    ·have:=congrArg Prod.snd hwd;simp at this
end S
end Go.AE
namespace Go.AE.S
open Go Go.AE
def Py(n:ByteArray):List V2→Nat
 | []=>0
 |a::r=>if slt a.name n=true then Py n r+1 else 0
def adb(n:ByteArray)(s:List V2):Bool:=match s[Py n s]? with|some a=>decide (a.name=n)|none=>false
def Ux(s:List V2)(u:Term):List V2:=if u.op=1 then if adb u.name s=true then s else s.take (Py u.name s)++[⟨u.name,u.w⟩]++s.drop (Py u.name s)else s
theorem Uy(s:List V2)(u:Term):Ux s u=if u.op=1 then nu s ⟨u.name,u.w⟩else s:=by
 unfold Ux;by_cases h1:u.op=1
 ·rw[if_pos h1,if_pos h1]
  induction s with
  |nil=>rfl
  |cons a r ih=>
   unfold nu;by_cases h2:a.name=u.name
   ·have h3:¬slt a.name u.name=true:=by rw[h2,gG];simp
    have h4:Py u.name (a::r)=0:=by unfold Py;rw[if_neg h3]
    rw[if_pos h2,if_pos (by unfold adb;rw[h4];simp[h2])]
   ·rw[if_neg h2]
    by_cases h3:slt u.name a.name=true
    ·have h4:Py u.name (a::r)=0:=by unfold Py;rw[if_neg (by rw[rB h3];simp)]
     rw[if_pos h3,if_neg (by unfold adb;rw[h4];simp[h2]),h4]
     rfl
    ·have h5:slt a.name u.name=true:=by
      rcases rU a.name u.name with h|h|h
      ·exact h
      ·exact absurd h h2
      ·exact absurd h h3
     have h4:Py u.name (a::r)=Py u.name r+1:=by conv=>lhs;unfold Py;rw[if_pos h5]
     have h6:adb u.name (a::r)=adb u.name r:=by unfold adb;rw[h4];rfl
     rw[if_neg h3,←ih,h6,h4];by_cases h7:adb u.name r=true
     ·rw[if_pos h7,if_pos h7]
     ·rw[if_neg h7,if_neg h7];rfl
 ·rw[if_neg h1,if_neg h1]
theorem y4:∀{s:List V2} {v x:V2},dP s→(x∈nu s v↔x∈s∨(x=v∧∀a∈s,a.name≠v.name))
 | [],v,x,_=>by simp[nu]
 |a::r,v,x,hs=>by
  have hs':=LQ.1 hs;unfold nu;split
  ·rename_i h2
   constructor
   ·exact .inl
   ·rintro(h|⟨_,h⟩)
    ·exact h
    ·exact absurd h2 (h a (by simp))
  ·rename_i h2
   split
   ·rename_i h3
    have hno:∀b∈a::r,b.name≠v.name:=by
     intro b hb e;rcases pn.1 hb with rfl|hb
     ·exact h2 e
     ·have:=hs'.1 b hb
      rw[e,rB h3]at this;cases this
    rw[pn];constructor
    ·rintro(h|h)
     ·exact .inr ⟨h,hno⟩
     ·exact .inl h
    ·rintro(h|⟨h,_⟩)
     ·exact .inr h
     ·exact .inl h
   ·rw[pn,pn,y4 hs'.2]
    constructor
    ·rintro(h|h|⟨h,h'⟩)
     ·exact .inl (.inl h)
     ·exact .inl (.inr h)
     ·refine .inr ⟨h,fun b hb=>?_⟩
      rcases pn.1 hb with rfl|hb
      ·exact h2
      ·exact h' b hb
    ·rintro((h|h)|⟨h,h'⟩)
     ·exact .inl h
     ·exact .inr (.inl h)
     ·exact .inr (.inr ⟨h,fun b hb=>h' b (by simp[hb])⟩)
theorem Bf{s:List V2}{u:Term}{x:V2}:x∈yc s u↔x∈s∨(u.op=1∧x=⟨u.name,u.w⟩∧∀a∈s,a.name≠u.name):=by
 unfold yc
 have hany:s.any (isV u)=false↔∀a∈s,a.name≠u.name:=by
  rw[ML];constructor
  ·intro h a ha e;exact h a ha (decide_eq_true e)
  ·intro h a ha e;exact h a ha (of_decide_eq_true e)
 split
 ·rename_i h
  simp only[BZ,Gg];constructor
  ·rintro(h'|h')
   ·exact .inl h'
   ·exact .inr ⟨h.1,h',hany.1 h.2⟩
  ·rintro(h'|⟨_,h',_⟩)
   ·exact .inl h'
   ·exact .inr h'
 ·rename_i h
  constructor
  ·exact .inl
  ·rintro(h'|⟨h1,_,h2⟩)
   ·exact h'
   ·exact absurd ⟨h1,hany.2 h2⟩ h
theorem KB{s:List V2}{u:Term}(h:dP s):dP (Ux s u):=by
 rw[Uy];split
 ·exact DJ h
 ·exact h
theorem HC:∀{l:List Term} {s:List V2},dP s→dP (l.foldl Ux s)
 | [],_,h=>h
 |u::l,s,h=>HC (l:=l) (KB h)
theorem V7:∀{l:List Term} {s m:List V2},dP m→(∀x,x∈s↔x∈m)→∀x,x∈l.foldl yc s↔x∈l.foldl Ux m
 | [],s,m,_,h=>h
 |u::l,s,m,hm,h=>by
  refine V7 (l:=l) (KB hm) fun x=>?_
  rw[Bf,Uy];by_cases h1:u.op=1
  ·rw[if_pos h1,y4 hm,h x]
   constructor
   ·rintro(h'|⟨_,h',h2⟩)
    ·exact .inl h'
    ·exact .inr ⟨h',fun a ha=>h2 a ((h a).2 ha)⟩
   ·rintro(h'|⟨h',h2⟩)
    ·exact .inl h'
    ·exact .inr ⟨h1,h',fun a ha=>h2 a ((h a).1 ha)⟩
  ·rw[if_neg h1,h x]
   constructor
   ·rintro(h'|⟨h',_⟩)
    ·exact h'
    ·exact absurd h' h1
   ·exact .inl
theorem alN(t:Term):nr t=t.pre.foldl Ux []:=by
 refine Ki (Gv (Gh (by simp[zL]))) (HC (by simp[dP])) fun x=>?_
 rw[nr,tc];exact V7 (by simp[dP]) (fun x=>Iff.rfl) x
variable {τ:Tm} {σ:ag} {rd:Option Nat}
theorem ajB{s:List V2}{u:Term}:(Ux s u).length≤s.length+1:=by
 rw[Uy];split
 ·exact HD _ _
 ·omega
theorem SK:∀{l:List Term} {s:List V2},(l.foldl Ux s).length≤s.length+l.length
 | [],s=>by simp
 |u::l,s=>by
  have h1:=SK (l:=l) (s:=Ux s u);have h2:=ajB (s:=s) (u:=u);simp only[QL,lH];omega
def M5(t:Term):Prop:=∀u∈t.post,ur u=0
theorem ZK{t:Term}(h:M5 t):air t:=afA (h t ((jG t t).2 (lV.2 (.inl rfl))))
theorem R9{t a:Term}(h:M5 t)(ha:a∈t.args):M5 a:=fun u hu=>h u ((jG t u).2 (lV.2 (.inr ⟨a,ha,(jG a u).1 hu⟩)))
theorem arS(E:ByteArray→Nat)(t:Term):M5 t→ia t→t.zJ E<2^cw t.w∧(t.op≠1→aip t.op t.args.length∧InW (Term.u5 E t.args)∧∀x,Term.u5 E t.args=[x]→t.op=3∨t.op=4→cw t.w=cw x.w):=by
 induction t using Term.ind with
 |h t ih=>
 intro h ht;have hn:=ZK h
 have hin:InW (Term.u5 E t.args):=by
  rw[Term.tl];intro x hx;obtain⟨a,ha,rfl⟩:=E0.1 hx;exact(ih a ha (R9 h ha) (ht.args ha)).1
 rw[Term.M4];by_cases h1:t.op=1
 ·rw[if_pos h1]
  exact⟨QO _ (Nc (by omega)),fun h=>absurd h1 h⟩
 ·rw[if_neg h1]
  have har:=asC hn.ar h1;have hlen:(Term.u5 E t.args).length=t.args.length:=by rw[Term.tl];simp
  have hm:(Term.u5 E t.args).map (·.w)=t.args.map Term.w:=by rw[Term.tl,ab3];rfl
  have:=amF hn.w h1 ht.v.1 (by rw[hlen];exact har) (by rw[hm];exact hn.wd) hin
  exact⟨this.1,fun _=>⟨har,hin,this.2⟩⟩
abbrev sV8(s:List Wd):ag:=[.gone,.pv 2 (s.map jK) false]
abbrev apN(g:AV)(t:Term)(s:List Wd)(i:Int):List (Nat×AV):=[(1,g),(2,.p (.ptr t.row 0)),(6,.sl 1 s.length),(20,.p (.aM (t.args.map Term.row))),(21,.p (.int .i64 t.args.length)),(22,.p (.int .i64 i))]
theorem asK{w v:Int}:kU σ 2 1 (gz (List.replicate 1 [.p (.int .i64 0),.p (.int .u64 0)]).flatten [(0,2,.p (.agg [.int .i64 w,.int .u64 v]))])=some (.sl σ.length 1,σ++[.pv 2 [[.int .i64 w,.int .u64 v]] false]):=rfl
theorem asH{w v:Int}:k8 [.p (.int .i64 0),.p (.int .u64 0)] [(0,1,.p (.int .i64 w)),(1,1,.p (.int .u64 v))]=some (.p (.agg [.int .i64 w,.int .u64 v])):=rfl
theorem avl:vl 6 (aW [.p (.int .i64 0),.p (.int .u64 0),.p (.int .i64 0),.p (.int .u64 0),.p (.int .i64 0),.p (.int .u64 0)] σ)=some (.ptr σ.length 1 0 0,σ++[.pv 6 [[.int .i64 0,.int .u64 0,.int .i64 0,.int .u64 0,.int .i64 0,.int .u64 0]] false]):=rfl
theorem auw:aph [.pv 6 [[.int .i64 0,.int .u64 0,.int .i64 0,.int .u64 0,.int .i64 0,.int .u64 0]] false] 3 2 (.ptr 0 1 0 0) none (some (.p (.int .i64 0))) none=some (.sl 1 0,[.gone,.pv 2 [] false]):=rfl
theorem akP(k:Nat)(o:Obj)(rows:List (List PV))(e:Nat)(fr:Bool):aG [o,.pv e rows fr] (k+1) (.sl 1 rows.length)=some (.aM rows):=by simp[aG]
theorem ada(n:Nat):Obj.below n .gone=true:=rfl
theorem arp{o o1:Obj}{r:List PV}{fr:Bool}:nn [o,o1,.pv 2 [r] fr] 2 (.sl 2 1)=some (.inl [r]):=EN rfl rfl (.inl rfl)
theorem RN(f:FuncId)(cap:List PV)(E:ByteArray→Nat)(hE:∀n,W (E n))(t:Term) :
  (∀u∈t.post,∀σ:ag,u.op=1→sQ P (.p (.fn f cap)) [.p (.agg u.row)] σ=some (.p (.int .u64 (E u.name:Int)),σ))→M5 t→ia t→t.count≤1000000→R P lM [.agg t.row,.fn f cap]=some (.int .u64 (t.zJ E:Int)):=by
 induction t using Term.ind with
 |h t ih=>
 intro hf h ht hc;rw[Term.M4];by_cases h1:t.op=1
 ·rw[if_pos h1]
  have e1:(t.op=1)=True:=by simp[h1]
  have hv:=fun σ=>hf t ((jG t t).2 (lV.2 (.inl rfl))) σ h1
  have hcut:=mC t.w (E t.name) (hE _)
  (rw[IM (aD rfl),qB];simp(disch:=omega)only[aA,↓aa,seval,-List.reduceReplicate,reduceCtorEq,ae,e1,hv,cr,hcut,Ay,ti,Az,jO,eR,xf,zd,TB,acb])
 ·rw[if_neg h1]
  have e1:(t.op=1)=False:=by simp[h1]
  have hct:=Term.count_eq t;have hlen:=Term.dJ t.args;obtain⟨har,hin,_⟩:=(arS E t h ht).2 h1
  obtain⟨hk,hl⟩:=ic (P:=P) (nt:=44) (lv:=[1,2,6,20,21,22]) (b:=v7) (rd:=none) (as:=t.args) (fun i (s:List Wd)=>apN (.p (.fn f cap)) t s i) sV8 (fun _ s a=>s++[⟨a.w,a.zJ E⟩]) (fun i s=>s.length=i)
   (fun i a s ha hi hs=>by
    have hm:=mi ha;have hac:=Term.cS hm;have hr:=ih a hm (fun u hu=>hf u ((jG t u).2 (lV.2 (.inr ⟨a,hm,(jG a u).1 hu⟩)))) (R9 h hm) (ht.args hm) (by omega)
    have hlt:((i:Int)<t.args.length)=True:=by simpa using hi
    have hx:=fun σ=>aJ (k:=.i64) (es:=5) (σ:=σ) (ax (f:=Term.row) ha) a.aB
    have hap:=dA (σ:=[.gone,.pv 2 (s.map jK) false,.pv 2 [[.int .i64 a.w,.int .u64 (a.zJ E:Int)]] false]) (b:=1) (n:=s.length) (e:=2) (es:=2) (bytes:=16) (rows:=s.map jK) (new:=[[.int .i64 a.w,.int .u64 (a.zJ E:Int)]]) rfl (by simp) (.inl rfl) (by simp only[lH,l5];omega)
    refine⟨by simp[hs],?_⟩
    simp only[v7];simp(disch:=omega)only[aA,↓aa,seval,-List.reduceReplicate,reduceCtorEq,ae,hlt,hx,IF,hr,asH,asK,arp,hap,aO,jE,BY,ada,jK,apN,sV8]) (fun i s=>rfl) [] rfl _ (yt (fun a=>(⟨a.w,a.zJ E⟩:Wd)) t.args 0 [])
  have hv:([]:List Wd)++t.args.map (fun a=>(⟨a.w,a.zJ E⟩:Wd))=Term.u5 E t.args:=by rw[Term.tl];rfl
  rw[hv]at hl;have hvl:(Term.u5 E t.args).length=t.args.length:=by rw[Term.tl];simp
  have hvN:((t.v.toNat:Nat):Int)=t.v:=by have:=ht.v.1;omega
  have hcomp:=ahs t.op t.w t.v.toNat (Term.u5 E t.args) (by rw[hvl];exact har) (by have:=ht.v;unfold G0 at this;show _<_;omega) (fun x hx=>VI (hin x hx) (Tc (xN x.w).2))
  rw[hvN]at hcomp;have hl':al P AJ [(1,.p (.fn f cap)),(2,.p (.ptr t.row 0)),(6,.sl 1 0),(20,.p (.aM (t.args.map Term.row))),(21,.p (.int .i64 t.args.length)),(22,.p (.int .i64 0))] [.gone,.pv 2 [] false] 44 none=_:=hl;have hP:=fun k o=>akP k o ((Term.u5 E t.args).map jK) 2 false
  rw[aO]at hP;generalize Term.u5 E t.args=vs at *
  (rw[IM (aD rfl),qB];simp(disch:=omega)only[aA,↓aa,seval,-List.reduceReplicate,reduceCtorEq,ae,e1,avl,auw,aO,Rl,hl',v7,kY,hP,PC,hcomp,apN,sV8])
structure Bd where
 name:ByteArray
 v:Nat
def V8(b:Bd):List PV:=[.str b.name,.int .u64 (b.v:Int)]
def Ae(n:ByteArray):List Bd→Option Nat
 | []=>none
 |b::r=>if b.name=n then some b.v else Ae n r
def ZR(l:List Bd)(t:Term):Bool:=t.post.all fun u=>decide (¬u.op=1) ||(Ae u.name l).isSome
def Um(l:List Bd)(n:ByteArray):Nat:=(Ae n l).getD 0
theorem Sj{t:Term}(h:gZ t=0):M5 t:=by
 unfold gZ at h;split at h
 ·rw[acG]at h
  split at h
  ·rename_i h0;exact absurd h h0
  ·rename_i h0
   exact DF (VD.1 h0)
 ·cases h
theorem OY:∀(l:List Term) (s:List V2) (n:ByteArray),(∃v∈l.foldl yc s,v.name=n)↔(∃v∈s,v.name=n)∨∃u∈l,u.op=1∧u.name=n
 | [],s,n=>by simp
 |u::l,s,n=>by
  rw[QL,OY l];constructor
  ·rintro(⟨v,hv,hn⟩|⟨u',hu,h⟩)
   ·rcases Bf.1 hv with h|⟨h1,h2,_⟩
    ·exact .inl ⟨v,h,hn⟩
    ·subst h2;exact .inr ⟨u,by simp,h1,hn⟩
   ·exact .inr ⟨u',by simp[hu],h⟩
  ·rintro(⟨v,hv,hn⟩|⟨u',hu,h1,h2⟩)
   ·exact .inl ⟨v,Bf.2 (.inl hv),hn⟩
   ·rcases pn.1 hu with rfl|hu
    ·by_cases hex:∃a∈s,a.name=u'.name
     ·obtain⟨a,ha,hn⟩:=hex
      exact .inl ⟨a,Bf.2 (.inl ha),hn.trans h2⟩
     ·exact .inl ⟨⟨u'.name,u'.w⟩,Bf.2 (.inr ⟨h1,rfl,fun a ha hn=>hex ⟨a,ha,hn⟩⟩),h2⟩
    ·exact .inr ⟨u',hu,h1,h2⟩
theorem aj8{es:List (PV×AV)}{fr:Bool}{r:ag}{kl:mX}{k:PV}{z:AV}{o:Option AV}(hl:su kl k=true)(h:findKey kl k es=some o):uo (.map es fr::r) kl z (.map 0) (.p k) true=some (za [o.getD z,.p (.bool o.isSome)]):=by
 simp only[uo,XU,QS,hl,if_true,h,zy]
theorem aqh{es:List (PV×PV)}{kl:mX}{k:PV}{z:AV}{o:Option PV}(hl:su kl k=true)(h:findKey kl k es=some o):uo σ kl z (.p (.pmap es)) (.p k) false=some ((o.map AV.p).getD z):=by
 simp[uo,XU,hl,h]
theorem aqn{es es':List (PV×AV)}{r:ag}{kl:mX}{k:PV}{v:AV}(h:su kl k=true)(h':uK kl k v es=some es'):OX (.map es false::r) kl (.map 0) (.p k) v=some (.any,.map es' false::r):=by
 simp[OX,h,h']
theorem ldM{M:List (PV×AV)}{fr fr':Bool}{r:ag}:gU (.map M fr::.av 1 [[.map 0]] fr'::r) 1 false (.ptr 1 1 0 0)=some (.map 0):=rfl
end Go.AE.S
namespace Go.AE
namespace Term
end Term
namespace S
open Go Go.AE
variable {τ:Tm} {σ:ag} {rd:Option Nat}
end S
end Go.AE
namespace Go.AE.S
open Go Go.AE
variable {τ:Tm} {σ:ag} {rd:Option Nat}
end Go.AE.S
namespace Go.AE
namespace Term
end Term
namespace S
open Go Go.AE
variable {τ:Tm} {σ:ag} {rd:Option Nat}
theorem uf{a b:Term}:Du σ 5 2 (gz (List.replicate 2 [.p (.int .i64 0),.p (.int .i64 0),.p (.int .u64 0),.p (.str (bs [])),.aC]).flatten [(0,5,.p (.agg a.row)),(5,5,.p (.agg b.row))])=some (.p (.aM [a.row,b.row]),σ):=by rw[Term.aR a,Term.aR b];rfl
end S
end Go.AE
namespace Go.AE.S
open Go Go.AE
variable {τ:Tm} {σ:ag} {rd:Option Nat}
theorem avt{z0 z1:AV}{s:ByteArray}{n:Int}:k8 [z0,z1] [(0,1,.p (.str s)),(1,1,.p (.int .u64 n))]=some (.p (.agg [.str s,.int .u64 n])):=rfl
end Go.AE.S
