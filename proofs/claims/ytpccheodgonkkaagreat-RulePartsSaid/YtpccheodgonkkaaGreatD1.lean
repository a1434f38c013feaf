import Derived.Test.YtpccheodgonkkaaGreatD0
import Derived.Test.YtpccheodgonkkaaGreatP0
import Derived.Test.YtpccheodgonkkaaGreatC0
set_option maxHeartbeats 0
set_option linter.unusedSimpArgs false
set_option linter.unusedVariables false
namespace Go.AE.S
open Go Go.AE
variable {τ:Tm} {σ:ae} {rd:Option Nat}
structure Wd where
 w:Int
 v:Nat
def jn(x:Wd):List PV:=[.int .i64 x.w,.int .u64 (x.v:Int)]
def pO(o:Int)(c a b:Nat):Nat :=
 if o=5 then(a &&& b) % 2^c else
 if o=6 then(a |||b) % 2^c else
 if o=7 then(a ^^^ b) % 2^c else
 if o=8 then(a+b) % 2^c else
 if o=9 then(a+(18446744073709551616-b)) % 2^c else
 if o=10 then(a*b) % 2^c else
 if o=11 then Up c a b else
 if o=12 then Us c a b else
 if o=13 then Z0 c a b else
 if o=14 then E0 c a b else
 if o=15 then Jx c a b else
 if o=16 then yR (decide (a % 2^c=b % 2^c))else
 if o=17 then yR (decide (a % 2^c<b % 2^c))else
 yR (decide (xp c a<xp c b))
theorem aeF(w:Int)(a:Nat)(ha:W a):R P mN [.int .i64 w,.int .u64 (a:Int)]=some (.agg (jn ⟨w,a % 2^cw w⟩)):=by
 have h:=lR w a ha;have hb:∀(x y:Int),kB [.p (.int .i64 0),.p (.int .u64 0)] [(0,1,.p (.int .i64 x)),(1,1,.p (.int .u64 y))]=some (.p (.agg [.int .i64 x,.int .u64 y])):=fun _ _=>rfl
 have h1:∀σ:ae,rY 2 (aT [.p (.int .i64 0),.p (.int .u64 0)] σ)=some (.ptr σ.length 1 0 0,σ++[.pv 2 [[.int .i64 0,.int .u64 0]] false]):=fun _=>rfl
 have h2:∀(x y x' y':Int),eE [.pv 2 [[.int .i64 x,.int .u64 y]] false] 2 (.ptr 0 1 0 0) (.p (.agg [.int .i64 x',.int .u64 y']))=some [.pv 2 [[.int .i64 x',.int .u64 y']] false]:=fun _ _ _ _=>rfl
 have h3:∀(x y:Int),gM [.pv 2 [[.int .i64 x,.int .u64 y]] false] 2 true (.ptr 0 1 0 0)=some (.p (.agg [.int .i64 x,.int .u64 y])):=fun _ _=>rfl
 have h4:∀(x y:Int),KS 1 0 0 2 true (some (.pv 2 [[.int .i64 x,.int .u64 y]] false))=some (.p (.agg [.int .i64 x,.int .u64 y])):=fun _ _=>rfl
 have h5:∀(x y x' y':Int),QQ [.pv 2 [[.int .i64 x,.int .u64 y]] false] 0 1 0 0 [.p (.int .i64 x'),.p (.int .u64 y')] (some (.pv 2 [[.int .i64 x,.int .u64 y]] false))=some [.pv 2 [[.int .i64 x',.int .u64 y']] false]:=fun _ _ _ _=>rfl
 (rw[Tz (aO rfl),uz];simp(disch:=omega)only[aG,↓aa,seval,-List.reduceReplicate,reduceCtorEq,af,cg,h,hb,jn,h1,h2,h3,h4,h5])
theorem aj1(w w':Int)(x y:Int):PL false [.int,.int] (.p (.agg [.int .i64 w,.int .u64 x])) (.p (.agg [.int .i64 w,.int .u64 y]))=some (.p (.bool (decide (x=y)))):=by
 simp[PL,dg,ni];rw[abP];simp
theorem aeA(o w:Int)(a b:Nat)(ha:W a)(hb0:W b):R P lH [.int .i64 o,.int .i64 w,.int .u64 (a:Int),.int .u64 (b:Int)]=some (.int .u64 ((pO o (cw w) a b:Nat):Int)):=by
 rcases fC (o=5)with e5|e5
 ·have hb:pO o (cw w) a b=(a &&& b) % 2^cw w:=by unfold pO;simp only[e5,if_true,if_false]
  rw[hb];have k1:=anG w a b ha hb0
  (rw[dq (aO rfl),ck];simp(disch:=omega)only[aG,↓aa,seval,-List.reduceReplicate,reduceCtorEq,af,e5,Wk,k1])
 rcases fC (o=6)with e6|e6
 ·have hb:pO o (cw w) a b=(a |||b) % 2^cw w:=by unfold pO;simp only[e5,e6,if_true,if_false]
  rw[hb];have k1:=apA w a b ha hb0
  (rw[dq (aO rfl),ck];simp(disch:=omega)only[aG,↓aa,seval,-List.reduceReplicate,reduceCtorEq,af,e5,e6,ZQ,k1])
 rcases fC (o=7)with e7|e7
 ·have hb:pO o (cw w) a b=(a ^^^ b) % 2^cw w:=by unfold pO;simp only[e5,e6,e7,if_true,if_false]
  rw[hb];have k1:=anO w a b ha hb0
  (rw[dq (aO rfl),ck];simp(disch:=omega)only[aG,↓aa,seval,-List.reduceReplicate,reduceCtorEq,af,e5,e6,e7,Ws,k1])
 rcases fC (o=8)with e8|e8
 ·have hb:pO o (cw w) a b=(a+b) % 2^cw w:=by unfold pO;simp only[e5,e6,e7,e8,if_true,if_false]
  rw[hb];have k1:=anF w a b ha hb0
  (rw[dq (aO rfl),ck];simp(disch:=omega)only[aG,↓aa,seval,-List.reduceReplicate,reduceCtorEq,af,e5,e6,e7,e8,Wj,k1])
 rcases fC (o=9)with e9|e9
 ·have hb:pO o (cw w) a b=(a+(18446744073709551616-b)) % 2^cw w:=by unfold pO;simp only[e5,e6,e7,e8,e9,if_true,if_false]
  rw[hb];have k1:=anM w a b ha hb0
  (rw[dq (aO rfl),ck];simp(disch:=omega)only[aG,↓aa,seval,-List.reduceReplicate,reduceCtorEq,af,e5,e6,e7,e8,e9,Wq,k1])
 rcases fC (o=10)with e10|e10
 ·have hb:pO o (cw w) a b=(a*b) % 2^cw w:=by unfold pO;simp only[e5,e6,e7,e8,e9,e10,if_true,if_false]
  rw[hb];have k1:=anH w a b ha hb0
  (rw[dq (aO rfl),ck];simp(disch:=omega)only[aG,↓aa,seval,-List.reduceReplicate,reduceCtorEq,af,e5,e6,e7,e8,e9,e10,Wl,k1])
 rcases fC (o=11)with e11|e11
 ·have hb:pO o (cw w) a b=Up (cw w) a b:=by unfold pO;simp only[e5,e6,e7,e8,e9,e10,e11,if_true,if_false]
  rw[hb];have k1:=akA w a b ha hb0
  (rw[dq (aO rfl),ck];simp(disch:=omega)only[aG,↓aa,seval,-List.reduceReplicate,reduceCtorEq,af,e5,e6,e7,e8,e9,e10,e11,To,k1])
 rcases fC (o=12)with e12|e12
 ·have hb:pO o (cw w) a b=Us (cw w) a b:=by unfold pO;simp only[e5,e6,e7,e8,e9,e10,e11,e12,if_true,if_false]
  rw[hb];have k1:=akB w a b ha hb0
  (rw[dq (aO rfl),ck];simp(disch:=omega)only[aG,↓aa,seval,-List.reduceReplicate,reduceCtorEq,af,e5,e6,e7,e8,e9,e10,e11,e12,Tp,k1])
 rcases fC (o=13)with e13|e13
 ·have hb:pO o (cw w) a b=Z0 (cw w) a b:=by unfold pO;simp only[e5,e6,e7,e8,e9,e10,e11,e12,e13,if_true,if_false]
  rw[hb];have k1:=anK w a b ha hb0
  (rw[dq (aO rfl),ck];simp(disch:=omega)only[aG,↓aa,seval,-List.reduceReplicate,reduceCtorEq,af,e5,e6,e7,e8,e9,e10,e11,e12,e13,Wo,k1])
 rcases fC (o=14)with e14|e14
 ·have hb:pO o (cw w) a b=E0 (cw w) a b:=by unfold pO;simp only[e5,e6,e7,e8,e9,e10,e11,e12,e13,e14,if_true,if_false]
  rw[hb];have k1:=aky w a b ha hb0
  (rw[dq (aO rfl),ck];simp(disch:=omega)only[aG,↓aa,seval,-List.reduceReplicate,reduceCtorEq,af,e5,e6,e7,e8,e9,e10,e11,e12,e13,e14,Tl,k1])
 rcases fC (o=15)with e15|e15
 ·have hb:pO o (cw w) a b=Jx (cw w) a b:=by unfold pO;simp only[e5,e6,e7,e8,e9,e10,e11,e12,e13,e14,e15,if_true,if_false]
  rw[hb];have k1:=akx w a b ha hb0
  (rw[dq (aO rfl),ck];simp(disch:=omega)only[aG,↓aa,seval,-List.reduceReplicate,reduceCtorEq,af,e5,e6,e7,e8,e9,e10,e11,e12,e13,e14,e15,Tk,k1])
 rcases fC (o=16)with e16|e16
 ·have hb:pO o (cw w) a b=yR (decide (a % 2^(cw w)=b % 2^cw w)):=by unfold pO;simp only[e5,e6,e7,e8,e9,e10,e11,e12,e13,e14,e15,e16,if_true,if_false]
  rw[hb];have k1:=aeF w a ha;have k2:=aeF w b hb0;simp only[jn]at k1 k2;have he:=fun x y=>aj1 w w x y
  by_cases h0:a % 2^cw w=b % 2^cw w
  ·have hl:((((a % 2^cw w:Nat):Int))=((b % 2^cw w:Nat):Int))=True:=by rw[h0];simp
   rw[decide_eq_true h0]
   (rw[dq (aO rfl),ck];simp(disch:=omega)only[aG,↓aa,seval,-List.reduceReplicate,reduceCtorEq,af,e5,e6,e7,e8,e9,e10,e11,e12,e13,e14,e15,e16,HV,k1,k2,he,hl,yR])
  ·have hl:((((a % 2^cw w:Nat):Int))=((b % 2^cw w:Nat):Int))=False:=by simp only[eq_iff_iff,iff_false];omega
   rw[decide_eq_false h0]
   (rw[dq (aO rfl),ck];simp(disch:=omega)only[aG,↓aa,seval,-List.reduceReplicate,reduceCtorEq,af,e5,e6,e7,e8,e9,e10,e11,e12,e13,e14,e15,e16,HV,k1,k2,he,hl,yR])
 rcases fC (o=17)with e17|e17
 ·have hb:pO o (cw w) a b=yR (decide (a % 2^(cw w)<b % 2^cw w)):=by unfold pO;simp only[e5,e6,e7,e8,e9,e10,e11,e12,e13,e14,e15,e16,e17,if_true,if_false]
  rw[hb];have k1:=anN w a b ha hb0
  (rw[dq (aO rfl),ck];simp(disch:=omega)only[aG,↓aa,seval,-List.reduceReplicate,reduceCtorEq,af,e5,e6,e7,e8,e9,e10,e11,e12,e13,e14,e15,e16,e17,Wr,k1])
 have hb:pO o (cw w) a b=yR (decide (xp (cw w) a<xp (cw w) b)):=by unfold pO;simp only[e5,e6,e7,e8,e9,e10,e11,e12,e13,e14,e15,e16,e17,if_false]
 rw[hb];have k1:=anL w a b ha hb0
 (rw[dq (aO rfl),ck];simp(disch:=omega)only[aG,↓aa,seval,-List.reduceReplicate,reduceCtorEq,af,e5,e6,e7,e8,e9,e10,e11,e12,e13,e14,e15,e16,e17,Wp,k1])
theorem al5{x:Wd}:gM σ 1 false (.p (.ptr (jn x) 0))=some (.p (.int .i64 x.w)):=rfl
theorem QY{x:Wd}:gM σ 1 false (.p (.ptr (jn x) 1))=some (.p (.int .u64 (x.v:Int))):=rfl
theorem afY{x:Wd}:Kt 0 (.p (.ptr (jn x) 0))=some (.p (.ptr (jn x) 0)):=rfl
theorem F4{x:Wd}:Kt 1 (.p (.ptr (jn x) 0))=some (.p (.ptr (jn x) 1)):=rfl
theorem QX{x:Wd}{l:List (List PV)}:jd σ 2 (.p (.aW (jn x::l))) (.p (.int .i64 0))=some (.p (.ptr (jn x) 0)):=rfl
theorem aiD{x y:Wd}{l:List (List PV)}:jd σ 2 (.p (.aW (jn x::jn y::l))) (.p (.int .i64 1))=some (.p (.ptr (jn y) 0)):=rfl
theorem aoX{x y z:Wd}{l:List (List PV)}:jd σ 2 (.p (.aW (jn x::jn y::jn z::l))) (.p (.int .i64 2))=some (.p (.ptr (jn z) 0)):=rfl
theorem F5{x:Wd}:(jn x)[0]?=some (.int .i64 x.w):=rfl
theorem F6{x:Wd}:(jn x)[1]?=some (.int .u64 (x.v:Int)):=rfl
def apy(v:Nat):Int:=IntKind.i64.wrap (v:Int)
def sR(o r:Int)(v:Nat):List Wd→Nat
 | []=>v
 | [x]=>if o=3 then(18446744073709551615-x.v) % 2^cw r else if o=4 then(18446744073709551616-x.v) % 2^cw r else if o=21 then Eu (apy v) (cw r) x.v else if o=23 then Yg (cw x.w) (cw r) x.v else x.v
 | [x,y]=>if o=20 then I3 (cw x.w) (cw y.w) x.v y.v else pO o (cw x.w) x.v y.v
 |x::y::z::_=>if x.v=1 then y.v else z.v
theorem ahn(r:Int)(v:Nat)(l:List Wd):R P ep [.int .i64 2,.int .i64 r,.int .u64 (v:Int),.aW (l.map jn)]=some (.int .u64 (v:Int)):=by
 (rw[eX (aO rfl),dd];simp(disch:=omega)only[aG,↓aa,seval,-List.reduceReplicate,reduceCtorEq,af])
theorem aho(o r:Int)(v:Nat)(x:Wd)(ho:o=3∨o=4∨o=21∨o=22∨o=23)(hv:W v)(hx:W x.v):R P ep [.int .i64 o,.int .i64 r,.int .u64 (v:Int),.aW [jn x]]=some (.int .u64 ((sR o r v [x]:Nat):Int)):=by
 rcases ho with rfl|rfl|rfl|rfl|rfl
 ·have k:=anJ r x.v hx
  (rw[eX (aO rfl),dd];simp(disch:=omega)only[aG,↓aa,seval,-List.reduceReplicate,reduceCtorEq,af,QX,F4,QY,F5,F6,Wn,k])
  rfl
 ·have k:=anI r x.v hx
  (rw[eX (aO rfl),dd];simp(disch:=omega)only[aG,↓aa,seval,-List.reduceReplicate,reduceCtorEq,af,QX,F4,QY,F5,F6,Wm,k])
  rfl
 ·have k:=ZF (IntKind.i64.wrap (v:Int)) r x.v hx
  (rw[eX (aO rfl),dd];simp(disch:=omega)only[aG,↓aa,seval,-List.reduceReplicate,reduceCtorEq,af,QX,F4,QY,F5,F6,Lu,k])
  rfl
 ·(rw[eX (aO rfl),dd];simp(disch:=omega)only[aG,↓aa,seval,-List.reduceReplicate,reduceCtorEq,af,QX,F4,QY,F5,F6])
  rfl
 ·have k:=akz x.w r x.v hx
  (rw[eX (aO rfl),dd];simp(disch:=omega)only[aG,↓aa,seval,-List.reduceReplicate,reduceCtorEq,af,QX,afY,al5,F4,QY,F5,F6,Tn,k])
  rfl
theorem ahp(o r:Int)(v:Nat)(x y:Wd)(ho:(5≤o∧o≤18)∨o=20)(hx:W x.v)(hy:W y.v):R P ep [.int .i64 o,.int .i64 r,.int .u64 (v:Int),.aW [jn x,jn y]]=some (.int .u64 ((sR o r v [x,y]:Nat):Int)):=by
 by_cases h20:o=20
 ·subst h20
  have k:=aex x.w y.w x.v y.v hx hy;have hb:sR 20 r v [x,y]=I3 (cw x.w) (cw y.w) x.v y.v:=by simp[sR]
  rw[hb]
  (rw[eX (aO rfl),dd];simp(disch:=omega)only[aG,↓aa,seval,-List.reduceReplicate,reduceCtorEq,af,QX,aiD,afY,al5,F4,QY,F5,F6,Ni,k])
 ·have hb:sR o r v [x,y]=pO o (cw x.w) x.v y.v:=by simp[sR,h20]
  rw[hb];have e2:(o=2)=False:=by simp;omega
  have e3:(o=3)=False:=by simp;omega
  have e4:(o=4)=False:=by simp;omega
  have e19:(o=19)=False:=by simp;omega
  have e20:(o=20)=False:=by simp;omega
  have e21:(o=21)=False:=by simp;omega
  have e22:(o=22)=False:=by simp;omega
  have e23:(o=23)=False:=by simp;omega
  have k:=aeA o x.w x.v y.v hx hy
  (rw[eX (aO rfl),dd];simp(disch:=omega)only[aG,↓aa,seval,-List.reduceReplicate,reduceCtorEq,af,e2,e3,e4,e19,e20,e21,e22,e23,QX,aiD,afY,al5,F4,QY,F5,F6,Nj,k])
theorem ahq(r:Int)(v:Nat)(x y z:Wd):R P ep [.int .i64 19,.int .i64 r,.int .u64 (v:Int),.aW [jn x,jn y,jn z]]=some (.int .u64 ((sR 19 r v [x,y,z]:Nat):Int)):=by
 by_cases h1:x.v=1
 ·have e:((x.v:Int)=1)=True:=by simp only[eq_iff_iff,iff_true];omega
  have hb:sR 19 r v [x,y,z]=y.v:=by simp[sR,h1]
  rw[hb]
  (rw[eX (aO rfl),dd];simp(disch:=omega)only[aG,↓aa,seval,-List.reduceReplicate,reduceCtorEq,af,QX,aiD,aoX,F4,QY,F5,F6,e])
 ·have e:((x.v:Int)=1)=False:=by simp only[eq_iff_iff,iff_false];omega
  have hb:sR 19 r v [x,y,z]=z.v:=by simp[sR,h1]
  rw[hb]
  (rw[eX (aO rfl),dd];simp(disch:=omega)only[aG,↓aa,seval,-List.reduceReplicate,reduceCtorEq,af,QX,aiD,aoX,F4,QY,F5,F6,e])
def acN(o:Int)(n:Nat):Prop:=(o=2∧n=0)∨((o=3∨o=4∨o=21∨o=22∨o=23)∧n=1)∨(((5≤o∧o≤18)∨o=20)∧n=2)∨(o=19∧n=3)
theorem ZG(o r:Int)(v:Nat)(l:List Wd)(ha:acN o l.length)(hv:W v)(hl:∀x∈l,W x.v):R P ep [.int .i64 o,.int .i64 r,.int .u64 (v:Int),.aW (l.map jn)]=some (.int .u64 ((sR o r v l:Nat):Int)):=by
 rcases ha with⟨rfl,h⟩|⟨ho,h⟩|⟨ho,h⟩|⟨rfl,h⟩
 ·match l,h with
  | [],_=>exact ahn r v []
 ·match l,h with
  | [x],_=>exact aho o r v x ho hv (hl x (by simp))
 ·match l,h with
  | [x,y],_=>exact ahp o r v x y ho (hl x (by simp)) (hl y (by simp))
 ·match l,h with
  | [x,y,z],_=>exact ahq r v x y z
theorem agr{c:Nat}(h:1≤c∧c≤64)(a b:Nat):Jx c a b<2^c:=by
 have hp:0<2^c:=MA (by omega)
 have hm:a % 2^c<2^c:=NY _ hp;unfold Jx E0;split
 ·split
  ·exact hp
  ·exact abk (abZ _ _) hm
 ·split
  ·omega
  ·rename_i hn
   have hs:=xY (c:=c) (n:=b % 2^c) (by omega)
   have hr:a % 2^c / 2^(b % 2^c)<2^(c-b % 2^c):=by rw[acf (MA (by omega)),hs];exact hm
   have hle:2^(c-b % 2^c)≤2^c:=aa4 (by omega) (by omega)
   omega
theorem PN(b:Bool):yR b<2:=by unfold yR;split<;>omega
theorem ajK{c:Nat}(h:1≤c∧c≤64)(o:Int)(a b:Nat):pO o c a b<2^c:=by
 have hp:0<2^c:=MA (by omega)
 have h2:2≤2^c:=by have:=aa4 (show 0<2 by omega) h.1;simpa using this
 have hm:=fun x=>NY x hp
 have fl:=fun b=>Q7 (PN b) h2
 unfold pO;by_cases h5:o=5
 ·rw[if_pos h5];exact hm _
 rw[if_neg h5];by_cases h6:o=6
 ·rw[if_pos h6];exact hm _
 rw[if_neg h6];by_cases h7:o=7
 ·rw[if_pos h7];exact hm _
 rw[if_neg h7];by_cases h8:o=8
 ·rw[if_pos h8];exact hm _
 rw[if_neg h8];by_cases h9:o=9
 ·rw[if_pos h9];exact hm _
 rw[if_neg h9];by_cases h10:o=10
 ·rw[if_pos h10];exact hm _
 rw[if_neg h10];by_cases h11:o=11
 ·rw[if_pos h11]
  unfold Up;split
  ·omega
  ·exact abk (abZ _ _) (hm _)
 rw[if_neg h11];by_cases h12:o=12
 ·rw[if_pos h12]
  unfold Us;split
  ·exact hm _
  ·exact abk (Nat.mod_le _ _) (hm _)
 rw[if_neg h12];by_cases h13:o=13
 ·rw[if_pos h13]
  unfold Z0;split
  ·exact hp
  ·exact hm _
 rw[if_neg h13];by_cases h14:o=14
 ·rw[if_pos h14]
  unfold E0;split
  ·exact hp
  ·exact abk (abZ _ _) (hm _)
 rw[if_neg h14];by_cases h15:o=15
 ·rw[if_pos h15];exact agr h _ _
 rw[if_neg h15];by_cases h16:o=16
 ·rw[if_pos h16];exact fl _
 rw[if_neg h16];by_cases h17:o=17
 ·rw[if_pos h17];exact fl _
 rw[if_neg h17];exact fl _
def Ai(n:Nat):List PV:=[.int .u64 (n:Int)]
theorem amM{n:Int}:kU σ 1 1 (gK (List.replicate 1 [.p (.int .u64 0)]).flatten [(0,1,.p (.int .u64 n))])=some (.sl σ.length 1,σ++[.pv 1 [[.int .u64 n]] false]):=rfl
end Go.AE.S
namespace Go.AE
namespace Term
mutual
def xB(E:ByteArray→Nat):Term→Nat
 |.mk o w v s as=>if o=1 then E s % 2^S.cw w else S.sR o w v.toNat (s7 E as)
def s7(E:ByteArray→Nat):List Term→List S.Wd
 | []=>[]
 |a::r=>⟨a.w,xB E a⟩::s7 E r
end
theorem Jf(E:ByteArray→Nat)(t:Term):t.xB E=if t.op=1 then E t.name % 2^S.cw t.w else S.sR t.op t.w t.v.toNat (s7 E t.args):=by
 cases t;rw[xB];rfl
theorem rz(E:ByteArray→Nat):∀l:List Term,s7 E l=l.map fun a=>⟨a.w,a.xB E⟩
 | []=>by rw[s7];rfl
 |a::r=>by rw[s7,rz E r];rfl
end Term
namespace S
open Go Go.AE
structure acO (t:Term):Prop where
 ar:(t.args.length:Int)=arity t.op∧0≤arity t.op∧¬(24≤t.op∧t.op≤26)
 w:1≤t.w
 wd:cG t.op t.w t.v (t.args.map Term.w)=(t.w,0)
theorem X4{t:Term}(h:sj t=0):acO t:=by
 unfold sj at h;split at h
 ·cases h
 rename_i h1;split at h
 ·cases h
 rename_i h2;split at h
 ·cases h
 rename_i h3;split at h
 ·cases h
 split at h
 ·cases h
 split at h
 ·cases h
 split at h
 ·cases h
 rename_i h7;split at h
 ·cases h
 rename_i h8;split at h
 ·cases h
 rename_i h9;refine⟨⟨abh.1 h3,by omega,h2⟩,by omega,?_⟩
 exact Prod.ext (abh.1 h9) (abh.1 h8)
theorem amG{o:Int}{n:Nat}(h:(n:Int)=arity o∧0≤arity o∧¬(24≤o∧o≤26))(h1:o≠1):acN o n:=by
 obtain⟨ha,hn,hp⟩:=h;unfold arity at ha hn;unfold acN;split at ha
 ·omega
 ·split at ha
  ·omega
  ·split at ha
   ·omega
   ·split at ha
    ·omega
    ·rename_i a b c d
     rw[if_neg a,if_neg b,if_neg c,if_neg d]at hn;omega
def InW(l:List Wd):Prop:=∀x∈l,x.v<2^cw x.w
theorem amP{a b:Int}(h:a≤b):cw a≤cw b:=by unfold cw iB;omega
theorem Tf{a b:Nat}(h:a≤b):2^a≤2^b:=aa4 (by omega) h
theorem agP{o w v:Int}{l:List Wd}(hw1:1≤w)(ho1:o≠1)(hv:0≤v)(har:acN o l.length)(hwd:cG o w v (l.map (·.w))=(w,0))(hl:InW l):sR o w v.toNat l<2^cw w∧(∀x,l=[x]→o=3∨o=4→cw w=cw x.w):=by
 have hm:=fun y=>NY y (show 0<2^cw w from MA (by omega))
 rcases har with⟨rfl,h⟩|⟨ho,h⟩|⟨ho,h⟩|⟨rfl,h⟩
 ·have hl0:l=[]:=Jm.1 h
  subst hl0;refine⟨?_,fun x h=>by cases h⟩
  have e:cG 2 w v []=wZ 2 w v:=rfl;rw[CU,e]at hwd;unfold wZ at hwd;split at hwd
  ·have:=congrArg Prod.snd hwd;simp at this
  ·rename_i hc
   have hcw:cw w=w.toNat:=by unfold cw iB;omega
   show v.toNat<2^cw w;rw[hcw]
   have h2:v<(2:Int)^w.toNat:=by
    rcases Int.lt_or_le v ((2:Int)^w.toNat)with h|h
    ·exact h
    ·exact absurd (.inr ⟨rfl,by omega,h⟩) hc
   have h3:((2:Int)^w.toNat)=((2^w.toNat:Nat):Int):=by simp
   omega
 ·match l,h,hl with
  | [x],_,hl=>
   have hx:=hl x (by simp)
   have hok:∀f:Int,o=3∨o=4→cG o w v [f]=if okW f=false then(0,3)else(f,0):=by
    intro f h;rcases h with rfl|rfl<;>simp[cG,arity]
   have hsz:∀f:Int,o=21∨o=22∨o=23→cG o w v [f]=if okW f=false then(0,3)else yg o w v f:=by
    intro f h;rcases h with rfl|rfl|rfl<;>simp[cG,arity]
   rw[ue,CU]at hwd
   have h34:o=3∨o=4→cw w=cw x.w:=by
    intro h;rw[hok _ h]at hwd;split at hwd
    ·have:=congrArg Prod.snd hwd;simp at this
    ·have:=congrArg Prod.fst hwd;simp at this;rw[this]
   refine⟨?_,fun y hy h=>by cases hy;exact h34 h⟩
   simp only[sR];by_cases h3:o=3
   ·rw[if_pos h3];exact hm _
   rw[if_neg h3];by_cases h4:o=4
   ·rw[if_pos h4];exact hm _
   rw[if_neg h4];by_cases h21:o=21
   ·rw[if_pos h21]
    unfold Eu;split
    ·exact MA (by omega)
    ·exact hm _
   rw[if_neg h21];by_cases h23:o=23
   ·rw[if_pos h23]
    unfold Yg;exact hm _
   rw[if_neg h23];have h22:o=22:=by omega
   rw[hsz _ (.inr (.inl h22))]at hwd;split at hwd
   ·have:=congrArg Prod.snd hwd;simp at this
   ·unfold yg at hwd
    split at hwd
    ·have:=congrArg Prod.snd hwd;simp at this
    ·rename_i hc
     have hle:x.w≤w:=by omega
     exact Q7 hx (Tf (amP hle))
 ·match l,h,hl with
  | [x,y],_,hl=>
   have hx:=hl x (by simp)
   have hy:=hl y (by simp)
   refine⟨?_,fun z hz=>by simp at hz⟩
   rw[ue,ue,CU]at hwd;simp only[sR];by_cases h20:o=20
   ·subst h20
    rw[if_pos rfl];have e:cG 20 w v [x.w,y.w]=if[x.w,y.w].all okW=false then(0,3)else if 1≤x.w∧1≤y.w∧x.w+y.w≤64 then(x.w+y.w,0)else(0,3):=by simp[cG,arity]
    rw[e]at hwd;split at hwd
    ·have:=congrArg Prod.snd hwd;simp at this
    ·split at hwd
     ·rename_i hc
      have hw:x.w+y.w=w:=congrArg Prod.fst hwd;have hcw:cw w=cw x.w+cw y.w:=by unfold cw iB;omega
      rw[hcw];unfold I3;refine Nat.or_lt_two_pow ?_ (Q7 (NY _ (MA (by omega))) (Tf (by omega)))
      refine abk (Nat.mod_le _ _) ?_;rw[Nat.pow_add];exact Nat.mul_lt_mul_of_pos_right (NY _ (MA (by omega))) (MA (by omega))
     ·have:=congrArg Prod.snd hwd;simp at this
   ·rw[if_neg h20]
    have ho':5≤o∧o≤18:=by omega
    have e:cG o w v [x.w,y.w]=if[x.w,y.w].all okW=false then(0,3)else if x.w=y.w then(if o=16∨o=17∨o=18 then(1,0)else(x.w,0))else(0,3):=by
     have ha:arity o=2:=by unfold arity;rw[if_neg (by omega),if_neg (by omega),if_neg (by omega),if_pos (by omega)]
     unfold cG;rw[ha,if_neg (by simp),if_neg (show ¬(2:Int)=0 by omega),if_neg (show ¬(o=21∨o=22∨o=23) by omega),if_neg (show ¬(2:Int)=1 by omega),if_neg h20,if_neg (show ¬o=19 by omega)]
     rfl
    rw[e]at hwd;split at hwd
    ·have:=congrArg Prod.snd hwd;simp at this
    ·split at hwd
     ·split at hwd
      ·rename_i hc
       have hw:(1:Int)=w:=congrArg Prod.fst hwd;have hcw:cw w=1:=by rw[←hw];rfl
       rw[hcw];have hf:=PN;rcases hc with rfl|rfl|rfl<;>simp only[pO]<;>simp<;>exact PN _
      ·have hw:x.w=w:=congrArg Prod.fst hwd
       rw[←hw];exact ajK (vE x.w) o _ _
     ·have:=congrArg Prod.snd hwd;simp at this
 ·match l,h,hl with
  | [x,y,z],_,hl=>
   have hy:=hl y (by simp)
   have hz:=hl z (by simp)
   refine⟨?_,fun z hz=>by simp at hz⟩
   rw[ue,ue,ue,CU]at hwd;have e:cG 19 w v [x.w,y.w,z.w]=if[x.w,y.w,z.w].all okW=false then(0,3)else if x.w=1∧y.w=z.w then(y.w,0)else(0,3):=by simp[cG,arity]
   rw[e]at hwd;split at hwd
   ·have:=congrArg Prod.snd hwd;simp at this
   ·split at hwd
    ·rename_i hc
     have hw:y.w=w:=congrArg Prod.fst hwd;simp only[sR];split
     ·rw[←hw];exact hy
     ·rw[←hw,hc.2];exact hz
    ·have:=congrArg Prod.snd hwd;simp at this
end S
end Go.AE
namespace Go.AE.S
open Go Go.AE
def Ls(n:ByteArray):List V2→Nat
 | []=>0
 |a::r=>if slt a.name n=true then Ls n r+1 else 0
def VU(n:ByteArray)(s:List V2):Bool:=match s[Ls n s]? with|some a=>decide (a.name=n)|none=>false
def PX(s:List V2)(u:Term):List V2:=if u.op=1 then if VU u.name s=true then s else s.take (Ls u.name s)++[⟨u.name,u.w⟩]++s.drop (Ls u.name s)else s
theorem PY(s:List V2)(u:Term):PX s u=if u.op=1 then p7 s ⟨u.name,u.w⟩else s:=by
 unfold PX;by_cases h1:u.op=1
 ·rw[if_pos h1,if_pos h1]
  induction s with
  |nil=>rfl
  |cons a r ih=>
   unfold p7;by_cases h2:a.name=u.name
   ·have h3:¬slt a.name u.name=true:=by rw[h2,gq];simp
    have h4:Ls u.name (a::r)=0:=by unfold Ls;rw[if_neg h3]
    rw[if_pos h2,if_pos (by unfold VU;rw[h4];simp[h2])]
   ·rw[if_neg h2]
    by_cases h3:slt u.name a.name=true
    ·have h4:Ls u.name (a::r)=0:=by unfold Ls;rw[if_neg (by rw[sH h3];simp)]
     rw[if_pos h3,if_neg (by unfold VU;rw[h4];simp[h2]),h4]
     rfl
    ·have h5:slt a.name u.name=true:=by
      rcases qJ a.name u.name with h|h|h
      ·exact h
      ·exact absurd h h2
      ·exact absurd h h3
     have h4:Ls u.name (a::r)=Ls u.name r+1:=by conv=>lhs;unfold Ls;rw[if_pos h5]
     have h6:VU u.name (a::r)=VU u.name r:=by unfold VU;rw[h4];rfl
     rw[if_neg h3,←ih,h6,h4];by_cases h7:VU u.name r=true
     ·rw[if_pos h7,if_pos h7]
     ·rw[if_neg h7,if_neg h7];rfl
 ·rw[if_neg h1,if_neg h1]
theorem SO:∀{s:List V2} {v x:V2},eL s→(x∈p7 s v↔x∈s∨(x=v∧∀a∈s,a.name≠v.name))
 | [],v,x,_=>by simp[p7]
 |a::r,v,x,hs=>by
  have hs':=IY.1 hs;unfold p7;split
  ·rename_i h2
   constructor
   ·exact .inl
   ·rintro(h|⟨_,h⟩)
    ·exact h
    ·exact absurd h2 (h a (by simp))
  ·rename_i h2
   split
   ·rename_i h3
    have hno:∀b∈a::r,b.name≠v.name:=by
     intro b hb e;rcases qL.1 hb with rfl|hb
     ·exact h2 e
     ·have:=hs'.1 b hb
      rw[e,sH h3]at this;cases this
    rw[qL];constructor
    ·rintro(h|h)
     ·exact .inr ⟨h,hno⟩
     ·exact .inl h
    ·rintro(h|⟨h,_⟩)
     ·exact .inr h
     ·exact .inl h
   ·rw[qL,qL,SO hs'.2]
    constructor
    ·rintro(h|h|⟨h,h'⟩)
     ·exact .inl (.inl h)
     ·exact .inl (.inr h)
     ·refine .inr ⟨h,fun b hb=>?_⟩
      rcases qL.1 hb with rfl|hb
      ·exact h2
      ·exact h' b hb
    ·rintro((h|h)|⟨h,h'⟩)
     ·exact .inl h
     ·exact .inr (.inl h)
     ·exact .inr (.inr ⟨h,fun b hb=>h' b (by simp[hb])⟩)
theorem yL{s:List V2}{u:Term}{x:V2}:x∈vT s u↔x∈s∨(u.op=1∧x=⟨u.name,u.w⟩∧∀a∈s,a.name≠u.name):=by
 unfold vT
 have hany:s.any (isV u)=false↔∀a∈s,a.name≠u.name:=by
  rw[Uw];constructor
  ·intro h a ha e;exact h a ha (decide_eq_true e)
  ·intro h a ha e;exact h a ha (of_decide_eq_true e)
 split
 ·rename_i h
  simp only[Gb,Uz];constructor
  ·rintro(h'|h')
   ·exact .inl h'
   ·exact .inr ⟨h.1,h',hany.1 h.2⟩
  ·rintro(h'|⟨_,h',_⟩)
   ·exact .inl h'
   ·exact .inr h'
 ·rename_i h
  constructor
  ·exact .inl
  ·rintro(h'|⟨h1,_,h2⟩)
   ·exact h'
   ·exact absurd ⟨h1,hany.2 h2⟩ h
theorem Hi{s:List V2}{u:Term}(h:eL s):eL (PX s u):=by
 rw[PY];split
 ·exact Bb h
 ·exact h
theorem EG:∀{l:List Term} {s:List V2},eL s→eL (l.foldl PX s)
 | [],_,h=>h
 |u::l,s,h=>EG (l:=l) (Hi h)
theorem Rr:∀{l:List Term} {s m:List V2},eL m→(∀x,x∈s↔x∈m)→∀x,x∈l.foldl vT s↔x∈l.foldl PX m
 | [],s,m,_,h=>h
 |u::l,s,m,hm,h=>by
  refine Rr (l:=l) (Hi hm) fun x=>?_
  rw[yL,PY];by_cases h1:u.op=1
  ·rw[if_pos h1,SO hm,h x]
   constructor
   ·rintro(h'|⟨_,h',h2⟩)
    ·exact .inl h'
    ·exact .inr ⟨h',fun a ha=>h2 a ((h a).2 ha)⟩
   ·rintro(h'|⟨h',h2⟩)
    ·exact .inl h'
    ·exact .inr ⟨h1,h',fun a ha=>h2 a ((h a).1 ha)⟩
  ·rw[if_neg h1,h x]
   constructor
   ·rintro(h'|⟨h',_⟩)
    ·exact h'
    ·exact absurd h' h1
   ·exact .inl
theorem afS(t:Term):mC t=t.pre.foldl PX []:=by
 refine G1 (DP (DE (by simp[xC]))) (EG (by simp[eL])) fun x=>?_
 rw[mC,rp];exact Rr (by simp[eL]) (fun x=>Iff.rfl) x
variable {τ:Tm} {σ:ae} {rd:Option Nat}
theorem adX{s:List V2}{u:Term}:(PX s u).length≤s.length+1:=by
 rw[PY];split
 ·exact EH _ _
 ·omega
theorem Oq:∀{l:List Term} {s:List V2},(l.foldl PX s).length≤s.length+l.length
 | [],s=>by simp
 |u::l,s=>by
  have h1:=Oq (l:=l) (s:=PX s u);have h2:=adX (s:=s) (u:=u);simp only[UM,oi];omega
def Jg(t:Term):Prop:=∀u∈t.post,sj u=0
theorem UQ{t:Term}(h:Jg t):acO t:=X4 (h t ((j7 t t).2 (lX.2 (.inl rfl))))
theorem N1{t a:Term}(h:Jg t)(ha:a∈t.args):Jg a:=fun u hu=>h u ((j7 t u).2 (lX.2 (.inr ⟨a,ha,(j7 a u).1 hu⟩)))
theorem al0(E:ByteArray→Nat)(t:Term):Jg t→iM t→t.xB E<2^cw t.w∧(t.op≠1→acN t.op t.args.length∧InW (Term.s7 E t.args)∧∀x,Term.s7 E t.args=[x]→t.op=3∨t.op=4→cw t.w=cw x.w):=by
 induction t using Term.ind with
 |h t ih=>
 intro h ht;have hn:=UQ h
 have hin:InW (Term.s7 E t.args):=by
  rw[Term.rz];intro x hx;obtain⟨a,ha,rfl⟩:=CV.1 hx;exact(ih a ha (N1 h ha) (ht.args ha)).1
 rw[Term.Jf];by_cases h1:t.op=1
 ·rw[if_pos h1]
  exact⟨NY _ (MA (by omega)),fun h=>absurd h1 h⟩
 ·rw[if_neg h1]
  have har:=amG hn.ar h1;have hlen:(Term.s7 E t.args).length=t.args.length:=by rw[Term.rz];simp
  have hm:(Term.s7 E t.args).map (·.w)=t.args.map Term.w:=by rw[Term.rz,abW];rfl
  have:=agP hn.w h1 ht.v.1 (by rw[hlen];exact har) (by rw[hm];exact hn.wd) hin
  exact⟨this.1,fun _=>⟨har,hin,this.2⟩⟩
abbrev sV8(s:List Wd):ae:=[.gone,.pv 2 (s.map jn) false]
abbrev ajY(g:AV)(t:Term)(s:List Wd)(i:Int):List (Nat×AV):=[(1,g),(2,.p (.ptr t.row 0)),(6,.sl 1 s.length),(20,.p (.aW (t.args.map Term.row))),(21,.p (.int .i64 t.args.length)),(22,.p (.int .i64 i))]
theorem amN{w v:Int}:kU σ 2 1 (gK (List.replicate 1 [.p (.int .i64 0),.p (.int .u64 0)]).flatten [(0,2,.p (.agg [.int .i64 w,.int .u64 v]))])=some (.sl σ.length 1,σ++[.pv 2 [[.int .i64 w,.int .u64 v]] false]):=rfl
theorem amK{w v:Int}:kB [.p (.int .i64 0),.p (.int .u64 0)] [(0,1,.p (.int .i64 w)),(1,1,.p (.int .u64 v))]=some (.p (.agg [.int .i64 w,.int .u64 v])):=rfl
theorem ao9:rY 6 (aT [.p (.int .i64 0),.p (.int .u64 0),.p (.int .i64 0),.p (.int .u64 0),.p (.int .i64 0),.p (.int .u64 0)] σ)=some (.ptr σ.length 1 0 0,σ++[.pv 6 [[.int .i64 0,.int .u64 0,.int .i64 0,.int .u64 0,.int .i64 0,.int .u64 0]] false]):=rfl
theorem aok:ajk [.pv 6 [[.int .i64 0,.int .u64 0,.int .i64 0,.int .u64 0,.int .i64 0,.int .u64 0]] false] 3 2 (.ptr 0 1 0 0) none (some (.p (.int .i64 0))) none=some (.sl 1 0,[.gone,.pv 2 [] false]):=rfl
theorem ae4(k:Nat)(o:Obj)(rows:List (List PV))(e:Nat)(fr:Bool):az [o,.pv e rows fr] (k+1) (.sl 1 rows.length)=some (.aW rows):=by simp[az]
theorem VT(n:Nat):Obj.below n .gone=true:=rfl
theorem alw{o o1:Obj}{r:List PV}{fr:Bool}:mB [o,o1,.pv 2 [r] fr] 2 (.sl 2 1)=some (.inl [r]):=Cf rfl rfl (.inl rfl)
theorem ND(f:FuncId)(cap:List PV)(E:ByteArray→Nat)(hE:∀n,W (E n))(t:Term) :
  (∀u∈t.post,∀σ:ae,u.op=1→rk P (.p (.fn f cap)) [.p (.agg u.row)] σ=some (.p (.int .u64 (E u.name:Int)),σ))→Jg t→iM t→t.count≤1000000→R P kX [.agg t.row,.fn f cap]=some (.int .u64 (t.xB E:Int)):=by
 induction t using Term.ind with
 |h t ih=>
 intro hf h ht hc;rw[Term.Jf];by_cases h1:t.op=1
 ·rw[if_pos h1]
  have e1:(t.op=1)=True:=by simp[h1]
  have hv:=fun σ=>hf t ((j7 t t).2 (lX.2 (.inl rfl))) σ h1
  have hcut:=lR t.w (E t.name) (hE _)
  (rw[FD (aO rfl),pE];simp(disch:=omega)only[aG,↓aa,seval,-List.reduceReplicate,reduceCtorEq,af,e1,hv,cg,hcut,x8,rv,x9,jr,eJ,uP,xc,abI,acp])
 ·rw[if_neg h1]
  have e1:(t.op=1)=False:=by simp[h1]
  have hct:=Term.count_eq t;have hlen:=Term.eo t.args;obtain⟨har,hin,_⟩:=(al0 E t h ht).2 h1
  obtain⟨hk,hl⟩:=jj (P:=P) (nt:=44) (lv:=[1,2,6,20,21,22]) (b:=tP) (rd:=none) (as:=t.args) (fun i (s:List Wd)=>ajY (.p (.fn f cap)) t s i) sV8 (fun _ s a=>s++[⟨a.w,a.xB E⟩]) (fun i s=>s.length=i)
   (fun i a s ha hi hs=>by
    have hm:=mK ha;have hac:=Term.dK hm;have hr:=ih a hm (fun u hu=>hf u ((j7 t u).2 (lX.2 (.inr ⟨a,hm,(j7 a u).1 hu⟩)))) (N1 h hm) (ht.args hm) (by omega)
    have hlt:((i:Int)<t.args.length)=True:=by simpa using hi
    have hx:=fun σ=>aU (k:=.i64) (es:=5) (σ:=σ) (ax (f:=Term.row) ha) a.aH
    have hap:=eZ (σ:=[.gone,.pv 2 (s.map jn) false,.pv 2 [[.int .i64 a.w,.int .u64 (a.xB E:Int)]] false]) (b:=1) (n:=s.length) (e:=2) (es:=2) (bytes:=16) (rows:=s.map jn) (new:=[[.int .i64 a.w,.int .u64 (a.xB E:Int)]]) rfl (by simp) (.inl rfl) (by simp only[oi,pN];omega)
    refine⟨by simp[hs],?_⟩
    simp only[tP];simp(disch:=omega)only[aG,↓aa,seval,-List.reduceReplicate,reduceCtorEq,af,hlt,hx,Fz,hr,amK,amN,alw,hap,bz,mh,Ed,VT,jn,ajY,sV8]) (fun i s=>rfl) [] rfl _ (yV (fun a=>(⟨a.w,a.xB E⟩:Wd)) t.args 0 [])
  have hv:([]:List Wd)++t.args.map (fun a=>(⟨a.w,a.xB E⟩:Wd))=Term.s7 E t.args:=by rw[Term.rz];rfl
  rw[hv]at hl;have hvl:(Term.s7 E t.args).length=t.args.length:=by rw[Term.rz];simp
  have hvN:((t.v.toNat:Nat):Int)=t.v:=by have:=ht.v.1;omega
  have hcomp:=ZG t.op t.w t.v.toNat (Term.s7 E t.args) (by rw[hvl];exact har) (by have:=ht.v;unfold MD at this;show _<_;omega) (fun x hx=>Q7 (hin x hx) (OJ (vE x.w).2))
  rw[hvN]at hcomp;have hl':an P yj [(1,.p (.fn f cap)),(2,.p (.ptr t.row 0)),(6,.sl 1 0),(20,.p (.aW (t.args.map Term.row))),(21,.p (.int .i64 t.args.length)),(22,.p (.int .i64 0))] [.gone,.pv 2 [] false] 44 none=_:=hl;have hP:=fun k o=>ae4 k o ((Term.s7 E t.args).map jn) 2 false
  rw[bz]at hP;generalize Term.s7 E t.args=vs at *
  (rw[FD (aO rfl),pE];simp(disch:=omega)only[aG,↓aa,seval,-List.reduceReplicate,reduceCtorEq,af,e1,ao9,aok,bz,M8,hl',tP,pD,hP,Lw,hcomp,ajY,sV8])
structure Bd where
 name:ByteArray
 v:Nat
def Rs(b:Bd):List PV:=[.str b.name,.int .u64 (b.v:Int)]
def xP(n:ByteArray):List Bd→Option Nat
 | []=>none
 |b::r=>if b.name=n then some b.v else xP n r
def UZ(l:List Bd)(t:Term):Bool:=t.post.all fun u=>decide (¬u.op=1) ||(xP u.name l).isSome
def PK(l:List Bd)(n:ByteArray):Nat:=(xP n l).getD 0
theorem N7{t:Term}(h:gO t=0):Jg t:=by
 unfold gO at h;split at h
 ·rw[Vn]at h
  split at h
  ·rename_i h0;exact absurd h h0
  ·rename_i h0
   exact A9 (abh.1 h0)
 ·cases h
theorem K3:∀(l:List Term) (s:List V2) (n:ByteArray),(∃v∈l.foldl vT s,v.name=n)↔(∃v∈s,v.name=n)∨∃u∈l,u.op=1∧u.name=n
 | [],s,n=>by simp
 |u::l,s,n=>by
  rw[UM,K3 l];constructor
  ·rintro(⟨v,hv,hn⟩|⟨u',hu,h⟩)
   ·rcases yL.1 hv with h|⟨h1,h2,_⟩
    ·exact .inl ⟨v,h,hn⟩
    ·subst h2;exact .inr ⟨u,by simp,h1,hn⟩
   ·exact .inr ⟨u',by simp[hu],h⟩
  ·rintro(⟨v,hv,hn⟩|⟨u',hu,h1,h2⟩)
   ·exact .inl ⟨v,yL.2 (.inl hv),hn⟩
   ·rcases qL.1 hu with rfl|hu
    ·by_cases hex:∃a∈s,a.name=u'.name
     ·obtain⟨a,ha,hn⟩:=hex
      exact .inl ⟨a,yL.2 (.inl ha),hn.trans h2⟩
     ·exact .inl ⟨⟨u'.name,u'.w⟩,yL.2 (.inr ⟨h1,rfl,fun a ha hn=>hex ⟨a,ha,hn⟩⟩),h2⟩
    ·exact .inr ⟨u',hu,h1,h2⟩
theorem aeo{es:List (PV×AV)}{fr:Bool}{r:ae}{kl:mg}{k:PV}{z:AV}{o:Option AV}(hl:q8 kl k=true)(h:findKey kl k es=some o):sg (.map es fr::r) kl z (.map 0) (.p k) true=some (w8 [o.getD z,.p (.bool o.isSome)]):=by
 simp only[sg,S3,NX,hl,if_true,h,xu]
theorem akp{es:List (PV×PV)}{kl:mg}{k:PV}{z:AV}{o:Option PV}(hl:q8 kl k=true)(h:findKey kl k es=some o):sg σ kl z (.p (.pmap es)) (.p k) false=some ((o.map AV.p).getD z):=by
 simp[sg,S3,hl,h]
theorem akv{es es':List (PV×AV)}{r:ae}{kl:mg}{k:PV}{v:AV}(h:q8 kl k=true)(h':sG kl k v es=some es'):K1 (.map es false::r) kl (.map 0) (.p k) v=some (.any,.map es' false::r):=by
 simp[K1,h,h']
theorem ldM{M:List (PV×AV)}{fr fr':Bool}{r:ae}:gM (.map M fr::.av 1 [[.map 0]] fr'::r) 1 false (.ptr 1 1 0 0)=some (.map 0):=rfl
end Go.AE.S
namespace Go.AE
namespace Term
end Term
namespace S
open Go Go.AE
variable {τ:Tm} {σ:ae} {rd:Option Nat}
end S
end Go.AE
namespace Go.AE.S
open Go Go.AE
variable {τ:Tm} {σ:ae} {rd:Option Nat}
end Go.AE.S
namespace Go.AE
namespace Term
end Term
namespace S
open Go Go.AE
variable {τ:Tm} {σ:ae} {rd:Option Nat}
theorem r6{a b:Term}:A2 σ 5 2 (gK (List.replicate 2 [.p (.int .i64 0),.p (.int .i64 0),.p (.int .u64 0),.p (.str (bs [])),.aF]).flatten [(0,5,.p (.agg a.row)),(5,5,.p (.agg b.row))])=some (.p (.aW [a.row,b.row]),σ):=by rw[Term.aY a,Term.aY b];rfl
end S
end Go.AE
namespace Go.AE.S
open Go Go.AE
variable {τ:Tm} {σ:ae} {rd:Option Nat}
theorem apg{z0 z1:AV}{s:ByteArray}{n:Int}:kB [z0,z1] [(0,1,.p (.str s)),(1,1,.p (.int .u64 n))]=some (.p (.agg [.str s,.int .u64 n])):=rfl
end Go.AE.S
