import Derived.Test.YtpccheodgonkkaaGreatP0
import Derived.Test.YtpccheodgonkkaaGreatIr
set_option maxHeartbeats 0
set_option linter.unusedSimpArgs false
set_option linter.unusedVariables false
namespace Go.AE.S
open Go Go.AE
variable {τ:Tm} {σ:ae} {rd:Option Nat}
theorem gp(o:Int):R P j4 [.int .i64 o]=some (.bool (decide (1≤o∧o≤26))):=by
 (rw[LN (aO rfl),oH];simp(disch:=omega)only[dZ,↓aa,seval,-List.reduceReplicate,reduceCtorEq,af])
 by_cases h1:1≤o<;>by_cases h2:o≤26<;>simp(disch:=omega)only[dZ,↓aa,seval,-List.reduceReplicate,reduceCtorEq,af,h1,h2]<;>rfl
theorem vC(o:Int):R P gG [.int .i64 o]=some (.bool (decide (0≤o∧o≤64))):=by
 (rw[IK (aO rfl),nF];simp(disch:=omega)only[dZ,↓aa,seval,-List.reduceReplicate,reduceCtorEq,af])
 by_cases h1:0≤o<;>by_cases h2:o≤64<;>simp(disch:=omega)only[dZ,↓aa,seval,-List.reduceReplicate,reduceCtorEq,af,h1,h2]<;>rfl
def arity(o:Int):Int :=
 if o=19 then 3 else if o=1∨o=2∨o=24∨o=25 then 0 else if o=3∨o=4∨o=21∨o=22∨o=23∨o=26 then 1 else if 1≤o∧o≤26 then 2 else -1
theorem Bs(o:Int):(1≤o∧o≤26)→o=1∨o=2∨o=3∨o=4∨o=5∨o=6∨o=7∨o=8∨o=9∨o=10∨o=11∨o=12∨o=13∨o=14∨o=15∨o=16∨o=17∨o=18∨o=19∨o=20∨o=21∨o=22∨o=23∨o=24∨o=25∨o=26:=by omega
theorem X6{o:Int}(h:¬(1≤o∧o≤26)):¬o=1∧¬o=2∧¬o=3∧¬o=4∧¬o=5∧¬o=6∧¬o=7∧¬o=8∧¬o=9∧¬o=10∧¬o=11∧¬o=12∧¬o=13∧¬o=14∧¬o=15∧¬o=16∧¬o=17∧¬o=18∧¬o=19∧¬o=20∧¬o=21∧¬o=22∧¬o=23∧¬o=24∧¬o=25∧¬o=26:=by omega
theorem aC(o:Int):R P eU [.int .i64 o]=some (.int .i64 (arity o)):=by
 by_cases h:1≤o∧o≤26
 ·rcases Bs o h with h|h|h|h|h|h|h|h|h|h|h|h|h|h|h|h|h|h|h|h|h|h|h|h|h|h<;>subst h<;>(rw[B3 (aO rfl),l8];simp(disch:=omega)only[dZ,↓aa,seval,-List.reduceReplicate,reduceCtorEq,af])<;>rfl
 ·have hn:=X6 h
  (rw[B3 (aO rfl),l8];simp(disch:=omega)only[dZ,↓aa,seval,-List.reduceReplicate,reduceCtorEq,af,hn])
  simp[arity,hn,h]
def okW(w:Int):Bool:=decide (0≤w∧w≤64)
def two(x:Int×Int):PV:=.jO [.int .i64 x.1,.int .i64 x.2]
def wZ(o w v:Int):Int×Int:=if ¬(0≤w∧w≤64)∨o=2∧0<w∧(2:Int)^w.toNat≤v then(0,3)else(w,0)
theorem afw{v w:Int}(hv:0≤v)(hw:w≤64):(v.fdiv (2^min w.toNat IntKind.u64.bits)=0)↔v<2^w.toNat:=by
 have h1:min w.toNat IntKind.u64.bits=w.toNat:=Nat.min_eq_left (by show w.toNat≤64;omega)
 have hp:(0:Int)<2^w.toNat:=Int.pow_pos (by omega)
 rw[h1,Int.fdiv_eq_ediv_of_nonneg _ (by omega)]
 constructor
 ·intro h
  have:=Int.emod_lt_of_pos v hp;have h2:=Int.mul_ediv_add_emod v (2^w.toNat);rw[h]at h2;omega
 ·intro h
  exact Int.ediv_eq_zero_of_lt hv h
theorem NH(o w v:Int)(hv:0≤v∧v≤18446744073709551615):R P lJ [.int .i64 o,.int .i64 w,.int .u64 v]=some (two (wZ o w v)):=by
 (rw[Nv (aO rfl),qg];simp(disch:=omega)only[dZ,↓aa,seval,-List.reduceReplicate,reduceCtorEq,af,vw,vC])
 by_cases h1:0≤w∧w≤64
 ·by_cases h2:o=2
  ·by_cases h3:0<w
   ·have hz:=afw hv.1 h1.2
    by_cases h4:v<2^w.toNat
    ·simp(disch:=omega)only[dZ,↓aa,seval,-List.reduceReplicate,reduceCtorEq,af,h1,h2,h3,F2,hz,h4]
     simp[wZ,h1,h2,two,Int.not_le.2 h4]
    ·simp(disch:=omega)only[dZ,↓aa,seval,-List.reduceReplicate,reduceCtorEq,af,h1,h2,h3,F2,hz,h4]
     simp[wZ,h1,h2,h3,two,Int.not_lt.1 h4]
   ·simp(disch:=omega)only[dZ,↓aa,seval,-List.reduceReplicate,reduceCtorEq,af,h1,h2,h3]
    simp[wZ,h1,h2,two,h3]
  ·simp(disch:=omega)only[dZ,↓aa,seval,-List.reduceReplicate,reduceCtorEq,af,h1,h2]
   simp[wZ,h1,h2,two]
 ·simp(disch:=omega)only[dZ,↓aa,seval,-List.reduceReplicate,reduceCtorEq,af,h1]
  simp[wZ,h1,two]
def yg(o w v f:Int):Int×Int:=if w<1∨64<w∨f<1∨(o=21∧(f<w∨f-w<v))∨(¬o=21∧w<f)then(0,3)else(w,0)
theorem YT{f w:Int}(hf:f≤9223372036854775807)(h1:1≤w)(h2:w≤f):IntKind.u64.wrap (IntKind.i64.wrap (f-w))=f-w:=by
 rw[IntWalk.i64_in _ (by omega),IntWalk.u64_in _ (by omega)]
theorem GY(o w v f:Int)(hf : -9223372036854775808≤f∧f≤9223372036854775807):R P gZ [.int .i64 o,.int .i64 w,.int .u64 v,.int .i64 f]=some (two (yg o w v f)):=by
 (rw[GR (aO rfl),ma];simp(disch:=omega)only[dZ,↓aa,seval,-List.reduceReplicate,reduceCtorEq,af])
 by_cases h1:w<1
 ·simp(disch:=omega)only[dZ,↓aa,seval,-List.reduceReplicate,reduceCtorEq,af,h1]
  simp[yg,h1,two]
 by_cases h2:64<w
 ·simp(disch:=omega)only[dZ,↓aa,seval,-List.reduceReplicate,reduceCtorEq,af,h1,h2]
  simp[yg,h2,two]
 by_cases h3:f<1
 ·simp(disch:=omega)only[dZ,↓aa,seval,-List.reduceReplicate,reduceCtorEq,af,h1,h2,h3]
  simp[yg,h3,two]
 by_cases h4:o=21
 ·by_cases h5:f<w
  ·simp(disch:=omega)only[dZ,↓aa,seval,-List.reduceReplicate,reduceCtorEq,af,h1,h2,h3,h4,h5]
   simp[yg,h4,h5,two]
  ·have hc:=YT (f:=f) (w:=w) hf.2 (by omega) (by omega)
   by_cases h6:f-w<v
   ·simp(disch:=omega)only[dZ,↓aa,seval,-List.reduceReplicate,reduceCtorEq,af,h1,h2,h3,h4,h5,hc,h6]
    simp[yg,h4,h6,two]
   ·simp(disch:=omega)only[dZ,↓aa,seval,-List.reduceReplicate,reduceCtorEq,af,h1,h2,h3,h4,h5,hc,h6]
    simp[yg,h1,h2,h3,h4,h5,h6,two]
 ·by_cases h5:w<f
  ·simp(disch:=omega)only[dZ,↓aa,seval,-List.reduceReplicate,reduceCtorEq,af,h1,h2,h3,h4,h5]
   simp[yg,h4,h5,two]
  ·simp(disch:=omega)only[dZ,↓aa,seval,-List.reduceReplicate,reduceCtorEq,af,h1,h2,h3,h4,h5]
   simp[yg,h1,h2,h3,h4,h5,two]
theorem qH(c:Bool)(r:Int):R P ew [.bool c,.int .i64 r]=some (two (if c then(r,0)else(0,3))):=by
 cases c<;>(rw[IJ (aO rfl),nE];simp(disch:=omega)only[dZ,↓aa,seval,-List.reduceReplicate,reduceCtorEq,af])<;>rfl
def iJ(n:Int):List PV:=[.int .i64 n]
def cG(o w v:Int)(as:List Int):Int×Int :=
 if arity o<0∨¬(as.length:Int)=arity o then(0,4)
 else if as.all okW=false then(0,3)
 else if arity o=0 then wZ o w v
 else if o=21∨o=22∨o=23 then yg o w v (as.getD 0 0)
 else if arity o=1 then(as.getD 0 0,0)
 else if o=20 then if 1≤as.getD 0 0∧1≤as.getD 1 0∧as.getD 0 0+as.getD 1 0≤64 then(as.getD 0 0+as.getD 1 0,0)else(0,3)
 else if o=19 then if as.getD 0 0=1∧as.getD 1 0=as.getD 2 0 then(as.getD 1 0,0)else(0,3)
 else if as.getD 0 0=as.getD 1 0 then(if o=16∨o=17∨o=18 then(1,0)else(as.getD 0 0,0))else(0,3)
abbrev Ep(o w v:Int)(as:List Int)(i:Int):List (Nat×AV):=[(0,.p (.int .i64 o)),(1,.p (.int .i64 w)),(2,.p (.int .u64 v)),(3,.p (.aW (as.map iJ))),(22,.p (.aW (as.map iJ))),(23,.p (.int .i64 as.length)),(24,.p (.int .i64 i))]
theorem ax{α β:Type}{f:α→β}{l:List α}{i:Nat}{a:α}(h:l[i]?=some a):(l.map f)[i]?=some (f a):=by simp[h]
theorem Su(q:Int→Bool):∀(as:List Int) (i:Nat),aq (S:=Unit) (T:=Unit) (fun _ _ a=>if q a=true then .inl ()else .inr ()) i () as=if as.all q=true then .inl ()else .inr ()
 | [],i=>rfl
 |a::as,i=>by
  cases h:q a<;>simp[aq,h,Su q as]
def ali(a b:Nat)(x y:PV)(σ:ae)(r:Ex×St):Prop:=r.1=.ret∧r.2.τ.get a=.p x∧r.2.τ.get b=.p y∧r.2.σ=σ
theorem KR(o w v:Int)(as:List Int)(hl:as.length≤1000000):if as.all okW=true then
   an P qv (Ep o w v as 0) σ 144 rd=some (.exit 0,⟨jg (tm (Ep o w v as as.length)) 25 (.p (.bool false)),σ,144,rd⟩)
  else ∃r,an P qv (Ep o w v as 0) σ 144 rd=some r∧ali 8 9 (.int .i64 0) (.int .i64 3) σ r:=by
 have h:=nz (P:=P) (nt:=144) (rd:=rd) (lv:=[0,1,2,3,22,23,24]) (b:=nB) (x:=0) (as:=as) (fun i (_:Unit)=>Ep o w v as i) (fun _=>σ) (fun i _ a=>if okW a=true then .inl ()else .inr ())
  (fun _=>⟨jg (tm (Ep o w v as as.length)) 25 (.p (.bool false)),σ,144,rd⟩) (fun _=>ali 8 9 (.int .i64 0) (.int .i64 3) σ) (fun _ _=>True)
  (fun i a s ha hi hs=>by
   refine⟨fun _ _=>trivial,?_⟩
   have hlt:((i:Int)<as.length)=True:=by simpa using hi
   by_cases hc:0≤a∧a≤64
   ·simp only[nB]
    simp(disch:=omega)only[dZ,↓aa,seval,-List.reduceReplicate,reduceCtorEq,af,hlt,aU (es:=1) (ax (f:=iJ) ha) rfl,iJ,vw,vC,okW,hc]
   ·simp only[nB]
    simp(disch:=omega)only[dZ,↓aa,seval,-List.reduceReplicate,reduceCtorEq,af,hlt,aU (es:=1) (ax (f:=iJ) ha) rfl,iJ,vw,vC,okW,hc,ali]) (fun s hs=>by
   simp only[nB];simp(disch:=omega)only[dZ,↓aa,seval,-List.reduceReplicate,reduceCtorEq,af,pD]) (fun i s=>rfl) () trivial
 rw[Su]at h;exact(XE h :)
theorem Jv{o:Int}(h:¬(1≤o∧o≤26)):arity o = -1:=by
 have hn:=X6 h;simp[arity,hn,h]
theorem Jw{o:Int}(h:1≤o∧o≤26):0≤arity o∧arity o≤3:=by
 rcases Bs o h with h|h|h|h|h|h|h|h|h|h|h|h|h|h|h|h|h|h|h|h|h|h|h|h|h|h<;>subst h<;>decide
theorem apo{o:Int}(h:1≤o∧o≤26)(h0:arity o=0):o=1∨o=2∨o=24∨o=25:=by
 rcases Bs o h with h'|h'|h'|h'|h'|h'|h'|h'|h'|h'|h'|h'|h'|h'|h'|h'|h'|h'|h'|h'|h'|h'|h'|h'|h'|h'<;>subst h'<;>first|omega|exact absurd h0 (by decide)
theorem apq{o:Int}(h:1≤o∧o≤26)(h0:arity o=1):o=3∨o=4∨o=26∨o=21∨o=22∨o=23:=by
 rcases Bs o h with h'|h'|h'|h'|h'|h'|h'|h'|h'|h'|h'|h'|h'|h'|h'|h'|h'|h'|h'|h'|h'|h'|h'|h'|h'|h'<;>subst h'<;>first|omega|exact absurd h0 (by decide)
theorem aps{o:Int}(h:1≤o∧o≤26)(h0:arity o=3):o=19:=by
 rcases Bs o h with h'|h'|h'|h'|h'|h'|h'|h'|h'|h'|h'|h'|h'|h'|h'|h'|h'|h'|h'|h'|h'|h'|h'|h'|h'|h'<;>subst h'<;>first|omega|exact absurd h0 (by decide)
theorem apr{o:Int}(h:1≤o∧o≤26)(h0:arity o=2):¬o=1∧¬o=2∧¬o=24∧¬o=25∧¬o=3∧¬o=4∧¬o=26∧¬o=21∧¬o=22∧¬o=23∧¬o=19:=by
 refine⟨?_,?_,?_,?_,?_,?_,?_,?_,?_,?_,?_⟩<;>(rintro rfl;exact absurd h0 (by decide))
theorem aix{a b:Int}(h:okW a=true)(h':okW b=true):IntKind.i64.wrap (a+b)=a+b:=by
 simp only[okW,decide_eq_true_eq]at h h';exact IntWalk.i64_in _ (by omega)
theorem xo(o w v:Int)(as:List Int)(hl:as.length≤1000000)(hv:0≤v∧v≤18446744073709551615) :
  R P fS [.int .i64 o,.int .i64 w,.int .u64 v,.aW (as.map iJ)]=some (two (cG o w v as)):=by
 by_cases hk:1≤o∧o≤26
 rotate_left
 ·(rw[gn (aO rfl),dB];simp(disch:=omega)only[dZ,↓aa,seval,-List.reduceReplicate,reduceCtorEq,af,gk,gp,hk,aB,aC])
  simp[cG,Jv hk,two]
 by_cases hn:(as.length:Int)=arity o
 rotate_left
 ·(rw[gn (aO rfl),dB];simp(disch:=omega)only[dZ,↓aa,seval,-List.reduceReplicate,reduceCtorEq,af,gk,gp,hk,aB,aC,bz,hn])
  simp[cG,hn,two]
 have hn':=eq_true hn;have hL:=KR (σ:=[]) (rd:=none) o w v as hl;have har:=Jw hk;by_cases ha:as.all okW=true
 rotate_left
 ·rw[if_neg ha]at hL
  obtain⟨⟨e,τ',σ',nt',rd'⟩,h1,h2,h3,h4,h5⟩:=hL
  simp only at h2 h3 h4 h5
  subst h2;subst h5
  (rw[gn (aO rfl),dB];simp(disch:=omega)only[dZ,↓aa,seval,-List.reduceReplicate,reduceCtorEq,af,gk,gp,hk,aB,aC,bz,hn',je])
  simp(disch:=omega)only[dZ,↓aa,seval,-List.reduceReplicate,reduceCtorEq,af,h1,h3,h4]
  simp[cG,hn,ha,two,show ¬arity o<0 by omega]
 rw[if_pos ha]at hL;have ha0:∀a:Int,a∈as→okW a=true:=by simpa using ha
 have g:∀n:Nat,n<as.length→∃a,as[n]?=some a∧okW a=true:=fun n h=>⟨as[n],oh h,ha0 _ (UJ h)⟩
 have hspec:¬arity o<0:=by omega
 by_cases h0:arity o=0
 ·rcases apo hk h0 with h|h|h|h<;>subst h<;>(rw[gn (aO rfl),dB];simp(disch:=omega)only[dZ,↓aa,seval,-List.reduceReplicate,reduceCtorEq,af,gk,gp,hk,aB,aC,bz,hn',je,hL,Nk,NH _ _ _ hv,two])<;>simp[cG,hn,ha,two,h0]
 by_cases h1:arity o=1
 ·obtain⟨a,ga,gb⟩:=g 0 (by omega)
  have ab : -9223372036854775808≤a∧a≤9223372036854775807:=by simp only[okW,decide_eq_true_eq]at gb;omega
  have i0:=Yl (k:=.i64) (σ:=[]) (es:=1) (ax (f:=iJ) ga) rfl;have gd:as.getD 0 0=a:=by simp[List.getD,ga]
  rcases apq hk h1 with h|h|h|h|h|h<;>subst h<;>(rw[gn (aO rfl),dB];simp(disch:=omega)only[dZ,↓aa,seval,-List.reduceReplicate,reduceCtorEq,af,gk,gp,hk,aB,aC,bz,hn',je,hL,GN,GY _ _ _ _ ab,two,i0,iJ])<;>simp[cG,hn,ha,two,h1,ga,gd]
 by_cases h3:arity o=3
 ·obtain⟨a,ga,_⟩:=g 0 (by omega)
  obtain⟨b,gb,_⟩:=g 1 (by omega)
  obtain⟨c,gc,_⟩:=g 2 (by omega)
  have i0:=Yl (k:=.i64) (σ:=[]) (es:=1) (ax (f:=iJ) ga) rfl;have i1:=ajs (k:=.i64) (σ:=[]) (es:=1) (ax (f:=iJ) gb) rfl;have i2:=aoD (k:=.i64) (σ:=[]) (es:=1) (ax (f:=iJ) gc) rfl;have da:as.getD 0 0=a:=by simp[List.getD,ga]
  have db:as.getD 1 0=b:=by simp[List.getD,gb]
  have dc:as.getD 2 0=c:=by simp[List.getD,gc]
  have e:=aps hk h3;subst e;by_cases c1:a=1<;>by_cases c2:b=c<;>(rw[gn (aO rfl),dB];simp(disch:=omega)only[dZ,↓aa,seval,-List.reduceReplicate,reduceCtorEq,af,gk,gp,hk,aB,aC,bz,hn',je,hL,qF,qH,two,i0,i1,i2,iJ,eq_true c1,eq_true c2,c1,c2])<;>simp[cG,hn,ha,two,h3,ga,gb,gc,c1,c2]
 have h2:arity o=2:=by omega
 obtain⟨a,ga,oa⟩:=g 0 (by omega)
 obtain⟨b,gb,ob⟩:=g 1 (by omega)
 have i0:=Yl (k:=.i64) (σ:=[]) (es:=1) (ax (f:=iJ) ga) rfl;have i1:=ajs (k:=.i64) (σ:=[]) (es:=1) (ax (f:=iJ) gb) rfl;have da:as.getD 0 0=a:=by simp[List.getD,ga]
 have db:as.getD 1 0=b:=by simp[List.getD,gb]
 have hg:=apr hk h2;have hs:=aix oa ob;by_cases h20:o=20
 ·subst h20
  by_cases c1:1≤a<;>by_cases c2:1≤b<;>by_cases c3:a+b≤64<;>(rw[gn (aO rfl),dB];simp(disch:=omega)only[dZ,↓aa,seval,-List.reduceReplicate,reduceCtorEq,af,gk,gp,hk,aB,aC,bz,hn',je,hL,qF,qH,two,i0,i1,iJ,hs,c1,c2,c3])<;>simp[cG,hn,ha,two,h2,ga,gb,c1,c2,c3]
 by_cases h16:o=16∨o=17∨o=18
 ·rcases h16 with h|h|h<;>subst h<;>by_cases c1:a=b<;>(rw[gn (aO rfl),dB];simp(disch:=omega)only[dZ,↓aa,seval,-List.reduceReplicate,reduceCtorEq,af,gk,gp,hk,aB,aC,bz,hn',je,hL,qF,qH,two,i0,i1,iJ,eq_true c1,c1])<;>simp[cG,hn,ha,two,h2,ga,gb,c1]
 ·have h16':=not_or.1 h16
  have h17':=not_or.1 h16'.2;by_cases c1:a=b<;>(rw[gn (aO rfl),dB];simp(disch:=omega)only[dZ,↓aa,seval,-List.reduceReplicate,reduceCtorEq,af,gk,gp,hk,aB,aC,bz,hn',je,hL,qF,qH,two,i0,i1,iJ,eq_true c1,c1,hg,h20,h16'.1,h17'.1,h17'.2])<;>simp[cG,hn,ha,two,h2,ga,gb,c1,hg,h20,h16]
def ec(a:Nat)(x:PV)(σ:ae)(r:Ex×St):Prop:=r.1=.ret∧r.2.τ.get a=.p x∧r.2.σ=σ
def MD(a:Int):Prop:=0≤a∧a≤18446744073709551615
theorem ofInt_u64{a:Int}(h:MD a):(BitVec.ofInt IntKind.u64.bits a).toNat=a.toNat:=by
 obtain⟨h1,h2⟩:=h;rw[BitVec.toNat_ofInt]
 show(a % 18446744073709551616).toNat=_
 rw[Int.emod_eq_of_lt h1 (by omega)]
theorem Qc{n:Nat}(h:n<2^64):IntKind.u64.wrap (n:Int)=n:=IntWalk.u64_in _ ⟨by omega,by omega⟩
theorem G4{a:Int}(h:MD a):a.toNat<2^64:=by obtain⟨h1,h2⟩:=h;omega
theorem ain{n:Nat}(h:n<2^64):MD (n:Int):=⟨by omega,by omega⟩
theorem u64_and{a b:Int}(ha:MD a)(hb:MD b):IntKind.u64.wrap (BitVec.ofInt IntKind.u64.bits a &&& BitVec.ofInt IntKind.u64.bits b).toNat=((a.toNat &&& b.toNat:Nat):Int):=by
 rw[BitVec.toNat_and,ofInt_u64 ha,ofInt_u64 hb];exact Qc (Nat.and_lt_two_pow _ (G4 hb))
theorem u64_or{a b:Int}(ha:MD a)(hb:MD b):IntKind.u64.wrap (BitVec.ofInt IntKind.u64.bits a |||BitVec.ofInt IntKind.u64.bits b).toNat=((a.toNat |||b.toNat:Nat):Int):=by
 rw[BitVec.toNat_or,ofInt_u64 ha,ofInt_u64 hb];exact Qc (Nat.or_lt_two_pow (G4 ha) (G4 hb))
theorem u64_xor{a b:Int}(ha:MD a)(hb:MD b):IntKind.u64.wrap (BitVec.ofInt IntKind.u64.bits a ^^^ BitVec.ofInt IntKind.u64.bits b).toNat=((a.toNat ^^^ b.toNat:Nat):Int):=by
 rw[BitVec.toNat_xor,ofInt_u64 ha,ofInt_u64 hb];exact Qc (Nat.xor_lt_two_pow (G4 ha) (G4 hb))
theorem Ev{a:Int}(ha:0≤a)(k:Nat):a.fdiv (2^k)=((a.toNat / 2^k:Nat):Int):=by
 have hp:(0:Int)≤2^k:=Int.le_of_lt (Int.pow_pos (by omega))
 rw[Int.fdiv_eq_ediv_of_nonneg _ hp];obtain⟨n,rfl⟩:=Int.eq_ofNat_of_zero_le ha;simp
def iB(w:Int):Int:=min (max w 1) 64
theorem El(w:Int):1≤iB w∧iB w≤64:=by unfold iB;omega
theorem FK(w:Int):R P fP [.int .i64 w]=some (.int .i64 (iB w)):=by
 (rw[Qs (aO rfl),rJ];simp(disch:=omega)only[dZ,↓aa,seval,-List.reduceReplicate,reduceCtorEq,af])
 rfl
def K0(w:Int):Nat:=2^(iB w).toNat-1
theorem ahj(w:Int):K0 w<2^64:=by
 have h:=El w;have:=aa4 (show 0<2 by omega) (show(iB w).toNat≤64 by omega)
 have:=MA (n:=(iB w).toNat) (show 0<2 by omega)
 unfold K0;omega
theorem ago{c:Nat}(h:1≤c∧c≤64):18446744073709551615 / 2^(64-c)=2^c-1:=by
 have key:∀n:Fin 65,18446744073709551615 / 2^(64-n.1)=2^n.1-1:=by decide +kernel
 exact key ⟨c,by omega⟩
theorem H5(w:Int):R P jC [.int .i64 w]=some (.int .u64 (K0 w)):=by
 have h:=El w;have hw:IntKind.i64.wrap (64-iB w)=64-iB w:=IntWalk.i64_in _ (by omega)
 have hs:cu .shr (.p (.int .u64 18446744073709551615)) (.p (.int .i64 (64-iB w)))=some (.p (.int .u64 (K0 w))):=by
  rw[F2 (by omega),Ev (by omega),show min (64-iB w).toNat IntKind.u64.bits=64-(iB w).toNat by(show min (64-iB w).toNat 64=_;omega)]
  have:=ago (c:=(iB w).toNat) (by omega)
  unfold K0;rw[←this];rfl
 (rw[Tv (aO rfl),uv];simp(disch:=omega)only[dZ,↓aa,seval,-List.reduceReplicate,reduceCtorEq,af,gj,FK,hw,hs])
def J6(w x:Int):Int:=((x.toNat % 2^(iB w).toNat:Nat):Int)
theorem agR(w:Int){x:Int}(hx:MD x):MD (J6 w x):=by
 exact ain (abk (Nat.mod_le x.toNat (2^(iB w).toNat)) (G4 hx))
theorem L9(w x:Int)(hx:MD x):R P bJ [.int .i64 w,.int .u64 x]=some (.int .u64 (J6 w x)):=by
 have hm:MD (K0 w:Int):=by have:=ahj w;unfold MD;omega
 (rw[Wy (aO rfl),wB];simp(disch:=omega)only[dZ,↓aa,seval,-List.reduceReplicate,reduceCtorEq,af,BX,H5,ajr,u64_and hx hm])
 unfold J6;rw[show((K0 w:Int)).toNat=2^(iB w).toNat-1 from rfl,Nat.and_two_pow_sub_one_eq_mod]
theorem rl{α:Type}(q:α→Bool):∀(as:List α) (i:Nat),aq (S:=Unit) (T:=Unit) (fun _ _ a=>if q a=true then .inl ()else .inr ()) i () as=if as.all q=true then .inl ()else .inr ()
 | [],i=>rfl
 |a::as,i=>by
  cases h:q a<;>simp[aq,h,rl q as]
theorem zp(s:ByteArray):s.data.toList.length=s.size:=by rw[abO];rfl
theorem Zi(s:ByteArray)(i:Nat):s[i]?=s.data.toList[i]? := by
 by_cases h:i<s.size
 ·rw[getElem?_pos s i h,oh (by rw[zp];exact h)]
  rfl
 ·rw[getElem?_neg s i h,aa3 (by rw[zp];omega)]
theorem ajt{s:ByteArray}{i:Nat}{b:UInt8}{k:IntKind}(h:s.data.toList[i]?=some b):XR (.p (.str s)) (.p (.int k i))=some (.p (.int .u8 b.toNat)):=by
 simp only[XR,mm,Int.natCast_nonneg,if_true,xu,aci,Zi,h,vd]
theorem alR{s:ByteArray}{b:UInt8}{k:IntKind}(h:s.data.toList[0]?=some b):XR (.p (.str s)) (.p (.int k 0))=some (.p (.int .u8 b.toNat)):=ajt (i:=0) h
def Hq(c:UInt8):Bool:=decide (97≤c.toNat∧c.toNat≤122∨48≤c.toNat∧c.toNat≤57∨c.toNat=95)
def pn(s:ByteArray):Bool:=decide (1≤s.size∧s.size≤16) && decide (97≤(s.data.toList.getD 0 0).toNat∧(s.data.toList.getD 0 0).toNat≤122) && s.data.toList.all Hq
abbrev Kb(s:ByteArray)(i:Int):List (Nat×AV):=[(0,.p (.str s)),(24,.p (.int .i64 s.size)),(25,.p (.int .i64 i))]
theorem SX (s:ByteArray) (hl:s.size≤16):if s.data.toList.all Hq=true then
      an P vR (Kb s 0) σ 50 rd=some (.exit 0,⟨jg (tm (Kb s s.size)) 26 (.p (.bool false)),σ,50,rd⟩)
    else ∃ r,an P vR (Kb s 0) σ 50 rd=some r∧ec 2 (.bool false) σ r:=by
  have h:=nz (P:=P) (nt:=50) (rd:=rd) (lv:=[0,24,25]) (b:=rG) (x:=0) (as:=s.data.toList) (fun i (_:Unit)=>Kb s i) (fun _=>σ) (fun i _ a=>if Hq a=true then .inl () else .inr ())
    (fun _=>⟨jg (tm (Kb s s.size)) 26 (.p (.bool false)),σ,50,rd⟩) (fun _=>ec 2 (.bool false) σ) (fun _ _=>True)
    (fun i a _ ha hi hs=>by
      refine ⟨fun _ _=>trivial,?_⟩
      rw [zp] at hi;have hlt:((i:Int)<s.size)=True:=by simpa using hi
      have hix:=ajt (k:=.i64) ha;by_cases h1:(a.toNat:Int)<97<;>by_cases h2:(122:Int)<a.toNat<;>by_cases h3:(a.toNat:Int)<48<;>by_cases h4:(57:Int)<a.toNat<;>by_cases h5:(a.toNat:Int)=95
      all_goals first
        | (exfalso;omega)
        | (have hn:Hq a=true:=by unfold Hq;rw [decide_eq_true_eq];omega
           simp only [rG]
           simp (disch:=omega) only [dZ,↓aa,seval,-List.reduceReplicate,reduceCtorEq,af,hlt,hix,h1,h2,h3,h4,eq_true h5,hn,ec]
           done)
        | (have hn:Hq a=false:=by unfold Hq;rw [decide_eq_false_iff_not];omega
           simp only [rG]
           simp (disch:=omega) only [dZ,↓aa,seval,-List.reduceReplicate,reduceCtorEq,af,hlt,hix,h1,h2,h3,h4,h5,hn,ec]
           done)) (fun s' hs=>by
      rw [zp]
      simp only [rG]
      simp (disch:=omega) only [dZ,↓aa,seval,-List.reduceReplicate,reduceCtorEq,af,pD]) (fun i s=>rfl) () trivial
  rw [rl] at h;exact (XE h :)
theorem jL(s:ByteArray):R P jG [.str s]=some (.bool (pn s)):=by
 unfold pn;by_cases h1:(s.size:Int)<1
 ·(rw[ru (aO rfl),jB];simp(disch:=omega)only[dZ,↓aa,seval,-List.reduceReplicate,reduceCtorEq,af,h1])
  simp[show ¬1≤s.size by omega]
 by_cases h2:(16:Int)<s.size
 ·(rw[ru (aO rfl),jB];simp(disch:=omega)only[dZ,↓aa,seval,-List.reduceReplicate,reduceCtorEq,af,h1,h2])
  simp[show ¬s.size≤16 by omega]
 have hlen:=zp s;obtain⟨b,hb⟩:∃b,s.data.toList[0]?=some b:=⟨_,oh (by omega)⟩
 have hix:=alR (k:=.i64) hb;by_cases h3:(b.toNat:Int)<97
 ·(rw[ru (aO rfl),jB];simp(disch:=omega)only[dZ,↓aa,seval,-List.reduceReplicate,reduceCtorEq,af,h1,h2,hix,h3])
  simp[List.getD,hb,show ¬97≤b.toNat by omega]
 by_cases h4:(122:Int)<b.toNat
 ·(rw[ru (aO rfl),jB];simp(disch:=omega)only[dZ,↓aa,seval,-List.reduceReplicate,reduceCtorEq,af,h1,h2,hix,h3,h4])
  simp[List.getD,hb,show ¬b.toNat≤122 by omega]
 have hL:=SX (σ:=[]) (rd:=none) s (by omega)
 by_cases ha:s.data.toList.all Hq=true
 ·rw[if_pos ha]at hL
  (rw[ru (aO rfl),jB];simp(disch:=omega)only[dZ,↓aa,seval,-List.reduceReplicate,reduceCtorEq,af,h1,h2,hix,h3,h4,EO,hL])
  rw[ha];simp[List.getD,hb,show 97≤b.toNat by omega,show b.toNat≤122 by omega,show 1≤s.size by omega,show s.size≤16 by omega]
 ·rw[if_neg ha]at hL
  obtain⟨⟨e,τ',σ',nt',rd'⟩,h1',h2',h3',h4'⟩:=hL
  simp only at h2' h3' h4'
  subst h2';subst h4'
  (rw[ru (aO rfl),jB];simp(disch:=omega)only[dZ,↓aa,seval,-List.reduceReplicate,reduceCtorEq,af,h1,h2,hix,h3,h4,EO,h1',h3'])
  rw[abN.2 ha];simp
end Go.AE.S
namespace Go.AE
namespace Term
mutual
def count:Term→Nat
 |.mk _ _ _ _ as=>1+counts as
def counts:List Term→Nat
 | []=>0
 |t::r=>t.count+counts r
end
mutual
def left:Term→Int→Int
 |.mk _ _ _ _ as,n=>ai6 as (n-1)
def ai6:List Term→Int→Int
 | [],n=>n
 |a::as,n=>if n<0 then -1 else ai6 as (a.left n)
end
mutual
def deep:Term→Nat
 |.mk _ _ _ _ as=>kr as+1
def kr:List Term→Nat
 | []=>0
 |t::r=>max t.deep (kr r)
end
theorem count_eq(t:Term):t.count=1+counts t.args:=by cases t;simp[count,args]
theorem vU(t:Term):t.deep=kr t.args+1:=by cases t;simp[deep,args]
theorem dK{l:List Term}{a:Term}(h:a∈l):a.count≤counts l:=by
 induction l with
 |nil=>simp at h
 |cons b l ih=>
  simp only[counts];rcases qL.1 h with rfl|h
  ·omega
  ·have:=ih h;omega
theorem YU(t:Term):1≤t.count:=by rw[count_eq];omega
theorem eo(l:List Term):l.length≤counts l:=by
 induction l with
 |nil=>simp
 |cons b l ih=>simp only[counts,oi];have:=YU b;omega
end Term
namespace S
open Go Go.AE
variable {τ:Tm} {σ:ae} {rd:Option Nat}
inductive iM:Term→Prop
 |mk (t:Term) (h1 : -9223372036854775808≤t.op∧t.op≤9223372036854775807) (h2 : -9223372036854775808≤t.w∧t.w≤9223372036854775807) (h3:MD t.v) (h4:t.name.size≤9223372036854775807) (h5:t.args.length≤9223372036854775807) (h:∀a∈t.args,iM a):iM t
theorem iM.op{t:Term}(h:iM t) : -9223372036854775808≤t.op∧t.op≤9223372036854775807:=by cases h;assumption
theorem iM.w{t:Term}(h:iM t) : -9223372036854775808≤t.w∧t.w≤9223372036854775807:=by cases h;assumption
theorem iM.v{t:Term}(h:iM t):MD t.v:=by cases h;assumption
theorem iM.name{t:Term}(h:iM t):t.name.size≤9223372036854775807:=by cases h;assumption
theorem iM.len{t:Term}(h:iM t):t.args.length≤9223372036854775807:=by cases h;assumption
theorem iM.args{t:Term}(h:iM t){a:Term}(ha:a∈t.args):iM a:=by cases h;rename_i h;exact h a ha
end S
namespace Term
mutual
def beq:Term→Term→Bool
 |.mk o w v s as,.mk o' w' v' s' as'=>decide (o=o') && decide (w=w') && decide (v=v') && decide (s=s') && Gg as as'
def Gg:List Term→List Term→Bool
 | [],[]=>true
 |a::as,b::bs=>beq a b && Gg as bs
 |_,_=>false
end
theorem beq_eq(t u:Term):t.beq u=(decide (t.op=u.op) && decide (t.w=u.w) && decide (t.v=u.v) && decide (t.name=u.name) && Gg t.args u.args):=by cases t;cases u;rw[beq];rfl
theorem Rm{l m:List Term}(h:l.length≠m.length):Gg l m=false:=by
 induction l generalizing m with
 |nil=>cases m<;>simp_all [Gg]
 |cons a l ih=>cases m with
  |nil=>rfl
  |cons b m=>simp only[Gg,ih (m:=m) (by simpa using h),UN]
theorem Rn{l m:List Term}(h:l.length=m.length):(l.zip m).all (fun x=>x.1.beq x.2)=Gg l m:=by
 induction l generalizing m with
 |nil=>cases m<;>simp_all [Gg]
 |cons a l ih=>cases m with
  |nil=>simp at h
  |cons b m=>simp only[Gg,List.zip_cons_cons,UA,ih (m:=m) (by simpa using h)]
end Term
namespace S
open Go Go.AE
variable {τ:Tm} {σ:ae} {rd:Option Nat}
theorem A5(as:List Term)(i:Nat)(a:Term)(h:as[i]?=some a):Term.counts (as.take (i+1))=Term.counts (as.take i)+a.count:=by
 induction as generalizing i with
 |nil=>simp at h
 |cons b as ih=>
  cases i with
  |zero=>simp at h;subst h;simp[Term.counts]
  |succ i=>simp only[abR,Term.counts];rw[ih i (by simpa using h)];omega
theorem wU(as:List Term)(i:Nat):Term.counts (as.take i)≤Term.counts as:=by
 induction as generalizing i with
 |nil=>simp[Term.counts]
 |cons b as ih=>
  cases i with
  |zero=>simp[Term.counts]
  |succ i=>simp only[abR,Term.counts];have:=ih i;omega
theorem Ss(as:List Term):∀(i:Nat) (acc:Int),aq (T:=Empty) (fun _ s (a:Term)=>.inl (s+(a.count:Int))) i acc as=.inl (acc+(Term.counts as:Int)):=by
 induction as with
 |nil=>intro i acc;simp[aq,Term.counts]
 |cons a as ih=>intro i acc;simp only[aq,Term.counts];rw[ih];congr 1;omega
abbrev A6(as:List Term)(s i:Int):List (Nat×AV):=[(3,.p (.int .i64 s)),(7,.p (.aW (as.map Term.row))),(8,.p (.int .i64 as.length)),(9,.p (.int .i64 i))]
theorem T4(t:Term):t.count≤1000000→R P mR [.agg t.row]=some (.int .i64 t.count):=by
 induction t using Term.ind with
 |h t ih=>
 intro hc;rw[Term.count_eq]at hc ⊢;have hlen:=Term.eo t.args
 have h:=oc (P:=P) (nt:=19) (rd:=none) (lv:=[3,7,8,9]) (b:=vP) (x:=0) (as:=t.args) (fun i (s:Int)=>A6 t.args s i) (fun _=>[]) (fun i s a=>s+(a.count:Int)) (fun s=>⟨jg (tm (A6 t.args s t.args.length)) 10 (.p (.bool false)),[],19,none⟩) (fun i s=>s=1+Term.counts (t.args.take i))
  (fun i a s ha hi hs=>by
   have hm:=mK ha;have hac:=Term.dK hm;have h1:=A5 t.args i a ha;have h2:=wU t.args (i+1);have hr:=ih a hm (by omega)
   have hlt:((i:Int)<t.args.length)=True:=by simpa using hi
   have hw:IntKind.i64.wrap (s+a.count)=s+a.count:=apZ (by omega)
   refine⟨by omega,?_⟩
   simp only[vP];simp(disch:=omega)only[dZ,↓aa,seval,-List.reduceReplicate,reduceCtorEq,af,hlt,aU (ax (f:=Term.row) ha) a.aH,py,hr,hw]) (fun s hs=>by
   simp only[vP];simp(disch:=omega)only[dZ,↓aa,seval,-List.reduceReplicate,reduceCtorEq,af,pD]) (fun i s=>rfl) 1 (by simp[Term.counts]) _ (Ss t.args 0 1)
 have h':an P zy (A6 t.args 1 0) [] 19 none=some (.exit 0,⟨jg (tm (A6 t.args (1+Term.counts t.args) t.args.length)) 10 (.p (.bool false)),[],19,none⟩):=h
 (rw[TG (aO rfl),uG];simp(disch:=omega)only[dZ,↓aa,seval,-List.reduceReplicate,reduceCtorEq,af,bz,P4,h'])
 rfl
theorem Vz(t:Term):t.deep≤t.count:=by
 induction t using Term.ind with
 |h t ih=>
 rw[Term.vU,Term.count_eq]
 have key:∀l:List Term,(∀a∈l,a.deep≤a.count)→Term.kr l≤Term.counts l:=by
  intro l
  induction l with
  |nil=>intro _;simp[Term.kr,Term.counts]
  |cons a l ihl=>intro h;simp only[Term.kr,Term.counts];have:=h a (by simp);have:=ihl (fun b hb=>h b (by simp[hb]));omega
 have:=key t.args ih;omega
theorem VP(as:List Term):∀(i:Nat) (acc:Int),0≤acc→aq (T:=Empty) (fun _ s (a:Term)=>.inl (max s (a.deep:Int))) i acc as=.inl (max acc (Term.kr as:Int)):=by
 induction as with
 |nil=>intro i acc h;simp[aq,Term.kr];omega
 |cons a as ih=>intro i acc h;simp only[aq,Term.kr];rw[ih _ _ (by omega)];congr 1;omega
theorem QN(t:Term):t.count≤1000000→R P k9 [.agg t.row]=some (.int .i64 t.deep):=by
 induction t using Term.ind with
 |h t ih=>
 intro hc;have hdc:=Vz t;rw[Term.vU]at hdc ⊢;have hcc:=Term.count_eq t;have hlen:=Term.eo t.args
 have h:=oc (P:=P) (nt:=20) (rd:=none) (lv:=[3,7,8,9]) (b:=tQ) (x:=0) (as:=t.args) (fun i (s:Int)=>A6 t.args s i) (fun _=>[]) (fun i s a=>max s (a.deep:Int)) (fun s=>⟨jg (tm (A6 t.args s t.args.length)) 10 (.p (.bool false)),[],20,none⟩) (fun i s=>True)
  (fun i a s ha hi hs=>by
   have hm:=mK ha;have hac:=Term.dK hm;have hr:=ih a hm (by omega)
   have hlt:((i:Int)<t.args.length)=True:=by simpa using hi
   refine⟨trivial,?_⟩;simp only[tQ];simp(disch:=omega)only[dZ,↓aa,seval,-List.reduceReplicate,reduceCtorEq,af,hlt,aU (ax (f:=Term.row) ha) a.aH,pS,hr]) (fun s hs=>by
   simp only[tQ];simp(disch:=omega)only[dZ,↓aa,seval,-List.reduceReplicate,reduceCtorEq,af,pD]) (fun i s=>rfl) 0 trivial _ (VP t.args 0 0 (by omega))
 have h':an P yl (A6 t.args 0 0) [] 20 none=some (.exit 0,⟨jg (tm (A6 t.args (Term.kr t.args) t.args.length)) 10 (.p (.bool false)),[],20,none⟩):=by
  have e:max (0:Int) (Term.kr t.args:Int)=Term.kr t.args:=by omega
  rw[e]at h;exact h
 (rw[Qy (aO rfl),rQ];simp(disch:=omega)only[dZ,↓aa,seval,-List.reduceReplicate,reduceCtorEq,af,bz,Na,h'])
end S
namespace Term
mutual
def pre:Term→List Term
 |.mk o w v s as=>.mk o w v s as::BS as
def BS:List Term→List Term
 | []=>[]
 |a::as=>pre a++BS as
end
mutual
def post:Term→List Term
 |.mk o w v s as=>vH as++[.mk o w v s as]
def vH:List Term→List Term
 | []=>[]
 |a::as=>post a++vH as
end
theorem zV(t:Term):t.pre=t::BS t.args:=by cases t;rw[pre];rfl
theorem Qf(t:Term):t.post=vH t.args++[t]:=by cases t;rw[post];rfl
theorem Fx:∀l:List Term,BS l=l.flatMap pre
 | []=>rfl
 |a::l=>by rw[BS,Fx l];rfl
theorem Te:∀l:List Term,vH l=l.flatMap post
 | []=>rfl
 |a::l=>by rw[vH,Te l];rfl
theorem Tg:∀l:List Term,(∀a∈l,a.pre.length=a.count)→(BS l).length=counts l
 | [],_=>rfl
 |a::l,h=>by rw[BS,counts,mh,h a (by simp),Tg l fun b hb=>h b (by simp[hb])]
theorem qE(t:Term):t.pre.length=t.count:=by
 induction t using ind with
 |h t ih=>rw[zV,count_eq,oi,Tg _ ih];omega
end Term
namespace S
open Go Go.AE
variable {τ:Tm} {σ:ae} {rd:Option Nat}
theorem Sv{α β:Type}(g:α→List β):∀(l:List α) (i:Nat) (s:List β),aq (T:=Empty) (fun _ s a=>.inl (s++g a)) i s l=.inl (s++l.flatMap g)
 | [],i,s=>by simp[aq]
 |a::l,i,s=>by simp only[aq];rw[Sv g l];simp
abbrev adm(t:Term)(s:List Term)(i:Int):List (Nat×AV):=[(1,.p (.ptr t.row 0)),(3,.sl 0 s.length),(4,.p (.int .i64 i))]
abbrev sT(s:List Term):ae:=[.pv 5 (s.map Term.row) false]
theorem Ix{g:Term→List Term}(hg:∀a,(g a).length=a.count)(l:List Term)(i:Nat):((l.take i).flatMap g).length≤Term.counts l:=by
 induction l generalizing i with
 |nil=>simp[Term.counts]
 |cons a l ih=>
  cases i with
  |zero=>simp
  |succ i=>simp only[abR,abG,mh,hg,Term.counts];have:=ih i;omega
theorem FY{g:Term→List Term}{l:List Term}{i:Nat}{a:Term}(h:l[i]?=some a):(l.take (i+1)).flatMap g=(l.take i).flatMap g++g a:=by
 rw[List.take_add_one,h];simp
theorem Cc(t:Term):t.count≤1000000→R P fT [.agg t.row]=some (.aW (t.pre.map Term.row)):=by
 induction t using Term.ind with
 |h t ih=>
 intro hc;have hlen:=Term.eo t.args;have hct:=Term.count_eq t
 have h:=oc (P:=P) (nt:=23) (rd:=none) (lv:=[1,3,4]) (b:=qp) (x:=0) (as:=t.args) (fun i (s:List Term)=>adm t s i) sT (fun i s a=>s++a.pre)
  (fun s=>⟨jg (jg (jg (jg (jg (tm (adm t s t.args.length)) 7 (.p (.int .i64 t.args.length))) 8 (.p (.ptr t.row 4))) 9 (.p (.aW (t.args.map Term.row)))) 10 (.p (.int .i64 t.args.length))) 11 (.p (.bool false)),sT s,23,none⟩) (fun i s=>s=t::(t.args.take i).flatMap Term.pre)
  (fun i a s ha hi hs=>by
   have hm:=mK ha;have hac:=Term.dK hm;have h2:=Ix Term.qE t.args (i+1);rw[FY ha]at h2;have hsl:(s++a.pre).length≤1000001:=by rw[hs,Ec,oi];omega
   rw[mh]at hsl;have hr:=ih a hm (by omega)
   have hlt:((i:Int)<t.args.length)=True:=by simpa using hi
   have hap:=eZ (σ:=sT s) (b:=0) (n:=s.length) (e:=5) (es:=5) (bytes:=64) (rows:=s.map Term.row) (new:=a.pre.map Term.row) rfl (by simp) (.inl rfl) (by simp only[bz];omega)
   refine⟨by rw[hs,FY ha];rfl,?_⟩
   simp only[qp];simp(disch:=omega)only[dZ,↓aa,seval,-List.reduceReplicate,reduceCtorEq,af,hlt,bz,aU (ax (f:=Term.row) ha) a.aH,px,hr,OQ (acA _),hap,mh,Ed,adm,sT]) (fun s hs=>by
   simp only[qp];simp(disch:=omega)only[dZ,↓aa,seval,-List.reduceReplicate,reduceCtorEq,af,pD,bz]) (fun i s=>rfl) [t] (by simp) _ (Sv Term.pre t.args 0 [t])
 have h':an P vf [(1,.p (.ptr t.row 0)),(3,.sl 0 1),(4,.p (.int .i64 0))] [.pv 5 [t.row] false] 23 none=_:=h;have e:[t]++t.args.flatMap Term.pre=t.pre:=by rw[Term.zV,Term.Fx];rfl
 rw[e]at h'
 (rw[LP (aO rfl),oJ];simp(disch:=omega)only[dZ,↓aa,seval,-List.reduceReplicate,reduceCtorEq,af,IA,h',bz])
theorem yV{α β:Type}(g:α→β):∀(l:List α) (i:Nat) (s:List β),aq (T:=Empty) (fun _ s a=>.inl (s++[g a])) i s l=.inl (s++l.map g)
 | [],i,s=>by simp[aq]
 |a::l,i,s=>by simp only[aq];rw[yV g l];simp
def mD{α:Type}(n:Nat)(s:List α):Nat:=if s.isEmpty then 0 else n
theorem r9{α:Type}(n:Nat)(s:List α){β:Type}(f:α→β):mD n s=n∨(mD n s=0∧s.map f=[]):=by cases s<;>simp[mD]
theorem kE{α:Type}(n:Nat)(s:List α)(a:α):mD n (s++[a])=n:=by simp[mD]
abbrev adr(l:List Term)(s:List Int)(i:Int):List (Nat×AV):=[(3,.sl 0 s.length),(6,.p (.aW (l.map Term.row))),(7,.p (.int .i64 l.length)),(8,.p (.int .i64 i))]
abbrev sI(s:List Int):ae:=[.pv (mD 1 s) (s.map iJ) false]
theorem zm(l:List Term)(hl:l.length≤1000000):R P fq [.aW (l.map Term.row)]=some (.aW ((l.map Term.w).map iJ)):=by
 have h:=oc (P:=P) (nt:=19) (rd:=none) (lv:=[3,6,7,8]) (b:=oq) (x:=0) (as:=l) (fun i (s:List Int)=>adr l s i) sI (fun i s a=>s++[a.w])
  (fun s=>⟨jg (tm (adr l s l.length)) 9 (.p (.bool false)),sI s,19,none⟩) (fun i s=>s.length=i)
  (fun i a s ha hi hs=>by
   have hlt:((i:Int)<l.length)=True:=by simpa using hi
   have hap:=eZ (σ:=[.pv (mD 1 s) (s.map iJ) false,.pv 1 [[.int .i64 a.w]] false]) (b:=0) (n:=s.length) (e:=mD 1 s) (es:=1) (bytes:=8) (rows:=s.map iJ) (new:=[[.int .i64 a.w]]) rfl (by simp) (r9 _ _ _) (by simp only[oi,pN];omega)
   refine⟨by simp[hs],?_⟩
   simp only[oq];simp(disch:=omega)only[dZ,↓aa,seval,-List.reduceReplicate,reduceCtorEq,af,hlt,bz,aU (ax (f:=Term.row) ha) a.aH,hap,mh,Ed,adr,sI,kE,iJ]) (fun s hs=>by
   simp only[oq];simp(disch:=omega)only[dZ,↓aa,seval,-List.reduceReplicate,reduceCtorEq,af,pD,bz]) (fun i s=>rfl) [] (by simp) _ (yV Term.w l 0 [])
 have h':an P rT [(3,.sl 0 0),(6,.p (.aW (l.map Term.row))),(7,.p (.int .i64 l.length)),(8,.p (.int .i64 0))] [.pv 0 [] false] 19 none=_:=h
 (rw[GS (aO rfl),mb];simp(disch:=omega)only[dZ,↓aa,seval,-List.reduceReplicate,reduceCtorEq,af,EL,h',bz])
end S
end Go.AE
namespace Go.AE.S
open Go Go.AE
variable {τ:Tm} {σ:ae} {rd:Option Nat}
def oU(u:Term):List AV:=[.p (.agg u.row)]
def Xj(l:Nat)(s:ae)(a:Term):ae ⊕ ae:=match rounds P l (a.pre.map oU) s with
 |some (true,s')=>.inl s'
 |some (false,s')=>.inr s'
 |none=>.inr s
theorem SG(l:Nat):∀(as:List Term) (i:Nat) (s:ae) (b:Bool) (s':ae),rounds P l ((Term.BS as).map oU) s=some (b,s')→aq (fun _ s a=>Xj l s a) i s as=if b=true then .inl s' else .inr s'
 | [],i,s,b,s',h=>by
  simp only[Term.BS,CU,rounds,bL,pY]at h;obtain⟨rfl,rfl⟩:=h;rfl
 |a::as,i,s,b,s',h=>by
  simp only[Term.BS,Ed,yC]at h;simp only[aq,Xj];cases h1:rounds P l (a.pre.map oU) s with
  |none=>rw[h1]at h;cases h
  |some x=>
   obtain⟨c,s1⟩:=x;rw[h1]at h;cases c with
   |true=>exact SG l as (i+1) s1 b s' h
   |false=>
    simp only[L2,bL,pY]at h;obtain⟨rfl,rfl⟩:=h;rfl
abbrev XI(l:Nat)(t:Term)(i:Int):List (Nat×AV):=[(1,.yield l),(12,.p (.aW (t.args.map Term.row))),(13,.p (.int .i64 t.args.length)),(14,.p (.int .i64 i))]
theorem agG(l:Nat)(t:Term):t.count≤1000000→∀(σ σ':ae) (b:Bool),rounds P l (t.pre.map oU) σ=some (b,σ')→call P gC [.p (.agg t.row),.yield l] σ=some (.p (.bool b),σ'):=by
 induction t using Term.ind with
 |h t ih=>
 intro hc σ σ' b hr;have hlen:=Term.eo t.args;have hct:=Term.count_eq t;have hl:=tJ _ _ _ _ hr;rw[Term.zV,ue]at hr;obtain⟨c,σ1,h1,h2,h3,h4⟩:=B8 hr;simp only[oU]at h1;have gc1:∀vs,gc σ.length vs σ1=σ1:=fun vs=>eH (by omega)
 cases c with
 |false=>
  obtain⟨rfl,rfl⟩:=h4 rfl
  (rw[fh (aO rfl),gC];simp(disch:=omega)only[dZ,↓aa,seval,-List.reduceReplicate,reduceCtorEq,af,h1,gc1])
 |true=>
  have h3:=h3 rfl
  have h:=nz (P:=P) (nt:=23) (rd:=none) (lv:=[1,12,13,14]) (b:=l4) (x:=0) (as:=t.args) (fun i (_:ae)=>XI l t i) (fun s=>s) (fun _ s a=>Xj l s a)
   (fun s=>⟨jg (tm (XI l t t.args.length)) 15 (.p (.bool false)),s,23,none⟩) (fun s r=>ec 4 (.bool false) s r) (fun i s=>∃b s',rounds P l ((Term.BS (t.args.drop i)).map oU) s=some (b,s'))
   (fun i a s ha hi hs=>by
    obtain⟨b2,s2,hs⟩:=hs;have hm:=mK ha;have hac:=Term.dK hm;have hlt:((i:Int)<t.args.length)=True:=by simpa using hi
    have hd:t.args.drop i=a::t.args.drop (i+1):=by rw[abc hi];rw[oh hi]at ha;cases ha;rfl
    rw[hd]at hs;simp only[Term.BS,Ed,yC]at hs;cases hx:rounds P l (a.pre.map oU) s with
    |none=>rw[hx]at hs;cases hs
    |some x=>
     obtain⟨c,s1⟩:=x;rw[hx]at hs;have hv:=ih a hm (by omega) s s1 c hx
     have hl1:=tJ _ _ _ _ hx;have gc2:∀vs,gc s.length vs s1=s1:=fun vs=>eH (by omega)
     cases c with
     |true=>
      refine⟨fun s' he=>?_,?_⟩
      ·simp only[Xj,hx]at he
       cases he;exact⟨_,_,hs⟩
      ·simp only[l4,Xj,hx]
       simp(disch:=omega)only[dZ,↓aa,seval,-List.reduceReplicate,reduceCtorEq,af,hlt,aU (ax (f:=Term.row) ha) a.aH,vz,hv,gc2]
     |false=>
      refine⟨fun s' he=>?_,?_⟩
      ·simp only[Xj,hx]at he
       cases he
      ·simp only[l4,Xj,hx]
       simp(disch:=omega)only[dZ,↓aa,seval,-List.reduceReplicate,reduceCtorEq,af,hlt,aU (ax (f:=Term.row) ha) a.aH,vz,hv,gc2,ec]) (fun s hs=>by
    simp only[l4];simp(disch:=omega)only[dZ,↓aa,seval,-List.reduceReplicate,reduceCtorEq,af,pD]) (fun i s=>rfl) σ1 ⟨b,σ',h3⟩
  rw[SG l t.args 0 σ1 b σ' h3]at h;have hl3:=tJ _ _ _ _ h3;have gc3:∀vs,gc σ.length vs σ'=σ':=fun vs=>eH (by omega)
  cases b with
  |true=>
   have h':an P pI (XI l t 0) σ1 23 none=_:=h
   (rw[fh (aO rfl),gC];simp(disch:=omega)only[dZ,↓aa,seval,-List.reduceReplicate,reduceCtorEq,af,h1,bz,yZ,h',gc3])
  |false=>
   obtain⟨⟨e,τ',σ2,nt',rd'⟩,g1,g2,g3,g4⟩:=h
   simp only at g2 g3 g4
   subst g2;subst g4;have h':an P pI (XI l t 0) σ1 23 none=some (.ret,⟨τ',σ2,nt',rd'⟩):=g1
   (rw[fh (aO rfl),gC];simp(disch:=omega)only[dZ,↓aa,seval,-List.reduceReplicate,reduceCtorEq,af,h1,bz,yZ,h',g3,gc3])
theorem Vf(l:Nat)(t:Term)(hc:t.count≤1000000)(σ σ':ae)(b:Bool)(h:rounds P l (t.pre.map oU) σ=some (b,σ')) :
  call P ix [.yield l,.p (.ptr t.row 0)] σ=some (.p (.jO []),σ'):=by
 have hv:=agG l t hc σ σ' b h;have hl:=tJ _ _ _ _ h;have gc3:∀vs,gc σ.length vs σ'=σ':=fun vs=>eH (by omega)
 (rw[fh (aO rfl),ix];simp(disch:=omega)only[dZ,↓aa,seval,-List.reduceReplicate,reduceCtorEq,af,vz,hv,gc3])
theorem ib(t:Term):R P dn [.agg t.row]=some (.fn b6 [.ptr t.row 0]):=by
 (rw[DY (aO rfl),jT];simp(disch:=omega)only[dZ,↓aa,seval,-List.reduceReplicate,reduceCtorEq,af,CM])
theorem Cr{α:Type}(q:α→Bool):∀(as:List α) (i:Nat),aq (S:=Unit) (T:=Unit) (fun _ _ a=>if q a=true then .inr ()else .inl ()) i () as=if as.any q=true then .inr ()else .inl ()
 | [],i=>rfl
 |a::as,i=>by
  cases h:q a<;>simp[aq,h,Cr q as]
theorem bw(o:Int):R P dp [.int .i64 o]=some (.bool (decide (o=24∨o=25))):=by
 (rw[DZ (aO rfl),jU];simp(disch:=omega)only[dZ,↓aa,seval,-List.reduceReplicate,reduceCtorEq,af])
 by_cases h1:o=24<;>by_cases h2:o=25<;>simp(disch:=omega)only[dZ,↓aa,seval,-List.reduceReplicate,reduceCtorEq,af,eq_true h1,eq_true h2,h1,h2]<;>first|rfl|simp_all
def Iz(x:Int):Nat→List Int→Int
 |_,[]=>-1
 |i,a::r=>if x=a then i else Iz x (i+1) r
theorem XT(x:Int):∀(l:List Int) (i:Nat),0≤Iz x i l↔x∈l
 | [],i=>by simp[Iz]
 |a::l,i=>by
  by_cases h:x=a
  ·simp[Iz,h]
  ·simp[Iz,h,XT x l (i+1)]
theorem SA(x:Int):∀(l:List Int) (i:Nat),uV (fun _=>Iz x i l = -1) (fun k=>Iz x i l=(k:Nat)) (aq (S:=Unit) (T:=Nat) (fun i _ a=>if x=a then .inr i else .inl ()) i () l)
 | [],i=>rfl
 |a::l,i=>by
  by_cases h:x=a
  ·simp only[aq,Iz,h,if_true];exact rfl
  ·simp only[aq,Iz,h,if_false];exact SA x l (i+1)
abbrev XF(l:List Int)(x i:Int):List (Nat×AV):=[(0,.p (.aW (l.map iJ))),(1,.p (.int .i64 x)),(7,.p (.int .i64 l.length)),(8,.p (.int .i64 i))]
theorem WW(l:List Int)(x:Int)(hl:l.length≤1000000):R P cB [.aW (l.map iJ),.int .i64 x]=some (.int .i64 (Iz x 0 l)):=by
 have h:=nz (P:=P) (nt:=19) (rd:=none) (lv:=[0,1,7,8]) (b:=eM) (x:=0) (as:=l) (fun i (_:Unit)=>XF l x i) (fun _=>[]) (fun i _ a=>if x=a then .inr i else .inl ())
  (fun _=>⟨jg (tm (XF l x l.length)) 9 (.p (.bool false)),[],19,none⟩) (fun(k:Nat)=>ec 4 (.int .i64 k) []) (fun _ _=>True)
  (fun i a s ha hi hs=>by
   refine⟨fun _ _=>trivial,?_⟩
   have hlt:((i:Int)<l.length)=True:=by simpa using hi
   by_cases hc:x=a<;>simp only[eM]<;>simp(disch:=omega)only[dZ,↓aa,seval,-List.reduceReplicate,reduceCtorEq,af,hlt,aU (es:=1) (ax (f:=iJ) ha) rfl,iJ,eq_true hc,hc,ec]) (fun s hs=>by
   simp only[eM];simp(disch:=omega)only[dZ,↓aa,seval,-List.reduceReplicate,reduceCtorEq,af,pD]) (fun i s=>rfl) () trivial
 have hf:=SA x l 0;cases hfe:aq (S:=Unit) (T:=Nat) (fun i _ a=>if x=a then .inr i else .inl ()) 0 () l with
 |inl s=>
  rw[hfe]at h hf;have h':an P eO (XF l x 0) [] 19 none=_:=h;have hf':Iz x 0 l = -1:=hf
  (rw[nP (aO rfl),cY];simp(disch:=omega)only[dZ,↓aa,seval,-List.reduceReplicate,reduceCtorEq,af,bz,mT,h'])
  rw[hf']
 |inr k=>
  rw[hfe]at h hf;obtain⟨⟨e,τ',σ',nt',rd'⟩,g1,g2,g3,g4⟩:=h
  simp only at g2 g3 g4
  subst g2;subst g4;have h':an P eO (XF l x 0) [] 19 none=some (.ret,⟨τ',[],nt',rd'⟩):=g1;have hf':Iz x 0 l=k:=hf
  (rw[nP (aO rfl),cY];simp(disch:=omega)only[dZ,↓aa,seval,-List.reduceReplicate,reduceCtorEq,af,bz,mT,h',g3])
  rw[hf']
theorem NB(l:List Int)(x:Int)(hl:l.length≤1000000):R P b7 [.aW (l.map iJ),.int .i64 x]=some (.bool (decide (x∈l))):=by
 (rw[sN (aO rfl),dv];simp(disch:=omega)only[dZ,↓aa,seval,-List.reduceReplicate,reduceCtorEq,af,vA,WW l x hl,XT])
theorem Cy{S T:Type}{kept:List (Nat×AV)}{ps:List Nat}{gP b:K}{nt:Nat}(t:Term)(hc:t.count≤1000000)(hps:nodup ps=true∧ps.all (· < nt)=true)
  (sto:S→ae) (f:Nat→S→Term→S ⊕ T) (out:T→Ex×ae) (ok:Nat→S→Prop) (s0:S) (hrd:rZ rd (sto s0)=true)
  (hlen:∀s,(sto s).length=(sto s0).length) (hout:∀t,(out t).2.length=(sto s0).length)
  (hbel:∀s,(sto s).all (Obj.below (sto s0).length)=true) (hbelo:∀t,(out t).2.all (Obj.below (sto s0).length)=true) (hnn:∀t,(out t).1≠.normal)
  (hstep:∀(i:Nat) (a:Term) (s:S),t.pre[i]?=some a→ok i s→(∀s',f i s a=.inl s'→ok (i+1) s') ∧
   round P (sto s0).length [.p (.agg a.row)] (sto s++[.loop kept nt ps gP b none])=(match f i s a with
    |.inl s'=>some (.p (.bool true),sto s'++[.loop kept nt ps gP b none])
    |.inr t=>some (.p (.bool false),(out t).2++[.loop kept nt ps gP b (some (out t).1)])))
  (h0:ok 0 s0):mA P ps gP b (.p (.fn b6 [.ptr t.row 0])) kept (sto s0) nt rd=some (ki sto out (aq f 0 s0 t.pre)) :=
 LZ (f0:=b6) (cap:=[.p (.ptr t.row 0)]) rfl BE hps oU sto f out ok t.pre s0 hrd (fun σ σ' bb h=>⟨_,Vf _ t hc σ σ' bb h⟩) hlen hout hbel hbelo hnn hstep h0
theorem FL(t:Term)(hc:t.count≤1000000):R P eP [.agg t.row]=some (.bool (t.pre.any fun u=>decide (u.w=0))):=by
 have h:=Cy (rd:=none) (kept:=[(2,.ptr 0 1 0 0)]) (ps:=[6]) (gP:=jP) (b:=jQ) (nt:=10) t hc ⟨rfl,rfl⟩ (fun(_:Unit)=>[.pv 1 [[.bool false]] false]) (fun _ _ a=>if decide (a.w=0)=true then .inr ()else .inl ()) (fun(_:Unit)=>(.ret,[.pv 1 [[.bool true]] false]))
  (fun _ _=>True) () rfl (fun _=>rfl) (fun _=>rfl) (fun _=>rfl) (fun _=>rfl) (fun _=>by simp) (fun i a s ha _=>by
   refine⟨fun _ _=>trivial,?_⟩
   simp only[Ec,yK];rw[zk rfl ⟨rfl,rfl,rfl⟩];by_cases hw:a.w=0
   ·simp only[jP,jQ]
    simp(disch:=omega)only[dZ,↓aa,seval,-List.reduceReplicate,reduceCtorEq,af,eq_true hw]
   ·simp only[jP,jQ]
    simp(disch:=omega)only[dZ,↓aa,seval,-List.reduceReplicate,reduceCtorEq,af,hw]) trivial
 rw[Cr]at h;cases hq:t.pre.any fun u=>decide (u.w=0)<;>rw[hq]at h<;>(rw[FF (aO rfl),kO];simp(disch:=omega)only[dZ,↓aa,seval,-List.reduceReplicate,reduceCtorEq,af,CL,hZ,ib,h])
theorem NI(t:Term)(l:List Int)(hc:t.count≤1000000)(hl:l.length≤1000000):R P lK [.agg t.row,.aW (l.map iJ)]=some (.bool (t.pre.any fun u=>decide (u.op∈l))):=by
 have h:=Cy (rd:=none) (kept:=[(3,.p (.ptr [.aW (l.map iJ)] 0)),(4,.ptr 0 1 0 0)]) (ps:=[8]) (gP:=oA) (b:=oB) (nt:=13) t hc ⟨rfl,rfl⟩ (fun(_:Unit)=>[.pv 1 [[.bool false]] false]) (fun _ _ a=>if decide (a.op∈l)=true then .inr ()else .inl ()) (fun(_:Unit)=>(.ret,[.pv 1 [[.bool true]] false]))
  (fun _ _=>True) () rfl (fun _=>rfl) (fun _=>rfl) (fun _=>rfl) (fun _=>rfl) (fun _=>by simp) (fun i a s ha _=>by
   refine⟨fun _ _=>trivial,?_⟩
   simp only[Ec,yK];rw[zk rfl ⟨rfl,rfl,rfl⟩];have hcn:=NB l a.op hl;by_cases hw:a.op∈l
   ·simp only[oA,oB]
    simp(disch:=omega)only[dZ,↓aa,seval,-List.reduceReplicate,reduceCtorEq,af,eq_true hw,lT,hcn]
   ·simp only[oA,oB]
    simp(disch:=omega)only[dZ,↓aa,seval,-List.reduceReplicate,reduceCtorEq,af,hw,lT,hcn]) trivial
 rw[Cr]at h;cases hq:t.pre.any fun u=>decide (u.op∈l)<;>rw[hq]at h<;>(rw[Nw (aO rfl),qh];simp(disch:=omega)only[dZ,↓aa,seval,-List.reduceReplicate,reduceCtorEq,af,IC,hZ,ib,h])
abbrev PH(l:List Term)(i:Int):List (Nat×AV):=[(3,.p (.aW (l.map Term.row))),(4,.p (.int .i64 i))]
theorem NJ(t:Term)(hc:t.count≤1000000):R P jF [.agg t.row]=some (.bool (t.pre.any fun u=>decide (u.w=0))):=by
 have hpl:=Term.qE t
 have h:=nz (P:=P) (nt:=19) (rd:=none) (lv:=[3,4]) (b:=rE) (x:=0) (as:=t.pre) (fun i (_:Unit)=>PH t.pre i) (fun _=>[]) (fun i _ a=>if decide (a.w=0)=true then .inr ()else .inl ())
  (fun _=>⟨jg (jg (jg (jg (tm (PH t.pre t.pre.length)) 7 (.p (.int .i64 t.pre.length))) 8 (.p (.aW (t.pre.map Term.row)))) 9 (.p (.int .i64 t.pre.length))) 10 (.p (.bool false)),[],19,none⟩) (fun _=>ec 2 (.bool true) []) (fun _ _=>True)
  (fun i a s ha hi hs=>by
   refine⟨fun _ _=>trivial,?_⟩
   have hlt:((i:Int)<t.pre.length)=True:=by simpa using hi
   by_cases hw:a.w=0<;>simp only[rE]<;>simp(disch:=omega)only[dZ,↓aa,seval,-List.reduceReplicate,reduceCtorEq,af,hlt,bz,aU (ax (f:=Term.row) ha) a.aH,eq_true hw,hw,ec]) (fun s hs=>by
   simp only[rE];simp(disch:=omega)only[dZ,↓aa,seval,-List.reduceReplicate,reduceCtorEq,af,pD,bz]) (fun i s=>rfl) () trivial
 rw[Cr]at h;have h2:=agT h;have hp:=Cc t hc;by_cases hq:(t.pre.any fun u=>decide (u.w=0))=true
 ·rw[if_pos hq]at h2
  obtain⟨⟨e,τ',σ',nt',rd'⟩,g1,g2,g3,g4⟩:=h2
  simp only at g2 g3 g4
  subst g2;subst g4;have h':an P rV (PH t.pre 0) [] 19 none=some (.ret,⟨τ',[],nt',rd'⟩):=g1
  (rw[Dw (aO rfl),nS];simp(disch:=omega)only[dZ,↓aa,seval,-List.reduceReplicate,reduceCtorEq,af,px,hp,Bh,h',g3])
  rw[hq]
 ·rw[if_neg hq]at h2
  have h':an P rV (PH t.pre 0) [] 19 none=_:=h2
  (rw[Dw (aO rfl),nS];simp(disch:=omega)only[dZ,↓aa,seval,-List.reduceReplicate,reduceCtorEq,af,px,hp,Bh,h'])
  rw[abN.2 hq]
end Go.AE.S
namespace Go.AE
namespace Term
end Term
namespace S
open Go Go.AE
variable {τ:Tm} {σ:ae} {rd:Option Nat}
def inner(p:Term):Bool:=match p.args with
 |a::_=>a.pre.any fun u=>decide (u.op∈[24,26])
 | []=>false
def pW(p:Term)(ev:Bool):Int :=
 if arity p.op<0∨p.op=1∨(p.op=26∧ev=false)∨¬(p.args.length:Int)=arity p.op then 4
 else if(¬p.name=bs []∧¬(p.op=24∨p.op=25))∨(¬p.v=0∧¬p.op=2∧¬p.op=21)then 4
 else if(p.op=24∨p.op=25)∧pn p.name=false then 5
 else if ¬(cG p.op p.w p.v (p.args.map Term.w)).2=0∨¬(cG p.op p.w p.v (p.args.map Term.w)).1=p.w then 3
 else if p.op=26∧inner p=true then 12 else 0
theorem apa:arity 26=1:=by decide
theorem Mb(p:Term)(ev:Bool)(ht:iM p)(hc:p.count≤1000000):R P j5 [.agg p.row,.bool ev]=some (.int .i64 (pW p ev)):=by
 have hlc:=Term.eo p.args;have hcc:=Term.count_eq p;by_cases h1:arity p.op<0
 ·(rw[bQ (aO rfl),br];simp(disch:=omega)only[dZ,↓aa,seval,-List.reduceReplicate,reduceCtorEq,af,aB,aC,h1])
  simp[pW,h1]
 by_cases h2:p.op=1
 ·(rw[bQ (aO rfl),br];simp(disch:=omega)only[dZ,↓aa,seval,-List.reduceReplicate,reduceCtorEq,af,aB,aC,h1,eq_true h2])
  simp[pW,h2]
 by_cases h26:p.op=26∧ev=false
 ·obtain⟨h3,rfl⟩:=h26
  (rw[bQ (aO rfl),br];simp(disch:=omega)only[dZ,↓aa,seval,-List.reduceReplicate,reduceCtorEq,af,aB,aC,h1,h2,eq_true h3])
  simp[pW,h3]
 by_cases h5:(p.args.length:Int)=arity p.op
 rotate_left
 ·have h5':=eq_false h5
  by_cases h3:p.op=26
  ·have he:ev=true:=by cases ev;exact absurd ⟨h3,rfl⟩ h26;rfl
   subst he
   (rw[bQ (aO rfl),br];simp(disch:=omega)only[dZ,↓aa,seval,-List.reduceReplicate,reduceCtorEq,af,aB,aC,h1,h2,eq_true h3,bz,h5'])
   simp[pW,h5]
  ·(rw[bQ (aO rfl),br];simp(disch:=omega)only[dZ,↓aa,seval,-List.reduceReplicate,reduceCtorEq,af,aB,aC,h1,h2,h3,bz,h5'])
   simp[pW,h5]
 have h5':=eq_true h5;have hwd:=zm p.args (by omega)
 have hW:=xo p.op p.w p.v (p.args.map Term.w) (by rw[bz];have:=Jw (o:=p.op) (by rcases Decidable.em (1≤p.op∧p.op≤26)with h|h;exact h;exact absurd (by rw[Jv h];decide) h1);omega) ht.v
 have spec:∀x:Int,(if(¬p.name=bs []∧¬(p.op=24∨p.op=25))∨(¬p.v=0∧¬p.op=2∧¬p.op=21)then 4
   else if(p.op=24∨p.op=25)∧pn p.name=false then 5
   else if ¬(cG p.op p.w p.v (p.args.map Term.w)).2=0∨¬(cG p.op p.w p.v (p.args.map Term.w)).1=p.w then 3
   else if p.op=26∧inner p=true then 12 else 0)=x→pW p ev=x:=by
  intro x hx;rw[←hx,pW,if_neg]
  rintro(h|h|h|h)
  ·exact h1 h
  ·exact h2 h
  ·exact h26 h
  ·exact h h5
 generalize hr:cG p.op p.w p.v (p.args.map Term.w)=r at hW spec;obtain⟨rw,re⟩:=r;simp only[two]at hW;by_cases h3:p.op=26
 ·have he:ev=true:=by cases ev;exact absurd ⟨h3,rfl⟩ h26;rfl
  subst he;have n24:¬(p.op=24∨p.op=25):=by omega
  have n2:¬p.op=2:=by omega
  have n21:¬p.op=21:=by omega
  by_cases h6:p.name=bs []
  rotate_left
  ·rw[spec 4 (by simp[h6,n24])]
   (rw[bQ (aO rfl),br];simp(disch:=omega)only[dZ,↓aa,seval,-List.reduceReplicate,reduceCtorEq,af,aB,aC,h1,h2,eq_true h3,bz,h5',h6,bf,bw,n24])
  by_cases h8:p.v=0
  rotate_left
  ·rw[spec 4 (by simp[h8,n2,n21])]
   (rw[bQ (aO rfl),br];simp(disch:=omega)only[dZ,↓aa,seval,-List.reduceReplicate,reduceCtorEq,af,aB,aC,h1,h2,eq_true h3,bz,h5',eq_true h6,bf,bw,n24,h8,n2,n21])
  by_cases g1:re=0
  rotate_left
  ·rw[spec 3 (by simp[h6,h8,n24,g1])]
   (rw[bQ (aO rfl),br];simp(disch:=omega)only[dZ,↓aa,seval,-List.reduceReplicate,reduceCtorEq,af,aB,aC,h1,h2,eq_true h3,bz,h5',eq_true h6,bf,bw,n24,eq_true h8,n2,n21,dS,hwd,dG,hW,g1])
  by_cases g2:rw=p.w
  rotate_left
  ·rw[spec 3 (by simp[h6,h8,n24,g2])]
   (rw[bQ (aO rfl),br];simp(disch:=omega)only[dZ,↓aa,seval,-List.reduceReplicate,reduceCtorEq,af,aB,aC,h1,h2,eq_true h3,bz,h5',eq_true h6,bf,bw,n24,eq_true h8,n2,n21,dS,hwd,dG,hW,eq_true g1,g2])
  rw[h3,apa]at h5
  obtain⟨a,hal⟩:∃a,p.args=[a]:=by
   match hp:p.args with
   | [a]=>exact⟨a,rfl⟩
   | []=>rw[hp]at h5;simp at h5
   |a::b::l=>rw[hp]at h5;simp at h5;omega
  have ha0:p.args[0]?=some a:=by rw[hal];rfl
  have hac:a.count≤1000000:=by have:=Term.dK (l:=p.args) (a:=a) (by rw[hal];simp);omega
  have hh:=NI a [24,26] hac (by decide)
  simp only[ue,CU,iJ]at hh;have i0:=Yl (k:=.i64) (σ:=[]) (es:=5) (ax (f:=Term.row) ha0) a.aH;have hin:inner p=a.pre.any fun u=>decide (u.op∈[24,26]):=by unfold inner;rw[hal]
  rw[spec (if inner p=true then 12 else 0) (by simp[h3,h6,h8,g1,g2])]
  rw[hin];cases hb:a.pre.any fun u=>decide (u.op∈[24,26])<;>rw[hb]at hh<;>(rw[bQ (aO rfl),br];simp(disch:=omega)only[dZ,↓aa,seval,-List.reduceReplicate,reduceCtorEq,af,aB,aC,h1,h2,eq_true h3,bz,h5',eq_true h6,bf,bw,n24,eq_true h8,n2,n21,dS,hwd,dG,hW,eq_true g1,eq_true g2,i0,Nl,hh])
 ·by_cases n24:p.op=24∨p.op=25
  ·have n2:¬p.op=2:=by omega
   have n21:¬p.op=21:=by omega
   by_cases h8:p.v=0
   rotate_left
   ·rw[spec 4 (by simp[h8,n2,n21])]
    rcases fC (p.name=bs [])with h6|h6<;>(rw[bQ (aO rfl),br];simp(disch:=omega)only[dZ,↓aa,seval,-List.reduceReplicate,reduceCtorEq,af,aB,aC,h1,h2,h3,bz,h5',h6,bf,bw,n24,h8,n2,n21])
   cases h11:pn p.name with
   |false=>
    rw[spec 5 (by simp[h8,n24,h11])]
    rcases fC (p.name=bs [])with h6|h6<;>(rw[bQ (aO rfl),br];simp(disch:=omega)only[dZ,↓aa,seval,-List.reduceReplicate,reduceCtorEq,af,aB,aC,h1,h2,h3,bz,h5',h6,bf,bw,n24,eq_true h8,n2,n21,gN,jL,h11])
   |true=>
    by_cases g1:re=0
    rotate_left
    ·rw[spec 3 (by simp[h8,n24,h11,g1])]
     rcases fC (p.name=bs [])with h6|h6<;>(rw[bQ (aO rfl),br];simp(disch:=omega)only[dZ,↓aa,seval,-List.reduceReplicate,reduceCtorEq,af,aB,aC,h1,h2,h3,bz,h5',h6,bf,bw,n24,eq_true h8,n2,n21,gN,jL,h11,dS,hwd,dG,hW,g1])
    by_cases g2:rw=p.w
    rotate_left
    ·rw[spec 3 (by simp[h8,n24,h11,g2])]
     rcases fC (p.name=bs [])with h6|h6<;>(rw[bQ (aO rfl),br];simp(disch:=omega)only[dZ,↓aa,seval,-List.reduceReplicate,reduceCtorEq,af,aB,aC,h1,h2,h3,bz,h5',h6,bf,bw,n24,eq_true h8,n2,n21,gN,jL,h11,dS,hwd,dG,hW,eq_true g1,g2])
    rw[spec 0 (by simp[h8,n24,h11,g1,g2,h3])]
    rcases fC (p.name=bs [])with h6|h6<;>(rw[bQ (aO rfl),br];simp(disch:=omega)only[dZ,↓aa,seval,-List.reduceReplicate,reduceCtorEq,af,aB,aC,h1,h2,h3,bz,h5',h6,bf,bw,n24,eq_true h8,n2,n21,gN,jL,h11,dS,hwd,dG,hW,eq_true g1,eq_true g2])
  ·by_cases h6:p.name=bs []
   rotate_left
   ·rw[spec 4 (by simp[h6,n24])]
    (rw[bQ (aO rfl),br];simp(disch:=omega)only[dZ,↓aa,seval,-List.reduceReplicate,reduceCtorEq,af,aB,aC,h1,h2,h3,bz,h5',h6,bf,bw,n24])
   by_cases hv:¬p.v=0∧¬p.op=2∧¬p.op=21
   ·obtain⟨h8,h9,h10⟩:=hv
    rw[spec 4 (by simp[h8,h9,h10])]
    (rw[bQ (aO rfl),br];simp(disch:=omega)only[dZ,↓aa,seval,-List.reduceReplicate,reduceCtorEq,af,aB,aC,h1,h2,h3,bz,h5',eq_true h6,bf,bw,n24,h8,h9,h10])
   have hv':p.v=0∨(¬p.v=0∧p.op=2)∨(¬p.v=0∧¬p.op=2∧p.op=21):=by
    by_cases a:p.v=0
    ·exact .inl a
    ·by_cases b:p.op=2
     ·exact .inr (.inl ⟨a,b⟩)
     ·exact .inr (.inr ⟨a,b,Decidable.of_not_not fun c=>hv ⟨a,b,c⟩⟩)
   have hv8:¬((¬p.name=bs []∧¬(p.op=24∨p.op=25))∨(¬p.v=0∧¬p.op=2∧¬p.op=21)):=by
    rintro(h|h)
    ·exact h.1 h6
    ·exact hv h
   by_cases g1:re=0
   rotate_left
   ·rw[spec 3 (by rw[if_neg hv8];simp[n24,g1])]
    rcases fC (p.v=0)with h8|h8<;>rcases fC (p.op=2)with h9|h9<;>rcases fC (p.op=21)with h10|h10
    all_goals first
     |(exfalso;simp_all;done)
     |(rw[bQ (aO rfl),br];simp(disch:=omega)only[dZ,↓aa,seval,-List.reduceReplicate,reduceCtorEq,af,aB,aC,h1,h2,h3,bz,h5',eq_true h6,bf,bw,n24,h8,h9,h10,dS,hwd,dG,hW,g1])
   by_cases g2:rw=p.w
   rotate_left
   ·rw[spec 3 (by rw[if_neg hv8];simp[n24,g2])]
    rcases fC (p.v=0)with h8|h8<;>rcases fC (p.op=2)with h9|h9<;>rcases fC (p.op=21)with h10|h10
    all_goals first
     |(exfalso;simp_all;done)
     |(rw[bQ (aO rfl),br];simp(disch:=omega)only[dZ,↓aa,seval,-List.reduceReplicate,reduceCtorEq,af,aB,aC,h1,h2,h3,bz,h5',eq_true h6,bf,bw,n24,h8,h9,h10,dS,hwd,dG,hW,eq_true g1,g2])
   rw[spec 0 (by rw[if_neg hv8];simp[n24,g1,g2,h3])]
   rcases fC (p.v=0)with h8|h8<;>rcases fC (p.op=2)with h9|h9<;>rcases fC (p.op=21)with h10|h10
   all_goals first
    |(exfalso;simp_all;done)
    |(rw[bQ (aO rfl),br];simp(disch:=omega)only[dZ,↓aa,seval,-List.reduceReplicate,reduceCtorEq,af,aB,aC,h1,h2,h3,bz,h5',eq_true h6,bf,bw,n24,h8,h9,h10,dS,hwd,dG,hW,eq_true g1,eq_true g2])
end S
end Go.AE
namespace Go.AE.S
open Go Go.AE
variable {τ:Tm} {σ:ae} {rd:Option Nat}
def iI(ev:Bool):List Term→Int
 | []=>0
 |a::r=>if pW a ev=0 then iI ev r else pW a ev
theorem zL(ev:Bool):∀l m:List Term,iI ev (l++m)=if iI ev l=0 then iI ev m else iI ev l
 | [],m=>rfl
 |a::l,m=>by
  simp only[Ec,iI];by_cases h:pW a ev=0
  ·simp only[h,if_true];exact zL ev l m
  ·simp only[h,if_false]
abbrev I4(t:Term)(ev:Bool)(i:Int):List (Nat×AV):=[(1,.p (.bool ev)),(2,.p (.ptr t.row 0)),(9,.p (.aW (t.args.map Term.row))),(10,.p (.int .i64 t.args.length)),(11,.p (.int .i64 i))]
theorem KC(ev:Bool):∀(l:List Term) (i:Nat),uV (fun _=>iI ev (Term.vH l)=0) (fun e=>iI ev (Term.vH l)=e∧e≠0) (aq (S:=Unit) (T:=Int) (fun _ _ a=>if iI ev a.post=0 then .inl ()else .inr (iI ev a.post)) i () l)
 | [],i=>rfl
 |a::l,i=>by
  simp only[aq,Term.vH,zL];by_cases h:iI ev a.post=0
  ·simp only[h,if_true];exact KC ev l (i+1)
  ·simp only[h,if_false];exact⟨rfl,h⟩
theorem IT(t:Term)(ev:Bool):iM t→t.count≤1000000→R P gI [.agg t.row,.bool ev]=some (.int .i64 (iI ev t.post)):=by
 induction t using Term.ind with
 |h t ih=>
 intro ht hc;have hlen:=Term.eo t.args;have hct:=Term.count_eq t
 have h:=nz (P:=P) (nt:=25) (rd:=none) (lv:=[1,2,9,10,11]) (b:=lZ) (x:=0) (as:=t.args) (fun i (_:Unit)=>I4 t ev i) (fun _=>[]) (fun _ _ a=>if iI ev a.post=0 then .inl ()else .inr (iI ev a.post))
  (fun s=>⟨jg (tm (I4 t ev t.args.length)) 12 (.p (.bool false)),[],25,none⟩) (fun e=>ec 4 (.int .i64 e) []) (fun _ _=>True)
  (fun i a s ha hi hs=>by
   refine⟨fun _ _=>trivial,?_⟩
   have hm:=mK ha;have hac:=Term.dK hm;have hr:=ih a hm (ht.args hm) (by omega)
   have hlt:((i:Int)<t.args.length)=True:=by simpa using hi
   by_cases hf:iI ev a.post=0
   ·simp only[lZ]
    simp(disch:=omega)only[dZ,↓aa,seval,-List.reduceReplicate,reduceCtorEq,af,hlt,aU (ax (f:=Term.row) ha) a.aH,kF,hr,eq_true hf]
   ·simp only[lZ]
    simp(disch:=omega)only[dZ,↓aa,seval,-List.reduceReplicate,reduceCtorEq,af,hlt,aU (ax (f:=Term.row) ha) a.aH,kF,hr,hf,ec]) (fun s hs=>by
   simp only[lZ];simp(disch:=omega)only[dZ,↓aa,seval,-List.reduceReplicate,reduceCtorEq,af,pD]) (fun i s=>rfl) () trivial
 have hn:=Mb t ev ht hc;have hf:=KC ev t.args 0;rw[Term.Qf,zL];simp only[iI];cases hfe:aq (S:=Unit) (T:=Int) (fun _ _ a=>if iI ev a.post=0 then .inl ()else .inr (iI ev a.post)) 0 () t.args with
 |inl s=>
  rw[hfe]at h hf;have h':an P pH (I4 t ev 0) [] 25 none=_:=h;have hf':iI ev (Term.vH t.args)=0:=hf;rw[hf']
  (rw[AB (aO rfl),kD];simp(disch:=omega)only[dZ,↓aa,seval,-List.reduceReplicate,reduceCtorEq,af,bz,yY,h',Ly,hn])
  by_cases h0:pW t ev=0<;>simp[h0]
 |inr e=>
  rw[hfe]at h hf;obtain⟨⟨e',τ',σ',nt',rd'⟩,g1,g2,g3,g4⟩:=h
  simp only at g2 g3 g4
  subst g2;subst g4;have h':an P pH (I4 t ev 0) [] 25 none=some (.ret,⟨τ',[],nt',rd'⟩):=g1;have hf':iI ev (Term.vH t.args)=e∧e≠0:=hf;rw[hf'.1,if_neg hf'.2]
  (rw[AB (aO rfl),kD];simp(disch:=omega)only[dZ,↓aa,seval,-List.reduceReplicate,reduceCtorEq,af,bz,yY,h',g3])
def ent(e:ByteArray×Term):PV×AV:=(.str e.1,.p (.agg e.2.row))
def lkB:List (ByteArray×Term)→ByteArray→Option Term
 | [],_=>none
 |e::r,k=>if k=e.1 then some e.2 else lkB r k
def stB(u:Term):List (ByteArray×Term)→List (ByteArray×Term)
 | []=>[(u.name,u)]
 |e::r=>if u.name=e.1 then(u.name,u)::r else e::stB u r
theorem A8(a b:ByteArray):ni .str (.str a) (.str b)=some (decide (a=b)):=by
 simp only[ni]
 congr 1
 rw[abP];simp[tg]
theorem Sq(k:ByteArray):∀s:List (ByteArray×Term),findKey .str (.str k) (s.map ent)=some ((lkB s k).map fun u=>.p (.agg u.row))
 | []=>rfl
 |e::r=>by
  simp only[ue,findKey,ent,A8,lkB];by_cases h:k=e.1
  ·simp[h]
  ·simp only[h,decide_false,if_false]
   exact Sq k r
theorem Yf(u:Term):∀s:List (ByteArray×Term),sG .str (.str u.name) (.p (.agg u.row)) (s.map ent)=some ((stB u s).map ent)
 | []=>rfl
 |e::r=>by
  simp only[ue,sG,ent,A8,stB];by_cases h:u.name=e.1
  ·simp[h,ent]
  ·simp only[h,decide_false,if_false]
   rw[Yf u r];rfl
theorem yM(n:Nat)(s:List (ByteArray×Term)):((s.map ent).all fun e=>AE.below n e.2)=true:=by
 rw[AS];intro x hx;obtain⟨e,_,rfl⟩:=CV.1 hx;exact I0
def isVar(u:Term):Bool:=decide (u.op=24∨u.op=25)
def G7(s:List (ByteArray×Term))(u:Term):List (ByteArray×Term) ⊕ List (ByteArray×Term) :=
 if isVar u=true then
  match lkB s u.name with
  |some o=>if o.op=u.op∧o.w=u.w then .inl (stB u s)else .inr s
  |none=>.inl (stB u s)
 else .inl s
abbrev sC(c:Int)(s:List (ByteArray×Term)):ae:=[.pv 1 [[.int .i64 c]] false,.map (s.map ent) false,.av 1 [[.map 1]] false]
theorem F1{a:Obj}{es es':List (PV×AV)}{r:ae}{kl:mg}{k:PV}{v:AV}(h:q8 kl k=true)(h':sG kl k v es=some es'):K1 (a::.map es false::r) kl (.map 1) (.p k) v=some (.any,a::.map es' false::r):=by
 simp[K1,h,h']
theorem Ut{a:Obj}{es:List (PV×AV)}{r:ae}:aek (a::.map es false::r) (.map 1)=some (.p (.int .i64 es.length)):=rfl
theorem ah1(t:Term)(hc:t.count≤1000000):mA P [27] eB eC (.p (.fn b6 [.ptr t.row 0])) [(4,.ptr 0 1 0 0),(6,.ptr 2 1 0 0)] (sC 0 []) 61 none=some (ki (sC 0) (fun s=>(.ret,sC 12 s)) (aq (fun _ s u=>G7 s u) 0 [] t.pre)):=by
 refine Cy (rd:=none) (kept:=[(4,.ptr 0 1 0 0),(6,.ptr 2 1 0 0)]) (ps:=[27]) (gP:=eB) (b:=eC) (nt:=61) t hc ⟨rfl,rfl⟩ (sC 0) (fun _ s u=>G7 s u) (fun s=>(.ret,sC 12 s))
  (fun _ _=>True) [] rfl (fun _=>rfl) (fun _=>rfl) (fun s=>by simp only[sC,UA,abM,wj,xd,tz,yM,yN];rfl) (fun s=>by simp only[sC,UA,abM,wj,xd,tz,yM,yN];rfl) (fun _=>by simp) (fun i u s ha _=>?_) trivial
 refine⟨fun _ _=>trivial,?_⟩
 simp only[sC,Ec,yK];rw[zk rfl ⟨rfl,rfl,rfl⟩];have hpv:=bw u.op;unfold G7 isVar;by_cases hv:u.op=24∨u.op=25
 rotate_left
 ·simp only[eB,eC]
  simp(disch:=omega)only[dZ,↓aa,seval,-List.reduceReplicate,reduceCtorEq,af,bf,hpv,hv,yM]
 ·have hfk:=Sq u.name s
  have hsk:=Yf u s;simp only[hv];cases hl:lkB s u.name with
  |none=>
   rw[hl]at hfk;have hlk:=fun r=>OB (r:=r) (a:=.pv 1 [[.int .i64 0]] false) (z:=.agg [.p (.int .i64 0),.p (.int .i64 0),.p (.int .u64 0),.p (.str (bs [])),.aF]) (kl:=.str) (k:=.str u.name) rfl hfk
   simp only[eB,eC];simp(disch:=omega)only[dZ,↓aa,seval,-List.reduceReplicate,reduceCtorEq,af,bf,hpv,hv,yM,hlk,F1 rfl hsk]
  |some o=>
   rw[hl]at hfk;have hlk:=fun r=>OC (r:=r) (a:=.pv 1 [[.int .i64 0]] false) (z:=.agg [.p (.int .i64 0),.p (.int .i64 0),.p (.int .u64 0),.p (.str (bs [])),.aF]) (kl:=.str) (k:=.str u.name) rfl hfk
   simp only[eB,eC];rcases fC (o.op=u.op)with h1|h1<;>rcases fC (o.w=u.w)with h2|h2<;>simp(disch:=omega)only[dZ,↓aa,seval,-List.reduceReplicate,reduceCtorEq,af,bf,hpv,hv,yM,hlk,h1,h2,F1 rfl hsk]
def lF(p:Term)(ev:Bool):Int :=
 if 4096<p.count∨64<p.deep then 7
 else if ¬iI ev p.post=0 then iI ev p.post
 else match aq (fun _ s u=>G7 s u) 0 [] p.pre with
  |.inl s=>if 16<s.length then 7 else 0
  |.inr _=>12
theorem qI(p:Term)(ev:Bool)(ht:iM p)(hc:p.count≤1000000):R P ez [.agg p.row,.bool ev]=some (.int .i64 (lF p ev)):=by
 have h1:=T4 p hc;have h2:=QN p hc;have h3:=IT p ev ht hc;have h4:=ah1 p hc;unfold lF;by_cases g1:(4096:Int)<p.count
 ·rw[if_pos (by omega)]
  (rw[kG (aO rfl),eu];simp(disch:=omega)only[dZ,↓aa,seval,-List.reduceReplicate,reduceCtorEq,af,py,h1,g1])
 by_cases g2:(64:Int)<p.deep
 ·rw[if_pos (by omega)]
  (rw[kG (aO rfl),eu];simp(disch:=omega)only[dZ,↓aa,seval,-List.reduceReplicate,reduceCtorEq,af,py,h1,g1,pS,h2,g2])
 rw[if_neg (by omega)]
 by_cases g3:iI ev p.post=0
 rotate_left
 ·rw[if_pos g3]
  (rw[kG (aO rfl),eu];simp(disch:=omega)only[dZ,↓aa,seval,-List.reduceReplicate,reduceCtorEq,af,py,h1,g1,pS,h2,g2,kF,h3,g3])
 rw[if_neg (by simpa using g3)]
 cases hf:aq (fun _ s u=>G7 s u) 0 [] p.pre with
 |inr s=>
  rw[hf]at h4;have h4':mA P [27] eB eC (.p (.fn b6 [.ptr p.row 0])) [(4,.ptr 0 1 0 0),(6,.ptr 2 1 0 0)] [.pv 1 [[.int .i64 0]] false,.map [] false,.av 1 [[.map 1]] false] 61 none=some (.ret,sC 12 s):=h4
  (rw[kG (aO rfl),eu];simp(disch:=omega)only[dZ,↓aa,seval,-List.reduceReplicate,reduceCtorEq,af,py,h1,g1,pS,h2,g2,kF,h3,eq_true g3,hZ,ib,sf,h4'])
 |inl s=>
  rw[hf]at h4;have h4':mA P [27] eB eC (.p (.fn b6 [.ptr p.row 0])) [(4,.ptr 0 1 0 0),(6,.ptr 2 1 0 0)] [.pv 1 [[.int .i64 0]] false,.map [] false,.av 1 [[.map 1]] false] 61 none=some (.normal,sC 0 s):=h4;by_cases g4:(16:Int)<s.length
  ·simp only
   rw[if_pos (by omega)]
   (rw[kG (aO rfl),eu];simp(disch:=omega)only[dZ,↓aa,seval,-List.reduceReplicate,reduceCtorEq,af,py,h1,g1,pS,h2,g2,kF,h3,eq_true g3,hZ,ib,sf,h4',Ut,bz,g4])
  ·simp only
   rw[if_neg (by omega)]
   (rw[kG (aO rfl),eu];simp(disch:=omega)only[dZ,↓aa,seval,-List.reduceReplicate,reduceCtorEq,af,py,h1,g1,pS,h2,g2,kF,h3,eq_true g3,hZ,ib,sf,h4',Ut,bz,g4])
def ac9(u a:Term):Bool:=isVar a && decide (a.name=u.name) && (!decide (a.w=u.w) || !decide (a.op=u.op))
end Go.AE.S
namespace Go.AE
namespace Term
mutual
def vj(wd:Int):Term→Term×Bool
 |.mk o w v s []=>(.mk o (if w=0 then wd else w) (if w=0∧o=2 then S.J6 wd v else v) s [],true)
 |.mk o w v s (a::as)=>
  match A1 wd (a::as)with
  |some l=>(.mk o (S.cG o w v (l.map Term.w)).1 v s l,decide ((S.cG o w v (l.map Term.w)).2=0))
  |none=>(.mk 0 0 0 (S.bs []) [],false)
def A1(wd:Int):List Term→Option (List Term)
 | []=>some []
 |a::as=>
  let x:=vj wd a
  if x.2=true then(A1 wd as).map (x.1::·)else none
end
end Term
namespace S
open Go Go.AE
variable {τ:Tm} {σ:ae} {rd:Option Nat}
theorem O5(wd:Int)(t:Term)(h:t.args=[]):t.vj wd=(.mk t.op (if t.w=0 then wd else t.w) (if t.w=0∧t.op=2 then J6 wd t.v else t.v) t.name [],true):=by
 cases t with|mk o w v s as=>simp only[Term.args]at h;subst h;rw[Term.vj];rfl
theorem O6(wd:Int)(t:Term)(h:t.args≠[]):t.vj wd=match Term.A1 wd t.args with
  |some l=>(.mk t.op (cG t.op t.w t.v (l.map Term.w)).1 t.v t.name l,decide ((cG t.op t.w t.v (l.map Term.w)).2=0))
  |none=>(.mk 0 0 0 (bs []) [],false):=by
 cases t with
 |mk o w v s as=>
  simp only[Term.args]at h;cases as with
  |nil=>exact absurd rfl h
  |cons a as=>simp only[Term.vj,Term.op,Term.w,Term.v,Term.name,Term.args];cases Term.A1 wd (a::as)<;>rfl
abbrev z5(l:Nat):List AV:=[.p (.int .i64 0),.p (.int .i64 0),.p (.int .u64 0),.p (.str (bs [])),.sl l 0]
abbrev sA(t:Term)(s:List Term):ae:=[.pv 0 [] false,.av 5 [z5 0] false,.pv (mD 5 s) (s.map Term.row) false,.av 5 [[.p (.int .i64 t.op),.p (.int .i64 t.w),.p (.int .u64 t.v),.p (.str t.name),.sl 2 s.length]] false]
abbrev YX(t:Term)(wd i:Int):List (Nat×AV):=[(1,.p (.int .i64 wd)),(2,.p (.ptr t.row 0)),(4,.ptr 1 1 0 0),(6,.ptr 3 1 0 0),(41,.p (.aW (t.args.map Term.row))),(42,.p (.int .i64 t.args.length)),(43,.p (.int .i64 i))]
def an2(t:Term)(s:List Term)(r:Ex×St):Prop:=r.1=.ret∧r.2.τ.get 4=.ptr 1 1 0 0∧r.2.τ.get 5=.p (.bool false) ∧
 r.2.σ=[.pv 0 [] false,.av 5 [z5 4] false,.pv (mD 5 s) (s.map Term.row) false,.av 5 [[.p (.int .i64 t.op),.p (.int .i64 t.w),.p (.int .u64 t.v),.p (.str t.name),.sl 2 s.length]] false,.pv 0 [] false]
def atS(wd:Int)(_:Nat)(s:List Term)(a:Term):List Term ⊕ List Term:=if(a.vj wd).2=true then .inl (s++[(a.vj wd).1])else .inr s
theorem XK(wd:Int):∀(l:List Term) (i:Nat) (s:List Term),match Term.A1 wd l with
  |some m=>aq (atS wd) i s l=.inl (s++m)∧m.length=l.length
  |none=>∃s',aq (atS wd) i s l=.inr s'
 | [],i,s=>by simp[Term.A1,aq]
 |a::l,i,s=>by
  simp only[Term.A1,aq,atS];by_cases h:(a.vj wd).2=true
  ·simp only[h,if_true]
   have ih:=XK wd l (i+1) (s++[(a.vj wd).1]);cases hm:Term.A1 wd l with
   |some m=>
    rw[hm]at ih;simp only[vd];refine⟨?_,by simp[ih.2]⟩
    have:=ih.1;simpa[atS]using this
   |none=>
    rw[hm]at ih;simp only[aco];exact ih
  ·simp only[h,if_false]
   exact⟨s,rfl⟩
theorem Zd{l:List Int}(h:l≠[]):PV.flat (.aW (l.map iJ))=false:=by
 cases l with
 |nil=>exact absurd rfl h
 |cons a l=>simp[PV.flat]
theorem QH(t:Term)(wd:Int)(hw : -9223372036854775808≤wd∧wd≤9223372036854775807):iM t→t.count≤1000000→R P kY [.agg t.row,.int .i64 wd]=some (.jO [.agg (t.vj wd).1.row,.bool (t.vj wd).2]):=by
 induction t using Term.ind with
 |h t ih=>
 intro ht hc;have hlen:=Term.eo t.args;have hct:=Term.count_eq t;by_cases hz:t.args=[]
 ·have hz':((t.args.length:Nat):Int)=0:=by rw[hz];rfl
  rw[O5 wd t hz];have hcut:=L9 wd t.v ht.v;by_cases h1:t.w=0
  ·by_cases h2:t.op=2
   ·(rw[sB (aO rfl),jq];simp(disch:=omega)only[aG,↓aa,seval,-List.reduceReplicate,reduceCtorEq,af,bz,eq_true hz',eq_true h1,eq_true h2,cg,hcut,h1,h2])
    simp[Term.row,Term.rows,h1,h2]
   ·(rw[sB (aO rfl),jq];simp(disch:=omega)only[aG,↓aa,seval,-List.reduceReplicate,reduceCtorEq,af,bz,eq_true hz',eq_true h1,h2])
    simp[Term.row,Term.rows,h1,h2]
  ·(rw[sB (aO rfl),jq];simp(disch:=omega)only[aG,↓aa,seval,-List.reduceReplicate,reduceCtorEq,af,bz,eq_true hz',h1])
   simp[Term.row,Term.rows,h1]
 ·have hz':¬((t.args.length:Nat):Int)=0:=by
   intro h;exact hz (Jm.1 (by omega))
  have h:=nz (P:=P) (nt:=81) (rd:=none) (lv:=[1,2,4,6,41,42,43]) (b:=p8) (x:=0) (as:=t.args) (fun i (_:List Term)=>YX t wd i) (sA t) (atS wd)
   (fun s=>⟨jg (tm (YX t wd t.args.length)) 44 (.p (.bool false)),sA t s,81,none⟩) (an2 t) (fun i s=>s.length=i)
   (fun i a s ha hi hs=>by
    have hm:=mK ha;have hac:=Term.dK hm;have hr:=ih a hm (ht.args hm) (by omega)
    have hlt:((i:Int)<t.args.length)=True:=by simpa using hi
    unfold atS;generalize hx:a.vj wd=x at hr;obtain⟨x,ok⟩:=x;cases ok with
    |true=>
     have hap:=eZ (σ:=sA t s++[.pv 5 [x.row] false]) (b:=2) (n:=s.length) (e:=mD 5 s) (es:=5) (bytes:=64) (rows:=s.map Term.row) (new:=[x.row]) rfl (by simp) (r9 _ _ _) (by simp only[oi,pN];omega)
     simp only[sA,z5,Ec,yK]at hap;refine⟨fun s' he=>by simp at he;subst he;simp[hs],?_⟩
     simp only[p8];simp(disch:=omega)only[aG,↓aa,seval,-List.reduceReplicate,reduceCtorEq,af,hlt,aU (ax (f:=Term.row) ha) a.aH,vV,hr,sA,z5,hap,Ed,mh,kE,YX]
    |false=>
     refine⟨fun s' he=>by simp at he,?_⟩
     simp only[p8];simp(disch:=omega)only[aG,↓aa,seval,-List.reduceReplicate,reduceCtorEq,af,hlt,aU (ax (f:=Term.row) ha) a.aH,vV,hr,sA,z5,an2,YX]) (fun s hs=>by
    simp only[p8];simp(disch:=omega)only[aG,↓aa,seval,-List.reduceReplicate,reduceCtorEq,af,pD]) (fun i s=>rfl) [] (by simp)
  have hf:=XK wd t.args 0 [];rw[O6 wd t hz];cases hm:Term.A1 wd t.args with
  |none=>
   rw[hm]at hf;obtain⟨s',hf⟩:=hf;rw[hf]at h;obtain⟨⟨e,τ',σ',nt',rd'⟩,k1,k2,k3,k4,k5⟩:=h
   simp only at k2 k3 k4 k5
   subst k2;subst k5;have h':an P tV (YX t wd 0) [.pv 0 [] false,.av 5 [z5 0] false,.pv 0 [] false,.av 5 [[.p (.int .i64 t.op),.p (.int .i64 t.w),.p (.int .u64 t.v),.p (.str t.name),.sl 2 0]] false] 81 none=_:=k1;simp only[z5]at h'
   (rw[sB (aO rfl),jq];simp(disch:=omega)only[aG,↓aa,seval,-List.reduceReplicate,reduceCtorEq,af,bz,hz',C5,h',k3,k4])
   simp[Term.row,Term.rows]
  |some m=>
   rw[hm]at hf;simp only[yK]at hf;rw[hf.1]at h;have h':an P tV (YX t wd 0) [.pv 0 [] false,.av 5 [z5 0] false,.pv 0 [] false,.av 5 [[.p (.int .i64 t.op),.p (.int .i64 t.w),.p (.int .u64 t.v),.p (.str t.name),.sl 2 0]] false] 81 none=_:=h;simp only[z5,sA]at h';have hml:m.length≤1000000:=by omega
   have hne:m.map Term.w≠[]:=by intro h;exact hz (Jm.1 (by rw[←hf.2,←bz (f:=Term.w),h];rfl))
   have hwd:=zm m hml;have hfl:=Zd hne;have hW:=xo t.op t.w t.v (m.map Term.w) (by rw[bz];omega) ht.v
   generalize hq:cG t.op t.w t.v (m.map Term.w)=q at hW;obtain⟨q1,q2⟩:=q;simp only[two]at hW;rcases fC (q2=0)with h0|h0<;>(rw[sB (aO rfl),jq];simp(disch:=omega)only[aG,↓aa,seval,-List.reduceReplicate,reduceCtorEq,af,bz,hz',C5,h',dS,hwd,hfl,dG,hW,h0])<;>simp[Term.row,Term.FJ,h0,hq]
end S
end Go.AE
namespace Go.AE.S
open Go Go.AE
variable {τ:Tm} {σ:ae} {rd:Option Nat}
def zT:Term:=.mk 0 0 0 (bs []) []
theorem Q0:zT.row=[.int .i64 0,.int .i64 0,.int .u64 0,.str (bs []),.aW []]:=by simp[zT,Term.row,Term.rows]
def atE(x:Term×Bool):List PV:=if x.2=true then[.agg x.1.row,.int .i64 0]else[.agg zT.row,.int .i64 3]
theorem we(t:Term)(wd:Int)(hw : -9223372036854775808≤wd∧wd≤9223372036854775807)(ht:iM t)(hc:t.count≤1000000) :
  R P ir [.agg t.row,.int .i64 wd]=some (.jO (if 1≤wd∧wd≤64 then atE (t.vj wd)else[.agg zT.row,.int .i64 2])):=by
 by_cases h1:wd<1
 ·rw[if_neg (by omega)]
  (rw[vZ (aO rfl),kN];simp(disch:=omega)only[aG,↓aa,seval,-List.reduceReplicate,reduceCtorEq,af,h1])
  simp[Q0]
 by_cases h2:(64:Int)<wd
 ·rw[if_neg (by omega)]
  (rw[vZ (aO rfl),kN];simp(disch:=omega)only[aG,↓aa,seval,-List.reduceReplicate,reduceCtorEq,af,h1,h2])
  simp[Q0]
 rw[if_pos (by omega)]
 have hr:=QH t wd hw ht hc;generalize t.vj wd=x at hr;obtain⟨x,ok⟩:=x;cases ok with
 |true=>
  (rw[vZ (aO rfl),kN];simp(disch:=omega)only[aG,↓aa,seval,-List.reduceReplicate,reduceCtorEq,af,h1,h2,vV,hr])
  simp[atE]
 |false=>
  (rw[vZ (aO rfl),kN];simp(disch:=omega)only[aG,↓aa,seval,-List.reduceReplicate,reduceCtorEq,af,h1,h2,vV,hr])
  simp[atE,Q0]
theorem Hp:∀a:List UInt8,Op.bytesLess a a=false
 | []=>rfl
 |a::l=>by
  unfold Op.bytesLess;simp[Hp l,UInt8.lt_irrefl]
theorem KV:∀a b c:List UInt8,Op.bytesLess a b=true→Op.bytesLess b c=true→Op.bytesLess a c=true
 |_,_,[],_,h=>by cases ‹List UInt8›<;>simp[Op.bytesLess]at h
 |_,[],_::_,h,_=>by cases ‹List UInt8›<;>simp[Op.bytesLess]at h
 | [],_::_,_::_,_,_=>rfl
 |a::x,b::y,c::z,h,h'=>by
  unfold Op.bytesLess at h h' ⊢;simp only[OZ,decide_eq_true_eq,yE,beq_iff_eq]at h h' ⊢;rcases h with h|⟨rfl,h⟩
  ·rcases h' with h'|⟨rfl,h'⟩
   ·exact .inl (UInt8.lt_trans h h')
   ·exact .inl h
  ·rcases h' with h'|⟨rfl,h'⟩
   ·exact .inl h'
   ·exact .inr ⟨rfl,KV x y z h h'⟩
theorem S0:∀a b:List UInt8,Op.bytesLess a b=true∨a=b∨Op.bytesLess b a=true
 | [],[]=>.inr (.inl rfl)
 | [],_::_=>.inl rfl
 |_::_,[]=>.inr (.inr rfl)
 |a::x,b::y=>by
  unfold Op.bytesLess;simp only[OZ,decide_eq_true_eq,yE,beq_iff_eq,List.cons.injEq];rcases S0 x y with h|h|h
  ·by_cases h1:a<b
   ·exact .inl (.inl h1)
   ·by_cases h2:b<a
    ·exact .inr (.inr (.inl h2))
    ·have:a=b:=UInt8.le_antisymm (acg.1 h2) (acg.1 h1)
     exact .inl (.inr ⟨this,h⟩)
  ·by_cases h1:a<b
   ·exact .inl (.inl h1)
   ·by_cases h2:b<a
    ·exact .inr (.inr (.inl h2))
    ·have:a=b:=UInt8.le_antisymm (acg.1 h2) (acg.1 h1)
     exact .inr (.inl ⟨this,h⟩)
  ·by_cases h1:a<b
   ·exact .inl (.inl h1)
   ·by_cases h2:b<a
    ·exact .inr (.inr (.inl h2))
    ·have:a=b:=UInt8.le_antisymm (acg.1 h2) (acg.1 h1)
     exact .inr (.inr (.inr ⟨this.symm,h⟩))
theorem gq(a:ByteArray):slt a a=false:=Hp _
theorem ry{a b c:ByteArray}(h:slt a b=true)(h':slt b c=true):slt a c=true:=KV _ _ _ h h'
theorem qJ(a b:ByteArray):slt a b=true∨a=b∨slt b a=true:=by
 rcases S0 a.toList b.toList with h|h|h
 ·exact .inl h
 ·exact .inr (.inl (tg.1 h))
 ·exact .inr (.inr h)
theorem G0{a b:ByteArray}(h:slt a b=true):¬a=b:=by rintro rfl;rw[gq]at h;cases h
theorem sH{a b:ByteArray}(h:slt a b=true):slt b a=false:=by
 rw[abN];intro h';have:=ry h h';rw[gq]at this;cases this
theorem yQ(a b:ByteArray):ti a b=if a=b then 0 else if slt a b=true then -1 else 1:=by
 unfold ti slt;by_cases h:a=b
 ·rw[if_pos (tg.2 h),if_pos h]
 ·rw[if_neg (fun x=>h (tg.1 x)),if_neg h]
theorem agL(a b:ByteArray):ti a b<0↔slt a b=true:=by
 rw[yQ];by_cases h:a=b
 ·subst h;simp[gq]
 ·by_cases h2:slt a b=true<;>simp[h,h2]
theorem ade(a b:ByteArray):ti a b=0↔a=b:=by
 rw[yQ];by_cases h:a=b
 ·simp[h]
 ·by_cases h2:slt a b=true<;>simp[h,h2]
theorem IQ(a b:ByteArray):R P bT [.str a,.str b]=some (.int .i64 (ti a b)):=by
 (rw[sy (aO rfl),de];simp(disch:=omega)only[aG,↓aa,seval,-List.reduceReplicate,reduceCtorEq,af,mE,BT,uY,xu])
theorem FO(a b:ByteArray):R P eQ [.str a,.str b]=some (.int .i64 (ti a b)):=by
 (rw[FI (aO rfl),kR];simp(disch:=omega)only[aG,↓aa,seval,-List.reduceReplicate,reduceCtorEq,af,sq,IQ])
theorem DA(v:V2)(k:ByteArray):R P cz [.agg (au v),.str k]=some (.int .i64 (ti v.name k)):=by
 (rw[AR (aO rfl),gR];simp(disch:=omega)only[aG,↓aa,seval,-List.reduceReplicate,reduceCtorEq,af,au,FC,FO])
abbrev YY(s:List V2)(k:ByteArray)(x:Nat×Nat):List (Nat×AV):=[(0,.p (.aW (s.map au))),(1,.p (.str k)),(2,.p (.fn cz [])),(8,.p (.int .i64 s.length)),(9,.p (.int .i64 x.1)),(10,.p (.int .i64 x.2))]
def bsF(s:List V2)(k:ByteArray)(x:Nat×Nat):(Nat×Nat) ⊕ (Nat×Nat) :=
 if x.1<x.2 then
  match s[(x.1+x.2) / 2]? with
  |some v=>if slt v.name k=true then .inl ((x.1+x.2) / 2+1,x.2)else .inl (x.1,(x.1+x.2) / 2)
  |none=>.inr x
 else .inr x
structure ao5 (s:List V2) (k:ByteArray) (x:Nat×Nat):Prop where
 le:x.1≤x.2
 hi:x.2≤s.length
 low:∀i v,i<x.1→s[i]?=some v→slt v.name k=true
 up:∀i v,x.2≤i→s[i]?=some v→slt v.name k=false
def eL(s:List V2):Prop:=s.Pairwise fun a b=>slt a.name b.name=true
theorem D3{s:List V2}(h:eL s){i j:Nat}{v u:V2}(hij:i<j)(hi:s[i]?=some v)(hj:s[j]?=some u):slt v.name u.name=true:=by
 obtain⟨h1,rfl⟩:=gu.1 hi;obtain⟨h2,rfl⟩:=gu.1 hj;exact aa7.1 h i j h1 h2 hij
theorem akt{i j:Nat}(h:i+j<2000001):IntKind.i64.wrap (((IntKind.u64.wrap (IntKind.i64.wrap ((i:Int)+j))).fdiv (2^min (1:Int).toNat IntKind.u64.bits)))=(((i+j) / 2:Nat):Int):=by
 rw[IntWalk.i64_in ((i:Int)+j) (by omega),IntWalk.u64_in _ (by omega),show min (1:Int).toNat IntKind.u64.bits=1 from rfl,Ev (by omega)]
 rw[show((i:Int)+j).toNat=i+j by omega]
 exact IntWalk.i64_in _ (by omega)
theorem apw(s:List V2)(k:ByteArray)(hs:eL s)(hl:s.length≤1000000):∃m,m≤s.length∧(∀i v,i<m→s[i]?=some v→slt v.name k=true)∧(∀i v,m≤i→s[i]?=some v→slt v.name k=false) ∧
  an P bY (YY s k (0,s.length)) [] 49 none=some (.exit 0,⟨jg (jg (jg (tm (YY s k (m,m))) 15 (.p (.int .i64 m))) 16 (.p (.int .i64 m))) 17 (.p (.bool false)),[],49,none⟩):=by
 have h:=OD (P:=P) (nt:=49) (rd:=none) (lv:=[0,1,2,8,9,10]) (b:=bB) (YY s k) (fun _=>[]) (bsF s k)
  (fun x r=>r=(.exit 0,⟨jg (jg (jg (tm (YY s k x)) 15 (.p (.int .i64 x.1))) 16 (.p (.int .i64 x.2))) 17 (.p (.bool false)),[],49,none⟩)) (ao5 s k) (fun x=>x.2-x.1)
  (fun x hx=>by
   obtain⟨i,j⟩:=x;obtain⟨h1,h2,h3,h4⟩:=hx
   simp only at h1 h2 h3 h4
   unfold bsF;by_cases hij:i<j
   ·have hlt:((i:Int)<j)=True:=by simpa using hij
    have hm:(i+j) / 2<s.length:=by omega
    obtain⟨v,hv⟩:∃v,s[(i+j) / 2]?=some v:=⟨_,oh hm⟩;have hmid:=akt (i:=i) (j:=j) (by omega)
    simp only[seval]at hmid;have hi64:IntKind.i64.wrap ((((i+j) / 2:Nat):Int)+1)=(((i+j) / 2+1:Nat):Int):=afX (by omega)
    have hrow:=aU (k:=.i64) (σ:=[]) (es:=2) (ax (f:=au) hv) rfl;have hcall:=DA v k;have hneg:=agL v.name k;simp only[hij,if_true,hv];by_cases hc:slt v.name k=true
    ·have hcn:=eq_true (hneg.2 hc)
     refine⟨fun s' he=>?_,?_⟩
     ·simp only[hc,if_true,abX]at he
      subst he;refine⟨⟨by simp only;omega,h2,fun a u ha hu=>?_,h4⟩,by simp only;omega⟩
      simp only at ha
      by_cases hlast:a=(i+j) / 2
      ·subst hlast;rw[hv]at hu;cases hu;exact hc
      ·exact ry (D3 hs (show a<(i+j) / 2 by omega) hu hv) hc
     ·simp only[bB,hc,if_true]
      simp only[au]at hrow hcall;simp(disch:=omega)only[aG,↓aa,seval,-List.reduceReplicate,reduceCtorEq,af,hlt,F2,hmid,hrow,km,abq,CU,hcall,hcn,hi64,YY]
    ·have hc':slt v.name k=false:=abN.2 hc
     have hcn:=eq_false (fun h=>hc (hneg.1 h))
     refine⟨fun s' he=>?_,?_⟩
     ·simp only[hc',nh,if_false,abX]at he
      subst he;refine⟨⟨by simp only;omega,by simp only;omega,h3,fun a u ha hu=>?_⟩,by simp only;omega⟩
      simp only at ha
      by_cases hlast:a=(i+j) / 2
      ·subst hlast;rw[hv]at hu;cases hu;exact hc'
      ·have:=D3 hs (show(i+j) / 2<a by omega) hv hu
       rw[abN];intro h;exact hc (ry this h)
     ·simp only[bB,hc',nh,if_false]
      simp only[au]at hrow hcall;simp(disch:=omega)only[aG,↓aa,seval,-List.reduceReplicate,reduceCtorEq,af,hlt,F2,hmid,hrow,km,abq,CU,hcall,hcn,hi64,YY]
   ·have hlt:((i:Int)<j)=False:=by simpa using hij
    simp only[hij,if_false];refine⟨fun s' he=>(by cases he),?_⟩
    simp only[bB]
    simp(disch:=omega)only[aG,↓aa,seval,-List.reduceReplicate,reduceCtorEq,af,hlt]) (fun s=>rfl) (s.length+1) (0,s.length) (by simp) ⟨by simp,by simp,by simp,fun i v hi hv=>by
     have:=(gu.1 hv).1
     simp only at hi;omega⟩
 obtain⟨x,t,r,hx,hf,hL,ho⟩:=h;obtain⟨i,j⟩:=x;obtain⟨h1,h2,h3,h4⟩:=hx
 simp only at h1 h2 h3 h4
 unfold bsF at hf
 have hij:¬i<j:=by
  intro hij;obtain⟨v,hv⟩:∃v,s[(i+j) / 2]?=some v:=⟨_,oh (by omega)⟩
  simp only[hij,if_true,hv]at hf;split at hf<;>cases hf
 simp only[hij,if_false,Sum.inr.injEq]at hf;subst hf;subst ho
 obtain rfl:i=j:=by omega
 exact⟨i,h2,h3,h4,hL⟩
abbrev names(s:List V2):List ByteArray:=s.map (·.name)
def Om(s:List V2)(k:ByteArray):Bool:=s.any fun u=>decide (u.name=k)
theorem PU(s:List V2)(k:ByteArray):Om s k=true↔k∈names s:=by
 unfold Om names;rw[abT,CV];constructor
 ·rintro⟨u,h1,h2⟩;exact⟨u,h1,by simpa using h2⟩
 ·rintro⟨u,h1,h2⟩;exact⟨u,h1,by simpa using h2⟩
theorem L7(s:List V2)(k:ByteArray)(hs:eL s)(hl:s.length≤1000000):∃m,m≤s.length∧(∀i v,i<m→s[i]?=some v→slt v.name k=true)∧(∀i v,m≤i→s[i]?=some v→slt v.name k=false) ∧
  R P aS [.aW (s.map au),.str k,.fn cz []]=some (.jO [.int .i64 m,.bool (Om s k)]):=by
 obtain⟨m,h1,h2,h3,hL⟩:=apw s k hs hl;refine⟨m,h1,h2,h3,?_⟩;have hL':an P bY [(0,.p (.aW (s.map au))),(1,.p (.str k)),(2,.p (.fn cz [])),(8,.p (.int .i64 s.length)),(9,.p (.int .i64 0)),(10,.p (.int .i64 s.length))] [] 49 none=_:=hL;by_cases hm:m<s.length
 ·have hlt:((m:Int)<s.length)=True:=by simpa using hm
  obtain⟨v,hv⟩:∃v,s[m]?=some v:=⟨_,oh hm⟩;have hrow:=aU (k:=.i64) (σ:=[]) (es:=2) (ax (f:=au) hv) rfl;have hcall:=DA v k
  have hin:k∈names s↔v.name=k:=by
   constructor
   ·intro h
    obtain⟨u,hu,rfl⟩:=CV.1 h;obtain⟨a,ha⟩:=Xr hu;by_cases h4:a<m
    ·have:=h2 a u h4 ha;rw[gq]at this;cases this
    ·by_cases h5:a=m
     ·subst h5;rw[hv]at ha;cases ha;rfl
     ·have hsv:=h3 m v (qj _) hv
      have:=D3 hs (show m<a by omega) hv ha
      rw[this]at hsv;cases hsv
   ·rintro rfl
    exact List.mem_map_of_mem (mK hv)
  simp only[au]at hrow hcall;have hz:=ade v.name k;by_cases hc:v.name=k
  ·have h0:=hz.2 hc
   (rw[cV (aO rfl),aR];simp(disch:=omega)only[aG,↓aa,seval,-List.reduceReplicate,reduceCtorEq,af,bz,cR,hL',hlt,hrow,km,hcall,h0])
   rw[(PU s k).2 (hin.2 hc)]
  ·have h0:=eq_false (fun h=>hc (hz.1 h))
   (rw[cV (aO rfl),aR];simp(disch:=omega)only[aG,↓aa,seval,-List.reduceReplicate,reduceCtorEq,af,bz,cR,hL',hlt,hrow,km,hcall,h0])
   rw[abN.2 fun h=>hc (hin.1 ((PU s k).1 h))]
 ·have hlt:((m:Int)<s.length)=False:=by simpa using hm
  have hin:¬k∈names s:=by
   intro h;obtain⟨u,hu,rfl⟩:=CV.1 h;obtain⟨a,ha⟩:=Xr hu;have hal:=(gu.1 ha).1;have:=h2 a u (by omega) ha
   rw[gq]at this;cases this
  (rw[cV (aO rfl),aR];simp(disch:=omega)only[aG,↓aa,seval,-List.reduceReplicate,reduceCtorEq,af,bz,cR,hL',hlt])
  rw[abN.2 fun h=>hin ((PU s k).1 h)]
def p7:List V2→V2→List V2
 | [],v=>[v]
 |a::r,v=>if a.name=v.name then a::r else if slt v.name a.name=true then v::a::r else a::p7 r v
theorem EH:∀(s:List V2) (v:V2),(p7 s v).length≤s.length+1
 | [],v=>by simp[p7]
 |a::r,v=>by
  simp only[p7];have:=EH r v;split
  ·simp
  ·split
   ·simp
   ·simp only[oi];omega
theorem SP:∀{s:List V2} {v x:V2},x∈p7 s v→x=v∨x∈s
 | [],v,x,h=>by simp[p7]at h;exact .inl h
 |a::r,v,x,h=>by
  simp only[p7]at h;split at h
  ·exact .inr h
  ·split at h
   ·rcases qL.1 h with h|h
    ·exact .inl h
    ·exact .inr h
   ·rcases qL.1 h with h|h
    ·exact .inr (by simp[h])
    ·rcases SP h with h|h
     ·exact .inl h
     ·exact .inr (by simp[h])
theorem Bb:∀{s:List V2} {v:V2},eL s→eL (p7 s v)
 | [],v,_=>by simp[p7,eL]
 |a::r,v,h=>by
  have hr:eL r:=(IY.1 h).2;have ha:=(IY.1 h).1;simp only[p7];split
  ·exact h
  ·rename_i h1
   split
   ·rename_i h2
    refine IY.2 ⟨fun x hx=>?_,h⟩
    rcases qL.1 hx with rfl|hx
    ·exact h2
    ·exact ry h2 (ha x hx)
   ·rename_i h2
    refine IY.2 ⟨fun x hx=>?_,Bb hr⟩
    rcases SP hx with rfl|hx
    ·rcases qJ a.name x.name with h|h|h
     ·exact h
     ·exact absurd h h1
     ·exact absurd h h2
    ·exact ha x hx
theorem PZ:∀{s:List V2} {v:V2},eL s→Om s v.name=true→p7 s v=s
 | [],v,_,h=>by simp[Om]at h
 |a::r,v,hs,h=>by
  have hr:eL r:=(IY.1 hs).2;have ha:=(IY.1 hs).1;simp only[p7];split
  ·rfl
  ·rename_i h1
   have hin:Om r v.name=true:=by
    unfold Om at h ⊢;simp only[abL,OZ,decide_eq_true_eq]at h;rcases h with h|h
    ·exact absurd h h1
    ·exact h
   obtain⟨u,hu,hue⟩:=abT.1 hin;have hlt:=ha u hu;simp only[decide_eq_true_eq]at hue;rw[hue]at hlt;rw[if_neg (by rw[sH hlt];simp),PZ hr hin]
theorem XV:∀{s:List V2} {v:V2} {m:Nat},m≤s.length→(∀i u,i<m→s[i]?=some u→slt u.name v.name=true)→(∀i u,m≤i→s[i]?=some u→slt u.name v.name=false)→Om s v.name=false→p7 s v=s.take m++v::s.drop m
 | [],v,m,_,_,_,_=>by simp[p7]
 |a::r,v,0,_,_,h2,h3=>by
  have hne:¬a.name=v.name:=by
   intro h;simp[Om,h]at h3
  have:=h2 0 a (qj _) rfl
  have hlt:slt v.name a.name=true:=by
   rcases qJ a.name v.name with h|h|h
   ·rw[h]at this;cases this
   ·exact absurd h hne
   ·exact h
  simp[p7,hne,hlt]
 |a::r,v,m+1,h0,h1,h2,h3=>by
  have hlt:=h1 0 a (by omega) rfl
  have hne:=G0 hlt
  have ih:=XV (s:=r) (v:=v) (m:=m) (by simpa using h0) (fun i u hi hu=>h1 (i+1) u (by omega) (by simpa using hu)) (fun i u hi hu=>h2 (i+1) u (by omega) (by simpa using hu)) (by
   unfold Om at h3 ⊢;simp only[abL,abB]at h3;exact h3.2)
  simp[p7,hne,sH hlt,ih]
def DF(op:Int)(s:List V2)(u:Term):List V2:=if u.op=op then p7 s ⟨u.name,u.w⟩else s
theorem AZ{op:Int}{s:List V2}{u:Term}(h:eL s):eL (DF op s u):=by unfold DF;split;exact Bb h;exact h
theorem Jr{op:Int}{s:List V2}{u:Term}:(DF op s u).length≤s.length+1:=by unfold DF;split;exact EH _ _;omega
theorem yn{op:Int}:∀{l:List Term} {s:List V2},eL s→eL (l.foldl (DF op) s)
 | [],s,h=>h
 |a::l,s,h=>yn (l:=l) (s:=DF op s a) (AZ h)
theorem zD{op:Int}:∀{l:List Term} {s:List V2},(l.foldl (DF op) s).length≤s.length+l.length
 | [],s=>by simp
 |a::l,s=>by
  have:=zD (op:=op) (l:=l) (s:=DF op s a);have:=Jr (op:=op) (s:=s) (u:=a);simp only[UM,oi];omega
theorem jH{S T α:Type}(g:S→α→S):∀(l:List α) (i:Nat) (s:S),aq (T:=T) (fun _ s a=>.inl (g s a)) i s l=.inl (l.foldl g s)
 | [],i,s=>rfl
 |a::l,i,s=>by simp only[aq,UM];exact jH g l (i+1) (g s a)
theorem aki{n m e:Nat}{rows:List (List PV)}{new:List PV}{o1 o2:Obj}(hn:rows.length=n)(hm:m≤n)(hl:n≤1000000)(he:e=2∨e=0∧rows.isEmpty=true) :
  Cv 2 24 [.sl 0 n,.p (.int .i64 m),.sl 3 1] [.pv e rows false,o1,o2,.pv 2 [new] false]=some (.sl 0 (n+1),[.pv 2 (rows.take m++[new]++rows.drop m) false,o1,o2,.pv 2 [new] false]):=by
 simp only[Cv,NX,aa6,oi,pN,hn,aci,aa9];rw[if_pos ⟨trivial,trivial,by omega,he,trivial,by omega,by omega,hm,by omega⟩]
abbrev sV(s:List V2):ae:=[.pv (mD 2 s) (s.map au) false,.av 1 [[.sl 0 s.length]] false]
theorem TI(op:Int)(t:Term)(hc:t.count≤1000000)(s0:List V2)(hs:eL s0)(hl:s0.length+t.count≤1000000) :
  mA P [19] ej ek (.p (.fn b6 [.ptr t.row 0])) [(2,.p (.ptr [.int .i64 op] 0)),(5,.ptr 1 1 0 0)] (sV s0) 44 none=some (.normal,sV (t.pre.foldl (DF op) s0)):=by
 have h:=Cy (rd:=none) (kept:=[(2,.p (.ptr [.int .i64 op] 0)),(5,.ptr 1 1 0 0)]) (ps:=[19]) (gP:=ej) (b:=ek) (nt:=44) t hc ⟨rfl,rfl⟩ sV (fun _ s u=>.inl (DF op s u)) (fun(x:Empty)=>nomatch x)
  (fun i s=>eL s∧s.length≤s0.length+i) s0 rfl (fun _=>rfl) (fun x=>nomatch x) (fun s=>by simp only[sV,UA,abM,wj,tz,Rk];rfl) (fun x=>nomatch x) (fun x=>nomatch x) (fun i u s ha hok=>by
   obtain⟨hso,hsl⟩:=hok;have hil:i<t.count:=by have:=(gu.1 ha).1;rw[Term.qE]at this;exact this
   have hlen:=Jr (op:=op) (s:=s) (u:=u);refine⟨fun s' he=>by cases he;exact⟨AZ hso,by omega⟩,?_⟩
   simp only[sV,Ec,yK];rw[zk rfl ⟨rfl,rfl,rfl⟩];unfold DF;by_cases h1:u.op=op
   rotate_left
   ·simp only[ej,ek,h1,if_false]
    simp(disch:=omega)only[aG,↓aa,seval,-List.reduceReplicate,reduceCtorEq,af,h1]
   obtain⟨m,m1,m2,m3,hb⟩:=L7 s u.name hso (by omega)
   simp only[h1,if_true];cases hin:Om s u.name with
   |true=>
    rw[hin]at hb;rw[PZ (v:=⟨u.name,u.w⟩) hso hin];simp only[ej,ek];simp(disch:=omega)only[aG,↓aa,seval,-List.reduceReplicate,reduceCtorEq,af,eq_true h1,eK,bz,hb]
   |false=>
    rw[hin]at hb;have hii:=XV (v:=⟨u.name,u.w⟩) m1 m2 m3 hin;have hpi:=fun o1 o2=>aki (n:=s.length) (m:=m) (e:=mD 2 s) (rows:=s.map au) (new:=[.str u.name,.int .i64 u.w]) (o1:=o1) (o2:=o2) (by simp) m1 (by omega) (by cases s with|nil=>exact .inr ⟨rfl,rfl⟩|cons=>exact .inl rfl)
    have hmap:(p7 s ⟨u.name,u.w⟩).map au=(s.map au).take m++[[.str u.name,.int .i64 u.w]]++(s.map au).drop m:=by
     rw[hii,Ed,ue,acm,List.map_drop];simp[au]
    have hlen2:(p7 s ⟨u.name,u.w⟩).length=s.length+1:=by rw[hii];simp;omega
    have hes:mD 2 (p7 s ⟨u.name,u.w⟩)=2:=by rw[hii];simp[mD]
    simp only[ej,ek];simp(disch:=omega)only[aG,↓aa,seval,-List.reduceReplicate,reduceCtorEq,af,eq_true h1,eK,bz,hb,sM,hpi,hmap,hlen2,hes]) ⟨hs,qj _⟩
 rw[h,jH];rfl
abbrev VK(op:Int)(l:List Term)(i:Int):List (Nat×AV):=[(2,.p (.ptr [.int .i64 op] 0)),(5,.ptr 1 1 0 0),(11,.p (.aW (l.map Term.row))),(12,.p (.int .i64 l.length)),(13,.p (.int .i64 i))]
def Jq(op:Int)(s:List V2)(t:Term):List V2:=t.pre.foldl (DF op) s
def varsOf(op:Int)(l:List Term):List V2:=l.foldl (Jq op) []
theorem NZ{op:Int}:∀{l:List Term} {s:List V2},(l.foldl (Jq op) s).length≤s.length+Term.counts l
 | [],s=>by simp[Term.counts]
 |a::l,s=>by
  have:=NZ (op:=op) (l:=l) (s:=Jq op s a);have:=zD (op:=op) (l:=a.pre) (s:=s);rw[Term.qE]at this;simp only[UM,Term.counts];unfold Jq at *;omega
theorem vK(op:Int)(l:List Term)(hc:Term.counts l≤500000):R P dX [.int .i64 op,.aW (l.map Term.row)]=some (.aW ((varsOf op l).map au)):=by
 have hlen:=Term.eo l
 have h:=oc (P:=P) (nt:=44) (rd:=none) (lv:=[2,5,11,12,13]) (b:=kJ) (x:=0) (as:=l) (fun i (_:List V2)=>VK op l i) sV (fun _ s t=>Jq op s t)
  (fun s=>⟨jg (tm (VK op l l.length)) 14 (.p (.bool false)),sV s,44,none⟩) (fun i s=>eL s∧s.length≤Term.counts (l.take i))
  (fun i t s ha hi hok=>by
   obtain⟨hso,hsl⟩:=hok;have hm:=mK ha;have hac:=Term.dK hm;have h1:=A5 l i t ha;have h2:=wU l (i+1);have hlt:((i:Int)<l.length)=True:=by simpa using hi
   have hr:=TI op t (by omega) s hso (by omega)
   have hal:=zD (op:=op) (l:=t.pre) (s:=s);rw[Term.qE]at hal;refine⟨⟨yn hso,by unfold Jq;omega⟩,?_⟩
   simp only[kJ];simp(disch:=omega)only[aG,↓aa,seval,-List.reduceReplicate,reduceCtorEq,af,hlt,aU (ax (f:=Term.row) ha) t.aH,hZ,ib,AP,hr,VK,Jq]) (fun s hs=>by
   simp only[kJ];simp(disch:=omega)only[aG,↓aa,seval,-List.reduceReplicate,reduceCtorEq,af,pD]) (fun i s=>rfl) [] ⟨List.Pairwise.nil,by simp⟩ _ (jH (Jq op) l 0 [])
 have h':an P oS [(2,.p (.ptr [.int .i64 op] 0)),(5,.ptr 1 1 0 0),(11,.p (.aW (l.map Term.row))),(12,.p (.int .i64 l.length)),(13,.p (.int .i64 0))] [.pv 0 [] false,.av 1 [[.sl 0 0]] false] 44 none=_:=h;simp only[sV]at h'
 (rw[CN (aO rfl),jh];simp(disch:=omega)only[aG,↓aa,seval,-List.reduceReplicate,reduceCtorEq,af,Bf,h',bz])
 rfl
theorem AD(l:List Term)(hc:Term.counts l≤500000):R P gH [.aW (l.map Term.row)]=some (.aW ((varsOf 24 l).map au)):=by
 (rw[IL (aO rfl),nG];simp(disch:=omega)only[aG,↓aa,seval,-List.reduceReplicate,reduceCtorEq,af,vI,vK 24 l hc])
theorem Cb(l:List Term)(hc:Term.counts l≤500000):R P iD [.aW (l.map Term.row)]=some (.aW ((varsOf 25 l).map au)):=by
 (rw[LO (aO rfl),oI];simp(disch:=omega)only[aG,↓aa,seval,-List.reduceReplicate,reduceCtorEq,af,vI,vK 25 l hc])
def tL:Term:=.mk 8 4 0 (bs []) [.mk 24 4 0 (bs [98]) [],.mk 24 4 0 (bs [97]) []]
theorem Cg{o w v:Int}{s:ByteArray}(h1 : -9223372036854775808≤o∧o≤9223372036854775807)(h2 : -9223372036854775808≤w∧w≤9223372036854775807)(h3:MD v)(h4:s.size≤9223372036854775807):iM (.mk o w v s []) :=
 .mk _ h1 h2 h3 h4 (by simp[Term.args]) (by simp[Term.args])
theorem af0(o w v:Int)(as:List Int)(hw : -9223372036854775808≤w∧w≤9223372036854775807) : -9223372036854775808≤(cG o w v as).1∧(cG o w v as).1≤9223372036854775807:=by
 have hget:as.all okW=true→∀n:Nat,0≤as.getD n 0∧as.getD n 0≤64:=by
  intro h n;rw[aaT];cases hg:as[n]? with
  |none=>simp
  |some a=>
   have:=AS.1 h a (mK hg);simpa[okW]using this
 unfold cG;split
 ·simp
 ·split
  ·simp
  ·rename_i h
   have ha:as.all okW=true:=by simpa using h
   have g0:=hget ha 0;have g1:=hget ha 1;split
   ·unfold wZ;split
    ·simp
    ·exact hw
   ·split
    ·unfold yg;split
     ·simp
     ·exact hw
    ·split
     ·exact⟨by omega,by omega⟩
     ·split
      ·split
       ·exact⟨by simp only;omega,by simp only;omega⟩
       ·simp
      ·split
       ·split
        ·exact⟨by simp only;omega,by simp only;omega⟩
        ·simp
       ·split
        ·split
         ·simp
         ·exact⟨by simp only;omega,by simp only;omega⟩
        ·simp
theorem alM:iM zT:=Cg (by decide) (by decide) ⟨by decide,by decide⟩ (by decide)
theorem Xv{wd:Int}:∀{l m:List Term},Term.A1 wd l=some m→m.length=l.length∧∀(i:Nat) (a b:Term),l[i]?=some a→m[i]?=some b→b=(a.vj wd).1∧(a.vj wd).2=true
 | [],m,h=>by simp only[Term.A1,bL]at h;subst h;simp
 |a::l,m,h=>by
  simp only[Term.A1]at h;split at h
  ·rename_i hk
   obtain⟨m',hm,rfl⟩:=gE.1 h;obtain⟨h1,h2⟩:=Xv hm;refine⟨by simp[h1],fun i x y hx hy=>?_⟩
   cases i with
   |zero=>simp at hx hy;subst hx;subst hy;exact⟨rfl,hk⟩
   |succ i=>exact h2 i x y (by simpa using hx) (by simpa using hy)
  ·cases h
theorem Mn(wd:Int)(hw : -9223372036854775808≤wd∧wd≤9223372036854775807)(t:Term):iM t→iM (t.vj wd).1:=by
 induction t using Term.ind with
 |h t ih=>
 intro ht;by_cases hz:t.args=[]
 ·rw[O5 wd t hz]
  refine Cg ht.op ?_ ?_ ht.name
  ·split;exact hw;exact ht.w
  ·split
   ·exact agR wd ht.v
   ·exact ht.v
 ·rw[O6 wd t hz]
  cases hm:Term.A1 wd t.args with
  |none=>exact alM
  |some m=>
   obtain⟨h1,h2⟩:=Xv hm;refine .mk _ ht.op (af0 _ _ _ _ ht.w) ht.v ht.name (by show m.length≤_;rw[h1];exact ht.len) (fun b hb=>?_)
   obtain⟨i,hi⟩:=Xr hb;have hil:i<t.args.length:=by rw[←h1];exact(gu.1 hi).1
   have hai:t.args[i]?=some t.args[i]:=oh hil;rw[(h2 i _ b hai hi).1];exact ih _ (UJ hil) (ht.args (UJ hil))
def CK(v:V2)(s:List V2×Bool)(a:V2):(List V2×Bool) ⊕ Unit :=
 if a.name=v.name then .inr ()else if s.2=false∧slt v.name a.name=true then .inl (s.1++[v,a],true)else .inl (s.1++[a],s.2)
abbrev Er(l:List V2)(v:V2)(s:List V2×Bool)(i:Int):List (Nat×AV):=[(0,.p (.aW (l.map au))),(3,.p (.ptr [.str v.name,.int .i64 v.w] 0)),(5,.sl 0 s.1.length),(6,.p (.bool s.2)),(7,.p (.int .i64 i))]
abbrev sJ(s:List V2×Bool):ae:=[.pv 2 (s.1.map au) false]
def alj(l:List V2)(r:Ex×St):Prop:=r.1=.ret∧r.2.τ.get 4=.p (.aW (l.map au))
theorem aeg(l:List V2)(v:V2)(hl:l.length≤1000000) :
  uV (fun s=>an P nX (Er l v ([],false) 0) (sJ ([],false)) 54 none=some (.exit 0,⟨jg (jg (jg (jg (tm (Er l v s l.length)) 9 (.p (.int .i64 l.length))) 10 (.p (.aW (l.map au)))) 11 (.p (.int .i64 l.length))) 12 (.p (.bool false)),sJ s,54,none⟩))
   (fun(_:Unit)=>∃r,an P nX (Er l v ([],false) 0) (sJ ([],false)) 54 none=some r∧alj l r) (aq (fun _ s a=>CK v s a) 0 ([],false) l):=by
 have h:=nz (P:=P) (nt:=54) (rd:=none) (lv:=[0,3,5,6,7]) (b:=lr) (x:=0) (as:=l) (fun i s=>Er l v s i) sJ (fun _ s a=>CK v s a)
  (fun s=>⟨jg (jg (jg (jg (tm (Er l v s l.length)) 9 (.p (.int .i64 l.length))) 10 (.p (.aW (l.map au)))) 11 (.p (.int .i64 l.length))) 12 (.p (.bool false)),sJ s,54,none⟩) (fun(_:Unit)=>alj l) (fun i s=>s.1.length+(if s.2=true then 0 else 1)≤i+1)
  (fun i a s hu hi hs=>by
   obtain⟨s,d⟩:=s;have hs':s.length≤i+1:=by simp only at hs;split at hs<;>omega
   have hlt:((i:Int)<l.length)=True:=by simpa using hi
   have hui:=fun σ=>aU (k:=.i64) (es:=2) (σ:=σ) (ax (f:=au) hu) rfl
   have hap1:=eZ (σ:=[.pv 2 (s.map au) false,.pv 2 [[.str v.name,.int .i64 v.w]] false]) (b:=0) (n:=s.length) (e:=2) (es:=2) (bytes:=24) (rows:=s.map au) (new:=[[.str v.name,.int .i64 v.w]]) rfl (by simp) (.inl rfl) (by simp only[oi,pN];omega)
   have hap2:=eZ (σ:=[.pv 2 (s.map au++[[.str v.name,.int .i64 v.w]]) false,.pv 2 [[.str v.name,.int .i64 v.w]] false,.pv 2 [[.str a.name,.int .i64 a.w]] false]) (b:=0) (n:=s.length+1) (e:=2) (es:=2) (bytes:=24) (rows:=s.map au++[[.str v.name,.int .i64 v.w]]) (new:=[[.str a.name,.int .i64 a.w]]) rfl (by simp) (.inl rfl) (by simp only[oi,pN];omega)
   have hap3:=eZ (σ:=[.pv 2 (s.map au) false,.pv 2 [[.str a.name,.int .i64 a.w]] false]) (b:=0) (n:=s.length) (e:=2) (es:=2) (bytes:=24) (rows:=s.map au) (new:=[[.str a.name,.int .i64 a.w]]) rfl (by simp) (.inl rfl) (by simp only[oi,pN];omega)
   simp only[au]at hui;unfold CK;rcases fC (a.name=v.name)with h1|h1
   ·refine⟨fun s' he=>?_,?_⟩
    ·simp only[h1,if_true]at he;cases he
    ·simp only[lr,h1]
     simp(disch:=omega)only[aG,↓aa,seval,-List.reduceReplicate,reduceCtorEq,af,hlt,hui,bz,h1,Er,sJ,alj]
   ·cases d with
    |true=>
     refine⟨fun s' he=>?_,?_⟩
     ·simp only[h1,if_false,abo,false_and,abX]at he
      subst he;simp only[if_true]at hs;simp only[mh,oi,pN,if_true];omega
     ·simp only[lr,h1]
      simp(disch:=omega)only[aG,↓aa,seval,-List.reduceReplicate,reduceCtorEq,af,hlt,hui,bz,h1,Er,sJ,hap3,Ed,mh,au]
    |false=>
     cases h2:slt v.name a.name with
     |true=>
      refine⟨fun s' he=>?_,?_⟩
      ·simp only[h1,if_false,true_and,if_true,abX]at he
       subst he;simp only[nh,if_false]at hs;simp only[mh,oi,pN,if_true];omega
      ·simp only[lr,h1]
       simp(disch:=omega)only[aG,↓aa,seval,-List.reduceReplicate,reduceCtorEq,af,hlt,hui,bz,h1,h2,Er,sJ,hap1,hap2,Ed,mh,au,Ux,acn]
     |false=>
      refine⟨fun s' he=>?_,?_⟩
      ·simp only[h1,if_false,nh,and_false,abX]at he
       subst he;simp only[nh,if_false]at hs;simp only[mh,oi,pN,nh,if_false];omega
      ·simp only[lr,h1]
       simp(disch:=omega)only[aG,↓aa,seval,-List.reduceReplicate,reduceCtorEq,af,hlt,hui,bz,h1,h2,Er,sJ,hap3,Ed,mh,au]) (fun s hs=>by
   simp only[lr];simp(disch:=omega)only[aG,↓aa,seval,-List.reduceReplicate,reduceCtorEq,af,pD,bz]) (fun i s=>rfl) ([],false) (by simp)
 exact h
theorem SQ(v:V2):∀(l s:List V2) (i:Nat),Om l v.name=false→aq (fun _ s a=>CK v s a) i (s,true) l=.inl (s++l,true)
 | [],s,i,_=>by simp[aq]
 |a::r,s,i,h=>by
  unfold Om at h;simp only[abL,abB,decide_eq_false_iff_not]at h
  have hs:CK v (s,true) a=.inl (s++[a],true):=by
   unfold CK;rw[if_neg h.1,if_neg (by simp)]
  simp only[aq,hs];rw[SQ v r (s++[a]) (i+1) h.2,Ux];rfl
theorem Ot(v:V2):∀(l s:List V2) (i:Nat),Om l v.name=false→∃s' d,aq (fun _ s a=>CK v s a) i (s,false) l=.inl (s',d)∧(if d=true then s' else s'++[v])=s++p7 l v
 | [],s,i,_=>⟨s,false,rfl,by simp[p7]⟩
 |a::r,s,i,h=>by
  have h0:=h;unfold Om at h;simp only[abL,abB,decide_eq_false_iff_not]at h;cases hlt:slt v.name a.name with
  |true=>
   have hs:CK v (s,false) a=.inl (s++[v,a],true):=by
    unfold CK;rw[if_neg h.1,if_pos ⟨rfl,hlt⟩]
   refine⟨s++[v,a]++r,true,?_,by simp[p7,h.1,hlt]⟩
   simp only[aq,hs];exact SQ v r (s++[v,a]) (i+1) h.2
  |false=>
   have hs:CK v (s,false) a=.inl (s++[a],false):=by
    unfold CK;rw[if_neg h.1,if_neg (by simp[hlt])]
   obtain⟨s',d,k1,k2⟩:=Ot v r (s++[a]) (i+1) h.2;refine⟨s',d,?_,?_⟩
   ·simp only[aq,hs];exact k1
   ·rw[k2];simp[p7,h.1,hlt]
theorem XW(v:V2):∀(l:List V2) (s:List V2×Bool) (i:Nat),Om l v.name=true→aq (fun _ s a=>CK v s a) i s l=.inr ()
 | [],s,i,h=>by simp[Om]at h
 |a::r,s,i,h=>by
  by_cases h1:decide (a.name=v.name)=true
  ·have h1:=of_decide_eq_true h1
   have hs:CK v s a=.inr ():=by unfold CK;rw[if_pos h1]
   simp only[aq,hs]
  ·have hr:Om r v.name=true:=by
    unfold Om at h ⊢;rw[abL]at h;rcases(OZ _ _).mp h with h|h
    ·exact absurd h h1
    ·exact h
   have h1:¬a.name=v.name:=by simpa using h1
   obtain⟨s2,hs⟩:∃s2,CK v s a=.inl s2:=by
    unfold CK;rw[if_neg h1];split
    ·exact⟨_,rfl⟩
    ·exact⟨_,rfl⟩
   simp only[aq,hs];exact XW v r s2 (i+1) hr
theorem QI(l:List V2)(v:V2)(hs:eL l)(hl:l.length≤1000000):R P np [.aW (l.map au),.agg [.str v.name,.int .i64 v.w]]=some (.aW ((p7 l v).map au)):=by
 have hL:=aeg l v hl;cases hin:Om l v.name with
 |true=>
  rw[XW v l _ 0 hin]at hL;rw[PZ hs hin];obtain⟨⟨e,τ',σ',nt',rd'⟩,k1,k2,k3⟩:=hL
  simp only at k2 k3
  subst k2;have hL':an P nX [(0,.p (.aW (l.map au))),(3,.p (.ptr [.str v.name,.int .i64 v.w] 0)),(5,.sl 0 0),(6,.p (.bool false)),(7,.p (.int .i64 0))] [.pv 2 [] false] 54 none=some (.ret,⟨τ',σ',nt',rd'⟩):=k1
  (rw[zY (aO rfl),nb];simp(disch:=omega)only[aG,↓aa,seval,-List.reduceReplicate,reduceCtorEq,af,yt,hL',k3])
 |false=>
  obtain⟨s',d,h1,h2⟩:=Ot v l [] 0 hin;rw[h1]at hL;have hL':an P nX [(0,.p (.aW (l.map au))),(3,.p (.ptr [.str v.name,.int .i64 v.w] 0)),(5,.sl 0 0),(6,.p (.bool false)),(7,.p (.int .i64 0))] [.pv 2 [] false] 54 none=_:=hL;rw[yK]at h2;have hil:=EH l v;rw[←h2]at hil ⊢;cases d with
  |true=>
   simp only[if_true]
   (rw[zY (aO rfl),nb];simp(disch:=omega)only[aG,↓aa,seval,-List.reduceReplicate,reduceCtorEq,af,yt,hL',bz])
  |false=>
   simp only[nh,if_false,mh,oi,pN]at hil ⊢;have hap:=eZ (σ:=[.pv 2 (s'.map au) false,.pv 2 [[.str v.name,.int .i64 v.w]] false]) (b:=0) (n:=s'.length) (e:=2) (es:=2) (bytes:=24) (rows:=s'.map au) (new:=[[.str v.name,.int .i64 v.w]]) rfl (by simp) (.inl rfl) (by simp only[oi,pN];omega)
   (rw[zY (aO rfl),nb];simp(disch:=omega)only[aG,↓aa,seval,-List.reduceReplicate,reduceCtorEq,af,yt,hL',bz,hap,Ed,mh,au])
def G2:Option (List V2)→List V2
 |none=>[]
 |some s=>s
def Jp(op:Int)(s:Option (List V2))(u:Term):Option (List V2):=if u.op=op then some (p7 (G2 s) ⟨u.name,u.w⟩)else s
def UW:Option (List V2)→AV
 |none=>.sl 0 0
 |some s=>.p (.aW (s.map au))
def sO:Option (List V2)→ae
 |none=>[.pv 2 [] false]
 |some _=>[.pv 2 [] true]
theorem Uk{op:Int}{s:Option (List V2)}{u:Term}:G2 (Jp op s u)=DF op (G2 s) u:=by
 unfold Jp DF;split<;>rfl
theorem OS{op:Int}:∀(l:List Term) (s:Option (List V2)),G2 (l.foldl (Jp op) s)=l.foldl (DF op) (G2 s)
 | [],s=>rfl
 |a::l,s=>by simp only[UM];rw[OS l,Uk]
theorem adG{rows:List (List PV)}:PV.flat (.aW rows)=rows.isEmpty:=by simp[PV.flat]
abbrev Y0(op:Int)(l:List Term)(i:Int)(pre:List Term)(s:Option (List V2))(j:Int):List (Nat×AV):=[(0,.p (.int .i64 op)),(1,.p (.aW (l.map Term.row))),(5,UW s),(6,.p (.int .i64 i)),(7,.p (.aW (pre.map Term.row))),(8,.p (.int .i64 j))]
theorem ahd(op:Int)(l:List Term)(i:Int)(pre:List Term)(s0:Option (List V2))(hs:eL (G2 s0))(hl:(G2 s0).length+pre.length≤1000000) :
  an P AX (Y0 op l i pre s0 0) (sO s0) 48 none=some (.exit 2,⟨jg (jg (jg (jg (tm (Y0 op l i pre (pre.foldl (Jp op) s0) pre.length)) 21 (.p (.int .i64 pre.length))) 22 (.p (.aW (pre.map Term.row)))) 23 (.p (.int .i64 pre.length))) 24 (.p (.bool false)),sO (pre.foldl (Jp op) s0),48,none⟩):=by
 have h:=oc (P:=P) (nt:=48) (rd:=none) (lv:=[0,1,5,6,7,8]) (b:=q9) (x:=2) (as:=pre) (fun j s=>Y0 op l i pre s j) sO (fun _ s t=>Jp op s t)
  (fun s=>⟨jg (jg (jg (jg (tm (Y0 op l i pre s pre.length)) 21 (.p (.int .i64 pre.length))) 22 (.p (.aW (pre.map Term.row)))) 23 (.p (.int .i64 pre.length))) 24 (.p (.bool false)),sO s,48,none⟩) (fun j s=>eL (G2 s)∧(G2 s).length≤(G2 s0).length+j)
  (fun j u s hu hj hok=>by
   obtain⟨hso,hsl⟩:=hok;have hlt:((j:Int)<pre.length)=True:=by simpa using hj
   have hui:=fun σ=>aU (k:=.i64) (es:=5) (σ:=σ) (ax (f:=Term.row) hu) u.aH
   have hal:=Jr (op:=op) (s:=G2 s) (u:=u);refine⟨by rw[Uk];exact⟨AZ hso,by omega⟩,?_⟩
   have hin:=QI (G2 s) ⟨u.name,u.w⟩ hso (by omega)
   unfold Jp;rcases fC (u.op=op)with h1|h1
   ·cases s with
    |none=>
     simp only[G2,p7,ue,CU,au]at hin;simp only[q9,h1];simp(disch:=omega)only[aG,↓aa,seval,-List.reduceReplicate,reduceCtorEq,af,hlt,hui,bz,h1,UW,sO,FB,hin,G2,p7,au,adG,List.isEmpty_cons,Lt,BV]
     rfl
    |some s=>
     simp only[G2]at hin;simp only[q9,h1];simp(disch:=omega)only[aG,↓aa,seval,-List.reduceReplicate,reduceCtorEq,af,hlt,hui,bz,h1,UW,sO,FB,hin,G2]
     rfl
   ·simp only[q9,h1]
    cases s with
    |none=>
     simp(disch:=omega)only[aG,↓aa,seval,-List.reduceReplicate,reduceCtorEq,af,hlt,hui,bz,h1,UW,sO]
     rfl
    |some s=>
     simp(disch:=omega)only[aG,↓aa,seval,-List.reduceReplicate,reduceCtorEq,af,hlt,hui,bz,h1,UW,sO]
     rfl) (fun s hs=>by
   simp only[q9];cases s with
   |none=>simp(disch:=omega)only[aG,↓aa,seval,-List.reduceReplicate,reduceCtorEq,af,pD,bz,UW,sO]
   |some s=>simp(disch:=omega)only[aG,↓aa,seval,-List.reduceReplicate,reduceCtorEq,af,pD,bz,UW,sO]) (fun i s=>rfl) s0 ⟨hs,by omega⟩ _ (jH (Jp op) pre 0 s0)
 exact h
abbrev adq(op:Int)(l:List Term)(s:Option (List V2))(i:Int):List (Nat×AV):=[(0,.p (.int .i64 op)),(1,.p (.aW (l.map Term.row))),(5,UW s),(6,.p (.int .i64 i))]
def Ra(op:Int)(s:Option (List V2))(t:Term):Option (List V2):=t.pre.foldl (Jp op) s
theorem Ul{op:Int}{s:Option (List V2)}{t:Term}:G2 (Ra op s t)=Jq op (G2 s) t:=OS t.pre s
theorem afN{op:Int}:∀(l:List Term) (s:Option (List V2)),G2 (l.foldl (Ra op) s)=l.foldl (Jq op) (G2 s)
 | [],s=>rfl
 |a::l,s=>by simp only[UM];rw[afN l,Ul]
theorem ahc(op:Int)(l:List Term)(hc:Term.counts l≤500000) :
  an P AW (adq op l none 0) (sO none) 48 none=some (.exit 0,⟨jg (jg (jg (jg (tm (adq op l (l.foldl (Ra op) none) l.length)) 10 (.p (.int .i64 l.length))) 11 (.p (.aW (l.map Term.row)))) 12 (.p (.int .i64 l.length))) 13 (.p (.bool false)),sO (l.foldl (Ra op) none),48,none⟩):=by
 have hlen:=Term.eo l
 have h:=oc (P:=P) (nt:=48) (rd:=none) (lv:=[0,1,5,6]) (b:=uq) (x:=0) (as:=l) (fun i s=>adq op l s i) sO (fun _ s t=>Ra op s t)
  (fun s=>⟨jg (jg (jg (jg (tm (adq op l s l.length)) 10 (.p (.int .i64 l.length))) 11 (.p (.aW (l.map Term.row)))) 12 (.p (.int .i64 l.length))) 13 (.p (.bool false)),sO s,48,none⟩) (fun i s=>eL (G2 s)∧(G2 s).length≤Term.counts (l.take i))
  (fun i t s ha hi hok=>by
   obtain⟨hso,hsl⟩:=hok;have hm:=mK ha;have hac:=Term.dK hm;have h1:=A5 l i t ha;have h2:=wU l (i+1);have hlt:((i:Int)<l.length)=True:=by simpa using hi
   have hui:=fun σ=>aU (k:=.i64) (es:=5) (σ:=σ) (ax (f:=Term.row) ha) t.aH
   have hal:=zD (op:=op) (l:=t.pre) (s:=G2 s);rw[Term.qE]at hal;refine⟨by rw[Ul];exact⟨yn hso,by unfold Jq;omega⟩,?_⟩
   have hp:=Cc t (by omega)
   have hL:=ahd op l i t.pre s hso (by rw[Term.qE];omega)
   unfold Ra;cases s with
   |none=>
    simp only[Y0,UW,sO]at hL;simp only[uq];simp(disch:=omega)only[aG,↓aa,seval,-List.reduceReplicate,reduceCtorEq,af,hlt,hui,bz,UW,sO,px,hp,Hn,hL]
    cases t.pre.foldl (Jp op) none<;>rfl
   |some s=>
    simp only[Y0,UW,sO]at hL;simp only[uq];simp(disch:=omega)only[aG,↓aa,seval,-List.reduceReplicate,reduceCtorEq,af,hlt,hui,bz,UW,sO,px,hp,Hn,hL]
    cases t.pre.foldl (Jp op) (some s)<;>rfl) (fun s hs=>by
   simp only[uq];cases s with
   |none=>simp(disch:=omega)only[aG,↓aa,seval,-List.reduceReplicate,reduceCtorEq,af,pD,bz,UW,sO]
   |some s=>simp(disch:=omega)only[aG,↓aa,seval,-List.reduceReplicate,reduceCtorEq,af,pD,bz,UW,sO]) (fun i s=>rfl) none ⟨List.Pairwise.nil,by simp[G2]⟩ _ (jH (Ra op) l 0 none)
 exact h
theorem Mc(op:Int)(l:List Term)(hc:Term.counts l≤500000):R P o9 [.int .i64 op,.aW (l.map Term.row)]=some (.aW ((varsOf op l).map au)):=by
 have hL:=ahc op l hc;have ht:=afN (op:=op) l none;simp only[adq,UW,sO]at hL;unfold varsOf;rw[←show G2 none=([]:List V2)from rfl,←ht];cases hr:l.foldl (Ra op) none with
 |none=>
  rw[hr]at hL
  simp only at hL
  (rw[LR (aO rfl),s9];simp(disch:=omega)only[aG,↓aa,seval,-List.reduceReplicate,reduceCtorEq,af,Hl,hL,G2,Lt,BV])
 |some s=>
  rw[hr]at hL
  simp only at hL
  (rw[LR (aO rfl),s9];simp(disch:=omega)only[aG,↓aa,seval,-List.reduceReplicate,reduceCtorEq,af,Hl,hL,G2])
theorem agW(v:V2):dg [.str,.int] [.str v.name,.int .i64 v.w] [.str v.name,.int .i64 v.w]=some true:=by
 simp[dg,ni]
theorem Cd(l:List V2)(hl:l.length≤1000000):R P iE [.aW (l.map au),.aW (l.map au)]=some (.bool true):=by
 have h:=oc (P:=P) (nt:=26) (rd:=none) (lv:=[0,1,5]) (b:=qq) (x:=0) (as:=l) (fun i (_:Unit)=>[(0,.p (.aW (l.map au))),(1,.p (.aW (l.map au))),(5,.p (.int .i64 i))]) (fun _=>[]) (fun _ s _=>s)
  (fun s=>⟨jg (jg (jg (jg (tm [(0,.p (.aW (l.map au))),(1,.p (.aW (l.map au))),(5,.p (.int .i64 l.length))]) 11 (.p (.int .i64 l.length))) 12 (.p (.aW (l.map au)))) 13 (.p (.int .i64 l.length))) 14 (.p (.bool false)),[],26,none⟩) (fun _ _=>True)
  (fun i a s hu hi _=>by
   refine⟨trivial,?_⟩;have hlt:((i:Int)<l.length)=True:=by simpa using hi
   have hui:=fun σ=>aU (k:=.i64) (es:=2) (σ:=σ) (ax (f:=au) hu) rfl
   simp only[au]at hui;have he:=agW a;simp only[qq];simp(disch:=omega)only[aG,↓aa,seval,-List.reduceReplicate,reduceCtorEq,af,hlt,hui,bz,aeS,PL,he]) (fun s hs=>by
   simp only[qq];simp(disch:=omega)only[aG,↓aa,seval,-List.reduceReplicate,reduceCtorEq,af,pD,bz]) (fun i s=>rfl) () trivial () (by rw[jH])
 have h':an P vg [(0,.p (.aW (l.map au))),(1,.p (.aW (l.map au))),(5,.p (.int .i64 0))] [] 26 none=_:=h
 (rw[LQ (aO rfl),oK];simp(disch:=omega)only[aG,↓aa,seval,-List.reduceReplicate,reduceCtorEq,af,bz,IB,h',eq_self,ne_eq])
end Go.AE.S
namespace Go.AE
namespace Term
def Ci(o:Int):Int:=if o=24∨o=25 then 1 else o
mutual
def ko:Term→Term
 |.mk o w v s []=>.mk (Ci o) w v s []
 |.mk o w v s [a]=>if o=26 then ko a else .mk (Ci o) w v s [ko a]
 |.mk o w v s (a::b::as)=>.mk (Ci o) w v s (ko a::ko b::cH as)
def cH:List Term→List Term
 | []=>[]
 |a::as=>ko a::cH as
end
theorem OU:∀l:List Term,cH l=l.map ko
 | []=>rfl
 |a::l=>by rw[cH,OU l];rfl
theorem Mr(t:Term)(a:Term)(ho:t.op=26)(ha:t.args=[a]):t.ko=a.ko:=by
 cases t with|mk o w v s as=>simp only[Term.op,Term.args]at ho ha;subst ho;subst ha;rw[ko];rfl
theorem Ms(t:Term)(h:¬(t.op=26∧t.args.length=1)):t.ko=.mk (Ci t.op) t.w t.v t.name (t.args.map ko):=by
 cases t with
 |mk o w v s as=>
  simp only[Term.op,Term.args]at h
  match as,h with
  | [],_=>rw[ko];rfl
  | [a],h=>
   have ho:¬o=26:=fun e=>h ⟨e,rfl⟩
   rw[ko,if_neg ho];rfl
  |a::b::as,_=>rw[ko,OU];rfl
end Term
end Go.AE
namespace Go.AE.S
open Go Go.AE
variable {τ:Tm} {σ:ae} {rd:Option Nat}
abbrev sW(t:Term)(s:List Term):ae:=[.pv 0 [] false,.av 5 [z5 0] false,.pv (mD 5 s) (s.map Term.row) false,.av 5 [[.p (.int .i64 (Term.Ci t.op)),.p (.int .i64 t.w),.p (.int .u64 t.v),.p (.str t.name),.sl 2 s.length]] false]
abbrev XH(t:Term)(i:Int):List (Nat×AV):=[(2,.ptr 1 1 0 0),(3,.ptr 3 1 0 0),(34,.p (.aW (t.args.map Term.row))),(35,.p (.int .i64 t.args.length)),(36,.p (.int .i64 i))]
theorem KF{α β:Type}(g:α→β):∀(l:List α) (s:List β),l.foldl (fun s a=>s++[g a]) s=s++l.map g
 | [],s=>by simp
 |a::l,s=>by rw[UM,KF g l];simp
theorem jm(t:Term):iM t→t.count≤1000000→R P bM [.agg t.row]=some (.agg t.ko.row):=by
 induction t using Term.ind with
 |h t ih=>
 intro ht hc;have hlen:=Term.eo t.args;have hct:=Term.count_eq t;by_cases h1:t.op=26∧t.args.length=1
 ·obtain⟨ho,hl⟩:=h1
  obtain⟨a,ha⟩:=abS.1 hl;have hm:a∈t.args:=by rw[ha];simp
  have hr:=ih a hm (ht.args hm) (by have:=Term.dK hm;omega)
  rw[Term.Mr t a ho ha];have hi:∀σ,jd σ 5 (.p (.aW (t.args.map Term.row))) (.p (.int .i64 0))=some (.p (.ptr a.row 0)):=fun σ=>aU (k:=.i64) (es:=5) (σ:=σ) (i:=0) (rows:=t.args.map Term.row) (r:=a.row) (by rw[ha];rfl) a.aH
  have hl':((t.args.length:Nat):Int)=1:=by rw[hl];rfl
  (rw[vJ (aO rfl),gr];simp(disch:=omega)only[aG,↓aa,seval,-List.reduceReplicate,reduceCtorEq,af,bz,eq_true ho,eq_true hl',hi,jl,hr])
 ·have h:=oc (P:=P) (nt:=49) (rd:=none) (lv:=[2,3,34,35,36]) (b:=kH) (x:=0) (as:=t.args) (fun i (_:List Term)=>XH t i) (sW t) (fun _ s a=>s++[a.ko])
   (fun s=>⟨jg (tm (XH t t.args.length)) 37 (.p (.bool false)),sW t s,49,none⟩) (fun i s=>s.length=i)
   (fun i a s ha hi hs=>by
    have hm:=mK ha;have hac:=Term.dK hm;have hr:=ih a hm (ht.args hm) (by omega)
    have hlt:((i:Int)<t.args.length)=True:=by simpa using hi
    have hap:=eZ (σ:=sW t s++[.pv 5 [a.ko.row] false]) (b:=2) (n:=s.length) (e:=mD 5 s) (es:=5) (bytes:=64) (rows:=s.map Term.row) (new:=[a.ko.row]) rfl (by simp) (r9 _ _ _) (by simp only[oi,pN];omega)
    simp only[sW,z5,Ec,yK]at hap;refine⟨by simp[hs],?_⟩
    simp only[kH];simp(disch:=omega)only[aG,↓aa,seval,-List.reduceReplicate,reduceCtorEq,af,hlt,aU (ax (f:=Term.row) ha) a.aH,jl,hr,sW,z5,hap,Ed,mh,kE,XH]) (fun s hs=>by
    simp only[kH];simp(disch:=omega)only[aG,↓aa,seval,-List.reduceReplicate,reduceCtorEq,af,pD]) (fun i s=>rfl) [] (by simp) _ (jH _ t.args 0 [])
  rw[KF,yK]at h;rw[Term.Ms t h1];have hv:=bw t.op;have h':an P oR (XH t 0) [.pv 0 [] false,.av 5 [z5 0] false,.pv 0 [] false,.av 5 [[.p (.int .i64 (Term.Ci t.op)),.p (.int .i64 t.w),.p (.int .u64 t.v),.p (.str t.name),.sl 2 0]] false] 49 none=_:=h;simp only[z5,sW,bz]at h';rcases fC (t.op=26)with h2|h2<;>rcases fC (((t.args.length:Nat):Int)=1)with h3|h3<;>by_cases h4:t.op=24∨t.op=25<;>simp only[Term.Ci,h4,if_true,if_false]at h' <;>
  (rw[vJ (aO rfl),gr];simp(disch:=omega)only[aG,↓aa,seval,-List.reduceReplicate,reduceCtorEq,af,bz,h2,h3,h4,bf,hv,Be,h'])<;>first|(exfalso;exact h1 ⟨of_eq_true h2,by have:=of_eq_true h3;omega⟩)|simp[Term.row,Term.FJ,Term.Ci,h4]
def YL(a b:Int):Int:=if a<b then -1 else if b<a then 1 else 0
end Go.AE.S
namespace Go.AE
namespace Term
end Term
end Go.AE
namespace Go.AE.S
open Go Go.AE
variable {τ:Tm} {σ:ae} {rd:Option Nat}
theorem Ys{as bs:List Term}{i:Nat}{a b:Term}(h:(as.zip bs)[i]?=some (a,b)):as[i]?=some a∧bs[i]?=some b:=by
 rw[List.getElem?_zip_eq_some]at h;exact h
theorem FZ(t:Term):iM t→iM t.ko:=by
 induction t using Term.ind with
 |h t ih=>
 intro ht;by_cases h1:t.op=26∧t.args.length=1
 ·obtain⟨ho,hl⟩:=h1
  obtain⟨a,ha⟩:=abS.1 hl;rw[Term.Mr t a ho ha];exact ih a (by rw[ha];simp) (ht.args (by rw[ha];simp))
 ·rw[Term.Ms t h1]
  refine .mk _ ?_ ht.w ht.v ht.name (by show(t.args.map Term.ko).length≤_;rw[bz];exact ht.len) (fun b hb=>?_)
  ·have:=ht.op
   show -9223372036854775808≤Term.Ci t.op∧Term.Ci t.op≤9223372036854775807;unfold Term.Ci;split
   ·omega
   ·exact this
  ·obtain⟨a,ha,rfl⟩:=CV.1 hb
   exact ih a ha (ht.args ha)
theorem lX{u t:Term}:u∈t.pre↔u=t∨∃a∈t.args,u∈a.pre:=by
 rw[Term.zV,Term.Fx,qL,Mz]
theorem j7(t:Term):∀u,u∈t.post↔u∈t.pre:=by
 induction t using Term.ind with
 |h t ih=>
 intro u;rw[lX,Term.Qf,Term.Te,Gb,Mz];constructor
 ·rintro(⟨a,ha,h⟩|h)
  ·exact .inr ⟨a,ha,(ih a ha u).1 h⟩
  ·simp at h;exact .inl h
 ·rintro(h|⟨a,ha,h⟩)
  ·right;simp[h]
  ·exact .inl ⟨a,ha,(ih a ha u).2 h⟩
theorem Kv(ev:Bool):∀l:List Term,iI ev l=0↔∀u∈l,pW u ev=0
 | []=>by simp[iI]
 |a::l=>by
  simp only[iI,List.forall_mem_cons];by_cases h:pW a ev=0
  ·simp only[h,if_true,true_and];exact Kv ev l
  ·simp[h]
theorem RZ{p:Term}{ev:Bool}(h:lF p ev=0):∀u∈p.pre,pW u ev=0:=by
 unfold lF at h;split at h
 ·cases h
 ·split at h
  ·rename_i h1;exact absurd h h1
  ·rename_i h1
   intro u hu;exact(Kv ev p.post).1 (by simpa using h1) u ((j7 p u).2 hu)
def Ev1(t:Term):Prop:=∀u∈t.pre,u.op=26→u.args.length=1
def Grd(t:Term):Prop:=∀u∈t.pre,¬u.op∈[24,25,(26:Int)]
theorem Ev1.args{t a:Term}(h:Ev1 t)(ha:a∈t.args):Ev1 a:=fun u hu=>h u (lX.2 (.inr ⟨a,ha,hu⟩))
theorem Grd.args{t a:Term}(h:Grd t)(ha:a∈t.args):Grd a:=fun u hu=>h u (lX.2 (.inr ⟨a,ha,hu⟩))
theorem T7{t:Term}:t∈t.pre:=lX.2 (.inl rfl)
theorem zq(t:Term):t.ko.count≤t.count:=by
 induction t using Term.ind with
 |h t ih=>
 by_cases h1:t.op=26∧t.args.length=1
 ·obtain⟨ho,hl⟩:=h1
  obtain⟨a,ha⟩:=abS.1 hl;rw[Term.Mr t a ho ha,Term.count_eq t,ha];have:=ih a (by rw[ha];simp)
  simp only[Term.counts];omega
 ·rw[Term.Ms t h1,Term.count_eq t,Term.count_eq]
  have:∀l:List Term,(∀a∈l,a.ko.count≤a.count)→Term.counts (l.map Term.ko)≤Term.counts l:=by
   intro l
   induction l with
   |nil=>intro _;exact qj _
   |cons a l ih2=>
    intro hl;have:=hl a (by simp)
    have:=ih2 fun b hb=>hl b (by simp[hb])
    simp only[ue,Term.counts];omega
  have:=this t.args ih;show 1+Term.counts (t.args.map Term.ko)≤_;omega
theorem ahw{u:Term}{ev:Bool}(h:pW u ev=0):(¬(arity u.op<0∨u.op=1∨(u.op=26∧ev=false)∨¬(u.args.length:Int)=arity u.op)) ∧
  ¬((¬u.name=bs []∧¬(u.op=24∨u.op=25))∨(¬u.v=0∧¬u.op=2∧¬u.op=21))∧¬((u.op=24∨u.op=25)∧pn u.name=false) ∧
  cG u.op u.w u.v (u.args.map Term.w)=(u.w,0)∧¬(u.op=26∧inner u=true):=by
 unfold pW at h;split at h
 ·cases h
 rename_i h1;split at h
 ·cases h
 rename_i h2;split at h
 ·cases h
 rename_i h3;split at h
 ·cases h
 rename_i h4;split at h
 ·cases h
 rename_i h5;simp only[not_or,abh]at h4;exact⟨h1,h2,h3,Prod.ext h4.2 h4.1,h5⟩
theorem X5{u:Term}{ev:Bool}(h1:¬(arity u.op<0∨u.op=1∨(u.op=26∧ev=false)∨¬(u.args.length:Int)=arity u.op))
  (h2:¬((¬u.name=bs []∧¬(u.op=24∨u.op=25))∨(¬u.v=0∧¬u.op=2∧¬u.op=21))) (h3:¬((u.op=24∨u.op=25)∧pn u.name=false))
  (h4:cG u.op u.w u.v (u.args.map Term.w)=(u.w,0)) (h5:¬(u.op=26∧inner u=true)):pW u ev=0:=by
 unfold pW;rw[if_neg h1,if_neg h2,if_neg h3,if_neg (by rw[h4];simp),if_neg h5]
theorem QZ{o w v n:Int}{as:List Int}(h0:¬as=[])(h:cG o w v as=(n,0))(ha:∀a∈as,1≤a):cG o n v as=(n,0)∧1≤n:=by
 have hget:∀k:Nat,k<as.length→1≤as.getD k 0:=by
  intro k hk;rw[aaT,oh hk];exact ha _ (UJ hk)
 have hl0:as.length≠0:=by cases as with|nil=>exact absurd rfl h0|cons=>simp
 unfold cG at h ⊢;split at h
 ·cases h
 rename_i h1;rw[if_neg h1];split at h
 ·cases h
 rename_i h2;rw[if_neg h2];split at h
 ·omega
 rename_i h3;rw[if_neg h3];simp only[not_or,abh]at h1;split at h
 ·rename_i h4
  rw[if_pos h4];unfold yg at h ⊢;split at h
  ·cases h
  ·rename_i h5
   cases h;rw[if_neg h5];exact⟨rfl,by omega⟩
 rename_i h4;rw[if_neg h4];split at h
 ·rename_i h5
  rw[if_pos h5];cases h;exact⟨rfl,hget 0 (by omega)⟩
 rename_i h5;rw[if_neg h5];have a2:∀{o:Int},¬arity o<0→¬arity o=0→¬arity o=1→2≤arity o:=by intro o;omega
 have hl2:=a2 h1.1 h3 h5;split at h
 ·rename_i h6
  rw[if_pos h6];split at h
  ·rename_i h7
   rw[if_pos h7];cases h;exact⟨rfl,by omega⟩
  ·cases h
 rename_i h6;rw[if_neg h6];split at h
 ·rename_i h7
  rw[if_pos h7];split at h
  ·rename_i h8
   rw[if_pos h8];cases h;exact⟨rfl,hget 1 (by omega)⟩
  ·cases h
 rename_i h7;rw[if_neg h7];split at h
 ·rename_i h8
  rw[if_pos h8];split at h
  ·rename_i h9
   rw[if_pos h9];cases h;exact⟨rfl,by omega⟩
  ·rename_i h9
   rw[if_neg h9];cases h;exact⟨rfl,hget 0 (by omega)⟩
 ·cases h
def acQ(wd:Int)(a b:Term):Prop:=b.op=a.op∧b.name=a.name∧(isVar a=true→b.w=if a.w=0 then wd else a.w)
def rA(wd:Int):List Term→List Term→Prop
 | [],[]=>True
 |a::l,b::m=>acQ wd a b∧rA wd l m
 |_,_=>False
theorem rA.append{wd:Int}:∀{l m l' m':List Term},rA wd l m→rA wd l' m'→rA wd (l++l') (m++m')
 | [],[],_,_,_,h=>h
 |a::l,b::m,_,_,h,h'=>⟨h.1,rA.append h.2 h'⟩
theorem rA.len{wd:Int}:∀{l m:List Term},rA wd l m→m.length=l.length
 | [],[],_=>rfl
 |a::l,b::m,h=>by simp[rA.len h.2]
theorem rA.any{wd:Int}(q:Int→Bool):∀{l m:List Term},rA wd l m→(m.any fun u=>q u.op)=l.any fun u=>q u.op
 | [],[],_=>rfl
 |a::l,b::m,h=>by simp only[abL];rw[rA.any q h.2,h.1.1]
structure amo (wd:Int) (ev:Bool) (t q:Term):Prop where
 nodes:∀u∈q.pre,pW u ev=0∧1≤u.w
 rel:rA wd t.pre q.pre
 deep:q.deep=t.deep
theorem ac4{wd:Int}{ev:Bool}:∀{l m:List Term},Term.A1 wd l=some m→(∀a∈l,(a.vj wd).2=true→amo wd ev a (a.vj wd).1) →
  (∀b∈m,∀u∈b.pre,pW u ev=0∧1≤u.w)∧rA wd (l.flatMap Term.pre) (m.flatMap Term.pre)∧Term.kr m=Term.kr l∧m.length=l.length ∧
  (∀a,l.head?=some a→∃b,m.head?=some b∧rA wd a.pre b.pre)
 | [],m,h,_=>by simp only[Term.A1,bL]at h;subst h;simp[rA]
 |a::l,m,h,hall=>by
  simp only[Term.A1]at h;split at h
  ·rename_i hk
   obtain⟨m',hm,rfl⟩:=gE.1 h;obtain⟨i1,i2,i3,i4,i5⟩:=ac4 hm fun b hb=>hall b (by simp[hb])
   have ha:=hall a (by simp) hk
   refine⟨?_,?_,?_,by simp[i4],?_⟩
   ·intro b hb
    rcases qL.1 hb with rfl|hb
    ·exact ha.nodes
    ·exact i1 b hb
   ·simp only[abG];exact ha.rel.append i2
   ·simp only[Term.kr];rw[ha.deep,i3]
   ·intro c hc
    simp only[List.head?_cons,bL]at hc;subst hc;exact⟨_,rfl,ha.rel⟩
  ·cases h
theorem aej{wd v:Int}(h1:1≤wd)(h2:wd≤64):J6 wd v<2^wd.toNat:=by
 unfold J6;have hc:iB wd=wd:=by unfold iB;omega
 rw[hc];have:v.toNat % 2^wd.toNat<2^wd.toNat:=NY _ (MA (by omega))
 exact_mod_cast this
theorem amJ(wd:Int)(hwd:1≤wd∧wd≤64)(ev:Bool)(t:Term):(∀u∈t.pre,pW u ev=0)→(t.vj wd).2=true→amo wd ev t (t.vj wd).1:=by
 induction t using Term.ind with
 |h t ih=>
 intro hn hk;obtain⟨g1,g2,g3,g4,g5⟩:=ahw (hn t T7);by_cases hz:t.args=[]
 ·rw[O5 wd t hz]
  have har:arity t.op=0:=by
   simp only[not_or,abh]at g1;rw[←g1.2.2.2,hz];rfl
  have hl:wZ t.op t.w t.v=(t.w,0):=by
   rw[←g4,hz];unfold cG;rw[if_neg (by rw[har];simp),if_neg (by simp),if_pos har]
  have hlw:0≤t.w∧t.w≤64∧(t.op=2→0<t.w→t.v<2^t.w.toNat):=by
   unfold wZ at hl;split at hl
   ·exact absurd (show(3:Int)=0 from congrArg Prod.snd hl) (by decide)
   ·rename_i h
    refine⟨by omega,by omega,fun h1 h2=>?_⟩
    exact Int.not_le.1 fun h3=>h (.inr ⟨h1,h2,h3⟩)
  have hpre:Term.pre (.mk t.op (if t.w=0 then wd else t.w) (if t.w=0∧t.op=2 then J6 wd t.v else t.v) t.name [])=[.mk t.op (if t.w=0 then wd else t.w) (if t.w=0∧t.op=2 then J6 wd t.v else t.v) t.name []]:=by
   rw[Term.zV];rfl
  refine⟨?_,?_,?_⟩
  ·rw[hpre]
   intro u hu;rw[Uz]at hu;subst hu;refine⟨X5 ?_ ?_ g3 ?_ ?_,?_⟩
   ·show ¬(arity t.op<0∨t.op=1∨(t.op=26∧ev=false)∨¬(([]:List Term).length:Int)=arity t.op)
    rw[←hz];exact g1
   ·show ¬((¬t.name=bs []∧¬(t.op=24∨t.op=25))∨(¬(if t.w=0∧t.op=2 then J6 wd t.v else t.v)=0∧¬t.op=2∧¬t.op=21))
    by_cases h2:t.op=2
    ·simp only[not_or]at g2 ⊢
     exact⟨g2.1,fun h=>h.2.1 h2⟩
    ·rw[if_neg (fun h=>h2 h.2)];exact g2
   ·show cG t.op (if t.w=0 then wd else t.w) (if t.w=0∧t.op=2 then J6 wd t.v else t.v) []=_
    unfold cG;rw[if_neg (by rw[har];simp),if_neg (by simp),if_pos har]
    unfold wZ;rw[if_neg]
    ·rfl
    by_cases h0:t.w=0
    ·rw[if_pos h0]
     rintro(h|⟨h1,h2,h3⟩)
     ·omega
     ·rw[if_pos ⟨h0,h1⟩]at h3
      have:=aej (v:=t.v) hwd.1 hwd.2;omega
    ·rw[if_neg h0,if_neg (fun h=>h0 h.1)]
     rintro(h|⟨h1,h2,h3⟩)
     ·omega
     ·have:=hlw.2.2 h1 h2
      omega
   ·rintro⟨_,h⟩
    exact absurd h (by simp[inner,Term.args])
   ·show 1≤(if t.w=0 then wd else t.w)
    split<;>omega
  ·rw[hpre,Term.zV t,hz]
   exact⟨⟨rfl,rfl,fun _=>rfl⟩,trivial⟩
  ·rw[Term.vU t,hz,Term.vU];rfl
 ·rw[O6 wd t hz]at hk ⊢
  cases hm:Term.A1 wd t.args with
  |none=>rw[hm]at hk;cases hk
  |some m=>
   rw[hm]at hk;simp only[decide_eq_true_eq]at hk;obtain⟨i1,i2,i3,i4,i5⟩:=ac4 (ev:=ev) hm fun a ha hk=>ih a ha (fun u hu=>hn u (lX.2 (.inr ⟨a,ha,hu⟩))) hk
   have hne:¬m.map Term.w=[]:=by
    intro h;have:=congrArg List.length h;rw[bz,i4]at this;exact hz (Jm.1 this)
   have hpos:∀a∈m.map Term.w,1≤a:=by
    intro x hx;obtain⟨b,hb,rfl⟩:=CV.1 hx;exact(i1 b hb b T7).2
   obtain⟨w1,w2⟩:=QZ hne (Prod.ext rfl hk:cG t.op t.w t.v (m.map Term.w)=((cG t.op t.w t.v (m.map Term.w)).1,0)) hpos;refine⟨?_,?_,?_⟩
   ·intro u hu
    rcases lX.1 hu with rfl|⟨b,hb,hu⟩
    ·refine⟨X5 ?_ g2 g3 w1 ?_,w2⟩
     ·show ¬(arity t.op<0∨t.op=1∨(t.op=26∧ev=false)∨¬(m.length:Int)=arity t.op)
      rw[i4];exact g1
     ·rintro⟨h1,h2⟩
      refine g5 ⟨h1,?_⟩;unfold inner at h2 ⊢;cases ha:t.args with
      |nil=>exact absurd ha hz
      |cons a as=>
       rw[ha]at i5;obtain⟨b,hb,hr⟩:=i5 a rfl;cases m with
       |nil=>cases hb
       |cons c m=>
        simp only[List.head?_cons,bL]at hb;subst hb;have e:=hr.any fun o=>decide (o∈[24,(26:Int)])
        show(a.pre.any fun u=>decide (u.op∈[24,(26:Int)]))=true
        rw[←e];exact h2
    ·exact i1 b hb u hu
   ·rw[Term.zV t,Term.zV]
    refine⟨⟨rfl,rfl,fun h=>?_⟩,?_⟩
    ·exfalso
     unfold isVar at h;have h:=of_decide_eq_true h;have har:arity t.op=0:=by rcases h with h|h<;>rw[h]<;>decide
     simp only[not_or,abh]at g1;have:=g1.2.2.2;rw[har]at this;exact hz (Jm.1 (by omega))
    ·rw[Term.Fx,Term.Fx];exact i2
   ·rw[Term.vU t,Term.vU,←i3];rfl
def Ea(wd:Int):List (ByteArray×Term)→List (ByteArray×Term)→Prop
 | [],[]=>True
 |a::l,b::m=>a.1=b.1∧acQ wd a.2 b.2∧isVar a.2=true∧Ea wd l m
 |_,_=>False
theorem Ea.len{wd:Int}:∀{l m:List (ByteArray×Term)},Ea wd l m→m.length=l.length
 | [],[],_=>rfl
 |a::l,b::m,h=>by simp[Ea.len h.2.2.2]
theorem Ea.lk{wd:Int}(k:ByteArray):∀{l m:List (ByteArray×Term)},Ea wd l m→match lkB l k,lkB m k with
  |none,none=>True
  |some a,some b=>acQ wd a b∧isVar a=true
  |_,_=>False
 | [],[],_=>trivial
 |a::l,b::m,h=>by
  simp only[lkB];rw[←h.1];by_cases hk:k=a.1
  ·simp only[hk,if_true];exact⟨h.2.1,h.2.2.1⟩
  ·simp only[hk,if_false];exact Ea.lk k h.2.2.2
theorem Ea.st{wd:Int}{a b:Term}(hr:acQ wd a b)(hv:isVar a=true):∀{l m:List (ByteArray×Term)},Ea wd l m→Ea wd (stB a l) (stB b m)
 | [],[],_=>⟨hr.2.1.symm,hr,hv,trivial⟩
 |c::l,d::m,h=>by
  simp only[stB];rw[hr.2.1,←h.1];by_cases hk:a.name=c.1
  ·simp only[hk,if_true];exact⟨rfl,hr,hv,h.2.2.2⟩
  ·simp only[hk,if_false];exact⟨h.1,h.2.1,h.2.2.1,Ea.st hr hv h.2.2.2⟩
theorem Ow{wd:Int}{a b:Term}(h:acQ wd a b):isVar b=isVar a:=by unfold isVar;rw[h.1]
theorem rA.bind{wd:Int}:∀{l m:List Term} (i:Nat) {s s':List (ByteArray×Term)} {r:List (ByteArray×Term)},rA wd l m→Ea wd s s' →
  aq (fun _ s u=>G7 s u) i s l=.inl r→∃r',aq (fun _ s u=>G7 s u) i s' m=.inl r'∧r'.length=r.length
 | [],[],i,s,s',r,_,hs,h=>by
  simp only[aq,abX]at h ⊢;subst h;exact⟨s',rfl,hs.len⟩
 |a::l,b::m,i,s,s',r,hl,hs,h=>by
  simp only[aq]at h ⊢;unfold G7 at h ⊢;rw[Ow hl.1,hl.1.2.1];cases hv:isVar a with
  |false=>
   simp only[hv,nh,if_false]at h ⊢;exact rA.bind (i+1) hl.2 hs h
  |true=>
   simp only[hv,if_true]at h ⊢;have hk:=hs.lk a.name;cases h1:lkB s a.name with
   |none=>
    cases h2:lkB s' a.name with
    |some y=>rw[h1,h2]at hk;exact hk.elim
    |none=>
     simp only[h1]at h
     simp only
     exact rA.bind (i+1) hl.2 (Ea.st hl.1 hv hs) h
   |some x=>
    cases h2:lkB s' a.name with
    |none=>rw[h1,h2]at hk;exact hk.elim
    |some y=>
     rw[h1,h2]at hk;simp only[h1]at h
     simp only
     by_cases hc:x.op=a.op∧x.w=a.w
     ·rw[if_pos hc]at h
      rw[if_pos ⟨by rw[hk.1.1,hl.1.1,hc.1],by rw[hk.1.2.2 hk.2,hl.1.2.2 hv,hc.2]⟩]
      exact rA.bind (i+1) hl.2 (Ea.st hl.1 hv hs) h
     ·rw[if_neg hc]at h;cases h
end Go.AE.S
