import Derived.Test.YtpccheodgonkkaaGreatP0
import Derived.Test.YtpccheodgonkkaaGreatIr
set_option maxHeartbeats 0
set_option linter.unusedSimpArgs false
set_option linter.unusedVariables false
namespace Go.AE.S
open Go Go.AE
variable {τ:Tm} {σ:ah} {rd:Option Nat}
theorem gW(o:Int):R P kY [.int .i64 o]=some (.bool (decide (1≤o∧o≤26))):=by
 (rw[QO (aD rfl),p9];simp(disch:=omega)only[bR,↓aa,seval,-List.reduceReplicate,reduceCtorEq,ae])
 by_cases h1:1≤o<;>by_cases h2:o≤26<;>simp(disch:=omega)only[bR,↓aa,seval,-List.reduceReplicate,reduceCtorEq,ae,h1,h2]<;>rfl
theorem yr(o:Int):R P ig [.int .i64 o]=some (.bool (decide (0≤o∧o≤64))):=by
 (rw[Np (aD rfl),oV];simp(disch:=omega)only[bR,↓aa,seval,-List.reduceReplicate,reduceCtorEq,ae])
 by_cases h1:0≤o<;>by_cases h2:o≤64<;>simp(disch:=omega)only[bR,↓aa,seval,-List.reduceReplicate,reduceCtorEq,ae,h1,h2]<;>rfl
def arity(o:Int):Int :=
 if o=19 then 3 else if o=1∨o=2∨o=24∨o=25 then 0 else if o=3∨o=4∨o=21∨o=22∨o=23∨o=26 then 1 else if 1≤o∧o≤26 then 2 else -1
theorem Ci(o:Int):(1≤o∧o≤26)→o=1∨o=2∨o=3∨o=4∨o=5∨o=6∨o=7∨o=8∨o=9∨o=10∨o=11∨o=12∨o=13∨o=14∨o=15∨o=16∨o=17∨o=18∨o=19∨o=20∨o=21∨o=22∨o=23∨o=24∨o=25∨o=26:=by omega
theorem ago{o:Int}(h:¬(1≤o∧o≤26)):¬o=1∧¬o=2∧¬o=3∧¬o=4∧¬o=5∧¬o=6∧¬o=7∧¬o=8∧¬o=9∧¬o=10∧¬o=11∧¬o=12∧¬o=13∧¬o=14∧¬o=15∧¬o=16∧¬o=17∧¬o=18∧¬o=19∧¬o=20∧¬o=21∧¬o=22∧¬o=23∧¬o=24∧¬o=25∧¬o=26:=by omega
theorem aJ(o:Int):R P fu [.int .i64 o]=some (.int .i64 (arity o)):=by
 by_cases h:1≤o∧o≤26
 ·rcases Ci o h with h|h|h|h|h|h|h|h|h|h|h|h|h|h|h|h|h|h|h|h|h|h|h|h|h|h<;>subst h<;>(rw[Ft (aD rfl),nk];simp(disch:=omega)only[bR,↓aa,seval,-List.reduceReplicate,reduceCtorEq,ae])<;>rfl
 ·have hn:=ago h
  (rw[Ft (aD rfl),nk];simp(disch:=omega)only[bR,↓aa,seval,-List.reduceReplicate,reduceCtorEq,ae,hn])
  simp[arity,hn,h]
def okW(w:Int):Bool:=decide (0≤w∧w≤64)
def two(x:Int×Int):PV:=.jY [.int .i64 x.1,.int .i64 x.2]
def rG(o w v:Int):Int×Int:=if ¬(0≤w∧w≤64)∨o=2∧0<w∧(2:Int)^w.toNat≤v then(0,3)else(w,0)
theorem alN{v w:Int}(hv:0≤v)(hw:w≤64):(v.fdiv (2^min w.toNat IntKind.u64.bits)=0)↔v<2^w.toNat:=by
 have h1:min w.toNat IntKind.u64.bits=w.toNat:=Nat.min_eq_left (by show w.toNat≤64;omega)
 have hp:(0:Int)<2^w.toNat:=Int.pow_pos (by omega)
 rw[h1,Int.fdiv_eq_ediv_of_nonneg _ (by omega)]
 constructor
 ·intro h
  have:=Int.emod_lt_of_pos v hp;have h2:=Int.mul_ediv_add_emod v (2^w.toNat);rw[h]at h2;omega
 ·intro h
  exact Int.ediv_eq_zero_of_lt hv h
theorem SI(o w v:Int)(hv:0≤v∧v≤18446744073709551615):R P mK [.int .i64 o,.int .i64 w,.int .u64 v]=some (two (rG o w v)):=by
 (rw[Sz (aD rfl),rR];simp(disch:=omega)only[bR,↓aa,seval,-List.reduceReplicate,reduceCtorEq,ae,ym,yr])
 by_cases h1:0≤w∧w≤64
 ·by_cases h2:o=2
  ·by_cases h3:0<w
   ·have hz:=alN hv.1 h1.2
    by_cases h4:v<2^w.toNat
    ·simp(disch:=omega)only[bR,↓aa,seval,-List.reduceReplicate,reduceCtorEq,ae,h1,h2,h3,JV,hz,h4]
     simp[rG,h1,h2,two,Int.not_le.2 h4]
    ·simp(disch:=omega)only[bR,↓aa,seval,-List.reduceReplicate,reduceCtorEq,ae,h1,h2,h3,JV,hz,h4]
     simp[rG,h1,h2,h3,two,Int.not_lt.1 h4]
   ·simp(disch:=omega)only[bR,↓aa,seval,-List.reduceReplicate,reduceCtorEq,ae,h1,h2,h3]
    simp[rG,h1,h2,two,h3]
  ·simp(disch:=omega)only[bR,↓aa,seval,-List.reduceReplicate,reduceCtorEq,ae,h1,h2]
   simp[rG,h1,h2,two]
 ·simp(disch:=omega)only[bR,↓aa,seval,-List.reduceReplicate,reduceCtorEq,ae,h1]
  simp[rG,h1,two]
def q5(o w v f:Int):Int×Int:=if w<1∨64<w∨f<1∨(o=21∧(f<w∨f-w<v))∨(¬o=21∧w<f)then(0,3)else(w,0)
theorem Tg{f w:Int}(hf:f≤9223372036854775807)(h1:1≤w)(h2:w≤f):IntKind.u64.wrap (IntKind.i64.wrap (f-w))=f-w:=by
 rw[IntWalk.i64_in _ (by omega),IntWalk.u64_in _ (by omega)]
theorem KY(o w v f:Int)(hf : -9223372036854775808≤f∧f≤9223372036854775807):R P iM [.int .i64 o,.int .i64 w,.int .u64 v,.int .i64 f]=some (two (q5 o w v f)):=by
 (rw[KR (aD rfl),np];simp(disch:=omega)only[bR,↓aa,seval,-List.reduceReplicate,reduceCtorEq,ae])
 by_cases h1:w<1
 ·simp(disch:=omega)only[bR,↓aa,seval,-List.reduceReplicate,reduceCtorEq,ae,h1]
  simp[q5,h1,two]
 by_cases h2:64<w
 ·simp(disch:=omega)only[bR,↓aa,seval,-List.reduceReplicate,reduceCtorEq,ae,h1,h2]
  simp[q5,h2,two]
 by_cases h3:f<1
 ·simp(disch:=omega)only[bR,↓aa,seval,-List.reduceReplicate,reduceCtorEq,ae,h1,h2,h3]
  simp[q5,h3,two]
 by_cases h4:o=21
 ·by_cases h5:f<w
  ·simp(disch:=omega)only[bR,↓aa,seval,-List.reduceReplicate,reduceCtorEq,ae,h1,h2,h3,h4,h5]
   simp[q5,h4,h5,two]
  ·have hc:=Tg (f:=f) (w:=w) hf.2 (by omega) (by omega)
   by_cases h6:f-w<v
   ·simp(disch:=omega)only[bR,↓aa,seval,-List.reduceReplicate,reduceCtorEq,ae,h1,h2,h3,h4,h5,hc,h6]
    simp[q5,h4,h6,two]
   ·simp(disch:=omega)only[bR,↓aa,seval,-List.reduceReplicate,reduceCtorEq,ae,h1,h2,h3,h4,h5,hc,h6]
    simp[q5,h1,h2,h3,h4,h5,h6,two]
 ·by_cases h5:w<f
  ·simp(disch:=omega)only[bR,↓aa,seval,-List.reduceReplicate,reduceCtorEq,ae,h1,h2,h3,h4,h5]
   simp[q5,h4,h5,two]
  ·simp(disch:=omega)only[bR,↓aa,seval,-List.reduceReplicate,reduceCtorEq,ae,h1,h2,h3,h4,h5]
   simp[q5,h1,h2,h3,h4,h5,two]
theorem sv(c:Bool)(r:Int):R P eI [.bool c,.int .i64 r]=some (two (if c then(r,0)else(0,3))):=by
 cases c<;>(rw[No (aD rfl),oU];simp(disch:=omega)only[bR,↓aa,seval,-List.reduceReplicate,reduceCtorEq,ae])<;>rfl
def dG(n:Int):List PV:=[.int .i64 n]
def bM(o w v:Int)(as:List Int):Int×Int :=
 if arity o<0∨¬(as.length:Int)=arity o then(0,4)
 else if as.all okW=false then(0,3)
 else if arity o=0 then rG o w v
 else if o=21∨o=22∨o=23 then q5 o w v (as.getD 0 0)
 else if arity o=1 then(as.getD 0 0,0)
 else if o=20 then if 1≤as.getD 0 0∧1≤as.getD 1 0∧as.getD 0 0+as.getD 1 0≤64 then(as.getD 0 0+as.getD 1 0,0)else(0,3)
 else if o=19 then if as.getD 0 0=1∧as.getD 1 0=as.getD 2 0 then(as.getD 1 0,0)else(0,3)
 else if as.getD 0 0=as.getD 1 0 then(if o=16∨o=17∨o=18 then(1,0)else(as.getD 0 0,0))else(0,3)
abbrev H9(o w v:Int)(as:List Int)(i:Int):List (Nat×AV):=[(0,.p (.int .i64 o)),(1,.p (.int .i64 w)),(2,.p (.int .u64 v)),(3,.p (.aO (as.map dG))),(22,.p (.aO (as.map dG))),(23,.p (.int .i64 as.length)),(24,.p (.int .i64 i))]
theorem aw{α β:Type}{f:α→β}{l:List α}{i:Nat}{a:α}(h:l[i]?=some a):(l.map f)[i]?=some (f a):=by simp[h]
theorem Ph(q:Int→Bool):∀(as:List Int) (i:Nat),aq (S:=Unit) (T:=Unit) (fun _ _ a=>if q a=true then .inl ()else .inr ()) i () as=if as.all q=true then .inl ()else .inr ()
 | [],i=>rfl
 |a::as,i=>by
  cases h:q a<;>simp[aq,h,Ph q as]
def aii(a b:Nat)(x y:PV)(σ:ah)(r:Ex×St):Prop:=r.1=.ret∧r.2.τ.get a=.p x∧r.2.τ.get b=.p y∧r.2.σ=σ
theorem PF(o w v:Int)(as:List Int)(hl:as.length≤1000000):if as.all okW=true then
   al P sf (H9 o w v as 0) σ 144 rd=some (.exit 0,⟨ef (tm (H9 o w v as as.length)) 25 (.p (.bool false)),σ,144,rd⟩)
  else ∃r,al P sf (H9 o w v as 0) σ 144 rd=some r∧aii 8 9 (.int .i64 0) (.int .i64 3) σ r:=by
 have h:=eD (P:=P) (nt:=144) (rd:=rd) (lv:=[0,1,2,3,22,23,24]) (b:=oR) (x:=0) (as:=as) (fun i (_:Unit)=>H9 o w v as i) (fun _=>σ) (fun i _ a=>if okW a=true then .inl ()else .inr ())
  (fun _=>⟨ef (tm (H9 o w v as as.length)) 25 (.p (.bool false)),σ,144,rd⟩) (fun _=>aii 8 9 (.int .i64 0) (.int .i64 3) σ) (fun _ _=>True)
  (fun i a s ha hi hs=>by
   refine⟨fun _ _=>trivial,?_⟩
   have hlt:((i:Int)<as.length)=True:=by simpa using hi
   by_cases hc:0≤a∧a≤64
   ·simp only[oR]
    simp(disch:=omega)only[bR,↓aa,seval,-List.reduceReplicate,reduceCtorEq,ae,hlt,aH (es:=1) (aw (f:=dG) ha) rfl,dG,ym,yr,okW,hc]
   ·simp only[oR]
    simp(disch:=omega)only[bR,↓aa,seval,-List.reduceReplicate,reduceCtorEq,ae,hlt,aH (es:=1) (aw (f:=dG) ha) rfl,dG,ym,yr,okW,hc,aii]) (fun s hs=>by
   simp only[oR];simp(disch:=omega)only[bR,↓aa,seval,-List.reduceReplicate,reduceCtorEq,ae,lH]) (fun i s=>rfl) () trivial
 rw[Ph]at h;exact(H5 h :)
theorem sE{o:Int}(h:¬(1≤o∧o≤26)):arity o = -1:=by
 have hn:=ago h;simp[arity,hn,h]
theorem CV{o:Int}(h:1≤o∧o≤26):0≤arity o∧arity o≤3:=by
 rcases Ci o h with h|h|h|h|h|h|h|h|h|h|h|h|h|h|h|h|h|h|h|h|h|h|h|h|h|h<;>subst h<;>decide
theorem atJ{o:Int}(h:1≤o∧o≤26)(h0:arity o=0):o=1∨o=2∨o=24∨o=25:=by
 rcases Ci o h with h'|h'|h'|h'|h'|h'|h'|h'|h'|h'|h'|h'|h'|h'|h'|h'|h'|h'|h'|h'|h'|h'|h'|h'|h'|h'<;>subst h'<;>first|omega|exact absurd h0 (by decide)
theorem atK{o:Int}(h:1≤o∧o≤26)(h0:arity o=1):o=3∨o=4∨o=26∨o=21∨o=22∨o=23:=by
 rcases Ci o h with h'|h'|h'|h'|h'|h'|h'|h'|h'|h'|h'|h'|h'|h'|h'|h'|h'|h'|h'|h'|h'|h'|h'|h'|h'|h'<;>subst h'<;>first|omega|exact absurd h0 (by decide)
theorem atM{o:Int}(h:1≤o∧o≤26)(h0:arity o=3):o=19:=by
 rcases Ci o h with h'|h'|h'|h'|h'|h'|h'|h'|h'|h'|h'|h'|h'|h'|h'|h'|h'|h'|h'|h'|h'|h'|h'|h'|h'|h'<;>subst h'<;>first|omega|exact absurd h0 (by decide)
theorem atL{o:Int}(h:1≤o∧o≤26)(h0:arity o=2):¬o=1∧¬o=2∧¬o=24∧¬o=25∧¬o=3∧¬o=4∧¬o=26∧¬o=21∧¬o=22∧¬o=23∧¬o=19:=by
 refine⟨?_,?_,?_,?_,?_,?_,?_,?_,?_,?_,?_⟩<;>(rintro rfl;exact absurd h0 (by decide))
theorem agK{a b:Int}(h:okW a=true)(h':okW b=true):IntKind.i64.wrap (a+b)=a+b:=by
 simp only[okW,decide_eq_true_eq]at h h';exact IntWalk.i64_in _ (by omega)
theorem Aq(o w v:Int)(as:List Int)(hl:as.length≤1000000)(hv:0≤v∧v≤18446744073709551615) :
  R P gH [.int .i64 o,.int .i64 w,.int .u64 v,.aO (as.map dG)]=some (two (bM o w v as)):=by
 by_cases hk:1≤o∧o≤26
 rotate_left
 ·(rw[gV (aD rfl),dJ];simp(disch:=omega)only[bR,↓aa,seval,-List.reduceReplicate,reduceCtorEq,ae,gT,gW,hk,aI,aJ])
  simp[bM,sE hk,two]
 by_cases hn:(as.length:Int)=arity o
 rotate_left
 ·(rw[gV (aD rfl),dJ];simp(disch:=omega)only[bR,↓aa,seval,-List.reduceReplicate,reduceCtorEq,ae,gT,gW,hk,aI,aJ,aR,hn])
  simp[bM,hn,two]
 have hn':=eq_true hn;have hL:=PF (σ:=[]) (rd:=none) o w v as hl;have har:=CV hk;by_cases ha:as.all okW=true
 rotate_left
 ·rw[if_neg ha]at hL
  obtain⟨⟨e,τ',σ',nt',rd'⟩,h1,h2,h3,h4,h5⟩:=hL
  simp only at h2 h3 h4 h5
  subst h2;subst h5
  (rw[gV (aD rfl),dJ];simp(disch:=omega)only[bR,↓aa,seval,-List.reduceReplicate,reduceCtorEq,ae,gT,gW,hk,aI,aJ,aR,hn',jL])
  simp(disch:=omega)only[bR,↓aa,seval,-List.reduceReplicate,reduceCtorEq,ae,h1,h3,h4]
  simp[bM,hn,ha,two,show ¬arity o<0 by omega]
 rw[if_pos ha]at hL;have ha0:∀a:Int,a∈as→okW a=true:=by simpa using ha
 have g:∀n:Nat,n<as.length→∃a,as[n]?=some a∧okW a=true:=fun n h=>⟨as[n],o8 h,ha0 _ (aba h)⟩
 have hspec:¬arity o<0:=by omega
 by_cases h0:arity o=0
 ·rcases atJ hk h0 with h|h|h|h<;>subst h<;>(rw[gV (aD rfl),dJ];simp(disch:=omega)only[bR,↓aa,seval,-List.reduceReplicate,reduceCtorEq,ae,gT,gW,hk,aI,aJ,aR,hn',jL,hL,Sr,SI _ _ _ hv,two])<;>simp[bM,hn,ha,two,h0]
 by_cases h1:arity o=1
 ·obtain⟨a,ga,gb⟩:=g 0 (by omega)
  have ab : -9223372036854775808≤a∧a≤9223372036854775807:=by simp only[okW,decide_eq_true_eq]at gb;omega
  have i0:=MH (k:=.i64) (σ:=[]) (es:=1) (aw (f:=dG) ga) rfl;have gd:as.getD 0 0=a:=by simp[List.getD,ga]
  rcases atK hk h1 with h|h|h|h|h|h<;>subst h<;>(rw[gV (aD rfl),dJ];simp(disch:=omega)only[bR,↓aa,seval,-List.reduceReplicate,reduceCtorEq,ae,gT,gW,hk,aI,aJ,aR,hn',jL,hL,KN,KY _ _ _ _ ab,two,i0,dG])<;>simp[bM,hn,ha,two,h1,ga,gd]
 by_cases h3:arity o=3
 ·obtain⟨a,ga,_⟩:=g 0 (by omega)
  obtain⟨b,gb,_⟩:=g 1 (by omega)
  obtain⟨c,gc,_⟩:=g 2 (by omega)
  have i0:=MH (k:=.i64) (σ:=[]) (es:=1) (aw (f:=dG) ga) rfl;have i1:=agD (k:=.i64) (σ:=[]) (es:=1) (aw (f:=dG) gb) rfl;have i2:=apS (k:=.i64) (σ:=[]) (es:=1) (aw (f:=dG) gc) rfl;have da:as.getD 0 0=a:=by simp[List.getD,ga]
  have db:as.getD 1 0=b:=by simp[List.getD,gb]
  have dc:as.getD 2 0=c:=by simp[List.getD,gc]
  have e:=atM hk h3;subst e;by_cases c1:a=1<;>by_cases c2:b=c<;>(rw[gV (aD rfl),dJ];simp(disch:=omega)only[bR,↓aa,seval,-List.reduceReplicate,reduceCtorEq,ae,gT,gW,hk,aI,aJ,aR,hn',jL,hL,su,sv,two,i0,i1,i2,dG,eq_true c1,eq_true c2,c1,c2])<;>simp[bM,hn,ha,two,h3,ga,gb,gc,c1,c2]
 have h2:arity o=2:=by omega
 obtain⟨a,ga,oa⟩:=g 0 (by omega)
 obtain⟨b,gb,ob⟩:=g 1 (by omega)
 have i0:=MH (k:=.i64) (σ:=[]) (es:=1) (aw (f:=dG) ga) rfl;have i1:=agD (k:=.i64) (σ:=[]) (es:=1) (aw (f:=dG) gb) rfl;have da:as.getD 0 0=a:=by simp[List.getD,ga]
 have db:as.getD 1 0=b:=by simp[List.getD,gb]
 have hg:=atL hk h2;have hs:=agK oa ob;by_cases h20:o=20
 ·subst h20
  by_cases c1:1≤a<;>by_cases c2:1≤b<;>by_cases c3:a+b≤64<;>(rw[gV (aD rfl),dJ];simp(disch:=omega)only[bR,↓aa,seval,-List.reduceReplicate,reduceCtorEq,ae,gT,gW,hk,aI,aJ,aR,hn',jL,hL,su,sv,two,i0,i1,dG,hs,c1,c2,c3])<;>simp[bM,hn,ha,two,h2,ga,gb,c1,c2,c3]
 by_cases h16:o=16∨o=17∨o=18
 ·rcases h16 with h|h|h<;>subst h<;>by_cases c1:a=b<;>(rw[gV (aD rfl),dJ];simp(disch:=omega)only[bR,↓aa,seval,-List.reduceReplicate,reduceCtorEq,ae,gT,gW,hk,aI,aJ,aR,hn',jL,hL,su,sv,two,i0,i1,dG,eq_true c1,c1])<;>simp[bM,hn,ha,two,h2,ga,gb,c1]
 ·have h16':=not_or.1 h16
  have h17':=not_or.1 h16'.2;by_cases c1:a=b<;>(rw[gV (aD rfl),dJ];simp(disch:=omega)only[bR,↓aa,seval,-List.reduceReplicate,reduceCtorEq,ae,gT,gW,hk,aI,aJ,aR,hn',jL,hL,su,sv,two,i0,i1,dG,eq_true c1,c1,hg,h20,h16'.1,h17'.1,h17'.2])<;>simp[bM,hn,ha,two,h2,ga,gb,c1,hg,h20,h16]
theorem Yi(o:Int):∀(as:List Int) (i:Nat),aq (S:=Unit) (T:=Unit) (fun _ _ a=>if a=o then .inr ()else .inl ()) i () as=if o∈as then .inr ()else .inl ()
 | [],i=>rfl
 |a::as,i=>by
  by_cases h:a=o
  ·simp[aq,h]
  ·have h':¬o=a:=fun e=>h e.symm
   simp[aq,h,h',Yi o as]
def b7(a:Nat)(x:PV)(σ:ah)(r:Ex×St):Prop:=r.1=.ret∧r.2.τ.get a=.p x∧r.2.σ=σ
abbrev ajv(o:Int)(as:List Int)(i:Int):List (Nat×AV):=[(0,.p (.int .i64 o)),(1,.p (.aO (as.map dG))),(7,.p (.int .i64 as.length)),(8,.p (.int .i64 i))]
theorem akt(o:Int)(as:List Int)(hl:as.length≤1000000):if o∈as then
   ∃r,al P FN (ajv o as 0) σ 18 rd=some r∧b7 4 (.bool true) σ r
  else al P FN (ajv o as 0) σ 18 rd=some (.exit 0,⟨ef (tm (ajv o as as.length)) 9 (.p (.bool false)),σ,18,rd⟩):=by
 have h:=eD (P:=P) (nt:=18) (rd:=rd) (lv:=[0,1,7,8]) (b:=FK) (x:=0) (as:=as) (fun i (_:Unit)=>ajv o as i) (fun _=>σ) (fun i _ a=>if a=o then .inr ()else .inl ())
  (fun _=>⟨ef (tm (ajv o as as.length)) 9 (.p (.bool false)),σ,18,rd⟩) (fun _=>b7 4 (.bool true) σ) (fun _ _=>True)
  (fun i a s ha hi hs=>by
   refine⟨fun _ _=>trivial,?_⟩
   have hlt:((i:Int)<as.length)=True:=by simpa using hi
   by_cases hc:a=o<;>simp only[FK]<;>simp(disch:=omega)only[bR,↓aa,seval,-List.reduceReplicate,reduceCtorEq,ae,hlt,aH (es:=1) (aw (f:=dG) ha) rfl,dG,eq_true hc,hc,b7]) (fun s hs=>by
   simp only[FK];simp(disch:=omega)only[bR,↓aa,seval,-List.reduceReplicate,reduceCtorEq,ae,lH]) (fun i s=>rfl) () trivial
 rw[Yi]at h;exact(afT h :)
theorem ZD(o:Int)(as:List Int)(hl:as.length≤1000000):R P xS [.int .i64 o,.aO (as.map dG)]=some (.bool (decide (o∈as))):=by
 have h:=akt (σ:=[]) (rd:=none) o as hl;by_cases hc:o∈as
 ·rw[if_pos hc]at h
  obtain⟨⟨e,τ',σ',nt',rd'⟩,h1,h2,h3,h4⟩:=h
  simp only at h2 h3 h4
  subst h2;subst h4
  (rw[Zd (aD rfl),BW];simp(disch:=omega)only[bR,↓aa,seval,-List.reduceReplicate,reduceCtorEq,ae,aR,TH,h1,h3])
  simp[hc]
 ·rw[if_neg hc]at h
  (rw[Zd (aD rfl),BW];simp(disch:=omega)only[bR,↓aa,seval,-List.reduceReplicate,reduceCtorEq,ae,aR,TH,h])
  simp[hc]
theorem jR(o:Int):R P qB [.int .i64 o]=some (.bool (decide (o=1∨o=2∨o=24∨o=25))):=by
 have h:=ZD o [1,2,24,25] (by decide)
 simp only[rK,B0,dG]at h
 (rw[aeQ (aD rfl),zy];simp(disch:=omega)only[bR,↓aa,seval,-List.reduceReplicate,reduceCtorEq,ae,Js,h])
 simp
theorem Bt(o:Int):R P l9 [.int .i64 o]=some (.bool (decide (0≤o∧o≤64))):=by
 (rw[Zf (aD rfl),xD];simp(disch:=omega)only[bR,↓aa,seval,-List.reduceReplicate,reduceCtorEq,ae])
 by_cases h1:0≤o<;>by_cases h2:o≤64<;>simp(disch:=omega)only[bR,↓aa,seval,-List.reduceReplicate,reduceCtorEq,ae,h1,h2]<;>rfl
theorem br(o:Int):R P ku [.int .i64 o]=some (.int .i64 (arity o)):=by
 have h:=ZD o [3,4,21,22,23,26] (by decide)
 simp only[rK,B0,dG]at h;by_cases hk:1≤o∧o≤26
 ·rcases Ci o hk with h'|h'|h'|h'|h'|h'|h'|h'|h'|h'|h'|h'|h'|h'|h'|h'|h'|h'|h'|h'|h'|h'|h'|h'|h'|h'<;>subst h'<;>(rw[Fu (aD rfl),qd];simp(disch:=omega)only[bR,↓aa,seval,-List.reduceReplicate,reduceCtorEq,ae,Js,jN,jR,h,pU,ab9])<;>rfl
 ·by_cases h1:o<1
  ·(rw[Fu (aD rfl),qd];simp(disch:=omega)only[bR,↓aa,seval,-List.reduceReplicate,reduceCtorEq,ae,Js,jN,jR,h,h1])
   simp[sE hk]
  ·have h2:26<o:=by omega
   (rw[Fu (aD rfl),qd];simp(disch:=omega)only[bR,↓aa,seval,-List.reduceReplicate,reduceCtorEq,ae,Js,jN,jR,h,h1,h2])
   simp[sE hk]
theorem aoy{w:Int}(h1:0<w)(h2:w<64):IntKind.u64.wrap (1*2^min w.toNat IntKind.u64.bits)=2^w.toNat:=by
 have e:min w.toNat IntKind.u64.bits=w.toNat:=Nat.min_eq_left (by show w.toNat≤64;omega)
 rw[e,Int.one_mul];have hp:(0:Int)<2^w.toNat:=Int.pow_pos (by omega)
 have hlt:(2:Int)^w.toNat≤2^63:=by
  have:=aa7 (show 0<2 by omega) (show w.toNat≤63 by omega)
  exact_mod_cast this
 exact IntWalk.u64_in _ ⟨by omega,by omega⟩
theorem asc{w:Int}(h:0≤w)(h':w≤18446744073709551615):IntKind.u64.wrap w=w:=IntWalk.u64_in _ ⟨h,h'⟩
theorem ae8(o w v:Int)(hv:0≤v∧v≤18446744073709551615):R P td [.int .i64 o,.int .i64 w,.int .u64 v]=some (two (rG o w v)):=by
 (rw[aeR (aD rfl),zA];simp(disch:=omega)only[bR,↓aa,seval,-List.reduceReplicate,reduceCtorEq,ae,Bl,Bt])
 by_cases h1:0≤w∧w≤64
 rotate_left
 ·simp(disch:=omega)only[bR,↓aa,seval,-List.reduceReplicate,reduceCtorEq,ae,h1]
  simp[rG,h1,two]
 by_cases h2:o=2
 rotate_left
 ·simp(disch:=omega)only[bR,↓aa,seval,-List.reduceReplicate,reduceCtorEq,ae,h1,h2]
  simp[rG,h1,h2,two]
 by_cases h3:0<w
 rotate_left
 ·simp(disch:=omega)only[bR,↓aa,seval,-List.reduceReplicate,reduceCtorEq,ae,h1,h2,h3]
  simp[rG,h1,h2,two,h3]
 by_cases h4:w<64
 ·have hu:=asc (w:=w) (by omega) (by omega)
  have hs:=aoy h3 h4;by_cases h5:(2:Int)^w.toNat≤v
  ·simp(disch:=omega)only[bR,↓aa,seval,-List.reduceReplicate,reduceCtorEq,ae,h1,h2,h3,h4,hu,amd,hs,h5]
   simp[rG,h1,h2,h3,two,h5]
  ·simp(disch:=omega)only[bR,↓aa,seval,-List.reduceReplicate,reduceCtorEq,ae,h1,h2,h3,h4,hu,amd,hs,h5]
   simp[rG,h1,h2,h3,two,h5]
 ·have e:w=64:=by omega
  subst e;simp(disch:=omega)only[bR,↓aa,seval,-List.reduceReplicate,reduceCtorEq,ae,h1,h2,h3,h4]
  have:¬(2:Int)^(64:Int).toNat≤v:=by
   have:(2:Int)^(64:Int).toNat=18446744073709551616:=by decide
   omega
  simp[rG,h2,two,show ¬18446744073709551616≤v by omega]
theorem ZF(o w v f:Int)(hf : -9223372036854775808≤f∧f≤9223372036854775807):R P qD [.int .i64 o,.int .i64 w,.int .u64 v,.int .i64 f]=some (two (q5 o w v f)):=by
 (rw[Ze (aD rfl),xC];simp(disch:=omega)only[bR,↓aa,seval,-List.reduceReplicate,reduceCtorEq,ae,Bl,Bt])
 by_cases h0:0≤w∧w≤64
 rotate_left
 ·simp(disch:=omega)only[bR,↓aa,seval,-List.reduceReplicate,reduceCtorEq,ae,h0]
  rw[q5,if_pos (by omega)];rfl
 by_cases h1:w<1
 ·simp(disch:=omega)only[bR,↓aa,seval,-List.reduceReplicate,reduceCtorEq,ae,h0,h1]
  simp[q5,h1,two]
 by_cases h3:f<1
 ·simp(disch:=omega)only[bR,↓aa,seval,-List.reduceReplicate,reduceCtorEq,ae,h0,h1,h3]
  simp[q5,h3,two]
 have h2:¬64<w:=by omega
 by_cases h4:o=21
 ·by_cases h5:f<w
  ·simp(disch:=omega)only[bR,↓aa,seval,-List.reduceReplicate,reduceCtorEq,ae,h0,h1,h3,h4,h5]
   simp[q5,h4,h5,two]
  ·have hc:=Tg (f:=f) (w:=w) hf.2 (by omega) (by omega)
   by_cases h6:f-w<v
   ·simp(disch:=omega)only[bR,↓aa,seval,-List.reduceReplicate,reduceCtorEq,ae,h0,h1,h3,h4,h5,hc,h6]
    simp[q5,h4,h6,two]
   ·simp(disch:=omega)only[bR,↓aa,seval,-List.reduceReplicate,reduceCtorEq,ae,h0,h1,h3,h4,h5,hc,h6]
    simp[q5,h1,h2,h3,h4,h5,h6,two]
 ·by_cases h5:w<f
  ·simp(disch:=omega)only[bR,↓aa,seval,-List.reduceReplicate,reduceCtorEq,ae,h0,h1,h3,h4,h5]
   simp[q5,h4,h5,two]
  ·simp(disch:=omega)only[bR,↓aa,seval,-List.reduceReplicate,reduceCtorEq,ae,h0,h1,h3,h4,h5]
   simp[q5,h1,h2,h3,h4,h5,two]
abbrev El(o w v:Int)(as:List Int)(i:Int):List (Nat×AV):=[(0,.p (.int .i64 o)),(1,.p (.int .i64 w)),(2,.p (.int .u64 v)),(3,.p (.aO (as.map dG))),(22,.p (.int .i64 as.length)),(23,.p (.int .i64 i))]
theorem YC(o w v:Int)(as:List Int)(hl:as.length≤1000000):if as.all okW=true then
   al P yG (El o w v as 0) σ 133 rd=some (.exit 0,⟨ef (tm (El o w v as as.length)) 24 (.p (.bool false)),σ,133,rd⟩)
  else ∃r,al P yG (El o w v as 0) σ 133 rd=some r∧aii 8 9 (.int .i64 0) (.int .i64 3) σ r:=by
 have h:=eD (P:=P) (nt:=133) (rd:=rd) (lv:=[0,1,2,3,22,23]) (b:=uq) (x:=0) (as:=as) (fun i (_:Unit)=>El o w v as i) (fun _=>σ) (fun i _ a=>if okW a=true then .inl ()else .inr ())
  (fun _=>⟨ef (tm (El o w v as as.length)) 24 (.p (.bool false)),σ,133,rd⟩) (fun _=>aii 8 9 (.int .i64 0) (.int .i64 3) σ) (fun _ _=>True)
  (fun i a s ha hi hs=>by
   refine⟨fun _ _=>trivial,?_⟩
   have hlt:((i:Int)<as.length)=True:=by simpa using hi
   by_cases hc:0≤a∧a≤64
   ·simp only[uq]
    simp(disch:=omega)only[bR,↓aa,seval,-List.reduceReplicate,reduceCtorEq,ae,hlt,aH (es:=1) (aw (f:=dG) ha) rfl,dG,Bl,Bt,okW,hc]
   ·simp only[uq]
    simp(disch:=omega)only[bR,↓aa,seval,-List.reduceReplicate,reduceCtorEq,ae,hlt,aH (es:=1) (aw (f:=dG) ha) rfl,dG,Bl,Bt,okW,hc,aii]) (fun s hs=>by
   simp only[uq];simp(disch:=omega)only[bR,↓aa,seval,-List.reduceReplicate,reduceCtorEq,ae,lH]) (fun i s=>rfl) () trivial
 rw[Ph]at h;exact(H5 h :)
theorem ZE(o w v:Int)(as:List Int)(hl:as.length≤1000000)(hv:0≤v∧v≤18446744073709551615) :
  R P qC [.int .i64 o,.int .i64 w,.int .u64 v,.aO (as.map dG)]=some (two (bM o w v as)):=by
 by_cases hk:1≤o∧o≤26
 rotate_left
 ·(rw[iw (aD rfl),eo];simp(disch:=omega)only[bR,↓aa,seval,-List.reduceReplicate,reduceCtorEq,ae,sE hk,bq,br])
  simp[bM,sE hk,two]
 have har:=CV hk;have hneg:¬arity o<0:=by omega
 by_cases hn:(as.length:Int)=arity o
 rotate_left
 ·(rw[iw (aD rfl),eo];simp(disch:=omega)only[bR,↓aa,seval,-List.reduceReplicate,reduceCtorEq,ae,bq,br,hneg,aR,hn])
  simp[bM,hn,two]
 have hn':=eq_true hn;have hL:=YC (σ:=[]) (rd:=none) o w v as hl;by_cases ha:as.all okW=true
 rotate_left
 ·rw[if_neg ha]at hL
  obtain⟨⟨e,τ',σ',nt',rd'⟩,h1,h2,h3,h4,h5⟩:=hL
  simp only at h2 h3 h4 h5
  subst h2;subst h5
  (rw[iw (aD rfl),eo];simp(disch:=omega)only[bR,↓aa,seval,-List.reduceReplicate,reduceCtorEq,ae,bq,br,hneg,aR,hn',jb])
  simp(disch:=omega)only[bR,↓aa,seval,-List.reduceReplicate,reduceCtorEq,ae,h1,h3,h4]
  simp[bM,hn,ha,two,hneg]
 rw[if_pos ha]at hL;have ha0:∀a:Int,a∈as→okW a=true:=by simpa using ha
 have g:∀n:Nat,n<as.length→∃a,as[n]?=some a∧okW a=true:=fun n h=>⟨as[n],o8 h,ha0 _ (aba h)⟩
 by_cases h0:arity o=0
 ·rcases atJ hk h0 with h|h|h|h<;>subst h<;>(rw[iw (aD rfl),eo];simp(disch:=omega)only[bR,↓aa,seval,-List.reduceReplicate,reduceCtorEq,ae,bq,br,hneg,aR,hn',jb,hL,jN,jR,aeD,ae8 _ _ _ hv,two])<;>simp[bM,hn,ha,two,h0]
 by_cases h1:arity o=1
 ·obtain⟨a,ga,gb⟩:=g 0 (by omega)
  have ab : -9223372036854775808≤a∧a≤9223372036854775807:=by simp only[okW,decide_eq_true_eq]at gb;omega
  have i0:=MH (k:=.i64) (σ:=[]) (es:=1) (aw (f:=dG) ga) rfl;have l1:=eq_true (show(as.length:Int)=1 by omega)
  rcases atK hk h1 with h|h|h|h|h|h<;>subst h<;>(rw[iw (aD rfl),eo];simp(disch:=omega)only[bR,↓aa,seval,-List.reduceReplicate,reduceCtorEq,ae,bq,br,hneg,aR,hn',jb,hL,jN,jR,Y5,ZF _ _ _ _ ab,two,i0,dG,l1])<;>simp[bM,hn,ha,two,h1,ga]
 by_cases h3:arity o=3
 ·obtain⟨a,ga,_⟩:=g 0 (by omega)
  obtain⟨b,gb,_⟩:=g 1 (by omega)
  obtain⟨c,gc,_⟩:=g 2 (by omega)
  have i0:=MH (k:=.i64) (σ:=[]) (es:=1) (aw (f:=dG) ga) rfl;have i1:=agD (k:=.i64) (σ:=[]) (es:=1) (aw (f:=dG) gb) rfl;have i2:=apS (k:=.i64) (σ:=[]) (es:=1) (aw (f:=dG) gc) rfl;have l1:=eq_false (show ¬(as.length:Int)=1 by omega)
  have e:=atM hk h3;subst e;by_cases c1:a=1<;>by_cases c2:b=c<;>(rw[iw (aD rfl),eo];simp(disch:=omega)only[bR,↓aa,seval,-List.reduceReplicate,reduceCtorEq,ae,bq,br,hneg,aR,hn',jb,hL,jN,jR,two,i0,i1,i2,dG,l1,eq_true c1,eq_true c2,c1,c2])<;>simp[bM,hn,ha,two,h3,ga,gb,gc,c1,c2]
 have h2:arity o=2:=by omega
 obtain⟨a,ga,oa⟩:=g 0 (by omega)
 obtain⟨b,gb,ob⟩:=g 1 (by omega)
 have i0:=MH (k:=.i64) (σ:=[]) (es:=1) (aw (f:=dG) ga) rfl;have i1:=agD (k:=.i64) (σ:=[]) (es:=1) (aw (f:=dG) gb) rfl;have l1:=eq_false (show ¬(as.length:Int)=1 by omega)
 have hg:=atL hk h2;have hs:=agK oa ob;by_cases h20:o=20
 ·subst h20
  by_cases c1:a<1
  ·(rw[iw (aD rfl),eo];simp(disch:=omega)only[bR,↓aa,seval,-List.reduceReplicate,reduceCtorEq,ae,bq,br,hneg,aR,hn',jb,hL,jN,jR,two,i0,i1,dG,hs,l1,c1])
   simp[bM,hn,ha,two,h2,ga,gb,c1,show ¬1≤a by omega]
  by_cases c2:b<1
  ·(rw[iw (aD rfl),eo];simp(disch:=omega)only[bR,↓aa,seval,-List.reduceReplicate,reduceCtorEq,ae,bq,br,hneg,aR,hn',jb,hL,jN,jR,two,i0,i1,dG,hs,l1,c1,c2])
   simp[bM,hn,ha,two,h2,ga,gb,c1,show ¬1≤b by omega]
  by_cases c3:64<a+b
  ·(rw[iw (aD rfl),eo];simp(disch:=omega)only[bR,↓aa,seval,-List.reduceReplicate,reduceCtorEq,ae,bq,br,hneg,aR,hn',jb,hL,jN,jR,two,i0,i1,dG,hs,l1,c1,c2,c3])
   simp[bM,hn,ha,two,h2,ga,gb,show ¬a+b≤64 by omega]
  ·(rw[iw (aD rfl),eo];simp(disch:=omega)only[bR,↓aa,seval,-List.reduceReplicate,reduceCtorEq,ae,bq,br,hneg,aR,hn',jb,hL,jN,jR,two,i0,i1,dG,hs,l1,c1,c2,c3])
   simp[bM,hn,ha,two,h2,ga,gb,show 1≤a by omega,show 1≤b by omega,show a+b≤64 by omega]
 by_cases h16:o=16∨o=17∨o=18
 ·rcases h16 with h|h|h<;>subst h<;>by_cases c1:a=b<;>(rw[iw (aD rfl),eo];simp(disch:=omega)only[bR,↓aa,seval,-List.reduceReplicate,reduceCtorEq,ae,bq,br,hneg,aR,hn',jb,hL,jN,jR,two,i0,i1,dG,l1,eq_true c1,c1])<;>simp[bM,hn,ha,two,h2,ga,gb,c1]
 ·have h16':=not_or.1 h16
  have h17':=not_or.1 h16'.2;by_cases c1:a=b<;>(rw[iw (aD rfl),eo];simp(disch:=omega)only[bR,↓aa,seval,-List.reduceReplicate,reduceCtorEq,ae,bq,br,hneg,aR,hn',jb,hL,jN,jR,two,i0,i1,dG,l1,eq_true c1,c1,hg,h20,h16'.1,h17'.1,h17'.2])<;>simp[bM,hn,ha,two,h2,ga,gb,c1,hg,h20,h16]
def RJ(a:Int):Prop:=0≤a∧a≤18446744073709551615
theorem ofInt_u64{a:Int}(h:RJ a):(BitVec.ofInt IntKind.u64.bits a).toNat=a.toNat:=by
 obtain⟨h1,h2⟩:=h;rw[BitVec.toNat_ofInt]
 show(a % 18446744073709551616).toNat=_
 rw[Int.emod_eq_of_lt h1 (by omega)]
theorem VD{n:Nat}(h:n<2^64):IntKind.u64.wrap (n:Int)=n:=IntWalk.u64_in _ ⟨by omega,by omega⟩
theorem La{a:Int}(h:RJ a):a.toNat<2^64:=by obtain⟨h1,h2⟩:=h;omega
theorem aoL{n:Nat}(h:n<2^64):RJ (n:Int):=⟨by omega,by omega⟩
theorem u64_and{a b:Int}(ha:RJ a)(hb:RJ b):IntKind.u64.wrap (BitVec.ofInt IntKind.u64.bits a &&& BitVec.ofInt IntKind.u64.bits b).toNat=((a.toNat &&& b.toNat:Nat):Int):=by
 rw[BitVec.toNat_and,ofInt_u64 ha,ofInt_u64 hb];exact VD (Nat.and_lt_two_pow _ (La hb))
theorem u64_or{a b:Int}(ha:RJ a)(hb:RJ b):IntKind.u64.wrap (BitVec.ofInt IntKind.u64.bits a |||BitVec.ofInt IntKind.u64.bits b).toNat=((a.toNat |||b.toNat:Nat):Int):=by
 rw[BitVec.toNat_or,ofInt_u64 ha,ofInt_u64 hb];exact VD (Nat.or_lt_two_pow (La ha) (La hb))
theorem u64_xor{a b:Int}(ha:RJ a)(hb:RJ b):IntKind.u64.wrap (BitVec.ofInt IntKind.u64.bits a ^^^ BitVec.ofInt IntKind.u64.bits b).toNat=((a.toNat ^^^ b.toNat:Nat):Int):=by
 rw[BitVec.toNat_xor,ofInt_u64 ha,ofInt_u64 hb];exact VD (Nat.xor_lt_two_pow (La ha) (La hb))
theorem Ih{a:Int}(ha:0≤a)(k:Nat):a.fdiv (2^k)=((a.toNat / 2^k:Nat):Int):=by
 have hp:(0:Int)≤2^k:=Int.le_of_lt (Int.pow_pos (by omega))
 rw[Int.fdiv_eq_ediv_of_nonneg _ hp];obtain⟨n,rfl⟩:=Int.eq_ofNat_of_zero_le ha;simp
def jl(w:Int):Int:=min (max w 1) 64
theorem H0(w:Int):1≤jl w∧jl w≤64:=by unfold jl;omega
theorem JE(w:Int):R P gE [.int .i64 w]=some (.int .i64 (jl w)):=by
 (rw[VR (aD rfl),uB];simp(disch:=omega)only[bR,↓aa,seval,-List.reduceReplicate,reduceCtorEq,ae])
 rfl
def PO(w:Int):Nat:=2^(jl w).toNat-1
theorem anG(w:Int):PO w<2^64:=by
 have h:=H0 w;have:=aa7 (show 0<2 by omega) (show(jl w).toNat≤64 by omega)
 have:=RD (n:=(jl w).toNat) (show 0<2 by omega)
 unfold PO;omega
theorem amL{c:Nat}(h:1≤c∧c≤64):18446744073709551615 / 2^(64-c)=2^c-1:=by
 have key:∀n:Fin 65,18446744073709551615 / 2^(64-n.1)=2^n.1-1:=by decide +kernel
 exact key ⟨c,by omega⟩
theorem Mw(w:Int):R P kq [.int .i64 w]=some (.int .u64 (PO w)):=by
 have h:=H0 w;have hw:IntKind.i64.wrap (64-jl w)=64-jl w:=IntWalk.i64_in _ (by omega)
 have hs:cB .shr (.p (.int .u64 18446744073709551615)) (.p (.int .i64 (64-jl w)))=some (.p (.int .u64 (PO w))):=by
  rw[JV (by omega),Ih (by omega),show min (64-jl w).toNat IntKind.u64.bits=64-(jl w).toNat by(show min (64-jl w).toNat 64=_;omega)]
  have:=amL (c:=(jl w).toNat) (by omega)
  unfold PO;rw[←this];rfl
 (rw[Y8 (aD rfl),xu];simp(disch:=omega)only[bR,↓aa,seval,-List.reduceReplicate,reduceCtorEq,ae,gS,JE,hw,hs])
def OS(w x:Int):Int:=((x.toNat % 2^(jl w).toNat:Nat):Int)
theorem ane(w:Int){x:Int}(hx:RJ x):RJ (OS w x):=by
 exact aoL (abr (Nat.mod_le x.toNat (2^(jl w).toNat)) (La hx))
theorem Q8(w x:Int)(hx:RJ x):R P bP [.int .i64 w,.int .u64 x]=some (.int .u64 (OS w x)):=by
 have hm:RJ (PO w:Int):=by have:=anG w;unfold RJ;omega
 (rw[aeH (aD rfl),zn];simp(disch:=omega)only[bR,↓aa,seval,-List.reduceReplicate,reduceCtorEq,ae,Fj,Mw,apR,u64_and hx hm])
 unfold OS;rw[show((PO w:Int)).toNat=2^(jl w).toNat-1 from rfl,Nat.and_two_pow_sub_one_eq_mod]
theorem tK{α:Type}(q:α→Bool):∀(as:List α) (i:Nat),aq (S:=Unit) (T:=Unit) (fun _ _ a=>if q a=true then .inl ()else .inr ()) i () as=if as.all q=true then .inl ()else .inr ()
 | [],i=>rfl
 |a::as,i=>by
  cases h:q a<;>simp[aq,h,tK q as]
theorem ue(s:ByteArray):s.data.toList.length=s.size:=by rw[abT];rfl
theorem ahE(s:ByteArray)(i:Nat):s[i]?=s.data.toList[i]? := by
 by_cases h:i<s.size
 ·rw[getElem?_pos s i h,o8 (by rw[ue];exact h)]
  rfl
 ·rw[getElem?_neg s i h,aa9 (by rw[ue];omega)]
theorem amb{s:ByteArray}{i:Nat}{b:UInt8}{k:IntKind}(h:s.data.toList[i]?=some b):af7 (.p (.str s)) (.p (.int k i))=some (.p (.int .u8 b.toNat)):=by
 simp only[af7,nE,Int.natCast_nonneg,if_true,Az,acm,ahE,h,x6]
theorem amc{s:ByteArray}{b:UInt8}{k:IntKind}(h:s.data.toList[0]?=some b):af7 (.p (.str s)) (.p (.int k 0))=some (.p (.int .u8 b.toNat)):=amb (i:=0) h
def z7(c:UInt8):Bool:=decide (97≤c.toNat∧c.toNat≤122∨48≤c.toNat∧c.toNat≤57∨c.toNat=95)
def jr(s:ByteArray):Bool:=decide (1≤s.size∧s.size≤16) && decide (97≤(s.data.toList.getD 0 0).toNat∧(s.data.toList.getD 0 0).toNat≤122) && s.data.toList.all z7
abbrev OW(s:ByteArray)(i:Int):List (Nat×AV):=[(0,.p (.str s)),(24,.p (.int .i64 s.size)),(25,.p (.int .i64 i))]
abbrev H8(s:ByteArray)(i:Int):List (Nat×AV):=[(0,.p (.str s)),(3,.p (.int .i64 i))]
theorem YD (s:ByteArray) (hl:s.size≤16):if s.data.toList.all z7=true then
      al P yM (OW s 0) σ 50 rd=some (.exit 0,⟨ef (tm (OW s s.size)) 26 (.p (.bool false)),σ,50,rd⟩)
    else ∃ r,al P yM (OW s 0) σ 50 rd=some r∧b7 2 (.bool false) σ r:=by
  have h:=eD (P:=P) (nt:=50) (rd:=rd) (lv:=[0,24,25]) (b:=uy) (x:=0) (as:=s.data.toList) (fun i (_:Unit)=>OW s i) (fun _=>σ) (fun i _ a=>if z7 a=true then .inl () else .inr ())
    (fun _=>⟨ef (tm (OW s s.size)) 26 (.p (.bool false)),σ,50,rd⟩) (fun _=>b7 2 (.bool false) σ) (fun _ _=>True)
    (fun i a _ ha hi hs=>by
      refine ⟨fun _ _=>trivial,?_⟩
      rw [ue] at hi;have hlt:((i:Int)<s.size)=True:=by simpa using hi
      have hix:=amb (k:=.i64) ha;by_cases h1:(a.toNat:Int)<97<;>by_cases h2:(122:Int)<a.toNat<;>by_cases h3:(a.toNat:Int)<48<;>by_cases h4:(57:Int)<a.toNat<;>by_cases h5:(a.toNat:Int)=95
      all_goals first
        | (exfalso;omega)
        | (have hn:z7 a=true:=by unfold z7;rw [decide_eq_true_eq];omega
           simp only [uy]
           simp (disch:=omega) only [bR,↓aa,seval,-List.reduceReplicate,reduceCtorEq,ae,hlt,hix,h1,h2,h3,h4,eq_true h5,hn,b7]
           done)
        | (have hn:z7 a=false:=by unfold z7;rw [decide_eq_false_iff_not];omega
           simp only [uy]
           simp (disch:=omega) only [bR,↓aa,seval,-List.reduceReplicate,reduceCtorEq,ae,hlt,hix,h1,h2,h3,h4,h5,hn,b7]
           done)) (fun s' hs=>by
      rw [ue]
      simp only [uy]
      simp (disch:=omega) only [bR,↓aa,seval,-List.reduceReplicate,reduceCtorEq,ae,lH]) (fun i s=>rfl) () trivial
  rw [tK] at h;exact (H5 h :)
theorem ad3 (s:ByteArray) (hl:s.size≤16):if s.data.toList.all z7=true then
      al P AN (H8 s 0) σ 52 rd=some (.exit 0,⟨ef (ef (ef (ef (tm (H8 s s.size)) 23 (.p (.int .i64 s.size))) 24 (.p (.str s))) 25 (.p (.int .i64 s.size))) 26 (.p (.bool false)),σ,52,rd⟩)
    else ∃ r,al P AN (H8 s 0) σ 52 rd=some r∧b7 2 (.bool false) σ r:=by
  have h:=eD (P:=P) (nt:=52) (rd:=rd) (lv:=[0,3]) (b:=xo) (x:=0) (as:=s.data.toList) (fun i (_:Unit)=>H8 s i) (fun _=>σ) (fun i _ a=>if z7 a=true then .inl () else .inr ())
    (fun _=>⟨ef (ef (ef (ef (tm (H8 s s.size)) 23 (.p (.int .i64 s.size))) 24 (.p (.str s))) 25 (.p (.int .i64 s.size))) 26 (.p (.bool false)),σ,52,rd⟩) (fun _=>b7 2 (.bool false) σ) (fun _ _=>True)
    (fun i a _ ha hi hs=>by
      refine ⟨fun _ _=>trivial,?_⟩
      rw [ue] at hi;have hlt:((i:Int)<s.size)=True:=by simpa using hi
      have hix:=amb (k:=.i64) ha;by_cases h1:(97:Int)≤a.toNat<;>by_cases h2:(a.toNat:Int)≤122<;>by_cases h3:(48:Int)≤a.toNat<;>by_cases h4:(a.toNat:Int)≤57<;>by_cases h5:(a.toNat:Int)=95
      all_goals first
        | (exfalso;omega)
        | (have hn:z7 a=true:=by unfold z7;rw [decide_eq_true_eq];omega
           simp only [xo]
           simp (disch:=omega) only [bR,↓aa,seval,-List.reduceReplicate,reduceCtorEq,ae,hlt,hix,h1,h2,h3,h4,eq_true h5,hn,b7]
           done)
        | (have hn:z7 a=false:=by unfold z7;rw [decide_eq_false_iff_not];omega
           simp only [xo]
           simp (disch:=omega) only [bR,↓aa,seval,-List.reduceReplicate,reduceCtorEq,ae,hlt,hix,h1,h2,h3,h4,h5,hn,b7]
           done)) (fun s' hs=>by
      rw [ue]
      simp only [xo]
      simp (disch:=omega) only [bR,↓aa,seval,-List.reduceReplicate,reduceCtorEq,ae,lH]) (fun i s=>rfl) () trivial
  rw [tK] at h;exact (H5 h :)
theorem kH(s:ByteArray):R P kC [.str s]=some (.bool (jr s)):=by
 unfold jr;by_cases h1:(s.size:Int)<1
 ·(rw[tZ (aD rfl),ko];simp(disch:=omega)only[bR,↓aa,seval,-List.reduceReplicate,reduceCtorEq,ae,h1])
  simp[show ¬1≤s.size by omega]
 by_cases h2:(16:Int)<s.size
 ·(rw[tZ (aD rfl),ko];simp(disch:=omega)only[bR,↓aa,seval,-List.reduceReplicate,reduceCtorEq,ae,h1,h2])
  simp[show ¬s.size≤16 by omega]
 have hlen:=ue s;obtain⟨b,hb⟩:∃b,s.data.toList[0]?=some b:=⟨_,o8 (by omega)⟩
 have hix:=amc (k:=.i64) hb;by_cases h3:(b.toNat:Int)<97
 ·(rw[tZ (aD rfl),ko];simp(disch:=omega)only[bR,↓aa,seval,-List.reduceReplicate,reduceCtorEq,ae,h1,h2,hix,h3])
  simp[List.getD,hb,show ¬97≤b.toNat by omega]
 by_cases h4:(122:Int)<b.toNat
 ·(rw[tZ (aD rfl),ko];simp(disch:=omega)only[bR,↓aa,seval,-List.reduceReplicate,reduceCtorEq,ae,h1,h2,hix,h3,h4])
  simp[List.getD,hb,show ¬b.toNat≤122 by omega]
 have hL:=YD (σ:=[]) (rd:=none) s (by omega)
 by_cases ha:s.data.toList.all z7=true
 ·rw[if_pos ha]at hL
  (rw[tZ (aD rfl),ko];simp(disch:=omega)only[bR,↓aa,seval,-List.reduceReplicate,reduceCtorEq,ae,h1,h2,hix,h3,h4,IG,hL])
  rw[ha];simp[List.getD,hb,show 97≤b.toNat by omega,show b.toNat≤122 by omega,show 1≤s.size by omega,show s.size≤16 by omega]
 ·rw[if_neg ha]at hL
  obtain⟨⟨e,τ',σ',nt',rd'⟩,h1',h2',h3',h4'⟩:=hL
  simp only at h2' h3' h4'
  subst h2';subst h4'
  (rw[tZ (aD rfl),ko];simp(disch:=omega)only[bR,↓aa,seval,-List.reduceReplicate,reduceCtorEq,ae,h1,h2,hix,h3,h4,IG,h1',h3'])
  rw[abG.2 ha];simp
theorem wS(s:ByteArray):R P oI [.str s]=some (.bool (jr s)):=by
 unfold jr;by_cases h1:(s.size:Int)<1
 ·(rw[wM (aD rfl),mA];simp(disch:=omega)only[bR,↓aa,seval,-List.reduceReplicate,reduceCtorEq,ae,h1])
  simp[show ¬1≤s.size by omega]
 by_cases h2:(16:Int)<s.size
 ·(rw[wM (aD rfl),mA];simp(disch:=omega)only[bR,↓aa,seval,-List.reduceReplicate,reduceCtorEq,ae,h1,h2])
  simp[show ¬s.size≤16 by omega]
 have hlen:=ue s;obtain⟨b,hb⟩:∃b,s.data.toList[0]?=some b:=⟨_,o8 (by omega)⟩
 have hix:=amc (k:=.i64) hb;by_cases h3:(b.toNat:Int)<97
 ·(rw[wM (aD rfl),mA];simp(disch:=omega)only[bR,↓aa,seval,-List.reduceReplicate,reduceCtorEq,ae,h1,h2,hix,h3])
  simp[List.getD,hb,show ¬97≤b.toNat by omega]
 by_cases h4:(122:Int)<b.toNat
 ·(rw[wM (aD rfl),mA];simp(disch:=omega)only[bR,↓aa,seval,-List.reduceReplicate,reduceCtorEq,ae,h1,h2,hix,h3,h4])
  simp[List.getD,hb,show ¬b.toNat≤122 by omega]
 have hL:=ad3 (σ:=[]) (rd:=none) s (by omega)
 by_cases ha:s.data.toList.all z7=true
 ·rw[if_pos ha]at hL
  (rw[wM (aD rfl),mA];simp(disch:=omega)only[bR,↓aa,seval,-List.reduceReplicate,reduceCtorEq,ae,h1,h2,hix,h3,h4,Lt,hL])
  rw[ha];simp[List.getD,hb,show 97≤b.toNat by omega,show b.toNat≤122 by omega,show 1≤s.size by omega,show s.size≤16 by omega]
 ·rw[if_neg ha]at hL
  obtain⟨⟨e,τ',σ',nt',rd'⟩,h1',h2',h3',h4'⟩:=hL
  simp only at h2' h3' h4'
  subst h2';subst h4'
  (rw[wM (aD rfl),mA];simp(disch:=omega)only[bR,↓aa,seval,-List.reduceReplicate,reduceCtorEq,ae,h1,h2,hix,h3,h4,Lt,h1',h3'])
  rw[abG.2 ha];simp
end Go.AE.S
namespace Go.AE
namespace Term
mutual
def count:Term→Nat
 |.mk _ _ _ _ as=>1+counts as
def counts:List Term→Nat
 | []=>0
 |t::r=>t.count+counts r
end
mutual
def left:Term→Int→Int
 |.mk _ _ _ _ as,n=>Cg as (n-1)
def Cg:List Term→Int→Int
 | [],n=>n
 |a::as,n=>if n<0 then -1 else Cg as (a.left n)
end
mutual
def deep:Term→Nat
 |.mk _ _ _ _ as=>iB as+1
def iB:List Term→Nat
 | []=>0
 |t::r=>max t.deep (iB r)
end
theorem count_eq(t:Term):t.count=1+counts t.args:=by cases t;simp[count,args]
theorem Vx(t:Term)(n:Int):t.left n=Cg t.args (n-1):=by cases t;simp[left,args]
theorem xe(t:Term):t.deep=iB t.args+1:=by cases t;simp[deep,args]
theorem cJ{l:List Term}{a:Term}(h:a∈l):a.count≤counts l:=by
 induction l with
 |nil=>simp at h
 |cons b l ih=>
  simp only[counts];rcases pU.1 h with rfl|h
  ·omega
  ·have:=ih h;omega
theorem Th(t:Term):1≤t.count:=by rw[count_eq];omega
theorem dL(l:List Term):l.length≤counts l:=by
 induction l with
 |nil=>simp
 |cons b l ih=>simp only[counts,lZ];have:=Th b;omega
theorem ad5:∀(t:Term) (n:Int),((t.count:Int)≤n→t.left n=n-t.count)∧(n<t.count→t.left n<0):=by
 apply ind;intro t ih n
 have key:∀(l:List Term),(∀a∈l,∀(n:Int),((a.count:Int)≤n→a.left n=n-a.count)∧(n<a.count→a.left n<0))→∀n:Int,((counts l:Int)≤n→Cg l n=n-counts l)∧(n<counts l→Cg l n<0):=by
  intro l
  induction l with
  |nil=>intro _ n;simp[Cg,counts]
  |cons a l ihl=>
   intro ha n;have h1:=ha a (by simp) n
   have h2:=ihl (fun b hb=>ha b (by simp[hb])) (a.left n)
   simp only[Cg,counts];have hc:=Th a;by_cases hn:n<0
   ·rw[if_pos hn]
    constructor
    ·intro h;omega
    ·intro;omega
   ·rw[if_neg hn]
    by_cases hle:(a.count:Int)≤n
    ·have e:=h1.1 hle
     rw[e]at h2 ⊢;constructor
     ·intro h;rw[h2.1 (by omega)];omega
     ·intro h;exact h2.2 (by omega)
    ·have e:=h1.2 (by omega)
     constructor
     ·intro h;omega
     ·intro h;exact h2.2 (by omega)
 have hk:=key t.args ih (n-1);rw[Vx,count_eq];constructor
 ·intro h;rw[hk.1 (by omega)];omega
 ·intro h;exact hk.2 (by omega)
theorem YG(t:Term)(n:Int):0≤t.left n↔(t.count:Int)≤n:=by
 have h:=ad5 t n;constructor
 ·intro h0
  rcases Int.lt_or_le n t.count with h1|h1
  ·have:=h.2 h1;omega
  ·exact h1
 ·intro h1
  rw[h.1 h1];omega
theorem akx:∀(t:Term) (n:Int),-9223372036854775807≤n→n≤1000000 → -9223372036854775808≤t.left n∧t.left n≤1000000:=by
 apply ind;intro t ih n h1 h2;rw[Vx]
 have key:∀(l:List Term),(∀a∈l,a∈t.args)→∀n:Int,-9223372036854775808≤n→n≤1000000 → -9223372036854775808≤Cg l n∧Cg l n≤1000000:=by
  intro l
  induction l with
  |nil=>intro _ n h1 h2;exact⟨h1,h2⟩
  |cons a l ihl=>
   intro ha n h1 h2;simp only[Cg];by_cases hn:n<0
   ·rw[if_pos hn];omega
   ·rw[if_neg hn]
    have:=ih a (ha a (by simp)) n (by omega) h2
    exact ihl (fun b hb=>ha b (by simp[hb])) _ this.1 this.2
 exact key t.args (fun _ h=>h) (n-1) (by omega) (by omega)
end Term
namespace S
open Go Go.AE
variable {τ:Tm} {σ:ah} {rd:Option Nat}
inductive iD:Term→Prop
 |mk (t:Term) (h1 : -9223372036854775808≤t.op∧t.op≤9223372036854775807) (h2 : -9223372036854775808≤t.w∧t.w≤9223372036854775807) (h3:RJ t.v) (h4:t.name.size≤9223372036854775807) (h5:t.args.length≤9223372036854775807) (h:∀a∈t.args,iD a):iD t
theorem iD.op{t:Term}(h:iD t) : -9223372036854775808≤t.op∧t.op≤9223372036854775807:=by cases h;assumption
theorem iD.w{t:Term}(h:iD t) : -9223372036854775808≤t.w∧t.w≤9223372036854775807:=by cases h;assumption
theorem iD.v{t:Term}(h:iD t):RJ t.v:=by cases h;assumption
theorem iD.name{t:Term}(h:iD t):t.name.size≤9223372036854775807:=by cases h;assumption
theorem iD.len{t:Term}(h:iD t):t.args.length≤9223372036854775807:=by cases h;assumption
theorem iD.args{t:Term}(h:iD t){a:Term}(ha:a∈t.args):iD a:=by cases h;rename_i h;exact h a ha
abbrev O2(t:Term)(m:Int)(i:Int):List (Nat×AV):=[(1,.p (.int .i64 m)),(2,.p (.ptr t.row 0)),(10,.p (.int .i64 t.args.length)),(11,.p (.int .i64 i))]
theorem ahB(l:List Term):∀(i:Nat) (s:Int),pP (fun s'=>Term.Cg l s=s') (fun _=>Term.Cg l s = -1) (aq (T:=Unit) (fun _ s (a:Term)=>if s<0 then .inr ()else .inl (a.left s)) i s l):=by
 induction l with
 |nil=>intro i s;rfl
 |cons a l ih=>
  intro i s;simp only[aq,Term.Cg];by_cases h:s<0
  ·simp only[h,if_true];trivial
  ·simp only[h,if_false];exact ih _ _
theorem afa(t:Term):iD t→∀n:Int,-9223372036854775807≤n→n≤1000000→R P qH [.agg t.row,.int .i64 n]=some (.int .i64 (t.left n)):=by
 induction t using Term.ind with
 |h t ih=>
 intro ht n h1 h2;have hw:IntKind.i64.wrap (n-1)=n-1:=asu (by omega)
 have h:=eD (P:=P) (nt:=25) (rd:=none) (lv:=[1,2,10,11]) (b:=xp) (x:=0) (as:=t.args) (fun i (s:Int)=>O2 t s i) (fun _=>[]) (fun _ s a=>if s<0 then .inr ()else .inl (a.left s))
  (fun s=>⟨ef (tm (O2 t s t.args.length)) 12 (.p (.bool false)),[],25,none⟩) (fun _=>b7 4 (.int .i64 (-1)) []) (fun _ s=>-9223372036854775808≤s∧s≤1000000)
  (fun i a s ha hi hs=>by
   have hm:=mR ha;have hlt:((i:Int)<t.args.length)=True:=by simpa using hi
   have hl:=ht.len;by_cases hc:s<0
   ·refine⟨by simp[hc],?_⟩
    simp only[xp];simp(disch:=omega)only[bR,↓aa,seval,-List.reduceReplicate,reduceCtorEq,ae,hlt,hc,b7]
   ·have hr:=ih a hm (ht.args hm) s (by omega) (by omega)
    have hb:=Term.akx a s (by omega) hs.2
    refine⟨by simp only[hc,if_false];rintro s' ⟨⟩;exact hb,?_⟩
    simp only[xp];simp(disch:=omega)only[bR,↓aa,seval,-List.reduceReplicate,reduceCtorEq,ae,hlt,hc,aH (aw (f:=Term.row) ha) a.az,QA,hr]) (fun s hs=>by
   simp only[xp];simp(disch:=omega)only[bR,↓aa,seval,-List.reduceReplicate,reduceCtorEq,ae,lH]) (fun i s=>rfl) (n-1) (by omega)
 have hf:=ahB t.args 0 (n-1);rw[←Term.Vx]at hf;cases hfe:aq (T:=Unit) (fun _ s (a:Term)=>if s<0 then .inr ()else .inl (a.left s)) 0 (n-1) t.args with
 |inl s=>
  rw[hfe]at h hf;have h':al P AO (O2 t (n-1) 0) [] 25 none=some (.exit 0,⟨ef (tm (O2 t s t.args.length)) 12 (.p (.bool false)),[],25,none⟩):=h;have hf':t.left n=s:=hf
  (rw[QQ (aD rfl),vV];simp(disch:=omega)only[bR,↓aa,seval,-List.reduceReplicate,reduceCtorEq,ae,aR,Lu,hw,h'])
  rw[hf']
 |inr u=>
  rw[hfe]at h hf;obtain⟨⟨e,τ',σ',nt',rd'⟩,g1,g2,g3,g4⟩:=h
  simp only at g2 g3 g4
  subst g2;subst g4;have h':al P AO (O2 t (n-1) 0) [] 25 none=some (.ret,⟨τ',[],nt',rd'⟩):=g1;have hf':t.left n = -1:=hf
  (rw[QQ (aD rfl),vV];simp(disch:=omega)only[bR,↓aa,seval,-List.reduceReplicate,reduceCtorEq,ae,aR,Lu,hw,h',g3])
  rw[hf']
theorem ZI(t:Term)(ht:iD t)(n:Int)(h1 : -9223372036854775807≤n)(h2:n≤1000000):R P qG [.agg t.row,.int .i64 n]=some (.bool (decide ((t.count:Int)≤n))):=by
 (rw[Zg (aD rfl),xE];simp(disch:=omega)only[bR,↓aa,seval,-List.reduceReplicate,reduceCtorEq,ae,QA,afa t ht n h1 h2,Term.YG])
end S
namespace Term
mutual
def beq:Term→Term→Bool
 |.mk o w v s as,.mk o' w' v' s' as'=>decide (o=o') && decide (w=w') && decide (v=v') && decide (s=s') && AA as as'
def AA:List Term→List Term→Bool
 | [],[]=>true
 |a::as,b::bs=>beq a b && AA as bs
 |_,_=>false
end
theorem beq_eq(t u:Term):t.beq u=(decide (t.op=u.op) && decide (t.w=u.w) && decide (t.v=u.v) && decide (t.name=u.name) && AA t.args u.args):=by cases t;cases u;rw[beq];rfl
theorem beq_iff:∀(t u:Term),t.beq u=true↔t=u:=by
 apply ind;intro t ih u
 have key:∀(l m:List Term),(∀a∈l,∀u,a.beq u=true↔a=u)→(AA l m=true↔l=m):=by
  intro l
  induction l with
  |nil=>intro m _;cases m<;>simp[AA]
  |cons a l ihl=>
   intro m h;cases m with
   |nil=>simp[AA]
   |cons b m=>
    simp only[AA,vM,acp];rw[h a (by simp) b,ihl m (fun x hx=>h x (by simp[hx]))]
 have hk:=key t.args u.args ih;rw[beq_eq];simp only[vM,decide_eq_true_eq,hk];cases t;cases u;simp only[op,w,v,name,args,mk.injEq];constructor
 ·rintro⟨⟨⟨⟨a,b⟩,c⟩,d⟩,e⟩;exact⟨a,b,c,d,e⟩
 ·rintro⟨a,b,c,d,e⟩;exact⟨⟨⟨⟨a,b⟩,c⟩,d⟩,e⟩
theorem WW{l m:List Term}(h:l.length≠m.length):AA l m=false:=by
 induction l generalizing m with
 |nil=>cases m<;>simp_all [AA]
 |cons a l ih=>cases m with
  |nil=>rfl
  |cons b m=>simp only[AA,ih (m:=m) (by simpa using h),Wy]
theorem WX{l m:List Term}(h:l.length=m.length):(l.zip m).all (fun x=>x.1.beq x.2)=AA l m:=by
 induction l generalizing m with
 |nil=>cases m<;>simp_all [AA]
 |cons a l ih=>cases m with
  |nil=>simp at h
  |cons b m=>simp only[AA,List.zip_cons_cons,Uj,ih (m:=m) (by simpa using h)]
end Term
namespace S
open Go Go.AE
variable {τ:Tm} {σ:ah} {rd:Option Nat}
theorem Ej(as:List Term)(i:Nat)(a:Term)(h:as[i]?=some a):Term.counts (as.take (i+1))=Term.counts (as.take i)+a.count:=by
 induction as generalizing i with
 |nil=>simp at h
 |cons b as ih=>
  cases i with
  |zero=>simp at h;subst h;simp[Term.counts]
  |succ i=>simp only[abV,Term.counts];rw[ih i (by simpa using h)];omega
theorem zL(as:List Term)(i:Nat):Term.counts (as.take i)≤Term.counts as:=by
 induction as generalizing i with
 |nil=>simp[Term.counts]
 |cons b as ih=>
  cases i with
  |zero=>simp[Term.counts]
  |succ i=>simp only[abV,Term.counts];have:=ih i;omega
theorem Yc(as:List Term):∀(i:Nat) (acc:Int),aq (T:=Empty) (fun _ s (a:Term)=>.inl (s+(a.count:Int))) i acc as=.inl (acc+(Term.counts as:Int)):=by
 induction as with
 |nil=>intro i acc;simp[aq,Term.counts]
 |cons a as ih=>intro i acc;simp only[aq,Term.counts];rw[ih];congr 1;omega
abbrev Ek(as:List Term)(s i:Int):List (Nat×AV):=[(3,.p (.int .i64 s)),(7,.p (.aO (as.map Term.row))),(8,.p (.int .i64 as.length)),(9,.p (.int .i64 i))]
theorem ZO(t:Term):t.count≤1000000→R P od [.agg t.row]=some (.int .i64 t.count):=by
 induction t using Term.ind with
 |h t ih=>
 intro hc;rw[Term.count_eq]at hc ⊢;have hlen:=Term.dL t.args
 have h:=lJ (P:=P) (nt:=19) (rd:=none) (lv:=[3,7,8,9]) (b:=yF) (x:=0) (as:=t.args) (fun i (s:Int)=>Ek t.args s i) (fun _=>[]) (fun i s a=>s+(a.count:Int)) (fun s=>⟨ef (tm (Ek t.args s t.args.length)) 10 (.p (.bool false)),[],19,none⟩) (fun i s=>s=1+Term.counts (t.args.take i))
  (fun i a s ha hi hs=>by
   have hm:=mR ha;have hac:=Term.cJ hm;have h1:=Ej t.args i a ha;have h2:=zL t.args (i+1);have hr:=ih a hm (by omega)
   have hlt:((i:Int)<t.args.length)=True:=by simpa using hi
   have hw:IntKind.i64.wrap (s+a.count)=s+a.count:=asu (by omega)
   refine⟨by omega,?_⟩
   simp only[yF];simp(disch:=omega)only[bR,↓aa,seval,-List.reduceReplicate,reduceCtorEq,ae,hlt,aH (aw (f:=Term.row) ha) a.az,qW,hr,hw]) (fun s hs=>by
   simp only[yF];simp(disch:=omega)only[bR,↓aa,seval,-List.reduceReplicate,reduceCtorEq,ae,lH]) (fun i s=>rfl) 1 (by simp[Term.counts]) _ (Yc t.args 0 1)
 have h':al P CN (Ek t.args 1 0) [] 19 none=some (.exit 0,⟨ef (tm (Ek t.args (1+Term.counts t.args) t.args.length)) 10 (.p (.bool false)),[],19,none⟩):=h
 (rw[Zm (aD rfl),xK];simp(disch:=omega)only[bR,↓aa,seval,-List.reduceReplicate,reduceCtorEq,ae,aR,Vq,h'])
 rfl
theorem adF(t:Term):t.deep≤t.count:=by
 induction t using Term.ind with
 |h t ih=>
 rw[Term.xe,Term.count_eq]
 have key:∀l:List Term,(∀a∈l,a.deep≤a.count)→Term.iB l≤Term.counts l:=by
  intro l
  induction l with
  |nil=>intro _;simp[Term.iB,Term.counts]
  |cons a l ihl=>intro h;simp only[Term.iB,Term.counts];have:=h a (by simp);have:=ihl (fun b hb=>h b (by simp[hb]));omega
 have:=key t.args ih;omega
theorem adX(as:List Term):∀(i:Nat) (acc:Int),0≤acc→aq (T:=Empty) (fun _ s (a:Term)=>.inl (max s (a.deep:Int))) i acc as=.inl (max acc (Term.iB as:Int)):=by
 induction as with
 |nil=>intro i acc h;simp[aq,Term.iB];omega
 |cons a as ih=>intro i acc h;simp only[aq,Term.iB];rw[ih _ _ (by omega)];congr 1;omega
theorem Wg(t:Term):t.count≤1000000→R P mg [.agg t.row]=some (.int .i64 t.deep):=by
 induction t using Term.ind with
 |h t ih=>
 intro hc;have hdc:=adF t;rw[Term.xe]at hdc ⊢;have hcc:=Term.count_eq t;have hlen:=Term.dL t.args
 have h:=lJ (P:=P) (nt:=20) (rd:=none) (lv:=[3,7,8,9]) (b:=wW) (x:=0) (as:=t.args) (fun i (s:Int)=>Ek t.args s i) (fun _=>[]) (fun i s a=>max s (a.deep:Int)) (fun s=>⟨ef (tm (Ek t.args s t.args.length)) 10 (.p (.bool false)),[],20,none⟩) (fun i s=>True)
  (fun i a s ha hi hs=>by
   have hm:=mR ha;have hac:=Term.cJ hm;have hr:=ih a hm (by omega)
   have hlt:((i:Int)<t.args.length)=True:=by simpa using hi
   refine⟨trivial,?_⟩;simp only[wW];simp(disch:=omega)only[bR,↓aa,seval,-List.reduceReplicate,reduceCtorEq,ae,hlt,aH (aw (f:=Term.row) ha) a.az,rB,hr]) (fun s hs=>by
   simp only[wW];simp(disch:=omega)only[bR,↓aa,seval,-List.reduceReplicate,reduceCtorEq,ae,lH]) (fun i s=>rfl) 0 trivial _ (adX t.args 0 0 (by omega))
 have h':al P Bz (Ek t.args 0 0) [] 20 none=some (.exit 0,⟨ef (tm (Ek t.args (Term.iB t.args) t.args.length)) 10 (.p (.bool false)),[],20,none⟩):=by
  have e:max (0:Int) (Term.iB t.args:Int)=Term.iB t.args:=by omega
  rw[e]at h;exact h
 (rw[VY (aD rfl),uK];simp(disch:=omega)only[bR,↓aa,seval,-List.reduceReplicate,reduceCtorEq,ae,aR,Si,h'])
abbrev U2(t:Term)(n i:Int):List (Nat×AV):=[(1,.p (.int .i64 n)),(2,.p (.ptr t.row 0)),(5,.p (.int .i64 i))]
theorem ahe(as:List Term)(n:Int)(h0:0≤n):as.all (fun a=>decide ((a.deep:Int)≤n))=decide ((Term.iB as:Int)≤n):=by
 induction as with
 |nil=>simp[Term.iB,h0]
 |cons a as ih=>
  have e:((Term.iB (a::as):Nat):Int)≤n↔(a.deep:Int)≤n∧(Term.iB as:Int)≤n:=by
   simp only[Term.iB];rcases Nat.le_total a.deep (Term.iB as)with h|h
   ·rw[Nat.max_eq_right h];omega
   ·rw[Nat.max_eq_left h];omega
  rw[Uj,ih,abC];simp only[vM,decide_eq_true_eq,e]
theorem ae9(t:Term):iD t→∀n:Int,n≤1000000→R P qF [.agg t.row,.int .i64 n]=some (.bool (decide (n<t.deep))):=by
 induction t using Term.ind with
 |h t ih=>
 intro ht n hn;rw[Term.xe];by_cases h1:n<1
 ·(rw[HC (aD rfl),sD];simp(disch:=omega)only[bR,↓aa,seval,-List.reduceReplicate,reduceCtorEq,ae,h1])
  simp only[bN,PV.bool.injEq];rw[eq_comm,decide_eq_true_eq];omega
 have hw:IntKind.i64.wrap (n-1)=n-1:=asu (by omega)
 have h:=eD (P:=P) (nt:=23) (rd:=none) (lv:=[1,2,5]) (b:=xn) (x:=0) (as:=t.args) (fun i (_:Unit)=>U2 t n i) (fun _=>[]) (fun _ _ a=>if decide ((a.deep:Int)≤n-1)=true then .inl ()else .inr ())
  (fun s=>⟨ef (ef (ef (ef (ef (tm (U2 t n t.args.length)) 8 (.p (.int .i64 t.args.length))) 9 (.p (.ptr t.row 4))) 10 (.p (.aO (t.args.map Term.row)))) 11 (.p (.int .i64 t.args.length))) 12 (.p (.bool false)),[],23,none⟩) (fun _=>b7 4 (.bool true) []) (fun _ s=>True)
  (fun i a s ha hi hs=>by
   have hm:=mR ha;have hlt:((i:Int)<t.args.length)=True:=by simpa using hi
   have hl:=ht.len;have hr:=ih a hm (ht.args hm) (n-1) (by omega)
   refine⟨fun _ _=>trivial,?_⟩
   by_cases hc:(a.deep:Int)≤n-1
   ·have hc':¬n-1<(a.deep:Int):=by omega
    simp only[xn];simp(disch:=omega)only[bR,↓aa,seval,-List.reduceReplicate,reduceCtorEq,ae,hlt,hc,hc',aH (aw (f:=Term.row) ha) a.az,tk,hw,hr,aR]
   ·have hc':n-1<(a.deep:Int):=by omega
    simp only[xn];simp(disch:=omega)only[bR,↓aa,seval,-List.reduceReplicate,reduceCtorEq,ae,hlt,hc,hc',aH (aw (f:=Term.row) ha) a.az,tk,hw,hr,b7,aR]) (fun s hs=>by
   simp only[xn];simp(disch:=omega)only[bR,↓aa,seval,-List.reduceReplicate,reduceCtorEq,ae,lH,aR]) (fun i s=>rfl) () trivial
 rw[tK,ahe _ _ (by omega)]at h
 have h2:=H5 h;by_cases hc:(Term.iB t.args:Int)≤n-1
 ·rw[if_pos (by simpa using hc)]at h2
  have h':al P AM (U2 t n 0) [] 23 none=_:=h2
  (rw[HC (aD rfl),sD];simp(disch:=omega)only[bR,↓aa,seval,-List.reduceReplicate,reduceCtorEq,ae,Ls,h1,h'])
  simp only[bN,PV.bool.injEq];rw[eq_comm,decide_eq_false_iff_not];omega
 ·rw[if_neg (by simpa using hc)]at h2
  obtain⟨⟨e,τ',σ',nt',rd'⟩,g1,g2,g3,g4⟩:=h2
  simp only at g2 g3 g4
  subst g2;subst g4;have h':al P AM (U2 t n 0) [] 23 none=some (.ret,⟨τ',[],nt',rd'⟩):=g1
  (rw[HC (aD rfl),sD];simp(disch:=omega)only[bR,↓aa,seval,-List.reduceReplicate,reduceCtorEq,ae,Ls,h1,h',g3])
  simp only[bN,PV.bool.injEq];rw[eq_comm,decide_eq_true_eq];omega
end S
namespace Term
mutual
def pre:Term→List Term
 |.mk o w v s as=>.mk o w v s as::Dc as
def Dc:List Term→List Term
 | []=>[]
 |a::as=>pre a++Dc as
end
mutual
def post:Term→List Term
 |.mk o w v s as=>pS as++[.mk o w v s as]
def pS:List Term→List Term
 | []=>[]
 |a::as=>post a++pS as
end
theorem vj(t:Term):t.pre=t::Dc t.args:=by cases t;rw[pre];rfl
theorem Bi(t:Term):t.post=pS t.args++[t]:=by cases t;rw[post];rfl
theorem yR:∀l:List Term,Dc l=l.flatMap pre
 | []=>rfl
 |a::l=>by rw[Dc,yR l];rfl
theorem Jo:∀l:List Term,pS l=l.flatMap post
 | []=>rfl
 |a::l=>by rw[pS,Jo l];rfl
theorem YV:∀l:List Term,(∀a∈l,a.pre.length=a.count)→(Dc l).length=counts l
 | [],_=>rfl
 |a::l,h=>by rw[Dc,counts,jS,h a (by simp),YV l fun b hb=>h b (by simp[hb])]
theorem nc(t:Term):t.pre.length=t.count:=by
 induction t using ind with
 |h t ih=>rw[vj,count_eq,lZ,YV _ ih];omega
theorem TX:∀l:List Term,(∀a∈l,a.post.length=a.count)→(pS l).length=counts l
 | [],_=>rfl
 |a::l,h=>by rw[pS,counts,jS,h a (by simp),TX l fun b hb=>h b (by simp[hb])]
theorem Jn(t:Term):t.post.length=t.count:=by
 induction t using ind with
 |h t ih=>rw[Bi,count_eq,jS,TX _ ih];simp;omega
end Term
namespace S
open Go Go.AE
variable {τ:Tm} {σ:ah} {rd:Option Nat}
theorem Pl{α β:Type}(g:α→List β):∀(l:List α) (i:Nat) (s:List β),aq (T:=Empty) (fun _ s a=>.inl (s++g a)) i s l=.inl (s++l.flatMap g)
 | [],i,s=>by simp[aq]
 |a::l,i,s=>by simp only[aq];rw[Pl g l];simp
abbrev Tn(t:Term)(s:List Term)(i:Int):List (Nat×AV):=[(1,.p (.ptr t.row 0)),(3,.sl 0 s.length),(4,.p (.int .i64 i))]
abbrev sT(s:List Term):ah:=[.pv 5 (s.map Term.row) false]
theorem Dt{g:Term→List Term}(hg:∀a,(g a).length=a.count)(l:List Term)(i:Nat):((l.take i).flatMap g).length≤Term.counts l:=by
 induction l generalizing i with
 |nil=>simp[Term.counts]
 |cons a l ih=>
  cases i with
  |zero=>simp
  |succ i=>simp only[abV,aa4,jS,hg,Term.counts];have:=ih i;omega
theorem y5{g:Term→List Term}{l:List Term}{i:Nat}{a:Term}(h:l[i]?=some a):(l.take (i+1)).flatMap g=(l.take i).flatMap g++g a:=by
 rw[List.take_add_one,h];simp
theorem qZ(t:Term):t.count≤1000000→R P dY [.agg t.row]=some (.aO (t.pre.map Term.row)):=by
 induction t using Term.ind with
 |h t ih=>
 intro hc;have hlen:=Term.dL t.args;have hct:=Term.count_eq t
 have h:=lJ (P:=P) (nt:=23) (rd:=none) (lv:=[1,3,4]) (b:=r9) (x:=0) (as:=t.args) (fun i (s:List Term)=>Tn t s i) sT (fun i s a=>s++a.pre)
  (fun s=>⟨ef (ef (ef (ef (ef (tm (Tn t s t.args.length)) 7 (.p (.int .i64 t.args.length))) 8 (.p (.ptr t.row 4))) 9 (.p (.aO (t.args.map Term.row)))) 10 (.p (.int .i64 t.args.length))) 11 (.p (.bool false)),sT s,23,none⟩) (fun i s=>s=t::(t.args.take i).flatMap Term.pre)
  (fun i a s ha hi hs=>by
   have hm:=mR ha;have hac:=Term.cJ hm;have h2:=Dt Term.nc t.args (i+1);rw[y5 ha]at h2;have hsl:(s++a.pre).length≤1000001:=by rw[hs,F9,lZ];omega
   rw[jS]at hsl;have hr:=ih a hm (by omega)
   have hlt:((i:Int)<t.args.length)=True:=by simpa using hi
   have hap:=dP (σ:=sT s) (b:=0) (n:=s.length) (e:=5) (es:=5) (bytes:=64) (rows:=s.map Term.row) (new:=a.pre.map Term.row) rfl (by simp) (.inl rfl) (by simp only[aR];omega)
   refine⟨by rw[hs,y5 ha];rfl,?_⟩
   simp only[r9];simp(disch:=omega)only[bR,↓aa,seval,-List.reduceReplicate,reduceCtorEq,ae,hlt,aR,aH (aw (f:=Term.row) ha) a.az,eE,hr,Rj (Uc _),hap,jS,CR,Tn,sT]) (fun s hs=>by
   simp only[r9];simp(disch:=omega)only[bR,↓aa,seval,-List.reduceReplicate,reduceCtorEq,ae,lH,aR]) (fun i s=>rfl) [t] (by simp) _ (Pl Term.pre t.args 0 [t])
 have h':al P x8 [(1,.p (.ptr t.row 0)),(3,.sl 0 1),(4,.p (.int .i64 0))] [.pv 5 [t.row] false] 23 none=_:=h;have e:[t]++t.args.flatMap Term.pre=t.pre:=by rw[Term.vj,Term.yR];rfl
 rw[e]at h'
 (rw[QR (aD rfl),qe];simp(disch:=omega)only[bR,↓aa,seval,-List.reduceReplicate,reduceCtorEq,ae,Na,h',aR])
theorem DN(t:Term):t.count≤1000000→R P fL [.agg t.row]=some (.aO (t.post.map Term.row)):=by
 induction t using Term.ind with
 |h t ih=>
 intro hc;have hlen:=Term.dL t.args;have hct:=Term.count_eq t
 have h:=lJ (P:=P) (nt:=26) (rd:=none) (lv:=[1,3,4]) (b:=q7) (x:=0) (as:=t.args) (fun i (s:List Term)=>Tn t s i) sT (fun i s a=>s++a.post)
  (fun s=>⟨ef (ef (ef (ef (ef (tm (Tn t s t.args.length)) 6 (.p (.int .i64 t.args.length))) 7 (.p (.ptr t.row 4))) 8 (.p (.aO (t.args.map Term.row)))) 9 (.p (.int .i64 t.args.length))) 10 (.p (.bool false)),sT s,26,none⟩) (fun i s=>s=(t.args.take i).flatMap Term.post)
  (fun i a s ha hi hs=>by
   have hm:=mR ha;have hac:=Term.cJ hm;have h2:=Dt Term.Jn t.args (i+1);rw[y5 ha]at h2;have hsl:(s++a.post).length≤1000001:=by rw[hs];omega
   rw[jS]at hsl;have hr:=ih a hm (by omega)
   have hlt:((i:Int)<t.args.length)=True:=by simpa using hi
   have hap:=dP (σ:=sT s) (b:=0) (n:=s.length) (e:=5) (es:=5) (bytes:=64) (rows:=s.map Term.row) (new:=a.post.map Term.row) rfl (by simp) (.inl rfl) (by simp only[aR];omega)
   refine⟨by rw[hs,y5 ha],?_⟩
   simp only[q7];simp(disch:=omega)only[bR,↓aa,seval,-List.reduceReplicate,reduceCtorEq,ae,hlt,aR,aH (aw (f:=Term.row) ha) a.az,jP,hr,Rj (Uc _),hap,jS,CR,Tn,sT]) (fun s hs=>by
   simp only[q7];simp(disch:=omega)only[bR,↓aa,seval,-List.reduceReplicate,reduceCtorEq,ae,lH,aR]) (fun i s=>rfl) [] (by simp) _ (Pl Term.post t.args 0 [])
 have h':al P vY [(1,.p (.ptr t.row 0)),(3,.sl 0 0),(4,.p (.int .i64 0))] [.pv 5 [] false] 26 none=_:=h;have e:[]++t.args.flatMap Term.post=Term.pS t.args:=by rw[Term.Jo];rfl
 rw[e]at h';have hpl:=Term.Jn t;rw[Term.Bi,jS]at hpl;have hap:=dP (σ:=[.pv 5 ((Term.pS t.args).map Term.row) false,.pv 5 [t.row] false]) (b:=0) (n:=(Term.pS t.args).length) (e:=5) (es:=5) (bytes:=64) (rows:=(Term.pS t.args).map Term.row) (new:=[t.row]) rfl (by simp) (.inl rfl) (by simp only[lZ,nz];omega)
 (rw[Nr (aD rfl),oX];simp(disch:=omega)only[bR,↓aa,seval,-List.reduceReplicate,reduceCtorEq,ae,Ky,h',aR,hap,jS])
 rw[Term.Bi,CR];rfl
theorem zb{α β:Type}(g:α→β):∀(l:List α) (i:Nat) (s:List β),aq (T:=Empty) (fun _ s a=>.inl (s++[g a])) i s l=.inl (s++l.map g)
 | [],i,s=>by simp[aq]
 |a::l,i,s=>by simp only[aq];rw[zb g l];simp
def mX{α:Type}(n:Nat)(s:List α):Nat:=if s.isEmpty then 0 else n
theorem sq{α:Type}(n:Nat)(s:List α){β:Type}(f:α→β):mX n s=n∨(mX n s=0∧s.map f=[]):=by cases s<;>simp[mX]
theorem kM{α:Type}(n:Nat)(s:List α)(a:α):mX n (s++[a])=n:=by simp[mX]
abbrev ajB(l:List Term)(s:List Int)(i:Int):List (Nat×AV):=[(3,.sl 0 s.length),(6,.p (.aO (l.map Term.row))),(7,.p (.int .i64 l.length)),(8,.p (.int .i64 i))]
abbrev sI(s:List Int):ah:=[.pv (mX 1 s) (s.map dG) false]
theorem CB(l:List Term)(hl:l.length≤1000000):R P fV [.aO (l.map Term.row)]=some (.aO ((l.map Term.w).map dG)):=by
 have h:=lJ (P:=P) (nt:=19) (rd:=none) (lv:=[3,6,7,8]) (b:=pK) (x:=0) (as:=l) (fun i (s:List Int)=>ajB l s i) sI (fun i s a=>s++[a.w])
  (fun s=>⟨ef (tm (ajB l s l.length)) 9 (.p (.bool false)),sI s,19,none⟩) (fun i s=>s.length=i)
  (fun i a s ha hi hs=>by
   have hlt:((i:Int)<l.length)=True:=by simpa using hi
   have hap:=dP (σ:=[.pv (mX 1 s) (s.map dG) false,.pv 1 [[.int .i64 a.w]] false]) (b:=0) (n:=s.length) (e:=mX 1 s) (es:=1) (bytes:=8) (rows:=s.map dG) (new:=[[.int .i64 a.w]]) rfl (by simp) (sq _ _ _) (by simp only[lZ,nz];omega)
   refine⟨by simp[hs],?_⟩
   simp only[pK];simp(disch:=omega)only[bR,↓aa,seval,-List.reduceReplicate,reduceCtorEq,ae,hlt,aR,aH (aw (f:=Term.row) ha) a.az,hap,jS,CR,ajB,sI,kM,dG]) (fun s hs=>by
   simp only[pK];simp(disch:=omega)only[bR,↓aa,seval,-List.reduceReplicate,reduceCtorEq,ae,lH,aR]) (fun i s=>rfl) [] (by simp) _ (zb Term.w l 0 [])
 have h':al P uP [(3,.sl 0 0),(6,.p (.aO (l.map Term.row))),(7,.p (.int .i64 l.length)),(8,.p (.int .i64 0))] [.pv 0 [] false] 19 none=_:=h
 (rw[KS (aD rfl),nr];simp(disch:=omega)only[bR,↓aa,seval,-List.reduceReplicate,reduceCtorEq,ae,Iy,h',aR])
abbrev adS(t:Term)(s:List Int)(i:Int):List (Nat×AV):=[(1,.p (.ptr t.row 0)),(3,.sl 0 s.length),(4,.p (.int .i64 i))]
abbrev sI1(s:List Int):ah:=[.pv 1 (s.map dG) false]
theorem Wa(t:Term)(hl:t.args.length≤1000000):R P oK [.agg t.row]=some (.aO ((t.args.map Term.w).map dG)):=by
 have h:=lJ (P:=P) (nt:=23) (rd:=none) (lv:=[1,3,4]) (b:=wV) (x:=0) (as:=t.args) (fun i (s:List Int)=>adS t s i) sI1 (fun i s a=>s++[a.w])
  (fun s=>⟨ef (ef (ef (ef (ef (tm (adS t s t.args.length)) 6 (.p (.int .i64 t.args.length))) 7 (.p (.ptr t.row 4))) 8 (.p (.aO (t.args.map Term.row)))) 9 (.p (.int .i64 t.args.length))) 10 (.p (.bool false)),sI1 s,23,none⟩) (fun i s=>s.length=i)
  (fun i a s ha hi hs=>by
   have hlt:((i:Int)<t.args.length)=True:=by simpa using hi
   have hap:=dP (σ:=[.pv 1 (s.map dG) false,.pv 1 [[.int .i64 a.w]] false]) (b:=0) (n:=s.length) (e:=1) (es:=1) (bytes:=8) (rows:=s.map dG) (new:=[[.int .i64 a.w]]) rfl (by simp) (.inl rfl) (by simp only[lZ,nz];omega)
   refine⟨by simp[hs],?_⟩
   simp only[wV];simp(disch:=omega)only[bR,↓aa,seval,-List.reduceReplicate,reduceCtorEq,ae,hlt,aR,aH (aw (f:=Term.row) ha) a.az,hap,jS,CR,adS,sI1,dG]) (fun s hs=>by
   simp only[wV];simp(disch:=omega)only[bR,↓aa,seval,-List.reduceReplicate,reduceCtorEq,ae,lH,aR]) (fun i s=>rfl) [] (by simp) _ (zb Term.w t.args 0 [])
 have h':al P Bx [(1,.p (.ptr t.row 0)),(3,.sl 0 0),(4,.p (.int .i64 0))] [.pv 1 [] false] 23 none=_:=h
 (rw[VV (aD rfl),uF];simp(disch:=omega)only[bR,↓aa,seval,-List.reduceReplicate,reduceCtorEq,ae,Sf,h',aR])
end S
end Go.AE
namespace Go.AE.S
open Go Go.AE
variable {τ:Tm} {σ:ah} {rd:Option Nat}
def qt(u:Term):List AV:=[.p (.agg u.row)]
def afx(l:Nat)(s:ah)(a:Term):ah ⊕ ah:=match rounds P l (a.pre.map qt) s with
 |some (true,s')=>.inl s'
 |some (false,s')=>.inr s'
 |none=>.inr s
theorem Yo(l:Nat):∀(as:List Term) (i:Nat) (s:ah) (b:Bool) (s':ah),rounds P l ((Term.Dc as).map qt) s=some (b,s')→aq (fun _ s a=>afx l s a) i s as=if b=true then .inl s' else .inr s'
 | [],i,s,b,s',h=>by
  simp only[Term.Dc,B0,rounds,bN,rI]at h;obtain⟨rfl,rfl⟩:=h;rfl
 |a::as,i,s,b,s',h=>by
  simp only[Term.Dc,CR,BO]at h;simp only[aq,afx];cases h1:rounds P l (a.pre.map qt) s with
  |none=>rw[h1]at h;cases h
  |some x=>
   obtain⟨c,s1⟩:=x;rw[h1]at h;cases c with
   |true=>exact Yo l as (i+1) s1 b s' h
   |false=>
    simp only[Q1,bN,rI]at h;obtain⟨rfl,rfl⟩:=h;rfl
abbrev afX(l:Nat)(t:Term)(i:Int):List (Nat×AV):=[(1,.yield l),(12,.p (.aO (t.args.map Term.row))),(13,.p (.int .i64 t.args.length)),(14,.p (.int .i64 i))]
theorem am2(l:Nat)(t:Term):t.count≤1000000→∀(σ σ':ah) (b:Bool),rounds P l (t.pre.map qt) σ=some (b,σ')→call P hZ [.p (.agg t.row),.yield l] σ=some (.p (.bool b),σ'):=by
 induction t using Term.ind with
 |h t ih=>
 intro hc σ σ' b hr;have hlen:=Term.dL t.args;have hct:=Term.count_eq t;have hl:=wQ _ _ _ _ hr;rw[Term.vj,rK]at hr;obtain⟨c,σ1,h1,h2,h3,h4⟩:=Fz hr;simp only[qt]at h1;have gc1:∀vs,gc σ.length vs σ1=σ1:=fun vs=>eU (by omega)
 cases c with
 |false=>
  obtain⟨rfl,rfl⟩:=h4 rfl
  (rw[fK (aD rfl),hZ];simp(disch:=omega)only[bR,↓aa,seval,-List.reduceReplicate,reduceCtorEq,ae,h1,gc1])
 |true=>
  have h3:=h3 rfl
  have h:=eD (P:=P) (nt:=23) (rd:=none) (lv:=[1,12,13,14]) (b:=nf) (x:=0) (as:=t.args) (fun i (_:ah)=>afX l t i) (fun s=>s) (fun _ s a=>afx l s a)
   (fun s=>⟨ef (tm (afX l t t.args.length)) 15 (.p (.bool false)),s,23,none⟩) (fun s r=>b7 4 (.bool false) s r) (fun i s=>∃b s',rounds P l ((Term.Dc (t.args.drop i)).map qt) s=some (b,s'))
   (fun i a s ha hi hs=>by
    obtain⟨b2,s2,hs⟩:=hs;have hm:=mR ha;have hac:=Term.cJ hm;have hlt:((i:Int)<t.args.length)=True:=by simpa using hi
    have hd:t.args.drop i=a::t.args.drop (i+1):=by rw[abk hi];rw[o8 hi]at ha;cases ha;rfl
    rw[hd]at hs;simp only[Term.Dc,CR,BO]at hs;cases hx:rounds P l (a.pre.map qt) s with
    |none=>rw[hx]at hs;cases hs
    |some x=>
     obtain⟨c,s1⟩:=x;rw[hx]at hs;have hv:=ih a hm (by omega) s s1 c hx
     have hl1:=wQ _ _ _ _ hx;have gc2:∀vs,gc s.length vs s1=s1:=fun vs=>eU (by omega)
     cases c with
     |true=>
      refine⟨fun s' he=>?_,?_⟩
      ·simp only[afx,hx]at he
       cases he;exact⟨_,_,hs⟩
      ·simp only[nf,afx,hx]
       simp(disch:=omega)only[bR,↓aa,seval,-List.reduceReplicate,reduceCtorEq,ae,hlt,aH (aw (f:=Term.row) ha) a.az,yn,hv,gc2]
     |false=>
      refine⟨fun s' he=>?_,?_⟩
      ·simp only[afx,hx]at he
       cases he
      ·simp only[nf,afx,hx]
       simp(disch:=omega)only[bR,↓aa,seval,-List.reduceReplicate,reduceCtorEq,ae,hlt,aH (aw (f:=Term.row) ha) a.az,yn,hv,gc2,b7]) (fun s hs=>by
    simp only[nf];simp(disch:=omega)only[bR,↓aa,seval,-List.reduceReplicate,reduceCtorEq,ae,lH]) (fun i s=>rfl) σ1 ⟨b,σ',h3⟩
  rw[Yo l t.args 0 σ1 b σ' h3]at h;have hl3:=wQ _ _ _ _ h3;have gc3:∀vs,gc σ.length vs σ'=σ':=fun vs=>eU (by omega)
  cases b with
  |true=>
   have h':al P rk (afX l t 0) σ1 23 none=_:=h
   (rw[fK (aD rfl),hZ];simp(disch:=omega)only[bR,↓aa,seval,-List.reduceReplicate,reduceCtorEq,ae,h1,aR,Cc,h',gc3])
  |false=>
   obtain⟨⟨e,τ',σ2,nt',rd'⟩,g1,g2,g3,g4⟩:=h
   simp only at g2 g3 g4
   subst g2;subst g4;have h':al P rk (afX l t 0) σ1 23 none=some (.ret,⟨τ',σ2,nt',rd'⟩):=g1
   (rw[fK (aD rfl),hZ];simp(disch:=omega)only[bR,↓aa,seval,-List.reduceReplicate,reduceCtorEq,ae,h1,aR,Cc,h',g3,gc3])
theorem ac8(l:Nat)(t:Term)(hc:t.count≤1000000)(σ σ':ah)(b:Bool)(h:rounds P l (t.pre.map qt) σ=some (b,σ')) :
  call P jg [.yield l,.p (.ptr t.row 0)] σ=some (.p (.jY []),σ'):=by
 have hv:=am2 l t hc σ σ' b h;have hl:=wQ _ _ _ _ h;have gc3:∀vs,gc σ.length vs σ'=σ':=fun vs=>eU (by omega)
 (rw[fK (aD rfl),jg];simp(disch:=omega)only[bR,↓aa,seval,-List.reduceReplicate,reduceCtorEq,ae,yn,hv,gc3])
theorem iR(t:Term):R P dv [.agg t.row]=some (.fn cg [.ptr t.row 0]):=by
 (rw[HA (aD rfl),kS];simp(disch:=omega)only[bR,↓aa,seval,-List.reduceReplicate,reduceCtorEq,ae,Gh])
theorem FR{α:Type}(q:α→Bool):∀(as:List α) (i:Nat),aq (S:=Unit) (T:=Unit) (fun _ _ a=>if q a=true then .inr ()else .inl ()) i () as=if as.any q=true then .inr ()else .inl ()
 | [],i=>rfl
 |a::as,i=>by
  cases h:q a<;>simp[aq,h,FR q as]
theorem bF(o:Int):R P dw [.int .i64 o]=some (.bool (decide (o=24∨o=25))):=by
 (rw[HB (aD rfl),kT];simp(disch:=omega)only[bR,↓aa,seval,-List.reduceReplicate,reduceCtorEq,ae])
 by_cases h1:o=24<;>by_cases h2:o=25<;>simp(disch:=omega)only[bR,↓aa,seval,-List.reduceReplicate,reduceCtorEq,ae,eq_true h1,eq_true h2,h1,h2]<;>first|rfl|simp_all
theorem vE(t:Term):R P dZ [.agg t.row]=some (.bool (decide (t.op=24∨t.op=25))):=by
 (rw[QT (aD rfl),qf];simp(disch:=omega)only[bR,↓aa,seval,-List.reduceReplicate,reduceCtorEq,ae])
 by_cases h1:t.op=24<;>by_cases h2:t.op=25<;>simp(disch:=omega)only[bR,↓aa,seval,-List.reduceReplicate,reduceCtorEq,ae,eq_true h1,eq_true h2,h1,h2]<;>first|rfl|simp_all
def M9(x:Int):Nat→List Int→Int
 |_,[]=>-1
 |i,a::r=>if x=a then i else M9 x (i+1) r
theorem af9(x:Int):∀(l:List Int) (i:Nat),0≤M9 x i l↔x∈l
 | [],i=>by simp[M9]
 |a::l,i=>by
  by_cases h:x=a
  ·simp[M9,h]
  ·simp[M9,h,af9 x l (i+1)]
theorem Yh(x:Int):∀(l:List Int) (i:Nat),pP (fun _=>M9 x i l = -1) (fun k=>M9 x i l=(k:Nat)) (aq (S:=Unit) (T:=Nat) (fun i _ a=>if x=a then .inr i else .inl ()) i () l)
 | [],i=>rfl
 |a::l,i=>by
  by_cases h:x=a
  ·simp only[aq,M9,h,if_true];exact rfl
  ·simp only[aq,M9,h,if_false];exact Yh x l (i+1)
abbrev afU(l:List Int)(x i:Int):List (Nat×AV):=[(0,.p (.aO (l.map dG))),(1,.p (.int .i64 x)),(7,.p (.int .i64 l.length)),(8,.p (.int .i64 i))]
theorem ae6(l:List Int)(x:Int)(hl:l.length≤1000000):R P cK [.aO (l.map dG),.int .i64 x]=some (.int .i64 (M9 x 0 l)):=by
 have h:=eD (P:=P) (nt:=19) (rd:=none) (lv:=[0,1,7,8]) (b:=fc) (x:=0) (as:=l) (fun i (_:Unit)=>afU l x i) (fun _=>[]) (fun i _ a=>if x=a then .inr i else .inl ())
  (fun _=>⟨ef (tm (afU l x l.length)) 9 (.p (.bool false)),[],19,none⟩) (fun(k:Nat)=>b7 4 (.int .i64 k) []) (fun _ _=>True)
  (fun i a s ha hi hs=>by
   refine⟨fun _ _=>trivial,?_⟩
   have hlt:((i:Int)<l.length)=True:=by simpa using hi
   by_cases hc:x=a<;>simp only[fc]<;>simp(disch:=omega)only[bR,↓aa,seval,-List.reduceReplicate,reduceCtorEq,ae,hlt,aH (es:=1) (aw (f:=dG) ha) rfl,dG,eq_true hc,hc,b7]) (fun s hs=>by
   simp only[fc];simp(disch:=omega)only[bR,↓aa,seval,-List.reduceReplicate,reduceCtorEq,ae,lH]) (fun i s=>rfl) () trivial
 have hf:=Yh x l 0;cases hfe:aq (S:=Unit) (T:=Nat) (fun i _ a=>if x=a then .inr i else .inl ()) 0 () l with
 |inl s=>
  rw[hfe]at h hf;have h':al P ff (afU l x 0) [] 19 none=_:=h;have hf':M9 x 0 l = -1:=hf
  (rw[pk (aD rfl),dh];simp(disch:=omega)only[bR,↓aa,seval,-List.reduceReplicate,reduceCtorEq,ae,aR,oh,h'])
  rw[hf']
 |inr k=>
  rw[hfe]at h hf;obtain⟨⟨e,τ',σ',nt',rd'⟩,g1,g2,g3,g4⟩:=h
  simp only at g2 g3 g4
  subst g2;subst g4;have h':al P ff (afU l x 0) [] 19 none=some (.ret,⟨τ',[],nt',rd'⟩):=g1;have hf':M9 x 0 l=k:=hf
  (rw[pk (aD rfl),dh];simp(disch:=omega)only[bR,↓aa,seval,-List.reduceReplicate,reduceCtorEq,ae,aR,oh,h',g3])
  rw[hf']
theorem SE(l:List Int)(x:Int)(hl:l.length≤1000000):R P cj [.aO (l.map dG),.int .i64 x]=some (.bool (decide (x∈l))):=by
 (rw[vK (aD rfl),dC];simp(disch:=omega)only[bR,↓aa,seval,-List.reduceReplicate,reduceCtorEq,ae,yp,ae6 l x hl,af9])
theorem F0{S T:Type}{kept:List (Nat×AV)}{ps:List Nat}{iy b:K}{nt:Nat}(t:Term)(hc:t.count≤1000000)(hps:nodup ps=true∧ps.all (· < nt)=true)
  (sto:S→ah) (f:Nat→S→Term→S ⊕ T) (out:T→Ex×ah) (ok:Nat→S→Prop) (s0:S) (hrd:uZ rd (sto s0)=true)
  (hlen:∀s,(sto s).length=(sto s0).length) (hout:∀t,(out t).2.length=(sto s0).length)
  (hbel:∀s,(sto s).all (Obj.below (sto s0).length)=true) (hbelo:∀t,(out t).2.all (Obj.below (sto s0).length)=true) (hnn:∀t,(out t).1≠.normal)
  (hstep:∀(i:Nat) (a:Term) (s:S),t.pre[i]?=some a→ok i s→(∀s',f i s a=.inl s'→ok (i+1) s') ∧
   round P (sto s0).length [.p (.agg a.row)] (sto s++[.loop kept nt ps iy b none])=(match f i s a with
    |.inl s'=>some (.p (.bool true),sto s'++[.loop kept nt ps iy b none])
    |.inr t=>some (.p (.bool false),(out t).2++[.loop kept nt ps iy b (some (out t).1)])))
  (h0:ok 0 s0):nN P ps iy b (.p (.fn cg [.ptr t.row 0])) kept (sto s0) nt rd=some (lp sto out (aq f 0 s0 t.pre)) :=
 Q0 (f0:=cg) (cap:=[.p (.ptr t.row 0)]) rfl EX hps qt sto f out ok t.pre s0 hrd (fun σ σ' bb h=>⟨_,ac8 _ t hc σ σ' bb h⟩) hlen hout hbel hbelo hnn hstep h0
theorem JF(t:Term)(hc:t.count≤1000000):R P fg [.agg t.row]=some (.bool (t.pre.any fun u=>decide (u.w=0))):=by
 have h:=F0 (rd:=none) (kept:=[(2,.ptr 0 1 0 0)]) (ps:=[6]) (iy:=kO) (b:=kP) (nt:=10) t hc ⟨rfl,rfl⟩ (fun(_:Unit)=>[.pv 1 [[.bool false]] false]) (fun _ _ a=>if decide (a.w=0)=true then .inr ()else .inl ()) (fun(_:Unit)=>(.ret,[.pv 1 [[.bool true]] false]))
  (fun _ _=>True) () rfl (fun _=>rfl) (fun _=>rfl) (fun _=>rfl) (fun _=>rfl) (fun _=>by simp) (fun i a s ha _=>by
   refine⟨fun _ _=>trivial,?_⟩
   simp only[F9,y8];rw[Cz rfl ⟨rfl,rfl,rfl⟩];by_cases hw:a.w=0
   ·simp only[kO,kP]
    simp(disch:=omega)only[bR,↓aa,seval,-List.reduceReplicate,reduceCtorEq,ae,eq_true hw]
   ·simp only[kO,kP]
    simp(disch:=omega)only[bR,↓aa,seval,-List.reduceReplicate,reduceCtorEq,ae,hw]) trivial
 rw[FR]at h;cases hq:t.pre.any fun u=>decide (u.w=0)<;>rw[hq]at h<;>(rw[Jx (aD rfl),lT];simp(disch:=omega)only[bR,↓aa,seval,-List.reduceReplicate,reduceCtorEq,ae,Gg,iP,iR,h])
theorem SJ(t:Term)(l:List Int)(hc:t.count≤1000000)(hl:l.length≤1000000):R P mL [.agg t.row,.aO (l.map dG)]=some (.bool (t.pre.any fun u=>decide (u.op∈l))):=by
 have h:=F0 (rd:=none) (kept:=[(3,.p (.ptr [.aO (l.map dG)] 0)),(4,.ptr 0 1 0 0)]) (ps:=[8]) (iy:=pV) (b:=pW) (nt:=13) t hc ⟨rfl,rfl⟩ (fun(_:Unit)=>[.pv 1 [[.bool false]] false]) (fun _ _ a=>if decide (a.op∈l)=true then .inr ()else .inl ()) (fun(_:Unit)=>(.ret,[.pv 1 [[.bool true]] false]))
  (fun _ _=>True) () rfl (fun _=>rfl) (fun _=>rfl) (fun _=>rfl) (fun _=>rfl) (fun _=>by simp) (fun i a s ha _=>by
   refine⟨fun _ _=>trivial,?_⟩
   simp only[F9,y8];rw[Cz rfl ⟨rfl,rfl,rfl⟩];have hcn:=SE l a.op hl;by_cases hw:a.op∈l
   ·simp only[pV,pW]
    simp(disch:=omega)only[bR,↓aa,seval,-List.reduceReplicate,reduceCtorEq,ae,eq_true hw,mV,hcn]
   ·simp only[pV,pW]
    simp(disch:=omega)only[bR,↓aa,seval,-List.reduceReplicate,reduceCtorEq,ae,hw,mV,hcn]) trivial
 rw[FR]at h;cases hq:t.pre.any fun u=>decide (u.op∈l)<;>rw[hq]at h<;>(rw[SA (aD rfl),rS];simp(disch:=omega)only[bR,↓aa,seval,-List.reduceReplicate,reduceCtorEq,ae,Ng,iP,iR,h])
end Go.AE.S
namespace Go.AE
namespace Term
theorem alj(q:Term→Bool)(t:Term):t.post.any q=t.pre.any q:=by
 induction t using ind with
 |h t ih=>
 have key:∀l:List Term,(∀a∈l,a.post.any q=a.pre.any q)→(pS l).any q=(Dc l).any q:=by
  intro l
  induction l with
  |nil=>intro _;rfl
  |cons a l ihl=>intro h;rw[pS,Dc,List.any_append,List.any_append,h a (by simp),ihl fun b hb=>h b (by simp[hb])]
 rw[Bi,vj,List.any_append,key _ ih,abt];simp[Bool.or_comm]
end Term
namespace S
open Go Go.AE
variable {τ:Tm} {σ:ah} {rd:Option Nat}
def inner(p:Term):Bool:=match p.args with
 |a::_=>a.pre.any fun u=>decide (u.op∈[24,26])
 | []=>false
def gm(p:Term)(ev:Bool):Int :=
 if arity p.op<0∨p.op=1∨(p.op=26∧ev=false)∨¬(p.args.length:Int)=arity p.op then 4
 else if(¬p.name=bs []∧¬(p.op=24∨p.op=25))∨(¬p.v=0∧¬p.op=2∧¬p.op=21)then 4
 else if(p.op=24∨p.op=25)∧jr p.name=false then 5
 else if ¬(bM p.op p.w p.v (p.args.map Term.w)).2=0∨¬(bM p.op p.w p.v (p.args.map Term.w)).1=p.w then 3
 else if p.op=26∧inner p=true then 12 else 0
theorem ata:arity 26=1:=by decide
theorem avM:arity 24=0:=by decide
theorem avN:arity 25=0:=by decide
theorem Ra(p:Term)(ev:Bool)(ht:iD p)(hc:p.count≤1000000):R P kZ [.agg p.row,.bool ev]=some (.int .i64 (gm p ev)):=by
 have hlc:=Term.dL p.args;have hcc:=Term.count_eq p;by_cases h1:arity p.op<0
 ·(rw[bX (aD rfl),bw];simp(disch:=omega)only[bR,↓aa,seval,-List.reduceReplicate,reduceCtorEq,ae,aI,aJ,h1])
  simp[gm,h1]
 by_cases h2:p.op=1
 ·(rw[bX (aD rfl),bw];simp(disch:=omega)only[bR,↓aa,seval,-List.reduceReplicate,reduceCtorEq,ae,aI,aJ,h1,eq_true h2])
  simp[gm,h2]
 by_cases h26:p.op=26∧ev=false
 ·obtain⟨h3,rfl⟩:=h26
  (rw[bX (aD rfl),bw];simp(disch:=omega)only[bR,↓aa,seval,-List.reduceReplicate,reduceCtorEq,ae,aI,aJ,h1,h2,eq_true h3])
  simp[gm,h3]
 by_cases h5:(p.args.length:Int)=arity p.op
 rotate_left
 ·have h5':=eq_false h5
  by_cases h3:p.op=26
  ·have he:ev=true:=by cases ev;exact absurd ⟨h3,rfl⟩ h26;rfl
   subst he
   (rw[bX (aD rfl),bw];simp(disch:=omega)only[bR,↓aa,seval,-List.reduceReplicate,reduceCtorEq,ae,aI,aJ,h1,h2,eq_true h3,aR,h5'])
   simp[gm,h5]
  ·(rw[bX (aD rfl),bw];simp(disch:=omega)only[bR,↓aa,seval,-List.reduceReplicate,reduceCtorEq,ae,aI,aJ,h1,h2,h3,aR,h5'])
   simp[gm,h5]
 have h5':=eq_true h5;have hwd:=CB p.args (by omega)
 have hW:=Aq p.op p.w p.v (p.args.map Term.w) (by rw[aR];have:=CV (o:=p.op) (by rcases Decidable.em (1≤p.op∧p.op≤26)with h|h;exact h;exact absurd (by rw[sE h];decide) h1);omega) ht.v
 have spec:∀x:Int,(if(¬p.name=bs []∧¬(p.op=24∨p.op=25))∨(¬p.v=0∧¬p.op=2∧¬p.op=21)then 4
   else if(p.op=24∨p.op=25)∧jr p.name=false then 5
   else if ¬(bM p.op p.w p.v (p.args.map Term.w)).2=0∨¬(bM p.op p.w p.v (p.args.map Term.w)).1=p.w then 3
   else if p.op=26∧inner p=true then 12 else 0)=x→gm p ev=x:=by
  intro x hx;rw[←hx,gm,if_neg]
  rintro(h|h|h|h)
  ·exact h1 h
  ·exact h2 h
  ·exact h26 h
  ·exact h h5
 generalize hr:bM p.op p.w p.v (p.args.map Term.w)=r at hW spec;obtain⟨rw,re⟩:=r;simp only[two]at hW;by_cases h3:p.op=26
 ·have he:ev=true:=by cases ev;exact absurd ⟨h3,rfl⟩ h26;rfl
  subst he;have n24:¬(p.op=24∨p.op=25):=by omega
  have n2:¬p.op=2:=by omega
  have n21:¬p.op=21:=by omega
  by_cases h6:p.name=bs []
  rotate_left
  ·rw[spec 4 (by simp[h6,n24])]
   (rw[bX (aD rfl),bw];simp(disch:=omega)only[bR,↓aa,seval,-List.reduceReplicate,reduceCtorEq,ae,aI,aJ,h1,h2,eq_true h3,aR,h5',h6,bk,bF,n24])
  by_cases h8:p.v=0
  rotate_left
  ·rw[spec 4 (by simp[h8,n2,n21])]
   (rw[bX (aD rfl),bw];simp(disch:=omega)only[bR,↓aa,seval,-List.reduceReplicate,reduceCtorEq,ae,aI,aJ,h1,h2,eq_true h3,aR,h5',eq_true h6,bk,bF,n24,h8,n2,n21])
  by_cases g1:re=0
  rotate_left
  ·rw[spec 3 (by simp[h6,h8,n24,g1])]
   (rw[bX (aD rfl),bw];simp(disch:=omega)only[bR,↓aa,seval,-List.reduceReplicate,reduceCtorEq,ae,aI,aJ,h1,h2,eq_true h3,aR,h5',eq_true h6,bk,bF,n24,eq_true h8,n2,n21,ej,hwd,dO,hW,g1])
  by_cases g2:rw=p.w
  rotate_left
  ·rw[spec 3 (by simp[h6,h8,n24,g2])]
   (rw[bX (aD rfl),bw];simp(disch:=omega)only[bR,↓aa,seval,-List.reduceReplicate,reduceCtorEq,ae,aI,aJ,h1,h2,eq_true h3,aR,h5',eq_true h6,bk,bF,n24,eq_true h8,n2,n21,ej,hwd,dO,hW,eq_true g1,g2])
  rw[h3,ata]at h5
  obtain⟨a,hal⟩:∃a,p.args=[a]:=by
   match hp:p.args with
   | [a]=>exact⟨a,rfl⟩
   | []=>rw[hp]at h5;simp at h5
   |a::b::l=>rw[hp]at h5;simp at h5;omega
  have ha0:p.args[0]?=some a:=by rw[hal];rfl
  have hac:a.count≤1000000:=by have:=Term.cJ (l:=p.args) (a:=a) (by rw[hal];simp);omega
  have hh:=SJ a [24,26] hac (by decide)
  simp only[rK,B0,dG]at hh;have i0:=MH (k:=.i64) (σ:=[]) (es:=5) (aw (f:=Term.row) ha0) a.az;have hin:inner p=a.pre.any fun u=>decide (u.op∈[24,26]):=by unfold inner;rw[hal]
  rw[spec (if inner p=true then 12 else 0) (by simp[h3,h6,h8,g1,g2])]
  rw[hin];cases hb:a.pre.any fun u=>decide (u.op∈[24,26])<;>rw[hb]at hh<;>(rw[bX (aD rfl),bw];simp(disch:=omega)only[bR,↓aa,seval,-List.reduceReplicate,reduceCtorEq,ae,aI,aJ,h1,h2,eq_true h3,aR,h5',eq_true h6,bk,bF,n24,eq_true h8,n2,n21,ej,hwd,dO,hW,eq_true g1,eq_true g2,i0,Ss,hh])
 ·by_cases n24:p.op=24∨p.op=25
  ·have n2:¬p.op=2:=by omega
   have n21:¬p.op=21:=by omega
   by_cases h8:p.v=0
   rotate_left
   ·rw[spec 4 (by simp[h8,n2,n21])]
    rcases cY (p.name=bs [])with h6|h6<;>(rw[bX (aD rfl),bw];simp(disch:=omega)only[bR,↓aa,seval,-List.reduceReplicate,reduceCtorEq,ae,aI,aJ,h1,h2,h3,aR,h5',h6,bk,bF,n24,h8,n2,n21])
   cases h11:jr p.name with
   |false=>
    rw[spec 5 (by simp[h8,n24,h11])]
    rcases cY (p.name=bs [])with h6|h6<;>(rw[bX (aD rfl),bw];simp(disch:=omega)only[bR,↓aa,seval,-List.reduceReplicate,reduceCtorEq,ae,aI,aJ,h1,h2,h3,aR,h5',h6,bk,bF,n24,eq_true h8,n2,n21,iv,kH,h11])
   |true=>
    by_cases g1:re=0
    rotate_left
    ·rw[spec 3 (by simp[h8,n24,h11,g1])]
     rcases cY (p.name=bs [])with h6|h6<;>(rw[bX (aD rfl),bw];simp(disch:=omega)only[bR,↓aa,seval,-List.reduceReplicate,reduceCtorEq,ae,aI,aJ,h1,h2,h3,aR,h5',h6,bk,bF,n24,eq_true h8,n2,n21,iv,kH,h11,ej,hwd,dO,hW,g1])
    by_cases g2:rw=p.w
    rotate_left
    ·rw[spec 3 (by simp[h8,n24,h11,g2])]
     rcases cY (p.name=bs [])with h6|h6<;>(rw[bX (aD rfl),bw];simp(disch:=omega)only[bR,↓aa,seval,-List.reduceReplicate,reduceCtorEq,ae,aI,aJ,h1,h2,h3,aR,h5',h6,bk,bF,n24,eq_true h8,n2,n21,iv,kH,h11,ej,hwd,dO,hW,eq_true g1,g2])
    rw[spec 0 (by simp[h8,n24,h11,g1,g2,h3])]
    rcases cY (p.name=bs [])with h6|h6<;>(rw[bX (aD rfl),bw];simp(disch:=omega)only[bR,↓aa,seval,-List.reduceReplicate,reduceCtorEq,ae,aI,aJ,h1,h2,h3,aR,h5',h6,bk,bF,n24,eq_true h8,n2,n21,iv,kH,h11,ej,hwd,dO,hW,eq_true g1,eq_true g2])
  ·by_cases h6:p.name=bs []
   rotate_left
   ·rw[spec 4 (by simp[h6,n24])]
    (rw[bX (aD rfl),bw];simp(disch:=omega)only[bR,↓aa,seval,-List.reduceReplicate,reduceCtorEq,ae,aI,aJ,h1,h2,h3,aR,h5',h6,bk,bF,n24])
   by_cases hv:¬p.v=0∧¬p.op=2∧¬p.op=21
   ·obtain⟨h8,h9,h10⟩:=hv
    rw[spec 4 (by simp[h8,h9,h10])]
    (rw[bX (aD rfl),bw];simp(disch:=omega)only[bR,↓aa,seval,-List.reduceReplicate,reduceCtorEq,ae,aI,aJ,h1,h2,h3,aR,h5',eq_true h6,bk,bF,n24,h8,h9,h10])
   have hv':p.v=0∨(¬p.v=0∧p.op=2)∨(¬p.v=0∧¬p.op=2∧p.op=21):=by
    by_cases a:p.v=0
    ·exact .inl a
    ·by_cases b:p.op=2
     ·exact .inr (.inl ⟨a,b⟩)
     ·exact .inr (.inr ⟨a,b,Decidable.of_not_not fun c=>hv ⟨a,b,c⟩⟩)
   have hv8:¬((¬p.name=bs []∧¬(p.op=24∨p.op=25))∨(¬p.v=0∧¬p.op=2∧¬p.op=21)):=by
    rintro(h|h)
    ·exact h.1 h6
    ·exact hv h
   by_cases g1:re=0
   rotate_left
   ·rw[spec 3 (by rw[if_neg hv8];simp[n24,g1])]
    rcases cY (p.v=0)with h8|h8<;>rcases cY (p.op=2)with h9|h9<;>rcases cY (p.op=21)with h10|h10
    all_goals first
     |(exfalso;simp_all;done)
     |(rw[bX (aD rfl),bw];simp(disch:=omega)only[bR,↓aa,seval,-List.reduceReplicate,reduceCtorEq,ae,aI,aJ,h1,h2,h3,aR,h5',eq_true h6,bk,bF,n24,h8,h9,h10,ej,hwd,dO,hW,g1])
   by_cases g2:rw=p.w
   rotate_left
   ·rw[spec 3 (by rw[if_neg hv8];simp[n24,g2])]
    rcases cY (p.v=0)with h8|h8<;>rcases cY (p.op=2)with h9|h9<;>rcases cY (p.op=21)with h10|h10
    all_goals first
     |(exfalso;simp_all;done)
     |(rw[bX (aD rfl),bw];simp(disch:=omega)only[bR,↓aa,seval,-List.reduceReplicate,reduceCtorEq,ae,aI,aJ,h1,h2,h3,aR,h5',eq_true h6,bk,bF,n24,h8,h9,h10,ej,hwd,dO,hW,eq_true g1,g2])
   rw[spec 0 (by rw[if_neg hv8];simp[n24,g1,g2,h3])]
   rcases cY (p.v=0)with h8|h8<;>rcases cY (p.op=2)with h9|h9<;>rcases cY (p.op=21)with h10|h10
   all_goals first
    |(exfalso;simp_all;done)
    |(rw[bX (aD rfl),bw];simp(disch:=omega)only[bR,↓aa,seval,-List.reduceReplicate,reduceCtorEq,ae,aI,aJ,h1,h2,h3,aR,h5',eq_true h6,bk,bF,n24,h8,h9,h10,ej,hwd,dO,hW,eq_true g1,eq_true g2])
end S
end Go.AE
namespace Go.AE.S
open Go Go.AE
variable {τ:Tm} {σ:ah} {rd:Option Nat}
abbrev Ib(l:List Term)(i:Int):List (Nat×AV):=[(7,.p (.aO (l.map Term.row))),(8,.p (.int .i64 i))]
theorem ad4(l:List Term)(hl:l.length≤1000000):if l.any (fun u=>decide (u.op∈[24,26]))=true then
   ∃r,al P AP (Ib l 0) σ 115 rd=some r∧b7 4 (.int .i64 12) σ r
  else al P AP (Ib l 0) σ 115 rd=some (.exit 0,⟨ef (ef (ef (ef (tm (Ib l l.length)) 95 (.p (.int .i64 l.length))) 96 (.p (.aO (l.map Term.row)))) 97 (.p (.int .i64 l.length))) 98 (.p (.bool false)),σ,115,rd⟩):=by
 have h:=eD (P:=P) (nt:=115) (rd:=rd) (lv:=[7,8]) (b:=AJ) (x:=0) (as:=l) (fun i (_:Unit)=>Ib l i) (fun _=>σ) (fun i _ a=>if decide (a.op∈[24,26])=true then .inr ()else .inl ())
  (fun _=>⟨ef (ef (ef (ef (tm (Ib l l.length)) 95 (.p (.int .i64 l.length))) 96 (.p (.aO (l.map Term.row)))) 97 (.p (.int .i64 l.length))) 98 (.p (.bool false)),σ,115,rd⟩) (fun _=>b7 4 (.int .i64 12) σ) (fun _ _=>True)
  (fun i a s ha hi hs=>by
   refine⟨fun _ _=>trivial,?_⟩
   have hlt:((i:Int)<l.length)=True:=by simpa using hi
   rcases cY (a.op=24)with h1|h1<;>rcases cY (a.op=26)with h2|h2<;>simp only[AJ]<;>simp(disch:=omega)only[bR,↓aa,seval,-List.reduceReplicate,reduceCtorEq,ae,hlt,aR,aH (aw (f:=Term.row) ha) a.az,h1,h2,pU,ab9,b7]) (fun s hs=>by
   simp only[AJ];simp(disch:=omega)only[bR,↓aa,seval,-List.reduceReplicate,reduceCtorEq,ae,lH,aR]) (fun i s=>rfl) () trivial
 rw[FR]at h;exact(afT h :)
theorem afb(p:Term)(ev:Bool)(ht:iD p)(hc:p.count≤1000000):R P te [.agg p.row,.bool ev]=some (.int .i64 (gm p ev)):=by
 have hlc:=Term.dL p.args;have hcc:=Term.count_eq p;by_cases h1:arity p.op<0
 ·(rw[dy (aD rfl),cI];simp(disch:=omega)only[bR,↓aa,seval,-List.reduceReplicate,reduceCtorEq,ae,bq,br,h1])
  simp[gm,h1]
 by_cases h2:p.op=1
 ·(rw[dy (aD rfl),cI];simp(disch:=omega)only[bR,↓aa,seval,-List.reduceReplicate,reduceCtorEq,ae,bq,br,h1,eq_true h2])
  simp[gm,h2]
 by_cases h26:p.op=26∧ev=false
 ·obtain⟨h3,rfl⟩:=h26
  (rw[dy (aD rfl),cI];simp(disch:=omega)only[bR,↓aa,seval,-List.reduceReplicate,reduceCtorEq,ae,bq,br,h1,h2,eq_true h3])
  simp[gm,h3]
 by_cases h5:(p.args.length:Int)=arity p.op
 rotate_left
 ·have h5':=eq_false h5
  by_cases h3:p.op=26
  ·have he:ev=true:=by cases ev;exact absurd ⟨h3,rfl⟩ h26;rfl
   subst he
   (rw[dy (aD rfl),cI];simp(disch:=omega)only[bR,↓aa,seval,-List.reduceReplicate,reduceCtorEq,ae,bq,br,h1,h2,eq_true h3,aR,h5'])
   simp[gm,h5]
  ·(rw[dy (aD rfl),cI];simp(disch:=omega)only[bR,↓aa,seval,-List.reduceReplicate,reduceCtorEq,ae,bq,br,h1,h2,h3,aR,h5'])
   simp[gm,h5]
 have h5':=eq_true h5;have hwd:=Wa p (by omega)
 have hvr:=vE p;have hW:=ZE p.op p.w p.v (p.args.map Term.w) (by rw[aR];have:=CV (o:=p.op) (by rcases Decidable.em (1≤p.op∧p.op≤26)with h|h;exact h;exact absurd (by rw[sE h];decide) h1);omega) ht.v
 have spec:∀x:Int,(if(¬p.name=bs []∧¬(p.op=24∨p.op=25))∨(¬p.v=0∧¬p.op=2∧¬p.op=21)then 4
   else if(p.op=24∨p.op=25)∧jr p.name=false then 5
   else if ¬(bM p.op p.w p.v (p.args.map Term.w)).2=0∨¬(bM p.op p.w p.v (p.args.map Term.w)).1=p.w then 3
   else if p.op=26∧inner p=true then 12 else 0)=x→gm p ev=x:=by
  intro x hx;rw[←hx,gm,if_neg]
  rintro(h|h|h|h)
  ·exact h1 h
  ·exact h2 h
  ·exact h26 h
  ·exact h h5
 generalize hr:bM p.op p.w p.v (p.args.map Term.w)=r at hW spec;obtain⟨rw,re⟩:=r;simp only[two]at hW;by_cases h3:p.op=26
 ·have he:ev=true:=by cases ev;exact absurd ⟨h3,rfl⟩ h26;rfl
  subst he;have n24:¬(p.op=24∨p.op=25):=by omega
  have n2:¬p.op=2:=by omega
  have n21:¬p.op=21:=by omega
  by_cases h6:p.name=bs []
  rotate_left
  ·rw[spec 4 (by simp[h6,n24])]
   (rw[dy (aD rfl),cI];simp(disch:=omega)only[bR,↓aa,seval,-List.reduceReplicate,reduceCtorEq,ae,bq,br,h1,h2,eq_true h3,aR,h5',h6,bz,hvr,n24])
  by_cases h8:p.v=0
  rotate_left
  ·rw[spec 4 (by simp[h8,n2,n21])]
   (rw[dy (aD rfl),cI];simp(disch:=omega)only[bR,↓aa,seval,-List.reduceReplicate,reduceCtorEq,ae,bq,br,h1,h2,eq_true h3,aR,h5',eq_true h6,bz,hvr,n24,h8,n2,n21])
  by_cases g1:re=0
  rotate_left
  ·rw[spec 3 (by simp[h6,h8,n24,g1])]
   (rw[dy (aD rfl),cI];simp(disch:=omega)only[bR,↓aa,seval,-List.reduceReplicate,reduceCtorEq,ae,bq,br,h1,h2,eq_true h3,aR,h5',eq_true h6,bz,hvr,n24,eq_true h8,n2,n21,jd,hwd,kF,hW,g1])
  by_cases g2:rw=p.w
  rotate_left
  ·rw[spec 3 (by simp[h6,h8,n24,g2])]
   (rw[dy (aD rfl),cI];simp(disch:=omega)only[bR,↓aa,seval,-List.reduceReplicate,reduceCtorEq,ae,bq,br,h1,h2,eq_true h3,aR,h5',eq_true h6,bz,hvr,n24,eq_true h8,n2,n21,jd,hwd,kF,hW,eq_true g1,g2])
  rw[h3,ata]at h5
  obtain⟨a,hal⟩:∃a,p.args=[a]:=by
   match hp:p.args with
   | [a]=>exact⟨a,rfl⟩
   | []=>rw[hp]at h5;simp at h5
   |a::b::l=>rw[hp]at h5;simp at h5;omega
  have ha0:p.args[0]?=some a:=by rw[hal];rfl
  have hac:a.count≤1000000:=by have:=Term.cJ (l:=p.args) (a:=a) (by rw[hal];simp);omega
  have hpo:=DN a hac;have hL:=ad4 (σ:=[]) (rd:=none) a.post (by rw[Term.Jn];omega)
  have i0:=MH (k:=.i64) (σ:=[]) (es:=5) (aw (f:=Term.row) ha0) a.az;have hin:inner p=a.pre.any fun u=>decide (u.op∈[24,26]):=by unfold inner;rw[hal]
  rw[spec (if inner p=true then 12 else 0) (by simp[h3,h6,h8,g1,g2])]
  rw[hin];rw[Term.alj]at hL;cases hb:a.pre.any fun u=>decide (u.op∈[24,26])with
  |true=>
   rw[hb,if_pos rfl]at hL;obtain⟨⟨e,τ',σ',nt',rd'⟩,k1,k2,k3,k4⟩:=hL
   simp only at k2 k3 k4
   subst k2;subst k4
   (rw[dy (aD rfl),cI];simp(disch:=omega)only[bR,↓aa,seval,-List.reduceReplicate,reduceCtorEq,ae,bq,br,h1,h2,eq_true h3,aR,h5',eq_true h6,bz,hvr,n24,eq_true h8,n2,n21,jd,hwd,kF,hW,eq_true g1,eq_true g2,i0,jP,hpo,Lw,k1,k3])
  |false=>
   rw[hb,if_neg (by simp)]at hL
   (rw[dy (aD rfl),cI];simp(disch:=omega)only[bR,↓aa,seval,-List.reduceReplicate,reduceCtorEq,ae,bq,br,h1,h2,eq_true h3,aR,h5',eq_true h6,bz,hvr,n24,eq_true h8,n2,n21,jd,hwd,kF,hW,eq_true g1,eq_true g2,i0,jP,hpo,Lw,hL])
 ·by_cases n24:p.op=24∨p.op=25
  ·have n2:¬p.op=2:=by omega
   have n21:¬p.op=21:=by omega
   by_cases h8:p.v=0
   rotate_left
   ·rw[spec 4 (by simp[h8,n2,n21])]
    (rw[dy (aD rfl),cI];simp(disch:=omega)only[bR,↓aa,seval,-List.reduceReplicate,reduceCtorEq,ae,bq,br,h1,h2,h3,aR,h5',bz,hvr,n24,h8,n2,n21])
   cases h11:jr p.name with
   |false=>
    rw[spec 5 (by simp[h8,n24,h11])]
    (rw[dy (aD rfl),cI];simp(disch:=omega)only[bR,↓aa,seval,-List.reduceReplicate,reduceCtorEq,ae,bq,br,h1,h2,h3,aR,h5',bz,hvr,n24,eq_true h8,n2,n21,iQ,wS,h11])
   |true=>
    by_cases g1:re=0
    rotate_left
    ·rw[spec 3 (by simp[h8,n24,h11,g1])]
     (rw[dy (aD rfl),cI];simp(disch:=omega)only[bR,↓aa,seval,-List.reduceReplicate,reduceCtorEq,ae,bq,br,h1,h2,h3,aR,h5',bz,hvr,n24,eq_true h8,n2,n21,iQ,wS,h11,jd,hwd,kF,hW,g1])
    by_cases g2:rw=p.w
    rotate_left
    ·rw[spec 3 (by simp[h8,n24,h11,g2])]
     (rw[dy (aD rfl),cI];simp(disch:=omega)only[bR,↓aa,seval,-List.reduceReplicate,reduceCtorEq,ae,bq,br,h1,h2,h3,aR,h5',bz,hvr,n24,eq_true h8,n2,n21,iQ,wS,h11,jd,hwd,kF,hW,eq_true g1,g2])
    rw[spec 0 (by simp[h8,n24,h11,g1,g2,h3])]
    (rw[dy (aD rfl),cI];simp(disch:=omega)only[bR,↓aa,seval,-List.reduceReplicate,reduceCtorEq,ae,bq,br,h1,h2,h3,aR,h5',bz,hvr,n24,eq_true h8,n2,n21,iQ,wS,h11,jd,hwd,kF,hW,eq_true g1,eq_true g2])
  ·by_cases h6:p.name=bs []
   rotate_left
   ·rw[spec 4 (by simp[h6,n24])]
    (rw[dy (aD rfl),cI];simp(disch:=omega)only[bR,↓aa,seval,-List.reduceReplicate,reduceCtorEq,ae,bq,br,h1,h2,h3,aR,h5',h6,bz,hvr,n24])
   by_cases hv:¬p.v=0∧¬p.op=2∧¬p.op=21
   ·obtain⟨h8,h9,h10⟩:=hv
    rw[spec 4 (by simp[h8,h9,h10])]
    (rw[dy (aD rfl),cI];simp(disch:=omega)only[bR,↓aa,seval,-List.reduceReplicate,reduceCtorEq,ae,bq,br,h1,h2,h3,aR,h5',eq_true h6,bz,hvr,n24,h8,h9,h10])
   have hv8:¬((¬p.name=bs []∧¬(p.op=24∨p.op=25))∨(¬p.v=0∧¬p.op=2∧¬p.op=21)):=by
    rintro(h|h)
    ·exact h.1 h6
    ·exact hv h
   by_cases g1:re=0
   rotate_left
   ·rw[spec 3 (by rw[if_neg hv8];simp[n24,g1])]
    rcases cY (p.v=0)with h8|h8<;>rcases cY (p.op=2)with h9|h9<;>rcases cY (p.op=21)with h10|h10
    all_goals first
     |(exfalso;simp_all;done)
     |(rw[dy (aD rfl),cI];simp(disch:=omega)only[bR,↓aa,seval,-List.reduceReplicate,reduceCtorEq,ae,bq,br,h1,h2,h3,aR,h5',eq_true h6,bz,hvr,n24,h8,h9,h10,jd,hwd,kF,hW,g1])
   by_cases g2:rw=p.w
   rotate_left
   ·rw[spec 3 (by rw[if_neg hv8];simp[n24,g2])]
    rcases cY (p.v=0)with h8|h8<;>rcases cY (p.op=2)with h9|h9<;>rcases cY (p.op=21)with h10|h10
    all_goals first
     |(exfalso;simp_all;done)
     |(rw[dy (aD rfl),cI];simp(disch:=omega)only[bR,↓aa,seval,-List.reduceReplicate,reduceCtorEq,ae,bq,br,h1,h2,h3,aR,h5',eq_true h6,bz,hvr,n24,h8,h9,h10,jd,hwd,kF,hW,eq_true g1,g2])
   rw[spec 0 (by rw[if_neg hv8];simp[n24,g1,g2,h3])]
   rcases cY (p.v=0)with h8|h8<;>rcases cY (p.op=2)with h9|h9<;>rcases cY (p.op=21)with h10|h10
   all_goals first
    |(exfalso;simp_all;done)
    |(rw[dy (aD rfl),cI];simp(disch:=omega)only[bR,↓aa,seval,-List.reduceReplicate,reduceCtorEq,ae,bq,br,h1,h2,h3,aR,h5',eq_true h6,bz,hvr,n24,h8,h9,h10,jd,hwd,kF,hW,eq_true g1,eq_true g2])
def fO(ev:Bool):List Term→Int
 | []=>0
 |a::r=>if gm a ev=0 then fO ev r else gm a ev
theorem C0(ev:Bool):∀l m:List Term,fO ev (l++m)=if fO ev l=0 then fO ev m else fO ev l
 | [],m=>rfl
 |a::l,m=>by
  simp only[F9,fO];by_cases h:gm a ev=0
  ·simp only[h,if_true];exact C0 ev l m
  ·simp only[h,if_false]
abbrev NI(t:Term)(ev:Bool)(i:Int):List (Nat×AV):=[(1,.p (.bool ev)),(2,.p (.ptr t.row 0)),(9,.p (.aO (t.args.map Term.row))),(10,.p (.int .i64 t.args.length)),(11,.p (.int .i64 i))]
theorem Pq(ev:Bool):∀(l:List Term) (i:Nat),pP (fun _=>fO ev (Term.pS l)=0) (fun e=>fO ev (Term.pS l)=e∧e≠0) (aq (S:=Unit) (T:=Int) (fun _ _ a=>if fO ev a.post=0 then .inl ()else .inr (fO ev a.post)) i () l)
 | [],i=>rfl
 |a::l,i=>by
  simp only[aq,Term.pS,C0];by_cases h:fO ev a.post=0
  ·simp only[h,if_true];exact Pq ev l (i+1)
  ·simp only[h,if_false];exact⟨rfl,h⟩
theorem Ny(t:Term)(ev:Bool):iD t→t.count≤1000000→R P ik [.agg t.row,.bool ev]=some (.int .i64 (fO ev t.post)):=by
 induction t using Term.ind with
 |h t ih=>
 intro ht hc;have hlen:=Term.dL t.args;have hct:=Term.count_eq t
 have h:=eD (P:=P) (nt:=25) (rd:=none) (lv:=[1,2,9,10,11]) (b:=nd) (x:=0) (as:=t.args) (fun i (_:Unit)=>NI t ev i) (fun _=>[]) (fun _ _ a=>if fO ev a.post=0 then .inl ()else .inr (fO ev a.post))
  (fun s=>⟨ef (tm (NI t ev t.args.length)) 12 (.p (.bool false)),[],25,none⟩) (fun e=>b7 4 (.int .i64 e) []) (fun _ _=>True)
  (fun i a s ha hi hs=>by
   refine⟨fun _ _=>trivial,?_⟩
   have hm:=mR ha;have hac:=Term.cJ hm;have hr:=ih a hm (ht.args hm) (by omega)
   have hlt:((i:Int)<t.args.length)=True:=by simpa using hi
   by_cases hf:fO ev a.post=0
   ·simp only[nd]
    simp(disch:=omega)only[bR,↓aa,seval,-List.reduceReplicate,reduceCtorEq,ae,hlt,aH (aw (f:=Term.row) ha) a.az,lK,hr,eq_true hf]
   ·simp only[nd]
    simp(disch:=omega)only[bR,↓aa,seval,-List.reduceReplicate,reduceCtorEq,ae,hlt,aH (aw (f:=Term.row) ha) a.az,lK,hr,hf,b7]) (fun s hs=>by
   simp only[nd];simp(disch:=omega)only[bR,↓aa,seval,-List.reduceReplicate,reduceCtorEq,ae,lH]) (fun i s=>rfl) () trivial
 have hn:=Ra t ev ht hc;have hf:=Pq ev t.args 0;rw[Term.Bi,C0];simp only[fO];cases hfe:aq (S:=Unit) (T:=Int) (fun _ _ a=>if fO ev a.post=0 then .inl ()else .inr (fO ev a.post)) 0 () t.args with
 |inl s=>
  rw[hfe]at h hf;have h':al P rj (NI t ev 0) [] 25 none=_:=h;have hf':fO ev (Term.pS t.args)=0:=hf;rw[hf']
  (rw[DL (aD rfl),lE];simp(disch:=omega)only[bR,↓aa,seval,-List.reduceReplicate,reduceCtorEq,ae,aR,Cb,h',Qz,hn])
  by_cases h0:gm t ev=0<;>simp[h0]
 |inr e=>
  rw[hfe]at h hf;obtain⟨⟨e',τ',σ',nt',rd'⟩,g1,g2,g3,g4⟩:=h
  simp only at g2 g3 g4
  subst g2;subst g4;have h':al P rj (NI t ev 0) [] 25 none=some (.ret,⟨τ',[],nt',rd'⟩):=g1;have hf':fO ev (Term.pS t.args)=e∧e≠0:=hf;rw[hf'.1,if_neg hf'.2]
  (rw[DL (aD rfl),lE];simp(disch:=omega)only[bR,↓aa,seval,-List.reduceReplicate,reduceCtorEq,ae,aR,Cb,h',g3])
def ent(e:ByteArray×Term):PV×AV:=(.str e.1,.p (.agg e.2.row))
def D2:List (ByteArray×Term)→ByteArray→Option Term
 | [],_=>none
 |e::r,k=>if k=e.1 then some e.2 else D2 r k
def NS(u:Term):List (ByteArray×Term)→List (ByteArray×Term)
 | []=>[(u.name,u)]
 |e::r=>if u.name=e.1 then(u.name,u)::r else e::NS u r
theorem En(a b:ByteArray):pF .str (.str a) (.str b)=some (decide (a=b)):=by
 simp only[pF]
 congr 1
 rw[abC];simp[wi]
theorem Ya(k:ByteArray):∀s:List (ByteArray×Term),findKey .str (.str k) (s.map ent)=some ((D2 s k).map fun u=>.p (.agg u.row))
 | []=>rfl
 |e::r=>by
  simp only[rK,findKey,ent,En,D2];by_cases h:k=e.1
  ·simp[h]
  ·simp only[h,decide_false,if_false]
   exact Ya k r
theorem agx(u:Term):∀s:List (ByteArray×Term),vG .str (.str u.name) (.p (.agg u.row)) (s.map ent)=some ((NS u s).map ent)
 | []=>rfl
 |e::r=>by
  simp only[rK,vG,ent,En,NS];by_cases h:u.name=e.1
  ·simp[h,ent]
  ·simp only[h,decide_false,if_false]
   rw[agx u r];rfl
theorem B2(n:Nat)(s:List (ByteArray×Term)):((s.map ent).all fun e=>AE.below n e.2)=true:=by
 rw[CS];intro x hx;obtain⟨e,_,rfl⟩:=Gq.1 hx;exact NF
def isVar(u:Term):Bool:=decide (u.op=24∨u.op=25)
def tF(s:List (ByteArray×Term))(u:Term):List (ByteArray×Term) ⊕ List (ByteArray×Term) :=
 if isVar u=true then
  match D2 s u.name with
  |some o=>if o.op=u.op∧o.w=u.w then .inl (NS u s)else .inr s
  |none=>.inl (NS u s)
 else .inl s
abbrev sC(c:Int)(s:List (ByteArray×Term)):ah:=[.pv 1 [[.int .i64 c]] false,.map (s.map ent) false,.av 1 [[.map 1]] false]
theorem JU{a:Obj}{es es':List (PV×AV)}{r:ah}{kl:ny}{k:PV}{v:AV}(h:tj kl k=true)(h':vG kl k v es=some es'):PR (a::.map es false::r) kl (.map 1) (.p k) v=some (.any,a::.map es' false::r):=by
 simp[PR,h,h']
theorem Z9{a:Obj}{es:List (PV×AV)}{r:ah}:aky (a::.map es false::r) (.map 1)=some (.p (.int .i64 es.length)):=rfl
theorem aoo(t:Term)(hc:t.count≤1000000):nN P [27] eM eN (.p (.fn cg [.ptr t.row 0])) [(4,.ptr 0 1 0 0),(6,.ptr 2 1 0 0)] (sC 0 []) 61 none=some (lp (sC 0) (fun s=>(.ret,sC 12 s)) (aq (fun _ s u=>tF s u) 0 [] t.pre)):=by
 refine F0 (rd:=none) (kept:=[(4,.ptr 0 1 0 0),(6,.ptr 2 1 0 0)]) (ps:=[27]) (iy:=eM) (b:=eN) (nt:=61) t hc ⟨rfl,rfl⟩ (sC 0) (fun _ s u=>tF s u) (fun s=>(.ret,sC 12 s))
  (fun _ _=>True) [] rfl (fun _=>rfl) (fun _=>rfl) (fun s=>by simp only[sC,Uj,abS,zd,Ac,wG,B2,B3];rfl) (fun s=>by simp only[sC,Uj,abS,zd,Ac,wG,B2,B3];rfl) (fun _=>by simp) (fun i u s ha _=>?_) trivial
 refine⟨fun _ _=>trivial,?_⟩
 simp only[sC,F9,y8];rw[Cz rfl ⟨rfl,rfl,rfl⟩];have hpv:=bF u.op;unfold tF isVar;by_cases hv:u.op=24∨u.op=25
 rotate_left
 ·simp only[eM,eN]
  simp(disch:=omega)only[bR,↓aa,seval,-List.reduceReplicate,reduceCtorEq,ae,bk,hpv,hv,B2]
 ·have hfk:=Ya u.name s
  have hsk:=agx u s;simp only[hv];cases hl:D2 s u.name with
  |none=>
   rw[hl]at hfk;have hlk:=fun r=>TM (r:=r) (a:=.pv 1 [[.int .i64 0]] false) (z:=.agg [.p (.int .i64 0),.p (.int .i64 0),.p (.int .u64 0),.p (.str (bs [])),.aA]) (kl:=.str) (k:=.str u.name) rfl hfk
   simp only[eM,eN];simp(disch:=omega)only[bR,↓aa,seval,-List.reduceReplicate,reduceCtorEq,ae,bk,hpv,hv,B2,hlk,JU rfl hsk]
  |some o=>
   rw[hl]at hfk;have hlk:=fun r=>TN (r:=r) (a:=.pv 1 [[.int .i64 0]] false) (z:=.agg [.p (.int .i64 0),.p (.int .i64 0),.p (.int .u64 0),.p (.str (bs [])),.aA]) (kl:=.str) (k:=.str u.name) rfl hfk
   simp only[eM,eN];rcases cY (o.op=u.op)with h1|h1<;>rcases cY (o.w=u.w)with h2|h2<;>simp(disch:=omega)only[bR,↓aa,seval,-List.reduceReplicate,reduceCtorEq,ae,bk,hpv,hv,B2,hlk,h1,h2,JU rfl hsk]
def cW(p:Term)(ev:Bool):Int :=
 if 4096<p.count∨64<p.deep then 7
 else if ¬fO ev p.post=0 then fO ev p.post
 else match aq (fun _ s u=>tF s u) 0 [] p.pre with
  |.inl s=>if 16<s.length then 7 else 0
  |.inr _=>12
theorem sx(p:Term)(ev:Bool)(ht:iD p)(hc:p.count≤1000000):R P eJ [.agg p.row,.bool ev]=some (.int .i64 (cW p ev)):=by
 have h1:=ZO p hc;have h2:=Wg p hc;have h3:=Ny p ev ht hc;have h4:=aoo p hc;unfold cW;by_cases g1:(4096:Int)<p.count
 ·rw[if_pos (by omega)]
  (rw[lL (aD rfl),eG];simp(disch:=omega)only[bR,↓aa,seval,-List.reduceReplicate,reduceCtorEq,ae,qW,h1,g1])
 by_cases g2:(64:Int)<p.deep
 ·rw[if_pos (by omega)]
  (rw[lL (aD rfl),eG];simp(disch:=omega)only[bR,↓aa,seval,-List.reduceReplicate,reduceCtorEq,ae,qW,h1,g1,rB,h2,g2])
 rw[if_neg (by omega)]
 by_cases g3:fO ev p.post=0
 rotate_left
 ·rw[if_pos g3]
  (rw[lL (aD rfl),eG];simp(disch:=omega)only[bR,↓aa,seval,-List.reduceReplicate,reduceCtorEq,ae,qW,h1,g1,rB,h2,g2,lK,h3,g3])
 rw[if_neg (by simpa using g3)]
 cases hf:aq (fun _ s u=>tF s u) 0 [] p.pre with
 |inr s=>
  rw[hf]at h4;have h4':nN P [27] eM eN (.p (.fn cg [.ptr p.row 0])) [(4,.ptr 0 1 0 0),(6,.ptr 2 1 0 0)] [.pv 1 [[.int .i64 0]] false,.map [] false,.av 1 [[.map 1]] false] 61 none=some (.ret,sC 12 s):=h4
  (rw[lL (aD rfl),eG];simp(disch:=omega)only[bR,↓aa,seval,-List.reduceReplicate,reduceCtorEq,ae,qW,h1,g1,rB,h2,g2,lK,h3,eq_true g3,iP,iR,ve,h4'])
 |inl s=>
  rw[hf]at h4;have h4':nN P [27] eM eN (.p (.fn cg [.ptr p.row 0])) [(4,.ptr 0 1 0 0),(6,.ptr 2 1 0 0)] [.pv 1 [[.int .i64 0]] false,.map [] false,.av 1 [[.map 1]] false] 61 none=some (.normal,sC 0 s):=h4;by_cases g4:(16:Int)<s.length
  ·simp only
   rw[if_pos (by omega)]
   (rw[lL (aD rfl),eG];simp(disch:=omega)only[bR,↓aa,seval,-List.reduceReplicate,reduceCtorEq,ae,qW,h1,g1,rB,h2,g2,lK,h3,eq_true g3,iP,iR,ve,h4',Z9,aR,g4])
  ·simp only
   rw[if_neg (by omega)]
   (rw[lL (aD rfl),eG];simp(disch:=omega)only[bR,↓aa,seval,-List.reduceReplicate,reduceCtorEq,ae,qW,h1,g1,rB,h2,g2,lK,h3,eq_true g3,iP,iR,ve,h4',Z9,aR,g4])
def aiy(n:ByteArray):List PV:=[.str n]
def wz(u:Term)(_:Nat)(s:Bool)(a:Term):Bool ⊕ Unit :=
 if isVar a=true∧a.name=u.name then(if ¬a.w=u.w∨¬a.op=u.op then .inr ()else .inl true)else .inl s
def wH(l:List Term)(i:Nat)(s:List ByteArray)(u:Term):List ByteArray ⊕ Unit :=
 if isVar u=true then
  match aq (wz u) 0 false (l.take i)with
  |.inr _=>.inr ()
  |.inl again=>.inl (if again=true then s else s++[u.name])
 else .inl s
abbrev ahj(l:List Term)(n:Nat)(i:Int)(s:Bool)(k:Int):List (Nat×AV):=[(4,.p (.aO (l.map Term.row))),(5,.sl 0 n),(6,.p (.int .i64 i)),(7,.p (.bool s)),(8,.p (.int .i64 k))]
def aij(r:Ex×St):Prop:=r.1=.ret∧r.2.τ.get 2=.aA∧r.2.τ.get 3=.p (.bool false)
theorem akm(l:List Term)(n:Nat)(i:Nat)(u:Term)(hu:l[i]?=some u)(hl:l.length≤1000000) :
  pP (fun s=>al P uW (ahj l n i false 0) σ 82 rd=some (.exit 2,⟨ef (ef (ef (tm (ahj l n i s i)) 24 (.p (.int .i64 i))) 25 (.p (.int .i64 i))) 26 (.p (.bool false)),σ,82,rd⟩))
   (fun(_:Unit)=>∃r,al P uW (ahj l n i false 0) σ 82 rd=some r∧aij r) (aq (wz u) 0 false (l.take i)):=by
 have hi:i<l.length:=(gA.1 hu).1;have hlen:(l.take i).length=i:=by rw[abz];omega
 have hui:=aH (k:=.i64) (σ:=σ) (aw (f:=Term.row) hu) u.az
 have h:=eD (P:=P) (nt:=82) (rd:=rd) (lv:=[4,5,6,7,8]) (b:=q9) (x:=2) (as:=l.take i) (fun k (s:Bool)=>ahj l n i s k) (fun _=>σ) (wz u)
  (fun s=>⟨ef (ef (ef (tm (ahj l n i s i)) 24 (.p (.int .i64 i))) 25 (.p (.int .i64 i))) 26 (.p (.bool false)),σ,82,rd⟩) (fun(_:Unit)=>aij) (fun _ _=>True)
  (fun k a s ha hk hs=>by
   refine⟨fun _ _=>trivial,?_⟩
   rw[hlen]at hk;have ha':l[k]?=some a:=by rw[WC hk]at ha;exact ha
   have hlt:((k:Int)<i)=True:=by simpa using hk
   have hai:=aH (k:=.i64) (σ:=σ) (aw (f:=Term.row) ha') a.az;have hv:=vE a;unfold wz isVar;by_cases h1:a.op=24∨a.op=25
   rotate_left
   ·simp only[q9,h1]
    simp(disch:=omega)only[bR,↓aa,seval,-List.reduceReplicate,reduceCtorEq,ae,hlt,hai,bz,hv,h1]
   rcases cY (a.name=u.name)with h2|h2
   rotate_left
   ·simp only[q9,h1]
    simp(disch:=omega)only[bR,↓aa,seval,-List.reduceReplicate,reduceCtorEq,ae,hlt,hai,hui,bz,hv,h1,h2]
   rcases cY (a.w=u.w)with h3|h3<;>rcases cY (a.op=u.op)with h4|h4<;>simp only[q9,h1]<;>simp(disch:=omega)only[bR,↓aa,seval,-List.reduceReplicate,reduceCtorEq,ae,hlt,hai,hui,bz,hv,h1,h2,h3,h4,aij]) (fun s hs=>by
   rw[hlen];simp only[q9];simp(disch:=omega)only[bR,↓aa,seval,-List.reduceReplicate,reduceCtorEq,ae,lH]) (fun i s=>rfl) false trivial
 exact h
abbrev U3(l:List Term)(s:List ByteArray)(i:Int):List (Nat×AV):=[(4,.p (.aO (l.map Term.row))),(5,.sl 0 s.length),(6,.p (.int .i64 i))]
abbrev sS(s:List ByteArray):ah:=[.pv 1 (s.map aiy) false]
theorem akh(l:List Term)(hl:l.length≤1000000) :
  pP (fun s=>al P rl (U3 l [] 0) (sS []) 82 none=some (.exit 0,⟨ef (ef (ef (ef (tm (U3 l s l.length)) 12 (.p (.int .i64 l.length))) 13 (.p (.aO (l.map Term.row)))) 14 (.p (.int .i64 l.length))) 15 (.p (.bool false)),sS s,82,none⟩))
   (fun(_:Unit)=>∃r,al P rl (U3 l [] 0) (sS []) 82 none=some r∧aij r) (aq (wH l) 0 [] l):=by
 have h:=eD (P:=P) (nt:=82) (rd:=none) (lv:=[4,5,6]) (b:=oq) (x:=0) (as:=l) (fun i s=>U3 l s i) sS (wH l)
  (fun s=>⟨ef (ef (ef (ef (tm (U3 l s l.length)) 12 (.p (.int .i64 l.length))) 13 (.p (.aO (l.map Term.row)))) 14 (.p (.int .i64 l.length))) 15 (.p (.bool false)),sS s,82,none⟩) (fun(_:Unit)=>aij) (fun i s=>s.length≤i)
  (fun i u s hu hi hs=>by
   have hlt:((i:Int)<l.length)=True:=by simpa using hi
   have hui:=aH (k:=.i64) (σ:=sS s) (aw (f:=Term.row) hu) u.az;have hui2:=aH (k:=.i64) (σ:=[.pv 1 (s.map aiy) false]) (aw (f:=Term.row) hu) u.az;have hv:=vE u;have hL:=akm (σ:=sS s) (rd:=none) l s.length i u hu hl;have hap:=dP (σ:=[.pv 1 (s.map aiy) false,.pv 1 [[.str u.name]] false]) (b:=0) (n:=s.length) (e:=1) (es:=1) (bytes:=16) (rows:=s.map aiy) (new:=[[.str u.name]]) rfl (by simp) (.inl rfl) (by simp only[lZ,nz];omega)
   unfold wH isVar;by_cases h1:u.op=24∨u.op=25
   rotate_left
   ·refine⟨fun s' he=>?_,?_⟩
    ·simp only[h1,decide_false,lG,if_false,abw]at he
     subst he;omega
    ·simp only[oq,h1]
     simp(disch:=omega)only[bR,↓aa,seval,-List.reduceReplicate,reduceCtorEq,ae,hlt,hui,aR,bz,hv,h1,U3,sS]
   ·simp only[h1,decide_true,if_true]
    cases hf:aq (wz u) 0 false (l.take i)with
    |inr x=>
     rw[hf]at hL;obtain⟨⟨e,τ',σ',nt',rd'⟩,k1,k2,k3,k4⟩:=hL
     simp only at k2 k3 k4
     subst k2;refine⟨fun s' he=>(by cases he),?_⟩
     simp only[oq];simp(disch:=omega)only[bR,↓aa,seval,-List.reduceReplicate,reduceCtorEq,ae,hlt,hui,aR,bz,hv,h1,U3,sS,C9,k1,aij,k3,k4]
    |inl again=>
     rw[hf]at hL;have hL':al P uW (ahj l s.length i false 0) (sS s) 82 none=_:=hL;refine⟨fun s' he=>?_,?_⟩
     ·simp only[abw]at he
      subst he;split
      ·omega
      ·rw[jS];simp only[lZ,nz];omega
     ·cases again with
      |true=>
       simp only[oq];simp(disch:=omega)only[bR,↓aa,seval,-List.reduceReplicate,reduceCtorEq,ae,hlt,hui,aR,bz,hv,h1,U3,sS,C9,hL']
      |false=>
       simp only[oq];simp(disch:=omega)only[bR,↓aa,seval,-List.reduceReplicate,reduceCtorEq,ae,hlt,hui,hui2,aR,bz,hv,h1,U3,sS,C9,hL',hap,CR,jS,aiy]) (fun s hs=>by
   simp only[oq];simp(disch:=omega)only[bR,↓aa,seval,-List.reduceReplicate,reduceCtorEq,ae,lH,aR]) (fun i s=>rfl) [] (by simp)
 exact h
theorem ZJ(t:Term)(hc:t.count≤1000000):R P qI [.agg t.row]=some (match aq (wH t.pre) 0 [] t.pre with
  |.inl s=>.jY [.aO (s.map aiy),.bool true]
  |.inr _=>.jY [.aO [],.bool false]):=by
 have hp:=qZ t hc;have hL:=akh t.pre (by rw[Term.nc];omega)
 cases hf:aq (wH t.pre) 0 [] t.pre with
 |inl s=>
  rw[hf]at hL;have hL':al P rl [(4,.p (.aO (t.pre.map Term.row))),(5,.sl 0 0),(6,.p (.int .i64 0))] [.pv 1 [] false] 82 none=_:=hL
  (rw[Mp (aD rfl),tv];simp(disch:=omega)only[bR,↓aa,seval,-List.reduceReplicate,reduceCtorEq,ae,eE,hp,IA,hL',aR])
 |inr x=>
  rw[hf]at hL;obtain⟨⟨e,τ',σ',nt',rd'⟩,k1,k2,k3,k4⟩:=hL
  simp only at k2 k3 k4
  subst k2;have hL':al P rl [(4,.p (.aO (t.pre.map Term.row))),(5,.sl 0 0),(6,.p (.int .i64 0))] [.pv 1 [] false] 82 none=some (.ret,⟨τ',σ',nt',rd'⟩):=k1
  (rw[Mp (aD rfl),tv];simp(disch:=omega)only[bR,↓aa,seval,-List.reduceReplicate,reduceCtorEq,ae,eE,hp,IA,hL',k3,k4])
def yu(u a:Term):Bool:=isVar a && decide (a.name=u.name) && (!decide (a.w=u.w) || !decide (a.op=u.op))
def K8(u a:Term):Bool:=isVar a && decide (a.name=u.name)
theorem Hh(u:Term):∀(l:List Term) (i:Nat) (s:Bool),aq (wz u) i s l=if l.any (yu u)=true then .inr ()else .inl (s ||l.any (K8 u))
 | [],i,s=>by simp[aq]
 |a::l,i,s=>by
  by_cases h1:isVar a=true∧a.name=u.name
  ·have ht:K8 u a=true:=by simp[K8,h1.1,h1.2]
   by_cases h2:¬a.w=u.w∨¬a.op=u.op
   ·have hc:yu u a=true:=by
     simp only[yu,h1.1,h1.2,decide_true,RA,Uk,RC,abi,decide_eq_false_iff_not];exact h2
    have e:wz u i s a=.inr ():=by rw[wz,if_pos h1,if_pos h2]
    simp only[aq,e,abt,hc,Ul,if_true]
   ·have hc:yu u a=false:=by
     rw[not_or,Decidable.not_not,Decidable.not_not]at h2;simp[yu,h2.1,h2.2]
    have e:wz u i s a=.inl true:=by rw[wz,if_pos h1,if_neg h2]
    simp only[aq,e,abt,hc,ht,J5,Ul,acd];exact Hh u l (i+1) true
  ·have ht:K8 u a=false:=by
    rw[abG];simpa[K8]using h1
   have hc:yu u a=false:=by
    have:=ht;simp only[K8]at this;simp[yu,this]
   have e:wz u i s a=.inl s:=by rw[wz,if_neg h1]
   simp only[aq,e,abt,hc,ht,J5];exact Hh u l (i+1) s
structure Inv (pre:List Term) (es:List (ByteArray×Term)) (out:List ByteArray):Prop where
 names:es.map (·.1)=out
 ani:∀e∈es,isVar e.2=true∧e.2.name=e.1∧e.2∈pre
 all:∀a∈pre,isVar a=true→∃o,D2 es a.name=some o∧o.op=a.op∧o.w=a.w
theorem aqL{es:List (ByteArray×Term)}{k:ByteArray}{o:Term}(h:D2 es k=some o):(k,o)∈es:=by
 induction es with
 |nil=>cases h
 |cons e r ih=>
  simp only[D2]at h;split at h
  ·rename_i hk
   cases h;rw[hk];simp
  ·exact abp _ (ih h)
theorem aoE{es:List (ByteArray×Term)}{u:Term}(h:D2 es u.name=none):NS u es=es++[(u.name,u)]:=by
 induction es with
 |nil=>rfl
 |cons e r ih=>
  simp only[D2]at h;split at h
  ·cases h
  ·rename_i hk
   simp only[NS,hk,if_false,ih h,F9]
theorem alY{es:List (ByteArray×Term)}{u o:Term}(h:D2 es u.name=some o):(NS u es).map (·.1)=es.map (·.1):=by
 induction es with
 |nil=>cases h
 |cons e r ih=>
  simp only[D2]at h;simp only[NS];split at h
  ·rename_i hk
   simp[hk]
  ·rename_i hk
   simp only[hk,if_false,rK,ih h]
theorem alX{es:List (ByteArray×Term)}{u:Term}{e:ByteArray×Term}(h:e∈NS u es):e=(u.name,u)∨e∈es:=by
 induction es with
 |nil=>simp[NS]at h;exact .inl h
 |cons x r ih=>
  simp only[NS]at h;split at h
  ·rcases pU.1 h with h|h
   ·exact .inl h
   ·exact .inr (by simp[h])
  ·rcases pU.1 h with h|h
   ·exact .inr (by simp[h])
   ·rcases ih h with h|h
    ·exact .inl h
    ·exact .inr (by simp[h])
theorem apv{es:List (ByteArray×Term)}{u:Term}{k:ByteArray}:D2 (NS u es) k=if k=u.name then some u else D2 es k:=by
 induction es with
 |nil=>simp[NS,D2]
 |cons e r ih=>
  simp only[NS];by_cases h:u.name=e.1
  ·rw[if_pos h]
   simp only[D2];by_cases hk:k=u.name
   ·simp[hk]
   ·simp[hk,show ¬k=e.1 from fun x=>hk (x.trans h.symm)]
  ·rw[if_neg h]
   simp only[D2,ih];by_cases hk:k=e.1
   ·rw[if_pos hk,if_neg (fun x=>h (x.symm.trans hk)),if_pos hk]
   ·rw[if_neg hk,if_neg hk]
theorem Od(l:List Term):∀(r pre:List Term) (es:List (ByteArray×Term)) (out:List ByteArray) (i:Nat),l=pre++r→Inv pre es out →
  match aq (fun _ s u=>tF s u) i es r,aq (wH l) pre.length out r with
  |.inl s,.inl o=>s.length=o.length
  |.inr _,.inr _=>True
  |_,_=>False
 | [],pre,es,out,i,_,hI=>by
  simp only[aq];rw[←hI.names,aR]
 |u::r,pre,es,out,i,hl,hI=>by
  simp only[aq];have htk:l.take pre.length=pre:=by rw[hl];simp
  have next:∀es' out',Inv (pre++[u]) es' out'→match aq (fun _ s u=>tF s u) (i+1) es' r,aq (wH l) (pre.length+1) out' r with
    |.inl s,.inl o=>s.length=o.length
    |.inr _,.inr _=>True
    |_,_=>False:=by
   intro es' out' hI';have:=Od l r (pre++[u]) es' out' (i+1) (by rw[hl];simp) hI'
   simpa using this
  cases hv:isVar u with
  |false=>
   have e1:tF es u=.inl es:=by simp[tF,hv]
   have e2:wH l pre.length out u=.inl out:=by simp[wH,hv]
   rw[e1,e2];refine next es out ⟨hI.names,fun e he=>?_,fun a ha hva=>?_⟩
   ·obtain⟨h1,h2,h3⟩:=hI.ani e he
    exact⟨h1,h2,by simp[h3]⟩
   ·rcases D6.1 ha with ha|ha
    ·exact hI.all a ha hva
    ·simp only[J7]at ha
     rw[ha,hv]at hva;cases hva
  |true=>
   have hin:=Hh u pre 0 false
   have e2:wH l pre.length out u=match aq (wz u) 0 false pre with
     |.inr _=>.inr ()
     |.inl again=>.inl (if again=true then out else out++[u.name]):=by
    (simp only[wH,hv,if_true,htk])<;>rfl
   have e1:tF es u=match D2 es u.name with
     |some o=>if o.op=u.op∧o.w=u.w then .inl (NS u es)else .inr es
     |none=>.inl (NS u es):=by(simp only[tF,hv,if_true])<;>rfl
   rw[e1,e2,hin];cases hk:D2 es u.name with
   |none=>
    have hno:∀a∈pre,K8 u a=false:=by
     intro a ha;rw[abG];intro ht;simp only[K8,vM,decide_eq_true_eq]at ht;obtain⟨o,ho,_⟩:=hI.all a ha ht.1;rw[ht.2,hk]at ho;cases ho
    have h1:pre.any (yu u)=false:=by
     rw[RB];intro a ha;have:=hno a ha;simp only[K8]at this;simp[yu,this]
    have h2:pre.any (K8 u)=false:=by
     rw[RB];intro a ha;simp[hno a ha]
    simp only[h1,h2,lG,if_false,Bool.or_self];refine next _ _ ⟨?_,fun e he=>?_,fun a ha hva=>?_⟩
    ·rw[aoE hk,CR,hI.names];rfl
    ·rcases alX he with rfl|he
     ·exact⟨hv,rfl,by simp⟩
     ·obtain⟨h1,h2,h3⟩:=hI.ani e he
      exact⟨h1,h2,by simp[h3]⟩
    ·rw[apv]
     rcases D6.1 ha with ha|ha
     ·by_cases hn:a.name=u.name
      ·have:=hno a ha
       simp[K8,hva,hn]at this
      ·rw[if_neg hn]
       exact hI.all a ha hva
     ·simp only[J7]at ha
      subst ha;rw[if_pos rfl];exact⟨_,rfl,rfl,rfl⟩
   |some o=>
    obtain⟨o1,o2,o3⟩:=hI.ani _ (aqL hk)
    simp only at o1 o2 o3
    by_cases ho:o.op=u.op∧o.w=u.w
    ·have h1:pre.any (yu u)=false:=by
      rw[RB];intro a ha hc;simp only[yu,vM,decide_eq_true_eq,RC,abi,decide_eq_false_iff_not]at hc;obtain⟨o',h1,h2,h3⟩:=hI.all a ha hc.1.1;rw[hc.1.2,hk]at h1;cases h1;rcases hc.2 with h|h
      ·exact h (h3.symm.trans ho.2)
      ·exact h (h2.symm.trans ho.1)
     have h2:pre.any (K8 u)=true:=by
      rw[abE];exact⟨o,o3,by simp[K8,o1,o2]⟩
     simp only[h1,h2,lG,if_false,acd,if_true,ho,and_self];refine next _ _ ⟨?_,fun e he=>?_,fun a ha hva=>?_⟩
     ·rw[alY hk];exact hI.names
     ·rcases alX he with rfl|he
      ·exact⟨hv,rfl,by simp⟩
      ·obtain⟨h1,h2,h3⟩:=hI.ani e he
       exact⟨h1,h2,by simp[h3]⟩
     ·rw[apv]
      rcases D6.1 ha with ha|ha
      ·by_cases hn:a.name=u.name
       ·rw[if_pos hn]
        obtain⟨o',k1,k2,k3⟩:=hI.all a ha hva;rw[hn,hk]at k1;cases k1;exact⟨_,rfl,ho.1.symm.trans k2,ho.2.symm.trans k3⟩
       ·rw[if_neg hn]
        exact hI.all a ha hva
      ·simp only[J7]at ha
       subst ha;rw[if_pos rfl];exact⟨_,rfl,rfl,rfl⟩
    ·have h1:pre.any (yu u)=true:=by
      rw[abE];refine⟨o,o3,?_⟩;simp only[yu,o1,o2,decide_true,RA,Uk,RC,abi,decide_eq_false_iff_not];by_cases hw:o.w=u.w
      ·exact .inr fun h=>ho ⟨h,hw⟩
      ·exact .inl hw
     simp only[h1,if_true,ho,if_false]
abbrev H7(t:Term)(ev:Bool)(i:Int):List (Nat×AV):=[(1,.p (.bool ev)),(2,.p (.ptr t.row 0)),(5,.p (.aO (t.post.map Term.row))),(6,.p (.int .i64 i))]
theorem Po(ev:Bool):∀(l:List Term) (i:Nat),pP (fun _=>fO ev l=0) (fun e=>fO ev l=e∧e≠0) (aq (S:=Unit) (T:=Int) (fun _ _ a=>if gm a ev=0 then .inl ()else .inr (gm a ev)) i () l)
 | [],i=>rfl
 |a::l,i=>by
  simp only[aq,fO];by_cases h:gm a ev=0
  ·simp only[h,if_true];exact Po ev l (i+1)
  ·simp only[h,if_false];exact⟨rfl,h⟩
theorem al6{t:Term}:iD t→t.count≤1000000→∀a∈t.post,iD a∧a.count≤1000000:=by
 induction t using Term.ind with
 |h t ih=>
 intro ht hc a ha;rw[Term.Bi,Term.Jo]at ha;rcases D6.1 ha with ha|ha
 ·obtain⟨b,hb,hab⟩:=MK.1 ha
  have:=Term.cJ hb;have:=Term.count_eq t;exact ih b hb (ht.args hb) (by omega) a hab
 ·simp only[J7]at ha
  subst ha;exact⟨ht,hc⟩
theorem Bu(p:Term)(ev:Bool)(ht:iD p)(hc:p.count≤1000000):R P kA [.agg p.row,.bool ev]=some (.int .i64 (cW p ev)):=by
 have h1:=ZI p ht 4096 (by omega) (by omega)
 have h2:=ae9 p ht 64 (by omega)
 have hpo:=DN p hc;have hpl:=Term.Jn p;unfold cW;by_cases g1:(p.count:Int)≤4096
 rotate_left
 ·rw[if_pos (by omega)]
  (rw[tY (aD rfl),kj];simp(disch:=omega)only[bR,↓aa,seval,-List.reduceReplicate,reduceCtorEq,ae,tW,h1,g1])
 by_cases g2:(64:Int)<p.deep
 ·rw[if_pos (by omega)]
  (rw[tY (aD rfl),kj];simp(disch:=omega)only[bR,↓aa,seval,-List.reduceReplicate,reduceCtorEq,ae,tW,h1,g1,tk,h2,g2])
 rw[if_neg (by omega)]
 have h:=eD (P:=P) (nt:=44) (rd:=none) (lv:=[1,2,5,6]) (b:=uu) (x:=0) (as:=p.post) (fun i (_:Unit)=>H7 p ev i) (fun _=>[]) (fun _ _ a=>if gm a ev=0 then .inl ()else .inr (gm a ev))
  (fun s=>⟨ef (ef (ef (ef (tm (H7 p ev p.post.length)) 19 (.p (.int .i64 p.post.length))) 20 (.p (.aO (p.post.map Term.row)))) 21 (.p (.int .i64 p.post.length))) 22 (.p (.bool false)),[],44,none⟩) (fun e=>b7 4 (.int .i64 e) []) (fun _ _=>True)
  (fun i a s ha hi hs=>by
   refine⟨fun _ _=>trivial,?_⟩
   obtain⟨hta,hca⟩:=al6 ht hc a (mR ha);have hr:=afb a ev hta hca;have hlt:((i:Int)<p.post.length)=True:=by simpa using hi
   by_cases hf:gm a ev=0
   ·simp only[uu]
    simp(disch:=omega)only[bR,↓aa,seval,-List.reduceReplicate,reduceCtorEq,ae,hlt,aR,aH (aw (f:=Term.row) ha) a.az,QB,hr,eq_true hf]
   ·simp only[uu]
    simp(disch:=omega)only[bR,↓aa,seval,-List.reduceReplicate,reduceCtorEq,ae,hlt,aR,aH (aw (f:=Term.row) ha) a.az,QB,hr,hf,b7]) (fun s hs=>by
   simp only[uu];simp(disch:=omega)only[bR,↓aa,seval,-List.reduceReplicate,reduceCtorEq,ae,lH,aR]) (fun i s=>rfl) () trivial
 have hf:=Po ev p.post 0;cases hfe:aq (S:=Unit) (T:=Int) (fun _ _ a=>if gm a ev=0 then .inl ()else .inr (gm a ev)) 0 () p.post with
 |inr e=>
  rw[hfe]at h hf;obtain⟨⟨e',τ',σ',nt',rd'⟩,k1,k2,k3,k4⟩:=h
  simp only at k2 k3 k4
  subst k2;subst k4;have h':al P yI (H7 p ev 0) [] 44 none=some (.ret,⟨τ',[],nt',rd'⟩):=k1;have hf':fO ev p.post=e∧e≠0:=hf;rw[hf'.1,if_pos hf'.2]
  (rw[tY (aD rfl),kj];simp(disch:=omega)only[bR,↓aa,seval,-List.reduceReplicate,reduceCtorEq,ae,tW,h1,g1,tk,h2,g2,jP,hpo,yQ,h',k3])
 |inl s=>
  rw[hfe]at h hf;have h':al P yI (H7 p ev 0) [] 44 none=_:=h;have hf':fO ev p.post=0:=hf;rw[if_neg (by simpa using hf')]
  have hnm:=ZJ p hc;have hbn:=Od p.pre p.pre [] [] [] 0 rfl ⟨rfl,by simp,by simp⟩
  simp only[nz]at hbn;cases hb:aq (fun _ s u=>tF s u) 0 [] p.pre with
  |inr x=>
   rw[hb]at hbn;cases ho:aq (wH p.pre) 0 [] p.pre with
   |inl y=>rw[ho]at hbn;exact hbn.elim
   |inr y=>
    rw[ho]at hnm
    (rw[tY (aD rfl),kj];simp(disch:=omega)only[bR,↓aa,seval,-List.reduceReplicate,reduceCtorEq,ae,tW,h1,g1,tk,h2,g2,jP,hpo,yQ,h',Fm,hnm])
  |inl s=>
   rw[hb]at hbn;cases ho:aq (wH p.pre) 0 [] p.pre with
   |inr y=>rw[ho]at hbn;exact hbn.elim
   |inl y=>
    rw[ho]at hnm hbn
    simp only at hbn hnm
    simp only
    by_cases g4:(16:Int)<y.length
    ·rw[if_pos (by omega)]
     (rw[tY (aD rfl),kj];simp(disch:=omega)only[bR,↓aa,seval,-List.reduceReplicate,reduceCtorEq,ae,tW,h1,g1,tk,h2,g2,jP,hpo,yQ,h',Fm,hnm,aR,g4])
    ·rw[if_neg (by omega)]
     (rw[tY (aD rfl),kj];simp(disch:=omega)only[bR,↓aa,seval,-List.reduceReplicate,reduceCtorEq,ae,tW,h1,g1,tk,h2,g2,jP,hpo,yQ,h',Fm,hnm,aR,g4])
end Go.AE.S
namespace Go.AE
namespace Term
mutual
def yf(wd:Int):Term→Term×Bool
 |.mk o w v s []=>(.mk o (if w=0 then wd else w) (if w=0∧o=2 then S.OS wd v else v) s [],true)
 |.mk o w v s (a::as)=>
  match Ed wd (a::as)with
  |some l=>(.mk o (S.bM o w v (l.map Term.w)).1 v s l,decide ((S.bM o w v (l.map Term.w)).2=0))
  |none=>(.mk 0 0 0 (S.bs []) [],false)
def Ed(wd:Int):List Term→Option (List Term)
 | []=>some []
 |a::as=>
  let x:=yf wd a
  if x.2=true then(Ed wd as).map (x.1::·)else none
end
end Term
namespace S
open Go Go.AE
variable {τ:Tm} {σ:ah} {rd:Option Nat}
theorem Up(wd:Int)(t:Term)(h:t.args=[]):t.yf wd=(.mk t.op (if t.w=0 then wd else t.w) (if t.w=0∧t.op=2 then OS wd t.v else t.v) t.name [],true):=by
 cases t with|mk o w v s as=>simp only[Term.args]at h;subst h;rw[Term.yf];rfl
theorem Uq(wd:Int)(t:Term)(h:t.args≠[]):t.yf wd=match Term.Ed wd t.args with
  |some l=>(.mk t.op (bM t.op t.w t.v (l.map Term.w)).1 t.v t.name l,decide ((bM t.op t.w t.v (l.map Term.w)).2=0))
  |none=>(.mk 0 0 0 (bs []) [],false):=by
 cases t with
 |mk o w v s as=>
  simp only[Term.args]at h;cases as with
  |nil=>exact absurd rfl h
  |cons a as=>simp only[Term.yf,Term.op,Term.w,Term.v,Term.name,Term.args];cases Term.Ed wd (a::as)<;>rfl
abbrev z5(l:Nat):List AV:=[.p (.int .i64 0),.p (.int .i64 0),.p (.int .u64 0),.p (.str (bs [])),.sl l 0]
abbrev sA(t:Term)(s:List Term):ah:=[.pv 0 [] false,.av 5 [z5 0] false,.pv (mX 5 s) (s.map Term.row) false,.av 5 [[.p (.int .i64 t.op),.p (.int .i64 t.w),.p (.int .u64 t.v),.p (.str t.name),.sl 2 s.length]] false]
abbrev ahh(t:Term)(wd i:Int):List (Nat×AV):=[(1,.p (.int .i64 wd)),(2,.p (.ptr t.row 0)),(4,.ptr 1 1 0 0),(6,.ptr 3 1 0 0),(41,.p (.aO (t.args.map Term.row))),(42,.p (.int .i64 t.args.length)),(43,.p (.int .i64 i))]
def auG(t:Term)(s:List Term)(r:Ex×St):Prop:=r.1=.ret∧r.2.τ.get 4=.ptr 1 1 0 0∧r.2.τ.get 5=.p (.bool false) ∧
 r.2.σ=[.pv 0 [] false,.av 5 [z5 4] false,.pv (mX 5 s) (s.map Term.row) false,.av 5 [[.p (.int .i64 t.op),.p (.int .i64 t.w),.p (.int .u64 t.v),.p (.str t.name),.sl 2 s.length]] false,.pv 0 [] false]
def atS(wd:Int)(_:Nat)(s:List Term)(a:Term):List Term ⊕ List Term:=if(a.yf wd).2=true then .inl (s++[(a.yf wd).1])else .inr s
theorem af0(wd:Int):∀(l:List Term) (i:Nat) (s:List Term),match Term.Ed wd l with
  |some m=>aq (atS wd) i s l=.inl (s++m)∧m.length=l.length
  |none=>∃s',aq (atS wd) i s l=.inr s'
 | [],i,s=>by simp[Term.Ed,aq]
 |a::l,i,s=>by
  simp only[Term.Ed,aq,atS];by_cases h:(a.yf wd).2=true
  ·simp only[h,if_true]
   have ih:=af0 wd l (i+1) (s++[(a.yf wd).1]);cases hm:Term.Ed wd l with
   |some m=>
    rw[hm]at ih;simp only[x6];refine⟨?_,by simp[ih.2]⟩
    have:=ih.1;simpa[atS]using this
   |none=>
    rw[hm]at ih;simp only[acs];exact ih
  ·simp only[h,if_false]
   exact⟨s,rfl⟩
theorem ahz{l:List Int}(h:l≠[]):PV.flat (.aO (l.map dG))=false:=by
 cases l with
 |nil=>exact absurd rfl h
 |cons a l=>simp[PV.flat]
theorem V8(t:Term)(wd:Int)(hw : -9223372036854775808≤wd∧wd≤9223372036854775807):iD t→t.count≤1000000→R P l8 [.agg t.row,.int .i64 wd]=some (.jY [.agg (t.yf wd).1.row,.bool (t.yf wd).2]):=by
 induction t using Term.ind with
 |h t ih=>
 intro ht hc;have hlen:=Term.dL t.args;have hct:=Term.count_eq t;by_cases hz:t.args=[]
 ·have hz':((t.args.length:Nat):Int)=0:=by rw[hz];rfl
  rw[Up wd t hz];have hcut:=Q8 wd t.v ht.v;by_cases h1:t.w=0
  ·by_cases h2:t.op=2
   ·(rw[vz (aD rfl),j5];simp(disch:=omega)only[aB,↓aa,seval,-List.reduceReplicate,reduceCtorEq,ae,aR,eq_true hz',eq_true h1,eq_true h2,cx,hcut,h1,h2])
    simp[Term.row,Term.rows,h1,h2]
   ·(rw[vz (aD rfl),j5];simp(disch:=omega)only[aB,↓aa,seval,-List.reduceReplicate,reduceCtorEq,ae,aR,eq_true hz',eq_true h1,h2])
    simp[Term.row,Term.rows,h1,h2]
  ·(rw[vz (aD rfl),j5];simp(disch:=omega)only[aB,↓aa,seval,-List.reduceReplicate,reduceCtorEq,ae,aR,eq_true hz',h1])
   simp[Term.row,Term.rows,h1]
 ·have hz':¬((t.args.length:Nat):Int)=0:=by
   intro h;exact hz (Lc.1 (by omega))
  have h:=eD (P:=P) (nt:=81) (rd:=none) (lv:=[1,2,4,6,41,42,43]) (b:=rL) (x:=0) (as:=t.args) (fun i (_:List Term)=>ahh t wd i) (sA t) (atS wd)
   (fun s=>⟨ef (tm (ahh t wd t.args.length)) 44 (.p (.bool false)),sA t s,81,none⟩) (auG t) (fun i s=>s.length=i)
   (fun i a s ha hi hs=>by
    have hm:=mR ha;have hac:=Term.cJ hm;have hr:=ih a hm (ht.args hm) (by omega)
    have hlt:((i:Int)<t.args.length)=True:=by simpa using hi
    unfold atS;generalize hx:a.yf wd=x at hr;obtain⟨x,ok⟩:=x;cases ok with
    |true=>
     have hap:=dP (σ:=sA t s++[.pv 5 [x.row] false]) (b:=2) (n:=s.length) (e:=mX 5 s) (es:=5) (bytes:=64) (rows:=s.map Term.row) (new:=[x.row]) rfl (by simp) (sq _ _ _) (by simp only[lZ,nz];omega)
     simp only[sA,z5,F9,y8]at hap;refine⟨fun s' he=>by simp at he;subst he;simp[hs],?_⟩
     simp only[rL];simp(disch:=omega)only[aB,↓aa,seval,-List.reduceReplicate,reduceCtorEq,ae,hlt,aH (aw (f:=Term.row) ha) a.az,yS,hr,sA,z5,hap,CR,jS,kM,ahh]
    |false=>
     refine⟨fun s' he=>by simp at he,?_⟩
     simp only[rL];simp(disch:=omega)only[aB,↓aa,seval,-List.reduceReplicate,reduceCtorEq,ae,hlt,aH (aw (f:=Term.row) ha) a.az,yS,hr,sA,z5,auG,ahh]) (fun s hs=>by
    simp only[rL];simp(disch:=omega)only[aB,↓aa,seval,-List.reduceReplicate,reduceCtorEq,ae,lH]) (fun i s=>rfl) [] (by simp)
  have hf:=af0 wd t.args 0 [];rw[Uq wd t hz];cases hm:Term.Ed wd t.args with
  |none=>
   rw[hm]at hf;obtain⟨s',hf⟩:=hf;rw[hf]at h;obtain⟨⟨e,τ',σ',nt',rd'⟩,k1,k2,k3,k4,k5⟩:=h
   simp only at k2 k3 k4 k5
   subst k2;subst k5;have h':al P wX (ahh t wd 0) [.pv 0 [] false,.av 5 [z5 0] false,.pv 0 [] false,.av 5 [[.p (.int .i64 t.op),.p (.int .i64 t.w),.p (.int .u64 t.v),.p (.str t.name),.sl 2 0]] false] 81 none=_:=k1;simp only[z5]at h'
   (rw[vz (aD rfl),j5];simp(disch:=omega)only[aB,↓aa,seval,-List.reduceReplicate,reduceCtorEq,ae,aR,hz',Gz,h',k3,k4])
   simp[Term.row,Term.rows]
  |some m=>
   rw[hm]at hf;simp only[y8]at hf;rw[hf.1]at h;have h':al P wX (ahh t wd 0) [.pv 0 [] false,.av 5 [z5 0] false,.pv 0 [] false,.av 5 [[.p (.int .i64 t.op),.p (.int .i64 t.w),.p (.int .u64 t.v),.p (.str t.name),.sl 2 0]] false] 81 none=_:=h;simp only[z5,sA]at h';have hml:m.length≤1000000:=by omega
   have hne:m.map Term.w≠[]:=by intro h;exact hz (Lc.1 (by rw[←hf.2,←aR (f:=Term.w),h];rfl))
   have hwd:=CB m hml;have hfl:=ahz hne;have hW:=Aq t.op t.w t.v (m.map Term.w) (by rw[aR];omega) ht.v
   generalize hq:bM t.op t.w t.v (m.map Term.w)=q at hW;obtain⟨q1,q2⟩:=q;simp only[two]at hW;rcases cY (q2=0)with h0|h0<;>(rw[vz (aD rfl),j5];simp(disch:=omega)only[aB,↓aa,seval,-List.reduceReplicate,reduceCtorEq,ae,aR,hz',Gz,h',ej,hwd,hfl,dO,hW,h0])<;>simp[Term.row,Term.F1,h0,hq]
end S
end Go.AE
namespace Go.AE.S
open Go Go.AE
variable {τ:Tm} {σ:ah} {rd:Option Nat}
def zT:Term:=.mk 0 0 0 (bs []) []
theorem Wu:zT.row=[.int .i64 0,.int .i64 0,.int .u64 0,.str (bs []),.aO []]:=by simp[zT,Term.row,Term.rows]
def atE(x:Term×Bool):List PV:=if x.2=true then[.agg x.1.row,.int .i64 0]else[.agg zT.row,.int .i64 3]
abbrev sR(t:Term)(s:List Term):ah:=[.pv 0 [] false,.av 5 [z5 0] false,.av 5 [[.p (.int .i64 t.op),.p (.int .i64 t.w),.p (.int .u64 t.v),.p (.str t.name),.sl 3 s.length]] false,.pv (mX 5 s) (s.map Term.row) false]
theorem y2(t:Term)(wd:Int)(hw : -9223372036854775808≤wd∧wd≤9223372036854775807)(ht:iD t)(hc:t.count≤1000000) :
  R P iY [.agg t.row,.int .i64 wd]=some (.jY (if 1≤wd∧wd≤64 then atE (t.yf wd)else[.agg zT.row,.int .i64 2])):=by
 by_cases h1:wd<1
 ·rw[if_neg (by omega)]
  (rw[yX (aD rfl),lS];simp(disch:=omega)only[aB,↓aa,seval,-List.reduceReplicate,reduceCtorEq,ae,h1])
  simp[Wu]
 by_cases h2:(64:Int)<wd
 ·rw[if_neg (by omega)]
  (rw[yX (aD rfl),lS];simp(disch:=omega)only[aB,↓aa,seval,-List.reduceReplicate,reduceCtorEq,ae,h1,h2])
  simp[Wu]
 rw[if_pos (by omega)]
 have hr:=V8 t wd hw ht hc;generalize t.yf wd=x at hr;obtain⟨x,ok⟩:=x;cases ok with
 |true=>
  (rw[yX (aD rfl),lS];simp(disch:=omega)only[aB,↓aa,seval,-List.reduceReplicate,reduceCtorEq,ae,h1,h2,yS,hr])
  simp[atE]
 |false=>
  (rw[yX (aD rfl),lS];simp(disch:=omega)only[aB,↓aa,seval,-List.reduceReplicate,reduceCtorEq,ae,h1,h2,yS,hr])
  simp[atE,Wu]
theorem LB:∀a:List UInt8,Op.bytesLess a a=false
 | []=>rfl
 |a::l=>by
  unfold Op.bytesLess;simp[LB l,UInt8.lt_irrefl]
theorem PJ:∀a b c:List UInt8,Op.bytesLess a b=true→Op.bytesLess b c=true→Op.bytesLess a c=true
 |_,_,[],_,h=>by cases ‹List UInt8›<;>simp[Op.bytesLess]at h
 |_,[],_::_,h,_=>by cases ‹List UInt8›<;>simp[Op.bytesLess]at h
 | [],_::_,_::_,_,_=>rfl
 |a::x,b::y,c::z,h,h'=>by
  unfold Op.bytesLess at h h' ⊢;simp only[RC,decide_eq_true_eq,vM,beq_iff_eq]at h h' ⊢;rcases h with h|⟨rfl,h⟩
  ·rcases h' with h'|⟨rfl,h'⟩
   ·exact .inl (UInt8.lt_trans h h')
   ·exact .inl h
  ·rcases h' with h'|⟨rfl,h'⟩
   ·exact .inl h'
   ·exact .inr ⟨rfl,PJ x y z h h'⟩
theorem YH:∀a b:List UInt8,Op.bytesLess a b=true∨a=b∨Op.bytesLess b a=true
 | [],[]=>.inr (.inl rfl)
 | [],_::_=>.inl rfl
 |_::_,[]=>.inr (.inr rfl)
 |a::x,b::y=>by
  unfold Op.bytesLess;simp only[RC,decide_eq_true_eq,vM,beq_iff_eq,acp];rcases YH x y with h|h|h
  ·by_cases h1:a<b
   ·exact .inl (.inl h1)
   ·by_cases h2:b<a
    ·exact .inr (.inr (.inl h2))
    ·have:a=b:=UInt8.le_antisymm (acj.1 h2) (acj.1 h1)
     exact .inl (.inr ⟨this,h⟩)
  ·by_cases h1:a<b
   ·exact .inl (.inl h1)
   ·by_cases h2:b<a
    ·exact .inr (.inr (.inl h2))
    ·have:a=b:=UInt8.le_antisymm (acj.1 h2) (acj.1 h1)
     exact .inr (.inl ⟨this,h⟩)
  ·by_cases h1:a<b
   ·exact .inl (.inl h1)
   ·by_cases h2:b<a
    ·exact .inr (.inr (.inl h2))
    ·have:a=b:=UInt8.le_antisymm (acj.1 h2) (acj.1 h1)
     exact .inr (.inr (.inr ⟨this.symm,h⟩))
theorem gX(a:ByteArray):slt a a=false:=LB _
theorem uf{a b c:ByteArray}(h:slt a b=true)(h':slt b c=true):slt a c=true:=PJ _ _ _ h h'
theorem sz(a b:ByteArray):slt a b=true∨a=b∨slt b a=true:=by
 rcases YH a.toList b.toList with h|h|h
 ·exact .inl h
 ·exact .inr (.inl (wi.1 h))
 ·exact .inr (.inr h)
theorem K5{a b:ByteArray}(h:slt a b=true):¬a=b:=by rintro rfl;rw[gX]at h;cases h
theorem r8{a b:ByteArray}(h:slt a b=true):slt b a=false:=by
 rw[abG];intro h';have:=uf h h';rw[gX]at this;cases this
theorem B7(a b:ByteArray):wk a b=if a=b then 0 else if slt a b=true then -1 else 1:=by
 unfold wk slt;by_cases h:a=b
 ·rw[if_pos (wi.2 h),if_pos h]
 ·rw[if_neg (fun x=>h (wi.1 x)),if_neg h]
theorem am7(a b:ByteArray):wk a b<0↔slt a b=true:=by
 rw[B7];by_cases h:a=b
 ·subst h;simp[gX]
 ·by_cases h2:slt a b=true<;>simp[h,h2]
theorem ajn(a b:ByteArray):wk a b=0↔a=b:=by
 rw[B7];by_cases h:a=b
 ·simp[h]
 ·by_cases h2:slt a b=true<;>simp[h,h2]
theorem Nw(a b:ByteArray):R P b8 [.str a,.str b]=some (.int .i64 (wk a b)):=by
 (rw[vw (aD rfl),dn];simp(disch:=omega)only[aB,↓aa,seval,-List.reduceReplicate,reduceCtorEq,ae,nR,Ff,xV,Az])
theorem JI(a b:ByteArray):R P fi [.str a,.str b]=some (.int .i64 (wk a b)):=by
 (rw[JA (aD rfl),lW];simp(disch:=omega)only[aB,↓aa,seval,-List.reduceReplicate,reduceCtorEq,ae,vm,Nw])
theorem G0(v:V2)(k:ByteArray):R P cF [.agg (ay v),.str k]=some (.int .i64 (wk v.name k)):=by
 (rw[D5 (aD rfl),iA];simp(disch:=omega)only[aB,↓aa,seval,-List.reduceReplicate,reduceCtorEq,ae,ay,Ju,JI])
abbrev ahi(s:List V2)(k:ByteArray)(x:Nat×Nat):List (Nat×AV):=[(0,.p (.aO (s.map ay))),(1,.p (.str k)),(2,.p (.fn cF [])),(8,.p (.int .i64 s.length)),(9,.p (.int .i64 x.1)),(10,.p (.int .i64 x.2))]
def bsF(s:List V2)(k:ByteArray)(x:Nat×Nat):(Nat×Nat) ⊕ (Nat×Nat) :=
 if x.1<x.2 then
  match s[(x.1+x.2) / 2]? with
  |some v=>if slt v.name k=true then .inl ((x.1+x.2) / 2+1,x.2)else .inl (x.1,(x.1+x.2) / 2)
  |none=>.inr x
 else .inr x
structure avH (s:List V2) (k:ByteArray) (x:Nat×Nat):Prop where
 le:x.1≤x.2
 hi:x.2≤s.length
 low:∀i v,i<x.1→s[i]?=some v→slt v.name k=true
 up:∀i v,x.2≤i→s[i]?=some v→slt v.name k=false
def dS(s:List V2):Prop:=s.Pairwise fun a b=>slt a.name b.name=true
theorem HJ{s:List V2}(h:dS s){i j:Nat}{v u:V2}(hij:i<j)(hi:s[i]?=some v)(hj:s[j]?=some u):slt v.name u.name=true:=by
 obtain⟨h1,rfl⟩:=gA.1 hi;obtain⟨h2,rfl⟩:=gA.1 hj;exact abe.1 h i j h1 h2 hij
theorem aqQ{i j:Nat}(h:i+j<2000001):IntKind.i64.wrap (((IntKind.u64.wrap (IntKind.i64.wrap ((i:Int)+j))).fdiv (2^min (1:Int).toNat IntKind.u64.bits)))=(((i+j) / 2:Nat):Int):=by
 rw[IntWalk.i64_in ((i:Int)+j) (by omega),IntWalk.u64_in _ (by omega),show min (1:Int).toNat IntKind.u64.bits=1 from rfl,Ih (by omega)]
 rw[show((i:Int)+j).toNat=i+j by omega]
 exact IntWalk.i64_in _ (by omega)
theorem av5(s:List V2)(k:ByteArray)(hs:dS s)(hl:s.length≤1000000):∃m,m≤s.length∧(∀i v,i<m→s[i]?=some v→slt v.name k=true)∧(∀i v,m≤i→s[i]?=some v→slt v.name k=false) ∧
  al P cd (ahi s k (0,s.length)) [] 49 none=some (.exit 0,⟨ef (ef (ef (tm (ahi s k (m,m))) 15 (.p (.int .i64 m))) 16 (.p (.int .i64 m))) 17 (.p (.bool false)),[],49,none⟩):=by
 have h:=TO (P:=P) (nt:=49) (rd:=none) (lv:=[0,1,2,8,9,10]) (b:=bG) (ahi s k) (fun _=>[]) (bsF s k)
  (fun x r=>r=(.exit 0,⟨ef (ef (ef (tm (ahi s k x)) 15 (.p (.int .i64 x.1))) 16 (.p (.int .i64 x.2))) 17 (.p (.bool false)),[],49,none⟩)) (avH s k) (fun x=>x.2-x.1)
  (fun x hx=>by
   obtain⟨i,j⟩:=x;obtain⟨h1,h2,h3,h4⟩:=hx
   simp only at h1 h2 h3 h4
   unfold bsF;by_cases hij:i<j
   ·have hlt:((i:Int)<j)=True:=by simpa using hij
    have hm:(i+j) / 2<s.length:=by omega
    obtain⟨v,hv⟩:∃v,s[(i+j) / 2]?=some v:=⟨_,o8 hm⟩;have hmid:=aqQ (i:=i) (j:=j) (by omega)
    simp only[seval]at hmid;have hi64:IntKind.i64.wrap ((((i+j) / 2:Nat):Int)+1)=(((i+j) / 2+1:Nat):Int):=amj (by omega)
    have hrow:=aH (k:=.i64) (σ:=[]) (es:=2) (aw (f:=ay) hv) rfl;have hcall:=G0 v k;have hneg:=am7 v.name k;simp only[hij,if_true,hv];by_cases hc:slt v.name k=true
    ·have hcn:=eq_true (hneg.2 hc)
     refine⟨fun s' he=>?_,?_⟩
     ·simp only[hc,if_true,abw]at he
      subst he;refine⟨⟨by simp only;omega,h2,fun a u ha hu=>?_,h4⟩,by simp only;omega⟩
      simp only at ha
      by_cases hlast:a=(i+j) / 2
      ·subst hlast;rw[hv]at hu;cases hu;exact hc
      ·exact uf (HJ hs (show a<(i+j) / 2 by omega) hu hv) hc
     ·simp only[bG,hc,if_true]
      simp only[ay]at hrow hcall;simp(disch:=omega)only[aB,↓aa,seval,-List.reduceReplicate,reduceCtorEq,ae,hlt,JV,hmid,hrow,lu,abg,B0,hcall,hcn,hi64,ahi]
    ·have hc':slt v.name k=false:=abG.2 hc
     have hcn:=eq_false (fun h=>hc (hneg.1 h))
     refine⟨fun s' he=>?_,?_⟩
     ·simp only[hc',lG,if_false,abw]at he
      subst he;refine⟨⟨by simp only;omega,by simp only;omega,h3,fun a u ha hu=>?_⟩,by simp only;omega⟩
      simp only at ha
      by_cases hlast:a=(i+j) / 2
      ·subst hlast;rw[hv]at hu;cases hu;exact hc'
      ·have:=HJ hs (show(i+j) / 2<a by omega) hv hu
       rw[abG];intro h;exact hc (uf this h)
     ·simp only[bG,hc',lG,if_false]
      simp only[ay]at hrow hcall;simp(disch:=omega)only[aB,↓aa,seval,-List.reduceReplicate,reduceCtorEq,ae,hlt,JV,hmid,hrow,lu,abg,B0,hcall,hcn,hi64,ahi]
   ·have hlt:((i:Int)<j)=False:=by simpa using hij
    simp only[hij,if_false];refine⟨fun s' he=>(by cases he),?_⟩
    simp only[bG]
    simp(disch:=omega)only[aB,↓aa,seval,-List.reduceReplicate,reduceCtorEq,ae,hlt]) (fun s=>rfl) (s.length+1) (0,s.length) (by simp) ⟨by simp,by simp,by simp,fun i v hi hv=>by
     have:=(gA.1 hv).1
     simp only at hi;omega⟩
 obtain⟨x,t,r,hx,hf,hL,ho⟩:=h;obtain⟨i,j⟩:=x;obtain⟨h1,h2,h3,h4⟩:=hx
 simp only at h1 h2 h3 h4
 unfold bsF at hf
 have hij:¬i<j:=by
  intro hij;obtain⟨v,hv⟩:∃v,s[(i+j) / 2]?=some v:=⟨_,o8 (by omega)⟩
  simp only[hij,if_true,hv]at hf;split at hf<;>cases hf
 simp only[hij,if_false,Sum.inr.injEq]at hf;subst hf;subst ho
 obtain rfl:i=j:=by omega
 exact⟨i,h2,h3,h4,hL⟩
abbrev names(s:List V2):List ByteArray:=s.map (·.name)
def Tx(s:List V2)(k:ByteArray):Bool:=s.any fun u=>decide (u.name=k)
theorem Vg(s:List V2)(k:ByteArray):Tx s k=true↔k∈names s:=by
 unfold Tx names;rw[abE,Gq];constructor
 ·rintro⟨u,h1,h2⟩;exact⟨u,h1,by simpa using h2⟩
 ·rintro⟨u,h1,h2⟩;exact⟨u,h1,by simpa using h2⟩
theorem Q6(s:List V2)(k:ByteArray)(hs:dS s)(hl:s.length≤1000000):∃m,m≤s.length∧(∀i v,i<m→s[i]?=some v→slt v.name k=true)∧(∀i v,m≤i→s[i]?=some v→slt v.name k=false) ∧
  R P aW [.aO (s.map ay),.str k,.fn cF []]=some (.jY [.int .i64 m,.bool (Tx s k)]):=by
 obtain⟨m,h1,h2,h3,hL⟩:=av5 s k hs hl;refine⟨m,h1,h2,h3,?_⟩;have hL':al P cd [(0,.p (.aO (s.map ay))),(1,.p (.str k)),(2,.p (.fn cF [])),(8,.p (.int .i64 s.length)),(9,.p (.int .i64 0)),(10,.p (.int .i64 s.length))] [] 49 none=_:=hL;by_cases hm:m<s.length
 ·have hlt:((m:Int)<s.length)=True:=by simpa using hm
  obtain⟨v,hv⟩:∃v,s[m]?=some v:=⟨_,o8 hm⟩;have hrow:=aH (k:=.i64) (σ:=[]) (es:=2) (aw (f:=ay) hv) rfl;have hcall:=G0 v k
  have hin:k∈names s↔v.name=k:=by
   constructor
   ·intro h
    obtain⟨u,hu,rfl⟩:=Gq.1 h;obtain⟨a,ha⟩:=aa5 hu;by_cases h4:a<m
    ·have:=h2 a u h4 ha;rw[gX]at this;cases this
    ·by_cases h5:a=m
     ·subst h5;rw[hv]at ha;cases ha;rfl
     ·have hsv:=h3 m v (rU _) hv
      have:=HJ hs (show m<a by omega) hv ha
      rw[this]at hsv;cases hsv
   ·rintro rfl
    exact List.mem_map_of_mem (mR hv)
  simp only[ay]at hrow hcall;have hz:=ajn v.name k;by_cases hc:v.name=k
  ·have h0:=hz.2 hc
   (rw[de (aD rfl),aV];simp(disch:=omega)only[aB,↓aa,seval,-List.reduceReplicate,reduceCtorEq,ae,aR,cX,hL',hlt,hrow,lu,hcall,h0])
   rw[(Vg s k).2 (hin.2 hc)]
  ·have h0:=eq_false (fun h=>hc (hz.1 h))
   (rw[de (aD rfl),aV];simp(disch:=omega)only[aB,↓aa,seval,-List.reduceReplicate,reduceCtorEq,ae,aR,cX,hL',hlt,hrow,lu,hcall,h0])
   rw[abG.2 fun h=>hc (hin.1 ((Vg s k).1 h))]
 ·have hlt:((m:Int)<s.length)=False:=by simpa using hm
  have hin:¬k∈names s:=by
   intro h;obtain⟨u,hu,rfl⟩:=Gq.1 h;obtain⟨a,ha⟩:=aa5 hu;have hal:=(gA.1 ha).1;have:=h2 a u (by omega) ha
   rw[gX]at this;cases this
  (rw[de (aD rfl),aV];simp(disch:=omega)only[aB,↓aa,seval,-List.reduceReplicate,reduceCtorEq,ae,aR,cX,hL',hlt])
  rw[abG.2 fun h=>hin ((Vg s k).1 h)]
def pG:List V2→V2→List V2
 | [],v=>[v]
 |a::r,v=>if a.name=v.name then a::r else if slt v.name a.name=true then v::a::r else a::pG r v
theorem It:∀(s:List V2) (v:V2),(pG s v).length≤s.length+1
 | [],v=>by simp[pG]
 |a::r,v=>by
  simp only[pG];have:=It r v;split
  ·simp
  ·split
   ·simp
   ·simp only[lZ];omega
theorem Yw:∀{s:List V2} {v x:V2},x∈pG s v→x=v∨x∈s
 | [],v,x,h=>by simp[pG]at h;exact .inl h
 |a::r,v,x,h=>by
  simp only[pG]at h;split at h
  ·exact .inr h
  ·split at h
   ·rcases pU.1 h with h|h
    ·exact .inl h
    ·exact .inr h
   ·rcases pU.1 h with h|h
    ·exact .inr (by simp[h])
    ·rcases Yw h with h|h
     ·exact .inl h
     ·exact .inr (by simp[h])
theorem Et:∀{s:List V2} {v:V2},dS s→dS (pG s v)
 | [],v,_=>by simp[pG,dS]
 |a::r,v,h=>by
  have hr:dS r:=(MJ.1 h).2;have ha:=(MJ.1 h).1;simp only[pG];split
  ·exact h
  ·rename_i h1
   split
   ·rename_i h2
    refine MJ.2 ⟨fun x hx=>?_,h⟩
    rcases pU.1 hx with rfl|hx
    ·exact h2
    ·exact uf h2 (ha x hx)
   ·rename_i h2
    refine MJ.2 ⟨fun x hx=>?_,Et hr⟩
    rcases Yw hx with rfl|hx
    ·rcases sz a.name x.name with h|h|h
     ·exact h
     ·exact absurd h h1
     ·exact absurd h h2
    ·exact ha x hx
theorem Vl:∀{s:List V2} {v:V2},dS s→Tx s v.name=true→pG s v=s
 | [],v,_,h=>by simp[Tx]at h
 |a::r,v,hs,h=>by
  have hr:dS r:=(MJ.1 hs).2;have ha:=(MJ.1 hs).1;simp only[pG];split
  ·rfl
  ·rename_i h1
   have hin:Tx r v.name=true:=by
    unfold Tx at h ⊢;simp only[abt,RC,decide_eq_true_eq]at h;rcases h with h|h
    ·exact absurd h h1
    ·exact h
   obtain⟨u,hu,hue⟩:=abE.1 hin;have hlt:=ha u hu;simp only[decide_eq_true_eq]at hue;rw[hue]at hlt;rw[if_neg (by rw[r8 hlt];simp),Vl hr hin]
theorem aga:∀{s:List V2} {v:V2} {m:Nat},m≤s.length→(∀i u,i<m→s[i]?=some u→slt u.name v.name=true)→(∀i u,m≤i→s[i]?=some u→slt u.name v.name=false)→Tx s v.name=false→pG s v=s.take m++v::s.drop m
 | [],v,m,_,_,_,_=>by simp[pG]
 |a::r,v,0,_,_,h2,h3=>by
  have hne:¬a.name=v.name:=by
   intro h;simp[Tx,h]at h3
  have:=h2 0 a (rU _) rfl
  have hlt:slt v.name a.name=true:=by
   rcases sz a.name v.name with h|h|h
   ·rw[h]at this;cases this
   ·exact absurd h hne
   ·exact h
  simp[pG,hne,hlt]
 |a::r,v,m+1,h0,h1,h2,h3=>by
  have hlt:=h1 0 a (by omega) rfl
  have hne:=K5 hlt
  have ih:=aga (s:=r) (v:=v) (m:=m) (by simpa using h0) (fun i u hi hu=>h1 (i+1) u (by omega) (by simpa using hu)) (fun i u hi hu=>h2 (i+1) u (by omega) (by simpa using hu)) (by
   unfold Tx at h3 ⊢;simp only[abt,abK]at h3;exact h3.2)
  simp[pG,hne,r8 hlt,ih]
def nQ(op:Int)(s:List V2)(u:Term):List V2:=if u.op=op then pG s ⟨u.name,u.w⟩else s
theorem xO{op:Int}{s:List V2}{u:Term}(h:dS s):dS (nQ op s u):=by unfold nQ;split;exact Et h;exact h
theorem N6{op:Int}{s:List V2}{u:Term}:(nQ op s u).length≤s.length+1:=by unfold nQ;split;exact It _ _;omega
theorem xd{op:Int}:∀{l:List Term} {s:List V2},dS s→dS (l.foldl (nQ op) s)
 | [],s,h=>h
 |a::l,s,h=>xd (l:=l) (s:=nQ op s a) (xO h)
theorem CT{op:Int}:∀{l:List Term} {s:List V2},(l.foldl (nQ op) s).length≤s.length+l.length
 | [],s=>by simp
 |a::l,s=>by
  have:=CT (op:=op) (l:=l) (s:=nQ op s a);have:=N6 (op:=op) (s:=s) (u:=a);simp only[S1,lZ];omega
theorem kD{S T α:Type}(g:S→α→S):∀(l:List α) (i:Nat) (s:S),aq (T:=T) (fun _ s a=>.inl (g s a)) i s l=.inl (l.foldl g s)
 | [],i,s=>rfl
 |a::l,i,s=>by simp only[aq,S1];exact kD g l (i+1) (g s a)
theorem aqD{n m e:Nat}{rows:List (List PV)}{new:List PV}{o1 o2:Obj}(hn:rows.length=n)(hm:m≤n)(hl:n≤1000000)(he:e=2∨e=0∧rows.isEmpty=true) :
  FW 2 24 [.sl 0 n,.p (.int .i64 m),.sl 3 1] [.pv e rows false,o1,o2,.pv 2 [new] false]=some (.sl 0 (n+1),[.pv 2 (rows.take m++[new]++rows.drop m) false,o1,o2,.pv 2 [new] false]):=by
 simp only[FW,S2,abc,lZ,nz,hn,acm,abf];rw[if_pos ⟨trivial,trivial,by omega,he,trivial,by omega,by omega,hm,by omega⟩]
abbrev sV(s:List V2):ah:=[.pv (mX 2 s) (s.map ay) false,.av 1 [[.sl 0 s.length]] false]
theorem Zo(op:Int)(t:Term)(hc:t.count≤1000000)(s0:List V2)(hs:dS s0)(hl:s0.length+t.count≤1000000) :
  nN P [19] eA eB (.p (.fn cg [.ptr t.row 0])) [(2,.p (.ptr [.int .i64 op] 0)),(5,.ptr 1 1 0 0)] (sV s0) 44 none=some (.normal,sV (t.pre.foldl (nQ op) s0)):=by
 have h:=F0 (rd:=none) (kept:=[(2,.p (.ptr [.int .i64 op] 0)),(5,.ptr 1 1 0 0)]) (ps:=[19]) (iy:=eA) (b:=eB) (nt:=44) t hc ⟨rfl,rfl⟩ sV (fun _ s u=>.inl (nQ op s u)) (fun(x:Empty)=>nomatch x)
  (fun i s=>dS s∧s.length≤s0.length+i) s0 rfl (fun _=>rfl) (fun x=>nomatch x) (fun s=>by simp only[sV,Uj,abS,zd,wG,WT];rfl) (fun x=>nomatch x) (fun x=>nomatch x) (fun i u s ha hok=>by
   obtain⟨hso,hsl⟩:=hok;have hil:i<t.count:=by have:=(gA.1 ha).1;rw[Term.nc]at this;exact this
   have hlen:=N6 (op:=op) (s:=s) (u:=u);refine⟨fun s' he=>by cases he;exact⟨xO hso,by omega⟩,?_⟩
   simp only[sV,F9,y8];rw[Cz rfl ⟨rfl,rfl,rfl⟩];unfold nQ;by_cases h1:u.op=op
   rotate_left
   ·simp only[eA,eB,h1,if_false]
    simp(disch:=omega)only[aB,↓aa,seval,-List.reduceReplicate,reduceCtorEq,ae,h1]
   obtain⟨m,m1,m2,m3,hb⟩:=Q6 s u.name hso (by omega)
   simp only[h1,if_true];cases hin:Tx s u.name with
   |true=>
    rw[hin]at hb;rw[Vl (v:=⟨u.name,u.w⟩) hso hin];simp only[eA,eB];simp(disch:=omega)only[aB,↓aa,seval,-List.reduceReplicate,reduceCtorEq,ae,eq_true h1,eX,aR,hb]
   |false=>
    rw[hin]at hb;have hii:=aga (v:=⟨u.name,u.w⟩) m1 m2 m3 hin;have hpi:=fun o1 o2=>aqD (n:=s.length) (m:=m) (e:=mX 2 s) (rows:=s.map ay) (new:=[.str u.name,.int .i64 u.w]) (o1:=o1) (o2:=o2) (by simp) m1 (by omega) (by cases s with|nil=>exact .inr ⟨rfl,rfl⟩|cons=>exact .inl rfl)
    have hmap:(pG s ⟨u.name,u.w⟩).map ay=(s.map ay).take m++[[.str u.name,.int .i64 u.w]]++(s.map ay).drop m:=by
     rw[hii,CR,rK,acq,List.map_drop];simp[ay]
    have hlen2:(pG s ⟨u.name,u.w⟩).length=s.length+1:=by rw[hii];simp;omega
    have hes:mX 2 (pG s ⟨u.name,u.w⟩)=2:=by rw[hii];simp[mX]
    simp only[eA,eB];simp(disch:=omega)only[aB,↓aa,seval,-List.reduceReplicate,reduceCtorEq,ae,eq_true h1,eX,aR,hb,vJ,hpi,hmap,hlen2,hes]) ⟨hs,rU _⟩
 rw[h,kD];rfl
abbrev adQ(op:Int)(l:List Term)(i:Int):List (Nat×AV):=[(2,.p (.ptr [.int .i64 op] 0)),(5,.ptr 1 1 0 0),(11,.p (.aO (l.map Term.row))),(12,.p (.int .i64 l.length)),(13,.p (.int .i64 i))]
def J8(op:Int)(s:List V2)(t:Term):List V2:=t.pre.foldl (nQ op) s
def varsOf(op:Int)(l:List Term):List V2:=l.foldl (J8 op) []
theorem S4{op:Int}:∀{l:List Term} {s:List V2},(l.foldl (J8 op) s).length≤s.length+Term.counts l
 | [],s=>by simp[Term.counts]
 |a::l,s=>by
  have:=S4 (op:=op) (l:=l) (s:=J8 op s a);have:=CT (op:=op) (l:=a.pre) (s:=s);rw[Term.nc]at this;simp only[S1,Term.counts];unfold J8 at *;omega
theorem yC(op:Int)(l:List Term)(hc:Term.counts l≤500000):R P er [.int .i64 op,.aO (l.map Term.row)]=some (.aO ((varsOf op l).map ay)):=by
 have hlen:=Term.dL l
 have h:=lJ (P:=P) (nt:=44) (rd:=none) (lv:=[2,5,11,12,13]) (b:=lN) (x:=0) (as:=l) (fun i (_:List V2)=>adQ op l i) sV (fun _ s t=>J8 op s t)
  (fun s=>⟨ef (tm (adQ op l l.length)) 14 (.p (.bool false)),sV s,44,none⟩) (fun i s=>dS s∧s.length≤Term.counts (l.take i))
  (fun i t s ha hi hok=>by
   obtain⟨hso,hsl⟩:=hok;have hm:=mR ha;have hac:=Term.cJ hm;have h1:=Ej l i t ha;have h2:=zL l (i+1);have hlt:((i:Int)<l.length)=True:=by simpa using hi
   have hr:=Zo op t (by omega) s hso (by omega)
   have hal:=CT (op:=op) (l:=t.pre) (s:=s);rw[Term.nc]at hal;refine⟨⟨xd hso,by unfold J8;omega⟩,?_⟩
   simp only[lN];simp(disch:=omega)only[aB,↓aa,seval,-List.reduceReplicate,reduceCtorEq,ae,hlt,aH (aw (f:=Term.row) ha) t.az,iP,iR,D1,hr,adQ,J8]) (fun s hs=>by
   simp only[lN];simp(disch:=omega)only[aB,↓aa,seval,-List.reduceReplicate,reduceCtorEq,ae,lH]) (fun i s=>rfl) [] ⟨List.Pairwise.nil,by simp⟩ _ (kD (J8 op) l 0 [])
 have h':al P qp [(2,.p (.ptr [.int .i64 op] 0)),(5,.ptr 1 1 0 0),(11,.p (.aO (l.map Term.row))),(12,.p (.int .i64 l.length)),(13,.p (.int .i64 0))] [.pv 0 [] false,.av 1 [[.sl 0 0]] false] 44 none=_:=h;simp only[sV]at h'
 (rw[Gi (aD rfl),jT];simp(disch:=omega)only[aB,↓aa,seval,-List.reduceReplicate,reduceCtorEq,ae,Ew,h',aR])
 rfl
theorem sy(l:List Term)(hc:Term.counts l≤500000):R P eK [.aO (l.map Term.row)]=some (.aO ((varsOf 24 l).map ay)):=by
 (rw[Nq (aD rfl),oW];simp(disch:=omega)only[aB,↓aa,seval,-List.reduceReplicate,reduceCtorEq,ae,yA,yC 24 l hc])
theorem vD(l:List Term)(hc:Term.counts l≤500000):R P fw [.aO (l.map Term.row)]=some (.aO ((varsOf 25 l).map ay)):=by
 (rw[QP (aD rfl),qc];simp(disch:=omega)only[aB,↓aa,seval,-List.reduceReplicate,reduceCtorEq,ae,yA,yC 25 l hc])
def tL:Term:=.mk 8 4 0 (bs []) [.mk 24 4 0 (bs [98]) [],.mk 24 4 0 (bs [97]) []]
theorem FI{o w v:Int}{s:ByteArray}(h1 : -9223372036854775808≤o∧o≤9223372036854775807)(h2 : -9223372036854775808≤w∧w≤9223372036854775807)(h3:RJ v)(h4:s.size≤9223372036854775807):iD (.mk o w v s []) :=
 .mk _ h1 h2 h3 h4 (by simp[Term.args]) (by simp[Term.args])
theorem amm(o w v:Int)(as:List Int)(hw : -9223372036854775808≤w∧w≤9223372036854775807) : -9223372036854775808≤(bM o w v as).1∧(bM o w v as).1≤9223372036854775807:=by
 have hget:as.all okW=true→∀n:Nat,0≤as.getD n 0∧as.getD n 0≤64:=by
  intro h n;rw[aaZ];cases hg:as[n]? with
  |none=>simp
  |some a=>
   have:=CS.1 h a (mR hg);simpa[okW]using this
 unfold bM;split
 ·simp
 ·split
  ·simp
  ·rename_i h
   have ha:as.all okW=true:=by simpa using h
   have g0:=hget ha 0;have g1:=hget ha 1;split
   ·unfold rG;split
    ·simp
    ·exact hw
   ·split
    ·unfold q5;split
     ·simp
     ·exact hw
    ·split
     ·exact⟨by omega,by omega⟩
     ·split
      ·split
       ·exact⟨by simp only;omega,by simp only;omega⟩
       ·simp
      ·split
       ·split
        ·exact⟨by simp only;omega,by simp only;omega⟩
        ·simp
       ·split
        ·split
         ·simp
         ·exact⟨by simp only;omega,by simp only;omega⟩
        ·simp
theorem al7:iD zT:=FI (by decide) (by decide) ⟨by decide,by decide⟩ (by decide)
theorem afJ{wd:Int}:∀{l m:List Term},Term.Ed wd l=some m→m.length=l.length∧∀(i:Nat) (a b:Term),l[i]?=some a→m[i]?=some b→b=(a.yf wd).1∧(a.yf wd).2=true
 | [],m,h=>by simp only[Term.Ed,bN]at h;subst h;simp
 |a::l,m,h=>by
  simp only[Term.Ed]at h;split at h
  ·rename_i hk
   obtain⟨m',hm,rfl⟩:=ib.1 h;obtain⟨h1,h2⟩:=afJ hm;refine⟨by simp[h1],fun i x y hx hy=>?_⟩
   cases i with
   |zero=>simp at hx hy;subst hx;subst hy;exact⟨rfl,hk⟩
   |succ i=>exact h2 i x y (by simpa using hx) (by simpa using hy)
  ·cases h
theorem Ro(wd:Int)(hw : -9223372036854775808≤wd∧wd≤9223372036854775807)(t:Term):iD t→iD (t.yf wd).1:=by
 induction t using Term.ind with
 |h t ih=>
 intro ht;by_cases hz:t.args=[]
 ·rw[Up wd t hz]
  refine FI ht.op ?_ ?_ ht.name
  ·split;exact hw;exact ht.w
  ·split
   ·exact ane wd ht.v
   ·exact ht.v
 ·rw[Uq wd t hz]
  cases hm:Term.Ed wd t.args with
  |none=>exact al7
  |some m=>
   obtain⟨h1,h2⟩:=afJ hm;refine .mk _ ht.op (amm _ _ _ _ ht.w) ht.v ht.name (by show m.length≤_;rw[h1];exact ht.len) (fun b hb=>?_)
   obtain⟨i,hi⟩:=aa5 hb;have hil:i<t.args.length:=by rw[←h1];exact(gA.1 hi).1
   have hai:t.args[i]?=some t.args[i]:=o8 hil;rw[(h2 i _ b hai hi).1];exact ih _ (aba hil) (ht.args (aba hil))
theorem WV(t:Term):t.beq t=true:=(Term.beq_iff t t).2 rfl
def Gf(v:V2)(s:List V2×Bool)(a:V2):(List V2×Bool) ⊕ Unit :=
 if a.name=v.name then .inr ()else if s.2=false∧slt v.name a.name=true then .inl (s.1++[v,a],true)else .inl (s.1++[a],s.2)
abbrev Ia(l:List V2)(v:V2)(s:List V2×Bool)(i:Int):List (Nat×AV):=[(0,.p (.aO (l.map ay))),(3,.p (.ptr [.str v.name,.int .i64 v.w] 0)),(5,.sl 0 s.1.length),(6,.p (.bool s.2)),(7,.p (.int .i64 i))]
abbrev sJ(s:List V2×Bool):ah:=[.pv 2 (s.1.map ay) false]
def arK(l:List V2)(r:Ex×St):Prop:=r.1=.ret∧r.2.τ.get 4=.p (.aO (l.map ay))
theorem aks(l:List V2)(v:V2)(hl:l.length≤1000000) :
  pP (fun s=>al P py (Ia l v ([],false) 0) (sJ ([],false)) 54 none=some (.exit 0,⟨ef (ef (ef (ef (tm (Ia l v s l.length)) 9 (.p (.int .i64 l.length))) 10 (.p (.aO (l.map ay)))) 11 (.p (.int .i64 l.length))) 12 (.p (.bool false)),sJ s,54,none⟩))
   (fun(_:Unit)=>∃r,al P py (Ia l v ([],false) 0) (sJ ([],false)) 54 none=some r∧arK l r) (aq (fun _ s a=>Gf v s a) 0 ([],false) l):=by
 have h:=eD (P:=P) (nt:=54) (rd:=none) (lv:=[0,3,5,6,7]) (b:=mq) (x:=0) (as:=l) (fun i s=>Ia l v s i) sJ (fun _ s a=>Gf v s a)
  (fun s=>⟨ef (ef (ef (ef (tm (Ia l v s l.length)) 9 (.p (.int .i64 l.length))) 10 (.p (.aO (l.map ay)))) 11 (.p (.int .i64 l.length))) 12 (.p (.bool false)),sJ s,54,none⟩) (fun(_:Unit)=>arK l) (fun i s=>s.1.length+(if s.2=true then 0 else 1)≤i+1)
  (fun i a s hu hi hs=>by
   obtain⟨s,d⟩:=s;have hs':s.length≤i+1:=by simp only at hs;split at hs<;>omega
   have hlt:((i:Int)<l.length)=True:=by simpa using hi
   have hui:=fun σ=>aH (k:=.i64) (es:=2) (σ:=σ) (aw (f:=ay) hu) rfl
   have hap1:=dP (σ:=[.pv 2 (s.map ay) false,.pv 2 [[.str v.name,.int .i64 v.w]] false]) (b:=0) (n:=s.length) (e:=2) (es:=2) (bytes:=24) (rows:=s.map ay) (new:=[[.str v.name,.int .i64 v.w]]) rfl (by simp) (.inl rfl) (by simp only[lZ,nz];omega)
   have hap2:=dP (σ:=[.pv 2 (s.map ay++[[.str v.name,.int .i64 v.w]]) false,.pv 2 [[.str v.name,.int .i64 v.w]] false,.pv 2 [[.str a.name,.int .i64 a.w]] false]) (b:=0) (n:=s.length+1) (e:=2) (es:=2) (bytes:=24) (rows:=s.map ay++[[.str v.name,.int .i64 v.w]]) (new:=[[.str a.name,.int .i64 a.w]]) rfl (by simp) (.inl rfl) (by simp only[lZ,nz];omega)
   have hap3:=dP (σ:=[.pv 2 (s.map ay) false,.pv 2 [[.str a.name,.int .i64 a.w]] false]) (b:=0) (n:=s.length) (e:=2) (es:=2) (bytes:=24) (rows:=s.map ay) (new:=[[.str a.name,.int .i64 a.w]]) rfl (by simp) (.inl rfl) (by simp only[lZ,nz];omega)
   simp only[ay]at hui;unfold Gf;rcases cY (a.name=v.name)with h1|h1
   ·refine⟨fun s' he=>?_,?_⟩
    ·simp only[h1,if_true]at he;cases he
    ·simp only[mq,h1]
     simp(disch:=omega)only[aB,↓aa,seval,-List.reduceReplicate,reduceCtorEq,ae,hlt,hui,aR,h1,Ia,sJ,arK]
   ·cases d with
    |true=>
     refine⟨fun s' he=>?_,?_⟩
     ·simp only[h1,if_false,N4,false_and,abw]at he
      subst he;simp only[if_true]at hs;simp only[jS,lZ,nz,if_true];omega
     ·simp only[mq,h1]
      simp(disch:=omega)only[aB,↓aa,seval,-List.reduceReplicate,reduceCtorEq,ae,hlt,hui,aR,h1,Ia,sJ,hap3,CR,jS,ay]
    |false=>
     cases h2:slt v.name a.name with
     |true=>
      refine⟨fun s' he=>?_,?_⟩
      ·simp only[h1,if_false,true_and,if_true,abw]at he
       subst he;simp only[lG,if_false]at hs;simp only[jS,lZ,nz,if_true];omega
      ·simp only[mq,h1]
       simp(disch:=omega)only[aB,↓aa,seval,-List.reduceReplicate,reduceCtorEq,ae,hlt,hui,aR,h1,h2,Ia,sJ,hap1,hap2,CR,jS,ay,Ui,acr]
     |false=>
      refine⟨fun s' he=>?_,?_⟩
      ·simp only[h1,if_false,lG,and_false,abw]at he
       subst he;simp only[lG,if_false]at hs;simp only[jS,lZ,nz,lG,if_false];omega
      ·simp only[mq,h1]
       simp(disch:=omega)only[aB,↓aa,seval,-List.reduceReplicate,reduceCtorEq,ae,hlt,hui,aR,h1,h2,Ia,sJ,hap3,CR,jS,ay]) (fun s hs=>by
   simp only[mq];simp(disch:=omega)only[aB,↓aa,seval,-List.reduceReplicate,reduceCtorEq,ae,lH,aR]) (fun i s=>rfl) ([],false) (by simp)
 exact h
theorem Yx(v:V2):∀(l s:List V2) (i:Nat),Tx l v.name=false→aq (fun _ s a=>Gf v s a) i (s,true) l=.inl (s++l,true)
 | [],s,i,_=>by simp[aq]
 |a::r,s,i,h=>by
  unfold Tx at h;simp only[abt,abK,decide_eq_false_iff_not]at h
  have hs:Gf v (s,true) a=.inl (s++[a],true):=by
   unfold Gf;rw[if_neg h.1,if_neg (by simp)]
  simp only[aq,hs];rw[Yx v r (s++[a]) (i+1) h.2,Ui];rfl
theorem TD(v:V2):∀(l s:List V2) (i:Nat),Tx l v.name=false→∃s' d,aq (fun _ s a=>Gf v s a) i (s,false) l=.inl (s',d)∧(if d=true then s' else s'++[v])=s++pG l v
 | [],s,i,_=>⟨s,false,rfl,by simp[pG]⟩
 |a::r,s,i,h=>by
  have h0:=h;unfold Tx at h;simp only[abt,abK,decide_eq_false_iff_not]at h;cases hlt:slt v.name a.name with
  |true=>
   have hs:Gf v (s,false) a=.inl (s++[v,a],true):=by
    unfold Gf;rw[if_neg h.1,if_pos ⟨rfl,hlt⟩]
   refine⟨s++[v,a]++r,true,?_,by simp[pG,h.1,hlt]⟩
   simp only[aq,hs];exact Yx v r (s++[v,a]) (i+1) h.2
  |false=>
   have hs:Gf v (s,false) a=.inl (s++[a],false):=by
    unfold Gf;rw[if_neg h.1,if_neg (by simp[hlt])]
   obtain⟨s',d,k1,k2⟩:=TD v r (s++[a]) (i+1) h.2;refine⟨s',d,?_,?_⟩
   ·simp only[aq,hs];exact k1
   ·rw[k2];simp[pG,h.1,hlt]
theorem agb(v:V2):∀(l:List V2) (s:List V2×Bool) (i:Nat),Tx l v.name=true→aq (fun _ s a=>Gf v s a) i s l=.inr ()
 | [],s,i,h=>by simp[Tx]at h
 |a::r,s,i,h=>by
  by_cases h1:decide (a.name=v.name)=true
  ·have h1:=of_decide_eq_true h1
   have hs:Gf v s a=.inr ():=by unfold Gf;rw[if_pos h1]
   simp only[aq,hs]
  ·have hr:Tx r v.name=true:=by
    unfold Tx at h ⊢;rw[abt]at h;rcases(RC _ _).mp h with h|h
    ·exact absurd h h1
    ·exact h
   have h1:¬a.name=v.name:=by simpa using h1
   obtain⟨s2,hs⟩:∃s2,Gf v s a=.inl s2:=by
    unfold Gf;rw[if_neg h1];split
    ·exact⟨_,rfl⟩
    ·exact⟨_,rfl⟩
   simp only[aq,hs];exact agb v r s2 (i+1) hr
theorem V9(l:List V2)(v:V2)(hs:dS l)(hl:l.length≤1000000):R P oJ [.aO (l.map ay),.agg [.str v.name,.int .i64 v.w]]=some (.aO ((pG l v).map ay)):=by
 have hL:=aks l v hl;cases hin:Tx l v.name with
 |true=>
  rw[agb v l _ 0 hin]at hL;rw[Vl hs hin];obtain⟨⟨e,τ',σ',nt',rd'⟩,k1,k2,k3⟩:=hL
  simp only at k2 k3
  subst k2;have hL':al P py [(0,.p (.aO (l.map ay))),(3,.p (.ptr [.str v.name,.int .i64 v.w] 0)),(5,.sl 0 0),(6,.p (.bool false)),(7,.p (.int .i64 0))] [.pv 2 [] false] 54 none=some (.ret,⟨τ',σ',nt',rd'⟩):=k1
  (rw[Df (aD rfl),oz];simp(disch:=omega)only[aB,↓aa,seval,-List.reduceReplicate,reduceCtorEq,ae,BF,hL',k3])
 |false=>
  obtain⟨s',d,h1,h2⟩:=TD v l [] 0 hin;rw[h1]at hL;have hL':al P py [(0,.p (.aO (l.map ay))),(3,.p (.ptr [.str v.name,.int .i64 v.w] 0)),(5,.sl 0 0),(6,.p (.bool false)),(7,.p (.int .i64 0))] [.pv 2 [] false] 54 none=_:=hL;rw[y8]at h2;have hil:=It l v;rw[←h2]at hil ⊢;cases d with
  |true=>
   simp only[if_true]
   (rw[Df (aD rfl),oz];simp(disch:=omega)only[aB,↓aa,seval,-List.reduceReplicate,reduceCtorEq,ae,BF,hL',aR])
  |false=>
   simp only[lG,if_false,jS,lZ,nz]at hil ⊢;have hap:=dP (σ:=[.pv 2 (s'.map ay) false,.pv 2 [[.str v.name,.int .i64 v.w]] false]) (b:=0) (n:=s'.length) (e:=2) (es:=2) (bytes:=24) (rows:=s'.map ay) (new:=[[.str v.name,.int .i64 v.w]]) rfl (by simp) (.inl rfl) (by simp only[lZ,nz];omega)
   (rw[Df (aD rfl),oz];simp(disch:=omega)only[aB,↓aa,seval,-List.reduceReplicate,reduceCtorEq,ae,BF,hL',aR,hap,CR,jS,ay])
def K7:Option (List V2)→List V2
 |none=>[]
 |some s=>s
def N5(op:Int)(s:Option (List V2))(u:Term):Option (List V2):=if u.op=op then some (pG (K7 s) ⟨u.name,u.w⟩)else s
def avO:Option (List V2)→AV
 |none=>.sl 0 0
 |some s=>.p (.aO (s.map ay))
def sO:Option (List V2)→ah
 |none=>[.pv 2 [] false]
 |some _=>[.pv 2 [] true]
theorem Z3{op:Int}{s:Option (List V2)}{u:Term}:K7 (N5 op s u)=nQ op (K7 s) u:=by
 unfold N5 nQ;split<;>rfl
theorem T8{op:Int}:∀(l:List Term) (s:Option (List V2)),K7 (l.foldl (N5 op) s)=l.foldl (nQ op) (K7 s)
 | [],s=>rfl
 |a::l,s=>by simp only[S1];rw[T8 l,Z3]
theorem ajP{rows:List (List PV)}:PV.flat (.aO rows)=rows.isEmpty:=by simp[PV.flat]
abbrev ahm(op:Int)(l:List Term)(i:Int)(pre:List Term)(s:Option (List V2))(j:Int):List (Nat×AV):=[(0,.p (.int .i64 op)),(1,.p (.aO (l.map Term.row))),(5,avO s),(6,.p (.int .i64 i)),(7,.p (.aO (pre.map Term.row))),(8,.p (.int .i64 j))]
theorem anz(op:Int)(l:List Term)(i:Int)(pre:List Term)(s0:Option (List V2))(hs:dS (K7 s0))(hl:(K7 s0).length+pre.length≤1000000) :
  al P D9 (ahm op l i pre s0 0) (sO s0) 48 none=some (.exit 2,⟨ef (ef (ef (ef (tm (ahm op l i pre (pre.foldl (N5 op) s0) pre.length)) 21 (.p (.int .i64 pre.length))) 22 (.p (.aO (pre.map Term.row)))) 23 (.p (.int .i64 pre.length))) 24 (.p (.bool false)),sO (pre.foldl (N5 op) s0),48,none⟩):=by
 have h:=lJ (P:=P) (nt:=48) (rd:=none) (lv:=[0,1,5,6,7,8]) (b:=tp) (x:=2) (as:=pre) (fun j s=>ahm op l i pre s j) sO (fun _ s t=>N5 op s t)
  (fun s=>⟨ef (ef (ef (ef (tm (ahm op l i pre s pre.length)) 21 (.p (.int .i64 pre.length))) 22 (.p (.aO (pre.map Term.row)))) 23 (.p (.int .i64 pre.length))) 24 (.p (.bool false)),sO s,48,none⟩) (fun j s=>dS (K7 s)∧(K7 s).length≤(K7 s0).length+j)
  (fun j u s hu hj hok=>by
   obtain⟨hso,hsl⟩:=hok;have hlt:((j:Int)<pre.length)=True:=by simpa using hj
   have hui:=fun σ=>aH (k:=.i64) (es:=5) (σ:=σ) (aw (f:=Term.row) hu) u.az
   have hal:=N6 (op:=op) (s:=K7 s) (u:=u);refine⟨by rw[Z3];exact⟨xO hso,by omega⟩,?_⟩
   have hin:=V9 (K7 s) ⟨u.name,u.w⟩ hso (by omega)
   unfold N5;rcases cY (u.op=op)with h1|h1
   ·cases s with
    |none=>
     simp only[K7,pG,rK,B0,ay]at hin;simp only[tp,h1];simp(disch:=omega)only[aB,↓aa,seval,-List.reduceReplicate,reduceCtorEq,ae,hlt,hui,aR,h1,avO,sO,Jt,hin,K7,pG,ay,ajP,List.isEmpty_cons,Qu,Fh]
     rfl
    |some s=>
     simp only[K7]at hin;simp only[tp,h1];simp(disch:=omega)only[aB,↓aa,seval,-List.reduceReplicate,reduceCtorEq,ae,hlt,hui,aR,h1,avO,sO,Jt,hin,K7]
     rfl
   ·simp only[tp,h1]
    cases s with
    |none=>
     simp(disch:=omega)only[aB,↓aa,seval,-List.reduceReplicate,reduceCtorEq,ae,hlt,hui,aR,h1,avO,sO]
     rfl
    |some s=>
     simp(disch:=omega)only[aB,↓aa,seval,-List.reduceReplicate,reduceCtorEq,ae,hlt,hui,aR,h1,avO,sO]
     rfl) (fun s hs=>by
   simp only[tp];cases s with
   |none=>simp(disch:=omega)only[aB,↓aa,seval,-List.reduceReplicate,reduceCtorEq,ae,lH,aR,avO,sO]
   |some s=>simp(disch:=omega)only[aB,↓aa,seval,-List.reduceReplicate,reduceCtorEq,ae,lH,aR,avO,sO]) (fun i s=>rfl) s0 ⟨hs,by omega⟩ _ (kD (N5 op) pre 0 s0)
 exact h
abbrev ajA(op:Int)(l:List Term)(s:Option (List V2))(i:Int):List (Nat×AV):=[(0,.p (.int .i64 op)),(1,.p (.aO (l.map Term.row))),(5,avO s),(6,.p (.int .i64 i))]
def WH(op:Int)(s:Option (List V2))(t:Term):Option (List V2):=t.pre.foldl (N5 op) s
theorem Z4{op:Int}{s:Option (List V2)}{t:Term}:K7 (WH op s t)=J8 op (K7 s) t:=T8 t.pre s
theorem al5{op:Int}:∀(l:List Term) (s:Option (List V2)),K7 (l.foldl (WH op) s)=l.foldl (J8 op) (K7 s)
 | [],s=>rfl
 |a::l,s=>by simp only[S1];rw[al5 l,Z4]
theorem anx(op:Int)(l:List Term)(hc:Term.counts l≤500000) :
  al P D8 (ajA op l none 0) (sO none) 48 none=some (.exit 0,⟨ef (ef (ef (ef (tm (ajA op l (l.foldl (WH op) none) l.length)) 10 (.p (.int .i64 l.length))) 11 (.p (.aO (l.map Term.row)))) 12 (.p (.int .i64 l.length))) 13 (.p (.bool false)),sO (l.foldl (WH op) none),48,none⟩):=by
 have hlen:=Term.dL l
 have h:=lJ (P:=P) (nt:=48) (rd:=none) (lv:=[0,1,5,6]) (b:=xq) (x:=0) (as:=l) (fun i s=>ajA op l s i) sO (fun _ s t=>WH op s t)
  (fun s=>⟨ef (ef (ef (ef (tm (ajA op l s l.length)) 10 (.p (.int .i64 l.length))) 11 (.p (.aO (l.map Term.row)))) 12 (.p (.int .i64 l.length))) 13 (.p (.bool false)),sO s,48,none⟩) (fun i s=>dS (K7 s)∧(K7 s).length≤Term.counts (l.take i))
  (fun i t s ha hi hok=>by
   obtain⟨hso,hsl⟩:=hok;have hm:=mR ha;have hac:=Term.cJ hm;have h1:=Ej l i t ha;have h2:=zL l (i+1);have hlt:((i:Int)<l.length)=True:=by simpa using hi
   have hui:=fun σ=>aH (k:=.i64) (es:=5) (σ:=σ) (aw (f:=Term.row) ha) t.az
   have hal:=CT (op:=op) (l:=t.pre) (s:=K7 s);rw[Term.nc]at hal;refine⟨by rw[Z4];exact⟨xd hso,by unfold J8;omega⟩,?_⟩
   have hp:=qZ t (by omega)
   have hL:=anz op l i t.pre s hso (by rw[Term.nc];omega)
   unfold WH;cases s with
   |none=>
    simp only[ahm,avO,sO]at hL;simp only[xq];simp(disch:=omega)only[aB,↓aa,seval,-List.reduceReplicate,reduceCtorEq,ae,hlt,hui,aR,avO,sO,eE,hp,Ly,hL]
    cases t.pre.foldl (N5 op) none<;>rfl
   |some s=>
    simp only[ahm,avO,sO]at hL;simp only[xq];simp(disch:=omega)only[aB,↓aa,seval,-List.reduceReplicate,reduceCtorEq,ae,hlt,hui,aR,avO,sO,eE,hp,Ly,hL]
    cases t.pre.foldl (N5 op) (some s)<;>rfl) (fun s hs=>by
   simp only[xq];cases s with
   |none=>simp(disch:=omega)only[aB,↓aa,seval,-List.reduceReplicate,reduceCtorEq,ae,lH,aR,avO,sO]
   |some s=>simp(disch:=omega)only[aB,↓aa,seval,-List.reduceReplicate,reduceCtorEq,ae,lH,aR,avO,sO]) (fun i s=>rfl) none ⟨List.Pairwise.nil,by simp[K7]⟩ _ (kD (WH op) l 0 none)
 exact h
theorem Dl(op:Int)(l:List Term)(hc:Term.counts l≤500000):R P mM [.int .i64 op,.aO (l.map Term.row)]=some (.aO ((varsOf op l).map ay)):=by
 have hL:=anx op l hc;have ht:=al5 (op:=op) l none;simp only[ajA,avO,sO]at hL;unfold varsOf;rw[←show K7 none=([]:List V2)from rfl,←ht];cases hr:l.foldl (WH op) none with
 |none=>
  rw[hr]at hL
  simp only at hL
  (rw[QS (aD rfl),vW];simp(disch:=omega)only[aB,↓aa,seval,-List.reduceReplicate,reduceCtorEq,ae,Lv,hL,K7,Qu,Fh])
 |some s=>
  rw[hr]at hL
  simp only at hL
  (rw[QS (aD rfl),vW];simp(disch:=omega)only[aB,↓aa,seval,-List.reduceReplicate,reduceCtorEq,ae,Lv,hL,K7])
end Go.AE.S
namespace Go.AE
namespace Term
def DQ(o:Int):Int:=if o=24∨o=25 then 1 else o
mutual
def fj:Term→Term
 |.mk o w v s []=>.mk (DQ o) w v s []
 |.mk o w v s [a]=>if o=26 then fj a else .mk (DQ o) w v s [fj a]
 |.mk o w v s (a::b::as)=>.mk (DQ o) w v s (fj a::fj b::cN as)
def cN:List Term→List Term
 | []=>[]
 |a::as=>fj a::cN as
end
theorem Ua:∀l:List Term,cN l=l.map fj
 | []=>rfl
 |a::l=>by rw[cN,Ua l];rfl
theorem JW(t:Term)(a:Term)(ho:t.op=26)(ha:t.args=[a]):t.fj=a.fj:=by
 cases t with|mk o w v s as=>simp only[Term.op,Term.args]at ho ha;subst ho;subst ha;rw[fj];rfl
theorem JX(t:Term)(h:¬(t.op=26∧t.args.length=1)):t.fj=.mk (DQ t.op) t.w t.v t.name (t.args.map fj):=by
 cases t with
 |mk o w v s as=>
  simp only[Term.op,Term.args]at h
  match as,h with
  | [],_=>rw[fj];rfl
  | [a],h=>
   have ho:¬o=26:=fun e=>h ⟨e,rfl⟩
   rw[fj,if_neg ho];rfl
  |a::b::as,_=>rw[fj,Ua];rfl
end Term
end Go.AE
namespace Go.AE.S
open Go Go.AE
variable {τ:Tm} {σ:ah} {rd:Option Nat}
abbrev sW(t:Term)(s:List Term):ah:=[.pv 0 [] false,.av 5 [z5 0] false,.pv (mX 5 s) (s.map Term.row) false,.av 5 [[.p (.int .i64 (Term.DQ t.op)),.p (.int .i64 t.w),.p (.int .u64 t.v),.p (.str t.name),.sl 2 s.length]] false]
abbrev afW(t:Term)(i:Int):List (Nat×AV):=[(2,.ptr 1 1 0 0),(3,.ptr 3 1 0 0),(34,.p (.aO (t.args.map Term.row))),(35,.p (.int .i64 t.args.length)),(36,.p (.int .i64 i))]
theorem Hi{α β:Type}(g:α→β):∀(l:List α) (s:List β),l.foldl (fun s a=>s++[g a]) s=s++l.map g
 | [],s=>by simp
 |a::l,s=>by rw[S1,Hi g l];simp
theorem jX(t:Term):iD t→t.count≤1000000→R P bT [.agg t.row]=some (.agg t.fj.row):=by
 induction t using Term.ind with
 |h t ih=>
 intro ht hc;have hlen:=Term.dL t.args;have hct:=Term.count_eq t;by_cases h1:t.op=26∧t.args.length=1
 ·obtain⟨ho,hl⟩:=h1
  obtain⟨a,ha⟩:=abN.1 hl;have hm:a∈t.args:=by rw[ha];simp
  have hr:=ih a hm (ht.args hm) (by have:=Term.cJ hm;omega)
  rw[Term.JW t a ho ha];have hi:∀σ,gj σ 5 (.p (.aO (t.args.map Term.row))) (.p (.int .i64 0))=some (.p (.ptr a.row 0)):=fun σ=>aH (k:=.i64) (es:=5) (σ:=σ) (i:=0) (rows:=t.args.map Term.row) (r:=a.row) (by rw[ha];rfl) a.az
  have hl':((t.args.length:Nat):Int)=1:=by rw[hl];rfl
  (rw[yB (aD rfl),gY];simp(disch:=omega)only[aB,↓aa,seval,-List.reduceReplicate,reduceCtorEq,ae,aR,eq_true ho,eq_true hl',hi,jW,hr])
 ·have h:=lJ (P:=P) (nt:=49) (rd:=none) (lv:=[2,3,34,35,36]) (b:=lM) (x:=0) (as:=t.args) (fun i (_:List Term)=>afW t i) (sW t) (fun _ s a=>s++[a.fj])
   (fun s=>⟨ef (tm (afW t t.args.length)) 37 (.p (.bool false)),sW t s,49,none⟩) (fun i s=>s.length=i)
   (fun i a s ha hi hs=>by
    have hm:=mR ha;have hac:=Term.cJ hm;have hr:=ih a hm (ht.args hm) (by omega)
    have hlt:((i:Int)<t.args.length)=True:=by simpa using hi
    have hap:=dP (σ:=sW t s++[.pv 5 [a.fj.row] false]) (b:=2) (n:=s.length) (e:=mX 5 s) (es:=5) (bytes:=64) (rows:=s.map Term.row) (new:=[a.fj.row]) rfl (by simp) (sq _ _ _) (by simp only[lZ,nz];omega)
    simp only[sW,z5,F9,y8]at hap;refine⟨by simp[hs],?_⟩
    simp only[lM];simp(disch:=omega)only[aB,↓aa,seval,-List.reduceReplicate,reduceCtorEq,ae,hlt,aH (aw (f:=Term.row) ha) a.az,jW,hr,sW,z5,hap,CR,jS,kM,afW]) (fun s hs=>by
    simp only[lM];simp(disch:=omega)only[aB,↓aa,seval,-List.reduceReplicate,reduceCtorEq,ae,lH]) (fun i s=>rfl) [] (by simp) _ (kD _ t.args 0 [])
  rw[Hi,y8]at h;rw[Term.JX t h1];have hv:=bF t.op;have h':al P qo (afW t 0) [.pv 0 [] false,.av 5 [z5 0] false,.pv 0 [] false,.av 5 [[.p (.int .i64 (Term.DQ t.op)),.p (.int .i64 t.w),.p (.int .u64 t.v),.p (.str t.name),.sl 2 0]] false] 49 none=_:=h;simp only[z5,sW,aR]at h';rcases cY (t.op=26)with h2|h2<;>rcases cY (((t.args.length:Nat):Int)=1)with h3|h3<;>by_cases h4:t.op=24∨t.op=25<;>simp only[Term.DQ,h4,if_true,if_false]at h' <;>
  (rw[yB (aD rfl),gY];simp(disch:=omega)only[aB,↓aa,seval,-List.reduceReplicate,reduceCtorEq,ae,aR,h2,h3,h4,bk,hv,Ev,h'])<;>first|(exfalso;exact h1 ⟨of_eq_true h2,by have:=of_eq_true h3;omega⟩)|simp[Term.row,Term.F1,Term.DQ,h4]
abbrev U5(t:Term)(i:Int):List (Nat×AV):=[(1,.p (.ptr t.row 0)),(2,.ptr 1 1 0 0),(3,.ptr 2 1 0 0),(4,.p (.int .i64 i))]
theorem pn(t:Term):iD t→t.count≤1000000→R P di [.agg t.row]=some (.agg t.fj.row):=by
 induction t using Term.ind with
 |h t ih=>
 intro ht hc;have hlen:=Term.dL t.args;have hct:=Term.count_eq t;by_cases h1:t.op=26∧t.args.length=1
 ·obtain⟨ho,hl⟩:=h1
  obtain⟨a,ha⟩:=abN.1 hl;have hm:a∈t.args:=by rw[ha];simp
  have hr:=ih a hm (ht.args hm) (by have:=Term.cJ hm;omega)
  rw[Term.JW t a ho ha];have hi:∀σ,gj σ 5 (.p (.aO (t.args.map Term.row))) (.p (.int .i64 0))=some (.p (.ptr a.row 0)):=fun σ=>aH (k:=.i64) (es:=5) (σ:=σ) (i:=0) (rows:=t.args.map Term.row) (r:=a.row) (by rw[ha];rfl) a.az
  have hl':((t.args.length:Nat):Int)=1:=by rw[hl];rfl
  (rw[DM (aD rfl),lF];simp(disch:=omega)only[aB,↓aa,seval,-List.reduceReplicate,reduceCtorEq,ae,aR,eq_true ho,eq_true hl',hi,ph,hr])
 ·have h:=lJ (P:=P) (nt:=43) (rd:=none) (lv:=[1,2,3,4]) (b:=q8) (x:=0) (as:=t.args) (fun i (_:List Term)=>U5 t i) (sR t) (fun _ s a=>s++[a.fj])
   (fun s=>⟨ef (ef (ef (ef (ef (tm (U5 t t.args.length)) 21 (.p (.int .i64 t.args.length))) 22 (.p (.ptr t.row 4))) 23 (.p (.aO (t.args.map Term.row)))) 24 (.p (.int .i64 t.args.length))) 25 (.p (.bool false)),sR t s,43,none⟩) (fun i s=>s.length=i)
   (fun i a s ha hi hs=>by
    have hm:=mR ha;have hac:=Term.cJ hm;have hr:=ih a hm (ht.args hm) (by omega)
    have hlt:((i:Int)<t.args.length)=True:=by simpa using hi
    have hap:=dP (σ:=sR t s++[.pv 5 [a.fj.row] false]) (b:=3) (n:=s.length) (e:=mX 5 s) (es:=5) (bytes:=64) (rows:=s.map Term.row) (new:=[a.fj.row]) rfl (by simp) (sq _ _ _) (by simp only[lZ,nz];omega)
    simp only[sR,z5,F9,y8]at hap;refine⟨by simp[hs],?_⟩
    simp only[q8];simp(disch:=omega)only[aB,↓aa,seval,-List.reduceReplicate,reduceCtorEq,ae,hlt,aR,aH (aw (f:=Term.row) ha) a.az,ph,hr,sR,z5,hap,CR,jS,kM,U5]) (fun s hs=>by
    simp only[q8];simp(disch:=omega)only[aB,↓aa,seval,-List.reduceReplicate,reduceCtorEq,ae,lH,aR]) (fun i s=>rfl) [] (by simp) _ (kD _ t.args 0 [])
  rw[Hi,y8]at h;rw[Term.JX t h1]
  have hv:R P dZ [.agg [.int .i64 t.op,.int .i64 t.w,.int .u64 t.v,.str t.name,.aO ((t.args.map Term.fj).map Term.row)]]=some (.bool (decide (t.op=24∨t.op=25))):=by
   have hq:=vE (.mk t.op t.w t.v t.name (t.args.map Term.fj));rw[Term.a6]at hq;exact hq
  have h':al P vZ (U5 t 0) [.pv 0 [] false,.av 5 [z5 0] false,.av 5 [[.p (.int .i64 t.op),.p (.int .i64 t.w),.p (.int .u64 t.v),.p (.str t.name),.sl 3 0]] false,.pv 0 [] false] 43 none=_:=h;simp only[z5,sR,aR]at h';rcases cY (t.op=26)with h2|h2<;>rcases cY (((t.args.length:Nat):Int)=1)with h3|h3<;>by_cases h4:t.op=24∨t.op=25 <;>
  (rw[DM (aD rfl),lF];simp(disch:=omega)only[aB,↓aa,seval,-List.reduceReplicate,reduceCtorEq,ae,aR,h2,h3,h4,bz,hv,Kz,h'])<;>first|(exfalso;exact h1 ⟨of_eq_true h2,by have:=of_eq_true h3;omega⟩)|simp[Term.row,Term.F1,Term.DQ,h4]
def ag7(a b:Int):Int:=if a<b then -1 else if b<a then 1 else 0
end Go.AE.S
namespace Go.AE
namespace Term
end Term
end Go.AE
namespace Go.AE.S
open Go Go.AE
variable {τ:Tm} {σ:ah} {rd:Option Nat}
theorem agL{as bs:List Term}{i:Nat}{a b:Term}(h:(as.zip bs)[i]?=some (a,b)):as[i]?=some a∧bs[i]?=some b:=by
 rw[List.getElem?_zip_eq_some]at h;exact h
theorem JS(t:Term):iD t→iD t.fj:=by
 induction t using Term.ind with
 |h t ih=>
 intro ht;by_cases h1:t.op=26∧t.args.length=1
 ·obtain⟨ho,hl⟩:=h1
  obtain⟨a,ha⟩:=abN.1 hl;rw[Term.JW t a ho ha];exact ih a (by rw[ha];simp) (ht.args (by rw[ha];simp))
 ·rw[Term.JX t h1]
  refine .mk _ ?_ ht.w ht.v ht.name (by show(t.args.map Term.fj).length≤_;rw[aR];exact ht.len) (fun b hb=>?_)
  ·have:=ht.op
   show -9223372036854775808≤Term.DQ t.op∧Term.DQ t.op≤9223372036854775807;unfold Term.DQ;split
   ·omega
   ·exact this
  ·obtain⟨a,ha,rfl⟩:=Gq.1 hb
   exact ih a ha (ht.args ha)
theorem mZ{u t:Term}:u∈t.pre↔u=t∨∃a∈t.args,u∈a.pre:=by
 rw[Term.vj,Term.yR,pU,MK]
theorem k8(t:Term):∀u,u∈t.post↔u∈t.pre:=by
 induction t using Term.ind with
 |h t ih=>
 intro u;rw[mZ,Term.Bi,Term.Jo,D6,MK];constructor
 ·rintro(⟨a,ha,h⟩|h)
  ·exact .inr ⟨a,ha,(ih a ha u).1 h⟩
  ·simp at h;exact .inl h
 ·rintro(h|⟨a,ha,h⟩)
  ·right;simp[h]
  ·exact .inl ⟨a,ha,(ih a ha u).2 h⟩
theorem Pf(ev:Bool):∀l:List Term,fO ev l=0↔∀u∈l,gm u ev=0
 | []=>by simp[fO]
 |a::l=>by
  simp only[fO,List.forall_mem_cons];by_cases h:gm a ev=0
  ·simp only[h,if_true,true_and];exact Pf ev l
  ·simp[h]
theorem Lg{p:Term}{ev:Bool}(h:cW p ev=0):∀u∈p.pre,gm u ev=0:=by
 unfold cW at h;split at h
 ·cases h
 ·split at h
  ·rename_i h1;exact absurd h h1
  ·rename_i h1
   intro u hu;exact(Pf ev p.post).1 (by simpa using h1) u ((k8 p u).2 hu)
theorem aee{u:Term}{ev:Bool}(h:gm u ev=0):(u.args.length:Int)=arity u.op:=by
 unfold gm at h;split at h
 ·cases h
 ·rename_i h1
  simp only[not_or]at h1;exact Ww.1 h1.2.2.2
def Ev1(t:Term):Prop:=∀u∈t.pre,u.op=26→u.args.length=1
def Grd(t:Term):Prop:=∀u∈t.pre,¬u.op∈[24,25,(26:Int)]
theorem Ev1.args{t a:Term}(h:Ev1 t)(ha:a∈t.args):Ev1 a:=fun u hu=>h u (mZ.2 (.inr ⟨a,ha,hu⟩))
theorem Grd.args{t a:Term}(h:Grd t)(ha:a∈t.args):Grd a:=fun u hu=>h u (mZ.2 (.inr ⟨a,ha,hu⟩))
theorem FG{t:Term}:t∈t.pre:=mZ.2 (.inl rfl)
theorem CF(t:Term):t.fj.count≤t.count:=by
 induction t using Term.ind with
 |h t ih=>
 by_cases h1:t.op=26∧t.args.length=1
 ·obtain⟨ho,hl⟩:=h1
  obtain⟨a,ha⟩:=abN.1 hl;rw[Term.JW t a ho ha,Term.count_eq t,ha];have:=ih a (by rw[ha];simp)
  simp only[Term.counts];omega
 ·rw[Term.JX t h1,Term.count_eq t,Term.count_eq]
  have:∀l:List Term,(∀a∈l,a.fj.count≤a.count)→Term.counts (l.map Term.fj)≤Term.counts l:=by
   intro l
   induction l with
   |nil=>intro _;exact rU _
   |cons a l ih2=>
    intro hl;have:=hl a (by simp)
    have:=ih2 fun b hb=>hl b (by simp[hb])
    simp only[rK,Term.counts];omega
  have:=this t.args ih;show 1+Term.counts (t.args.map Term.fj)≤_;omega
theorem anT{u:Term}{ev:Bool}(h:gm u ev=0):(¬(arity u.op<0∨u.op=1∨(u.op=26∧ev=false)∨¬(u.args.length:Int)=arity u.op)) ∧
  ¬((¬u.name=bs []∧¬(u.op=24∨u.op=25))∨(¬u.v=0∧¬u.op=2∧¬u.op=21))∧¬((u.op=24∨u.op=25)∧jr u.name=false) ∧
  bM u.op u.w u.v (u.args.map Term.w)=(u.w,0)∧¬(u.op=26∧inner u=true):=by
 unfold gm at h;split at h
 ·cases h
 rename_i h1;split at h
 ·cases h
 rename_i h2;split at h
 ·cases h
 rename_i h3;split at h
 ·cases h
 rename_i h4;split at h
 ·cases h
 rename_i h5;simp only[not_or,Ww]at h4;exact⟨h1,h2,h3,Prod.ext h4.2 h4.1,h5⟩
theorem agn{u:Term}{ev:Bool}(h1:¬(arity u.op<0∨u.op=1∨(u.op=26∧ev=false)∨¬(u.args.length:Int)=arity u.op))
  (h2:¬((¬u.name=bs []∧¬(u.op=24∨u.op=25))∨(¬u.v=0∧¬u.op=2∧¬u.op=21))) (h3:¬((u.op=24∨u.op=25)∧jr u.name=false))
  (h4:bM u.op u.w u.v (u.args.map Term.w)=(u.w,0)) (h5:¬(u.op=26∧inner u=true)):gm u ev=0:=by
 unfold gm;rw[if_neg h1,if_neg h2,if_neg h3,if_neg (by rw[h4];simp),if_neg h5]
theorem Wt{o w v n:Int}{as:List Int}(h0:¬as=[])(h:bM o w v as=(n,0))(ha:∀a∈as,1≤a):bM o n v as=(n,0)∧1≤n:=by
 have hget:∀k:Nat,k<as.length→1≤as.getD k 0:=by
  intro k hk;rw[aaZ,o8 hk];exact ha _ (aba hk)
 have hl0:as.length≠0:=by cases as with|nil=>exact absurd rfl h0|cons=>simp
 unfold bM at h ⊢;split at h
 ·cases h
 rename_i h1;rw[if_neg h1];split at h
 ·cases h
 rename_i h2;rw[if_neg h2];split at h
 ·omega
 rename_i h3;rw[if_neg h3];simp only[not_or,Ww]at h1;split at h
 ·rename_i h4
  rw[if_pos h4];unfold q5 at h ⊢;split at h
  ·cases h
  ·rename_i h5
   cases h;rw[if_neg h5];exact⟨rfl,by omega⟩
 rename_i h4;rw[if_neg h4];split at h
 ·rename_i h5
  rw[if_pos h5];cases h;exact⟨rfl,hget 0 (by omega)⟩
 rename_i h5;rw[if_neg h5];have a2:∀{o:Int},¬arity o<0→¬arity o=0→¬arity o=1→2≤arity o:=by intro o;omega
 have hl2:=a2 h1.1 h3 h5;split at h
 ·rename_i h6
  rw[if_pos h6];split at h
  ·rename_i h7
   rw[if_pos h7];cases h;exact⟨rfl,by omega⟩
  ·cases h
 rename_i h6;rw[if_neg h6];split at h
 ·rename_i h7
  rw[if_pos h7];split at h
  ·rename_i h8
   rw[if_pos h8];cases h;exact⟨rfl,hget 1 (by omega)⟩
  ·cases h
 rename_i h7;rw[if_neg h7];split at h
 ·rename_i h8
  rw[if_pos h8];split at h
  ·rename_i h9
   rw[if_pos h9];cases h;exact⟨rfl,by omega⟩
  ·rename_i h9
   rw[if_neg h9];cases h;exact⟨rfl,hget 0 (by omega)⟩
 ·cases h
def aiY(wd:Int)(a b:Term):Prop:=b.op=a.op∧b.name=a.name∧(isVar a=true→b.w=if a.w=0 then wd else a.w)
def ui(wd:Int):List Term→List Term→Prop
 | [],[]=>True
 |a::l,b::m=>aiY wd a b∧ui wd l m
 |_,_=>False
theorem ui.append{wd:Int}:∀{l m l' m':List Term},ui wd l m→ui wd l' m'→ui wd (l++l') (m++m')
 | [],[],_,_,_,h=>h
 |a::l,b::m,_,_,h,h'=>⟨h.1,ui.append h.2 h'⟩
theorem ui.len{wd:Int}:∀{l m:List Term},ui wd l m→m.length=l.length
 | [],[],_=>rfl
 |a::l,b::m,h=>by simp[ui.len h.2]
theorem ui.any{wd:Int}(q:Int→Bool):∀{l m:List Term},ui wd l m→(m.any fun u=>q u.op)=l.any fun u=>q u.op
 | [],[],_=>rfl
 |a::l,b::m,h=>by simp only[abt];rw[ui.any q h.2,h.1.1]
structure asR (wd:Int) (ev:Bool) (t q:Term):Prop where
 nodes:∀u∈q.pre,gm u ev=0∧1≤u.w
 rel:ui wd t.pre q.pre
 deep:q.deep=t.deep
theorem aje{wd:Int}{ev:Bool}:∀{l m:List Term},Term.Ed wd l=some m→(∀a∈l,(a.yf wd).2=true→asR wd ev a (a.yf wd).1) →
  (∀b∈m,∀u∈b.pre,gm u ev=0∧1≤u.w)∧ui wd (l.flatMap Term.pre) (m.flatMap Term.pre)∧Term.iB m=Term.iB l∧m.length=l.length ∧
  (∀a,l.head?=some a→∃b,m.head?=some b∧ui wd a.pre b.pre)
 | [],m,h,_=>by simp only[Term.Ed,bN]at h;subst h;simp[ui]
 |a::l,m,h,hall=>by
  simp only[Term.Ed]at h;split at h
  ·rename_i hk
   obtain⟨m',hm,rfl⟩:=ib.1 h;obtain⟨i1,i2,i3,i4,i5⟩:=aje hm fun b hb=>hall b (by simp[hb])
   have ha:=hall a (by simp) hk
   refine⟨?_,?_,?_,by simp[i4],?_⟩
   ·intro b hb
    rcases pU.1 hb with rfl|hb
    ·exact ha.nodes
    ·exact i1 b hb
   ·simp only[aa4];exact ha.rel.append i2
   ·simp only[Term.iB];rw[ha.deep,i3]
   ·intro c hc
    simp only[List.head?_cons,bN]at hc;subst hc;exact⟨_,rfl,ha.rel⟩
  ·cases h
theorem akw{wd v:Int}(h1:1≤wd)(h2:wd≤64):OS wd v<2^wd.toNat:=by
 unfold OS;have hc:jl wd=wd:=by unfold jl;omega
 rw[hc];have:v.toNat % 2^wd.toNat<2^wd.toNat:=S3 _ (RD (by omega))
 exact_mod_cast this
theorem atd(wd:Int)(hwd:1≤wd∧wd≤64)(ev:Bool)(t:Term):(∀u∈t.pre,gm u ev=0)→(t.yf wd).2=true→asR wd ev t (t.yf wd).1:=by
 induction t using Term.ind with
 |h t ih=>
 intro hn hk;obtain⟨g1,g2,g3,g4,g5⟩:=anT (hn t FG);by_cases hz:t.args=[]
 ·rw[Up wd t hz]
  have har:arity t.op=0:=by
   simp only[not_or,Ww]at g1;rw[←g1.2.2.2,hz];rfl
  have hl:rG t.op t.w t.v=(t.w,0):=by
   rw[←g4,hz];unfold bM;rw[if_neg (by rw[har];simp),if_neg (by simp),if_pos har]
  have hlw:0≤t.w∧t.w≤64∧(t.op=2→0<t.w→t.v<2^t.w.toNat):=by
   unfold rG at hl;split at hl
   ·exact absurd (show(3:Int)=0 from congrArg Prod.snd hl) (by decide)
   ·rename_i h
    refine⟨by omega,by omega,fun h1 h2=>?_⟩
    exact Int.not_le.1 fun h3=>h (.inr ⟨h1,h2,h3⟩)
  have hpre:Term.pre (.mk t.op (if t.w=0 then wd else t.w) (if t.w=0∧t.op=2 then OS wd t.v else t.v) t.name [])=[.mk t.op (if t.w=0 then wd else t.w) (if t.w=0∧t.op=2 then OS wd t.v else t.v) t.name []]:=by
   rw[Term.vj];rfl
  refine⟨?_,?_,?_⟩
  ·rw[hpre]
   intro u hu;rw[J7]at hu;subst hu;refine⟨agn ?_ ?_ g3 ?_ ?_,?_⟩
   ·show ¬(arity t.op<0∨t.op=1∨(t.op=26∧ev=false)∨¬(([]:List Term).length:Int)=arity t.op)
    rw[←hz];exact g1
   ·show ¬((¬t.name=bs []∧¬(t.op=24∨t.op=25))∨(¬(if t.w=0∧t.op=2 then OS wd t.v else t.v)=0∧¬t.op=2∧¬t.op=21))
    by_cases h2:t.op=2
    ·simp only[not_or]at g2 ⊢
     exact⟨g2.1,fun h=>h.2.1 h2⟩
    ·rw[if_neg (fun h=>h2 h.2)];exact g2
   ·show bM t.op (if t.w=0 then wd else t.w) (if t.w=0∧t.op=2 then OS wd t.v else t.v) []=_
    unfold bM;rw[if_neg (by rw[har];simp),if_neg (by simp),if_pos har]
    unfold rG;rw[if_neg]
    ·rfl
    by_cases h0:t.w=0
    ·rw[if_pos h0]
     rintro(h|⟨h1,h2,h3⟩)
     ·omega
     ·rw[if_pos ⟨h0,h1⟩]at h3
      have:=akw (v:=t.v) hwd.1 hwd.2;omega
    ·rw[if_neg h0,if_neg (fun h=>h0 h.1)]
     rintro(h|⟨h1,h2,h3⟩)
     ·omega
     ·have:=hlw.2.2 h1 h2
      omega
   ·rintro⟨_,h⟩
    exact absurd h (by simp[inner,Term.args])
   ·show 1≤(if t.w=0 then wd else t.w)
    split<;>omega
  ·rw[hpre,Term.vj t,hz]
   exact⟨⟨rfl,rfl,fun _=>rfl⟩,trivial⟩
  ·rw[Term.xe t,hz,Term.xe];rfl
 ·rw[Uq wd t hz]at hk ⊢
  cases hm:Term.Ed wd t.args with
  |none=>rw[hm]at hk;cases hk
  |some m=>
   rw[hm]at hk;simp only[decide_eq_true_eq]at hk;obtain⟨i1,i2,i3,i4,i5⟩:=aje (ev:=ev) hm fun a ha hk=>ih a ha (fun u hu=>hn u (mZ.2 (.inr ⟨a,ha,hu⟩))) hk
   have hne:¬m.map Term.w=[]:=by
    intro h;have:=congrArg List.length h;rw[aR,i4]at this;exact hz (Lc.1 this)
   have hpos:∀a∈m.map Term.w,1≤a:=by
    intro x hx;obtain⟨b,hb,rfl⟩:=Gq.1 hx;exact(i1 b hb b FG).2
   obtain⟨w1,w2⟩:=Wt hne (Prod.ext rfl hk:bM t.op t.w t.v (m.map Term.w)=((bM t.op t.w t.v (m.map Term.w)).1,0)) hpos;refine⟨?_,?_,?_⟩
   ·intro u hu
    rcases mZ.1 hu with rfl|⟨b,hb,hu⟩
    ·refine⟨agn ?_ g2 g3 w1 ?_,w2⟩
     ·show ¬(arity t.op<0∨t.op=1∨(t.op=26∧ev=false)∨¬(m.length:Int)=arity t.op)
      rw[i4];exact g1
     ·rintro⟨h1,h2⟩
      refine g5 ⟨h1,?_⟩;unfold inner at h2 ⊢;cases ha:t.args with
      |nil=>exact absurd ha hz
      |cons a as=>
       rw[ha]at i5;obtain⟨b,hb,hr⟩:=i5 a rfl;cases m with
       |nil=>cases hb
       |cons c m=>
        simp only[List.head?_cons,bN]at hb;subst hb;have e:=hr.any fun o=>decide (o∈[24,(26:Int)])
        show(a.pre.any fun u=>decide (u.op∈[24,(26:Int)]))=true
        rw[←e];exact h2
    ·exact i1 b hb u hu
   ·rw[Term.vj t,Term.vj]
    refine⟨⟨rfl,rfl,fun h=>?_⟩,?_⟩
    ·exfalso
     unfold isVar at h;have h:=of_decide_eq_true h;have har:arity t.op=0:=by rcases h with h|h<;>rw[h]<;>decide
     simp only[not_or,Ww]at g1;have:=g1.2.2.2;rw[har]at this;exact hz (Lc.1 (by omega))
    ·rw[Term.yR,Term.yR];exact i2
   ·rw[Term.xe t,Term.xe,←i3];rfl
def HR(wd:Int):List (ByteArray×Term)→List (ByteArray×Term)→Prop
 | [],[]=>True
 |a::l,b::m=>a.1=b.1∧aiY wd a.2 b.2∧isVar a.2=true∧HR wd l m
 |_,_=>False
theorem HR.len{wd:Int}:∀{l m:List (ByteArray×Term)},HR wd l m→m.length=l.length
 | [],[],_=>rfl
 |a::l,b::m,h=>by simp[HR.len h.2.2.2]
theorem HR.lk{wd:Int}(k:ByteArray):∀{l m:List (ByteArray×Term)},HR wd l m→match D2 l k,D2 m k with
  |none,none=>True
  |some a,some b=>aiY wd a b∧isVar a=true
  |_,_=>False
 | [],[],_=>trivial
 |a::l,b::m,h=>by
  simp only[D2];rw[←h.1];by_cases hk:k=a.1
  ·simp only[hk,if_true];exact⟨h.2.1,h.2.2.1⟩
  ·simp only[hk,if_false];exact HR.lk k h.2.2.2
theorem HR.st{wd:Int}{a b:Term}(hr:aiY wd a b)(hv:isVar a=true):∀{l m:List (ByteArray×Term)},HR wd l m→HR wd (NS a l) (NS b m)
 | [],[],_=>⟨hr.2.1.symm,hr,hv,trivial⟩
 |c::l,d::m,h=>by
  simp only[NS];rw[hr.2.1,←h.1];by_cases hk:a.name=c.1
  ·simp only[hk,if_true];exact⟨rfl,hr,hv,h.2.2.2⟩
  ·simp only[hk,if_false];exact⟨h.1,h.2.1,h.2.2.1,HR.st hr hv h.2.2.2⟩
theorem TG{wd:Int}{a b:Term}(h:aiY wd a b):isVar b=isVar a:=by unfold isVar;rw[h.1]
theorem ui.bind{wd:Int}:∀{l m:List Term} (i:Nat) {s s':List (ByteArray×Term)} {r:List (ByteArray×Term)},ui wd l m→HR wd s s' →
  aq (fun _ s u=>tF s u) i s l=.inl r→∃r',aq (fun _ s u=>tF s u) i s' m=.inl r'∧r'.length=r.length
 | [],[],i,s,s',r,_,hs,h=>by
  simp only[aq,abw]at h ⊢;subst h;exact⟨s',rfl,hs.len⟩
 |a::l,b::m,i,s,s',r,hl,hs,h=>by
  simp only[aq]at h ⊢;unfold tF at h ⊢;rw[TG hl.1,hl.1.2.1];cases hv:isVar a with
  |false=>
   simp only[hv,lG,if_false]at h ⊢;exact ui.bind (i+1) hl.2 hs h
  |true=>
   simp only[hv,if_true]at h ⊢;have hk:=hs.lk a.name;cases h1:D2 s a.name with
   |none=>
    cases h2:D2 s' a.name with
    |some y=>rw[h1,h2]at hk;exact hk.elim
    |none=>
     simp only[h1]at h
     simp only
     exact ui.bind (i+1) hl.2 (HR.st hl.1 hv hs) h
   |some x=>
    cases h2:D2 s' a.name with
    |none=>rw[h1,h2]at hk;exact hk.elim
    |some y=>
     rw[h1,h2]at hk;simp only[h1]at h
     simp only
     by_cases hc:x.op=a.op∧x.w=a.w
     ·rw[if_pos hc]at h
      rw[if_pos ⟨by rw[hk.1.1,hl.1.1,hc.1],by rw[hk.1.2.2 hk.2,hl.1.2.2 hv,hc.2]⟩]
      exact ui.bind (i+1) hl.2 (HR.st hl.1 hv hs) h
     ·rw[if_neg hc]at h;cases h
end Go.AE.S
