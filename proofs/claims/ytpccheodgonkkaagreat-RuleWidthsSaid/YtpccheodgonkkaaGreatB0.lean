import Derived.Test.YtpccheodgonkkaaGreatP0
import Derived.Test.YtpccheodgonkkaaGreatIr
set_option maxHeartbeats 0
set_option linter.unusedSimpArgs false
set_option linter.unusedVariables false
namespace Go.AE.S
open Go Go.AE
variable {τ:Tm} {σ:ag} {rd:Option Nat}
theorem gF(o:Int):R P kG [.int .i64 o]=some (.bool (decide (1≤o∧o≤26))):=by
 (rw[PW (aD rfl),pz];simp(disch:=omega)only[bK,↓aa,seval,-List.reduceReplicate,reduceCtorEq,ae])
 by_cases h1:1≤o<;>by_cases h2:o≤26<;>simp(disch:=omega)only[bK,↓aa,seval,-List.reduceReplicate,reduceCtorEq,ae,h1,h2]<;>rfl
theorem xL(o:Int):R P gP [.int .i64 o]=some (.bool (decide (0≤o∧o≤64))):=by
 (rw[Mu (aD rfl),oy];simp(disch:=omega)only[bK,↓aa,seval,-List.reduceReplicate,reduceCtorEq,ae])
 by_cases h1:0≤o<;>by_cases h2:o≤64<;>simp(disch:=omega)only[bK,↓aa,seval,-List.reduceReplicate,reduceCtorEq,ae,h1,h2]<;>rfl
def arity(o:Int):Int :=
 if o=19 then 3 else if o=1∨o=2∨o=24∨o=25 then 0 else if o=3∨o=4∨o=21∨o=22∨o=23∨o=26 then 1 else if 1≤o∧o≤26 then 2 else -1
theorem By(o:Int):(1≤o∧o≤26)→o=1∨o=2∨o=3∨o=4∨o=5∨o=6∨o=7∨o=8∨o=9∨o=10∨o=11∨o=12∨o=13∨o=14∨o=15∨o=16∨o=17∨o=18∨o=19∨o=20∨o=21∨o=22∨o=23∨o=24∨o=25∨o=26:=by omega
theorem afC{o:Int}(h:¬(1≤o∧o≤26)):¬o=1∧¬o=2∧¬o=3∧¬o=4∧¬o=5∧¬o=6∧¬o=7∧¬o=8∧¬o=9∧¬o=10∧¬o=11∧¬o=12∧¬o=13∧¬o=14∧¬o=15∧¬o=16∧¬o=17∧¬o=18∧¬o=19∧¬o=20∧¬o=21∧¬o=22∧¬o=23∧¬o=24∧¬o=25∧¬o=26:=by omega
theorem aI(o:Int):R P fe [.int .i64 o]=some (.int .i64 (arity o)):=by
 by_cases h:1≤o∧o≤26
 ·rcases By o h with h|h|h|h|h|h|h|h|h|h|h|h|h|h|h|h|h|h|h|h|h|h|h|h|h|h<;>subst h<;>(rw[EC (aD rfl),mQ];simp(disch:=omega)only[bK,↓aa,seval,-List.reduceReplicate,reduceCtorEq,ae])<;>rfl
 ·have hn:=afC h
  (rw[EC (aD rfl),mQ];simp(disch:=omega)only[bK,↓aa,seval,-List.reduceReplicate,reduceCtorEq,ae,hn])
  simp[arity,hn,h]
def okW(w:Int):Bool:=decide (0≤w∧w≤64)
def two(x:Int×Int):PV:=.jC [.int .i64 x.1,.int .i64 x.2]
def qV(o w v:Int):Int×Int:=if ¬(0≤w∧w≤64)∨o=2∧0<w∧(2:Int)^w.toNat≤v then(0,3)else(w,0)
theorem alh{v w:Int}(hv:0≤v)(hw:w≤64):(v.fdiv (2^min w.toNat IntKind.u64.bits)=0)↔v<2^w.toNat:=by
 have h1:min w.toNat IntKind.u64.bits=w.toNat:=Nat.min_eq_left (by show w.toNat≤64;omega)
 have hp:(0:Int)<2^w.toNat:=Int.pow_pos (by omega)
 rw[h1,Int.fdiv_eq_ediv_of_nonneg _ (by omega)]
 constructor
 ·intro h
  have:=Int.emod_lt_of_pos v hp;have h2:=Int.mul_ediv_add_emod v (2^w.toNat);rw[h]at h2;omega
 ·intro h
  exact Int.ediv_eq_zero_of_lt hv h
theorem RQ(o w v:Int)(hv:0≤v∧v≤18446744073709551615):R P mq [.int .i64 o,.int .i64 w,.int .u64 v]=some (two (qV o w v)):=by
 (rw[RF (aD rfl),rh];simp(disch:=omega)only[bK,↓aa,seval,-List.reduceReplicate,reduceCtorEq,ae,xG,xL])
 by_cases h1:0≤w∧w≤64
 ·by_cases h2:o=2
  ·by_cases h3:0<w
   ·have hz:=alh hv.1 h1.2
    by_cases h4:v<2^w.toNat
    ·simp(disch:=omega)only[bK,↓aa,seval,-List.reduceReplicate,reduceCtorEq,ae,h1,h2,h3,Gb,hz,h4]
     simp[qV,h1,h2,two,Int.not_le.2 h4]
    ·simp(disch:=omega)only[bK,↓aa,seval,-List.reduceReplicate,reduceCtorEq,ae,h1,h2,h3,Gb,hz,h4]
     simp[qV,h1,h2,h3,two,Int.not_lt.1 h4]
   ·simp(disch:=omega)only[bK,↓aa,seval,-List.reduceReplicate,reduceCtorEq,ae,h1,h2,h3]
    simp[qV,h1,h2,two,h3]
  ·simp(disch:=omega)only[bK,↓aa,seval,-List.reduceReplicate,reduceCtorEq,ae,h1,h2]
   simp[qV,h1,h2,two]
 ·simp(disch:=omega)only[bK,↓aa,seval,-List.reduceReplicate,reduceCtorEq,ae,h1]
  simp[qV,h1,two]
def pj(o w v f:Int):Int×Int:=if w<1∨64<w∨f<1∨(o=21∧(f<w∨f-w<v))∨(¬o=21∧w<f)then(0,3)else(w,0)
theorem Sm{f w:Int}(hf:f≤9223372036854775807)(h1:1≤w)(h2:w≤f):IntKind.u64.wrap (IntKind.i64.wrap (f-w))=f-w:=by
 rw[IntWalk.i64_in _ (by omega),IntWalk.u64_in _ (by omega)]
theorem Ke(o w v f:Int)(hf : -9223372036854775808≤f∧f≤9223372036854775807):R P ix [.int .i64 o,.int .i64 w,.int .u64 v,.int .i64 f]=some (two (pj o w v f)):=by
 (rw[J9 (aD rfl),mS];simp(disch:=omega)only[bK,↓aa,seval,-List.reduceReplicate,reduceCtorEq,ae])
 by_cases h1:w<1
 ·simp(disch:=omega)only[bK,↓aa,seval,-List.reduceReplicate,reduceCtorEq,ae,h1]
  simp[pj,h1,two]
 by_cases h2:64<w
 ·simp(disch:=omega)only[bK,↓aa,seval,-List.reduceReplicate,reduceCtorEq,ae,h1,h2]
  simp[pj,h2,two]
 by_cases h3:f<1
 ·simp(disch:=omega)only[bK,↓aa,seval,-List.reduceReplicate,reduceCtorEq,ae,h1,h2,h3]
  simp[pj,h3,two]
 by_cases h4:o=21
 ·by_cases h5:f<w
  ·simp(disch:=omega)only[bK,↓aa,seval,-List.reduceReplicate,reduceCtorEq,ae,h1,h2,h3,h4,h5]
   simp[pj,h4,h5,two]
  ·have hc:=Sm (f:=f) (w:=w) hf.2 (by omega) (by omega)
   by_cases h6:f-w<v
   ·simp(disch:=omega)only[bK,↓aa,seval,-List.reduceReplicate,reduceCtorEq,ae,h1,h2,h3,h4,h5,hc,h6]
    simp[pj,h4,h6,two]
   ·simp(disch:=omega)only[bK,↓aa,seval,-List.reduceReplicate,reduceCtorEq,ae,h1,h2,h3,h4,h5,hc,h6]
    simp[pj,h1,h2,h3,h4,h5,h6,two]
 ·by_cases h5:w<f
  ·simp(disch:=omega)only[bK,↓aa,seval,-List.reduceReplicate,reduceCtorEq,ae,h1,h2,h3,h4,h5]
   simp[pj,h4,h5,two]
  ·simp(disch:=omega)only[bK,↓aa,seval,-List.reduceReplicate,reduceCtorEq,ae,h1,h2,h3,h4,h5]
   simp[pj,h1,h2,h3,h4,h5,two]
theorem rS(c:Bool)(r:Int):R P eE [.bool c,.int .i64 r]=some (two (if c then(r,0)else(0,3))):=by
 cases c<;>(rw[Mt (aD rfl),ox];simp(disch:=omega)only[bK,↓aa,seval,-List.reduceReplicate,reduceCtorEq,ae])<;>rfl
def dE(n:Int):List PV:=[.int .i64 n]
def bw(o w v:Int)(as:List Int):Int×Int :=
 if arity o<0∨¬(as.length:Int)=arity o then(0,4)
 else if as.all okW=false then(0,3)
 else if arity o=0 then qV o w v
 else if o=21∨o=22∨o=23 then pj o w v (as.getD 0 0)
 else if arity o=1 then(as.getD 0 0,0)
 else if o=20 then if 1≤as.getD 0 0∧1≤as.getD 1 0∧as.getD 0 0+as.getD 1 0≤64 then(as.getD 0 0+as.getD 1 0,0)else(0,3)
 else if o=19 then if as.getD 0 0=1∧as.getD 1 0=as.getD 2 0 then(as.getD 1 0,0)else(0,3)
 else if as.getD 0 0=as.getD 1 0 then(if o=16∨o=17∨o=18 then(1,0)else(as.getD 0 0,0))else(0,3)
abbrev Hl(o w v:Int)(as:List Int)(i:Int):List (Nat×AV):=[(0,.p (.int .i64 o)),(1,.p (.int .i64 w)),(2,.p (.int .u64 v)),(3,.p (.aM (as.map dE))),(22,.p (.aM (as.map dE))),(23,.p (.int .i64 as.length)),(24,.p (.int .i64 i))]
theorem ax{α β:Type}{f:α→β}{l:List α}{i:Nat}{a:α}(h:l[i]?=some a):(l.map f)[i]?=some (f a):=by simp[h]
theorem Oj(q:Int→Bool):∀(as:List Int) (i:Nat),aq (S:=Unit) (T:=Unit) (fun _ _ a=>if q a=true then .inl ()else .inr ()) i () as=if as.all q=true then .inl ()else .inr ()
 | [],i=>rfl
 |a::as,i=>by
  cases h:q a<;>simp[aq,h,Oj q as]
def ahM(a b:Nat)(x y:PV)(σ:ag)(r:Ex×St):Prop:=r.1=.ret∧r.2.τ.get a=.p x∧r.2.τ.get b=.p y∧r.2.σ=σ
theorem OL(o w v:Int)(as:List Int)(hl:as.length≤1000000):if as.all okW=true then
   al P rG (Hl o w v as 0) σ 144 rd=some (.exit 0,⟨dX (tm (Hl o w v as as.length)) 25 (.p (.bool false)),σ,144,rd⟩)
  else ∃r,al P rG (Hl o w v as 0) σ 144 rd=some r∧ahM 8 9 (.int .i64 0) (.int .i64 3) σ r:=by
 have h:=er (P:=P) (nt:=144) (rd:=rd) (lv:=[0,1,2,3,22,23,24]) (b:=ot) (x:=0) (as:=as) (fun i (_:Unit)=>Hl o w v as i) (fun _=>σ) (fun i _ a=>if okW a=true then .inl ()else .inr ())
  (fun _=>⟨dX (tm (Hl o w v as as.length)) 25 (.p (.bool false)),σ,144,rd⟩) (fun _=>ahM 8 9 (.int .i64 0) (.int .i64 3) σ) (fun _ _=>True)
  (fun i a s ha hi hs=>by
   refine⟨fun _ _=>trivial,?_⟩
   have hlt:((i:Int)<as.length)=True:=by simpa using hi
   by_cases hc:0≤a∧a≤64
   ·simp only[ot]
    simp(disch:=omega)only[bK,↓aa,seval,-List.reduceReplicate,reduceCtorEq,ae,hlt,aJ (es:=1) (ax (f:=dE) ha) rfl,dE,xG,xL,okW,hc]
   ·simp only[ot]
    simp(disch:=omega)only[bK,↓aa,seval,-List.reduceReplicate,reduceCtorEq,ae,hlt,aJ (es:=1) (ax (f:=dE) ha) rfl,dE,xG,xL,okW,hc,ahM]) (fun s hs=>by
   simp only[ot];simp(disch:=omega)only[bK,↓aa,seval,-List.reduceReplicate,reduceCtorEq,ae,kY]) (fun i s=>rfl) () trivial
 rw[Oj]at h;exact(Hh h :)
theorem rX{o:Int}(h:¬(1≤o∧o≤26)):arity o = -1:=by
 have hn:=afC h;simp[arity,hn,h]
theorem Ce{o:Int}(h:1≤o∧o≤26):0≤arity o∧arity o≤3:=by
 rcases By o h with h|h|h|h|h|h|h|h|h|h|h|h|h|h|h|h|h|h|h|h|h|h|h|h|h|h<;>subst h<;>decide
theorem as7{o:Int}(h:1≤o∧o≤26)(h0:arity o=0):o=1∨o=2∨o=24∨o=25:=by
 rcases By o h with h'|h'|h'|h'|h'|h'|h'|h'|h'|h'|h'|h'|h'|h'|h'|h'|h'|h'|h'|h'|h'|h'|h'|h'|h'|h'<;>subst h'<;>first|omega|exact absurd h0 (by decide)
theorem as8{o:Int}(h:1≤o∧o≤26)(h0:arity o=1):o=3∨o=4∨o=26∨o=21∨o=22∨o=23:=by
 rcases By o h with h'|h'|h'|h'|h'|h'|h'|h'|h'|h'|h'|h'|h'|h'|h'|h'|h'|h'|h'|h'|h'|h'|h'|h'|h'|h'<;>subst h'<;>first|omega|exact absurd h0 (by decide)
theorem ata{o:Int}(h:1≤o∧o≤26)(h0:arity o=3):o=19:=by
 rcases By o h with h'|h'|h'|h'|h'|h'|h'|h'|h'|h'|h'|h'|h'|h'|h'|h'|h'|h'|h'|h'|h'|h'|h'|h'|h'|h'<;>subst h'<;>first|omega|exact absurd h0 (by decide)
theorem as9{o:Int}(h:1≤o∧o≤26)(h0:arity o=2):¬o=1∧¬o=2∧¬o=24∧¬o=25∧¬o=3∧¬o=4∧¬o=26∧¬o=21∧¬o=22∧¬o=23∧¬o=19:=by
 refine⟨?_,?_,?_,?_,?_,?_,?_,?_,?_,?_,?_⟩<;>(rintro rfl;exact absurd h0 (by decide))
theorem af3{a b:Int}(h:okW a=true)(h':okW b=true):IntKind.i64.wrap (a+b)=a+b:=by
 simp only[okW,decide_eq_true_eq]at h h';exact IntWalk.i64_in _ (by omega)
theorem zq(o w v:Int)(as:List Int)(hl:as.length≤1000000)(hv:0≤v∧v≤18446744073709551615) :
  R P gi [.int .i64 o,.int .i64 w,.int .u64 v,.aM (as.map dE)]=some (two (bw o w v as)):=by
 by_cases hk:1≤o∧o≤26
 rotate_left
 ·(rw[gE (aD rfl),dH];simp(disch:=omega)only[bK,↓aa,seval,-List.reduceReplicate,reduceCtorEq,ae,gB,gF,hk,aH,aI])
  simp[bw,rX hk,two]
 by_cases hn:(as.length:Int)=arity o
 rotate_left
 ·(rw[gE (aD rfl),dH];simp(disch:=omega)only[bK,↓aa,seval,-List.reduceReplicate,reduceCtorEq,ae,gB,gF,hk,aH,aI,aO,hn])
  simp[bw,hn,two]
 have hn':=eq_true hn;have hL:=OL (σ:=[]) (rd:=none) o w v as hl;have har:=Ce hk;by_cases ha:as.all okW=true
 rotate_left
 ·rw[if_neg ha]at hL
  obtain⟨⟨e,τ',σ',nt',rd'⟩,h1,h2,h3,h4,h5⟩:=hL
  simp only at h2 h3 h4 h5
  subst h2;subst h5
  (rw[gE (aD rfl),dH];simp(disch:=omega)only[bK,↓aa,seval,-List.reduceReplicate,reduceCtorEq,ae,gB,gF,hk,aH,aI,aO,hn',jx])
  simp(disch:=omega)only[bK,↓aa,seval,-List.reduceReplicate,reduceCtorEq,ae,h1,h3,h4]
  simp[bw,hn,ha,two,show ¬arity o<0 by omega]
 rw[if_pos ha]at hL;have ha0:∀a:Int,a∈as→okW a=true:=by simpa using ha
 have g:∀n:Nat,n<as.length→∃a,as[n]?=some a∧okW a=true:=fun n h=>⟨as[n],oq h,ha0 _ (Zx h)⟩
 have hspec:¬arity o<0:=by omega
 by_cases h0:arity o=0
 ·rcases as7 hk h0 with h|h|h|h<;>subst h<;>(rw[gE (aD rfl),dH];simp(disch:=omega)only[bK,↓aa,seval,-List.reduceReplicate,reduceCtorEq,ae,gB,gF,hk,aH,aI,aO,hn',jx,hL,Rx,RQ _ _ _ hv,two])<;>simp[bw,hn,ha,two,h0]
 by_cases h1:arity o=1
 ·obtain⟨a,ga,gb⟩:=g 0 (by omega)
  have ab : -9223372036854775808≤a∧a≤9223372036854775807:=by simp only[okW,decide_eq_true_eq]at gb;omega
  have i0:=LN (k:=.i64) (σ:=[]) (es:=1) (ax (f:=dE) ga) rfl;have gd:as.getD 0 0=a:=by simp[List.getD,ga]
  rcases as8 hk h1 with h|h|h|h|h|h<;>subst h<;>(rw[gE (aD rfl),dH];simp(disch:=omega)only[bK,↓aa,seval,-List.reduceReplicate,reduceCtorEq,ae,gB,gF,hk,aH,aI,aO,hn',jx,hL,J5,Ke _ _ _ _ ab,two,i0,dE])<;>simp[bw,hn,ha,two,h1,ga,gd]
 by_cases h3:arity o=3
 ·obtain⟨a,ga,_⟩:=g 0 (by omega)
  obtain⟨b,gb,_⟩:=g 1 (by omega)
  obtain⟨c,gc,_⟩:=g 2 (by omega)
  have i0:=LN (k:=.i64) (σ:=[]) (es:=1) (ax (f:=dE) ga) rfl;have i1:=afV (k:=.i64) (σ:=[]) (es:=1) (ax (f:=dE) gb) rfl;have i2:=apm (k:=.i64) (σ:=[]) (es:=1) (ax (f:=dE) gc) rfl;have da:as.getD 0 0=a:=by simp[List.getD,ga]
  have db:as.getD 1 0=b:=by simp[List.getD,gb]
  have dc:as.getD 2 0=c:=by simp[List.getD,gc]
  have e:=ata hk h3;subst e;by_cases c1:a=1<;>by_cases c2:b=c<;>(rw[gE (aD rfl),dH];simp(disch:=omega)only[bK,↓aa,seval,-List.reduceReplicate,reduceCtorEq,ae,gB,gF,hk,aH,aI,aO,hn',jx,hL,rQ,rS,two,i0,i1,i2,dE,eq_true c1,eq_true c2,c1,c2])<;>simp[bw,hn,ha,two,h3,ga,gb,gc,c1,c2]
 have h2:arity o=2:=by omega
 obtain⟨a,ga,oa⟩:=g 0 (by omega)
 obtain⟨b,gb,ob⟩:=g 1 (by omega)
 have i0:=LN (k:=.i64) (σ:=[]) (es:=1) (ax (f:=dE) ga) rfl;have i1:=afV (k:=.i64) (σ:=[]) (es:=1) (ax (f:=dE) gb) rfl;have da:as.getD 0 0=a:=by simp[List.getD,ga]
 have db:as.getD 1 0=b:=by simp[List.getD,gb]
 have hg:=as9 hk h2;have hs:=af3 oa ob;by_cases h20:o=20
 ·subst h20
  by_cases c1:1≤a<;>by_cases c2:1≤b<;>by_cases c3:a+b≤64<;>(rw[gE (aD rfl),dH];simp(disch:=omega)only[bK,↓aa,seval,-List.reduceReplicate,reduceCtorEq,ae,gB,gF,hk,aH,aI,aO,hn',jx,hL,rQ,rS,two,i0,i1,dE,hs,c1,c2,c3])<;>simp[bw,hn,ha,two,h2,ga,gb,c1,c2,c3]
 by_cases h16:o=16∨o=17∨o=18
 ·rcases h16 with h|h|h<;>subst h<;>by_cases c1:a=b<;>(rw[gE (aD rfl),dH];simp(disch:=omega)only[bK,↓aa,seval,-List.reduceReplicate,reduceCtorEq,ae,gB,gF,hk,aH,aI,aO,hn',jx,hL,rQ,rS,two,i0,i1,dE,eq_true c1,c1])<;>simp[bw,hn,ha,two,h2,ga,gb,c1]
 ·have h16':=not_or.1 h16
  have h17':=not_or.1 h16'.2;by_cases c1:a=b<;>(rw[gE (aD rfl),dH];simp(disch:=omega)only[bK,↓aa,seval,-List.reduceReplicate,reduceCtorEq,ae,gB,gF,hk,aH,aI,aO,hn',jx,hL,rQ,rS,two,i0,i1,dE,eq_true c1,c1,hg,h20,h16'.1,h17'.1,h17'.2])<;>simp[bw,hn,ha,two,h2,ga,gb,c1,hg,h20,h16]
theorem Xr(o:Int):∀(as:List Int) (i:Nat),aq (S:=Unit) (T:=Unit) (fun _ _ a=>if a=o then .inr ()else .inl ()) i () as=if o∈as then .inr ()else .inl ()
 | [],i=>rfl
 |a::as,i=>by
  by_cases h:a=o
  ·simp[aq,h]
  ·have h':¬o=a:=fun e=>h e.symm
   simp[aq,h,h',Xr o as]
def cj(a:Nat)(x:PV)(σ:ag)(r:Ex×St):Prop:=r.1=.ret∧r.2.τ.get a=.p x∧r.2.σ=σ
abbrev ai1(o:Int)(as:List Int)(i:Int):List (Nat×AV):=[(0,.p (.int .i64 o)),(1,.p (.aM (as.map dE))),(7,.p (.int .i64 as.length)),(8,.p (.int .i64 i))]
theorem ajZ(o:Int)(as:List Int)(hl:as.length≤1000000):if o∈as then
   ∃r,al P EX (ai1 o as 0) σ 18 rd=some r∧cj 4 (.bool true) σ r
  else al P EX (ai1 o as 0) σ 18 rd=some (.exit 0,⟨dX (tm (ai1 o as as.length)) 9 (.p (.bool false)),σ,18,rd⟩):=by
 have h:=er (P:=P) (nt:=18) (rd:=rd) (lv:=[0,1,7,8]) (b:=EU) (x:=0) (as:=as) (fun i (_:Unit)=>ai1 o as i) (fun _=>σ) (fun i _ a=>if a=o then .inr ()else .inl ())
  (fun _=>⟨dX (tm (ai1 o as as.length)) 9 (.p (.bool false)),σ,18,rd⟩) (fun _=>cj 4 (.bool true) σ) (fun _ _=>True)
  (fun i a s ha hi hs=>by
   refine⟨fun _ _=>trivial,?_⟩
   have hlt:((i:Int)<as.length)=True:=by simpa using hi
   by_cases hc:a=o<;>simp only[EU]<;>simp(disch:=omega)only[bK,↓aa,seval,-List.reduceReplicate,reduceCtorEq,ae,hlt,aJ (es:=1) (ax (f:=dE) ha) rfl,dE,eq_true hc,hc,cj]) (fun s hs=>by
   simp only[EU];simp(disch:=omega)only[bK,↓aa,seval,-List.reduceReplicate,reduceCtorEq,ae,kY]) (fun i s=>rfl) () trivial
 rw[Xr]at h;exact(ae7 h :)
theorem YT(o:Int)(as:List Int)(hl:as.length≤1000000):R P xh [.int .i64 o,.aM (as.map dE)]=some (.bool (decide (o∈as))):=by
 have h:=ajZ (σ:=[]) (rd:=none) o as hl;by_cases hc:o∈as
 ·rw[if_pos hc]at h
  obtain⟨⟨e,τ',σ',nt',rd'⟩,h1,h2,h3,h4⟩:=h
  simp only at h2 h3 h4
  subst h2;subst h4
  (rw[Ys (aD rfl),Bb];simp(disch:=omega)only[bK,↓aa,seval,-List.reduceReplicate,reduceCtorEq,ae,aO,SQ,h1,h3])
  simp[hc]
 ·rw[if_neg hc]at h
  (rw[Ys (aD rfl),Bb];simp(disch:=omega)only[bK,↓aa,seval,-List.reduceReplicate,reduceCtorEq,ae,aO,SQ,h])
  simp[hc]
theorem jB(o:Int):R P pY [.int .i64 o]=some (.bool (decide (o=1∨o=2∨o=24∨o=25))):=by
 have h:=YT o [1,2,24,25] (by decide)
 simp only[sP,Cb,dE]at h
 (rw[ad4 (aD rfl),yN];simp(disch:=omega)only[bK,↓aa,seval,-List.reduceReplicate,reduceCtorEq,ae,IH,h])
 simp
theorem AD(o:Int):R P lO [.int .i64 o]=some (.bool (decide (0≤o∧o≤64))):=by
 (rw[Yu (aD rfl),wT];simp(disch:=omega)only[bK,↓aa,seval,-List.reduceReplicate,reduceCtorEq,ae])
 by_cases h1:0≤o<;>by_cases h2:o≤64<;>simp(disch:=omega)only[bK,↓aa,seval,-List.reduceReplicate,reduceCtorEq,ae,h1,h2]<;>rfl
theorem bp(o:Int):R P j7 [.int .i64 o]=some (.int .i64 (arity o)):=by
 have h:=YT o [3,4,21,22,23,26] (by decide)
 simp only[sP,Cb,dE]at h;by_cases hk:1≤o∧o≤26
 ·rcases By o hk with h'|h'|h'|h'|h'|h'|h'|h'|h'|h'|h'|h'|h'|h'|h'|h'|h'|h'|h'|h'|h'|h'|h'|h'|h'|h'<;>subst h'<;>(rw[ED (aD rfl),pB];simp(disch:=omega)only[bK,↓aa,seval,-List.reduceReplicate,reduceCtorEq,ae,IH,jy,jB,h,pn,ab0])<;>rfl
 ·by_cases h1:o<1
  ·(rw[ED (aD rfl),pB];simp(disch:=omega)only[bK,↓aa,seval,-List.reduceReplicate,reduceCtorEq,ae,IH,jy,jB,h,h1])
   simp[rX hk]
  ·have h2:26<o:=by omega
   (rw[ED (aD rfl),pB];simp(disch:=omega)only[bK,↓aa,seval,-List.reduceReplicate,reduceCtorEq,ae,IH,jy,jB,h,h1,h2])
   simp[rX hk]
theorem an7{w:Int}(h1:0<w)(h2:w<64):IntKind.u64.wrap (1*2^min w.toNat IntKind.u64.bits)=2^w.toNat:=by
 have e:min w.toNat IntKind.u64.bits=w.toNat:=Nat.min_eq_left (by show w.toNat≤64;omega)
 rw[e,Int.one_mul];have hp:(0:Int)<2^w.toNat:=Int.pow_pos (by omega)
 have hlt:(2:Int)^w.toNat≤2^63:=by
  have:=aa7 (show 0<2 by omega) (show w.toNat≤63 by omega)
  exact_mod_cast this
 exact IntWalk.u64_in _ ⟨by omega,by omega⟩
theorem arG{w:Int}(h:0≤w)(h':w≤18446744073709551615):IntKind.u64.wrap w=w:=IntWalk.u64_in _ ⟨h,h'⟩
theorem ael(o w v:Int)(hv:0≤v∧v≤18446744073709551615):R P sm [.int .i64 o,.int .i64 w,.int .u64 v]=some (two (qV o w v)):=by
 (rw[ad5 (aD rfl),yO];simp(disch:=omega)only[bK,↓aa,seval,-List.reduceReplicate,reduceCtorEq,ae,Ar,AD])
 by_cases h1:0≤w∧w≤64
 rotate_left
 ·simp(disch:=omega)only[bK,↓aa,seval,-List.reduceReplicate,reduceCtorEq,ae,h1]
  simp[qV,h1,two]
 by_cases h2:o=2
 rotate_left
 ·simp(disch:=omega)only[bK,↓aa,seval,-List.reduceReplicate,reduceCtorEq,ae,h1,h2]
  simp[qV,h1,h2,two]
 by_cases h3:0<w
 rotate_left
 ·simp(disch:=omega)only[bK,↓aa,seval,-List.reduceReplicate,reduceCtorEq,ae,h1,h2,h3]
  simp[qV,h1,h2,two,h3]
 by_cases h4:w<64
 ·have hu:=arG (w:=w) (by omega) (by omega)
  have hs:=an7 h3 h4;by_cases h5:(2:Int)^w.toNat≤v
  ·simp(disch:=omega)only[bK,↓aa,seval,-List.reduceReplicate,reduceCtorEq,ae,h1,h2,h3,h4,hu,afX,hs,h5]
   simp[qV,h1,h2,h3,two,h5]
  ·simp(disch:=omega)only[bK,↓aa,seval,-List.reduceReplicate,reduceCtorEq,ae,h1,h2,h3,h4,hu,afX,hs,h5]
   simp[qV,h1,h2,h3,two,h5]
 ·have e:w=64:=by omega
  subst e;simp(disch:=omega)only[bK,↓aa,seval,-List.reduceReplicate,reduceCtorEq,ae,h1,h2,h3,h4]
  have:¬(2:Int)^(64:Int).toNat≤v:=by
   have:(2:Int)^(64:Int).toNat=18446744073709551616:=by decide
   omega
  simp[qV,h2,two,show ¬18446744073709551616≤v by omega]
theorem YU(o w v f:Int)(hf : -9223372036854775808≤f∧f≤9223372036854775807):R P pZ [.int .i64 o,.int .i64 w,.int .u64 v,.int .i64 f]=some (two (pj o w v f)):=by
 (rw[Yt (aD rfl),wS];simp(disch:=omega)only[bK,↓aa,seval,-List.reduceReplicate,reduceCtorEq,ae,Ar,AD])
 by_cases h0:0≤w∧w≤64
 rotate_left
 ·simp(disch:=omega)only[bK,↓aa,seval,-List.reduceReplicate,reduceCtorEq,ae,h0]
  rw[pj,if_pos (by omega)];rfl
 by_cases h1:w<1
 ·simp(disch:=omega)only[bK,↓aa,seval,-List.reduceReplicate,reduceCtorEq,ae,h0,h1]
  simp[pj,h1,two]
 by_cases h3:f<1
 ·simp(disch:=omega)only[bK,↓aa,seval,-List.reduceReplicate,reduceCtorEq,ae,h0,h1,h3]
  simp[pj,h3,two]
 have h2:¬64<w:=by omega
 by_cases h4:o=21
 ·by_cases h5:f<w
  ·simp(disch:=omega)only[bK,↓aa,seval,-List.reduceReplicate,reduceCtorEq,ae,h0,h1,h3,h4,h5]
   simp[pj,h4,h5,two]
  ·have hc:=Sm (f:=f) (w:=w) hf.2 (by omega) (by omega)
   by_cases h6:f-w<v
   ·simp(disch:=omega)only[bK,↓aa,seval,-List.reduceReplicate,reduceCtorEq,ae,h0,h1,h3,h4,h5,hc,h6]
    simp[pj,h4,h6,two]
   ·simp(disch:=omega)only[bK,↓aa,seval,-List.reduceReplicate,reduceCtorEq,ae,h0,h1,h3,h4,h5,hc,h6]
    simp[pj,h1,h2,h3,h4,h5,h6,two]
 ·by_cases h5:w<f
  ·simp(disch:=omega)only[bK,↓aa,seval,-List.reduceReplicate,reduceCtorEq,ae,h0,h1,h3,h4,h5]
   simp[pj,h4,h5,two]
  ·simp(disch:=omega)only[bK,↓aa,seval,-List.reduceReplicate,reduceCtorEq,ae,h0,h1,h3,h4,h5]
   simp[pj,h1,h2,h3,h4,h5,two]
abbrev DB(o w v:Int)(as:List Int)(i:Int):List (Nat×AV):=[(0,.p (.int .i64 o)),(1,.p (.int .i64 w)),(2,.p (.int .u64 v)),(3,.p (.aM (as.map dE))),(22,.p (.int .i64 as.length)),(23,.p (.int .i64 i))]
theorem XL(o w v:Int)(as:List Int)(hl:as.length≤1000000):if as.all okW=true then
   al P xX (DB o w v as 0) σ 133 rd=some (.exit 0,⟨dX (tm (DB o w v as as.length)) 24 (.p (.bool false)),σ,133,rd⟩)
  else ∃r,al P xX (DB o w v as 0) σ 133 rd=some r∧ahM 8 9 (.int .i64 0) (.int .i64 3) σ r:=by
 have h:=er (P:=P) (nt:=133) (rd:=rd) (lv:=[0,1,2,3,22,23]) (b:=tr) (x:=0) (as:=as) (fun i (_:Unit)=>DB o w v as i) (fun _=>σ) (fun i _ a=>if okW a=true then .inl ()else .inr ())
  (fun _=>⟨dX (tm (DB o w v as as.length)) 24 (.p (.bool false)),σ,133,rd⟩) (fun _=>ahM 8 9 (.int .i64 0) (.int .i64 3) σ) (fun _ _=>True)
  (fun i a s ha hi hs=>by
   refine⟨fun _ _=>trivial,?_⟩
   have hlt:((i:Int)<as.length)=True:=by simpa using hi
   by_cases hc:0≤a∧a≤64
   ·simp only[tr]
    simp(disch:=omega)only[bK,↓aa,seval,-List.reduceReplicate,reduceCtorEq,ae,hlt,aJ (es:=1) (ax (f:=dE) ha) rfl,dE,Ar,AD,okW,hc]
   ·simp only[tr]
    simp(disch:=omega)only[bK,↓aa,seval,-List.reduceReplicate,reduceCtorEq,ae,hlt,aJ (es:=1) (ax (f:=dE) ha) rfl,dE,Ar,AD,okW,hc,ahM]) (fun s hs=>by
   simp only[tr];simp(disch:=omega)only[bK,↓aa,seval,-List.reduceReplicate,reduceCtorEq,ae,kY]) (fun i s=>rfl) () trivial
 rw[Oj]at h;exact(Hh h :)
theorem LC(o w v:Int)(as:List Int)(hl:as.length≤1000000)(hv:0≤v∧v≤18446744073709551615) :
  R P nF [.int .i64 o,.int .i64 w,.int .u64 v,.aM (as.map dE)]=some (two (bw o w v as)):=by
 by_cases hk:1≤o∧o≤26
 rotate_left
 ·(rw[gY (aD rfl),ej];simp(disch:=omega)only[bK,↓aa,seval,-List.reduceReplicate,reduceCtorEq,ae,rX hk,bn,bp])
  simp[bw,rX hk,two]
 have har:=Ce hk;have hneg:¬arity o<0:=by omega
 by_cases hn:(as.length:Int)=arity o
 rotate_left
 ·(rw[gY (aD rfl),ej];simp(disch:=omega)only[bK,↓aa,seval,-List.reduceReplicate,reduceCtorEq,ae,bn,bp,hneg,aO,hn])
  simp[bw,hn,two]
 have hn':=eq_true hn;have hL:=XL (σ:=[]) (rd:=none) o w v as hl;by_cases ha:as.all okW=true
 rotate_left
 ·rw[if_neg ha]at hL
  obtain⟨⟨e,τ',σ',nt',rd'⟩,h1,h2,h3,h4,h5⟩:=hL
  simp only at h2 h3 h4 h5
  subst h2;subst h5
  (rw[gY (aD rfl),ej];simp(disch:=omega)only[bK,↓aa,seval,-List.reduceReplicate,reduceCtorEq,ae,bn,bp,hneg,aO,hn',iL])
  simp(disch:=omega)only[bK,↓aa,seval,-List.reduceReplicate,reduceCtorEq,ae,h1,h3,h4]
  simp[bw,hn,ha,two,hneg]
 rw[if_pos ha]at hL;have ha0:∀a:Int,a∈as→okW a=true:=by simpa using ha
 have g:∀n:Nat,n<as.length→∃a,as[n]?=some a∧okW a=true:=fun n h=>⟨as[n],oq h,ha0 _ (Zx h)⟩
 by_cases h0:arity o=0
 ·rcases as7 hk h0 with h|h|h|h<;>subst h<;>(rw[gY (aD rfl),ej];simp(disch:=omega)only[bK,↓aa,seval,-List.reduceReplicate,reduceCtorEq,ae,bn,bp,hneg,aO,hn',iL,hL,jy,jB,adR,ael _ _ _ hv,two])<;>simp[bw,hn,ha,two,h0]
 by_cases h1:arity o=1
 ·obtain⟨a,ga,gb⟩:=g 0 (by omega)
  have ab : -9223372036854775808≤a∧a≤9223372036854775807:=by simp only[okW,decide_eq_true_eq]at gb;omega
  have i0:=LN (k:=.i64) (σ:=[]) (es:=1) (ax (f:=dE) ga) rfl;have l1:=eq_true (show(as.length:Int)=1 by omega)
  rcases as8 hk h1 with h|h|h|h|h|h<;>subst h<;>(rw[gY (aD rfl),ej];simp(disch:=omega)only[bK,↓aa,seval,-List.reduceReplicate,reduceCtorEq,ae,bn,bp,hneg,aO,hn',iL,hL,jy,jB,Yk,YU _ _ _ _ ab,two,i0,dE,l1])<;>simp[bw,hn,ha,two,h1,ga]
 by_cases h3:arity o=3
 ·obtain⟨a,ga,_⟩:=g 0 (by omega)
  obtain⟨b,gb,_⟩:=g 1 (by omega)
  obtain⟨c,gc,_⟩:=g 2 (by omega)
  have i0:=LN (k:=.i64) (σ:=[]) (es:=1) (ax (f:=dE) ga) rfl;have i1:=afV (k:=.i64) (σ:=[]) (es:=1) (ax (f:=dE) gb) rfl;have i2:=apm (k:=.i64) (σ:=[]) (es:=1) (ax (f:=dE) gc) rfl;have l1:=eq_false (show ¬(as.length:Int)=1 by omega)
  have e:=ata hk h3;subst e;by_cases c1:a=1<;>by_cases c2:b=c<;>(rw[gY (aD rfl),ej];simp(disch:=omega)only[bK,↓aa,seval,-List.reduceReplicate,reduceCtorEq,ae,bn,bp,hneg,aO,hn',iL,hL,jy,jB,two,i0,i1,i2,dE,l1,eq_true c1,eq_true c2,c1,c2])<;>simp[bw,hn,ha,two,h3,ga,gb,gc,c1,c2]
 have h2:arity o=2:=by omega
 obtain⟨a,ga,oa⟩:=g 0 (by omega)
 obtain⟨b,gb,ob⟩:=g 1 (by omega)
 have i0:=LN (k:=.i64) (σ:=[]) (es:=1) (ax (f:=dE) ga) rfl;have i1:=afV (k:=.i64) (σ:=[]) (es:=1) (ax (f:=dE) gb) rfl;have l1:=eq_false (show ¬(as.length:Int)=1 by omega)
 have hg:=as9 hk h2;have hs:=af3 oa ob;by_cases h20:o=20
 ·subst h20
  by_cases c1:a<1
  ·(rw[gY (aD rfl),ej];simp(disch:=omega)only[bK,↓aa,seval,-List.reduceReplicate,reduceCtorEq,ae,bn,bp,hneg,aO,hn',iL,hL,jy,jB,two,i0,i1,dE,hs,l1,c1])
   simp[bw,hn,ha,two,h2,ga,gb,c1,show ¬1≤a by omega]
  by_cases c2:b<1
  ·(rw[gY (aD rfl),ej];simp(disch:=omega)only[bK,↓aa,seval,-List.reduceReplicate,reduceCtorEq,ae,bn,bp,hneg,aO,hn',iL,hL,jy,jB,two,i0,i1,dE,hs,l1,c1,c2])
   simp[bw,hn,ha,two,h2,ga,gb,c1,show ¬1≤b by omega]
  by_cases c3:64<a+b
  ·(rw[gY (aD rfl),ej];simp(disch:=omega)only[bK,↓aa,seval,-List.reduceReplicate,reduceCtorEq,ae,bn,bp,hneg,aO,hn',iL,hL,jy,jB,two,i0,i1,dE,hs,l1,c1,c2,c3])
   simp[bw,hn,ha,two,h2,ga,gb,show ¬a+b≤64 by omega]
  ·(rw[gY (aD rfl),ej];simp(disch:=omega)only[bK,↓aa,seval,-List.reduceReplicate,reduceCtorEq,ae,bn,bp,hneg,aO,hn',iL,hL,jy,jB,two,i0,i1,dE,hs,l1,c1,c2,c3])
   simp[bw,hn,ha,two,h2,ga,gb,show 1≤a by omega,show 1≤b by omega,show a+b≤64 by omega]
 by_cases h16:o=16∨o=17∨o=18
 ·rcases h16 with h|h|h<;>subst h<;>by_cases c1:a=b<;>(rw[gY (aD rfl),ej];simp(disch:=omega)only[bK,↓aa,seval,-List.reduceReplicate,reduceCtorEq,ae,bn,bp,hneg,aO,hn',iL,hL,jy,jB,two,i0,i1,dE,l1,eq_true c1,c1])<;>simp[bw,hn,ha,two,h2,ga,gb,c1]
 ·have h16':=not_or.1 h16
  have h17':=not_or.1 h16'.2;by_cases c1:a=b<;>(rw[gY (aD rfl),ej];simp(disch:=omega)only[bK,↓aa,seval,-List.reduceReplicate,reduceCtorEq,ae,bn,bp,hneg,aO,hn',iL,hL,jy,jB,two,i0,i1,dE,l1,eq_true c1,c1,hg,h20,h16'.1,h17'.1,h17'.2])<;>simp[bw,hn,ha,two,h2,ga,gb,c1,hg,h20,h16]
def G0(a:Int):Prop:=0≤a∧a≤18446744073709551615
theorem ofInt_u64{a:Int}(h:G0 a):(BitVec.ofInt IntKind.u64.bits a).toNat=a.toNat:=by
 obtain⟨h1,h2⟩:=h;rw[BitVec.toNat_ofInt]
 show(a % 18446744073709551616).toNat=_
 rw[Int.emod_eq_of_lt h1 (by omega)]
theorem MS{n:Nat}(h:n<2^64):IntKind.u64.wrap (n:Int)=n:=IntWalk.u64_in _ ⟨by omega,by omega⟩
theorem ER{a:Int}(h:G0 a):a.toNat<2^64:=by obtain⟨h1,h2⟩:=h;omega
theorem M0{n:Nat}(h:n<2^64):G0 (n:Int):=⟨by omega,by omega⟩
theorem u64_and{a b:Int}(ha:G0 a)(hb:G0 b):IntKind.u64.wrap (BitVec.ofInt IntKind.u64.bits a &&& BitVec.ofInt IntKind.u64.bits b).toNat=((a.toNat &&& b.toNat:Nat):Int):=by
 rw[BitVec.toNat_and,ofInt_u64 ha,ofInt_u64 hb];exact MS (Nat.and_lt_two_pow _ (ER hb))
theorem u64_or{a b:Int}(ha:G0 a)(hb:G0 b):IntKind.u64.wrap (BitVec.ofInt IntKind.u64.bits a |||BitVec.ofInt IntKind.u64.bits b).toNat=((a.toNat |||b.toNat:Nat):Int):=by
 rw[BitVec.toNat_or,ofInt_u64 ha,ofInt_u64 hb];exact MS (Nat.or_lt_two_pow (ER ha) (ER hb))
theorem u64_xor{a b:Int}(ha:G0 a)(hb:G0 b):IntKind.u64.wrap (BitVec.ofInt IntKind.u64.bits a ^^^ BitVec.ofInt IntKind.u64.bits b).toNat=((a.toNat ^^^ b.toNat:Nat):Int):=by
 rw[BitVec.toNat_xor,ofInt_u64 ha,ofInt_u64 hb];exact MS (Nat.xor_lt_two_pow (ER ha) (ER hb))
theorem DE{a:Int}(ha:0≤a)(k:Nat):a.fdiv (2^k)=((a.toNat / 2^k:Nat):Int):=by
 have hp:(0:Int)≤2^k:=Int.le_of_lt (Int.pow_pos (by omega))
 rw[Int.fdiv_eq_ediv_of_nonneg _ hp];obtain⟨n,rfl⟩:=Int.eq_ofNat_of_zero_le ha;simp
def fM(w:Int):Int:=min (max w 1) 64
theorem Dx(w:Int):1≤fM w∧fM w≤64:=by unfold fM;omega
theorem IY(w:Int):R P fY [.int .i64 w]=some (.int .i64 (fM w)):=by
 (rw[U2 (aD rfl),tF];simp(disch:=omega)only[bK,↓aa,seval,-List.reduceReplicate,reduceCtorEq,ae])
 rfl
theorem an4(w:Int):R P Ch [.int .i64 w]=some (.int .i64 (fM w)):=by
 (rw[anW (aD rfl),GW];simp(disch:=omega)only[bK,↓aa,seval,-List.reduceReplicate,reduceCtorEq,ae])
 rfl
def OV(w:Int):Nat:=2^(fM w).toNat-1
theorem ana(w:Int):OV w<2^64:=by
 have h:=Dx w;have:=aa7 (show 0<2 by omega) (show(fM w).toNat≤64 by omega)
 have:=Nc (n:=(fM w).toNat) (show 0<2 by omega)
 unfold OV;omega
theorem ami{c:Nat}(h:1≤c∧c≤64):18446744073709551615 / 2^(64-c)=2^c-1:=by
 have key:∀n:Fin 65,18446744073709551615 / 2^(64-n.1)=2^n.1-1:=by decide +kernel
 exact key ⟨c,by omega⟩
theorem LA(w:Int):R P j4 [.int .i64 w]=some (.int .u64 (OV w)):=by
 have h:=Dx w;have hw:IntKind.i64.wrap (64-fM w)=64-fM w:=IntWalk.i64_in _ (by omega)
 have hs:cA .shr (.p (.int .u64 18446744073709551615)) (.p (.int .i64 (64-fM w)))=some (.p (.int .u64 (OV w))):=by
  rw[Gb (by omega),DE (by omega),show min (64-fM w).toNat IntKind.u64.bits=64-(fM w).toNat by(show min (64-fM w).toNat 64=_;omega)]
  have:=ami (c:=(fM w).toNat) (by omega)
  unfold OV;rw[←this];rfl
 (rw[Yn (aD rfl),wM];simp(disch:=omega)only[bK,↓aa,seval,-List.reduceReplicate,reduceCtorEq,ae,gA,IY,hw,hs])
def Mc(w x:Int):Int:=((x.toNat % 2^(fM w).toNat:Nat):Int)
theorem amH(w:Int){x:Int}(hx:G0 x):G0 (Mc w x):=by
 exact M0 (abg (Nat.mod_le x.toNat (2^(fM w).toNat)) (ER hx))
theorem Qf(w x:Int)(hx:G0 x):R P bN [.int .i64 w,.int .u64 x]=some (.int .u64 (Mc w x)):=by
 have hm:G0 (OV w:Int):=by have:=ana w;unfold G0;omega
 (rw[adV (aD rfl),yD];simp(disch:=omega)only[bK,↓aa,seval,-List.reduceReplicate,reduceCtorEq,ae,Eu,LA,alI,u64_and hx hm])
 unfold Mc;rw[show((OV w:Int)).toNat=2^(fM w).toNat-1 from rfl,Nat.and_two_pow_sub_one_eq_mod]
def Jw(x:Nat)(i:Nat):Nat:=x / 2^i % 2
theorem ahQ(x:Int)(i:Nat)(hi:i<64)(hx:G0 x):R P vB [.int .u64 x,.int .i64 i]=some (.int .u64 (Jw x.toNat i)):=by
 have h1:¬((i:Int)<0):=by omega
 have h2:¬((63:Int)<i):=by omega
 have hc:IntKind.u64.wrap (i:Int)=i:=IntWalk.u64_in _ (by omega)
 have hd:x.fdiv (2^min (i:Int).toNat IntKind.u64.bits)=((x.toNat / 2^i:Nat):Int):=by
  rw[show min (i:Int).toNat IntKind.u64.bits=i by(show min (i:Int).toNat 64=i);omega]
  exact DE hx.1 i
 have hu:G0 ((x.toNat / 2^i:Nat):Int):=M0 (abg (abY x.toNat (2^i)) (ER hx));have h1u:G0 1:=by unfold G0;omega
 (rw[ahJ (aD rfl),A9];simp(disch:=omega)only[bK,↓aa,seval,-List.reduceReplicate,reduceCtorEq,ae,h1,h2,hc,Gb,hd,alI,u64_and hu h1u])
 simp only[bI,PV.int.injEq,true_and];unfold Jw;rw[show((x.toNat / 2^i:Nat):Int).toNat=x.toNat / 2^i from rfl,Nat.and_one_is_mod]
theorem XX(x k:Nat):(x % 2^k) |||(Jw x k*2^k)=x % 2^(k+1):=by
 rw[Nat.mod_pow_succ,Nat.or_comm,Nat.mul_comm,←Nat.two_pow_add_eq_or_of_lt (QO _ (Nc (by omega)))]
 unfold Jw;omega
abbrev Uk(x c y i:Int):List (Nat×AV):=[(1,.p (.int .u64 x)),(5,.p (.int .u64 y)),(8,.p (.int .i64 c)),(9,.p (.int .i64 i))]
theorem agX{S α:Type}(f:Nat→S→α→S)(g:Nat→S)(as:List α)(i:Nat)(h:∀j a,g (j+1)=f j (g j) a):aq (T:=Empty) (fun i s a=>.inl (f i s a)) i (g i) as=.inl (g (i+as.length)):=by
 induction as generalizing i with
 |nil=>rfl
 |cons a as ih=>
  simp only[aq];rw[←h i a,ih (i+1),lH]
  congr 2
  omega
theorem ahf(x:Int)(c:Nat)(hc:c≤64)(hx:G0 x):al P Ge (Uk x c 0 0) σ 22 rd=some (.exit 0,⟨dX (tm (Uk x c ((x.toNat % 2^c:Nat):Int) c)) 10 (.p (.bool false)),σ,22,rd⟩):=by
 have h:=lp (P:=P) (nt:=22) (rd:=rd) (lv:=[1,5,8,9]) (b:=B0) (x:=0) (as:=List.range c) (fun i (s:Nat)=>Uk x c s i) (fun _=>σ) (fun i s _=>s |||(Jw x.toNat i*2^i))
  (fun s=>⟨dX (tm (Uk x c s c)) 10 (.p (.bool false)),σ,22,rd⟩) (fun i s=>s=x.toNat % 2^i)
  (fun i a s ha hi hs=>by
   have hi':i<c:=by simpa using hi
   have hlt:((i:Int)<c)=True:=by simpa using hi'
   refine⟨by rw[hs,XX],?_⟩
   have hb:=ahQ x i (by omega) hx
   have hcv:IntKind.u64.wrap (i:Int)=i:=IntWalk.u64_in _ (by omega)
   have hbit:Jw x.toNat i<2:=QO _ (by omega)
   have hp:2^i<2^64:=Nat.pow_lt_pow_right (by omega) (by omega)
   have hsh:Jw x.toNat i*2^i<2^64:=by
    rcases(show Jw x.toNat i=0∨Jw x.toNat i=1 by omega)with e|e<;>rw[e]<;>omega
   have hshl:IntKind.u64.wrap ((Jw x.toNat i:Int)*2^min (i:Int).toNat IntKind.u64.bits)=((Jw x.toNat i*2^i:Nat):Int):=by
    rw[show min (i:Int).toNat IntKind.u64.bits=i by(show min (i:Int).toNat 64=i);omega,←MS hsh]
    simp
   have hsu:G0 (s:Int):=by
    rw[hs];exact M0 (abg (Nat.mod_le x.toNat (2^i)) (ER hx))
   have hou:G0 ((Jw x.toNat i*2^i:Nat):Int):=M0 hsh;have hor:=u64_or hsu hou;simp only[B0];simp(disch:=omega)only[bK,↓aa,seval,-List.reduceReplicate,reduceCtorEq,ae,hlt,ahE,hb,hcv,afX,hshl,auY,hor]
   rfl) (fun s hs=>by
   simp only[B0];simp(disch:=omega)only[bK,↓aa,seval,-List.reduceReplicate,reduceCtorEq,ae,kY,abU]) (fun i s=>rfl) 0 (by simp[Nat.mod_one]) (x.toNat % 2^c) (by
   have:=agX (fun i s _=>s |||(Jw x.toNat i*2^i)) (fun i=>x.toNat % 2^i) (List.range c) 0 (fun j _=>(XX _ _).symm)
   simpa[Nat.mod_one]using this)
 exact h
theorem ahR(w x:Int)(hx:G0 x):R P vC [.int .i64 w,.int .u64 x]=some (.int .u64 (Mc w x)):=by
 have hc:=Dx w;have h:=ahf (σ:=[]) (rd:=none) x (fM w).toNat (by omega) hx
 have e:(((fM w).toNat:Nat):Int)=fM w:=by omega
 rw[e]at h
 (rw[ahK (aD rfl),Ba];simp(disch:=omega)only[bK,↓aa,seval,-List.reduceReplicate,reduceCtorEq,ae,anU,an4,adg,h])
 rfl
theorem s6{α:Type}(q:α→Bool):∀(as:List α) (i:Nat),aq (S:=Unit) (T:=Unit) (fun _ _ a=>if q a=true then .inl ()else .inr ()) i () as=if as.all q=true then .inl ()else .inr ()
 | [],i=>rfl
 |a::as,i=>by
  cases h:q a<;>simp[aq,h,s6 q as]
theorem tj(s:ByteArray):s.data.toList.length=s.size:=by rw[abV];rfl
theorem ag2(s:ByteArray)(i:Nat):s[i]?=s.data.toList[i]? := by
 by_cases h:i<s.size
 ·rw[getElem?_pos s i h,oq (by rw[tj];exact h)]
  rfl
 ·rw[getElem?_neg s i h,aba (by rw[tj];omega)]
theorem alL{s:ByteArray}{i:Nat}{b:UInt8}{k:IntKind}(h:s.data.toList[i]?=some b):afk (.p (.str s)) (.p (.int k i))=some (.p (.int .u8 b.toNat)):=by
 simp only[afk,nc,Int.natCast_nonneg,if_true,zy,ack,ag2,h,xu]
theorem alM{s:ByteArray}{b:UInt8}{k:IntKind}(h:s.data.toList[0]?=some b):afk (.p (.str s)) (.p (.int k 0))=some (.p (.int .u8 b.toNat)):=alL (i:=0) h
def zb(c:UInt8):Bool:=decide (97≤c.toNat∧c.toNat≤122∨48≤c.toNat∧c.toNat≤57∨c.toNat=95)
def iA(s:ByteArray):Bool:=decide (1≤s.size∧s.size≤16) && decide (97≤(s.data.toList.getD 0 0).toNat∧(s.data.toList.getD 0 0).toNat≤122) && s.data.toList.all zb
abbrev N0(s:ByteArray)(i:Int):List (Nat×AV):=[(0,.p (.str s)),(24,.p (.int .i64 s.size)),(25,.p (.int .i64 i))]
abbrev Hk(s:ByteArray)(i:Int):List (Nat×AV):=[(0,.p (.str s)),(3,.p (.int .i64 i))]
theorem XN (s:ByteArray) (hl:s.size≤16):if s.data.toList.all zb=true then
      al P x6 (N0 s 0) σ 50 rd=some (.exit 0,⟨dX (tm (N0 s s.size)) 26 (.p (.bool false)),σ,50,rd⟩)
    else ∃ r,al P x6 (N0 s 0) σ 50 rd=some r∧cj 2 (.bool false) σ r:=by
  have h:=er (P:=P) (nt:=50) (rd:=rd) (lv:=[0,24,25]) (b:=tC) (x:=0) (as:=s.data.toList) (fun i (_:Unit)=>N0 s i) (fun _=>σ) (fun i _ a=>if zb a=true then .inl () else .inr ())
    (fun _=>⟨dX (tm (N0 s s.size)) 26 (.p (.bool false)),σ,50,rd⟩) (fun _=>cj 2 (.bool false) σ) (fun _ _=>True)
    (fun i a _ ha hi hs=>by
      refine ⟨fun _ _=>trivial,?_⟩
      rw [tj] at hi;have hlt:((i:Int)<s.size)=True:=by simpa using hi
      have hix:=alL (k:=.i64) ha;by_cases h1:(a.toNat:Int)<97<;>by_cases h2:(122:Int)<a.toNat<;>by_cases h3:(a.toNat:Int)<48<;>by_cases h4:(57:Int)<a.toNat<;>by_cases h5:(a.toNat:Int)=95
      all_goals first
        | (exfalso;omega)
        | (have hn:zb a=true:=by unfold zb;rw [decide_eq_true_eq];omega
           simp only [tC]
           simp (disch:=omega) only [bK,↓aa,seval,-List.reduceReplicate,reduceCtorEq,ae,hlt,hix,h1,h2,h3,h4,eq_true h5,hn,cj]
           done)
        | (have hn:zb a=false:=by unfold zb;rw [decide_eq_false_iff_not];omega
           simp only [tC]
           simp (disch:=omega) only [bK,↓aa,seval,-List.reduceReplicate,reduceCtorEq,ae,hlt,hix,h1,h2,h3,h4,h5,hn,cj]
           done)) (fun s' hs=>by
      rw [tj]
      simp only [tC]
      simp (disch:=omega) only [bK,↓aa,seval,-List.reduceReplicate,reduceCtorEq,ae,kY]) (fun i s=>rfl) () trivial
  rw [s6] at h;exact (Hh h :)
theorem adh (s:ByteArray) (hl:s.size≤16):if s.data.toList.all zb=true then
      al P zO (Hk s 0) σ 52 rd=some (.exit 0,⟨dX (dX (dX (dX (tm (Hk s s.size)) 23 (.p (.int .i64 s.size))) 24 (.p (.str s))) 25 (.p (.int .i64 s.size))) 26 (.p (.bool false)),σ,52,rd⟩)
    else ∃ r,al P zO (Hk s 0) σ 52 rd=some r∧cj 2 (.bool false) σ r:=by
  have h:=er (P:=P) (nt:=52) (rd:=rd) (lv:=[0,3]) (b:=wH) (x:=0) (as:=s.data.toList) (fun i (_:Unit)=>Hk s i) (fun _=>σ) (fun i _ a=>if zb a=true then .inl () else .inr ())
    (fun _=>⟨dX (dX (dX (dX (tm (Hk s s.size)) 23 (.p (.int .i64 s.size))) 24 (.p (.str s))) 25 (.p (.int .i64 s.size))) 26 (.p (.bool false)),σ,52,rd⟩) (fun _=>cj 2 (.bool false) σ) (fun _ _=>True)
    (fun i a _ ha hi hs=>by
      refine ⟨fun _ _=>trivial,?_⟩
      rw [tj] at hi;have hlt:((i:Int)<s.size)=True:=by simpa using hi
      have hix:=alL (k:=.i64) ha;by_cases h1:(97:Int)≤a.toNat<;>by_cases h2:(a.toNat:Int)≤122<;>by_cases h3:(48:Int)≤a.toNat<;>by_cases h4:(a.toNat:Int)≤57<;>by_cases h5:(a.toNat:Int)=95
      all_goals first
        | (exfalso;omega)
        | (have hn:zb a=true:=by unfold zb;rw [decide_eq_true_eq];omega
           simp only [wH]
           simp (disch:=omega) only [bK,↓aa,seval,-List.reduceReplicate,reduceCtorEq,ae,hlt,hix,h1,h2,h3,h4,eq_true h5,hn,cj]
           done)
        | (have hn:zb a=false:=by unfold zb;rw [decide_eq_false_iff_not];omega
           simp only [wH]
           simp (disch:=omega) only [bK,↓aa,seval,-List.reduceReplicate,reduceCtorEq,ae,hlt,hix,h1,h2,h3,h4,h5,hn,cj]
           done)) (fun s' hs=>by
      rw [tj]
      simp only [wH]
      simp (disch:=omega) only [bK,↓aa,seval,-List.reduceReplicate,reduceCtorEq,ae,kY]) (fun i s=>rfl) () trivial
  rw [s6] at h;exact (Hh h :)
theorem ki(s:ByteArray):R P j9 [.str s]=some (.bool (iA s)):=by
 unfold iA;by_cases h1:(s.size:Int)<1
 ·(rw[th (aD rfl),jY];simp(disch:=omega)only[bK,↓aa,seval,-List.reduceReplicate,reduceCtorEq,ae,h1])
  simp[show ¬1≤s.size by omega]
 by_cases h2:(16:Int)<s.size
 ·(rw[th (aD rfl),jY];simp(disch:=omega)only[bK,↓aa,seval,-List.reduceReplicate,reduceCtorEq,ae,h1,h2])
  simp[show ¬s.size≤16 by omega]
 have hlen:=tj s;obtain⟨b,hb⟩:∃b,s.data.toList[0]?=some b:=⟨_,oq (by omega)⟩
 have hix:=alM (k:=.i64) hb;by_cases h3:(b.toNat:Int)<97
 ·(rw[th (aD rfl),jY];simp(disch:=omega)only[bK,↓aa,seval,-List.reduceReplicate,reduceCtorEq,ae,h1,h2,hix,h3])
  simp[List.getD,hb,show ¬97≤b.toNat by omega]
 by_cases h4:(122:Int)<b.toNat
 ·(rw[th (aD rfl),jY];simp(disch:=omega)only[bK,↓aa,seval,-List.reduceReplicate,reduceCtorEq,ae,h1,h2,hix,h3,h4])
  simp[List.getD,hb,show ¬b.toNat≤122 by omega]
 have hL:=XN (σ:=[]) (rd:=none) s (by omega)
 by_cases ha:s.data.toList.all zb=true
 ·rw[if_pos ha]at hL
  (rw[th (aD rfl),jY];simp(disch:=omega)only[bK,↓aa,seval,-List.reduceReplicate,reduceCtorEq,ae,h1,h2,hix,h3,h4,HR,hL])
  rw[ha];simp[List.getD,hb,show 97≤b.toNat by omega,show b.toNat≤122 by omega,show 1≤s.size by omega,show s.size≤16 by omega]
 ·rw[if_neg ha]at hL
  obtain⟨⟨e,τ',σ',nt',rd'⟩,h1',h2',h3',h4'⟩:=hL
  simp only at h2' h3' h4'
  subst h2';subst h4'
  (rw[th (aD rfl),jY];simp(disch:=omega)only[bK,↓aa,seval,-List.reduceReplicate,reduceCtorEq,ae,h1,h2,hix,h3,h4,HR,h1',h3'])
  rw[abH.2 ha];simp
theorem vY(s:ByteArray):R P od [.str s]=some (.bool (iA s)):=by
 unfold iA;by_cases h1:(s.size:Int)<1
 ·(rw[vR (aD rfl),mb];simp(disch:=omega)only[bK,↓aa,seval,-List.reduceReplicate,reduceCtorEq,ae,h1])
  simp[show ¬1≤s.size by omega]
 by_cases h2:(16:Int)<s.size
 ·(rw[vR (aD rfl),mb];simp(disch:=omega)only[bK,↓aa,seval,-List.reduceReplicate,reduceCtorEq,ae,h1,h2])
  simp[show ¬s.size≤16 by omega]
 have hlen:=tj s;obtain⟨b,hb⟩:∃b,s.data.toList[0]?=some b:=⟨_,oq (by omega)⟩
 have hix:=alM (k:=.i64) hb;by_cases h3:(b.toNat:Int)<97
 ·(rw[vR (aD rfl),mb];simp(disch:=omega)only[bK,↓aa,seval,-List.reduceReplicate,reduceCtorEq,ae,h1,h2,hix,h3])
  simp[List.getD,hb,show ¬97≤b.toNat by omega]
 by_cases h4:(122:Int)<b.toNat
 ·(rw[vR (aD rfl),mb];simp(disch:=omega)only[bK,↓aa,seval,-List.reduceReplicate,reduceCtorEq,ae,h1,h2,hix,h3,h4])
  simp[List.getD,hb,show ¬b.toNat≤122 by omega]
 have hL:=adh (σ:=[]) (rd:=none) s (by omega)
 by_cases ha:s.data.toList.all zb=true
 ·rw[if_pos ha]at hL
  (rw[vR (aD rfl),mb];simp(disch:=omega)only[bK,↓aa,seval,-List.reduceReplicate,reduceCtorEq,ae,h1,h2,hix,h3,h4,KF,hL])
  rw[ha];simp[List.getD,hb,show 97≤b.toNat by omega,show b.toNat≤122 by omega,show 1≤s.size by omega,show s.size≤16 by omega]
 ·rw[if_neg ha]at hL
  obtain⟨⟨e,τ',σ',nt',rd'⟩,h1',h2',h3',h4'⟩:=hL
  simp only at h2' h3' h4'
  subst h2';subst h4'
  (rw[vR (aD rfl),mb];simp(disch:=omega)only[bK,↓aa,seval,-List.reduceReplicate,reduceCtorEq,ae,h1,h2,hix,h3,h4,KF,h1',h3'])
  rw[abH.2 ha];simp
end Go.AE.S
namespace Go.AE
namespace Term
mutual
def count:Term→Nat
 |.mk _ _ _ _ as=>1+counts as
def counts:List Term→Nat
 | []=>0
 |t::r=>t.count+counts r
end
mutual
def left:Term→Int→Int
 |.mk _ _ _ _ as,n=>Bv as (n-1)
def Bv:List Term→Int→Int
 | [],n=>n
 |a::as,n=>if n<0 then -1 else Bv as (a.left n)
end
mutual
def deep:Term→Nat
 |.mk _ _ _ _ as=>ib as+1
def ib:List Term→Nat
 | []=>0
 |t::r=>max t.deep (ib r)
end
theorem count_eq(t:Term):t.count=1+counts t.args:=by cases t;simp[count,args]
theorem UJ(t:Term)(n:Int):t.left n=Bv t.args (n-1):=by cases t;simp[left,args]
theorem wv(t:Term):t.deep=ib t.args+1:=by cases t;simp[deep,args]
theorem cS{l:List Term}{a:Term}(h:a∈l):a.count≤counts l:=by
 induction l with
 |nil=>simp at h
 |cons b l ih=>
  simp only[counts];rcases pn.1 h with rfl|h
  ·omega
  ·have:=ih h;omega
theorem Sn(t:Term):1≤t.count:=by rw[count_eq];omega
theorem dJ(l:List Term):l.length≤counts l:=by
 induction l with
 |nil=>simp
 |cons b l ih=>simp only[counts,lH];have:=Sn b;omega
theorem adk:∀(t:Term) (n:Int),((t.count:Int)≤n→t.left n=n-t.count)∧(n<t.count→t.left n<0):=by
 apply ind;intro t ih n
 have key:∀(l:List Term),(∀a∈l,∀(n:Int),((a.count:Int)≤n→a.left n=n-a.count)∧(n<a.count→a.left n<0))→∀n:Int,((counts l:Int)≤n→Bv l n=n-counts l)∧(n<counts l→Bv l n<0):=by
  intro l
  induction l with
  |nil=>intro _ n;simp[Bv,counts]
  |cons a l ihl=>
   intro ha n;have h1:=ha a (by simp) n
   have h2:=ihl (fun b hb=>ha b (by simp[hb])) (a.left n)
   simp only[Bv,counts];have hc:=Sn a;by_cases hn:n<0
   ·rw[if_pos hn]
    constructor
    ·intro h;omega
    ·intro;omega
   ·rw[if_neg hn]
    by_cases hle:(a.count:Int)≤n
    ·have e:=h1.1 hle
     rw[e]at h2 ⊢;constructor
     ·intro h;rw[h2.1 (by omega)];omega
     ·intro h;exact h2.2 (by omega)
    ·have e:=h1.2 (by omega)
     constructor
     ·intro h;omega
     ·intro h;exact h2.2 (by omega)
 have hk:=key t.args ih (n-1);rw[UJ,count_eq];constructor
 ·intro h;rw[hk.1 (by omega)];omega
 ·intro h;exact hk.2 (by omega)
theorem XQ(t:Term)(n:Int):0≤t.left n↔(t.count:Int)≤n:=by
 have h:=adk t n;constructor
 ·intro h0
  rcases Int.lt_or_le n t.count with h1|h1
  ·have:=h.2 h1;omega
  ·exact h1
 ·intro h1
  rw[h.1 h1];omega
theorem aj3:∀(t:Term) (n:Int),-9223372036854775807≤n→n≤1000000 → -9223372036854775808≤t.left n∧t.left n≤1000000:=by
 apply ind;intro t ih n h1 h2;rw[UJ]
 have key:∀(l:List Term),(∀a∈l,a∈t.args)→∀n:Int,-9223372036854775808≤n→n≤1000000 → -9223372036854775808≤Bv l n∧Bv l n≤1000000:=by
  intro l
  induction l with
  |nil=>intro _ n h1 h2;exact⟨h1,h2⟩
  |cons a l ihl=>
   intro ha n h1 h2;simp only[Bv];by_cases hn:n<0
   ·rw[if_pos hn];omega
   ·rw[if_neg hn]
    have:=ih a (ha a (by simp)) n (by omega) h2
    exact ihl (fun b hb=>ha b (by simp[hb])) _ this.1 this.2
 exact key t.args (fun _ h=>h) (n-1) (by omega) (by omega)
end Term
namespace S
open Go Go.AE
variable {τ:Tm} {σ:ag} {rd:Option Nat}
inductive ia:Term→Prop
 |mk (t:Term) (h1 : -9223372036854775808≤t.op∧t.op≤9223372036854775807) (h2 : -9223372036854775808≤t.w∧t.w≤9223372036854775807) (h3:G0 t.v) (h4:t.name.size≤9223372036854775807) (h5:t.args.length≤9223372036854775807) (h:∀a∈t.args,ia a):ia t
theorem ia.op{t:Term}(h:ia t) : -9223372036854775808≤t.op∧t.op≤9223372036854775807:=by cases h;assumption
theorem ia.w{t:Term}(h:ia t) : -9223372036854775808≤t.w∧t.w≤9223372036854775807:=by cases h;assumption
theorem ia.v{t:Term}(h:ia t):G0 t.v:=by cases h;assumption
theorem ia.name{t:Term}(h:ia t):t.name.size≤9223372036854775807:=by cases h;assumption
theorem ia.len{t:Term}(h:ia t):t.args.length≤9223372036854775807:=by cases h;assumption
theorem ia.args{t:Term}(h:ia t){a:Term}(ha:a∈t.args):ia a:=by cases h;rename_i h;exact h a ha
abbrev N6(t:Term)(m:Int)(i:Int):List (Nat×AV):=[(1,.p (.int .i64 m)),(2,.p (.ptr t.row 0)),(10,.p (.int .i64 t.args.length)),(11,.p (.int .i64 i))]
theorem agZ(l:List Term):∀(i:Nat) (s:Int),nC (fun s'=>Term.Bv l s=s') (fun _=>Term.Bv l s = -1) (aq (T:=Unit) (fun _ s (a:Term)=>if s<0 then .inr ()else .inl (a.left s)) i s l):=by
 induction l with
 |nil=>intro i s;rfl
 |cons a l ih=>
  intro i s;simp only[aq,Term.Bv];by_cases h:s<0
  ·simp only[h,if_true];trivial
  ·simp only[h,if_false];exact ih _ _
theorem aen(t:Term):ia t→∀n:Int,-9223372036854775807≤n→n≤1000000→R P qd [.agg t.row,.int .i64 n]=some (.int .i64 (t.left n)):=by
 induction t using Term.ind with
 |h t ih=>
 intro ht n h1 h2;have hw:IntKind.i64.wrap (n-1)=n-1:=arV (by omega)
 have h:=er (P:=P) (nt:=25) (rd:=none) (lv:=[1,2,10,11]) (b:=wI) (x:=0) (as:=t.args) (fun i (s:Int)=>N6 t s i) (fun _=>[]) (fun _ s a=>if s<0 then .inr ()else .inl (a.left s))
  (fun s=>⟨dX (tm (N6 t s t.args.length)) 12 (.p (.bool false)),[],25,none⟩) (fun _=>cj 4 (.int .i64 (-1)) []) (fun _ s=>-9223372036854775808≤s∧s≤1000000)
  (fun i a s ha hi hs=>by
   have hm:=mi ha;have hlt:((i:Int)<t.args.length)=True:=by simpa using hi
   have hl:=ht.len;by_cases hc:s<0
   ·refine⟨by simp[hc],?_⟩
    simp only[wI];simp(disch:=omega)only[bK,↓aa,seval,-List.reduceReplicate,reduceCtorEq,ae,hlt,hc,cj]
   ·have hr:=ih a hm (ht.args hm) s (by omega) (by omega)
    have hb:=Term.aj3 a s (by omega) hs.2
    refine⟨by simp only[hc,if_false];rintro s' ⟨⟩;exact hb,?_⟩
    simp only[wI];simp(disch:=omega)only[bK,↓aa,seval,-List.reduceReplicate,reduceCtorEq,ae,hlt,hc,aJ (ax (f:=Term.row) ha) a.aB,PF,hr]) (fun s hs=>by
   simp only[wI];simp(disch:=omega)only[bK,↓aa,seval,-List.reduceReplicate,reduceCtorEq,ae,kY]) (fun i s=>rfl) (n-1) (by omega)
 have hf:=agZ t.args 0 (n-1);rw[←Term.UJ]at hf;cases hfe:aq (T:=Unit) (fun _ s (a:Term)=>if s<0 then .inr ()else .inl (a.left s)) 0 (n-1) t.args with
 |inl s=>
  rw[hfe]at h hf;have h':al P zP (N6 t (n-1) 0) [] 25 none=some (.exit 0,⟨dX (tm (N6 t s t.args.length)) 12 (.p (.bool false)),[],25,none⟩):=h;have hf':t.left n=s:=hf
  (rw[PY (aD rfl),u7];simp(disch:=omega)only[bK,↓aa,seval,-List.reduceReplicate,reduceCtorEq,ae,aO,KG,hw,h'])
  rw[hf']
 |inr u=>
  rw[hfe]at h hf;obtain⟨⟨e,τ',σ',nt',rd'⟩,g1,g2,g3,g4⟩:=h
  simp only at g2 g3 g4
  subst g2;subst g4;have h':al P zP (N6 t (n-1) 0) [] 25 none=some (.ret,⟨τ',[],nt',rd'⟩):=g1;have hf':t.left n = -1:=hf
  (rw[PY (aD rfl),u7];simp(disch:=omega)only[bK,↓aa,seval,-List.reduceReplicate,reduceCtorEq,ae,aO,KG,hw,h',g3])
  rw[hf']
theorem YX(t:Term)(ht:ia t)(n:Int)(h1 : -9223372036854775807≤n)(h2:n≤1000000):R P qc [.agg t.row,.int .i64 n]=some (.bool (decide ((t.count:Int)≤n))):=by
 (rw[Yv (aD rfl),wU];simp(disch:=omega)only[bK,↓aa,seval,-List.reduceReplicate,reduceCtorEq,ae,PF,aen t ht n h1 h2,Term.XQ])
end S
namespace Term
mutual
def beq:Term→Term→Bool
 |.mk o w v s as,.mk o' w' v' s' as'=>decide (o=o') && decide (w=w') && decide (v=v') && decide (s=s') && Dt as as'
def Dt:List Term→List Term→Bool
 | [],[]=>true
 |a::as,b::bs=>beq a b && Dt as bs
 |_,_=>false
end
theorem beq_eq(t u:Term):t.beq u=(decide (t.op=u.op) && decide (t.w=u.w) && decide (t.v=u.v) && decide (t.name=u.name) && Dt t.args u.args):=by cases t;cases u;rw[beq];rfl
theorem beq_iff:∀(t u:Term),t.beq u=true↔t=u:=by
 apply ind;intro t ih u
 have key:∀(l m:List Term),(∀a∈l,∀u,a.beq u=true↔a=u)→(Dt l m=true↔l=m):=by
  intro l
  induction l with
  |nil=>intro m _;cases m<;>simp[Dt]
  |cons a l ihl=>
   intro m h;cases m with
   |nil=>simp[Dt]
   |cons b m=>
    simp only[Dt,ud,aco];rw[h a (by simp) b,ihl m (fun x hx=>h x (by simp[hx]))]
 have hk:=key t.args u.args ih;rw[beq_eq];simp only[ud,decide_eq_true_eq,hk];cases t;cases u;simp only[op,w,v,name,args,mk.injEq];constructor
 ·rintro⟨⟨⟨⟨a,b⟩,c⟩,d⟩,e⟩;exact⟨a,b,c,d,e⟩
 ·rintro⟨a,b,c,d,e⟩;exact⟨⟨⟨⟨a,b⟩,c⟩,d⟩,e⟩
theorem V3{l m:List Term}(h:l.length≠m.length):Dt l m=false:=by
 induction l generalizing m with
 |nil=>cases m<;>simp_all [Dt]
 |cons a l ih=>cases m with
  |nil=>rfl
  |cons b m=>simp only[Dt,ih (m:=m) (by simpa using h),abt]
theorem V4{l m:List Term}(h:l.length=m.length):(l.zip m).all (fun x=>x.1.beq x.2)=Dt l m:=by
 induction l generalizing m with
 |nil=>cases m<;>simp_all [Dt]
 |cons a l ih=>cases m with
  |nil=>simp at h
  |cons b m=>simp only[Dt,List.zip_cons_cons,R6,ih (m:=m) (by simpa using h)]
end Term
namespace S
open Go Go.AE
variable {τ:Tm} {σ:ag} {rd:Option Nat}
theorem Dz(as:List Term)(i:Nat)(a:Term)(h:as[i]?=some a):Term.counts (as.take (i+1))=Term.counts (as.take i)+a.count:=by
 induction as generalizing i with
 |nil=>simp at h
 |cons b as ih=>
  cases i with
  |zero=>simp at h;subst h;simp[Term.counts]
  |succ i=>simp only[abX,Term.counts];rw[ih i (by simpa using h)];omega
theorem yY(as:List Term)(i:Nat):Term.counts (as.take i)≤Term.counts as:=by
 induction as generalizing i with
 |nil=>simp[Term.counts]
 |cons b as ih=>
  cases i with
  |zero=>simp[Term.counts]
  |succ i=>simp only[abX,Term.counts];have:=ih i;omega
theorem Xl(as:List Term):∀(i:Nat) (acc:Int),aq (T:=Empty) (fun _ s (a:Term)=>.inl (s+(a.count:Int))) i acc as=.inl (acc+(Term.counts as:Int)):=by
 induction as with
 |nil=>intro i acc;simp[aq,Term.counts]
 |cons a as ih=>intro i acc;simp only[aq,Term.counts];rw[ih];congr 1;omega
abbrev DA(as:List Term)(s i:Int):List (Nat×AV):=[(3,.p (.int .i64 s)),(7,.p (.aM (as.map Term.row))),(8,.p (.int .i64 as.length)),(9,.p (.int .i64 i))]
theorem Y4(t:Term):t.count≤1000000→R P nK [.agg t.row]=some (.int .i64 t.count):=by
 induction t using Term.ind with
 |h t ih=>
 intro hc;rw[Term.count_eq]at hc ⊢;have hlen:=Term.dJ t.args
 have h:=lp (P:=P) (nt:=19) (rd:=none) (lv:=[3,7,8,9]) (b:=xW) (x:=0) (as:=t.args) (fun i (s:Int)=>DA t.args s i) (fun _=>[]) (fun i s a=>s+(a.count:Int)) (fun s=>⟨dX (tm (DA t.args s t.args.length)) 10 (.p (.bool false)),[],19,none⟩) (fun i s=>s=1+Term.counts (t.args.take i))
  (fun i a s ha hi hs=>by
   have hm:=mi ha;have hac:=Term.cS hm;have h1:=Dz t.args i a ha;have h2:=yY t.args (i+1);have hr:=ih a hm (by omega)
   have hlt:((i:Int)<t.args.length)=True:=by simpa using hi
   have hw:IntKind.i64.wrap (s+a.count)=s+a.count:=arV (by omega)
   refine⟨by omega,?_⟩
   simp only[xW];simp(disch:=omega)only[bK,↓aa,seval,-List.reduceReplicate,reduceCtorEq,ae,hlt,aJ (ax (f:=Term.row) ha) a.aB,qt,hr,hw]) (fun s hs=>by
   simp only[xW];simp(disch:=omega)only[bK,↓aa,seval,-List.reduceReplicate,reduceCtorEq,ae,kY]) (fun i s=>rfl) 1 (by simp[Term.counts]) _ (Xl t.args 0 1)
 have h':al P B6 (DA t.args 1 0) [] 19 none=some (.exit 0,⟨dX (tm (DA t.args (1+Term.counts t.args) t.args.length)) 10 (.p (.bool false)),[],19,none⟩):=h
 (rw[YB (aD rfl),w6];simp(disch:=omega)only[bK,↓aa,seval,-List.reduceReplicate,reduceCtorEq,ae,aO,UE,h'])
 rfl
theorem acS(t:Term):t.deep≤t.count:=by
 induction t using Term.ind with
 |h t ih=>
 rw[Term.wv,Term.count_eq]
 have key:∀l:List Term,(∀a∈l,a.deep≤a.count)→Term.ib l≤Term.counts l:=by
  intro l
  induction l with
  |nil=>intro _;simp[Term.ib,Term.counts]
  |cons a l ihl=>intro h;simp only[Term.ib,Term.counts];have:=h a (by simp);have:=ihl (fun b hb=>h b (by simp[hb]));omega
 have:=key t.args ih;omega
theorem ac8(as:List Term):∀(i:Nat) (acc:Int),0≤acc→aq (T:=Empty) (fun _ s (a:Term)=>.inl (max s (a.deep:Int))) i acc as=.inl (max acc (Term.ib as:Int)):=by
 induction as with
 |nil=>intro i acc h;simp[aq,Term.ib];omega
 |cons a as ih=>intro i acc h;simp only[aq,Term.ib];rw[ih _ _ (by omega)];congr 1;omega
theorem Vp(t:Term):t.count≤1000000→R P lT [.agg t.row]=some (.int .i64 t.deep):=by
 induction t using Term.ind with
 |h t ih=>
 intro hc;have hdc:=acS t;rw[Term.wv]at hdc ⊢;have hcc:=Term.count_eq t;have hlen:=Term.dJ t.args
 have h:=lp (P:=P) (nt:=20) (rd:=none) (lv:=[3,7,8,9]) (b:=wc) (x:=0) (as:=t.args) (fun i (s:Int)=>DA t.args s i) (fun _=>[]) (fun i s a=>max s (a.deep:Int)) (fun s=>⟨dX (tm (DA t.args s t.args.length)) 10 (.p (.bool false)),[],20,none⟩) (fun i s=>True)
  (fun i a s ha hi hs=>by
   have hm:=mi ha;have hac:=Term.cS hm;have hr:=ih a hm (by omega)
   have hlt:((i:Int)<t.args.length)=True:=by simpa using hi
   refine⟨trivial,?_⟩;simp only[wc];simp(disch:=omega)only[bK,↓aa,seval,-List.reduceReplicate,reduceCtorEq,ae,hlt,aJ (ax (f:=Term.row) ha) a.aB,qQ,hr]) (fun s hs=>by
   simp only[wc];simp(disch:=omega)only[bK,↓aa,seval,-List.reduceReplicate,reduceCtorEq,ae,kY]) (fun i s=>rfl) 0 trivial _ (ac8 t.args 0 0 (by omega))
 have h':al P AM (DA t.args 0 0) [] 20 none=some (.exit 0,⟨dX (tm (DA t.args (Term.ib t.args) t.args.length)) 10 (.p (.bool false)),[],20,none⟩):=by
  have e:max (0:Int) (Term.ib t.args:Int)=Term.ib t.args:=by omega
  rw[e]at h;exact h
 (rw[U9 (aD rfl),tW];simp(disch:=omega)only[bK,↓aa,seval,-List.reduceReplicate,reduceCtorEq,ae,aO,Ro,h'])
abbrev Uh(t:Term)(n i:Int):List (Nat×AV):=[(1,.p (.int .i64 n)),(2,.p (.ptr t.row 0)),(5,.p (.int .i64 i))]
theorem agD(as:List Term)(n:Int)(h0:0≤n):as.all (fun a=>decide ((a.deep:Int)≤n))=decide ((Term.ib as:Int)≤n):=by
 induction as with
 |nil=>simp[Term.ib,h0]
 |cons a as ih=>
  have e:((Term.ib (a::as):Nat):Int)≤n↔(a.deep:Int)≤n∧(Term.ib as:Int)≤n:=by
   simp only[Term.ib];rcases Nat.le_total a.deep (Term.ib as)with h|h
   ·rw[Nat.max_eq_right h];omega
   ·rw[Nat.max_eq_left h];omega
  rw[R6,ih,abE];simp only[ud,decide_eq_true_eq,e]
theorem aem(t:Term):ia t→∀n:Int,n≤1000000→R P p9 [.agg t.row,.int .i64 n]=some (.bool (decide (n<t.deep))):=by
 induction t using Term.ind with
 |h t ih=>
 intro ht n hn;rw[Term.wv];by_cases h1:n<1
 ·(rw[GJ (aD rfl),rW];simp(disch:=omega)only[bK,↓aa,seval,-List.reduceReplicate,reduceCtorEq,ae,h1])
  simp only[bI,PV.bool.injEq];rw[eq_comm,decide_eq_true_eq];omega
 have hw:IntKind.i64.wrap (n-1)=n-1:=arV (by omega)
 have h:=er (P:=P) (nt:=23) (rd:=none) (lv:=[1,2,5]) (b:=wG) (x:=0) (as:=t.args) (fun i (_:Unit)=>Uh t n i) (fun _=>[]) (fun _ _ a=>if decide ((a.deep:Int)≤n-1)=true then .inl ()else .inr ())
  (fun s=>⟨dX (dX (dX (dX (dX (tm (Uh t n t.args.length)) 8 (.p (.int .i64 t.args.length))) 9 (.p (.ptr t.row 4))) 10 (.p (.aM (t.args.map Term.row)))) 11 (.p (.int .i64 t.args.length))) 12 (.p (.bool false)),[],23,none⟩) (fun _=>cj 4 (.bool true) []) (fun _ s=>True)
  (fun i a s ha hi hs=>by
   have hm:=mi ha;have hlt:((i:Int)<t.args.length)=True:=by simpa using hi
   have hl:=ht.len;have hr:=ih a hm (ht.args hm) (n-1) (by omega)
   refine⟨fun _ _=>trivial,?_⟩
   by_cases hc:(a.deep:Int)≤n-1
   ·have hc':¬n-1<(a.deep:Int):=by omega
    simp only[wG];simp(disch:=omega)only[bK,↓aa,seval,-List.reduceReplicate,reduceCtorEq,ae,hlt,hc,hc',aJ (ax (f:=Term.row) ha) a.aB,sy,hw,hr,aO]
   ·have hc':n-1<(a.deep:Int):=by omega
    simp only[wG];simp(disch:=omega)only[bK,↓aa,seval,-List.reduceReplicate,reduceCtorEq,ae,hlt,hc,hc',aJ (ax (f:=Term.row) ha) a.aB,sy,hw,hr,cj,aO]) (fun s hs=>by
   simp only[wG];simp(disch:=omega)only[bK,↓aa,seval,-List.reduceReplicate,reduceCtorEq,ae,kY,aO]) (fun i s=>rfl) () trivial
 rw[s6,agD _ _ (by omega)]at h
 have h2:=Hh h;by_cases hc:(Term.ib t.args:Int)≤n-1
 ·rw[if_pos (by simpa using hc)]at h2
  have h':al P zN (Uh t n 0) [] 23 none=_:=h2
  (rw[GJ (aD rfl),rW];simp(disch:=omega)only[bK,↓aa,seval,-List.reduceReplicate,reduceCtorEq,ae,KE,h1,h'])
  simp only[bI,PV.bool.injEq];rw[eq_comm,decide_eq_false_iff_not];omega
 ·rw[if_neg (by simpa using hc)]at h2
  obtain⟨⟨e,τ',σ',nt',rd'⟩,g1,g2,g3,g4⟩:=h2
  simp only at g2 g3 g4
  subst g2;subst g4;have h':al P zN (Uh t n 0) [] 23 none=some (.ret,⟨τ',[],nt',rd'⟩):=g1
  (rw[GJ (aD rfl),rW];simp(disch:=omega)only[bK,↓aa,seval,-List.reduceReplicate,reduceCtorEq,ae,KE,h1,h',g3])
  simp only[bI,PV.bool.injEq];rw[eq_comm,decide_eq_true_eq];omega
end S
namespace Term
mutual
def pre:Term→List Term
 |.mk o w v s as=>.mk o w v s as::Cw as
def Cw:List Term→List Term
 | []=>[]
 |a::as=>pre a++Cw as
end
mutual
def post:Term→List Term
 |.mk o w v s as=>ph as++[.mk o w v s as]
def ph:List Term→List Term
 | []=>[]
 |a::as=>post a++ph as
end
theorem sx(t:Term):t.pre=t::Cw t.args:=by cases t;rw[pre];rfl
theorem An(t:Term):t.post=ph t.args++[t]:=by cases t;rw[post];rfl
theorem Ap:∀l:List Term,Cw l=l.flatMap pre
 | []=>rfl
 |a::l=>by rw[Cw,Ap l];rfl
theorem IC:∀l:List Term,ph l=l.flatMap post
 | []=>rfl
 |a::l=>by rw[ph,IC l];rfl
theorem Ya:∀l:List Term,(∀a∈l,a.pre.length=a.count)→(Cw l).length=counts l
 | [],_=>rfl
 |a::l,h=>by rw[Cw,counts,jE,h a (by simp),Ya l fun b hb=>h b (by simp[hb])]
theorem lX(t:Term):t.pre.length=t.count:=by
 induction t using ind with
 |h t ih=>rw[sx,count_eq,lH,Ya _ ih];omega
theorem Tb:∀l:List Term,(∀a∈l,a.post.length=a.count)→(ph l).length=counts l
 | [],_=>rfl
 |a::l,h=>by rw[ph,counts,jE,h a (by simp),Tb l fun b hb=>h b (by simp[hb])]
theorem IB(t:Term):t.post.length=t.count:=by
 induction t using ind with
 |h t ih=>rw[An,count_eq,jE,Tb _ ih];simp;omega
end Term
namespace S
open Go Go.AE
variable {τ:Tm} {σ:ag} {rd:Option Nat}
theorem On{α β:Type}(g:α→List β):∀(l:List α) (i:Nat) (s:List β),aq (T:=Empty) (fun _ s a=>.inl (s++g a)) i s l=.inl (s++l.flatMap g)
 | [],i,s=>by simp[aq]
 |a::l,i,s=>by simp only[aq];rw[On g l];simp
abbrev Su(t:Term)(s:List Term)(i:Int):List (Nat×AV):=[(1,.p (.ptr t.row 0)),(3,.sl 0 s.length),(4,.p (.int .i64 i))]
abbrev sT(s:List Term):ag:=[.pv 5 (s.map Term.row) false]
theorem CQ{g:Term→List Term}(hg:∀a,(g a).length=a.count)(l:List Term)(i:Nat):((l.take i).flatMap g).length≤Term.counts l:=by
 induction l generalizing i with
 |nil=>simp[Term.counts]
 |cons a l ih=>
  cases i with
  |zero=>simp
  |succ i=>simp only[abX,VF,jE,hg,Term.counts];have:=ih i;omega
theorem yo{g:Term→List Term}{l:List Term}{i:Nat}{a:Term}(h:l[i]?=some a):(l.take (i+1)).flatMap g=(l.take i).flatMap g++g a:=by
 rw[List.take_add_one,h];simp
theorem uJ(t:Term):t.count≤1000000→R P eB [.agg t.row]=some (.aM (t.pre.map Term.row)):=by
 induction t using Term.ind with
 |h t ih=>
 intro hc;have hlen:=Term.dJ t.args;have hct:=Term.count_eq t
 have h:=lp (P:=P) (nt:=23) (rd:=none) (lv:=[1,3,4]) (b:=rD) (x:=0) (as:=t.args) (fun i (s:List Term)=>Su t s i) sT (fun i s a=>s++a.pre)
  (fun s=>⟨dX (dX (dX (dX (dX (tm (Su t s t.args.length)) 7 (.p (.int .i64 t.args.length))) 8 (.p (.ptr t.row 4))) 9 (.p (.aM (t.args.map Term.row)))) 10 (.p (.int .i64 t.args.length))) 11 (.p (.bool false)),sT s,23,none⟩) (fun i s=>s=t::(t.args.take i).flatMap Term.pre)
  (fun i a s ha hi hs=>by
   have hm:=mi ha;have hac:=Term.cS hm;have h2:=CQ Term.lX t.args (i+1);rw[yo ha]at h2;have hsl:(s++a.pre).length≤1000001:=by rw[hs,FD,lH];omega
   rw[jE]at hsl;have hr:=ih a hm (by omega)
   have hlt:((i:Int)<t.args.length)=True:=by simpa using hi
   have hap:=dA (σ:=sT s) (b:=0) (n:=s.length) (e:=5) (es:=5) (bytes:=64) (rows:=s.map Term.row) (new:=a.pre.map Term.row) rfl (by simp) (.inl rfl) (by simp only[aO];omega)
   refine⟨by rw[hs,yo ha];rfl,?_⟩
   simp only[rD];simp(disch:=omega)only[bK,↓aa,seval,-List.reduceReplicate,reduceCtorEq,ae,hlt,aO,aJ (ax (f:=Term.row) ha) a.aB,gC,hr,Qt (Tt _),hap,jE,BY,Su,sT]) (fun s hs=>by
   simp only[rD];simp(disch:=omega)only[bK,↓aa,seval,-List.reduceReplicate,reduceCtorEq,ae,kY,aO]) (fun i s=>rfl) [t] (by simp) _ (On Term.pre t.args 0 [t])
 have h':al P xx [(1,.p (.ptr t.row 0)),(3,.sl 0 1),(4,.p (.int .i64 0))] [.pv 5 [t.row] false] 23 none=_:=h;have e:[t]++t.args.flatMap Term.pre=t.pre:=by rw[Term.sx,Term.Ap];rfl
 rw[e]at h'
 (rw[PZ (aD rfl),pC];simp(disch:=omega)only[bK,↓aa,seval,-List.reduceReplicate,reduceCtorEq,ae,Mi,h',aO])
theorem C8(t:Term):t.count≤1000000→R P fu [.agg t.row]=some (.aM (t.post.map Term.row)):=by
 induction t using Term.ind with
 |h t ih=>
 intro hc;have hlen:=Term.dJ t.args;have hct:=Term.count_eq t
 have h:=lp (P:=P) (nt:=26) (rd:=none) (lv:=[1,3,4]) (b:=qy) (x:=0) (as:=t.args) (fun i (s:List Term)=>Su t s i) sT (fun i s a=>s++a.post)
  (fun s=>⟨dX (dX (dX (dX (dX (tm (Su t s t.args.length)) 6 (.p (.int .i64 t.args.length))) 7 (.p (.ptr t.row 4))) 8 (.p (.aM (t.args.map Term.row)))) 9 (.p (.int .i64 t.args.length))) 10 (.p (.bool false)),sT s,26,none⟩) (fun i s=>s=(t.args.take i).flatMap Term.post)
  (fun i a s ha hi hs=>by
   have hm:=mi ha;have hac:=Term.cS hm;have h2:=CQ Term.IB t.args (i+1);rw[yo ha]at h2;have hsl:(s++a.post).length≤1000001:=by rw[hs];omega
   rw[jE]at hsl;have hr:=ih a hm (by omega)
   have hlt:((i:Int)<t.args.length)=True:=by simpa using hi
   have hap:=dA (σ:=sT s) (b:=0) (n:=s.length) (e:=5) (es:=5) (bytes:=64) (rows:=s.map Term.row) (new:=a.post.map Term.row) rfl (by simp) (.inl rfl) (by simp only[aO];omega)
   refine⟨by rw[hs,yo ha],?_⟩
   simp only[qy];simp(disch:=omega)only[bK,↓aa,seval,-List.reduceReplicate,reduceCtorEq,ae,hlt,aO,aJ (ax (f:=Term.row) ha) a.aB,jz,hr,Qt (Tt _),hap,jE,BY,Su,sT]) (fun s hs=>by
   simp only[qy];simp(disch:=omega)only[bK,↓aa,seval,-List.reduceReplicate,reduceCtorEq,ae,kY,aO]) (fun i s=>rfl) [] (by simp) _ (On Term.post t.args 0 [])
 have h':al P ve [(1,.p (.ptr t.row 0)),(3,.sl 0 0),(4,.p (.int .i64 0))] [.pv 5 [] false] 26 none=_:=h;have e:[]++t.args.flatMap Term.post=Term.ph t.args:=by rw[Term.IC];rfl
 rw[e]at h';have hpl:=Term.IB t;rw[Term.An,jE]at hpl;have hap:=dA (σ:=[.pv 5 ((Term.ph t.args).map Term.row) false,.pv 5 [t.row] false]) (b:=0) (n:=(Term.ph t.args).length) (e:=5) (es:=5) (bytes:=64) (rows:=(Term.ph t.args).map Term.row) (new:=[t.row]) rfl (by simp) (.inl rfl) (by simp only[lH,l5];omega)
 (rw[Mw (aD rfl),oA];simp(disch:=omega)only[bK,↓aa,seval,-List.reduceReplicate,reduceCtorEq,ae,JR,h',aO,hap,jE])
 rw[Term.An,BY];rfl
theorem yt{α β:Type}(g:α→β):∀(l:List α) (i:Nat) (s:List β),aq (T:=Empty) (fun _ s a=>.inl (s++[g a])) i s l=.inl (s++l.map g)
 | [],i,s=>by simp[aq]
 |a::l,i,s=>by simp only[aq];rw[yt g l];simp
def lK{α:Type}(n:Nat)(s:List α):Nat:=if s.isEmpty then 0 else n
theorem qO{α:Type}(n:Nat)(s:List α){β:Type}(f:α→β):lK n s=n∨(lK n s=0∧s.map f=[]):=by cases s<;>simp[lK]
theorem jd{α:Type}(n:Nat)(s:List α)(a:α):lK n (s++[a])=n:=by simp[lK]
abbrev ai6(l:List Term)(s:List Int)(i:Int):List (Nat×AV):=[(3,.sl 0 s.length),(6,.p (.aM (l.map Term.row))),(7,.p (.int .i64 l.length)),(8,.p (.int .i64 i))]
abbrev sI(s:List Int):ag:=[.pv (lK 1 s) (s.map dE) false]
theorem BR(l:List Term)(hl:l.length≤1000000):R P fF [.aM (l.map Term.row)]=some (.aM ((l.map Term.w).map dE)):=by
 have h:=lp (P:=P) (nt:=19) (rd:=none) (lv:=[3,6,7,8]) (b:=o6) (x:=0) (as:=l) (fun i (s:List Int)=>ai6 l s i) sI (fun i s a=>s++[a.w])
  (fun s=>⟨dX (tm (ai6 l s l.length)) 9 (.p (.bool false)),sI s,19,none⟩) (fun i s=>s.length=i)
  (fun i a s ha hi hs=>by
   have hlt:((i:Int)<l.length)=True:=by simpa using hi
   have hap:=dA (σ:=[.pv (lK 1 s) (s.map dE) false,.pv 1 [[.int .i64 a.w]] false]) (b:=0) (n:=s.length) (e:=lK 1 s) (es:=1) (bytes:=8) (rows:=s.map dE) (new:=[[.int .i64 a.w]]) rfl (by simp) (qO _ _ _) (by simp only[lH,l5];omega)
   refine⟨by simp[hs],?_⟩
   simp only[o6];simp(disch:=omega)only[bK,↓aa,seval,-List.reduceReplicate,reduceCtorEq,ae,hlt,aO,aJ (ax (f:=Term.row) ha) a.aB,hap,jE,BY,ai6,sI,jd,dE]) (fun s hs=>by
   simp only[o6];simp(disch:=omega)only[bK,↓aa,seval,-List.reduceReplicate,reduceCtorEq,ae,kY,aO]) (fun i s=>rfl) [] (by simp) _ (yt Term.w l 0 [])
 have h':al P tZ [(3,.sl 0 0),(6,.p (.aM (l.map Term.row))),(7,.p (.int .i64 l.length)),(8,.p (.int .i64 0))] [.pv 0 [] false] 19 none=_:=h
 (rw[Ka (aD rfl),mT];simp(disch:=omega)only[bK,↓aa,seval,-List.reduceReplicate,reduceCtorEq,ae,HK,h',aO])
abbrev ac3(t:Term)(s:List Int)(i:Int):List (Nat×AV):=[(1,.p (.ptr t.row 0)),(3,.sl 0 s.length),(4,.p (.int .i64 i))]
abbrev sI1(s:List Int):ag:=[.pv 1 (s.map dE) false]
theorem I1(t:Term)(hl:t.args.length≤1000000):R P lP [.agg t.row]=some (.aM ((t.args.map Term.w).map dE)):=by
 have h:=lp (P:=P) (nt:=23) (rd:=none) (lv:=[1,3,4]) (b:=v8) (x:=0) (as:=t.args) (fun i (s:List Int)=>ac3 t s i) sI1 (fun i s a=>s++[a.w])
  (fun s=>⟨dX (dX (dX (dX (dX (tm (ac3 t s t.args.length)) 6 (.p (.int .i64 t.args.length))) 7 (.p (.ptr t.row 4))) 8 (.p (.aM (t.args.map Term.row)))) 9 (.p (.int .i64 t.args.length))) 10 (.p (.bool false)),sI1 s,23,none⟩) (fun i s=>s.length=i)
  (fun i a s ha hi hs=>by
   have hlt:((i:Int)<t.args.length)=True:=by simpa using hi
   have hap:=dA (σ:=[.pv 1 (s.map dE) false,.pv 1 [[.int .i64 a.w]] false]) (b:=0) (n:=s.length) (e:=1) (es:=1) (bytes:=8) (rows:=s.map dE) (new:=[[.int .i64 a.w]]) rfl (by simp) (.inl rfl) (by simp only[lH,l5];omega)
   refine⟨by simp[hs],?_⟩
   simp only[v8];simp(disch:=omega)only[bK,↓aa,seval,-List.reduceReplicate,reduceCtorEq,ae,hlt,aO,aJ (ax (f:=Term.row) ha) a.aB,hap,jE,BY,ac3,sI1,dE]) (fun s hs=>by
   simp only[v8];simp(disch:=omega)only[bK,↓aa,seval,-List.reduceReplicate,reduceCtorEq,ae,kY,aO]) (fun i s=>rfl) [] (by simp) _ (yt Term.w t.args 0 [])
 have h':al P AK [(1,.p (.ptr t.row 0)),(3,.sl 0 0),(4,.p (.int .i64 0))] [.pv 1 [] false] 23 none=_:=h
 (rw[U6 (aD rfl),tM];simp(disch:=omega)only[bK,↓aa,seval,-List.reduceReplicate,reduceCtorEq,ae,Rm,h',aO])
end S
end Go.AE
namespace Go.AE.S
open Go Go.AE
variable {τ:Tm} {σ:ag} {rd:Option Nat}
def pP(u:Term):List AV:=[.p (.agg u.row)]
def aeI(l:Nat)(s:ag)(a:Term):ag ⊕ ag:=match rounds P l (a.pre.map pP) s with
 |some (true,s')=>.inl s'
 |some (false,s')=>.inr s'
 |none=>.inr s
theorem Xx(l:Nat):∀(as:List Term) (i:Nat) (s:ag) (b:Bool) (s':ag),rounds P l ((Term.Cw as).map pP) s=some (b,s')→aq (fun _ s a=>aeI l s a) i s as=if b=true then .inl s' else .inr s'
 | [],i,s,b,s',h=>by
  simp only[Term.Cw,Cb,rounds,bI,qX]at h;obtain⟨rfl,rfl⟩:=h;rfl
 |a::as,i,s,b,s',h=>by
  simp only[Term.Cw,BY,A1]at h;simp only[aq,aeI];cases h1:rounds P l (a.pre.map pP) s with
  |none=>rw[h1]at h;cases h
  |some x=>
   obtain⟨c,s1⟩:=x;rw[h1]at h;cases c with
   |true=>exact Xx l as (i+1) s1 b s' h
   |false=>
    simp only[P8,bI,qX]at h;obtain⟨rfl,rfl⟩:=h;rfl
abbrev afb(l:Nat)(t:Term)(i:Int):List (Nat×AV):=[(1,.yield l),(12,.p (.aM (t.args.map Term.row))),(13,.p (.int .i64 t.args.length)),(14,.p (.int .i64 i))]
theorem amw(l:Nat)(t:Term):t.count≤1000000→∀(σ σ':ag) (b:Bool),rounds P l (t.pre.map pP) σ=some (b,σ')→call P gM [.p (.agg t.row),.yield l] σ=some (.p (.bool b),σ'):=by
 induction t using Term.ind with
 |h t ih=>
 intro hc σ σ' b hr;have hlen:=Term.dJ t.args;have hct:=Term.count_eq t;have hl:=vV _ _ _ _ hr;rw[Term.sx,sP]at hr;obtain⟨c,σ1,h1,h2,h3,h4⟩:=EI hr;simp only[pP]at h1;have gc1:∀vs,gc σ.length vs σ1=σ1:=fun vs=>eP (by omega)
 cases c with
 |false=>
  obtain⟨rfl,rfl⟩:=h4 rfl
  (rw[ft (aD rfl),gM];simp(disch:=omega)only[bK,↓aa,seval,-List.reduceReplicate,reduceCtorEq,ae,h1,gc1])
 |true=>
  have h3:=h3 rfl
  have h:=er (P:=P) (nt:=23) (rd:=none) (lv:=[1,12,13,14]) (b:=mL) (x:=0) (as:=t.args) (fun i (_:ag)=>afb l t i) (fun s=>s) (fun _ s a=>aeI l s a)
   (fun s=>⟨dX (tm (afb l t t.args.length)) 15 (.p (.bool false)),s,23,none⟩) (fun s r=>cj 4 (.bool false) s r) (fun i s=>∃b s',rounds P l ((Term.Cw (t.args.drop i)).map pP) s=some (b,s'))
   (fun i a s ha hi hs=>by
    obtain⟨b2,s2,hs⟩:=hs;have hm:=mi ha;have hac:=Term.cS hm;have hlt:((i:Int)<t.args.length)=True:=by simpa using hi
    have hd:t.args.drop i=a::t.args.drop (i+1):=by rw[abm hi];rw[oq hi]at ha;cases ha;rfl
    rw[hd]at hs;simp only[Term.Cw,BY,A1]at hs;cases hx:rounds P l (a.pre.map pP) s with
    |none=>rw[hx]at hs;cases hs
    |some x=>
     obtain⟨c,s1⟩:=x;rw[hx]at hs;have hv:=ih a hm (by omega) s s1 c hx
     have hl1:=vV _ _ _ _ hx;have gc2:∀vs,gc s.length vs s1=s1:=fun vs=>eP (by omega)
     cases c with
     |true=>
      refine⟨fun s' he=>?_,?_⟩
      ·simp only[aeI,hx]at he
       cases he;exact⟨_,_,hs⟩
      ·simp only[mL,aeI,hx]
       simp(disch:=omega)only[bK,↓aa,seval,-List.reduceReplicate,reduceCtorEq,ae,hlt,aJ (ax (f:=Term.row) ha) a.aB,xH,hv,gc2]
     |false=>
      refine⟨fun s' he=>?_,?_⟩
      ·simp only[aeI,hx]at he
       cases he
      ·simp only[mL,aeI,hx]
       simp(disch:=omega)only[bK,↓aa,seval,-List.reduceReplicate,reduceCtorEq,ae,hlt,aJ (ax (f:=Term.row) ha) a.aB,xH,hv,gc2,cj]) (fun s hs=>by
    simp only[mL];simp(disch:=omega)only[bK,↓aa,seval,-List.reduceReplicate,reduceCtorEq,ae,kY]) (fun i s=>rfl) σ1 ⟨b,σ',h3⟩
  rw[Xx l t.args 0 σ1 b σ' h3]at h;have hl3:=vV _ _ _ _ h3;have gc3:∀vs,gc σ.length vs σ'=σ':=fun vs=>eP (by omega)
  cases b with
  |true=>
   have h':al P qG (afb l t 0) σ1 23 none=_:=h
   (rw[ft (aD rfl),gM];simp(disch:=omega)only[bK,↓aa,seval,-List.reduceReplicate,reduceCtorEq,ae,h1,aO,Br,h',gc3])
  |false=>
   obtain⟨⟨e,τ',σ2,nt',rd'⟩,g1,g2,g3,g4⟩:=h
   simp only at g2 g3 g4
   subst g2;subst g4;have h':al P qG (afb l t 0) σ1 23 none=some (.ret,⟨τ',σ2,nt',rd'⟩):=g1
   (rw[ft (aD rfl),gM];simp(disch:=omega)only[bK,↓aa,seval,-List.reduceReplicate,reduceCtorEq,ae,h1,aO,Br,h',g3,gc3])
theorem Z6(l:Nat)(t:Term)(hc:t.count≤1000000)(σ σ':ag)(b:Bool)(h:rounds P l (t.pre.map pP) σ=some (b,σ')) :
  call P iO [.yield l,.p (.ptr t.row 0)] σ=some (.p (.jC []),σ'):=by
 have hv:=amw l t hc σ σ' b h;have hl:=vV _ _ _ _ h;have gc3:∀vs,gc σ.length vs σ'=σ':=fun vs=>eP (by omega)
 (rw[ft (aD rfl),iO];simp(disch:=omega)only[bK,↓aa,seval,-List.reduceReplicate,reduceCtorEq,ae,xH,hv,gc3])
theorem iD(t:Term):R P dq [.agg t.row]=some (.fn b9 [.ptr t.row 0]):=by
 (rw[GH (aD rfl),kA];simp(disch:=omega)only[bK,↓aa,seval,-List.reduceReplicate,reduceCtorEq,ae,Fw])
theorem E5{α:Type}(q:α→Bool):∀(as:List α) (i:Nat),aq (S:=Unit) (T:=Unit) (fun _ _ a=>if q a=true then .inr ()else .inl ()) i () as=if as.any q=true then .inr ()else .inl ()
 | [],i=>rfl
 |a::as,i=>by
  cases h:q a<;>simp[aq,h,E5 q as]
theorem bD(o:Int):R P dr [.int .i64 o]=some (.bool (decide (o=24∨o=25))):=by
 (rw[GI (aD rfl),kB];simp(disch:=omega)only[bK,↓aa,seval,-List.reduceReplicate,reduceCtorEq,ae])
 by_cases h1:o=24<;>by_cases h2:o=25<;>simp(disch:=omega)only[bK,↓aa,seval,-List.reduceReplicate,reduceCtorEq,ae,eq_true h1,eq_true h2,h1,h2]<;>first|rfl|simp_all
theorem zr(t:Term):R P ff [.agg t.row]=some (.bool (decide (t.op=24∨t.op=25))):=by
 (rw[P1 (aD rfl),pD];simp(disch:=omega)only[bK,↓aa,seval,-List.reduceReplicate,reduceCtorEq,ae])
 by_cases h1:t.op=24<;>by_cases h2:t.op=25<;>simp(disch:=omega)only[bK,↓aa,seval,-List.reduceReplicate,reduceCtorEq,ae,eq_true h1,eq_true h2,h1,h2]<;>first|rfl|simp_all
def Mh(x:Int):Nat→List Int→Int
 |_,[]=>-1
 |i,a::r=>if x=a then i else Mh x (i+1) r
theorem afm(x:Int):∀(l:List Int) (i:Nat),0≤Mh x i l↔x∈l
 | [],i=>by simp[Mh]
 |a::l,i=>by
  by_cases h:x=a
  ·simp[Mh,h]
  ·simp[Mh,h,afm x l (i+1)]
theorem Xq(x:Int):∀(l:List Int) (i:Nat),nC (fun _=>Mh x i l = -1) (fun k=>Mh x i l=(k:Nat)) (aq (S:=Unit) (T:=Nat) (fun i _ a=>if x=a then .inr i else .inl ()) i () l)
 | [],i=>rfl
 |a::l,i=>by
  by_cases h:x=a
  ·simp only[aq,Mh,h,if_true];exact rfl
  ·simp only[aq,Mh,h,if_false];exact Xq x l (i+1)
abbrev ae8(l:List Int)(x i:Int):List (Nat×AV):=[(0,.p (.aM (l.map dE))),(1,.p (.int .i64 x)),(7,.p (.int .i64 l.length)),(8,.p (.int .i64 i))]
theorem aej(l:List Int)(x:Int)(hl:l.length≤1000000):R P cI [.aM (l.map dE),.int .i64 x]=some (.int .i64 (Mh x 0 l)):=by
 have h:=er (P:=P) (nt:=19) (rd:=none) (lv:=[0,1,7,8]) (b:=eT) (x:=0) (as:=l) (fun i (_:Unit)=>ae8 l x i) (fun _=>[]) (fun i _ a=>if x=a then .inr i else .inl ())
  (fun _=>⟨dX (tm (ae8 l x l.length)) 9 (.p (.bool false)),[],19,none⟩) (fun(k:Nat)=>cj 4 (.int .i64 k) []) (fun _ _=>True)
  (fun i a s ha hi hs=>by
   refine⟨fun _ _=>trivial,?_⟩
   have hlt:((i:Int)<l.length)=True:=by simpa using hi
   by_cases hc:x=a<;>simp only[eT]<;>simp(disch:=omega)only[bK,↓aa,seval,-List.reduceReplicate,reduceCtorEq,ae,hlt,aJ (es:=1) (ax (f:=dE) ha) rfl,dE,eq_true hc,hc,cj]) (fun s hs=>by
   simp only[eT];simp(disch:=omega)only[bK,↓aa,seval,-List.reduceReplicate,reduceCtorEq,ae,kY]) (fun i s=>rfl) () trivial
 have hf:=Xq x l 0;cases hfe:aq (S:=Unit) (T:=Nat) (fun i _ a=>if x=a then .inr i else .inl ()) 0 () l with
 |inl s=>
  rw[hfe]at h hf;have h':al P eV (ae8 l x 0) [] 19 none=_:=h;have hf':Mh x 0 l = -1:=hf
  (rw[oJ (aD rfl),de];simp(disch:=omega)only[bK,↓aa,seval,-List.reduceReplicate,reduceCtorEq,ae,aO,nM,h'])
  rw[hf']
 |inr k=>
  rw[hfe]at h hf;obtain⟨⟨e,τ',σ',nt',rd'⟩,g1,g2,g3,g4⟩:=h
  simp only at g2 g3 g4
  subst g2;subst g4;have h':al P eV (ae8 l x 0) [] 19 none=some (.ret,⟨τ',[],nt',rd'⟩):=g1;have hf':Mh x 0 l=k:=hf
  (rw[oJ (aD rfl),de];simp(disch:=omega)only[bK,↓aa,seval,-List.reduceReplicate,reduceCtorEq,ae,aO,nM,h',g3])
  rw[hf']
theorem RL(l:List Int)(x:Int)(hl:l.length≤1000000):R P cd [.aM (l.map dE),.int .i64 x]=some (.bool (decide (x∈l))):=by
 (rw[uP (aD rfl),dy];simp(disch:=omega)only[bK,↓aa,seval,-List.reduceReplicate,reduceCtorEq,ae,xJ,aej l x hl,afm])
theorem Fe{S T:Type}{kept:List (Nat×AV)}{ps:List Nat}{hJ b:K}{nt:Nat}(t:Term)(hc:t.count≤1000000)(hps:nodup ps=true∧ps.all (· < nt)=true)
  (sto:S→ag) (f:Nat→S→Term→S ⊕ T) (out:T→Ex×ag) (ok:Nat→S→Prop) (s0:S) (hrd:ue rd (sto s0)=true)
  (hlen:∀s,(sto s).length=(sto s0).length) (hout:∀t,(out t).2.length=(sto s0).length)
  (hbel:∀s,(sto s).all (Obj.below (sto s0).length)=true) (hbelo:∀t,(out t).2.all (Obj.below (sto s0).length)=true) (hnn:∀t,(out t).1≠.normal)
  (hstep:∀(i:Nat) (a:Term) (s:S),t.pre[i]?=some a→ok i s→(∀s',f i s a=.inl s'→ok (i+1) s') ∧
   round P (sto s0).length [.p (.agg a.row)] (sto s++[.loop kept nt ps hJ b none])=(match f i s a with
    |.inl s'=>some (.p (.bool true),sto s'++[.loop kept nt ps hJ b none])
    |.inr t=>some (.p (.bool false),(out t).2++[.loop kept nt ps hJ b (some (out t).1)])))
  (h0:ok 0 s0):nk P ps hJ b (.p (.fn b9 [.ptr t.row 0])) kept (sto s0) nt rd=some (kQ sto out (aq f 0 s0 t.pre)) :=
 P7 (f0:=b9) (cap:=[.p (.ptr t.row 0)]) rfl Ea hps pP sto f out ok t.pre s0 hrd (fun σ σ' bb h=>⟨_,Z6 _ t hc σ σ' bb h⟩) hlen hout hbel hbelo hnn hstep h0
theorem IZ(t:Term)(hc:t.count≤1000000):R P eW [.agg t.row]=some (.bool (t.pre.any fun u=>decide (u.w=0))):=by
 have h:=Fe (rd:=none) (kept:=[(2,.ptr 0 1 0 0)]) (ps:=[6]) (hJ:=ko) (b:=kq) (nt:=10) t hc ⟨rfl,rfl⟩ (fun(_:Unit)=>[.pv 1 [[.bool false]] false]) (fun _ _ a=>if decide (a.w=0)=true then .inr ()else .inl ()) (fun(_:Unit)=>(.ret,[.pv 1 [[.bool true]] false]))
  (fun _ _=>True) () rfl (fun _=>rfl) (fun _=>rfl) (fun _=>rfl) (fun _=>rfl) (fun _=>by simp) (fun i a s ha _=>by
   refine⟨fun _ _=>trivial,?_⟩
   simp only[FD,x9];rw[BP rfl ⟨rfl,rfl,rfl⟩];by_cases hw:a.w=0
   ·simp only[ko,kq]
    simp(disch:=omega)only[bK,↓aa,seval,-List.reduceReplicate,reduceCtorEq,ae,eq_true hw]
   ·simp only[ko,kq]
    simp(disch:=omega)only[bK,↓aa,seval,-List.reduceReplicate,reduceCtorEq,ae,hw]) trivial
 rw[E5]at h;cases hq:t.pre.any fun u=>decide (u.w=0)<;>rw[hq]at h<;>(rw[IP (aD rfl),lD];simp(disch:=omega)only[bK,↓aa,seval,-List.reduceReplicate,reduceCtorEq,ae,Fv,iB,iD,h])
theorem RR(t:Term)(l:List Int)(hc:t.count≤1000000)(hl:l.length≤1000000):R P mr [.agg t.row,.aM (l.map dE)]=some (.bool (t.pre.any fun u=>decide (u.op∈l))):=by
 have h:=Fe (rd:=none) (kept:=[(3,.p (.ptr [.aM (l.map dE)] 0)),(4,.ptr 0 1 0 0)]) (ps:=[8]) (hJ:=po) (b:=pq) (nt:=13) t hc ⟨rfl,rfl⟩ (fun(_:Unit)=>[.pv 1 [[.bool false]] false]) (fun _ _ a=>if decide (a.op∈l)=true then .inr ()else .inl ()) (fun(_:Unit)=>(.ret,[.pv 1 [[.bool true]] false]))
  (fun _ _=>True) () rfl (fun _=>rfl) (fun _=>rfl) (fun _=>rfl) (fun _=>rfl) (fun _=>by simp) (fun i a s ha _=>by
   refine⟨fun _ _=>trivial,?_⟩
   simp only[FD,x9];rw[BP rfl ⟨rfl,rfl,rfl⟩];have hcn:=RL l a.op hl;by_cases hw:a.op∈l
   ·simp only[po,pq]
    simp(disch:=omega)only[bK,↓aa,seval,-List.reduceReplicate,reduceCtorEq,ae,eq_true hw,mE,hcn]
   ·simp only[po,pq]
    simp(disch:=omega)only[bK,↓aa,seval,-List.reduceReplicate,reduceCtorEq,ae,hw,mE,hcn]) trivial
 rw[E5]at h;cases hq:t.pre.any fun u=>decide (u.op∈l)<;>rw[hq]at h<;>(rw[RG (aD rfl),ri];simp(disch:=omega)only[bK,↓aa,seval,-List.reduceReplicate,reduceCtorEq,ae,Ml,iB,iD,h])
end Go.AE.S
namespace Go.AE
namespace Term
theorem akN(q:Term→Bool)(t:Term):t.post.any q=t.pre.any q:=by
 induction t using ind with
 |h t ih=>
 have key:∀l:List Term,(∀a∈l,a.post.any q=a.pre.any q)→(ph l).any q=(Cw l).any q:=by
  intro l
  induction l with
  |nil=>intro _;rfl
  |cons a l ihl=>intro h;rw[ph,Cw,List.any_append,List.any_append,h a (by simp),ihl fun b hb=>h b (by simp[hb])]
 rw[An,sx,List.any_append,key _ ih,ZH];simp[Bool.or_comm]
end Term
namespace S
open Go Go.AE
variable {τ:Tm} {σ:ag} {rd:Option Nat}
def inner(p:Term):Bool:=match p.args with
 |a::_=>a.pre.any fun u=>decide (u.op∈[24,26])
 | []=>false
def fI(p:Term)(ev:Bool):Int :=
 if arity p.op<0∨p.op=1∨(p.op=26∧ev=false)∨¬(p.args.length:Int)=arity p.op then 4
 else if(¬p.name=bs []∧¬(p.op=24∨p.op=25))∨(¬p.v=0∧¬p.op=2∧¬p.op=21)then 4
 else if(p.op=24∨p.op=25)∧iA p.name=false then 5
 else if ¬(bw p.op p.w p.v (p.args.map Term.w)).2=0∨¬(bw p.op p.w p.v (p.args.map Term.w)).1=p.w then 3
 else if p.op=26∧inner p=true then 12 else 0
theorem asB:arity 26=1:=by decide
theorem avn:arity 24=0:=by decide
theorem avo:arity 25=0:=by decide
theorem Qh(p:Term)(ev:Bool)(ht:ia p)(hc:p.count≤1000000):R P kH [.agg p.row,.bool ev]=some (.int .i64 (fI p ev)):=by
 have hlc:=Term.dJ p.args;have hcc:=Term.count_eq p;by_cases h1:arity p.op<0
 ·(rw[bV (aD rfl),bt];simp(disch:=omega)only[bK,↓aa,seval,-List.reduceReplicate,reduceCtorEq,ae,aH,aI,h1])
  simp[fI,h1]
 by_cases h2:p.op=1
 ·(rw[bV (aD rfl),bt];simp(disch:=omega)only[bK,↓aa,seval,-List.reduceReplicate,reduceCtorEq,ae,aH,aI,h1,eq_true h2])
  simp[fI,h2]
 by_cases h26:p.op=26∧ev=false
 ·obtain⟨h3,rfl⟩:=h26
  (rw[bV (aD rfl),bt];simp(disch:=omega)only[bK,↓aa,seval,-List.reduceReplicate,reduceCtorEq,ae,aH,aI,h1,h2,eq_true h3])
  simp[fI,h3]
 by_cases h5:(p.args.length:Int)=arity p.op
 rotate_left
 ·have h5':=eq_false h5
  by_cases h3:p.op=26
  ·have he:ev=true:=by cases ev;exact absurd ⟨h3,rfl⟩ h26;rfl
   subst he
   (rw[bV (aD rfl),bt];simp(disch:=omega)only[bK,↓aa,seval,-List.reduceReplicate,reduceCtorEq,ae,aH,aI,h1,h2,eq_true h3,aO,h5'])
   simp[fI,h5]
  ·(rw[bV (aD rfl),bt];simp(disch:=omega)only[bK,↓aa,seval,-List.reduceReplicate,reduceCtorEq,ae,aH,aI,h1,h2,h3,aO,h5'])
   simp[fI,h5]
 have h5':=eq_true h5;have hwd:=BR p.args (by omega)
 have hW:=zq p.op p.w p.v (p.args.map Term.w) (by rw[aO];have:=Ce (o:=p.op) (by rcases Decidable.em (1≤p.op∧p.op≤26)with h|h;exact h;exact absurd (by rw[rX h];decide) h1);omega) ht.v
 have spec:∀x:Int,(if(¬p.name=bs []∧¬(p.op=24∨p.op=25))∨(¬p.v=0∧¬p.op=2∧¬p.op=21)then 4
   else if(p.op=24∨p.op=25)∧iA p.name=false then 5
   else if ¬(bw p.op p.w p.v (p.args.map Term.w)).2=0∨¬(bw p.op p.w p.v (p.args.map Term.w)).1=p.w then 3
   else if p.op=26∧inner p=true then 12 else 0)=x→fI p ev=x:=by
  intro x hx;rw[←hx,fI,if_neg]
  rintro(h|h|h|h)
  ·exact h1 h
  ·exact h2 h
  ·exact h26 h
  ·exact h h5
 generalize hr:bw p.op p.w p.v (p.args.map Term.w)=r at hW spec;obtain⟨rw,re⟩:=r;simp only[two]at hW;by_cases h3:p.op=26
 ·have he:ev=true:=by cases ev;exact absurd ⟨h3,rfl⟩ h26;rfl
  subst he;have n24:¬(p.op=24∨p.op=25):=by omega
  have n2:¬p.op=2:=by omega
  have n21:¬p.op=21:=by omega
  by_cases h6:p.name=bs []
  rotate_left
  ·rw[spec 4 (by simp[h6,n24])]
   (rw[bV (aD rfl),bt];simp(disch:=omega)only[bK,↓aa,seval,-List.reduceReplicate,reduceCtorEq,ae,aH,aI,h1,h2,eq_true h3,aO,h5',h6,bj,bD,n24])
  by_cases h8:p.v=0
  rotate_left
  ·rw[spec 4 (by simp[h8,n2,n21])]
   (rw[bV (aD rfl),bt];simp(disch:=omega)only[bK,↓aa,seval,-List.reduceReplicate,reduceCtorEq,ae,aH,aI,h1,h2,eq_true h3,aO,h5',eq_true h6,bj,bD,n24,h8,n2,n21])
  by_cases g1:re=0
  rotate_left
  ·rw[spec 3 (by simp[h6,h8,n24,g1])]
   (rw[bV (aD rfl),bt];simp(disch:=omega)only[bK,↓aa,seval,-List.reduceReplicate,reduceCtorEq,ae,aH,aI,h1,h2,eq_true h3,aO,h5',eq_true h6,bj,bD,n24,eq_true h8,n2,n21,ef,hwd,dM,hW,g1])
  by_cases g2:rw=p.w
  rotate_left
  ·rw[spec 3 (by simp[h6,h8,n24,g2])]
   (rw[bV (aD rfl),bt];simp(disch:=omega)only[bK,↓aa,seval,-List.reduceReplicate,reduceCtorEq,ae,aH,aI,h1,h2,eq_true h3,aO,h5',eq_true h6,bj,bD,n24,eq_true h8,n2,n21,ef,hwd,dM,hW,eq_true g1,g2])
  rw[h3,asB]at h5
  obtain⟨a,hal⟩:∃a,p.args=[a]:=by
   match hp:p.args with
   | [a]=>exact⟨a,rfl⟩
   | []=>rw[hp]at h5;simp at h5
   |a::b::l=>rw[hp]at h5;simp at h5;omega
  have ha0:p.args[0]?=some a:=by rw[hal];rfl
  have hac:a.count≤1000000:=by have:=Term.cS (l:=p.args) (a:=a) (by rw[hal];simp);omega
  have hh:=RR a [24,26] hac (by decide)
  simp only[sP,Cb,dE]at hh;have i0:=LN (k:=.i64) (σ:=[]) (es:=5) (ax (f:=Term.row) ha0) a.aB;have hin:inner p=a.pre.any fun u=>decide (u.op∈[24,26]):=by unfold inner;rw[hal]
  rw[spec (if inner p=true then 12 else 0) (by simp[h3,h6,h8,g1,g2])]
  rw[hin];cases hb:a.pre.any fun u=>decide (u.op∈[24,26])<;>rw[hb]at hh<;>(rw[bV (aD rfl),bt];simp(disch:=omega)only[bK,↓aa,seval,-List.reduceReplicate,reduceCtorEq,ae,aH,aI,h1,h2,eq_true h3,aO,h5',eq_true h6,bj,bD,n24,eq_true h8,n2,n21,ef,hwd,dM,hW,eq_true g1,eq_true g2,i0,Ry,hh])
 ·by_cases n24:p.op=24∨p.op=25
  ·have n2:¬p.op=2:=by omega
   have n21:¬p.op=21:=by omega
   by_cases h8:p.v=0
   rotate_left
   ·rw[spec 4 (by simp[h8,n2,n21])]
    rcases dB (p.name=bs [])with h6|h6<;>(rw[bV (aD rfl),bt];simp(disch:=omega)only[bK,↓aa,seval,-List.reduceReplicate,reduceCtorEq,ae,aH,aI,h1,h2,h3,aO,h5',h6,bj,bD,n24,h8,n2,n21])
   cases h11:iA p.name with
   |false=>
    rw[spec 5 (by simp[h8,n24,h11])]
    rcases dB (p.name=bs [])with h6|h6<;>(rw[bV (aD rfl),bt];simp(disch:=omega)only[bK,↓aa,seval,-List.reduceReplicate,reduceCtorEq,ae,aH,aI,h1,h2,h3,aO,h5',h6,bj,bD,n24,eq_true h8,n2,n21,gX,ki,h11])
   |true=>
    by_cases g1:re=0
    rotate_left
    ·rw[spec 3 (by simp[h8,n24,h11,g1])]
     rcases dB (p.name=bs [])with h6|h6<;>(rw[bV (aD rfl),bt];simp(disch:=omega)only[bK,↓aa,seval,-List.reduceReplicate,reduceCtorEq,ae,aH,aI,h1,h2,h3,aO,h5',h6,bj,bD,n24,eq_true h8,n2,n21,gX,ki,h11,ef,hwd,dM,hW,g1])
    by_cases g2:rw=p.w
    rotate_left
    ·rw[spec 3 (by simp[h8,n24,h11,g2])]
     rcases dB (p.name=bs [])with h6|h6<;>(rw[bV (aD rfl),bt];simp(disch:=omega)only[bK,↓aa,seval,-List.reduceReplicate,reduceCtorEq,ae,aH,aI,h1,h2,h3,aO,h5',h6,bj,bD,n24,eq_true h8,n2,n21,gX,ki,h11,ef,hwd,dM,hW,eq_true g1,g2])
    rw[spec 0 (by simp[h8,n24,h11,g1,g2,h3])]
    rcases dB (p.name=bs [])with h6|h6<;>(rw[bV (aD rfl),bt];simp(disch:=omega)only[bK,↓aa,seval,-List.reduceReplicate,reduceCtorEq,ae,aH,aI,h1,h2,h3,aO,h5',h6,bj,bD,n24,eq_true h8,n2,n21,gX,ki,h11,ef,hwd,dM,hW,eq_true g1,eq_true g2])
  ·by_cases h6:p.name=bs []
   rotate_left
   ·rw[spec 4 (by simp[h6,n24])]
    (rw[bV (aD rfl),bt];simp(disch:=omega)only[bK,↓aa,seval,-List.reduceReplicate,reduceCtorEq,ae,aH,aI,h1,h2,h3,aO,h5',h6,bj,bD,n24])
   by_cases hv:¬p.v=0∧¬p.op=2∧¬p.op=21
   ·obtain⟨h8,h9,h10⟩:=hv
    rw[spec 4 (by simp[h8,h9,h10])]
    (rw[bV (aD rfl),bt];simp(disch:=omega)only[bK,↓aa,seval,-List.reduceReplicate,reduceCtorEq,ae,aH,aI,h1,h2,h3,aO,h5',eq_true h6,bj,bD,n24,h8,h9,h10])
   have hv':p.v=0∨(¬p.v=0∧p.op=2)∨(¬p.v=0∧¬p.op=2∧p.op=21):=by
    by_cases a:p.v=0
    ·exact .inl a
    ·by_cases b:p.op=2
     ·exact .inr (.inl ⟨a,b⟩)
     ·exact .inr (.inr ⟨a,b,Decidable.of_not_not fun c=>hv ⟨a,b,c⟩⟩)
   have hv8:¬((¬p.name=bs []∧¬(p.op=24∨p.op=25))∨(¬p.v=0∧¬p.op=2∧¬p.op=21)):=by
    rintro(h|h)
    ·exact h.1 h6
    ·exact hv h
   by_cases g1:re=0
   rotate_left
   ·rw[spec 3 (by rw[if_neg hv8];simp[n24,g1])]
    rcases dB (p.v=0)with h8|h8<;>rcases dB (p.op=2)with h9|h9<;>rcases dB (p.op=21)with h10|h10
    all_goals first
     |(exfalso;simp_all;done)
     |(rw[bV (aD rfl),bt];simp(disch:=omega)only[bK,↓aa,seval,-List.reduceReplicate,reduceCtorEq,ae,aH,aI,h1,h2,h3,aO,h5',eq_true h6,bj,bD,n24,h8,h9,h10,ef,hwd,dM,hW,g1])
   by_cases g2:rw=p.w
   rotate_left
   ·rw[spec 3 (by rw[if_neg hv8];simp[n24,g2])]
    rcases dB (p.v=0)with h8|h8<;>rcases dB (p.op=2)with h9|h9<;>rcases dB (p.op=21)with h10|h10
    all_goals first
     |(exfalso;simp_all;done)
     |(rw[bV (aD rfl),bt];simp(disch:=omega)only[bK,↓aa,seval,-List.reduceReplicate,reduceCtorEq,ae,aH,aI,h1,h2,h3,aO,h5',eq_true h6,bj,bD,n24,h8,h9,h10,ef,hwd,dM,hW,eq_true g1,g2])
   rw[spec 0 (by rw[if_neg hv8];simp[n24,g1,g2,h3])]
   rcases dB (p.v=0)with h8|h8<;>rcases dB (p.op=2)with h9|h9<;>rcases dB (p.op=21)with h10|h10
   all_goals first
    |(exfalso;simp_all;done)
    |(rw[bV (aD rfl),bt];simp(disch:=omega)only[bK,↓aa,seval,-List.reduceReplicate,reduceCtorEq,ae,aH,aI,h1,h2,h3,aO,h5',eq_true h6,bj,bD,n24,h8,h9,h10,ef,hwd,dM,hW,eq_true g1,eq_true g2])
end S
end Go.AE
namespace Go.AE.S
open Go Go.AE
variable {τ:Tm} {σ:ag} {rd:Option Nat}
abbrev Hn(l:List Term)(i:Int):List (Nat×AV):=[(7,.p (.aM (l.map Term.row))),(8,.p (.int .i64 i))]
theorem adi(l:List Term)(hl:l.length≤1000000):if l.any (fun u=>decide (u.op∈[24,26]))=true then
   ∃r,al P zQ (Hn l 0) σ 115 rd=some r∧cj 4 (.int .i64 12) σ r
  else al P zQ (Hn l 0) σ 115 rd=some (.exit 0,⟨dX (dX (dX (dX (tm (Hn l l.length)) 95 (.p (.int .i64 l.length))) 96 (.p (.aM (l.map Term.row)))) 97 (.p (.int .i64 l.length))) 98 (.p (.bool false)),σ,115,rd⟩):=by
 have h:=er (P:=P) (nt:=115) (rd:=rd) (lv:=[7,8]) (b:=zK) (x:=0) (as:=l) (fun i (_:Unit)=>Hn l i) (fun _=>σ) (fun i _ a=>if decide (a.op∈[24,26])=true then .inr ()else .inl ())
  (fun _=>⟨dX (dX (dX (dX (tm (Hn l l.length)) 95 (.p (.int .i64 l.length))) 96 (.p (.aM (l.map Term.row)))) 97 (.p (.int .i64 l.length))) 98 (.p (.bool false)),σ,115,rd⟩) (fun _=>cj 4 (.int .i64 12) σ) (fun _ _=>True)
  (fun i a s ha hi hs=>by
   refine⟨fun _ _=>trivial,?_⟩
   have hlt:((i:Int)<l.length)=True:=by simpa using hi
   rcases dB (a.op=24)with h1|h1<;>rcases dB (a.op=26)with h2|h2<;>simp only[zK]<;>simp(disch:=omega)only[bK,↓aa,seval,-List.reduceReplicate,reduceCtorEq,ae,hlt,aO,aJ (ax (f:=Term.row) ha) a.aB,h1,h2,pn,ab0,cj]) (fun s hs=>by
   simp only[zK];simp(disch:=omega)only[bK,↓aa,seval,-List.reduceReplicate,reduceCtorEq,ae,kY,aO]) (fun i s=>rfl) () trivial
 rw[E5]at h;exact(ae7 h :)
theorem aeo(p:Term)(ev:Bool)(ht:ia p)(hc:p.count≤1000000):R P sn [.agg p.row,.bool ev]=some (.int .i64 (fI p ev)):=by
 have hlc:=Term.dJ p.args;have hcc:=Term.count_eq p;by_cases h1:arity p.op<0
 ·(rw[du (aD rfl),cH];simp(disch:=omega)only[bK,↓aa,seval,-List.reduceReplicate,reduceCtorEq,ae,bn,bp,h1])
  simp[fI,h1]
 by_cases h2:p.op=1
 ·(rw[du (aD rfl),cH];simp(disch:=omega)only[bK,↓aa,seval,-List.reduceReplicate,reduceCtorEq,ae,bn,bp,h1,eq_true h2])
  simp[fI,h2]
 by_cases h26:p.op=26∧ev=false
 ·obtain⟨h3,rfl⟩:=h26
  (rw[du (aD rfl),cH];simp(disch:=omega)only[bK,↓aa,seval,-List.reduceReplicate,reduceCtorEq,ae,bn,bp,h1,h2,eq_true h3])
  simp[fI,h3]
 by_cases h5:(p.args.length:Int)=arity p.op
 rotate_left
 ·have h5':=eq_false h5
  by_cases h3:p.op=26
  ·have he:ev=true:=by cases ev;exact absurd ⟨h3,rfl⟩ h26;rfl
   subst he
   (rw[du (aD rfl),cH];simp(disch:=omega)only[bK,↓aa,seval,-List.reduceReplicate,reduceCtorEq,ae,bn,bp,h1,h2,eq_true h3,aO,h5'])
   simp[fI,h5]
  ·(rw[du (aD rfl),cH];simp(disch:=omega)only[bK,↓aa,seval,-List.reduceReplicate,reduceCtorEq,ae,bn,bp,h1,h2,h3,aO,h5'])
   simp[fI,h5]
 have h5':=eq_true h5;have hwd:=I1 p (by omega)
 have hvr:=zr p;have hW:=LC p.op p.w p.v (p.args.map Term.w) (by rw[aO];have:=Ce (o:=p.op) (by rcases Decidable.em (1≤p.op∧p.op≤26)with h|h;exact h;exact absurd (by rw[rX h];decide) h1);omega) ht.v
 have spec:∀x:Int,(if(¬p.name=bs []∧¬(p.op=24∨p.op=25))∨(¬p.v=0∧¬p.op=2∧¬p.op=21)then 4
   else if(p.op=24∨p.op=25)∧iA p.name=false then 5
   else if ¬(bw p.op p.w p.v (p.args.map Term.w)).2=0∨¬(bw p.op p.w p.v (p.args.map Term.w)).1=p.w then 3
   else if p.op=26∧inner p=true then 12 else 0)=x→fI p ev=x:=by
  intro x hx;rw[←hx,fI,if_neg]
  rintro(h|h|h|h)
  ·exact h1 h
  ·exact h2 h
  ·exact h26 h
  ·exact h h5
 generalize hr:bw p.op p.w p.v (p.args.map Term.w)=r at hW spec;obtain⟨rw,re⟩:=r;simp only[two]at hW;by_cases h3:p.op=26
 ·have he:ev=true:=by cases ev;exact absurd ⟨h3,rfl⟩ h26;rfl
  subst he;have n24:¬(p.op=24∨p.op=25):=by omega
  have n2:¬p.op=2:=by omega
  have n21:¬p.op=21:=by omega
  by_cases h6:p.name=bs []
  rotate_left
  ·rw[spec 4 (by simp[h6,n24])]
   (rw[du (aD rfl),cH];simp(disch:=omega)only[bK,↓aa,seval,-List.reduceReplicate,reduceCtorEq,ae,bn,bp,h1,h2,eq_true h3,aO,h5',h6,bC,hvr,n24])
  by_cases h8:p.v=0
  rotate_left
  ·rw[spec 4 (by simp[h8,n2,n21])]
   (rw[du (aD rfl),cH];simp(disch:=omega)only[bK,↓aa,seval,-List.reduceReplicate,reduceCtorEq,ae,bn,bp,h1,h2,eq_true h3,aO,h5',eq_true h6,bC,hvr,n24,h8,n2,n21])
  by_cases g1:re=0
  rotate_left
  ·rw[spec 3 (by simp[h6,h8,n24,g1])]
   (rw[du (aD rfl),cH];simp(disch:=omega)only[bK,↓aa,seval,-List.reduceReplicate,reduceCtorEq,ae,bn,bp,h1,h2,eq_true h3,aO,h5',eq_true h6,bC,hvr,n24,eq_true h8,n2,n21,fw,hwd,gW,hW,g1])
  by_cases g2:rw=p.w
  rotate_left
  ·rw[spec 3 (by simp[h6,h8,n24,g2])]
   (rw[du (aD rfl),cH];simp(disch:=omega)only[bK,↓aa,seval,-List.reduceReplicate,reduceCtorEq,ae,bn,bp,h1,h2,eq_true h3,aO,h5',eq_true h6,bC,hvr,n24,eq_true h8,n2,n21,fw,hwd,gW,hW,eq_true g1,g2])
  rw[h3,asB]at h5
  obtain⟨a,hal⟩:∃a,p.args=[a]:=by
   match hp:p.args with
   | [a]=>exact⟨a,rfl⟩
   | []=>rw[hp]at h5;simp at h5
   |a::b::l=>rw[hp]at h5;simp at h5;omega
  have ha0:p.args[0]?=some a:=by rw[hal];rfl
  have hac:a.count≤1000000:=by have:=Term.cS (l:=p.args) (a:=a) (by rw[hal];simp);omega
  have hpo:=C8 a hac;have hL:=adi (σ:=[]) (rd:=none) a.post (by rw[Term.IB];omega)
  have i0:=LN (k:=.i64) (σ:=[]) (es:=5) (ax (f:=Term.row) ha0) a.aB;have hin:inner p=a.pre.any fun u=>decide (u.op∈[24,26]):=by unfold inner;rw[hal]
  rw[spec (if inner p=true then 12 else 0) (by simp[h3,h6,h8,g1,g2])]
  rw[hin];rw[Term.akN]at hL;cases hb:a.pre.any fun u=>decide (u.op∈[24,26])with
  |true=>
   rw[hb,if_pos rfl]at hL;obtain⟨⟨e,τ',σ',nt',rd'⟩,k1,k2,k3,k4⟩:=hL
   simp only at k2 k3 k4
   subst k2;subst k4
   (rw[du (aD rfl),cH];simp(disch:=omega)only[bK,↓aa,seval,-List.reduceReplicate,reduceCtorEq,ae,bn,bp,h1,h2,eq_true h3,aO,h5',eq_true h6,bC,hvr,n24,eq_true h8,n2,n21,fw,hwd,gW,hW,eq_true g1,eq_true g2,i0,jz,hpo,KI,k1,k3])
  |false=>
   rw[hb,if_neg (by simp)]at hL
   (rw[du (aD rfl),cH];simp(disch:=omega)only[bK,↓aa,seval,-List.reduceReplicate,reduceCtorEq,ae,bn,bp,h1,h2,eq_true h3,aO,h5',eq_true h6,bC,hvr,n24,eq_true h8,n2,n21,fw,hwd,gW,hW,eq_true g1,eq_true g2,i0,jz,hpo,KI,hL])
 ·by_cases n24:p.op=24∨p.op=25
  ·have n2:¬p.op=2:=by omega
   have n21:¬p.op=21:=by omega
   by_cases h8:p.v=0
   rotate_left
   ·rw[spec 4 (by simp[h8,n2,n21])]
    (rw[du (aD rfl),cH];simp(disch:=omega)only[bK,↓aa,seval,-List.reduceReplicate,reduceCtorEq,ae,bn,bp,h1,h2,h3,aO,h5',bC,hvr,n24,h8,n2,n21])
   cases h11:iA p.name with
   |false=>
    rw[spec 5 (by simp[h8,n24,h11])]
    (rw[du (aD rfl),cH];simp(disch:=omega)only[bK,↓aa,seval,-List.reduceReplicate,reduceCtorEq,ae,bn,bp,h1,h2,h3,aO,h5',bC,hvr,n24,eq_true h8,n2,n21,iC,vY,h11])
   |true=>
    by_cases g1:re=0
    rotate_left
    ·rw[spec 3 (by simp[h8,n24,h11,g1])]
     (rw[du (aD rfl),cH];simp(disch:=omega)only[bK,↓aa,seval,-List.reduceReplicate,reduceCtorEq,ae,bn,bp,h1,h2,h3,aO,h5',bC,hvr,n24,eq_true h8,n2,n21,iC,vY,h11,fw,hwd,gW,hW,g1])
    by_cases g2:rw=p.w
    rotate_left
    ·rw[spec 3 (by simp[h8,n24,h11,g2])]
     (rw[du (aD rfl),cH];simp(disch:=omega)only[bK,↓aa,seval,-List.reduceReplicate,reduceCtorEq,ae,bn,bp,h1,h2,h3,aO,h5',bC,hvr,n24,eq_true h8,n2,n21,iC,vY,h11,fw,hwd,gW,hW,eq_true g1,g2])
    rw[spec 0 (by simp[h8,n24,h11,g1,g2,h3])]
    (rw[du (aD rfl),cH];simp(disch:=omega)only[bK,↓aa,seval,-List.reduceReplicate,reduceCtorEq,ae,bn,bp,h1,h2,h3,aO,h5',bC,hvr,n24,eq_true h8,n2,n21,iC,vY,h11,fw,hwd,gW,hW,eq_true g1,eq_true g2])
  ·by_cases h6:p.name=bs []
   rotate_left
   ·rw[spec 4 (by simp[h6,n24])]
    (rw[du (aD rfl),cH];simp(disch:=omega)only[bK,↓aa,seval,-List.reduceReplicate,reduceCtorEq,ae,bn,bp,h1,h2,h3,aO,h5',h6,bC,hvr,n24])
   by_cases hv:¬p.v=0∧¬p.op=2∧¬p.op=21
   ·obtain⟨h8,h9,h10⟩:=hv
    rw[spec 4 (by simp[h8,h9,h10])]
    (rw[du (aD rfl),cH];simp(disch:=omega)only[bK,↓aa,seval,-List.reduceReplicate,reduceCtorEq,ae,bn,bp,h1,h2,h3,aO,h5',eq_true h6,bC,hvr,n24,h8,h9,h10])
   have hv8:¬((¬p.name=bs []∧¬(p.op=24∨p.op=25))∨(¬p.v=0∧¬p.op=2∧¬p.op=21)):=by
    rintro(h|h)
    ·exact h.1 h6
    ·exact hv h
   by_cases g1:re=0
   rotate_left
   ·rw[spec 3 (by rw[if_neg hv8];simp[n24,g1])]
    rcases dB (p.v=0)with h8|h8<;>rcases dB (p.op=2)with h9|h9<;>rcases dB (p.op=21)with h10|h10
    all_goals first
     |(exfalso;simp_all;done)
     |(rw[du (aD rfl),cH];simp(disch:=omega)only[bK,↓aa,seval,-List.reduceReplicate,reduceCtorEq,ae,bn,bp,h1,h2,h3,aO,h5',eq_true h6,bC,hvr,n24,h8,h9,h10,fw,hwd,gW,hW,g1])
   by_cases g2:rw=p.w
   rotate_left
   ·rw[spec 3 (by rw[if_neg hv8];simp[n24,g2])]
    rcases dB (p.v=0)with h8|h8<;>rcases dB (p.op=2)with h9|h9<;>rcases dB (p.op=21)with h10|h10
    all_goals first
     |(exfalso;simp_all;done)
     |(rw[du (aD rfl),cH];simp(disch:=omega)only[bK,↓aa,seval,-List.reduceReplicate,reduceCtorEq,ae,bn,bp,h1,h2,h3,aO,h5',eq_true h6,bC,hvr,n24,h8,h9,h10,fw,hwd,gW,hW,eq_true g1,g2])
   rw[spec 0 (by rw[if_neg hv8];simp[n24,g1,g2,h3])]
   rcases dB (p.v=0)with h8|h8<;>rcases dB (p.op=2)with h9|h9<;>rcases dB (p.op=21)with h10|h10
   all_goals first
    |(exfalso;simp_all;done)
    |(rw[du (aD rfl),cH];simp(disch:=omega)only[bK,↓aa,seval,-List.reduceReplicate,reduceCtorEq,ae,bn,bp,h1,h2,h3,aO,h5',eq_true h6,bC,hvr,n24,h8,h9,h10,fw,hwd,gW,hW,eq_true g1,eq_true g2])
def fh(ev:Bool):List Term→Int
 | []=>0
 |a::r=>if fI a ev=0 then fh ev r else fI a ev
theorem Ck(ev:Bool):∀l m:List Term,fh ev (l++m)=if fh ev l=0 then fh ev m else fh ev l
 | [],m=>rfl
 |a::l,m=>by
  simp only[FD,fh];by_cases h:fI a ev=0
  ·simp only[h,if_true];exact Ck ev l m
  ·simp only[h,if_false]
abbrev MP(t:Term)(ev:Bool)(i:Int):List (Nat×AV):=[(1,.p (.bool ev)),(2,.p (.ptr t.row 0)),(9,.p (.aM (t.args.map Term.row))),(10,.p (.int .i64 t.args.length)),(11,.p (.int .i64 i))]
theorem Ov(ev:Bool):∀(l:List Term) (i:Nat),nC (fun _=>fh ev (Term.ph l)=0) (fun e=>fh ev (Term.ph l)=e∧e≠0) (aq (S:=Unit) (T:=Int) (fun _ _ a=>if fh ev a.post=0 then .inl ()else .inr (fh ev a.post)) i () l)
 | [],i=>rfl
 |a::l,i=>by
  simp only[aq,Term.ph,Ck];by_cases h:fh ev a.post=0
  ·simp only[h,if_true];exact Ov ev l (i+1)
  ·simp only[h,if_false];exact⟨rfl,h⟩
theorem MD(t:Term)(ev:Bool):ia t→t.count≤1000000→R P gR [.agg t.row,.bool ev]=some (.int .i64 (fh ev t.post)):=by
 induction t using Term.ind with
 |h t ih=>
 intro ht hc;have hlen:=Term.dJ t.args;have hct:=Term.count_eq t
 have h:=er (P:=P) (nt:=25) (rd:=none) (lv:=[1,2,9,10,11]) (b:=mK) (x:=0) (as:=t.args) (fun i (_:Unit)=>MP t ev i) (fun _=>[]) (fun _ _ a=>if fh ev a.post=0 then .inl ()else .inr (fh ev a.post))
  (fun s=>⟨dX (tm (MP t ev t.args.length)) 12 (.p (.bool false)),[],25,none⟩) (fun e=>cj 4 (.int .i64 e) []) (fun _ _=>True)
  (fun i a s ha hi hs=>by
   refine⟨fun _ _=>trivial,?_⟩
   have hm:=mi ha;have hac:=Term.cS hm;have hr:=ih a hm (ht.args hm) (by omega)
   have hlt:((i:Int)<t.args.length)=True:=by simpa using hi
   by_cases hf:fh ev a.post=0
   ·simp only[mK]
    simp(disch:=omega)only[bK,↓aa,seval,-List.reduceReplicate,reduceCtorEq,ae,hlt,aJ (ax (f:=Term.row) ha) a.aB,lq,hr,eq_true hf]
   ·simp only[mK]
    simp(disch:=omega)only[bK,↓aa,seval,-List.reduceReplicate,reduceCtorEq,ae,hlt,aJ (ax (f:=Term.row) ha) a.aB,lq,hr,hf,cj]) (fun s hs=>by
   simp only[mK];simp(disch:=omega)only[bK,↓aa,seval,-List.reduceReplicate,reduceCtorEq,ae,kY]) (fun i s=>rfl) () trivial
 have hn:=Qh t ev ht hc;have hf:=Ov ev t.args 0;rw[Term.An,Ck];simp only[fh];cases hfe:aq (S:=Unit) (T:=Int) (fun _ _ a=>if fh ev a.post=0 then .inl ()else .inr (fh ev a.post)) 0 () t.args with
 |inl s=>
  rw[hfe]at h hf;have h':al P qF (MP t ev 0) [] 25 none=_:=h;have hf':fh ev (Term.ph t.args)=0:=hf;rw[hf']
  (rw[C6 (aD rfl),lg];simp(disch:=omega)only[bK,↓aa,seval,-List.reduceReplicate,reduceCtorEq,ae,aO,Bq,h',PE,hn])
  by_cases h0:fI t ev=0<;>simp[h0]
 |inr e=>
  rw[hfe]at h hf;obtain⟨⟨e',τ',σ',nt',rd'⟩,g1,g2,g3,g4⟩:=h
  simp only at g2 g3 g4
  subst g2;subst g4;have h':al P qF (MP t ev 0) [] 25 none=some (.ret,⟨τ',[],nt',rd'⟩):=g1;have hf':fh ev (Term.ph t.args)=e∧e≠0:=hf;rw[hf'.1,if_neg hf'.2]
  (rw[C6 (aD rfl),lg];simp(disch:=omega)only[bK,↓aa,seval,-List.reduceReplicate,reduceCtorEq,ae,aO,Bq,h',g3])
def ent(e:ByteArray×Term):PV×AV:=(.str e.1,.p (.agg e.2.row))
def Dj:List (ByteArray×Term)→ByteArray→Option Term
 | [],_=>none
 |e::r,k=>if k=e.1 then some e.2 else Dj r k
def MX(u:Term):List (ByteArray×Term)→List (ByteArray×Term)
 | []=>[(u.name,u)]
 |e::r=>if u.name=e.1 then(u.name,u)::r else e::MX u r
theorem DD(a b:ByteArray):oX .str (.str a) (.str b)=some (decide (a=b)):=by
 simp only[oX]
 congr 1
 rw[abE];simp[vp]
theorem Xj(k:ByteArray):∀s:List (ByteArray×Term),findKey .str (.str k) (s.map ent)=some ((Dj s k).map fun u=>.p (.agg u.row))
 | []=>rfl
 |e::r=>by
  simp only[sP,findKey,ent,DD,Dj];by_cases h:k=e.1
  ·simp[h]
  ·simp only[h,decide_false,if_false]
   exact Xj k r
theorem afO(u:Term):∀s:List (ByteArray×Term),uK .str (.str u.name) (.p (.agg u.row)) (s.map ent)=some ((MX u s).map ent)
 | []=>rfl
 |e::r=>by
  simp only[sP,uK,ent,DD,MX];by_cases h:u.name=e.1
  ·simp[h,ent]
  ·simp only[h,decide_false,if_false]
   rw[afO u r];rfl
theorem Bg(n:Nat)(s:List (ByteArray×Term)):((s.map ent).all fun e=>AE.below n e.2)=true:=by
 rw[Ca];intro x hx;obtain⟨e,_,rfl⟩:=E0.1 hx;exact MM
def isVar(u:Term):Bool:=decide (u.op=24∨u.op=25)
def rp(s:List (ByteArray×Term))(u:Term):List (ByteArray×Term) ⊕ List (ByteArray×Term) :=
 if isVar u=true then
  match Dj s u.name with
  |some o=>if o.op=u.op∧o.w=u.w then .inl (MX u s)else .inr s
  |none=>.inl (MX u s)
 else .inl s
abbrev sC(c:Int)(s:List (ByteArray×Term)):ag:=[.pv 1 [[.int .i64 c]] false,.map (s.map ent) false,.av 1 [[.map 1]] false]
theorem Jh{a:Obj}{es es':List (PV×AV)}{r:ag}{kl:mX}{k:PV}{v:AV}(h:su kl k=true)(h':uK kl k v es=some es'):OX (a::.map es false::r) kl (.map 1) (.p k) v=some (.any,a::.map es' false::r):=by
 simp[OX,h,h']
theorem Zq{a:Obj}{es:List (PV×AV)}{r:ag}:aj4 (a::.map es false::r) (.map 1)=some (.p (.int .i64 es.length)):=rfl
theorem anV(t:Term)(hc:t.count≤1000000):nk P [27] eH eI (.p (.fn b9 [.ptr t.row 0])) [(4,.ptr 0 1 0 0),(6,.ptr 2 1 0 0)] (sC 0 []) 61 none=some (kQ (sC 0) (fun s=>(.ret,sC 12 s)) (aq (fun _ s u=>rp s u) 0 [] t.pre)):=by
 refine Fe (rd:=none) (kept:=[(4,.ptr 0 1 0 0),(6,.ptr 2 1 0 0)]) (ps:=[27]) (hJ:=eH) (b:=eI) (nt:=61) t hc ⟨rfl,rfl⟩ (sC 0) (fun _ s u=>rp s u) (fun s=>(.ret,sC 12 s))
  (fun _ _=>True) [] rfl (fun _=>rfl) (fun _=>rfl) (fun s=>by simp only[sC,R6,abS,yu,ze,vK,Bg,Bh];rfl) (fun s=>by simp only[sC,R6,abS,yu,ze,vK,Bg,Bh];rfl) (fun _=>by simp) (fun i u s ha _=>?_) trivial
 refine⟨fun _ _=>trivial,?_⟩
 simp only[sC,FD,x9];rw[BP rfl ⟨rfl,rfl,rfl⟩];have hpv:=bD u.op;unfold rp isVar;by_cases hv:u.op=24∨u.op=25
 rotate_left
 ·simp only[eH,eI]
  simp(disch:=omega)only[bK,↓aa,seval,-List.reduceReplicate,reduceCtorEq,ae,bj,hpv,hv,Bg]
 ·have hfk:=Xj u.name s
  have hsk:=afO u s;simp only[hv];cases hl:Dj s u.name with
  |none=>
   rw[hl]at hfk;have hlk:=fun r=>SX (r:=r) (a:=.pv 1 [[.int .i64 0]] false) (z:=.agg [.p (.int .i64 0),.p (.int .i64 0),.p (.int .u64 0),.p (.str (bs [])),.aC]) (kl:=.str) (k:=.str u.name) rfl hfk
   simp only[eH,eI];simp(disch:=omega)only[bK,↓aa,seval,-List.reduceReplicate,reduceCtorEq,ae,bj,hpv,hv,Bg,hlk,Jh rfl hsk]
  |some o=>
   rw[hl]at hfk;have hlk:=fun r=>SY (r:=r) (a:=.pv 1 [[.int .i64 0]] false) (z:=.agg [.p (.int .i64 0),.p (.int .i64 0),.p (.int .u64 0),.p (.str (bs [])),.aC]) (kl:=.str) (k:=.str u.name) rfl hfk
   simp only[eH,eI];rcases dB (o.op=u.op)with h1|h1<;>rcases dB (o.w=u.w)with h2|h2<;>simp(disch:=omega)only[bK,↓aa,seval,-List.reduceReplicate,reduceCtorEq,ae,bj,hpv,hv,Bg,hlk,h1,h2,Jh rfl hsk]
def cB(p:Term)(ev:Bool):Int :=
 if 4096<p.count∨64<p.deep then 7
 else if ¬fh ev p.post=0 then fh ev p.post
 else match aq (fun _ s u=>rp s u) 0 [] p.pre with
  |.inl s=>if 16<s.length then 7 else 0
  |.inr _=>12
theorem rT(p:Term)(ev:Bool)(ht:ia p)(hc:p.count≤1000000):R P eF [.agg p.row,.bool ev]=some (.int .i64 (cB p ev)):=by
 have h1:=Y4 p hc;have h2:=Vp p hc;have h3:=MD p ev ht hc;have h4:=anV p hc;unfold cB;by_cases g1:(4096:Int)<p.count
 ·rw[if_pos (by omega)]
  (rw[lr (aD rfl),eD];simp(disch:=omega)only[bK,↓aa,seval,-List.reduceReplicate,reduceCtorEq,ae,qt,h1,g1])
 by_cases g2:(64:Int)<p.deep
 ·rw[if_pos (by omega)]
  (rw[lr (aD rfl),eD];simp(disch:=omega)only[bK,↓aa,seval,-List.reduceReplicate,reduceCtorEq,ae,qt,h1,g1,qQ,h2,g2])
 rw[if_neg (by omega)]
 by_cases g3:fh ev p.post=0
 rotate_left
 ·rw[if_pos g3]
  (rw[lr (aD rfl),eD];simp(disch:=omega)only[bK,↓aa,seval,-List.reduceReplicate,reduceCtorEq,ae,qt,h1,g1,qQ,h2,g2,lq,h3,g3])
 rw[if_neg (by simpa using g3)]
 cases hf:aq (fun _ s u=>rp s u) 0 [] p.pre with
 |inr s=>
  rw[hf]at h4;have h4':nk P [27] eH eI (.p (.fn b9 [.ptr p.row 0])) [(4,.ptr 0 1 0 0),(6,.ptr 2 1 0 0)] [.pv 1 [[.int .i64 0]] false,.map [] false,.av 1 [[.map 1]] false] 61 none=some (.ret,sC 12 s):=h4
  (rw[lr (aD rfl),eD];simp(disch:=omega)only[bK,↓aa,seval,-List.reduceReplicate,reduceCtorEq,ae,qt,h1,g1,qQ,h2,g2,lq,h3,eq_true g3,iB,iD,um,h4'])
 |inl s=>
  rw[hf]at h4;have h4':nk P [27] eH eI (.p (.fn b9 [.ptr p.row 0])) [(4,.ptr 0 1 0 0),(6,.ptr 2 1 0 0)] [.pv 1 [[.int .i64 0]] false,.map [] false,.av 1 [[.map 1]] false] 61 none=some (.normal,sC 0 s):=h4;by_cases g4:(16:Int)<s.length
  ·simp only
   rw[if_pos (by omega)]
   (rw[lr (aD rfl),eD];simp(disch:=omega)only[bK,↓aa,seval,-List.reduceReplicate,reduceCtorEq,ae,qt,h1,g1,qQ,h2,g2,lq,h3,eq_true g3,iB,iD,um,h4',Zq,aO,g4])
  ·simp only
   rw[if_neg (by omega)]
   (rw[lr (aD rfl),eD];simp(disch:=omega)only[bK,↓aa,seval,-List.reduceReplicate,reduceCtorEq,ae,qt,h1,g1,qQ,h2,g2,lq,h3,eq_true g3,iB,iD,um,h4',Zq,aO,g4])
def ah3(n:ByteArray):List PV:=[.str n]
def vE(u:Term)(_:Nat)(s:Bool)(a:Term):Bool ⊕ Unit :=
 if isVar a=true∧a.name=u.name then(if ¬a.w=u.w∨¬a.op=u.op then .inr ()else .inl true)else .inl s
def vL(l:List Term)(i:Nat)(s:List ByteArray)(u:Term):List ByteArray ⊕ Unit :=
 if isVar u=true then
  match aq (vE u) 0 false (l.take i)with
  |.inr _=>.inr ()
  |.inl again=>.inl (if again=true then s else s++[u.name])
 else .inl s
abbrev agI(l:List Term)(n:Nat)(i:Int)(s:Bool)(k:Int):List (Nat×AV):=[(4,.p (.aM (l.map Term.row))),(5,.sl 0 n),(6,.p (.int .i64 i)),(7,.p (.bool s)),(8,.p (.int .i64 k))]
def ahN(r:Ex×St):Prop:=r.1=.ret∧r.2.τ.get 2=.aC∧r.2.τ.get 3=.p (.bool false)
theorem ajS(l:List Term)(n:Nat)(i:Nat)(u:Term)(hu:l[i]?=some u)(hl:l.length≤1000000) :
  nC (fun s=>al P uc (agI l n i false 0) σ 82 rd=some (.exit 2,⟨dX (dX (dX (tm (agI l n i s i)) 24 (.p (.int .i64 i))) 25 (.p (.int .i64 i))) 26 (.p (.bool false)),σ,82,rd⟩))
   (fun(_:Unit)=>∃r,al P uc (agI l n i false 0) σ 82 rd=some r∧ahN r) (aq (vE u) 0 false (l.take i)):=by
 have hi:i<l.length:=(fU.1 hu).1;have hlen:(l.take i).length=i:=by rw[abC];omega
 have hui:=aJ (k:=.i64) (σ:=σ) (ax (f:=Term.row) hu) u.aB
 have h:=er (P:=P) (nt:=82) (rd:=rd) (lv:=[4,5,6,7,8]) (b:=qA) (x:=2) (as:=l.take i) (fun k (s:Bool)=>agI l n i s k) (fun _=>σ) (vE u)
  (fun s=>⟨dX (dX (dX (tm (agI l n i s i)) 24 (.p (.int .i64 i))) 25 (.p (.int .i64 i))) 26 (.p (.bool false)),σ,82,rd⟩) (fun(_:Unit)=>ahN) (fun _ _=>True)
  (fun k a s ha hk hs=>by
   refine⟨fun _ _=>trivial,?_⟩
   rw[hlen]at hk;have ha':l[k]?=some a:=by rw[VK hk]at ha;exact ha
   have hlt:((k:Int)<i)=True:=by simpa using hk
   have hai:=aJ (k:=.i64) (σ:=σ) (ax (f:=Term.row) ha') a.aB;have hv:=zr a;unfold vE isVar;by_cases h1:a.op=24∨a.op=25
   rotate_left
   ·simp only[qA,h1]
    simp(disch:=omega)only[bK,↓aa,seval,-List.reduceReplicate,reduceCtorEq,ae,hlt,hai,bC,hv,h1]
   rcases dB (a.name=u.name)with h2|h2
   rotate_left
   ·simp only[qA,h1]
    simp(disch:=omega)only[bK,↓aa,seval,-List.reduceReplicate,reduceCtorEq,ae,hlt,hai,hui,bC,hv,h1,h2]
   rcases dB (a.w=u.w)with h3|h3<;>rcases dB (a.op=u.op)with h4|h4<;>simp only[qA,h1]<;>simp(disch:=omega)only[bK,↓aa,seval,-List.reduceReplicate,reduceCtorEq,ae,hlt,hai,hui,bC,hv,h1,h2,h3,h4,ahN]) (fun s hs=>by
   rw[hlen];simp only[qA];simp(disch:=omega)only[bK,↓aa,seval,-List.reduceReplicate,reduceCtorEq,ae,kY]) (fun i s=>rfl) false trivial
 exact h
abbrev Ui(l:List Term)(s:List ByteArray)(i:Int):List (Nat×AV):=[(4,.p (.aM (l.map Term.row))),(5,.sl 0 s.length),(6,.p (.int .i64 i))]
abbrev sS(s:List ByteArray):ag:=[.pv 1 (s.map ah3) false]
theorem ajN(l:List Term)(hl:l.length≤1000000) :
  nC (fun s=>al P qH (Ui l [] 0) (sS []) 82 none=some (.exit 0,⟨dX (dX (dX (dX (tm (Ui l s l.length)) 12 (.p (.int .i64 l.length))) 13 (.p (.aM (l.map Term.row)))) 14 (.p (.int .i64 l.length))) 15 (.p (.bool false)),sS s,82,none⟩))
   (fun(_:Unit)=>∃r,al P qH (Ui l [] 0) (sS []) 82 none=some r∧ahN r) (aq (vL l) 0 [] l):=by
 have h:=er (P:=P) (nt:=82) (rd:=none) (lv:=[4,5,6]) (b:=nO) (x:=0) (as:=l) (fun i s=>Ui l s i) sS (vL l)
  (fun s=>⟨dX (dX (dX (dX (tm (Ui l s l.length)) 12 (.p (.int .i64 l.length))) 13 (.p (.aM (l.map Term.row)))) 14 (.p (.int .i64 l.length))) 15 (.p (.bool false)),sS s,82,none⟩) (fun(_:Unit)=>ahN) (fun i s=>s.length≤i)
  (fun i u s hu hi hs=>by
   have hlt:((i:Int)<l.length)=True:=by simpa using hi
   have hui:=aJ (k:=.i64) (σ:=sS s) (ax (f:=Term.row) hu) u.aB;have hui2:=aJ (k:=.i64) (σ:=[.pv 1 (s.map ah3) false]) (ax (f:=Term.row) hu) u.aB;have hv:=zr u;have hL:=ajS (σ:=sS s) (rd:=none) l s.length i u hu hl;have hap:=dA (σ:=[.pv 1 (s.map ah3) false,.pv 1 [[.str u.name]] false]) (b:=0) (n:=s.length) (e:=1) (es:=1) (bytes:=16) (rows:=s.map ah3) (new:=[[.str u.name]]) rfl (by simp) (.inl rfl) (by simp only[lH,l5];omega)
   unfold vL isVar;by_cases h1:u.op=24∨u.op=25
   rotate_left
   ·refine⟨fun s' he=>?_,?_⟩
    ·simp only[h1,decide_false,kS,if_false,ZI]at he
     subst he;omega
    ·simp only[nO,h1]
     simp(disch:=omega)only[bK,↓aa,seval,-List.reduceReplicate,reduceCtorEq,ae,hlt,hui,aO,bC,hv,h1,Ui,sS]
   ·simp only[h1,decide_true,if_true]
    cases hf:aq (vE u) 0 false (l.take i)with
    |inr x=>
     rw[hf]at hL;obtain⟨⟨e,τ',σ',nt',rd'⟩,k1,k2,k3,k4⟩:=hL
     simp only at k2 k3 k4
     subst k2;refine⟨fun s' he=>(by cases he),?_⟩
     simp only[nO];simp(disch:=omega)only[bK,↓aa,seval,-List.reduceReplicate,reduceCtorEq,ae,hlt,hui,aO,bC,hv,h1,Ui,sS,Cu,k1,ahN,k3,k4]
    |inl again=>
     rw[hf]at hL;have hL':al P uc (agI l s.length i false 0) (sS s) 82 none=_:=hL;refine⟨fun s' he=>?_,?_⟩
     ·simp only[ZI]at he
      subst he;split
      ·omega
      ·rw[jE];simp only[lH,l5];omega
     ·cases again with
      |true=>
       simp only[nO];simp(disch:=omega)only[bK,↓aa,seval,-List.reduceReplicate,reduceCtorEq,ae,hlt,hui,aO,bC,hv,h1,Ui,sS,Cu,hL']
      |false=>
       simp only[nO];simp(disch:=omega)only[bK,↓aa,seval,-List.reduceReplicate,reduceCtorEq,ae,hlt,hui,hui2,aO,bC,hv,h1,Ui,sS,Cu,hL',hap,BY,jE,ah3]) (fun s hs=>by
   simp only[nO];simp(disch:=omega)only[bK,↓aa,seval,-List.reduceReplicate,reduceCtorEq,ae,kY,aO]) (fun i s=>rfl) [] (by simp)
 exact h
theorem YY(t:Term)(hc:t.count≤1000000):R P qf [.agg t.row]=some (match aq (vL t.pre) 0 [] t.pre with
  |.inl s=>.jC [.aM (s.map ah3),.bool true]
  |.inr _=>.jC [.aM [],.bool false]):=by
 have hp:=uJ t hc;have hL:=ajN t.pre (by rw[Term.lX];omega)
 cases hf:aq (vL t.pre) 0 [] t.pre with
 |inl s=>
  rw[hf]at hL;have hL':al P qH [(4,.p (.aM (t.pre.map Term.row))),(5,.sl 0 0),(6,.p (.int .i64 0))] [.pv 1 [] false] 82 none=_:=hL
  (rw[Lu (aD rfl),sG];simp(disch:=omega)only[bK,↓aa,seval,-List.reduceReplicate,reduceCtorEq,ae,gC,hp,HM,hL',aO])
 |inr x=>
  rw[hf]at hL;obtain⟨⟨e,τ',σ',nt',rd'⟩,k1,k2,k3,k4⟩:=hL
  simp only at k2 k3 k4
  subst k2;have hL':al P qH [(4,.p (.aM (t.pre.map Term.row))),(5,.sl 0 0),(6,.p (.int .i64 0))] [.pv 1 [] false] 82 none=some (.ret,⟨τ',σ',nt',rd'⟩):=k1
  (rw[Lu (aD rfl),sG];simp(disch:=omega)only[bK,↓aa,seval,-List.reduceReplicate,reduceCtorEq,ae,gC,hp,HM,hL',k3,k4])
def xM(u a:Term):Bool:=isVar a && decide (a.name=u.name) && (!decide (a.w=u.w) || !decide (a.op=u.op))
def Kk(u a:Term):Bool:=isVar a && decide (a.name=u.name)
theorem Gu(u:Term):∀(l:List Term) (i:Nat) (s:Bool),aq (vE u) i s l=if l.any (xM u)=true then .inr ()else .inl (s ||l.any (Kk u))
 | [],i,s=>by simp[aq]
 |a::l,i,s=>by
  by_cases h1:isVar a=true∧a.name=u.name
  ·have ht:Kk u a=true:=by simp[Kk,h1.1,h1.2]
   by_cases h2:¬a.w=u.w∨¬a.op=u.op
   ·have hc:xM u a=true:=by
     simp only[xM,h1.1,h1.2,decide_true,QM,VG,QN,abi,decide_eq_false_iff_not];exact h2
    have e:vE u i s a=.inr ():=by rw[vE,if_pos h1,if_pos h2]
    simp only[aq,e,ZH,hc,TB,if_true]
   ·have hc:xM u a=false:=by
     rw[not_or,Decidable.not_not,Decidable.not_not]at h2;simp[xM,h2.1,h2.2]
    have e:vE u i s a=.inl true:=by rw[vE,if_pos h1,if_neg h2]
    simp only[aq,e,ZH,hc,ht,G1,TB,acb];exact Gu u l (i+1) true
  ·have ht:Kk u a=false:=by
    rw[abH];simpa[Kk]using h1
   have hc:xM u a=false:=by
    have:=ht;simp only[Kk]at this;simp[xM,this]
   have e:vE u i s a=.inl s:=by rw[vE,if_neg h1]
   simp only[aq,e,ZH,hc,ht,G1];exact Gu u l (i+1) s
structure Inv (pre:List Term) (es:List (ByteArray×Term)) (out:List ByteArray):Prop where
 names:es.map (·.1)=out
 amL:∀e∈es,isVar e.2=true∧e.2.name=e.1∧e.2∈pre
 all:∀a∈pre,isVar a=true→∃o,Dj es a.name=some o∧o.op=a.op∧o.w=a.w
theorem aqg{es:List (ByteArray×Term)}{k:ByteArray}{o:Term}(h:Dj es k=some o):(k,o)∈es:=by
 induction es with
 |nil=>cases h
 |cons e r ih=>
  simp only[Dj]at h;split at h
  ·rename_i hk
   cases h;rw[hk];simp
  ·exact abp _ (ih h)
theorem aoe{es:List (ByteArray×Term)}{u:Term}(h:Dj es u.name=none):MX u es=es++[(u.name,u)]:=by
 induction es with
 |nil=>rfl
 |cons e r ih=>
  simp only[Dj]at h;split at h
  ·cases h
  ·rename_i hk
   simp only[MX,hk,if_false,ih h,FD]
theorem alw{es:List (ByteArray×Term)}{u o:Term}(h:Dj es u.name=some o):(MX u es).map (·.1)=es.map (·.1):=by
 induction es with
 |nil=>cases h
 |cons e r ih=>
  simp only[Dj]at h;simp only[MX];split at h
  ·rename_i hk
   simp[hk]
  ·rename_i hk
   simp only[hk,if_false,sP,ih h]
theorem alv{es:List (ByteArray×Term)}{u:Term}{e:ByteArray×Term}(h:e∈MX u es):e=(u.name,u)∨e∈es:=by
 induction es with
 |nil=>simp[MX]at h;exact .inl h
 |cons x r ih=>
  simp only[MX]at h;split at h
  ·rcases pn.1 h with h|h
   ·exact .inl h
   ·exact .inr (by simp[h])
  ·rcases pn.1 h with h|h
   ·exact .inr (by simp[h])
   ·rcases ih h with h|h
    ·exact .inl h
    ·exact .inr (by simp[h])
theorem ao5{es:List (ByteArray×Term)}{u:Term}{k:ByteArray}:Dj (MX u es) k=if k=u.name then some u else Dj es k:=by
 induction es with
 |nil=>simp[MX,Dj]
 |cons e r ih=>
  simp only[MX];by_cases h:u.name=e.1
  ·rw[if_pos h]
   simp only[Dj];by_cases hk:k=u.name
   ·simp[hk]
   ·simp[hk,show ¬k=e.1 from fun x=>hk (x.trans h.symm)]
  ·rw[if_neg h]
   simp only[Dj,ih];by_cases hk:k=e.1
   ·rw[if_pos hk,if_neg (fun x=>h (x.symm.trans hk)),if_pos hk]
   ·rw[if_neg hk,if_neg hk]
theorem Np(l:List Term):∀(r pre:List Term) (es:List (ByteArray×Term)) (out:List ByteArray) (i:Nat),l=pre++r→Inv pre es out →
  match aq (fun _ s u=>rp s u) i es r,aq (vL l) pre.length out r with
  |.inl s,.inl o=>s.length=o.length
  |.inr _,.inr _=>True
  |_,_=>False
 | [],pre,es,out,i,_,hI=>by
  simp only[aq];rw[←hI.names,aO]
 |u::r,pre,es,out,i,hl,hI=>by
  simp only[aq];have htk:l.take pre.length=pre:=by rw[hl];simp
  have next:∀es' out',Inv (pre++[u]) es' out'→match aq (fun _ s u=>rp s u) (i+1) es' r,aq (vL l) (pre.length+1) out' r with
    |.inl s,.inl o=>s.length=o.length
    |.inr _,.inr _=>True
    |_,_=>False:=by
   intro es' out' hI';have:=Np l r (pre++[u]) es' out' (i+1) (by rw[hl];simp) hI'
   simpa using this
  cases hv:isVar u with
  |false=>
   have e1:rp es u=.inl es:=by simp[rp,hv]
   have e2:vL l pre.length out u=.inl out:=by simp[vL,hv]
   rw[e1,e2];refine next es out ⟨hI.names,fun e he=>?_,fun a ha hva=>?_⟩
   ·obtain⟨h1,h2,h3⟩:=hI.amL e he
    exact⟨h1,h2,by simp[h3]⟩
   ·rcases BZ.1 ha with ha|ha
    ·exact hI.all a ha hva
    ·simp only[Gg]at ha
     rw[ha,hv]at hva;cases hva
  |true=>
   have hin:=Gu u pre 0 false
   have e2:vL l pre.length out u=match aq (vE u) 0 false pre with
     |.inr _=>.inr ()
     |.inl again=>.inl (if again=true then out else out++[u.name]):=by
    (simp only[vL,hv,if_true,htk])<;>rfl
   have e1:rp es u=match Dj es u.name with
     |some o=>if o.op=u.op∧o.w=u.w then .inl (MX u es)else .inr es
     |none=>.inl (MX u es):=by(simp only[rp,hv,if_true])<;>rfl
   rw[e1,e2,hin];cases hk:Dj es u.name with
   |none=>
    have hno:∀a∈pre,Kk u a=false:=by
     intro a ha;rw[abH];intro ht;simp only[Kk,ud,decide_eq_true_eq]at ht;obtain⟨o,ho,_⟩:=hI.all a ha ht.1;rw[ht.2,hk]at ho;cases ho
    have h1:pre.any (xM u)=false:=by
     rw[ML];intro a ha;have:=hno a ha;simp only[Kk]at this;simp[xM,this]
    have h2:pre.any (Kk u)=false:=by
     rw[ML];intro a ha;simp[hno a ha]
    simp only[h1,h2,kS,if_false,Bool.or_self];refine next _ _ ⟨?_,fun e he=>?_,fun a ha hva=>?_⟩
    ·rw[aoe hk,BY,hI.names];rfl
    ·rcases alv he with rfl|he
     ·exact⟨hv,rfl,by simp⟩
     ·obtain⟨h1,h2,h3⟩:=hI.amL e he
      exact⟨h1,h2,by simp[h3]⟩
    ·rw[ao5]
     rcases BZ.1 ha with ha|ha
     ·by_cases hn:a.name=u.name
      ·have:=hno a ha
       simp[Kk,hva,hn]at this
      ·rw[if_neg hn]
       exact hI.all a ha hva
     ·simp only[Gg]at ha
      subst ha;rw[if_pos rfl];exact⟨_,rfl,rfl,rfl⟩
   |some o=>
    obtain⟨o1,o2,o3⟩:=hI.amL _ (aqg hk)
    simp only at o1 o2 o3
    by_cases ho:o.op=u.op∧o.w=u.w
    ·have h1:pre.any (xM u)=false:=by
      rw[ML];intro a ha hc;simp only[xM,ud,decide_eq_true_eq,QN,abi,decide_eq_false_iff_not]at hc;obtain⟨o',h1,h2,h3⟩:=hI.all a ha hc.1.1;rw[hc.1.2,hk]at h1;cases h1;rcases hc.2 with h|h
      ·exact h (h3.symm.trans ho.2)
      ·exact h (h2.symm.trans ho.1)
     have h2:pre.any (Kk u)=true:=by
      rw[abB];exact⟨o,o3,by simp[Kk,o1,o2]⟩
     simp only[h1,h2,kS,if_false,acb,if_true,ho,and_self];refine next _ _ ⟨?_,fun e he=>?_,fun a ha hva=>?_⟩
     ·rw[alw hk];exact hI.names
     ·rcases alv he with rfl|he
      ·exact⟨hv,rfl,by simp⟩
      ·obtain⟨h1,h2,h3⟩:=hI.amL e he
       exact⟨h1,h2,by simp[h3]⟩
     ·rw[ao5]
      rcases BZ.1 ha with ha|ha
      ·by_cases hn:a.name=u.name
       ·rw[if_pos hn]
        obtain⟨o',k1,k2,k3⟩:=hI.all a ha hva;rw[hn,hk]at k1;cases k1;exact⟨_,rfl,ho.1.symm.trans k2,ho.2.symm.trans k3⟩
       ·rw[if_neg hn]
        exact hI.all a ha hva
      ·simp only[Gg]at ha
       subst ha;rw[if_pos rfl];exact⟨_,rfl,rfl,rfl⟩
    ·have h1:pre.any (xM u)=true:=by
      rw[abB];refine⟨o,o3,?_⟩;simp only[xM,o1,o2,decide_true,QM,VG,QN,abi,decide_eq_false_iff_not];by_cases hw:o.w=u.w
      ·exact .inr fun h=>ho ⟨h,hw⟩
      ·exact .inl hw
     simp only[h1,if_true,ho,if_false]
abbrev Hj(t:Term)(ev:Bool)(i:Int):List (Nat×AV):=[(1,.p (.bool ev)),(2,.p (.ptr t.row 0)),(5,.p (.aM (t.post.map Term.row))),(6,.p (.int .i64 i))]
theorem Ot(ev:Bool):∀(l:List Term) (i:Nat),nC (fun _=>fh ev l=0) (fun e=>fh ev l=e∧e≠0) (aq (S:=Unit) (T:=Int) (fun _ _ a=>if fI a ev=0 then .inl ()else .inr (fI a ev)) i () l)
 | [],i=>rfl
 |a::l,i=>by
  simp only[aq,fh];by_cases h:fI a ev=0
  ·simp only[h,if_true];exact Ot ev l (i+1)
  ·simp only[h,if_false];exact⟨rfl,h⟩
theorem alE{t:Term}:ia t→t.count≤1000000→∀a∈t.post,ia a∧a.count≤1000000:=by
 induction t using Term.ind with
 |h t ih=>
 intro ht hc a ha;rw[Term.An,Term.IC]at ha;rcases BZ.1 ha with ha|ha
 ·obtain⟨b,hb,hab⟩:=Jp.1 ha
  have:=Term.cS hb;have:=Term.count_eq t;exact ih b hb (ht.args hb) (by omega) a hab
 ·simp only[Gg]at ha
  subst ha;exact⟨ht,hc⟩
theorem AF(p:Term)(ev:Bool)(ht:ia p)(hc:p.count≤1000000):R P j8 [.agg p.row,.bool ev]=some (.int .i64 (cB p ev)):=by
 have h1:=YX p ht 4096 (by omega) (by omega)
 have h2:=aem p ht 64 (by omega)
 have hpo:=C8 p hc;have hpl:=Term.IB p;unfold cB;by_cases g1:(p.count:Int)≤4096
 rotate_left
 ·rw[if_pos (by omega)]
  (rw[tg (aD rfl),jX];simp(disch:=omega)only[bK,↓aa,seval,-List.reduceReplicate,reduceCtorEq,ae,td,h1,g1])
 by_cases g2:(64:Int)<p.deep
 ·rw[if_pos (by omega)]
  (rw[tg (aD rfl),jX];simp(disch:=omega)only[bK,↓aa,seval,-List.reduceReplicate,reduceCtorEq,ae,td,h1,g1,sy,h2,g2])
 rw[if_neg (by omega)]
 have h:=er (P:=P) (nt:=44) (rd:=none) (lv:=[1,2,5,6]) (b:=tv) (x:=0) (as:=p.post) (fun i (_:Unit)=>Hj p ev i) (fun _=>[]) (fun _ _ a=>if fI a ev=0 then .inl ()else .inr (fI a ev))
  (fun s=>⟨dX (dX (dX (dX (tm (Hj p ev p.post.length)) 19 (.p (.int .i64 p.post.length))) 20 (.p (.aM (p.post.map Term.row)))) 21 (.p (.int .i64 p.post.length))) 22 (.p (.bool false)),[],44,none⟩) (fun e=>cj 4 (.int .i64 e) []) (fun _ _=>True)
  (fun i a s ha hi hs=>by
   refine⟨fun _ _=>trivial,?_⟩
   obtain⟨hta,hca⟩:=alE ht hc a (mi ha);have hr:=aeo a ev hta hca;have hlt:((i:Int)<p.post.length)=True:=by simpa using hi
   by_cases hf:fI a ev=0
   ·simp only[tv]
    simp(disch:=omega)only[bK,↓aa,seval,-List.reduceReplicate,reduceCtorEq,ae,hlt,aO,aJ (ax (f:=Term.row) ha) a.aB,PG,hr,eq_true hf]
   ·simp only[tv]
    simp(disch:=omega)only[bK,↓aa,seval,-List.reduceReplicate,reduceCtorEq,ae,hlt,aO,aJ (ax (f:=Term.row) ha) a.aB,PG,hr,hf,cj]) (fun s hs=>by
   simp only[tv];simp(disch:=omega)only[bK,↓aa,seval,-List.reduceReplicate,reduceCtorEq,ae,kY,aO]) (fun i s=>rfl) () trivial
 have hf:=Ot ev p.post 0;cases hfe:aq (S:=Unit) (T:=Int) (fun _ _ a=>if fI a ev=0 then .inl ()else .inr (fI a ev)) 0 () p.post with
 |inr e=>
  rw[hfe]at h hf;obtain⟨⟨e',τ',σ',nt',rd'⟩,k1,k2,k3,k4⟩:=h
  simp only at k2 k3 k4
  subst k2;subst k4;have h':al P xZ (Hj p ev 0) [] 44 none=some (.ret,⟨τ',[],nt',rd'⟩):=k1;have hf':fh ev p.post=e∧e≠0:=hf;rw[hf'.1,if_pos hf'.2]
  (rw[tg (aD rfl),jX];simp(disch:=omega)only[bK,↓aa,seval,-List.reduceReplicate,reduceCtorEq,ae,td,h1,g1,sy,h2,g2,jz,hpo,ye,h',k3])
 |inl s=>
  rw[hfe]at h hf;have h':al P xZ (Hj p ev 0) [] 44 none=_:=h;have hf':fh ev p.post=0:=hf;rw[if_neg (by simpa using hf')]
  have hnm:=YY p hc;have hbn:=Np p.pre p.pre [] [] [] 0 rfl ⟨rfl,by simp,by simp⟩
  simp only[l5]at hbn;cases hb:aq (fun _ s u=>rp s u) 0 [] p.pre with
  |inr x=>
   rw[hb]at hbn;cases ho:aq (vL p.pre) 0 [] p.pre with
   |inl y=>rw[ho]at hbn;exact hbn.elim
   |inr y=>
    rw[ho]at hnm
    (rw[tg (aD rfl),jX];simp(disch:=omega)only[bK,↓aa,seval,-List.reduceReplicate,reduceCtorEq,ae,td,h1,g1,sy,h2,g2,jz,hpo,ye,h',Ey,hnm])
  |inl s=>
   rw[hb]at hbn;cases ho:aq (vL p.pre) 0 [] p.pre with
   |inr y=>rw[ho]at hbn;exact hbn.elim
   |inl y=>
    rw[ho]at hnm hbn
    simp only at hbn hnm
    simp only
    by_cases g4:(16:Int)<y.length
    ·rw[if_pos (by omega)]
     (rw[tg (aD rfl),jX];simp(disch:=omega)only[bK,↓aa,seval,-List.reduceReplicate,reduceCtorEq,ae,td,h1,g1,sy,h2,g2,jz,hpo,ye,h',Ey,hnm,aO,g4])
    ·rw[if_neg (by omega)]
     (rw[tg (aD rfl),jX];simp(disch:=omega)only[bK,↓aa,seval,-List.reduceReplicate,reduceCtorEq,ae,td,h1,g1,sy,h2,g2,jz,hpo,ye,h',Ey,hnm,aO,g4])
end Go.AE.S
namespace Go.AE
namespace Term
mutual
def mH(wd:Int):Term→Term×Bool
 |.mk o w v s []=>(.mk o (if w=0 then wd else w) (if w=0∧o=2 then S.Mc wd v else v) s [],true)
 |.mk o w v s (a::as)=>
  match zB wd (a::as)with
  |some l=>(.mk o (S.bw o w v (l.map Term.w)).1 v s l,decide ((S.bw o w v (l.map Term.w)).2=0))
  |none=>(.mk 0 0 0 (S.bs []) [],false)
def zB(wd:Int):List Term→Option (List Term)
 | []=>some []
 |a::as=>
  let x:=mH wd a
  if x.2=true then(zB wd as).map (x.1::·)else none
end
end Term
namespace S
open Go Go.AE
variable {τ:Tm} {σ:ag} {rd:Option Nat}
theorem G5(wd:Int)(t:Term)(h:t.args=[]):t.mH wd=(.mk t.op (if t.w=0 then wd else t.w) (if t.w=0∧t.op=2 then Mc wd t.v else t.v) t.name [],true):=by
 cases t with|mk o w v s as=>simp only[Term.args]at h;subst h;rw[Term.mH];rfl
theorem G6(wd:Int)(t:Term)(h:t.args≠[]):t.mH wd=match Term.zB wd t.args with
  |some l=>(.mk t.op (bw t.op t.w t.v (l.map Term.w)).1 t.v t.name l,decide ((bw t.op t.w t.v (l.map Term.w)).2=0))
  |none=>(.mk 0 0 0 (bs []) [],false):=by
 cases t with
 |mk o w v s as=>
  simp only[Term.args]at h;cases as with
  |nil=>exact absurd rfl h
  |cons a as=>simp only[Term.mH,Term.op,Term.w,Term.v,Term.name,Term.args];cases Term.zB wd (a::as)<;>rfl
abbrev z5(l:Nat):List AV:=[.p (.int .i64 0),.p (.int .i64 0),.p (.int .u64 0),.p (.str (bs [])),.sl l 0]
abbrev sA(t:Term)(s:List Term):ag:=[.pv 0 [] false,.av 5 [z5 0] false,.pv (lK 5 s) (s.map Term.row) false,.av 5 [[.p (.int .i64 t.op),.p (.int .i64 t.w),.p (.int .u64 t.v),.p (.str t.name),.sl 2 s.length]] false]
abbrev agG(t:Term)(wd i:Int):List (Nat×AV):=[(1,.p (.int .i64 wd)),(2,.p (.ptr t.row 0)),(4,.ptr 1 1 0 0),(6,.ptr 3 1 0 0),(41,.p (.aM (t.args.map Term.row))),(42,.p (.int .i64 t.args.length)),(43,.p (.int .i64 i))]
def at7(t:Term)(s:List Term)(r:Ex×St):Prop:=r.1=.ret∧r.2.τ.get 4=.ptr 1 1 0 0∧r.2.τ.get 5=.p (.bool false) ∧
 r.2.σ=[.pv 0 [] false,.av 5 [z5 4] false,.pv (lK 5 s) (s.map Term.row) false,.av 5 [[.p (.int .i64 t.op),.p (.int .i64 t.w),.p (.int .u64 t.v),.p (.str t.name),.sl 2 s.length]] false,.pv 0 [] false]
def atS(wd:Int)(_:Nat)(s:List Term)(a:Term):List Term ⊕ List Term:=if(a.mH wd).2=true then .inl (s++[(a.mH wd).1])else .inr s
theorem Ur(wd:Int):∀(l:List Term) (i:Nat) (s:List Term),match Term.zB wd l with
  |some m=>aq (atS wd) i s l=.inl (s++m)∧m.length=l.length
  |none=>∃s',aq (atS wd) i s l=.inr s'
 | [],i,s=>by simp[Term.zB,aq]
 |a::l,i,s=>by
  simp only[Term.zB,aq,atS];by_cases h:(a.mH wd).2=true
  ·simp only[h,if_true]
   have ih:=Ur wd l (i+1) (s++[(a.mH wd).1]);cases hm:Term.zB wd l with
   |some m=>
    rw[hm]at ih;simp only[xu];refine⟨?_,by simp[ih.2]⟩
    have:=ih.1;simpa[atS]using this
   |none=>
    rw[hm]at ih;simp only[acr];exact ih
  ·simp only[h,if_false]
   exact⟨s,rfl⟩
theorem SB{l:List Int}(h:l≠[]):PV.flat (.aM (l.map dE))=false:=by
 cases l with
 |nil=>exact absurd rfl h
 |cons a l=>simp[PV.flat]
theorem Vj(t:Term)(wd:Int)(hw : -9223372036854775808≤wd∧wd≤9223372036854775807):ia t→t.count≤1000000→R P lN [.agg t.row,.int .i64 wd]=some (.jC [.agg (t.mH wd).1.row,.bool (t.mH wd).2]):=by
 induction t using Term.ind with
 |h t ih=>
 intro ht hc;have hlen:=Term.dJ t.args;have hct:=Term.count_eq t;by_cases hz:t.args=[]
 ·have hz':((t.args.length:Nat):Int)=0:=by rw[hz];rfl
  rw[G5 wd t hz];have hcut:=Qf wd t.v ht.v;by_cases h1:t.w=0
  ·by_cases h2:t.op=2
   ·(rw[uD (aD rfl),jN];simp(disch:=omega)only[aA,↓aa,seval,-List.reduceReplicate,reduceCtorEq,ae,aO,eq_true hz',eq_true h1,eq_true h2,cr,hcut,h1,h2])
    simp[Term.row,Term.rows,h1,h2]
   ·(rw[uD (aD rfl),jN];simp(disch:=omega)only[aA,↓aa,seval,-List.reduceReplicate,reduceCtorEq,ae,aO,eq_true hz',eq_true h1,h2])
    simp[Term.row,Term.rows,h1,h2]
  ·(rw[uD (aD rfl),jN];simp(disch:=omega)only[aA,↓aa,seval,-List.reduceReplicate,reduceCtorEq,ae,aO,eq_true hz',h1])
   simp[Term.row,Term.rows,h1]
 ·have hz':¬((t.args.length:Nat):Int)=0:=by
   intro h;exact hz (Jq.1 (by omega))
  have h:=er (P:=P) (nt:=81) (rd:=none) (lv:=[1,2,4,6,41,42,43]) (b:=q5) (x:=0) (as:=t.args) (fun i (_:List Term)=>agG t wd i) (sA t) (atS wd)
   (fun s=>⟨dX (tm (agG t wd t.args.length)) 44 (.p (.bool false)),sA t s,81,none⟩) (at7 t) (fun i s=>s.length=i)
   (fun i a s ha hi hs=>by
    have hm:=mi ha;have hac:=Term.cS hm;have hr:=ih a hm (ht.args hm) (by omega)
    have hlt:((i:Int)<t.args.length)=True:=by simpa using hi
    unfold atS;generalize hx:a.mH wd=x at hr;obtain⟨x,ok⟩:=x;cases ok with
    |true=>
     have hap:=dA (σ:=sA t s++[.pv 5 [x.row] false]) (b:=2) (n:=s.length) (e:=lK 5 s) (es:=5) (bytes:=64) (rows:=s.map Term.row) (new:=[x.row]) rfl (by simp) (qO _ _ _) (by simp only[lH,l5];omega)
     simp only[sA,z5,FD,x9]at hap;refine⟨fun s' he=>by simp at he;subst he;simp[hs],?_⟩
     simp only[q5];simp(disch:=omega)only[aA,↓aa,seval,-List.reduceReplicate,reduceCtorEq,ae,hlt,aJ (ax (f:=Term.row) ha) a.aB,yf,hr,sA,z5,hap,BY,jE,jd,agG]
    |false=>
     refine⟨fun s' he=>by simp at he,?_⟩
     simp only[q5];simp(disch:=omega)only[aA,↓aa,seval,-List.reduceReplicate,reduceCtorEq,ae,hlt,aJ (ax (f:=Term.row) ha) a.aB,yf,hr,sA,z5,at7,agG]) (fun s hs=>by
    simp only[q5];simp(disch:=omega)only[aA,↓aa,seval,-List.reduceReplicate,reduceCtorEq,ae,kY]) (fun i s=>rfl) [] (by simp)
  have hf:=Ur wd t.args 0 [];rw[G6 wd t hz];cases hm:Term.zB wd t.args with
  |none=>
   rw[hm]at hf;obtain⟨s',hf⟩:=hf;rw[hf]at h;obtain⟨⟨e,τ',σ',nt',rd'⟩,k1,k2,k3,k4,k5⟩:=h
   simp only at k2 k3 k4 k5
   subst k2;subst k5;have h':al P we (agG t wd 0) [.pv 0 [] false,.av 5 [z5 0] false,.pv 0 [] false,.av 5 [[.p (.int .i64 t.op),.p (.int .i64 t.w),.p (.int .u64 t.v),.p (.str t.name),.sl 2 0]] false] 81 none=_:=k1;simp only[z5]at h'
   (rw[uD (aD rfl),jN];simp(disch:=omega)only[aA,↓aa,seval,-List.reduceReplicate,reduceCtorEq,ae,aO,hz',FN,h',k3,k4])
   simp[Term.row,Term.rows]
  |some m=>
   rw[hm]at hf;simp only[x9]at hf;rw[hf.1]at h;have h':al P we (agG t wd 0) [.pv 0 [] false,.av 5 [z5 0] false,.pv 0 [] false,.av 5 [[.p (.int .i64 t.op),.p (.int .i64 t.w),.p (.int .u64 t.v),.p (.str t.name),.sl 2 0]] false] 81 none=_:=h;simp only[z5,sA]at h';have hml:m.length≤1000000:=by omega
   have hne:m.map Term.w≠[]:=by intro h;exact hz (Jq.1 (by rw[←hf.2,←aO (f:=Term.w),h];rfl))
   have hwd:=BR m hml;have hfl:=SB hne;have hW:=zq t.op t.w t.v (m.map Term.w) (by rw[aO];omega) ht.v
   generalize hq:bw t.op t.w t.v (m.map Term.w)=q at hW;obtain⟨q1,q2⟩:=q;simp only[two]at hW;rcases dB (q2=0)with h0|h0<;>(rw[uD (aD rfl),jN];simp(disch:=omega)only[aA,↓aa,seval,-List.reduceReplicate,reduceCtorEq,ae,aO,hz',FN,h',ef,hwd,hfl,dM,hW,h0])<;>simp[Term.row,Term.CE,h0,hq]
end S
end Go.AE
namespace Go.AE.S
open Go Go.AE
variable {τ:Tm} {σ:ag} {rd:Option Nat}
def zT:Term:=.mk 0 0 0 (bs []) []
theorem ET:zT.row=[.int .i64 0,.int .i64 0,.int .u64 0,.str (bs []),.aM []]:=by simp[zT,Term.row,Term.rows]
def Ko(x:Term×Bool):List PV:=if x.2=true then[.agg x.1.row,.int .i64 0]else[.agg zT.row,.int .i64 3]
abbrev sR(t:Term)(s:List Term):ag:=[.pv 0 [] false,.av 5 [z5 0] false,.av 5 [[.p (.int .i64 t.op),.p (.int .i64 t.w),.p (.int .u64 t.v),.p (.str t.name),.sl 3 s.length]] false,.pv (lK 5 s) (s.map Term.row) false]
abbrev Sv(t:Term)(wd i:Int):List (Nat×AV):=[(1,.p (.int .i64 wd)),(2,.p (.ptr t.row 0)),(4,.ptr 1 1 0 0),(6,.ptr 2 1 0 0),(7,.p (.int .i64 i))]
def at8(t:Term)(s:List Term)(r:Ex×St):Prop:=r.1=.ret∧r.2.τ.get 4=.ptr 1 1 0 0∧r.2.τ.get 5=.p (.int .i64 3) ∧
 r.2.σ=[.pv 0 [] false,.av 5 [z5 4] false,.av 5 [[.p (.int .i64 t.op),.p (.int .i64 t.w),.p (.int .u64 t.v),.p (.str t.name),.sl 3 s.length]] false,.pv (lK 5 s) (s.map Term.row) false,.pv 0 [] false]
theorem ale(t:Term)(wd:Int)(hw : -9223372036854775808≤wd∧wd≤9223372036854775807):ia t→t.count≤1000000→R P xi [.agg t.row,.int .i64 wd]=some (.jC (Ko (t.mH wd))):=by
 induction t using Term.ind with
 |h t ih=>
 intro ht hc;have hlen:=Term.dJ t.args;have hct:=Term.count_eq t;by_cases hz:t.args=[]
 ·have hz':((t.args.length:Nat):Int)=0:=by rw[hz];rfl
  rw[G5 wd t hz];have hcut:=ahR wd t.v ht.v;by_cases h1:t.w=0
  ·by_cases h2:t.op=2
   ·(rw[BM (aD rfl),rj];simp(disch:=omega)only[aA,↓aa,seval,-List.reduceReplicate,reduceCtorEq,ae,aO,eq_true hz',eq_true h1,eq_true h2,ahF,hcut,h1,h2])
    simp[Term.row,Term.rows,h1,h2,Ko]
   ·(rw[BM (aD rfl),rj];simp(disch:=omega)only[aA,↓aa,seval,-List.reduceReplicate,reduceCtorEq,ae,aO,eq_true hz',eq_true h1,h2])
    simp[Term.row,Term.rows,h1,h2,Ko]
  ·(rw[BM (aD rfl),rj];simp(disch:=omega)only[aA,↓aa,seval,-List.reduceReplicate,reduceCtorEq,ae,aO,eq_true hz',h1])
   simp[Term.row,Term.rows,h1,Ko]
 ·have hz':¬((t.args.length:Nat):Int)=0:=by
   intro h;exact hz (Jq.1 (by omega))
  have h:=er (P:=P) (nt:=77) (rd:=none) (lv:=[1,2,4,6,7]) (b:=A6) (x:=0) (as:=t.args) (fun i (_:List Term)=>Sv t wd i) (sR t) (atS wd)
   (fun s=>⟨dX (dX (dX (dX (dX (tm (Sv t wd t.args.length)) 32 (.p (.int .i64 t.args.length))) 33 (.p (.ptr t.row 4))) 34 (.p (.aM (t.args.map Term.row)))) 35 (.p (.int .i64 t.args.length))) 36 (.p (.bool false)),sR t s,77,none⟩) (at8 t) (fun i s=>s.length=i)
   (fun i a s ha hi hs=>by
    have hm:=mi ha;have hac:=Term.cS hm;have hr:=ih a hm (ht.args hm) (by omega)
    have hlt:((i:Int)<t.args.length)=True:=by simpa using hi
    unfold atS;generalize hx:a.mH wd=x at hr;obtain⟨x,ok⟩:=x;cases ok with
    |true=>
     have hap:=dA (σ:=sR t s++[.pv 5 [x.row] false]) (b:=3) (n:=s.length) (e:=lK 5 s) (es:=5) (bytes:=64) (rows:=s.map Term.row) (new:=[x.row]) rfl (by simp) (qO _ _ _) (by simp only[lH,l5];omega)
     simp only[sR,z5,FD,x9]at hap;simp only[Ko,if_true]at hr;refine⟨fun s' he=>by simp at he;subst he;simp[hs],?_⟩
     simp only[A6];simp(disch:=omega)only[aA,↓aa,seval,-List.reduceReplicate,reduceCtorEq,ae,hlt,aO,aJ (ax (f:=Term.row) ha) a.aB,II,hr,sR,z5,hap,BY,jE,jd,Sv]
    |false=>
     simp only[Ko,kS,if_false]at hr;refine⟨fun s' he=>by simp at he,?_⟩
     simp only[A6];simp(disch:=omega)only[aA,↓aa,seval,-List.reduceReplicate,reduceCtorEq,ae,hlt,aO,aJ (ax (f:=Term.row) ha) a.aB,II,hr,sR,z5,at8,Sv]) (fun s hs=>by
    simp only[A6];simp(disch:=omega)only[aA,↓aa,seval,-List.reduceReplicate,reduceCtorEq,ae,kY,aO]) (fun i s=>rfl) [] (by simp)
  have hf:=Ur wd t.args 0 [];rw[G6 wd t hz];cases hm:Term.zB wd t.args with
  |none=>
   rw[hm]at hf;obtain⟨s',hf⟩:=hf;rw[hf]at h;obtain⟨⟨e,τ',σ',nt',rd'⟩,k1,k2,k3,k4,k5⟩:=h
   simp only at k2 k3 k4 k5
   subst k2;subst k5;have h':al P EY (Sv t wd 0) [.pv 0 [] false,.av 5 [z5 0] false,.av 5 [[.p (.int .i64 t.op),.p (.int .i64 t.w),.p (.int .u64 t.v),.p (.str t.name),.sl 3 0]] false,.pv 0 [] false] 77 none=_:=k1;simp only[z5]at h'
   (rw[BM (aD rfl),rj];simp(disch:=omega)only[aA,↓aa,seval,-List.reduceReplicate,reduceCtorEq,ae,aO,hz',JS,h',k3,k4])
   simp[ET,Ko]
  |some m=>
   rw[hm]at hf;simp only[x9]at hf;rw[hf.1]at h;have h':al P EY (Sv t wd 0) [.pv 0 [] false,.av 5 [z5 0] false,.av 5 [[.p (.int .i64 t.op),.p (.int .i64 t.w),.p (.int .u64 t.v),.p (.str t.name),.sl 3 0]] false,.pv 0 [] false] 77 none=_:=h;simp only[z5,sR]at h';have hml:m.length≤1000000:=by omega
   have hne:m.map Term.w≠[]:=by intro h;exact hz (Jq.1 (by rw[←hf.2,←aO (f:=Term.w),h];rfl))
   have hwd:=I1 (.mk t.op t.w t.v t.name m) hml;rw[show(Term.mk t.op t.w t.v t.name m).args=m from rfl]at hwd;simp only[Term.row,Term.CE]at hwd;have hfl:=SB hne;have hW:=LC t.op t.w t.v (m.map Term.w) (by rw[aO];omega) ht.v
   generalize hq:bw t.op t.w t.v (m.map Term.w)=q at hW;obtain⟨q1,q2⟩:=q;simp only[two]at hW;rcases dB (q2=0)with h0|h0
   ·(rw[BM (aD rfl),rj];simp(disch:=omega)only[aA,↓aa,seval,-List.reduceReplicate,reduceCtorEq,ae,aO,hz',JS,h',fw,hwd,hfl,gW,hW,h0])
    simp[Term.row,Term.CE,h0,hq,Ko]
   ·(rw[BM (aD rfl),rj];simp(disch:=omega)only[aA,↓aa,seval,-List.reduceReplicate,reduceCtorEq,ae,aO,hz',JS,h',fw,hwd,hfl,gW,hW,h0])
    simp[ET,h0,hq,Ko]
theorem ym(t:Term)(wd:Int)(hw : -9223372036854775808≤wd∧wd≤9223372036854775807)(ht:ia t)(hc:t.count≤1000000) :
  R P iK [.agg t.row,.int .i64 wd]=some (.jC (if 1≤wd∧wd≤64 then Ko (t.mH wd)else[.agg zT.row,.int .i64 2])):=by
 by_cases h1:wd<1
 ·rw[if_neg (by omega)]
  (rw[yj (aD rfl),lC];simp(disch:=omega)only[aA,↓aa,seval,-List.reduceReplicate,reduceCtorEq,ae,h1])
  simp[ET]
 by_cases h2:(64:Int)<wd
 ·rw[if_neg (by omega)]
  (rw[yj (aD rfl),lC];simp(disch:=omega)only[aA,↓aa,seval,-List.reduceReplicate,reduceCtorEq,ae,h1,h2])
  simp[ET]
 rw[if_pos (by omega)]
 have hr:=Vj t wd hw ht hc;generalize t.mH wd=x at hr;obtain⟨x,ok⟩:=x;cases ok with
 |true=>
  (rw[yj (aD rfl),lC];simp(disch:=omega)only[aA,↓aa,seval,-List.reduceReplicate,reduceCtorEq,ae,h1,h2,yf,hr])
  simp[Ko]
 |false=>
  (rw[yj (aD rfl),lC];simp(disch:=omega)only[aA,↓aa,seval,-List.reduceReplicate,reduceCtorEq,ae,h1,h2,yf,hr])
  simp[Ko,ET]
theorem I0(t:Term)(wd:Int)(hw : -9223372036854775808≤wd∧wd≤9223372036854775807)(ht:ia t)(hc:t.count≤1000000) :
  R P rq [.agg t.row,.int .i64 wd]=some (.jC (if 1≤wd∧wd≤64 then Ko (t.mH wd)else[.agg zT.row,.int .i64 2])):=by
 by_cases h1:wd<1
 ·rw[if_neg (by omega)]
  (rw[IQ (aD rfl),wV];simp(disch:=omega)only[aA,↓aa,seval,-List.reduceReplicate,reduceCtorEq,ae,h1])
  simp[ET]
 by_cases h2:(64:Int)<wd
 ·rw[if_neg (by omega)]
  (rw[IQ (aD rfl),wV];simp(disch:=omega)only[aA,↓aa,seval,-List.reduceReplicate,reduceCtorEq,ae,h1,h2])
  simp[ET]
 rw[if_pos (by omega)]
 have hr:=ale t wd hw ht hc;generalize t.mH wd=x at hr;obtain⟨x,ok⟩:=x;cases ok with
 |true=>
  simp only[Ko,if_true]at hr
  (rw[IQ (aD rfl),wV];simp(disch:=omega)only[aA,↓aa,seval,-List.reduceReplicate,reduceCtorEq,ae,h1,h2,II,hr])
  all_goals simp[Ko]
 |false=>
  simp only[Ko,kS,if_false]at hr
  (rw[IQ (aD rfl),wV];simp(disch:=omega)only[aA,↓aa,seval,-List.reduceReplicate,reduceCtorEq,ae,h1,h2,II,hr])
  all_goals simp[Ko]
theorem KM:∀a:List UInt8,Op.bytesLess a a=false
 | []=>rfl
 |a::l=>by
  unfold Op.bytesLess;simp[KM l,UInt8.lt_irrefl]
theorem OP:∀a b c:List UInt8,Op.bytesLess a b=true→Op.bytesLess b c=true→Op.bytesLess a c=true
 |_,_,[],_,h=>by cases ‹List UInt8›<;>simp[Op.bytesLess]at h
 |_,[],_::_,h,_=>by cases ‹List UInt8›<;>simp[Op.bytesLess]at h
 | [],_::_,_::_,_,_=>rfl
 |a::x,b::y,c::z,h,h'=>by
  unfold Op.bytesLess at h h' ⊢;simp only[QN,decide_eq_true_eq,ud,beq_iff_eq]at h h' ⊢;rcases h with h|⟨rfl,h⟩
  ·rcases h' with h'|⟨rfl,h'⟩
   ·exact .inl (UInt8.lt_trans h h')
   ·exact .inl h
  ·rcases h' with h'|⟨rfl,h'⟩
   ·exact .inl h'
   ·exact .inr ⟨rfl,OP x y z h h'⟩
theorem XR:∀a b:List UInt8,Op.bytesLess a b=true∨a=b∨Op.bytesLess b a=true
 | [],[]=>.inr (.inl rfl)
 | [],_::_=>.inl rfl
 |_::_,[]=>.inr (.inr rfl)
 |a::x,b::y=>by
  unfold Op.bytesLess;simp only[QN,decide_eq_true_eq,ud,beq_iff_eq,aco];rcases XR x y with h|h|h
  ·by_cases h1:a<b
   ·exact .inl (.inl h1)
   ·by_cases h2:b<a
    ·exact .inr (.inr (.inl h2))
    ·have:a=b:=UInt8.le_antisymm (aci.1 h2) (aci.1 h1)
     exact .inl (.inr ⟨this,h⟩)
  ·by_cases h1:a<b
   ·exact .inl (.inl h1)
   ·by_cases h2:b<a
    ·exact .inr (.inr (.inl h2))
    ·have:a=b:=UInt8.le_antisymm (aci.1 h2) (aci.1 h1)
     exact .inr (.inl ⟨this,h⟩)
  ·by_cases h1:a<b
   ·exact .inl (.inl h1)
   ·by_cases h2:b<a
    ·exact .inr (.inr (.inl h2))
    ·have:a=b:=UInt8.le_antisymm (aci.1 h2) (aci.1 h1)
     exact .inr (.inr (.inr ⟨this.symm,h⟩))
theorem gG(a:ByteArray):slt a a=false:=KM _
theorem tk{a b c:ByteArray}(h:slt a b=true)(h':slt b c=true):slt a c=true:=OP _ _ _ h h'
theorem rU(a b:ByteArray):slt a b=true∨a=b∨slt b a=true:=by
 rcases XR a.toList b.toList with h|h|h
 ·exact .inl h
 ·exact .inr (.inl (vp.1 h))
 ·exact .inr (.inr h)
theorem Kh{a b:ByteArray}(h:slt a b=true):¬a=b:=by rintro rfl;rw[gG]at h;cases h
theorem rB{a b:ByteArray}(h:slt a b=true):slt b a=false:=by
 rw[abH];intro h';have:=tk h h';rw[gG]at this;cases this
theorem Bk(a b:ByteArray):vu a b=if a=b then 0 else if slt a b=true then -1 else 1:=by
 unfold vu slt;by_cases h:a=b
 ·rw[if_pos (vp.2 h),if_pos h]
 ·rw[if_neg (fun x=>h (vp.1 x)),if_neg h]
theorem amB(a b:ByteArray):vu a b<0↔slt a b=true:=by
 rw[Bk];by_cases h:a=b
 ·subst h;simp[gG]
 ·by_cases h2:slt a b=true<;>simp[h,h2]
theorem aiT(a b:ByteArray):vu a b=0↔a=b:=by
 rw[Bk];by_cases h:a=b
 ·simp[h]
 ·by_cases h2:slt a b=true<;>simp[h,h2]
theorem MB(a b:ByteArray):R P bZ [.str a,.str b]=some (.int .i64 (vu a b)):=by
 (rw[uC (aD rfl),dh];simp(disch:=omega)only[aA,↓aa,seval,-List.reduceReplicate,reduceCtorEq,ae,nw,Ep,xm,zy])
theorem I5(a b:ByteArray):R P eX [.str a,.str b]=some (.int .i64 (vu a b)):=by
 (rw[IV (aD rfl),lF];simp(disch:=omega)only[aA,↓aa,seval,-List.reduceReplicate,reduceCtorEq,ae,uw,MB])
theorem F8(v:V2)(k:ByteArray):R P cF [.agg (ay v),.str k]=some (.int .i64 (vu v.name k)):=by
 (rw[Dl (aD rfl),hZ];simp(disch:=omega)only[aA,↓aa,seval,-List.reduceReplicate,reduceCtorEq,ae,ay,IL,I5])
abbrev agH(s:List V2)(k:ByteArray)(x:Nat×Nat):List (Nat×AV):=[(0,.p (.aM (s.map ay))),(1,.p (.str k)),(2,.p (.fn cF [])),(8,.p (.int .i64 s.length)),(9,.p (.int .i64 x.1)),(10,.p (.int .i64 x.2))]
def bsF(s:List V2)(k:ByteArray)(x:Nat×Nat):(Nat×Nat) ⊕ (Nat×Nat) :=
 if x.1<x.2 then
  match s[(x.1+x.2) / 2]? with
  |some v=>if slt v.name k=true then .inl ((x.1+x.2) / 2+1,x.2)else .inl (x.1,(x.1+x.2) / 2)
  |none=>.inr x
 else .inr x
structure avg (s:List V2) (k:ByteArray) (x:Nat×Nat):Prop where
 le:x.1≤x.2
 hi:x.2≤s.length
 low:∀i v,i<x.1→s[i]?=some v→slt v.name k=true
 up:∀i v,x.2≤i→s[i]?=some v→slt v.name k=false
def dP(s:List V2):Prop:=s.Pairwise fun a b=>slt a.name b.name=true
theorem GM{s:List V2}(h:dP s){i j:Nat}{v u:V2}(hij:i<j)(hi:s[i]?=some v)(hj:s[j]?=some u):slt v.name u.name=true:=by
 obtain⟨h1,rfl⟩:=fU.1 hi;obtain⟨h2,rfl⟩:=fU.1 hj;exact abf.1 h i j h1 h2 hij
theorem aql{i j:Nat}(h:i+j<2000001):IntKind.i64.wrap (((IntKind.u64.wrap (IntKind.i64.wrap ((i:Int)+j))).fdiv (2^min (1:Int).toNat IntKind.u64.bits)))=(((i+j) / 2:Nat):Int):=by
 rw[IntWalk.i64_in ((i:Int)+j) (by omega),IntWalk.u64_in _ (by omega),show min (1:Int).toNat IntKind.u64.bits=1 from rfl,DE (by omega)]
 rw[show((i:Int)+j).toNat=i+j by omega]
 exact IntWalk.i64_in _ (by omega)
theorem avD(s:List V2)(k:ByteArray)(hs:dP s)(hl:s.length≤1000000):∃m,m≤s.length∧(∀i v,i<m→s[i]?=some v→slt v.name k=true)∧(∀i v,m≤i→s[i]?=some v→slt v.name k=false) ∧
  al P b8 (agH s k (0,s.length)) [] 49 none=some (.exit 0,⟨dX (dX (dX (tm (agH s k (m,m))) 15 (.p (.int .i64 m))) 16 (.p (.int .i64 m))) 17 (.p (.bool false)),[],49,none⟩):=by
 have h:=SZ (P:=P) (nt:=49) (rd:=none) (lv:=[0,1,2,8,9,10]) (b:=bG) (agH s k) (fun _=>[]) (bsF s k)
  (fun x r=>r=(.exit 0,⟨dX (dX (dX (tm (agH s k x)) 15 (.p (.int .i64 x.1))) 16 (.p (.int .i64 x.2))) 17 (.p (.bool false)),[],49,none⟩)) (avg s k) (fun x=>x.2-x.1)
  (fun x hx=>by
   obtain⟨i,j⟩:=x;obtain⟨h1,h2,h3,h4⟩:=hx
   simp only at h1 h2 h3 h4
   unfold bsF;by_cases hij:i<j
   ·have hlt:((i:Int)<j)=True:=by simpa using hij
    have hm:(i+j) / 2<s.length:=by omega
    obtain⟨v,hv⟩:∃v,s[(i+j) / 2]?=some v:=⟨_,oq hm⟩;have hmid:=aql (i:=i) (j:=j) (by omega)
    simp only[seval]at hmid;have hi64:IntKind.i64.wrap ((((i+j) / 2:Nat):Int)+1)=(((i+j) / 2+1:Nat):Int):=alS (by omega)
    have hrow:=aJ (k:=.i64) (σ:=[]) (es:=2) (ax (f:=ay) hv) rfl;have hcall:=F8 v k;have hneg:=amB v.name k;simp only[hij,if_true,hv];by_cases hc:slt v.name k=true
    ·have hcn:=eq_true (hneg.2 hc)
     refine⟨fun s' he=>?_,?_⟩
     ·simp only[hc,if_true,ZI]at he
      subst he;refine⟨⟨by simp only;omega,h2,fun a u ha hu=>?_,h4⟩,by simp only;omega⟩
      simp only at ha
      by_cases hlast:a=(i+j) / 2
      ·subst hlast;rw[hv]at hu;cases hu;exact hc
      ·exact tk (GM hs (show a<(i+j) / 2 by omega) hu hv) hc
     ·simp only[bG,hc,if_true]
      simp only[ay]at hrow hcall;simp(disch:=omega)only[aA,↓aa,seval,-List.reduceReplicate,reduceCtorEq,ae,hlt,Gb,hmid,hrow,kV,Zy,Cb,hcall,hcn,hi64,agH]
    ·have hc':slt v.name k=false:=abH.2 hc
     have hcn:=eq_false (fun h=>hc (hneg.1 h))
     refine⟨fun s' he=>?_,?_⟩
     ·simp only[hc',kS,if_false,ZI]at he
      subst he;refine⟨⟨by simp only;omega,by simp only;omega,h3,fun a u ha hu=>?_⟩,by simp only;omega⟩
      simp only at ha
      by_cases hlast:a=(i+j) / 2
      ·subst hlast;rw[hv]at hu;cases hu;exact hc'
      ·have:=GM hs (show(i+j) / 2<a by omega) hv hu
       rw[abH];intro h;exact hc (tk this h)
     ·simp only[bG,hc',kS,if_false]
      simp only[ay]at hrow hcall;simp(disch:=omega)only[aA,↓aa,seval,-List.reduceReplicate,reduceCtorEq,ae,hlt,Gb,hmid,hrow,kV,Zy,Cb,hcall,hcn,hi64,agH]
   ·have hlt:((i:Int)<j)=False:=by simpa using hij
    simp only[hij,if_false];refine⟨fun s' he=>(by cases he),?_⟩
    simp only[bG]
    simp(disch:=omega)only[aA,↓aa,seval,-List.reduceReplicate,reduceCtorEq,ae,hlt]) (fun s=>rfl) (s.length+1) (0,s.length) (by simp) ⟨by simp,by simp,by simp,fun i v hi hv=>by
     have:=(fU.1 hv).1
     simp only at hi;omega⟩
 obtain⟨x,t,r,hx,hf,hL,ho⟩:=h;obtain⟨i,j⟩:=x;obtain⟨h1,h2,h3,h4⟩:=hx
 simp only at h1 h2 h3 h4
 unfold bsF at hf
 have hij:¬i<j:=by
  intro hij;obtain⟨v,hv⟩:∃v,s[(i+j) / 2]?=some v:=⟨_,oq (by omega)⟩
  simp only[hij,if_true,hv]at hf;split at hf<;>cases hf
 simp only[hij,if_false,Sum.inr.injEq]at hf;subst hf;subst ho
 obtain rfl:i=j:=by omega
 exact⟨i,h2,h3,h4,hL⟩
abbrev names(s:List V2):List ByteArray:=s.map (·.name)
def SH(s:List V2)(k:ByteArray):Bool:=s.any fun u=>decide (u.name=k)
theorem Uv(s:List V2)(k:ByteArray):SH s k=true↔k∈names s:=by
 unfold SH names;rw[abB,E0];constructor
 ·rintro⟨u,h1,h2⟩;exact⟨u,h1,by simpa using h2⟩
 ·rintro⟨u,h1,h2⟩;exact⟨u,h1,by simpa using h2⟩
theorem Qd(s:List V2)(k:ByteArray)(hs:dP s)(hl:s.length≤1000000):∃m,m≤s.length∧(∀i v,i<m→s[i]?=some v→slt v.name k=true)∧(∀i v,m≤i→s[i]?=some v→slt v.name k=false) ∧
  R P aU [.aM (s.map ay),.str k,.fn cF []]=some (.jC [.int .i64 m,.bool (SH s k)]):=by
 obtain⟨m,h1,h2,h3,hL⟩:=avD s k hs hl;refine⟨m,h1,h2,h3,?_⟩;have hL':al P b8 [(0,.p (.aM (s.map ay))),(1,.p (.str k)),(2,.p (.fn cF [])),(8,.p (.int .i64 s.length)),(9,.p (.int .i64 0)),(10,.p (.int .i64 s.length))] [] 49 none=_:=hL;by_cases hm:m<s.length
 ·have hlt:((m:Int)<s.length)=True:=by simpa using hm
  obtain⟨v,hv⟩:∃v,s[m]?=some v:=⟨_,oq hm⟩;have hrow:=aJ (k:=.i64) (σ:=[]) (es:=2) (ax (f:=ay) hv) rfl;have hcall:=F8 v k
  have hin:k∈names s↔v.name=k:=by
   constructor
   ·intro h
    obtain⟨u,hu,rfl⟩:=E0.1 h;obtain⟨a,ha⟩:=aa5 hu;by_cases h4:a<m
    ·have:=h2 a u h4 ha;rw[gG]at this;cases this
    ·by_cases h5:a=m
     ·subst h5;rw[hv]at ha;cases ha;rfl
     ·have hsv:=h3 m v (rm _) hv
      have:=GM hs (show m<a by omega) hv ha
      rw[this]at hsv;cases hsv
   ·rintro rfl
    exact List.mem_map_of_mem (mi hv)
  simp only[ay]at hrow hcall;have hz:=aiT v.name k;by_cases hc:v.name=k
  ·have h0:=hz.2 hc
   (rw[cZ (aD rfl),aT];simp(disch:=omega)only[aA,↓aa,seval,-List.reduceReplicate,reduceCtorEq,ae,aO,cW,hL',hlt,hrow,kV,hcall,h0])
   rw[(Uv s k).2 (hin.2 hc)]
  ·have h0:=eq_false (fun h=>hc (hz.1 h))
   (rw[cZ (aD rfl),aT];simp(disch:=omega)only[aA,↓aa,seval,-List.reduceReplicate,reduceCtorEq,ae,aO,cW,hL',hlt,hrow,kV,hcall,h0])
   rw[abH.2 fun h=>hc (hin.1 ((Uv s k).1 h))]
 ·have hlt:((m:Int)<s.length)=False:=by simpa using hm
  have hin:¬k∈names s:=by
   intro h;obtain⟨u,hu,rfl⟩:=E0.1 h;obtain⟨a,ha⟩:=aa5 hu;have hal:=(fU.1 ha).1;have:=h2 a u (by omega) ha
   rw[gG]at this;cases this
  (rw[cZ (aD rfl),aT];simp(disch:=omega)only[aA,↓aa,seval,-List.reduceReplicate,reduceCtorEq,ae,aO,cW,hL',hlt])
  rw[abH.2 fun h=>hin ((Uv s k).1 h)]
def nu:List V2→V2→List V2
 | [],v=>[v]
 |a::r,v=>if a.name=v.name then a::r else if slt v.name a.name=true then v::a::r else a::nu r v
theorem HD:∀(s:List V2) (v:V2),(nu s v).length≤s.length+1
 | [],v=>by simp[nu]
 |a::r,v=>by
  simp only[nu];have:=HD r v;split
  ·simp
  ·split
   ·simp
   ·simp only[lH];omega
theorem XF:∀{s:List V2} {v x:V2},x∈nu s v→x=v∨x∈s
 | [],v,x,h=>by simp[nu]at h;exact .inl h
 |a::r,v,x,h=>by
  simp only[nu]at h;split at h
  ·exact .inr h
  ·split at h
   ·rcases pn.1 h with h|h
    ·exact .inl h
    ·exact .inr h
   ·rcases pn.1 h with h|h
    ·exact .inr (by simp[h])
    ·rcases XF h with h|h
     ·exact .inl h
     ·exact .inr (by simp[h])
theorem DJ:∀{s:List V2} {v:V2},dP s→dP (nu s v)
 | [],v,_=>by simp[nu,dP]
 |a::r,v,h=>by
  have hr:dP r:=(LQ.1 h).2;have ha:=(LQ.1 h).1;simp only[nu];split
  ·exact h
  ·rename_i h1
   split
   ·rename_i h2
    refine LQ.2 ⟨fun x hx=>?_,h⟩
    rcases pn.1 hx with rfl|hx
    ·exact h2
    ·exact tk h2 (ha x hx)
   ·rename_i h2
    refine LQ.2 ⟨fun x hx=>?_,DJ hr⟩
    rcases XF hx with rfl|hx
    ·rcases rU a.name x.name with h|h|h
     ·exact h
     ·exact absurd h h1
     ·exact absurd h h2
    ·exact ha x hx
theorem Uz:∀{s:List V2} {v:V2},dP s→SH s v.name=true→nu s v=s
 | [],v,_,h=>by simp[SH]at h
 |a::r,v,hs,h=>by
  have hr:dP r:=(LQ.1 hs).2;have ha:=(LQ.1 hs).1;simp only[nu];split
  ·rfl
  ·rename_i h1
   have hin:SH r v.name=true:=by
    unfold SH at h ⊢;simp only[ZH,QN,decide_eq_true_eq]at h;rcases h with h|h
    ·exact absurd h h1
    ·exact h
   obtain⟨u,hu,hue⟩:=abB.1 hin;have hlt:=ha u hu;simp only[decide_eq_true_eq]at hue;rw[hue]at hlt;rw[if_neg (by rw[rB hlt];simp),Uz hr hin]
theorem afn:∀{s:List V2} {v:V2} {m:Nat},m≤s.length→(∀i u,i<m→s[i]?=some u→slt u.name v.name=true)→(∀i u,m≤i→s[i]?=some u→slt u.name v.name=false)→SH s v.name=false→nu s v=s.take m++v::s.drop m
 | [],v,m,_,_,_,_=>by simp[nu]
 |a::r,v,0,_,_,h2,h3=>by
  have hne:¬a.name=v.name:=by
   intro h;simp[SH,h]at h3
  have:=h2 0 a (rm _) rfl
  have hlt:slt v.name a.name=true:=by
   rcases rU a.name v.name with h|h|h
   ·rw[h]at this;cases this
   ·exact absurd h hne
   ·exact h
  simp[nu,hne,hlt]
 |a::r,v,m+1,h0,h1,h2,h3=>by
  have hlt:=h1 0 a (by omega) rfl
  have hne:=Kh hlt
  have ih:=afn (s:=r) (v:=v) (m:=m) (by simpa using h0) (fun i u hi hu=>h1 (i+1) u (by omega) (by simpa using hu)) (fun i u hi hu=>h2 (i+1) u (by omega) (by simpa using hu)) (by
   unfold SH at h3 ⊢;simp only[ZH,abv]at h3;exact h3.2)
  simp[nu,hne,rB hlt,ih]
def kW(op:Int)(s:List V2)(u:Term):List V2:=if u.op=op then nu s ⟨u.name,u.w⟩else s
theorem xc{op:Int}{s:List V2}{u:Term}(h:dP s):dP (kW op s u):=by unfold kW;split;exact DJ h;exact h
theorem Nf{op:Int}{s:List V2}{u:Term}:(kW op s u).length≤s.length+1:=by unfold kW;split;exact HD _ _;omega
theorem wu{op:Int}:∀{l:List Term} {s:List V2},dP s→dP (l.foldl (kW op) s)
 | [],s,h=>h
 |a::l,s,h=>wu (l:=l) (s:=kW op s a) (xc h)
theorem Cc{op:Int}:∀{l:List Term} {s:List V2},(l.foldl (kW op) s).length≤s.length+l.length
 | [],s=>by simp
 |a::l,s=>by
  have:=Cc (op:=op) (l:=l) (s:=kW op s a);have:=Nf (op:=op) (s:=s) (u:=a);simp only[QL,lH];omega
theorem lU{S T α:Type}(g:S→α→S):∀(l:List α) (i:Nat) (s:S),aq (T:=T) (fun _ s a=>.inl (g s a)) i s l=.inl (l.foldl g s)
 | [],i,s=>rfl
 |a::l,i,s=>by simp only[aq,QL];exact lU g l (i+1) (g s a)
theorem ap7{n m e:Nat}{rows:List (List PV)}{new:List PV}{o1 o2:Obj}(hn:rows.length=n)(hm:m≤n)(hl:n≤1000000)(he:e=2∨e=0∧rows.isEmpty=true) :
  Fa 2 24 [.sl 0 n,.p (.int .i64 m),.sl 3 1] [.pv e rows false,o1,o2,.pv 2 [new] false]=some (.sl 0 (n+1),[.pv 2 (rows.take m++[new]++rows.drop m) false,o1,o2,.pv 2 [new] false]):=by
 simp only[Fa,QS,aa9,lH,l5,hn,ack,abc];rw[if_pos ⟨trivial,trivial,by omega,he,trivial,by omega,by omega,hm,by omega⟩]
abbrev sV(s:List V2):ag:=[.pv (lK 2 s) (s.map ay) false,.av 1 [[.sl 0 s.length]] false]
theorem YD(op:Int)(t:Term)(hc:t.count≤1000000)(s0:List V2)(hs:dP s0)(hl:s0.length+t.count≤1000000) :
  nk P [19] ew ez (.p (.fn b9 [.ptr t.row 0])) [(2,.p (.ptr [.int .i64 op] 0)),(5,.ptr 1 1 0 0)] (sV s0) 44 none=some (.normal,sV (t.pre.foldl (kW op) s0)):=by
 have h:=Fe (rd:=none) (kept:=[(2,.p (.ptr [.int .i64 op] 0)),(5,.ptr 1 1 0 0)]) (ps:=[19]) (hJ:=ew) (b:=ez) (nt:=44) t hc ⟨rfl,rfl⟩ sV (fun _ s u=>.inl (kW op s u)) (fun(x:Empty)=>nomatch x)
  (fun i s=>dP s∧s.length≤s0.length+i) s0 rfl (fun _=>rfl) (fun x=>nomatch x) (fun s=>by simp only[sV,R6,abS,yu,vK,VZ];rfl) (fun x=>nomatch x) (fun x=>nomatch x) (fun i u s ha hok=>by
   obtain⟨hso,hsl⟩:=hok;have hil:i<t.count:=by have:=(fU.1 ha).1;rw[Term.lX]at this;exact this
   have hlen:=Nf (op:=op) (s:=s) (u:=u);refine⟨fun s' he=>by cases he;exact⟨xc hso,by omega⟩,?_⟩
   simp only[sV,FD,x9];rw[BP rfl ⟨rfl,rfl,rfl⟩];unfold kW;by_cases h1:u.op=op
   rotate_left
   ·simp only[ew,ez,h1,if_false]
    simp(disch:=omega)only[aA,↓aa,seval,-List.reduceReplicate,reduceCtorEq,ae,h1]
   obtain⟨m,m1,m2,m3,hb⟩:=Qd s u.name hso (by omega)
   simp only[h1,if_true];cases hin:SH s u.name with
   |true=>
    rw[hin]at hb;rw[Uz (v:=⟨u.name,u.w⟩) hso hin];simp only[ew,ez];simp(disch:=omega)only[aA,↓aa,seval,-List.reduceReplicate,reduceCtorEq,ae,eq_true h1,eS,aO,hb]
   |false=>
    rw[hin]at hb;have hii:=afn (v:=⟨u.name,u.w⟩) m1 m2 m3 hin;have hpi:=fun o1 o2=>ap7 (n:=s.length) (m:=m) (e:=lK 2 s) (rows:=s.map ay) (new:=[.str u.name,.int .i64 u.w]) (o1:=o1) (o2:=o2) (by simp) m1 (by omega) (by cases s with|nil=>exact .inr ⟨rfl,rfl⟩|cons=>exact .inl rfl)
    have hmap:(nu s ⟨u.name,u.w⟩).map ay=(s.map ay).take m++[[.str u.name,.int .i64 u.w]]++(s.map ay).drop m:=by
     rw[hii,BY,sP,acp,List.map_drop];simp[ay]
    have hlen2:(nu s ⟨u.name,u.w⟩).length=s.length+1:=by rw[hii];simp;omega
    have hes:lK 2 (nu s ⟨u.name,u.w⟩)=2:=by rw[hii];simp[lK]
    simp only[ew,ez];simp(disch:=omega)only[aA,↓aa,seval,-List.reduceReplicate,reduceCtorEq,ae,eq_true h1,eS,aO,hb,uM,hpi,hmap,hlen2,hes]) ⟨hs,rm _⟩
 rw[h,lU];rfl
abbrev ac2(op:Int)(l:List Term)(i:Int):List (Nat×AV):=[(2,.p (.ptr [.int .i64 op] 0)),(5,.ptr 1 1 0 0),(11,.p (.aM (l.map Term.row))),(12,.p (.int .i64 l.length)),(13,.p (.int .i64 i))]
def G3(op:Int)(s:List V2)(t:Term):List V2:=t.pre.foldl (kW op) s
def varsOf(op:Int)(l:List Term):List V2:=l.foldl (G3 op) []
theorem R7{op:Int}:∀{l:List Term} {s:List V2},(l.foldl (G3 op) s).length≤s.length+Term.counts l
 | [],s=>by simp[Term.counts]
 |a::l,s=>by
  have:=R7 (op:=op) (l:=l) (s:=G3 op s a);have:=Cc (op:=op) (l:=a.pre) (s:=s);rw[Term.lX]at this;simp only[QL,Term.counts];unfold G3 at *;omega
theorem xT(op:Int)(l:List Term)(hc:Term.counts l≤500000):R P eo [.int .i64 op,.aM (l.map Term.row)]=some (.aM ((varsOf op l).map ay)):=by
 have hlen:=Term.dJ l
 have h:=lp (P:=P) (nt:=44) (rd:=none) (lv:=[2,5,11,12,13]) (b:=lx) (x:=0) (as:=l) (fun i (_:List V2)=>ac2 op l i) sV (fun _ s t=>G3 op s t)
  (fun s=>⟨dX (tm (ac2 op l l.length)) 14 (.p (.bool false)),sV s,44,none⟩) (fun i s=>dP s∧s.length≤Term.counts (l.take i))
  (fun i t s ha hi hok=>by
   obtain⟨hso,hsl⟩:=hok;have hm:=mi ha;have hac:=Term.cS hm;have h1:=Dz l i t ha;have h2:=yY l (i+1);have hlt:((i:Int)<l.length)=True:=by simpa using hi
   have hr:=YD op t (by omega) s hso (by omega)
   have hal:=Cc (op:=op) (l:=t.pre) (s:=s);rw[Term.lX]at hal;refine⟨⟨wu hso,by unfold G3;omega⟩,?_⟩
   simp only[lx];simp(disch:=omega)only[aA,↓aa,seval,-List.reduceReplicate,reduceCtorEq,ae,hlt,aJ (ax (f:=Term.row) ha) t.aB,iB,iD,Di,hr,ac2,G3]) (fun s hs=>by
   simp only[lx];simp(disch:=omega)only[aA,↓aa,seval,-List.reduceReplicate,reduceCtorEq,ae,kY]) (fun i s=>rfl) [] ⟨List.Pairwise.nil,by simp⟩ _ (lU (G3 op) l 0 [])
 have h':al P pN [(2,.p (.ptr [.int .i64 op] 0)),(5,.ptr 1 1 0 0),(11,.p (.aM (l.map Term.row))),(12,.p (.int .i64 l.length)),(13,.p (.int .i64 0))] [.pv 0 [] false,.av 1 [[.sl 0 0]] false] 44 none=_:=h;simp only[sV]at h'
 (rw[Fx (aD rfl),jD];simp(disch:=omega)only[aA,↓aa,seval,-List.reduceReplicate,reduceCtorEq,ae,DM,h',aO])
 rfl
theorem C7(l:List Term)(hc:Term.counts l≤500000):R P gQ [.aM (l.map Term.row)]=some (.aM ((varsOf 24 l).map ay)):=by
 (rw[Mv (aD rfl),oz];simp(disch:=omega)only[aA,↓aa,seval,-List.reduceReplicate,reduceCtorEq,ae,xR,xT 24 l hc])
theorem EM(l:List Term)(hc:Term.counts l≤500000):R P iW [.aM (l.map Term.row)]=some (.aM ((varsOf 25 l).map ay)):=by
 (rw[PX (aD rfl),pA];simp(disch:=omega)only[aA,↓aa,seval,-List.reduceReplicate,reduceCtorEq,ae,xR,xT 25 l hc])
def tL:Term:=.mk 8 4 0 (bs []) [.mk 24 4 0 (bs [98]) [],.mk 24 4 0 (bs [97]) []]
theorem EO{o w v:Int}{s:ByteArray}(h1 : -9223372036854775808≤o∧o≤9223372036854775807)(h2 : -9223372036854775808≤w∧w≤9223372036854775807)(h3:G0 v)(h4:s.size≤9223372036854775807):ia (.mk o w v s []) :=
 .mk _ h1 h2 h3 h4 (by simp[Term.args]) (by simp[Term.args])
theorem alU(o w v:Int)(as:List Int)(hw : -9223372036854775808≤w∧w≤9223372036854775807) : -9223372036854775808≤(bw o w v as).1∧(bw o w v as).1≤9223372036854775807:=by
 have hget:as.all okW=true→∀n:Nat,0≤as.getD n 0∧as.getD n 0≤64:=by
  intro h n;rw[aaU];cases hg:as[n]? with
  |none=>simp
  |some a=>
   have:=Ca.1 h a (mi hg);simpa[okW]using this
 unfold bw;split
 ·simp
 ·split
  ·simp
  ·rename_i h
   have ha:as.all okW=true:=by simpa using h
   have g0:=hget ha 0;have g1:=hget ha 1;split
   ·unfold qV;split
    ·simp
    ·exact hw
   ·split
    ·unfold pj;split
     ·simp
     ·exact hw
    ·split
     ·exact⟨by omega,by omega⟩
     ·split
      ·split
       ·exact⟨by simp only;omega,by simp only;omega⟩
       ·simp
      ·split
       ·split
        ·exact⟨by simp only;omega,by simp only;omega⟩
        ·simp
       ·split
        ·split
         ·simp
         ·exact⟨by simp only;omega,by simp only;omega⟩
        ·simp
theorem alF:ia zT:=EO (by decide) (by decide) ⟨by decide,by decide⟩ (by decide)
theorem aeV{wd:Int}:∀{l m:List Term},Term.zB wd l=some m→m.length=l.length∧∀(i:Nat) (a b:Term),l[i]?=some a→m[i]?=some b→b=(a.mH wd).1∧(a.mH wd).2=true
 | [],m,h=>by simp only[Term.zB,bI]at h;subst h;simp
 |a::l,m,h=>by
  simp only[Term.zB]at h;split at h
  ·rename_i hk
   obtain⟨m',hm,rfl⟩:=gI.1 h;obtain⟨h1,h2⟩:=aeV hm;refine⟨by simp[h1],fun i x y hx hy=>?_⟩
   cases i with
   |zero=>simp at hx hy;subst hx;subst hy;exact⟨rfl,hk⟩
   |succ i=>exact h2 i x y (by simpa using hx) (by simpa using hy)
  ·cases h
theorem Qz(wd:Int)(hw : -9223372036854775808≤wd∧wd≤9223372036854775807)(t:Term):ia t→ia (t.mH wd).1:=by
 induction t using Term.ind with
 |h t ih=>
 intro ht;by_cases hz:t.args=[]
 ·rw[G5 wd t hz]
  refine EO ht.op ?_ ?_ ht.name
  ·split;exact hw;exact ht.w
  ·split
   ·exact amH wd ht.v
   ·exact ht.v
 ·rw[G6 wd t hz]
  cases hm:Term.zB wd t.args with
  |none=>exact alF
  |some m=>
   obtain⟨h1,h2⟩:=aeV hm;refine .mk _ ht.op (alU _ _ _ _ ht.w) ht.v ht.name (by show m.length≤_;rw[h1];exact ht.len) (fun b hb=>?_)
   obtain⟨i,hi⟩:=aa5 hb;have hil:i<t.args.length:=by rw[←h1];exact(fU.1 hi).1
   have hai:t.args[i]?=some t.args[i]:=oq hil;rw[(h2 i _ b hai hi).1];exact ih _ (Zx hil) (ht.args (Zx hil))
def Fu(v:V2)(s:List V2×Bool)(a:V2):(List V2×Bool) ⊕ Unit :=
 if a.name=v.name then .inr ()else if s.2=false∧slt v.name a.name=true then .inl (s.1++[v,a],true)else .inl (s.1++[a],s.2)
abbrev Hm(l:List V2)(v:V2)(s:List V2×Bool)(i:Int):List (Nat×AV):=[(0,.p (.aM (l.map ay))),(3,.p (.ptr [.str v.name,.int .i64 v.w] 0)),(5,.sl 0 s.1.length),(6,.p (.bool s.2)),(7,.p (.int .i64 i))]
abbrev sJ(s:List V2×Bool):ag:=[.pv 2 (s.1.map ay) false]
def ara(l:List V2)(r:Ex×St):Prop:=r.1=.ret∧r.2.τ.get 4=.p (.aM (l.map ay))
theorem ajY(l:List V2)(v:V2)(hl:l.length≤1000000) :
  nC (fun s=>al P oO (Hm l v ([],false) 0) (sJ ([],false)) 54 none=some (.exit 0,⟨dX (dX (dX (dX (tm (Hm l v s l.length)) 9 (.p (.int .i64 l.length))) 10 (.p (.aM (l.map ay)))) 11 (.p (.int .i64 l.length))) 12 (.p (.bool false)),sJ s,54,none⟩))
   (fun(_:Unit)=>∃r,al P oO (Hm l v ([],false) 0) (sJ ([],false)) 54 none=some r∧ara l r) (aq (fun _ s a=>Fu v s a) 0 ([],false) l):=by
 have h:=er (P:=P) (nt:=54) (rd:=none) (lv:=[0,3,5,6,7]) (b:=l6) (x:=0) (as:=l) (fun i s=>Hm l v s i) sJ (fun _ s a=>Fu v s a)
  (fun s=>⟨dX (dX (dX (dX (tm (Hm l v s l.length)) 9 (.p (.int .i64 l.length))) 10 (.p (.aM (l.map ay)))) 11 (.p (.int .i64 l.length))) 12 (.p (.bool false)),sJ s,54,none⟩) (fun(_:Unit)=>ara l) (fun i s=>s.1.length+(if s.2=true then 0 else 1)≤i+1)
  (fun i a s hu hi hs=>by
   obtain⟨s,d⟩:=s;have hs':s.length≤i+1:=by simp only at hs;split at hs<;>omega
   have hlt:((i:Int)<l.length)=True:=by simpa using hi
   have hui:=fun σ=>aJ (k:=.i64) (es:=2) (σ:=σ) (ax (f:=ay) hu) rfl
   have hap1:=dA (σ:=[.pv 2 (s.map ay) false,.pv 2 [[.str v.name,.int .i64 v.w]] false]) (b:=0) (n:=s.length) (e:=2) (es:=2) (bytes:=24) (rows:=s.map ay) (new:=[[.str v.name,.int .i64 v.w]]) rfl (by simp) (.inl rfl) (by simp only[lH,l5];omega)
   have hap2:=dA (σ:=[.pv 2 (s.map ay++[[.str v.name,.int .i64 v.w]]) false,.pv 2 [[.str v.name,.int .i64 v.w]] false,.pv 2 [[.str a.name,.int .i64 a.w]] false]) (b:=0) (n:=s.length+1) (e:=2) (es:=2) (bytes:=24) (rows:=s.map ay++[[.str v.name,.int .i64 v.w]]) (new:=[[.str a.name,.int .i64 a.w]]) rfl (by simp) (.inl rfl) (by simp only[lH,l5];omega)
   have hap3:=dA (σ:=[.pv 2 (s.map ay) false,.pv 2 [[.str a.name,.int .i64 a.w]] false]) (b:=0) (n:=s.length) (e:=2) (es:=2) (bytes:=24) (rows:=s.map ay) (new:=[[.str a.name,.int .i64 a.w]]) rfl (by simp) (.inl rfl) (by simp only[lH,l5];omega)
   simp only[ay]at hui;unfold Fu;rcases dB (a.name=v.name)with h1|h1
   ·refine⟨fun s' he=>?_,?_⟩
    ·simp only[h1,if_true]at he;cases he
    ·simp only[l6,h1]
     simp(disch:=omega)only[aA,↓aa,seval,-List.reduceReplicate,reduceCtorEq,ae,hlt,hui,aO,h1,Hm,sJ,ara]
   ·cases d with
    |true=>
     refine⟨fun s' he=>?_,?_⟩
     ·simp only[h1,if_false,Nb,false_and,ZI]at he
      subst he;simp only[if_true]at hs;simp only[jE,lH,l5,if_true];omega
     ·simp only[l6,h1]
      simp(disch:=omega)only[aA,↓aa,seval,-List.reduceReplicate,reduceCtorEq,ae,hlt,hui,aO,h1,Hm,sJ,hap3,BY,jE,ay]
    |false=>
     cases h2:slt v.name a.name with
     |true=>
      refine⟨fun s' he=>?_,?_⟩
      ·simp only[h1,if_false,true_and,if_true,ZI]at he
       subst he;simp only[kS,if_false]at hs;simp only[jE,lH,l5,if_true];omega
      ·simp only[l6,h1]
       simp(disch:=omega)only[aA,↓aa,seval,-List.reduceReplicate,reduceCtorEq,ae,hlt,hui,aO,h1,h2,Hm,sJ,hap1,hap2,BY,jE,ay,TA,acq]
     |false=>
      refine⟨fun s' he=>?_,?_⟩
      ·simp only[h1,if_false,kS,and_false,ZI]at he
       subst he;simp only[kS,if_false]at hs;simp only[jE,lH,l5,kS,if_false];omega
      ·simp only[l6,h1]
       simp(disch:=omega)only[aA,↓aa,seval,-List.reduceReplicate,reduceCtorEq,ae,hlt,hui,aO,h1,h2,Hm,sJ,hap3,BY,jE,ay]) (fun s hs=>by
   simp only[l6];simp(disch:=omega)only[aA,↓aa,seval,-List.reduceReplicate,reduceCtorEq,ae,kY,aO]) (fun i s=>rfl) ([],false) (by simp)
 exact h
theorem XG(v:V2):∀(l s:List V2) (i:Nat),SH l v.name=false→aq (fun _ s a=>Fu v s a) i (s,true) l=.inl (s++l,true)
 | [],s,i,_=>by simp[aq]
 |a::r,s,i,h=>by
  unfold SH at h;simp only[ZH,abv,decide_eq_false_iff_not]at h
  have hs:Fu v (s,true) a=.inl (s++[a],true):=by
   unfold Fu;rw[if_neg h.1,if_neg (by simp)]
  simp only[aq,hs];rw[XG v r (s++[a]) (i+1) h.2,TA];rfl
theorem SM(v:V2):∀(l s:List V2) (i:Nat),SH l v.name=false→∃s' d,aq (fun _ s a=>Fu v s a) i (s,false) l=.inl (s',d)∧(if d=true then s' else s'++[v])=s++nu l v
 | [],s,i,_=>⟨s,false,rfl,by simp[nu]⟩
 |a::r,s,i,h=>by
  have h0:=h;unfold SH at h;simp only[ZH,abv,decide_eq_false_iff_not]at h;cases hlt:slt v.name a.name with
  |true=>
   have hs:Fu v (s,false) a=.inl (s++[v,a],true):=by
    unfold Fu;rw[if_neg h.1,if_pos ⟨rfl,hlt⟩]
   refine⟨s++[v,a]++r,true,?_,by simp[nu,h.1,hlt]⟩
   simp only[aq,hs];exact XG v r (s++[v,a]) (i+1) h.2
  |false=>
   have hs:Fu v (s,false) a=.inl (s++[a],false):=by
    unfold Fu;rw[if_neg h.1,if_neg (by simp[hlt])]
   obtain⟨s',d,k1,k2⟩:=SM v r (s++[a]) (i+1) h.2;refine⟨s',d,?_,?_⟩
   ·simp only[aq,hs];exact k1
   ·rw[k2];simp[nu,h.1,hlt]
theorem afp(v:V2):∀(l:List V2) (s:List V2×Bool) (i:Nat),SH l v.name=true→aq (fun _ s a=>Fu v s a) i s l=.inr ()
 | [],s,i,h=>by simp[SH]at h
 |a::r,s,i,h=>by
  by_cases h1:decide (a.name=v.name)=true
  ·have h1:=of_decide_eq_true h1
   have hs:Fu v s a=.inr ():=by unfold Fu;rw[if_pos h1]
   simp only[aq,hs]
  ·have hr:SH r v.name=true:=by
    unfold SH at h ⊢;rw[ZH]at h;rcases(QN _ _).mp h with h|h
    ·exact absurd h h1
    ·exact h
   have h1:¬a.name=v.name:=by simpa using h1
   obtain⟨s2,hs⟩:∃s2,Fu v s a=.inl s2:=by
    unfold Fu;rw[if_neg h1];split
    ·exact⟨_,rfl⟩
    ·exact⟨_,rfl⟩
   simp only[aq,hs];exact afp v r s2 (i+1) hr
theorem Vk(l:List V2)(v:V2)(hs:dP l)(hl:l.length≤1000000):R P oe [.aM (l.map ay),.agg [.str v.name,.int .i64 v.w]]=some (.aM ((nu l v).map ay)):=by
 have hL:=ajY l v hl;cases hin:SH l v.name with
 |true=>
  rw[afp v l _ 0 hin]at hL;rw[Uz hs hin];obtain⟨⟨e,τ',σ',nt',rd'⟩,k1,k2,k3⟩:=hL
  simp only at k2 k3
  subst k2;have hL':al P oO [(0,.p (.aM (l.map ay))),(3,.p (.ptr [.str v.name,.int .i64 v.w] 0)),(5,.sl 0 0),(6,.p (.bool false)),(7,.p (.int .i64 0))] [.pv 2 [] false] 54 none=some (.ret,⟨τ',σ',nt',rd'⟩):=k1
  (rw[Cz (aD rfl),nU];simp(disch:=omega)only[aA,↓aa,seval,-List.reduceReplicate,reduceCtorEq,ae,AT,hL',k3])
 |false=>
  obtain⟨s',d,h1,h2⟩:=SM v l [] 0 hin;rw[h1]at hL;have hL':al P oO [(0,.p (.aM (l.map ay))),(3,.p (.ptr [.str v.name,.int .i64 v.w] 0)),(5,.sl 0 0),(6,.p (.bool false)),(7,.p (.int .i64 0))] [.pv 2 [] false] 54 none=_:=hL;rw[x9]at h2;have hil:=HD l v;rw[←h2]at hil ⊢;cases d with
  |true=>
   simp only[if_true]
   (rw[Cz (aD rfl),nU];simp(disch:=omega)only[aA,↓aa,seval,-List.reduceReplicate,reduceCtorEq,ae,AT,hL',aO])
  |false=>
   simp only[kS,if_false,jE,lH,l5]at hil ⊢;have hap:=dA (σ:=[.pv 2 (s'.map ay) false,.pv 2 [[.str v.name,.int .i64 v.w]] false]) (b:=0) (n:=s'.length) (e:=2) (es:=2) (bytes:=24) (rows:=s'.map ay) (new:=[[.str v.name,.int .i64 v.w]]) rfl (by simp) (.inl rfl) (by simp only[lH,l5];omega)
   (rw[Cz (aD rfl),nU];simp(disch:=omega)only[aA,↓aa,seval,-List.reduceReplicate,reduceCtorEq,ae,AT,hL',aO,hap,BY,jE,ay])
def Kj:Option (List V2)→List V2
 |none=>[]
 |some s=>s
def Nd(op:Int)(s:Option (List V2))(u:Term):Option (List V2):=if u.op=op then some (nu (Kj s) ⟨u.name,u.w⟩)else s
def ZO:Option (List V2)→AV
 |none=>.sl 0 0
 |some s=>.p (.aM (s.map ay))
def sO:Option (List V2)→ag
 |none=>[.pv 2 [] false]
 |some _=>[.pv 2 [] true]
theorem Zj{op:Int}{s:Option (List V2)}{u:Term}:Kj (Nd op s u)=kW op (Kj s) u:=by
 unfold Nd kW;split<;>rfl
theorem Tp{op:Int}:∀(l:List Term) (s:Option (List V2)),Kj (l.foldl (Nd op) s)=l.foldl (kW op) (Kj s)
 | [],s=>rfl
 |a::l,s=>by simp only[QL];rw[Tp l,Zj]
theorem ajk{rows:List (List PV)}:PV.flat (.aM rows)=rows.isEmpty:=by simp[PV.flat]
abbrev agK(op:Int)(l:List Term)(i:Int)(pre:List Term)(s:Option (List V2))(j:Int):List (Nat×AV):=[(0,.p (.int .i64 op)),(1,.p (.aM (l.map Term.row))),(5,ZO s),(6,.p (.int .i64 i)),(7,.p (.aM (pre.map Term.row))),(8,.p (.int .i64 j))]
theorem am2(op:Int)(l:List Term)(i:Int)(pre:List Term)(s0:Option (List V2))(hs:dP (Kj s0))(hl:(Kj s0).length+pre.length≤1000000) :
  al P Dp (agK op l i pre s0 0) (sO s0) 48 none=some (.exit 2,⟨dX (dX (dX (dX (tm (agK op l i pre (pre.foldl (Nd op) s0) pre.length)) 21 (.p (.int .i64 pre.length))) 22 (.p (.aM (pre.map Term.row)))) 23 (.p (.int .i64 pre.length))) 24 (.p (.bool false)),sO (pre.foldl (Nd op) s0),48,none⟩):=by
 have h:=lp (P:=P) (nt:=48) (rd:=none) (lv:=[0,1,5,6,7,8]) (b:=sB) (x:=2) (as:=pre) (fun j s=>agK op l i pre s j) sO (fun _ s t=>Nd op s t)
  (fun s=>⟨dX (dX (dX (dX (tm (agK op l i pre s pre.length)) 21 (.p (.int .i64 pre.length))) 22 (.p (.aM (pre.map Term.row)))) 23 (.p (.int .i64 pre.length))) 24 (.p (.bool false)),sO s,48,none⟩) (fun j s=>dP (Kj s)∧(Kj s).length≤(Kj s0).length+j)
  (fun j u s hu hj hok=>by
   obtain⟨hso,hsl⟩:=hok;have hlt:((j:Int)<pre.length)=True:=by simpa using hj
   have hui:=fun σ=>aJ (k:=.i64) (es:=5) (σ:=σ) (ax (f:=Term.row) hu) u.aB
   have hal:=Nf (op:=op) (s:=Kj s) (u:=u);refine⟨by rw[Zj];exact⟨xc hso,by omega⟩,?_⟩
   have hin:=Vk (Kj s) ⟨u.name,u.w⟩ hso (by omega)
   unfold Nd;rcases dB (u.op=op)with h1|h1
   ·cases s with
    |none=>
     simp only[Kj,nu,sP,Cb,ay]at hin;simp only[sB,h1];simp(disch:=omega)only[aA,↓aa,seval,-List.reduceReplicate,reduceCtorEq,ae,hlt,hui,aO,h1,ZO,sO,IJ,hin,Kj,nu,ay,ajk,List.isEmpty_cons,Pz,Es]
     rfl
    |some s=>
     simp only[Kj]at hin;simp only[sB,h1];simp(disch:=omega)only[aA,↓aa,seval,-List.reduceReplicate,reduceCtorEq,ae,hlt,hui,aO,h1,ZO,sO,IJ,hin,Kj]
     rfl
   ·simp only[sB,h1]
    cases s with
    |none=>
     simp(disch:=omega)only[aA,↓aa,seval,-List.reduceReplicate,reduceCtorEq,ae,hlt,hui,aO,h1,ZO,sO]
     rfl
    |some s=>
     simp(disch:=omega)only[aA,↓aa,seval,-List.reduceReplicate,reduceCtorEq,ae,hlt,hui,aO,h1,ZO,sO]
     rfl) (fun s hs=>by
   simp only[sB];cases s with
   |none=>simp(disch:=omega)only[aA,↓aa,seval,-List.reduceReplicate,reduceCtorEq,ae,kY,aO,ZO,sO]
   |some s=>simp(disch:=omega)only[aA,↓aa,seval,-List.reduceReplicate,reduceCtorEq,ae,kY,aO,ZO,sO]) (fun i s=>rfl) s0 ⟨hs,by omega⟩ _ (lU (Nd op) pre 0 s0)
 exact h
abbrev ai5(op:Int)(l:List Term)(s:Option (List V2))(i:Int):List (Nat×AV):=[(0,.p (.int .i64 op)),(1,.p (.aM (l.map Term.row))),(5,ZO s),(6,.p (.int .i64 i))]
def VO(op:Int)(s:Option (List V2))(t:Term):Option (List V2):=t.pre.foldl (Nd op) s
theorem Zk{op:Int}{s:Option (List V2)}{t:Term}:Kj (VO op s t)=G3 op (Kj s) t:=Tp t.pre s
theorem alD{op:Int}:∀(l:List Term) (s:Option (List V2)),Kj (l.foldl (VO op) s)=l.foldl (G3 op) (Kj s)
 | [],s=>rfl
 |a::l,s=>by simp only[QL];rw[alD l,Zk]
theorem am1(op:Int)(l:List Term)(hc:Term.counts l≤500000) :
  al P Dn (ai5 op l none 0) (sO none) 48 none=some (.exit 0,⟨dX (dX (dX (dX (tm (ai5 op l (l.foldl (VO op) none) l.length)) 10 (.p (.int .i64 l.length))) 11 (.p (.aM (l.map Term.row)))) 12 (.p (.int .i64 l.length))) 13 (.p (.bool false)),sO (l.foldl (VO op) none),48,none⟩):=by
 have hlen:=Term.dJ l
 have h:=lp (P:=P) (nt:=48) (rd:=none) (lv:=[0,1,5,6]) (b:=wJ) (x:=0) (as:=l) (fun i s=>ai5 op l s i) sO (fun _ s t=>VO op s t)
  (fun s=>⟨dX (dX (dX (dX (tm (ai5 op l s l.length)) 10 (.p (.int .i64 l.length))) 11 (.p (.aM (l.map Term.row)))) 12 (.p (.int .i64 l.length))) 13 (.p (.bool false)),sO s,48,none⟩) (fun i s=>dP (Kj s)∧(Kj s).length≤Term.counts (l.take i))
  (fun i t s ha hi hok=>by
   obtain⟨hso,hsl⟩:=hok;have hm:=mi ha;have hac:=Term.cS hm;have h1:=Dz l i t ha;have h2:=yY l (i+1);have hlt:((i:Int)<l.length)=True:=by simpa using hi
   have hui:=fun σ=>aJ (k:=.i64) (es:=5) (σ:=σ) (ax (f:=Term.row) ha) t.aB
   have hal:=Cc (op:=op) (l:=t.pre) (s:=Kj s);rw[Term.lX]at hal;refine⟨by rw[Zk];exact⟨wu hso,by unfold G3;omega⟩,?_⟩
   have hp:=uJ t (by omega)
   have hL:=am2 op l i t.pre s hso (by rw[Term.lX];omega)
   unfold VO;cases s with
   |none=>
    simp only[agK,ZO,sO]at hL;simp only[wJ];simp(disch:=omega)only[aA,↓aa,seval,-List.reduceReplicate,reduceCtorEq,ae,hlt,hui,aO,ZO,sO,gC,hp,KK,hL]
    cases t.pre.foldl (Nd op) none<;>rfl
   |some s=>
    simp only[agK,ZO,sO]at hL;simp only[wJ];simp(disch:=omega)only[aA,↓aa,seval,-List.reduceReplicate,reduceCtorEq,ae,hlt,hui,aO,ZO,sO,gC,hp,KK,hL]
    cases t.pre.foldl (Nd op) (some s)<;>rfl) (fun s hs=>by
   simp only[wJ];cases s with
   |none=>simp(disch:=omega)only[aA,↓aa,seval,-List.reduceReplicate,reduceCtorEq,ae,kY,aO,ZO,sO]
   |some s=>simp(disch:=omega)only[aA,↓aa,seval,-List.reduceReplicate,reduceCtorEq,ae,kY,aO,ZO,sO]) (fun i s=>rfl) none ⟨List.Pairwise.nil,by simp[Kj]⟩ _ (lU (VO op) l 0 none)
 exact h
theorem Qj(op:Int)(l:List Term)(hc:Term.counts l≤500000):R P qe [.int .i64 op,.aM (l.map Term.row)]=some (.aM ((varsOf op l).map ay)):=by
 have hL:=am1 op l hc;have ht:=alD (op:=op) l none;simp only[ai5,ZO,sO]at hL;unfold varsOf;rw[←show Kj none=([]:List V2)from rfl,←ht];cases hr:l.foldl (VO op) none with
 |none=>
  rw[hr]at hL
  simp only at hL
  (rw[P0 (aD rfl),vd];simp(disch:=omega)only[aA,↓aa,seval,-List.reduceReplicate,reduceCtorEq,ae,KH,hL,Kj,Pz,Es])
 |some s=>
  rw[hr]at hL
  simp only at hL
  (rw[P0 (aD rfl),vd];simp(disch:=omega)only[aA,↓aa,seval,-List.reduceReplicate,reduceCtorEq,ae,KH,hL,Kj])
end Go.AE.S
namespace Go.AE
namespace Term
def ES(o:Int):Int:=if o=24∨o=25 then 1 else o
mutual
def kX:Term→Term
 |.mk o w v s []=>.mk (ES o) w v s []
 |.mk o w v s [a]=>if o=26 then kX a else .mk (ES o) w v s [kX a]
 |.mk o w v s (a::b::as)=>.mk (ES o) w v s (kX a::kX b::cM as)
def cM:List Term→List Term
 | []=>[]
 |a::as=>kX a::cM as
end
theorem Tr:∀l:List Term,cM l=l.map kX
 | []=>rfl
 |a::l=>by rw[cM,Tr l];rfl
theorem QD(t:Term)(a:Term)(ho:t.op=26)(ha:t.args=[a]):t.kX=a.kX:=by
 cases t with|mk o w v s as=>simp only[Term.op,Term.args]at ho ha;subst ho;subst ha;rw[kX];rfl
theorem QE(t:Term)(h:¬(t.op=26∧t.args.length=1)):t.kX=.mk (ES t.op) t.w t.v t.name (t.args.map kX):=by
 cases t with
 |mk o w v s as=>
  simp only[Term.op,Term.args]at h
  match as,h with
  | [],_=>rw[kX];rfl
  | [a],h=>
   have ho:¬o=26:=fun e=>h ⟨e,rfl⟩
   rw[kX,if_neg ho];rfl
  |a::b::as,_=>rw[kX,Tr];rfl
end Term
end Go.AE
namespace Go.AE.S
open Go Go.AE
variable {τ:Tm} {σ:ag} {rd:Option Nat}
abbrev sW(t:Term)(s:List Term):ag:=[.pv 0 [] false,.av 5 [z5 0] false,.pv (lK 5 s) (s.map Term.row) false,.av 5 [[.p (.int .i64 (Term.ES t.op)),.p (.int .i64 t.w),.p (.int .u64 t.v),.p (.str t.name),.sl 2 s.length]] false]
abbrev afa(t:Term)(i:Int):List (Nat×AV):=[(2,.ptr 1 1 0 0),(3,.ptr 3 1 0 0),(34,.p (.aM (t.args.map Term.row))),(35,.p (.int .i64 t.args.length)),(36,.p (.int .i64 i))]
theorem Oy{α β:Type}(g:α→β):∀(l:List α) (s:List β),l.foldl (fun s a=>s++[g a]) s=s++l.map g
 | [],s=>by simp
 |a::l,s=>by rw[QL,Oy g l];simp
theorem jJ(t:Term):ia t→t.count≤1000000→R P bR [.agg t.row]=some (.agg t.kX.row):=by
 induction t using Term.ind with
 |h t ih=>
 intro ht hc;have hlen:=Term.dJ t.args;have hct:=Term.count_eq t;by_cases h1:t.op=26∧t.args.length=1
 ·obtain⟨ho,hl⟩:=h1
  obtain⟨a,ha⟩:=List.length_eq_one_iff.1 hl;have hm:a∈t.args:=by rw[ha];simp
  have hr:=ih a hm (ht.args hm) (by have:=Term.cS hm;omega)
  rw[Term.QD t a ho ha];have hi:∀σ,jS σ 5 (.p (.aM (t.args.map Term.row))) (.p (.int .i64 0))=some (.p (.ptr a.row 0)):=fun σ=>aJ (k:=.i64) (es:=5) (σ:=σ) (i:=0) (rows:=t.args.map Term.row) (r:=a.row) (by rw[ha];rfl) a.aB
  have hl':((t.args.length:Nat):Int)=1:=by rw[hl];rfl
  (rw[xS (aD rfl),gH];simp(disch:=omega)only[aA,↓aa,seval,-List.reduceReplicate,reduceCtorEq,ae,aO,eq_true ho,eq_true hl',hi,jI,hr])
 ·have h:=lp (P:=P) (nt:=49) (rd:=none) (lv:=[2,3,34,35,36]) (b:=lu) (x:=0) (as:=t.args) (fun i (_:List Term)=>afa t i) (sW t) (fun _ s a=>s++[a.kX])
   (fun s=>⟨dX (tm (afa t t.args.length)) 37 (.p (.bool false)),sW t s,49,none⟩) (fun i s=>s.length=i)
   (fun i a s ha hi hs=>by
    have hm:=mi ha;have hac:=Term.cS hm;have hr:=ih a hm (ht.args hm) (by omega)
    have hlt:((i:Int)<t.args.length)=True:=by simpa using hi
    have hap:=dA (σ:=sW t s++[.pv 5 [a.kX.row] false]) (b:=2) (n:=s.length) (e:=lK 5 s) (es:=5) (bytes:=64) (rows:=s.map Term.row) (new:=[a.kX.row]) rfl (by simp) (qO _ _ _) (by simp only[lH,l5];omega)
    simp only[sW,z5,FD,x9]at hap;refine⟨by simp[hs],?_⟩
    simp only[lu];simp(disch:=omega)only[aA,↓aa,seval,-List.reduceReplicate,reduceCtorEq,ae,hlt,aJ (ax (f:=Term.row) ha) a.aB,jI,hr,sW,z5,hap,BY,jE,jd,afa]) (fun s hs=>by
    simp only[lu];simp(disch:=omega)only[aA,↓aa,seval,-List.reduceReplicate,reduceCtorEq,ae,kY]) (fun i s=>rfl) [] (by simp) _ (lU _ t.args 0 [])
  rw[Oy,x9]at h;rw[Term.QE t h1];have hv:=bD t.op;have h':al P pM (afa t 0) [.pv 0 [] false,.av 5 [z5 0] false,.pv 0 [] false,.av 5 [[.p (.int .i64 (Term.ES t.op)),.p (.int .i64 t.w),.p (.int .u64 t.v),.p (.str t.name),.sl 2 0]] false] 49 none=_:=h;simp only[z5,sW,aO]at h';rcases dB (t.op=26)with h2|h2<;>rcases dB (((t.args.length:Nat):Int)=1)with h3|h3<;>by_cases h4:t.op=24∨t.op=25<;>simp only[Term.ES,h4,if_true,if_false]at h' <;>
  (rw[xS (aD rfl),gH];simp(disch:=omega)only[aA,↓aa,seval,-List.reduceReplicate,reduceCtorEq,ae,aO,h2,h3,h4,bj,hv,DL,h'])<;>first|(exfalso;exact h1 ⟨of_eq_true h2,by have:=of_eq_true h3;omega⟩)|simp[Term.row,Term.CE,Term.ES,h4]
def agw(a b:Int):Int:=if a<b then -1 else if b<a then 1 else 0
end Go.AE.S
namespace Go.AE
namespace Term
end Term
end Go.AE
namespace Go.AE.S
open Go Go.AE
variable {τ:Tm} {σ:ag} {rd:Option Nat}
theorem af4{as bs:List Term}{i:Nat}{a b:Term}(h:(as.zip bs)[i]?=some (a,b)):as[i]?=some a∧bs[i]?=some b:=by
 rw[List.getElem?_zip_eq_some]at h;exact h
theorem Jf(t:Term):ia t→ia t.kX:=by
 induction t using Term.ind with
 |h t ih=>
 intro ht;by_cases h1:t.op=26∧t.args.length=1
 ·obtain⟨ho,hl⟩:=h1
  obtain⟨a,ha⟩:=List.length_eq_one_iff.1 hl;rw[Term.QD t a ho ha];exact ih a (by rw[ha];simp) (ht.args (by rw[ha];simp))
 ·rw[Term.QE t h1]
  refine .mk _ ?_ ht.w ht.v ht.name (by show(t.args.map Term.kX).length≤_;rw[aO];exact ht.len) (fun b hb=>?_)
  ·have:=ht.op
   show -9223372036854775808≤Term.ES t.op∧Term.ES t.op≤9223372036854775807;unfold Term.ES;split
   ·omega
   ·exact this
  ·obtain⟨a,ha,rfl⟩:=E0.1 hb
   exact ih a ha (ht.args ha)
theorem lV{u t:Term}:u∈t.pre↔u=t∨∃a∈t.args,u∈a.pre:=by
 rw[Term.sx,Term.Ap,pn,Jp]
theorem jG(t:Term):∀u,u∈t.post↔u∈t.pre:=by
 induction t using Term.ind with
 |h t ih=>
 intro u;rw[lV,Term.An,Term.IC,BZ,Jp];constructor
 ·rintro(⟨a,ha,h⟩|h)
  ·exact .inr ⟨a,ha,(ih a ha u).1 h⟩
  ·simp at h;exact .inl h
 ·rintro(h|⟨a,ha,h⟩)
  ·right;simp[h]
  ·exact .inl ⟨a,ha,(ih a ha u).2 h⟩
theorem Gs(ev:Bool):∀l:List Term,fh ev l=0↔∀u∈l,fI u ev=0
 | []=>by simp[fh]
 |a::l=>by
  simp only[fh,List.forall_mem_cons];by_cases h:fI a ev=0
  ·simp only[h,if_true,true_and];exact Gs ev l
  ·simp[h]
theorem j3{p:Term}{ev:Bool}(h:cB p ev=0):∀u∈p.pre,fI u ev=0:=by
 unfold cB at h;split at h
 ·cases h
 ·split at h
  ·rename_i h1;exact absurd h h1
  ·rename_i h1
   intro u hu;exact(Gs ev p.post).1 (by simpa using h1) u ((jG p u).2 hu)
theorem ads{u:Term}{ev:Bool}(h:fI u ev=0):(u.args.length:Int)=arity u.op:=by
 unfold fI at h;split at h
 ·cases h
 ·rename_i h1
  simp only[not_or]at h1;exact VD.1 h1.2.2.2
def Ev1(t:Term):Prop:=∀u∈t.pre,u.op=26→u.args.length=1
def Grd(t:Term):Prop:=∀u∈t.pre,¬u.op∈[24,25,(26:Int)]
theorem Ev1.args{t a:Term}(h:Ev1 t)(ha:a∈t.args):Ev1 a:=fun u hu=>h u (lV.2 (.inr ⟨a,ha,hu⟩))
theorem Grd.args{t a:Term}(h:Grd t)(ha:a∈t.args):Grd a:=fun u hu=>h u (lV.2 (.inr ⟨a,ha,hu⟩))
theorem BU{t:Term}:t∈t.pre:=lV.2 (.inl rfl)
theorem BV(t:Term):t.kX.count≤t.count:=by
 induction t using Term.ind with
 |h t ih=>
 by_cases h1:t.op=26∧t.args.length=1
 ·obtain⟨ho,hl⟩:=h1
  obtain⟨a,ha⟩:=List.length_eq_one_iff.1 hl;rw[Term.QD t a ho ha,Term.count_eq t,ha];have:=ih a (by rw[ha];simp)
  simp only[Term.counts];omega
 ·rw[Term.QE t h1,Term.count_eq t,Term.count_eq]
  have:∀l:List Term,(∀a∈l,a.kX.count≤a.count)→Term.counts (l.map Term.kX)≤Term.counts l:=by
   intro l
   induction l with
   |nil=>intro _;exact rm _
   |cons a l ih2=>
    intro hl;have:=hl a (by simp)
    have:=ih2 fun b hb=>hl b (by simp[hb])
    simp only[sP,Term.counts];omega
  have:=this t.args ih;show 1+Term.counts (t.args.map Term.kX)≤_;omega
theorem afz{u:Term}{ev:Bool}(h:fI u ev=0):(¬(arity u.op<0∨u.op=1∨(u.op=26∧ev=false)∨¬(u.args.length:Int)=arity u.op)) ∧
  ¬((¬u.name=bs []∧¬(u.op=24∨u.op=25))∨(¬u.v=0∧¬u.op=2∧¬u.op=21))∧¬((u.op=24∨u.op=25)∧iA u.name=false) ∧
  bw u.op u.w u.v (u.args.map Term.w)=(u.w,0)∧¬(u.op=26∧inner u=true):=by
 unfold fI at h;split at h
 ·cases h
 rename_i h1;split at h
 ·cases h
 rename_i h2;split at h
 ·cases h
 rename_i h3;split at h
 ·cases h
 rename_i h4;split at h
 ·cases h
 rename_i h5;simp only[not_or,VD]at h4;exact⟨h1,h2,h3,Prod.ext h4.2 h4.1,h5⟩
theorem afB{u:Term}{ev:Bool}(h1:¬(arity u.op<0∨u.op=1∨(u.op=26∧ev=false)∨¬(u.args.length:Int)=arity u.op))
  (h2:¬((¬u.name=bs []∧¬(u.op=24∨u.op=25))∨(¬u.v=0∧¬u.op=2∧¬u.op=21))) (h3:¬((u.op=24∨u.op=25)∧iA u.name=false))
  (h4:bw u.op u.w u.v (u.args.map Term.w)=(u.w,0)) (h5:¬(u.op=26∧inner u=true)):fI u ev=0:=by
 unfold fI;rw[if_neg h1,if_neg h2,if_neg h3,if_neg (by rw[h4];simp),if_neg h5]
theorem VB{o w v n:Int}{as:List Int}(h0:¬as=[])(h:bw o w v as=(n,0))(ha:∀a∈as,1≤a):bw o n v as=(n,0)∧1≤n:=by
 have hget:∀k:Nat,k<as.length→1≤as.getD k 0:=by
  intro k hk;rw[aaU,oq hk];exact ha _ (Zx hk)
 have hl0:as.length≠0:=by cases as with|nil=>exact absurd rfl h0|cons=>simp
 unfold bw at h ⊢;split at h
 ·cases h
 rename_i h1;rw[if_neg h1];split at h
 ·cases h
 rename_i h2;rw[if_neg h2];split at h
 ·omega
 rename_i h3;rw[if_neg h3];simp only[not_or,VD]at h1;split at h
 ·rename_i h4
  rw[if_pos h4];unfold pj at h ⊢;split at h
  ·cases h
  ·rename_i h5
   cases h;rw[if_neg h5];exact⟨rfl,by omega⟩
 rename_i h4;rw[if_neg h4];split at h
 ·rename_i h5
  rw[if_pos h5];cases h;exact⟨rfl,hget 0 (by omega)⟩
 rename_i h5;rw[if_neg h5];have a2:∀{o:Int},¬arity o<0→¬arity o=0→¬arity o=1→2≤arity o:=by intro o;omega
 have hl2:=a2 h1.1 h3 h5;split at h
 ·rename_i h6
  rw[if_pos h6];split at h
  ·rename_i h7
   rw[if_pos h7];cases h;exact⟨rfl,by omega⟩
  ·cases h
 rename_i h6;rw[if_neg h6];split at h
 ·rename_i h7
  rw[if_pos h7];split at h
  ·rename_i h8
   rw[if_pos h8];cases h;exact⟨rfl,hget 1 (by omega)⟩
  ·cases h
 rename_i h7;rw[if_neg h7];split at h
 ·rename_i h8
  rw[if_pos h8];split at h
  ·rename_i h9
   rw[if_pos h9];cases h;exact⟨rfl,by omega⟩
  ·rename_i h9
   rw[if_neg h9];cases h;exact⟨rfl,hget 0 (by omega)⟩
 ·cases h
def ait(wd:Int)(a b:Term):Prop:=b.op=a.op∧b.name=a.name∧(isVar a=true→b.w=if a.w=0 then wd else a.w)
def mh(wd:Int):List Term→List Term→Prop
 | [],[]=>True
 |a::l,b::m=>ait wd a b∧mh wd l m
 |_,_=>False
theorem mh.append{wd:Int}:∀{l m l' m':List Term},mh wd l m→mh wd l' m'→mh wd (l++l') (m++m')
 | [],[],_,_,_,h=>h
 |a::l,b::m,_,_,h,h'=>⟨h.1,mh.append h.2 h'⟩
theorem mh.len{wd:Int}:∀{l m:List Term},mh wd l m→m.length=l.length
 | [],[],_=>rfl
 |a::l,b::m,h=>by simp[mh.len h.2]
theorem mh.any{wd:Int}(q:Int→Bool):∀{l m:List Term},mh wd l m→(m.any fun u=>q u.op)=l.any fun u=>q u.op
 | [],[],_=>rfl
 |a::l,b::m,h=>by simp only[ZH];rw[mh.any q h.2,h.1.1]
structure ase (wd:Int) (ev:Bool) (t q:Term):Prop where
 nodes:∀u∈q.pre,fI u ev=0∧1≤u.w
 rel:mh wd t.pre q.pre
 deep:q.deep=t.deep
theorem aiH{wd:Int}{ev:Bool}:∀{l m:List Term},Term.zB wd l=some m→(∀a∈l,(a.mH wd).2=true→ase wd ev a (a.mH wd).1) →
  (∀b∈m,∀u∈b.pre,fI u ev=0∧1≤u.w)∧mh wd (l.flatMap Term.pre) (m.flatMap Term.pre)∧Term.ib m=Term.ib l∧m.length=l.length ∧
  (∀a,l.head?=some a→∃b,m.head?=some b∧mh wd a.pre b.pre)
 | [],m,h,_=>by simp only[Term.zB,bI]at h;subst h;simp[mh]
 |a::l,m,h,hall=>by
  simp only[Term.zB]at h;split at h
  ·rename_i hk
   obtain⟨m',hm,rfl⟩:=gI.1 h;obtain⟨i1,i2,i3,i4,i5⟩:=aiH hm fun b hb=>hall b (by simp[hb])
   have ha:=hall a (by simp) hk
   refine⟨?_,?_,?_,by simp[i4],?_⟩
   ·intro b hb
    rcases pn.1 hb with rfl|hb
    ·exact ha.nodes
    ·exact i1 b hb
   ·simp only[VF];exact ha.rel.append i2
   ·simp only[Term.ib];rw[ha.deep,i3]
   ·intro c hc
    simp only[List.head?_cons,bI]at hc;subst hc;exact⟨_,rfl,ha.rel⟩
  ·cases h
theorem aj2{wd v:Int}(h1:1≤wd)(h2:wd≤64):Mc wd v<2^wd.toNat:=by
 unfold Mc;have hc:fM wd=wd:=by unfold fM;omega
 rw[hc];have:v.toNat % 2^wd.toNat<2^wd.toNat:=QO _ (Nc (by omega))
 exact_mod_cast this
theorem aiF(wd:Int)(hwd:1≤wd∧wd≤64)(ev:Bool)(t:Term):(∀u∈t.pre,fI u ev=0)→(t.mH wd).2=true→ase wd ev t (t.mH wd).1:=by
 induction t using Term.ind with
 |h t ih=>
 intro hn hk;obtain⟨g1,g2,g3,g4,g5⟩:=afz (hn t BU);by_cases hz:t.args=[]
 ·rw[G5 wd t hz]
  have har:arity t.op=0:=by
   simp only[not_or,VD]at g1;rw[←g1.2.2.2,hz];rfl
  have hl:qV t.op t.w t.v=(t.w,0):=by
   rw[←g4,hz];unfold bw;rw[if_neg (by rw[har];simp),if_neg (by simp),if_pos har]
  have hlw:0≤t.w∧t.w≤64∧(t.op=2→0<t.w→t.v<2^t.w.toNat):=by
   unfold qV at hl;split at hl
   ·exact absurd (show(3:Int)=0 from congrArg Prod.snd hl) (by decide)
   ·rename_i h
    refine⟨by omega,by omega,fun h1 h2=>?_⟩
    exact Int.not_le.1 fun h3=>h (.inr ⟨h1,h2,h3⟩)
  have hpre:Term.pre (.mk t.op (if t.w=0 then wd else t.w) (if t.w=0∧t.op=2 then Mc wd t.v else t.v) t.name [])=[.mk t.op (if t.w=0 then wd else t.w) (if t.w=0∧t.op=2 then Mc wd t.v else t.v) t.name []]:=by
   rw[Term.sx];rfl
  refine⟨?_,?_,?_⟩
  ·rw[hpre]
   intro u hu;rw[Gg]at hu;subst hu;refine⟨afB ?_ ?_ g3 ?_ ?_,?_⟩
   ·show ¬(arity t.op<0∨t.op=1∨(t.op=26∧ev=false)∨¬(([]:List Term).length:Int)=arity t.op)
    rw[←hz];exact g1
   ·show ¬((¬t.name=bs []∧¬(t.op=24∨t.op=25))∨(¬(if t.w=0∧t.op=2 then Mc wd t.v else t.v)=0∧¬t.op=2∧¬t.op=21))
    by_cases h2:t.op=2
    ·simp only[not_or]at g2 ⊢
     exact⟨g2.1,fun h=>h.2.1 h2⟩
    ·rw[if_neg (fun h=>h2 h.2)];exact g2
   ·show bw t.op (if t.w=0 then wd else t.w) (if t.w=0∧t.op=2 then Mc wd t.v else t.v) []=_
    unfold bw;rw[if_neg (by rw[har];simp),if_neg (by simp),if_pos har]
    unfold qV;rw[if_neg]
    ·rfl
    by_cases h0:t.w=0
    ·rw[if_pos h0]
     rintro(h|⟨h1,h2,h3⟩)
     ·omega
     ·rw[if_pos ⟨h0,h1⟩]at h3
      have:=aj2 (v:=t.v) hwd.1 hwd.2;omega
    ·rw[if_neg h0,if_neg (fun h=>h0 h.1)]
     rintro(h|⟨h1,h2,h3⟩)
     ·omega
     ·have:=hlw.2.2 h1 h2
      omega
   ·rintro⟨_,h⟩
    exact absurd h (by simp[inner,Term.args])
   ·show 1≤(if t.w=0 then wd else t.w)
    split<;>omega
  ·rw[hpre,Term.sx t,hz]
   exact⟨⟨rfl,rfl,fun _=>rfl⟩,trivial⟩
  ·rw[Term.wv t,hz,Term.wv];rfl
 ·rw[G6 wd t hz]at hk ⊢
  cases hm:Term.zB wd t.args with
  |none=>rw[hm]at hk;cases hk
  |some m=>
   rw[hm]at hk;simp only[decide_eq_true_eq]at hk;obtain⟨i1,i2,i3,i4,i5⟩:=aiH (ev:=ev) hm fun a ha hk=>ih a ha (fun u hu=>hn u (lV.2 (.inr ⟨a,ha,hu⟩))) hk
   have hne:¬m.map Term.w=[]:=by
    intro h;have:=congrArg List.length h;rw[aO,i4]at this;exact hz (Jq.1 this)
   have hpos:∀a∈m.map Term.w,1≤a:=by
    intro x hx;obtain⟨b,hb,rfl⟩:=E0.1 hx;exact(i1 b hb b BU).2
   obtain⟨w1,w2⟩:=VB hne (Prod.ext rfl hk:bw t.op t.w t.v (m.map Term.w)=((bw t.op t.w t.v (m.map Term.w)).1,0)) hpos;refine⟨?_,?_,?_⟩
   ·intro u hu
    rcases lV.1 hu with rfl|⟨b,hb,hu⟩
    ·refine⟨afB ?_ g2 g3 w1 ?_,w2⟩
     ·show ¬(arity t.op<0∨t.op=1∨(t.op=26∧ev=false)∨¬(m.length:Int)=arity t.op)
      rw[i4];exact g1
     ·rintro⟨h1,h2⟩
      refine g5 ⟨h1,?_⟩;unfold inner at h2 ⊢;cases ha:t.args with
      |nil=>exact absurd ha hz
      |cons a as=>
       rw[ha]at i5;obtain⟨b,hb,hr⟩:=i5 a rfl;cases m with
       |nil=>cases hb
       |cons c m=>
        simp only[List.head?_cons,bI]at hb;subst hb;have e:=hr.any fun o=>decide (o∈[24,(26:Int)])
        show(a.pre.any fun u=>decide (u.op∈[24,(26:Int)]))=true
        rw[←e];exact h2
    ·exact i1 b hb u hu
   ·rw[Term.sx t,Term.sx]
    refine⟨⟨rfl,rfl,fun h=>?_⟩,?_⟩
    ·exfalso
     unfold isVar at h;have h:=of_decide_eq_true h;have har:arity t.op=0:=by rcases h with h|h<;>rw[h]<;>decide
     simp only[not_or,VD]at g1;have:=g1.2.2.2;rw[har]at this;exact hz (Jq.1 (by omega))
    ·rw[Term.Ap,Term.Ap];exact i2
   ·rw[Term.wv t,Term.wv,←i3];rfl
def GY(wd:Int):List (ByteArray×Term)→List (ByteArray×Term)→Prop
 | [],[]=>True
 |a::l,b::m=>a.1=b.1∧ait wd a.2 b.2∧isVar a.2=true∧GY wd l m
 |_,_=>False
theorem GY.len{wd:Int}:∀{l m:List (ByteArray×Term)},GY wd l m→m.length=l.length
 | [],[],_=>rfl
 |a::l,b::m,h=>by simp[GY.len h.2.2.2]
theorem GY.lk{wd:Int}(k:ByteArray):∀{l m:List (ByteArray×Term)},GY wd l m→match Dj l k,Dj m k with
  |none,none=>True
  |some a,some b=>ait wd a b∧isVar a=true
  |_,_=>False
 | [],[],_=>trivial
 |a::l,b::m,h=>by
  simp only[Dj];rw[←h.1];by_cases hk:k=a.1
  ·simp only[hk,if_true];exact⟨h.2.1,h.2.2.1⟩
  ·simp only[hk,if_false];exact GY.lk k h.2.2.2
theorem GY.st{wd:Int}{a b:Term}(hr:ait wd a b)(hv:isVar a=true):∀{l m:List (ByteArray×Term)},GY wd l m→GY wd (MX a l) (MX b m)
 | [],[],_=>⟨hr.2.1.symm,hr,hv,trivial⟩
 |c::l,d::m,h=>by
  simp only[MX];rw[hr.2.1,←h.1];by_cases hk:a.name=c.1
  ·simp only[hk,if_true];exact⟨rfl,hr,hv,h.2.2.2⟩
  ·simp only[hk,if_false];exact⟨h.1,h.2.1,h.2.2.1,GY.st hr hv h.2.2.2⟩
theorem SP{wd:Int}{a b:Term}(h:ait wd a b):isVar b=isVar a:=by unfold isVar;rw[h.1]
theorem mh.bind{wd:Int}:∀{l m:List Term} (i:Nat) {s s':List (ByteArray×Term)} {r:List (ByteArray×Term)},mh wd l m→GY wd s s' →
  aq (fun _ s u=>rp s u) i s l=.inl r→∃r',aq (fun _ s u=>rp s u) i s' m=.inl r'∧r'.length=r.length
 | [],[],i,s,s',r,_,hs,h=>by
  simp only[aq,ZI]at h ⊢;subst h;exact⟨s',rfl,hs.len⟩
 |a::l,b::m,i,s,s',r,hl,hs,h=>by
  simp only[aq]at h ⊢;unfold rp at h ⊢;rw[SP hl.1,hl.1.2.1];cases hv:isVar a with
  |false=>
   simp only[hv,kS,if_false]at h ⊢;exact mh.bind (i+1) hl.2 hs h
  |true=>
   simp only[hv,if_true]at h ⊢;have hk:=hs.lk a.name;cases h1:Dj s a.name with
   |none=>
    cases h2:Dj s' a.name with
    |some y=>rw[h1,h2]at hk;exact hk.elim
    |none=>
     simp only[h1]at h
     simp only
     exact mh.bind (i+1) hl.2 (GY.st hl.1 hv hs) h
   |some x=>
    cases h2:Dj s' a.name with
    |none=>rw[h1,h2]at hk;exact hk.elim
    |some y=>
     rw[h1,h2]at hk;simp only[h1]at h
     simp only
     by_cases hc:x.op=a.op∧x.w=a.w
     ·rw[if_pos hc]at h
      rw[if_pos ⟨by rw[hk.1.1,hl.1.1,hc.1],by rw[hk.1.2.2 hk.2,hl.1.2.2 hv,hc.2]⟩]
      exact mh.bind (i+1) hl.2 (GY.st hl.1 hv hs) h
     ·rw[if_neg hc]at h;cases h
theorem xd{wd:Int}(hwd:1≤wd∧wd≤64){ev:Bool}{t:Term}(h:cB t ev=0)(hk:(t.mH wd).2=true):cB (t.mH wd).1 ev=0∧∀u∈(t.mH wd).1.pre,¬u.w=0:=by
 have ha:=aiF wd hwd ev t (j3 h) hk;refine⟨?_,fun u hu=>by have:=(ha.nodes u hu).2;omega⟩
 have hc:(t.mH wd).1.count=t.count:=by rw[←Term.lX,←Term.lX];exact ha.rel.len
 unfold cB at h ⊢;rw[hc,ha.deep];split at h
 ·cases h
 rename_i h1;rw[if_neg h1];have hf:fh ev (t.mH wd).1.post=0:=(Gs ev _).2 fun u hu=>(ha.nodes u ((jG _ u).1 hu)).1
 rw[if_neg (by rw[hf];simp)]
 split at h
 ·rename_i h2;exact absurd h h2
 cases hb:aq (fun _ s u=>rp s u) 0 [] t.pre with
 |inr r=>rw[hb]at h;cases h
 |inl r=>
  rw[hb]at h;obtain⟨r',k1,k2⟩:=ha.rel.bind (s:=[]) (s':=[]) 0 trivial hb;rw[k1]
  simp only at h ⊢
  rw[k2];exact h
end Go.AE.S
