import Derived.Test.YtpccheodgonkkaaGreatB0
set_option maxHeartbeats 0
set_option linter.unusedSimpArgs false
set_option linter.unusedVariables false
namespace Go.AE.S
open Go Go.AE
variable {τ:Tm} {σ:ag} {rd:Option Nat}
theorem fK(o:Int):R P iw [.int .i64 o]=some (.bool (decide (24≤o∧o≤26))):=by
 (rw[J8 (aD rfl),mR];simp(disch:=omega)only[aA,↓aa,seval,-List.reduceReplicate,reduceCtorEq,ae])
 by_cases h1:24≤o<;>by_cases h2:o≤26<;>simp(disch:=omega)only[aA,↓aa,seval,-List.reduceReplicate,reduceCtorEq,ae,h1,h2]<;>rfl
theorem Xy{α:Type}:∀(l s:List α),l.foldl (fun s a=>s++[a]) s=s++l
 | [],s=>by simp
 |a::l,s=>by rw[QL,Xy l];simp
theorem as5{vs:List AV}{a b c d e f g:Obj}:gc 6 vs [a,b,c,d,e,f,g]=if Cm 6 vs [a,b,c,d,e,f,g]=true then[a,b,c,d,e,f]else[a,b,c,d,e,f,g]:=by unfold gc;rw[if_neg (by simp)];rfl
abbrev sC0(t:Term)(s:List Term):ag:=[.pv 0 [] false,.av 5 [z5 0] false,.av 5 [[.p (.int .i64 t.op),.p (.int .i64 t.w),.p (.int .u64 t.v),.p (.str t.name),.sl 3 s.length]] false,.pv (lK 5 s) (s.map Term.row) false]
abbrev ae9(t:Term)(i:Int):List (Nat×AV):=[(2,.ptr 1 1 0 0),(3,.ptr 2 1 0 0),(9,.p (.aM (t.args.map Term.row))),(10,.p (.int .i64 t.args.length)),(11,.p (.int .i64 i))]
theorem AG(t:Term):t.count≤1000000→R P iX [.agg t.row]=some (.agg t.row):=by
 induction t using Term.ind with
 |h t ih=>
 intro hc;have hlen:=Term.dJ t.args;have hct:=Term.count_eq t
 obtain⟨hk,h⟩:=ic (P:=P) (nt:=24) (lv:=[2,3,9,10,11]) (b:=xV) (rd:=none) (as:=t.args) (fun i (_:List Term)=>ae9 t i) (sC0 t) (fun _ s a=>s++[a]) (fun i s=>s.length=i)
  (fun i a s ha hi hs=>by
   have hm:=mi ha;have hac:=Term.cS hm;have hr:=ih a hm (by omega)
   have hlt:((i:Int)<t.args.length)=True:=by simpa using hi
   have hap:=dA (σ:=sC0 t s++[.pv 5 [a.row] false]) (b:=3) (n:=s.length) (e:=lK 5 s) (es:=5) (bytes:=64) (rows:=s.map Term.row) (new:=[a.row]) rfl (by simp) (qO _ _ _) (by simp only[lH,l5];omega)
   simp only[sC0,z5,FD,x9]at hap;refine⟨by simp[hs],?_⟩
   simp only[xV];simp(disch:=omega)only[aA,↓aa,seval,-List.reduceReplicate,reduceCtorEq,ae,hlt,aJ (ax (f:=Term.row) ha) a.aB,tf,hr,sC0,z5,hap,BY,jE,jd,ae9,as5]) (fun i s=>rfl) [] (by simp) _ (lU _ t.args 0 [])
 rw[Xy,x9]at h;have h':al P B5 (ae9 t 0) [.pv 0 [] false,.av 5 [z5 0] false,.av 5 [[.p (.int .i64 t.op),.p (.int .i64 t.w),.p (.int .u64 t.v),.p (.str t.name),.sl 3 0]] false,.pv 0 [] false] 24 none=_:=h;simp only[z5,sC0]at h'
 (rw[YA (aD rfl),w5];simp(disch:=omega)only[aA,↓aa,seval,-List.reduceReplicate,reduceCtorEq,ae,aO,UD,h',xV,kY,ae9])
 rw[Term.aR]
end Go.AE.S
namespace Go.AE
namespace Term
end Term
namespace S
open Go Go.AE
variable {τ:Tm} {σ:ag} {rd:Option Nat}
end S
end Go.AE
namespace Go.AE.S
open Go Go.AE
variable {τ:Tm} {σ:ag} {rd:Option Nat}
theorem atb{b m e j:Nat}{rows:List (List PV)}{fr:Bool}{σ:ag}(h:σ[b]?=some (.pv e rows fr))(hl:rows.length=m)(hj:j<m)(he:e=5):jS σ 5 (.sl b m) (.p (.int .i64 j))=some (.ptr b m j 0):=by
 subst he;unfold jS;simp[nc,RW,h,Obj.Re,hl,hj]
def Df(t:Term)(d n:Int):Int:=if(t.deep:Int)≤d∧(t.count:Int)≤n then n-t.count else -1
def Ra(l:List Term)(d n:Int):Int:=if(Term.ib l:Int)≤d∧(Term.counts l:Int)≤n then n-Term.counts l else -1
def agy(d:Int)(_:Nat)(s:Int)(a:Term):Int ⊕ Unit:=if 0≤s then .inl (Df a d s)else .inr ()
theorem Xp(d:Int)(hd:0≤d):∀(l:List Term) (i:Nat) (s:Int),0≤s→match aq (agy d) i s l with|.inl s'=>s'=Ra l d s|.inr _=>Ra l d s = -1
 | [],i,s,hs=>by
  have e1:Term.ib []=0:=rfl;have e2:Term.counts []=0:=rfl;simp only[aq];unfold Ra;rw[if_pos (by omega)];omega
 |a::l,i,s,hs=>by
  simp only[aq,agy,hs,if_true];by_cases h:(a.deep:Int)≤d∧(a.count:Int)≤s
  ·have e:Df a d s=s-a.count:=by unfold Df;rw[if_pos h]
   rw[e];have ih:=Xp d hd l (i+1) (s-a.count) (by omega)
   have e2:Ra (a::l) d s=Ra l d (s-a.count):=by
    have e1:Term.ib (a::l)=max a.deep (Term.ib l):=rfl;have e2:Term.counts (a::l)=a.count+Term.counts l:=rfl;unfold Ra;by_cases h2:(Term.ib l:Int)≤d∧(Term.counts l:Int)≤s-a.count
    ·rw[if_pos h2,if_pos (by omega)];omega
    ·rw[if_neg h2,if_neg (by omega)]
   rw[e2];exact ih
  ·have e:Df a d s = -1:=by unfold Df;rw[if_neg h]
   have e2:Ra (a::l) d s = -1:=by
    have e1:Term.ib (a::l)=max a.deep (Term.ib l):=rfl;have e2:Term.counts (a::l)=a.count+Term.counts l:=rfl;unfold Ra;rw[if_neg (by omega)]
   rw[e,e2];cases l with
   |nil=>rfl
   |cons b l=>simp only[aq,agy,if_neg (show ¬(0:Int) ≤ -1 by omega)]
theorem amC(t:Term)(d n:Int)(hd:1≤d)(hn:1≤n):Df t d n=Ra t.args (d-1) (n-1):=by
 unfold Df Ra;rw[Term.wv,Term.count_eq];by_cases h:((Term.ib t.args:Nat):Int)≤d-1∧((Term.counts t.args:Nat):Int)≤n-1
 ·rw[if_pos h,if_pos (by omega)];omega
 ·rw[if_neg h,if_neg (by omega)]
theorem WV(t:Term)(d n:Int)(h:d<1∨n<1):Df t d n = -1:=by
 unfold Df;rw[Term.wv,Term.count_eq,if_neg (by omega)]
theorem amD(t:Term)(d n:Int):(0≤Df t d n∧Df t d n≤n)∨Df t d n = -1:=by
 unfold Df;split
 ·left;omega
 ·right;rfl
abbrev acW(t:Term)(d s i:Int):List (Nat×AV):=[(1,.p (.int .i64 d)),(2,.p (.int .i64 s)),(3,.p (.ptr t.row 0)),(7,.p (.int .i64 i))]
def ao9(r:Ex×St):Prop:=r.1=.exit 0∧r.2.τ.get 2=.p (.int .i64 (-1))∧r.2.σ=[]∧r.2.nt=37
theorem YW(t:Term):ia t→∀d n:Int,d≤1000000→n≤1000000→R P nG [.agg t.row,.int .i64 d,.int .i64 n]=some (.int .i64 (Df t d n)):=by
 induction t using Term.ind with
 |h t ih=>
 intro ht d n hd hn;by_cases h1:d<1
 ·rw[WV t d n (.inl h1)]
  (rw[Aw (aD rfl),nz];simp(disch:=omega)only[aA,↓aa,seval,-List.reduceReplicate,reduceCtorEq,ae,h1])
 by_cases h2:n<1
 ·rw[WV t d n (.inr h2)]
  (rw[Aw (aD rfl),nz];simp(disch:=omega)only[aA,↓aa,seval,-List.reduceReplicate,reduceCtorEq,ae,h1,h2])
 rw[amC t d n (by omega) (by omega)]
 have hlen:=ht.len
 have h:=cE (P:=P) (nt:=37) (lv:=[1,2,3,7]) (b:=tu) (rd:=none) (as:=t.args) (fun i (s:Int)=>acW t d s i) (fun _=>[]) (agy (d-1)) (fun _=>ao9) (fun i s=>(0≤s∧s≤1000000)∨s = -1)
  (fun i a s ha hi hs=>by
   have hm:=mi ha;have hlt:((i:Int)<t.args.length)=True:=by simpa using hi
   have hw:IntKind.i64.wrap (d-1)=d-1:=IntWalk.i64_in _ (by omega)
   unfold agy;by_cases h0:0≤s
   ·have hr:=ih a hm (ht.args hm) (d-1) s (by omega) (by omega)
    have hin:=amD a (d-1) s;simp only[h0,if_true];refine⟨fun s' he=>(by simp only[ZI]at he;subst he;omega),?_⟩
    simp only[tu];simp(disch:=omega)only[aA,↓aa,seval,-List.reduceReplicate,reduceCtorEq,ae,hlt,h0,hw,aO,aJ (ax (f:=Term.row) ha) a.aB,Ew,hr,acW]
   ·have hs1:s = -1:=by omega
    subst hs1;refine⟨fun s' he=>(by simp at he),?_⟩
    simp only[tu];simp(disch:=omega)only[aA,↓aa,seval,-List.reduceReplicate,reduceCtorEq,ae,hlt,h0,aO,acW,ao9]) (fun i s=>rfl) (n-1) (by omega)
 have hw1:IntKind.i64.wrap (n-1)=n-1:=IntWalk.i64_in _ (by omega)
 have hf:=Xp (d-1) (by omega) t.args 0 (n-1) (by omega)
 cases hfe:aq (agy (d-1)) 0 (n-1) t.args with
 |inr _=>
  rw[hfe]at h hf;obtain⟨⟨e,τ',σ',nt',rd'⟩,g1,g2,g3,g4,g5⟩:=h
  simp only at g2 g3 g4 g5 hf
  subst g2;subst g4;subst g5;have h':al P xY (acW t d (n-1) 0) [] 37 none=_:=g1;simp only[acW]at h';rw[hf]
  (rw[Aw (aD rfl),nz];simp(disch:=omega)only[aA,↓aa,seval,-List.reduceReplicate,reduceCtorEq,ae,h1,h2,hw1,HL,h',g3])
 |inl s'=>
  rw[hfe]at h hf
  simp only at hf
  obtain⟨hk,g1⟩:=h;have h':al P xY (acW t d (n-1) 0) [] 37 none=_:=g1;simp only[acW]at h';rw[←hf]
  (rw[Aw (aD rfl),nz];simp(disch:=omega)only[aA,↓aa,seval,-List.reduceReplicate,reduceCtorEq,ae,h1,h2,hw1,HL,h',tu,kY,aO])
def DT(t:Term)(n d:Int):List PV:=if(t.deep:Int)≤d∧(t.count:Int)≤n then[.int .i64 (n-t.count),.bool true]else[.int .i64 0,.bool false]
def mF(d:Int)(_:Nat)(s:Int)(a:Term):Int ⊕ Unit:=if(a.deep:Int)≤d∧(a.count:Int)≤s then .inl (s-a.count)else .inr ()
theorem ajo(d:Int):∀(l:List Term) (i:Nat) (s:Int),aq (mF d) i s l=if(((Term.ib l:Nat):Int)≤d∧((Term.counts l:Nat):Int)≤s)∨l=[]then .inl (s-Term.counts l)else .inr ()
 | [],i,s=>by
  have e2:Term.counts []=0:=rfl;rw[if_pos (.inr rfl),e2];simp[aq]
 |a::l,i,s=>by
  have e1:Term.ib (a::l)=max a.deep (Term.ib l):=rfl;have e2:Term.counts (a::l)=a.count+Term.counts l:=rfl;have hne:¬a::l=[]:=by simp
  simp only[aq,mF];by_cases h:(a.deep:Int)≤d∧(a.count:Int)≤s
  ·simp only[h,and_self,if_true]
   rw[ajo d l (i+1)];by_cases h2:l=[]
   ·subst h2
    have e3:Term.ib []=0:=rfl;have e4:Term.counts []=0:=rfl;rw[if_pos (.inr rfl),if_pos (.inl (by omega))]
    congr 1;omega
   ·by_cases h3:((Term.ib l:Nat):Int)≤d∧((Term.counts l:Nat):Int)≤s-a.count
    ·rw[if_pos (.inl h3),if_pos (.inl (by omega))]
     congr 1;omega
    ·rw[if_neg (fun h=>h.elim h3 h2),if_neg (fun h=>h.elim (fun h=>h3 (by omega)) hne)]
  ·rw[if_neg h,if_neg (fun h'=>h'.elim (fun h'=>h (by omega)) hne)]
abbrev acY(t:Term)(d s i:Int):List (Nat×AV):=[(1,.p (.int .i64 s)),(2,.p (.int .i64 d)),(21,.p (.aM (t.args.map Term.row))),(22,.p (.int .i64 t.args.length)),(23,.p (.int .i64 i))]
def apa(r:Ex×St):Prop:=r.1=.ret∧r.2.τ.get 6=.p (.int .i64 0)∧r.2.τ.get 7=.p (.bool false)∧r.2.σ=[]
theorem Qm(t:Term):ia t→∀n d:Int,d≤1000000→n≤1000000→R P iZ [.agg t.row,.int .i64 n,.int .i64 d]=some (.jC (DT t n d)):=by
 induction t using Term.ind with
 |h t ih=>
 intro ht n d hd hn;have hde:=Term.wv t;have hco:=Term.count_eq t;by_cases h1:n<1
 ·have e:DT t n d=[.int .i64 0,.bool false]:=by unfold DT;rw[if_neg (by omega)]
  rw[e]
  (rw[uF (aD rfl),iR];simp(disch:=omega)only[aA,↓aa,seval,-List.reduceReplicate,reduceCtorEq,ae,h1])
 by_cases h2:d<1
 ·have e:DT t n d=[.int .i64 0,.bool false]:=by unfold DT;rw[if_neg (by omega)]
  rw[e]
  (rw[uF (aD rfl),iR];simp(disch:=omega)only[aA,↓aa,seval,-List.reduceReplicate,reduceCtorEq,ae,h1,h2])
 have hlen:=ht.len
 have h:=cE (P:=P) (nt:=40) (lv:=[1,2,21,22,23]) (b:=ow) (rd:=none) (as:=t.args) (fun i (s:Int)=>acY t d s i) (fun _=>[]) (mF (d-1)) (fun _=>apa) (fun i s=>0≤s∧s≤1000000)
  (fun i a s ha hi hs=>by
   have hm:=mi ha;have hlt:((i:Int)<t.args.length)=True:=by simpa using hi
   have hw:IntKind.i64.wrap (d-1)=d-1:=IntWalk.i64_in _ (by omega)
   have hr:=ih a hm (ht.args hm) s (d-1) (by omega) (by omega)
   unfold mF;unfold DT at hr;by_cases h0:(a.deep:Int)≤d-1∧(a.count:Int)≤s
   ·rw[if_pos h0]at hr
    rw[if_pos h0];refine⟨fun s' he=>(by simp only[ZI]at he;subst he;omega),?_⟩
    simp only[ow];simp(disch:=omega)only[aA,↓aa,seval,-List.reduceReplicate,reduceCtorEq,ae,hlt,hw,aJ (ax (f:=Term.row) ha) a.aB,qu,hr,acY]
   ·rw[if_neg h0]at hr
    rw[if_neg h0];refine⟨fun s' he=>(by simp at he),?_⟩
    simp only[ow];simp(disch:=omega)only[aA,↓aa,seval,-List.reduceReplicate,reduceCtorEq,ae,hlt,hw,aJ (ax (f:=Term.row) ha) a.aB,qu,hr,acY,apa]) (fun i s=>rfl) (n-1) (by omega)
 have hw1:IntKind.i64.wrap (n-1)=n-1:=IntWalk.i64_in _ (by omega)
 rw[ajo]at h;by_cases hc:((Term.ib t.args:Nat):Int)≤d-1∧((Term.counts t.args:Nat):Int)≤n-1∨t.args=[]
 ·rw[if_pos hc]at h
  obtain⟨hk,g1⟩:=h;have h':al P rJ (acY t d (n-1) 0) [] 40 none=_:=g1;simp only[acY]at h'
  have e:DT t n d=[.int .i64 (n-1-Term.counts t.args),.bool true]:=by
   unfold DT;have hd0:t.args=[]→Term.ib t.args=0∧Term.counts t.args=0:=fun h=>by rw[h];exact⟨rfl,rfl⟩
   rw[if_pos (by rcases hc with hc|hc;omega;have:=hd0 hc;omega)]
   congr 2;omega
  rw[e]
  (rw[uF (aD rfl),iR];simp(disch:=omega)only[aA,↓aa,seval,-List.reduceReplicate,reduceCtorEq,ae,h1,h2,hw1,aO,CS,h',ow,kY])
 ·rw[if_neg hc]at h
  obtain⟨⟨e,τ',σ',nt',rd'⟩,g1,g2,g3,g4,g5⟩:=h
  simp only at g2 g3 g4 g5
  subst g2;subst g5;have h':al P rJ (acY t d (n-1) 0) [] 40 none=_:=g1;simp only[acY]at h'
  have e:DT t n d=[.int .i64 0,.bool false]:=by
   unfold DT;rw[if_neg (by simp only[not_or]at hc;omega)]
  rw[e]
  (rw[uF (aD rfl),iR];simp(disch:=omega)only[aA,↓aa,seval,-List.reduceReplicate,reduceCtorEq,ae,h1,h2,hw1,aO,CS,h',g3,g4])
def ado(t:Term)(d n:Int):List PV:=if(t.deep:Int)≤d∧(t.count:Int)≤n then[.agg t.row,.bool true]else[.agg zT.row,.bool false]
theorem YV(t:Term)(ht:ia t)(d n:Int)(hd:d≤1000000)(hn:n≤1000000):R P p8 [.agg t.row,.int .i64 d,.int .i64 n]=some (.jC (ado t d n)):=by
 have h:=YW t ht d n hd hn;unfold ado;by_cases hc:(t.deep:Int)≤d∧(t.count:Int)≤n
 ·have h0:(Df t d n<0)=False:=by unfold Df;rw[if_pos hc];simp;omega
  rw[if_pos hc]
  (rw[Lt (aD rfl),sF];simp(disch:=omega)only[aA,↓aa,seval,-List.reduceReplicate,reduceCtorEq,ae,Ew,h,h0,z5])
 ·have h0:(Df t d n<0)=True:=by unfold Df;rw[if_neg hc];simp
  rw[if_neg hc]
  (rw[Lt (aD rfl),sF];simp(disch:=omega)only[aA,↓aa,seval,-List.reduceReplicate,reduceCtorEq,ae,Ew,h,h0,z5])
  simp[ET]
abbrev ac0(l m:List Term)(i:Int):List (Nat×AV):=[(0,.p (.aM (l.map Term.row))),(1,.p (.aM (m.map Term.row))),(5,.p (.int .i64 i))]
theorem aoX{vs:List AV}{a b:Obj}:gc 0 vs [a,b]=if Cm 0 vs [a,b]=true then[]else[a,b]:=by unfold gc;rw[if_neg (by simp)];rfl
theorem Vf(l m:List Term)(hl:l.length≤9223372036854775807)(ih:∀a∈l,∀b∈m,R P jq [.agg a.row,.agg b.row]=some (.bool (a.beq b))) :
  R P mu [.aM (l.map Term.row),.aM (m.map Term.row)]=some (.bool (Term.Dt l m)):=by
 rcases dB (((l.length:Nat):Int)=((m.length:Nat):Int))with h1|h1
 rotate_left
 ·rw[Term.V3 (fun h=>of_eq_false h1 (by rw[h]))]
  (rw[A0 (aD rfl),ma];simp(disch:=omega)only[aA,↓aa,seval,-List.reduceReplicate,reduceCtorEq,ae,aO,h1])
 have hlm:l.length=m.length:=by have:=of_eq_true h1;omega
 have hz:(l.zip m).length=l.length:=by rw[List.length_zip];omega
 have h:=cE (P:=P) (nt:=27) (lv:=[0,1,5]) (b:=pt) (rd:=none) (as:=l.zip m) (fun i (_:Unit)=>ac0 l m i) (fun _=>[]) (fun _ _ x=>if x.1.beq x.2=true then .inl ()else .inr ()) (fun(_:Unit)=>cj 4 (.bool false) []) (fun _ _=>True)
  (fun i x s ha hi hs=>by
   obtain⟨g1,g2⟩:=af4 ha;have hr:=ih x.1 (mi g1) x.2 (mi g2);have hlt:((i:Int)<l.length)=True:=by rw[hz]at hi;simpa using hi
   have hx1:=fun σ=>aJ (k:=.i64) (es:=5) (σ:=σ) (ax (f:=Term.row) g1) x.1.aB
   have hx2:=fun σ=>aJ (k:=.i64) (es:=5) (σ:=σ) (ax (f:=Term.row) g2) x.2.aB
   refine⟨fun _ _=>trivial,?_⟩
   cases hb:x.1.beq x.2 with
   |true=>
    rw[hb]at hr;simp only[pt,if_true];simp(disch:=omega)only[aA,↓aa,seval,-List.reduceReplicate,reduceCtorEq,ae,hlt,aO,hx1,hx2,kL,hr,ac0]
   |false=>
    rw[hb]at hr;simp only[pt,kS,if_false];simp(disch:=omega)only[aA,↓aa,seval,-List.reduceReplicate,reduceCtorEq,ae,hlt,aO,hx1,hx2,kL,hr,ac0,cj]) (fun i s=>rfl) () trivial
 rw[s6 (fun x:Term×Term=>x.1.beq x.2),Term.V4 hlm,hz]at h
 cases hb:Term.Dt l m with
 |true=>
  rw[hb]at h;obtain⟨_,g1⟩:=h;have h':al P ua (ac0 l m 0) [] 27 none=_:=g1;simp only[ac0]at h'
  (rw[A0 (aD rfl),ma];simp(disch:=omega)only[aA,↓aa,seval,-List.reduceReplicate,reduceCtorEq,ae,aO,h1,DN,h',pt,kY])
 |false=>
  rw[hb]at h;obtain⟨⟨e,τ',σ',nt',rd'⟩,g1,g2,g3,g4⟩:=h
  simp only at g2 g3 g4
  subst g2;subst g4;have h':al P ua (ac0 l m 0) [] 27 none=_:=g1;simp only[ac0]at h'
  (rw[A0 (aD rfl),ma];simp(disch:=omega)only[aA,↓aa,seval,-List.reduceReplicate,reduceCtorEq,ae,aO,h1,DN,h',g3])
theorem CH(t:Term):ia t→∀u:Term,R P jq [.agg t.row,.agg u.row]=some (.bool (t.beq u)):=by
 induction t using Term.ind with
 |h t ih=>
 intro ht u;rw[Term.beq_eq];have hA:=Vf t.args u.args ht.len (fun a ha b _=>ih a ha (ht.args ha) b)
 rcases dB (t.op=u.op)with h1|h1
 rotate_left
 ·(rw[zn (aD rfl),nT];simp(disch:=omega)only[aA,↓aa,seval,-List.reduceReplicate,reduceCtorEq,ae,h1,Dr])
 rcases dB (t.w=u.w)with h2|h2
 rotate_left
 ·(rw[zn (aD rfl),nT];simp(disch:=omega)only[aA,↓aa,seval,-List.reduceReplicate,reduceCtorEq,ae,h1,h2,Dr])
 rcases dB (t.v=u.v)with h3|h3
 rotate_left
 ·(rw[zn (aD rfl),nT];simp(disch:=omega)only[aA,↓aa,seval,-List.reduceReplicate,reduceCtorEq,ae,h1,h2,h3,Dr])
 rcases dB (t.name=u.name)with h4|h4
 rotate_left
 ·(rw[zn (aD rfl),nT];simp(disch:=omega)only[aA,↓aa,seval,-List.reduceReplicate,reduceCtorEq,ae,h1,h2,h3,h4,Dr])
 (rw[zn (aD rfl),nT];simp(disch:=omega)only[aA,↓aa,seval,-List.reduceReplicate,reduceCtorEq,ae,h1,h2,h3,h4,Rz,hA,Dr])
abbrev N1(l m:List Term)(i:Int):List (Nat×AV):=[(1,.p (.aM (m.map Term.row))),(2,.p (.fn iY [])),(15,.p (.aM (l.map Term.row))),(16,.p (.int .i64 l.length)),(17,.p (.int .i64 i))]
theorem Qe(l m:List Term)(hl:l.length≤9223372036854775807)(ih:∀a∈l,∀b∈m,R P iY [.agg a.row,.agg b.row]=some (.bool (a.beq b))) :
  R P aL [.aM (l.map Term.row),.aM (m.map Term.row),.fn iY []]=some (.bool (Term.Dt l m)):=by
 rcases dB (((l.length:Nat):Int)=((m.length:Nat):Int))with h1|h1
 rotate_left
 ·rw[Term.V3 (fun h=>of_eq_false h1 (by rw[h]))]
  (rw[cJ (aD rfl),aK];simp(disch:=omega)only[aA,↓aa,seval,-List.reduceReplicate,reduceCtorEq,ae,aO,h1])
 have hlm:l.length=m.length:=by have:=of_eq_true h1;omega
 have hz:(l.zip m).length=l.length:=by rw[List.length_zip];omega
 have h:=cE (P:=P) (nt:=32) (lv:=[1,2,15,16,17]) (b:=bk) (rd:=none) (as:=l.zip m) (fun i (_:Unit)=>N1 l m i) (fun _=>[]) (fun _ _ x=>if x.1.beq x.2=true then .inl ()else .inr ()) (fun(_:Unit) r=>r.1=.ret∧r.2.τ.get 6=.p (.bool false)) (fun _ _=>True)
  (fun i x s ha hi hs=>by
   obtain⟨g1,g2⟩:=af4 ha;have hr:=ih x.1 (mi g1) x.2 (mi g2);have hlt:((i:Int)<l.length)=True:=by rw[hz]at hi;simpa using hi
   have hx1:=fun σ=>aJ (k:=.i64) (es:=5) (σ:=σ) (ax (f:=Term.row) g1) x.1.aB
   have hx2:=fun σ=>aJ (k:=.i64) (es:=5) (σ:=σ) (ax (f:=Term.row) g2) x.2.aB
   refine⟨fun _ _=>trivial,?_⟩
   cases hb:x.1.beq x.2 with
   |true=>
    rw[hb]at hr;simp only[bk,if_true];simp(disch:=omega)only[aA,↓aa,seval,-List.reduceReplicate,reduceCtorEq,ae,hlt,aO,hx1,hx2,EA,hr,N1,aoX]
   |false=>
    rw[hb]at hr;simp only[bk,kS,if_false];simp(disch:=omega)only[aA,↓aa,seval,-List.reduceReplicate,reduceCtorEq,ae,hlt,aO,hx1,hx2,EA,hr,N1,aoX]) (fun i s=>rfl) () trivial
 rw[s6 (fun x:Term×Term=>x.1.beq x.2),Term.V4 hlm,hz]at h
 cases hb:Term.Dt l m with
 |true=>
  rw[hb]at h;obtain⟨_,g1⟩:=h;have h':al P bM (N1 l m 0) [] 32 none=_:=g1;simp only[N1]at h'
  (rw[cJ (aD rfl),aK];simp(disch:=omega)only[aA,↓aa,seval,-List.reduceReplicate,reduceCtorEq,ae,aO,h1,dW,h',bk,kY])
 |false=>
  rw[hb]at h;obtain⟨⟨e,τ',σ',nt',rd'⟩,g1,g2,g3⟩:=h
  simp only at g2 g3
  subst g2;have h':al P bM (N1 l m 0) [] 32 none=_:=g1;simp only[N1]at h'
  (rw[cJ (aD rfl),aK];simp(disch:=omega)only[aA,↓aa,seval,-List.reduceReplicate,reduceCtorEq,ae,aO,h1,dW,h',g3])
theorem Y3(t:Term):ia t→∀u:Term,R P iY [.agg t.row,.agg u.row]=some (.bool (t.beq u)):=by
 induction t using Term.ind with
 |h t ih=>
 intro ht u;rw[Term.beq_eq];have hA:=Qe t.args u.args ht.len (fun a ha b _=>ih a ha (ht.args ha) b)
 rcases dB (t.op=u.op)with h1|h1
 rotate_left
 ·(rw[xq (aD rfl),lG];simp(disch:=omega)only[aA,↓aa,seval,-List.reduceReplicate,reduceCtorEq,ae,h1,Dr])
 rcases dB (t.w=u.w)with h2|h2
 rotate_left
 ·(rw[xq (aD rfl),lG];simp(disch:=omega)only[aA,↓aa,seval,-List.reduceReplicate,reduceCtorEq,ae,h1,h2,Dr])
 rcases dB (t.v=u.v)with h3|h3
 rotate_left
 ·(rw[xq (aD rfl),lG];simp(disch:=omega)only[aA,↓aa,seval,-List.reduceReplicate,reduceCtorEq,ae,h1,h2,h3,Dr])
 rcases dB (t.name=u.name)with h4|h4
 rotate_left
 ·(rw[xq (aD rfl),lG];simp(disch:=omega)only[aA,↓aa,seval,-List.reduceReplicate,reduceCtorEq,ae,h1,h2,h3,h4,Dr])
 (rw[xq (aD rfl),lG];simp(disch:=omega)only[aA,↓aa,seval,-List.reduceReplicate,reduceCtorEq,ae,h1,h2,h3,h4,jA,hA,Dr])
theorem Xv{α β:Type}(g:α→β):∀(l:List α) (k:Nat) (s:List β),k+l.length=s.length→aq (T:=Empty) (fun i s a=>.inl (s.set i (g a))) k s l=.inl (s.take k++l.map g)
 | [],k,s,h=>by simp only[aq,Cb,Zy];rw[List.take_of_length_le (by simp at h;omega)]
 |a::l,k,s,h=>by
  simp only[aq];rw[Xv g l (k+1) (s.set k (g a)) (by simp at h ⊢;omega)]
  congr 1
  simp only[lH]at h;rw[List.take_set,sP];have hk:k<s.length:=by omega
  have:(s.take (k+1)).set k (g a)=s.take k++[g a]:=by
   rw[List.take_succ_eq_append_getElem hk,List.set_append_right _ _ (by rw[abC];omega),abC,Nat.min_eq_left (by omega),abM]
   rfl
  rw[this];simp
theorem ag0{α β:Type}(g:α→β)(l:List α)(s:List β)(h:l.length=s.length):aq (T:=Empty) (fun i s a=>.inl (s.set i (g a))) 0 s l=.inl (l.map g):=by
 rw[Xv g l 0 s (by omega)];rfl
theorem afj{b m es j:Nat}{rows:List (List PV)}{fr:Bool}{σ:ag}(h:σ[b]?=some (.pv es rows fr))(hl:rows.length=m)(hj:j<m):jS σ es (.sl b m) (.p (.int .i64 j))=some (.ptr b m j 0):=by
 unfold jS;simp[nc,RW,h,Obj.Re,hl,hj]
theorem alx{σ:ag}{b m e j:Nat}{rows:List (List PV)}{v:PV}(hl:rows.length=m)(hw:∀x∈rows,x.length=1)(hj:j<m):RU σ b m j 0 [.p v] (some (.pv e rows false))=some (σ.set b (.pv e (rows.set j [v]) false)):=by
 have hg:rows[j]?=some rows[j]:=oq (by omega)
 have h5:(rows[j]'(by omega)).length=1:=hw _ (Zx _)
 have hp:ck 0 [v] (rows[j]'(by omega))=some [v]:=by
  unfold ck;rw[h5,if_pos (by simp)]
  simp[abZ,h5]
 simp only[RU,hl,if_true,hg,zy,ae,xu,hp]
theorem ati{t:Term}{fr:Bool}:Mm 1 0 1 1 false (some (.pv 5 [t.row] fr))=some (.p (.int .i64 t.w)):=by rw[Term.aR];rfl
abbrev amK(l:List Term)(i:Int):List (Nat×AV):=[(3,.sl 0 l.length),(9,.p (.aM (l.map Term.row))),(10,.p (.int .i64 l.length)),(11,.p (.int .i64 i))]
theorem RT(l:List Term)(hl:l.length≤1000000):R P mz [.aM (l.map Term.row)]=some (.aM ((l.map Term.w).map dE)):=by
 obtain⟨hk,h⟩:=ic (P:=P) (nt:=23) (lv:=[3,9,10,11]) (b:=tD) (rd:=none) (as:=l) (fun i (_:List (List PV))=>amK l i) (fun s=>[.pv 1 s false]) (fun i s a=>s.set i (dE a.w)) (fun i s=>s.length=l.length∧∀x∈s,x.length=1)
  (fun i a s ha hi hs=>by
   obtain⟨hs1,hs2⟩:=hs;have hlt:((i:Int)<l.length)=True:=by simpa using hi
   have hia:=fun(o1 o2:Obj)=>afj (σ:=[.pv 1 s false,o1,o2]) (b:=0) (m:=l.length) (j:=i) rfl hs1 hi
   have hst:=fun(σ:ag)=>alx (σ:=σ) (b:=0) (m:=l.length) (e:=1) (j:=i) (v:=.int .i64 a.w) hs1 hs2 hi
   refine⟨⟨by simp[hs1],fun x hx=>?_⟩,?_⟩
   ·rcases List.mem_or_eq_of_mem_set hx with hx|rfl
    ·exact hs2 x hx
    ·rfl
   ·simp only[tD]
    simp(disch:=omega)only[aA,↓aa,seval,-List.reduceReplicate,reduceCtorEq,ae,hlt,aO,aJ (ax (f:=Term.row) ha) a.aB,amK,hia,hst,dE,ati]) (fun i s=>rfl) (List.replicate l.length [.int .i64 0]) ⟨by simp,fun x hx=>by rw[(List.mem_replicate.1 hx).2];rfl⟩ _ (ag0 (fun a:Term=>dE a.w) l _ (by simp))
 have h':al P yR (amK l 0) [.pv 1 (List.replicate l.length [.int .i64 0]) false] 23 none=_:=h;simp only[amK]at h';have hm:=fun(σ:ag)=>ao6 (σ:=σ) (k:=.i64) (es:=1) (bytes:=8) (n:=l.length) (zero:=[.p (.int .i64 0)]) (z:=[.int .i64 0]) rfl (by omega)
 (rw[RH (aD rfl),rl];simp(disch:=omega)only[aA,↓aa,seval,-List.reduceReplicate,reduceCtorEq,ae,aO,hm,OJ,h',tD,kY])
 simp[acj]
theorem Ds:∀ps:List PV,ae (ps.map AV.p)=some ps
 | []=>rfl
 |a::r=>by simp only[sP,ae,Ds r,xu]
def ur(t:Term):Int :=
 if arity t.op<0 then 4 else if 24≤t.op∧t.op≤26 then 4 else if ¬(t.args.length:Int)=arity t.op then 4
 else if ¬t.name=bs []∧¬t.op=1 then 4 else if ¬t.v=0∧¬t.op=2∧¬t.op=21 then 4
 else if t.op=1∧iA t.name=false then 5 else if t.w<1 then 3
 else if ¬(bw t.op t.w t.v (t.args.map Term.w)).2=0 then 3 else if ¬(bw t.op t.w t.v (t.args.map Term.w)).1=t.w then 3 else 0
theorem Y5(t:Term)(ht:ia t)(hc:t.args.length≤1000000):R P ql [.agg t.row]=some (.int .i64 (ur t)):=by
 have hwd:=RT t.args hc;have hW:=zq t.op t.w t.v (t.args.map Term.w) (by rw[aO];exact hc) ht.v
 unfold ur;generalize hr:bw t.op t.w t.v (t.args.map Term.w)=r at hW ⊢;obtain⟨rw,re⟩:=r;simp only[two]at hW;rcases dB (arity t.op<0)with h1|h1
 ·(rw[nN (aD rfl),gN];simp(disch:=omega)only[aA,↓aa,seval,-List.reduceReplicate,reduceCtorEq,ae,aH,aI,fJ,fK,aO,h1])
 rcases dB (24≤t.op∧t.op≤26)with h2|h2
 ·have g2:(t.op∈[24,25,(26:Int)])=True:=by have:=of_eq_true h2;simp;omega
  (rw[nN (aD rfl),gN];simp(disch:=omega)only[aA,↓aa,seval,-List.reduceReplicate,reduceCtorEq,ae,aH,aI,fJ,fK,aO,h1,h2,g2])
 have g2:(t.op∈[24,25,(26:Int)])=False:=by have:=of_eq_false h2;simp;omega
 rcases dB ((t.args.length:Int)=arity t.op)with h3|h3
 rotate_left
 ·(rw[nN (aD rfl),gN];simp(disch:=omega)only[aA,↓aa,seval,-List.reduceReplicate,reduceCtorEq,ae,aH,aI,fJ,fK,aO,h1,h2,g2,h3])
 have ho:∃a b c:Prop,(a=True∨a=False)∧(b=True∨b=False)∧(c=True∨c=False)∧(t.op=1)=a∧(t.op=2)=b∧(t.op=21)=c∧(a→¬b∧¬c)∧(b→¬c) :=
  ⟨_,_,_,dB _,dB _,dB _,rfl,rfl,rfl,fun h=>⟨by omega,by omega⟩,fun h=>by omega⟩
 obtain⟨a,b,c,ha,hb,hcc,e1,e2,e3,i1,i2⟩:=ho;rcases ha with rfl|rfl<;>rcases hb with rfl|rfl<;>rcases hcc with rfl|rfl
 all_goals try(exfalso;simp at i1 i2;done)
 all_goals rcases dB (t.name=bs [])with hn|hn<;>rcases dB (t.v=0)with hv|hv
 all_goals try((rw[nN (aD rfl),gN];simp(disch:=omega)only[aA,↓aa,seval,-List.reduceReplicate,reduceCtorEq,ae,aH,aI,fJ,fK,aO,h1,h2,g2,h3,e1,e2,e3,hn,hv]);done)
 all_goals cases hk:iA t.name
 all_goals try((rw[nN (aD rfl),gN];simp(disch:=omega)only[aA,↓aa,seval,-List.reduceReplicate,reduceCtorEq,ae,aH,aI,fJ,fK,aO,h1,h2,g2,h3,e1,e2,e3,hn,hv,gX,ki,hk]);done)
 all_goals rcases dB (t.w<1)with h7|h7
 all_goals try((rw[nN (aD rfl),gN];simp(disch:=omega)only[aA,↓aa,seval,-List.reduceReplicate,reduceCtorEq,ae,aH,aI,fJ,fK,aO,h1,h2,g2,h3,e1,e2,e3,hn,hv,gX,ki,hk,h7,AZ,hwd,dM,hW]);done)
 all_goals rcases dB (re=0)with h8|h8
 all_goals try((rw[nN (aD rfl),gN];simp(disch:=omega)only[aA,↓aa,seval,-List.reduceReplicate,reduceCtorEq,ae,aH,aI,fJ,fK,aO,h1,h2,g2,h3,e1,e2,e3,hn,hv,gX,ki,hk,h7,AZ,hwd,dM,hW,h8]);done)
 all_goals rcases dB (rw=t.w)with h9|h9
 all_goals (rw[nN (aD rfl),gN];simp(disch:=omega)only[aA,↓aa,seval,-List.reduceReplicate,reduceCtorEq,ae,aH,aI,fJ,fK,aO,h1,h2,g2,h3,e1,e2,e3,hn,hv,gX,ki,hk,h7,AZ,hwd,dM,hW,h8,h9])
end Go.AE.S
namespace Go.AE
section
variable {P:Prog} {σ σ':ag} {nt n:Nat} {rd:Option Nat} {g:AV}
def fi(P:Prog)(g:AV):List (List AV)→ag→Option (Bool×ag)
 | [],σ=>some (true,σ)
 |a::r,σ=>match sQ P g a σ with
  |some (.p (.bool true),σ')=>if σ'.length=σ.length then fi P g r σ' else none
  |some (.p (.bool false),σ')=>if σ'.length=σ.length then some (false,σ')else none
  |_=>none
def Cn(P:Prog)(g:AV)(r:List (List AV)):Option (Bool×ag)→Option (Bool×ag)
 |some (true,σ)=>fi P g r σ
 |some (false,σ)=>some (false,σ)
 |none=>none
theorem oR:∀(x y:List (List AV)) (σ:ag),fi P g (x++y) σ=Cn P g y (fi P g x σ)
 | [],y,σ=>rfl
 |a::x,y,σ=>by
  simp only[FD,fi];split
  ·rename_i σ' h
   split
   ·exact oR x y σ'
   ·rfl
  ·rename_i σ' h
   split<;>rfl
  ·rfl
theorem vD:∀(x:List (List AV)) (σ σ':ag) (b:Bool),fi P g x σ=some (b,σ')→σ'.length=σ.length
 | [],σ,σ',b,h=>by simp only[fi,bI,qX]at h;rw[←h.2]
 |a::x,σ,σ',b,h=>by
  simp only[fi]at h;split at h
  ·rename_i σ1 h1
   split at h
   ·rename_i hl
    rw[vD x σ1 σ' b h,hl]
   ·cases h
  ·rename_i σ1 h1
   split at h
   ·rename_i hl
    simp only[bI,qX]at h;rw[←h.2,hl]
   ·cases h
  ·cases h
theorem Ky{a:List AV}{r:List (List AV)}{b:Bool}(h:fi P g (a::r) σ=some (b,σ')) :
  ∃c σ1,sQ P g a σ=some (.p (.bool c),σ1)∧σ1.length=σ.length∧(c=true→fi P g r σ1=some (b,σ'))∧(c=false→b=false∧σ'=σ1):=by
 simp only[fi]at h;split at h
 ·rename_i σ1 h1
  split at h
  ·rename_i hl
   exact⟨true,σ1,h1,hl,fun _=>h,by simp⟩
  ·cases h
 ·rename_i σ1 h1
  split at h
  ·rename_i hl
   simp only[bI,qX]at h;exact⟨false,σ1,h1,hl,by simp,fun _=>⟨h.1.symm,h.2.symm⟩⟩
  ·cases h
 ·cases h
theorem Kz{S T α:Type}(arg:α→List AV)(sto:S→ag)(f:Nat→S→α→S ⊕ T)(out:T→ag)(ok:Nat→S→Prop)(hlen:∀s,(sto s).length=n)(hout:∀t,(out t).length=n)(as:List α)
  (hstep:∀(i:Nat) (a:α) (s:S),as[i]?=some a→ok i s→(∀s',f i s a=.inl s'→ok (i+1) s') ∧
   sQ P g (arg a) (sto s)=(match f i s a with
    |.inl s'=>some (.p (.bool true),sto s')
    |.inr t=>some (.p (.bool false),out t))) :
  ∀(r:List α) (i:Nat) (s:S),as.drop i=r→ok i s→fi P g (r.map arg) (sto s)=(match aq f i s r with
    |.inl s'=>some (true,sto s')
    |.inr t=>some (false,out t)):=by
 intro r
 induction r with
 |nil=>intro i s _ _;rfl
 |cons a r ih=>
  intro i s hd hok
  have ha:as[i]?=some a:=by
   have:=congrArg (·[0]?) hd;simpa using this
  have hr:as.drop (i+1)=r:=by
   have:=congrArg (List.drop 1) hd;simpa using this
  obtain⟨h1,h2⟩:=hstep i a s ha hok;simp only[sP,fi,aq];rw[h2];cases hf:f i s a with
  |inl s'=>
   simp only
   rw[if_pos (by rw[hlen,hlen]),ih (i+1) s' hr (h1 s' hf)]
  |inr t=>
   simp only
   rw[if_pos (by rw[hlen,hout])]
theorem YG{S T α:Type}{gv:AV}{kept:List (Nat×AV)}{ps:List Nat}{hJ b:K}{f0:FuncId}{fn:cL}{cap:List AV}(hfn:Up gv=some (f0,cap))(hF:P.fn f0=some fn)(hps:nodup ps=true∧ps.all (· < nt)=true)
  (X:List Obj) (arg:α→List AV) (sto:S→ag) (f:Nat→S→α→S ⊕ T) (out:T→Ex×ag) (ok:Nat→S→Prop) (as:List α) (s0:S) (hrd:ue rd (sto s0)=true)
  (hcall:∀(a:α) (σ σ':ag) (bb:Bool),σ.length=(sto s0).length+1→σ'.length=(sto s0).length+1→round P (sto s0).length (arg a) (σ++X)=some (.p (.bool bb),σ'++X)→sQ P g (arg a) (σ++X)=some (.p (.bool bb),σ'++X))
  (iter:∀(σ σ':ag) (bb:Bool),σ.length=(sto s0).length+1→σ'.length=(sto s0).length+1→σ'.all (Obj.below ((sto s0).length+1))=true→fi P g (as.map arg) (σ++X)=some (bb,σ'++X)→∃v,call P fn (.yield (sto s0).length::cap) σ=some (v,σ'))
  (hlen:∀s,(sto s).length=(sto s0).length) (hout:∀t,(out t).2.length=(sto s0).length)
  (hbel:∀s m,(sto s0).length≤m→(sto s).all (Obj.below m)=true) (hbelo:∀t m,(sto s0).length≤m→(out t).2.all (Obj.below m)=true) (hkb:(kept.all fun x=>below ((sto s0).length+1) x.2)=true) (hnn:∀t,(out t).1≠.normal)
  (hstep:∀(i:Nat) (a:α) (s:S),as[i]?=some a→ok i s→(∀s',f i s a=.inl s'→ok (i+1) s') ∧
   round P (sto s0).length (arg a) ((sto s++[.loop kept nt ps hJ b none])++X)=(match f i s a with
    |.inl s'=>some (.p (.bool true),(sto s'++[.loop kept nt ps hJ b none])++X)
    |.inr t=>some (.p (.bool false),((out t).2++[.loop kept nt ps hJ b (some (out t).1)])++X)))
  (h0:ok 0 s0):nk P ps hJ b gv kept (sto s0) nt rd=some (kQ sto out (aq f 0 s0 as)):=by
 have hr:=Kz (P:=P) (g:=g) (n:=(sto s0).length+1+X.length) arg (fun s=>(sto s++[.loop kept nt ps hJ b none])++X) f (fun t=>((out t).2++[.loop kept nt ps hJ b (some (out t).1)])++X) ok
  (fun s=>by simp[hlen];omega) (fun t=>by simp[hout];omega) as (fun i a s ha hok=>by
   obtain⟨h1,h2⟩:=hstep i a s ha hok;refine⟨h1,?_⟩;cases hf:f i s a with
   |inl s'=>rw[hf]at h2;exact hcall a _ _ _ (by simp[hlen]) (by simp[hlen]) h2
   |inr t=>rw[hf]at h2;exact hcall a _ _ _ (by simp[hlen]) (by simp[hout]) h2) as 0 s0 rfl h0
 have gcs:∀x:ag,x.length=(sto s0).length→x.all (Obj.below (sto s0).length)=true→gc (sto s0).length [] (x++[.gone])=x:=by
  intro x hx hb;unfold gc;rw[if_neg (by simp[hx])]
  have ht:(x++[Obj.gone]).take (sto s0).length=x:=by rw[←hx];simp
  rw[if_pos (by simp only[Cm,ht,abS,hb,QM]),ht]
 have seta:∀(x:ag) (o o':Obj),x.length=(sto s0).length→(x++[o]).set (sto s0).length o'=x++[o']:=by
  intro x o o' hx;rw[←hx];simp
 have geta:∀(x:ag) (o:Obj),x.length=(sto s0).length→(x++[o])[(sto s0).length]?=some o:=by
  intro x o hx;rw[←hx];simp
 have bl:∀(x:ag) (e:Option Ex),x.all (Obj.below ((sto s0).length+1))=true→(x++[Obj.loop kept nt ps hJ b e]).all (Obj.below ((sto s0).length+1))=true:=by
  intro x e hx;rw[List.all_append,hx];simp only[R6,abS,abR,VG];exact hkb
 unfold nk;simp only[hfn,hF,zy,hrd,hps,QM,if_true];cases hf:aq f 0 s0 as with
 |inl s=>
  rw[hf]at hr;obtain⟨v,hv⟩:=iter _ _ _ (by simp) (by simp[hlen]) (bl _ _ (hbel s _ (by omega))) hr
  rw[hv];simp only[zy,geta _ _ (hlen s),seta _ _ _ (hlen s),gcs _ (hlen s) (hbel s _ (rm _)),kQ]
 |inr t=>
  rw[hf]at hr;obtain⟨v,hv⟩:=iter _ _ _ (by simp) (by simp[hout]) (bl _ _ (hbelo t _ (by omega))) hr
  rw[hv];have hn:=hnn t;simp only[zy,geta _ _ (hout t),seta _ _ _ (hout t),gcs _ (hout t) (hbelo t _ (rm _)),kQ]
end
namespace S
open Go Go.AE
variable {τ:Tm} {σ:ag} {rd:Option Nat}
def adB(g:AV)(s:ag)(a:Term):ag ⊕ ag:=match fi P g (a.post.map pP) s with
 |some (true,s')=>.inl s'
 |some (false,s')=>.inr s'
 |none=>.inr s
theorem Xs(g:AV):∀(as:List Term) (i:Nat) (s:ag) (b:Bool) (s':ag),fi P g ((Term.ph as).map pP) s=some (b,s')→aq (fun _ s a=>adB g s a) i s as=if b=true then .inl s' else .inr s'
 | [],i,s,b,s',h=>by
  simp only[Term.ph,Cb,fi,bI,qX]at h;obtain⟨rfl,rfl⟩:=h;rfl
 |a::as,i,s,b,s',h=>by
  simp only[Term.ph,BY,oR]at h;simp only[aq,adB];cases h1:fi P g (a.post.map pP) s with
  |none=>rw[h1]at h;cases h
  |some x=>
   obtain⟨c,s1⟩:=x;rw[h1]at h;cases c with
   |true=>exact Xs g as (i+1) s1 b s' h
   |false=>
    simp only[Cn,bI,qX]at h;obtain⟨rfl,rfl⟩:=h;rfl
abbrev N7(g:AV)(t:Term)(i:Int):List (Nat×AV):=[(1,g),(2,.p (.ptr t.row 0)),(8,.p (.aM (t.args.map Term.row))),(9,.p (.int .i64 t.args.length)),(10,.p (.int .i64 i))]
theorem Wk(g:AV)(t:Term):t.count≤1000000→∀(σ σ':ag) (b:Bool),fi P g (t.post.map pP) σ=some (b,σ')→call P ir [.p (.agg t.row),g] σ=some (.p (.bool b),σ'):=by
 induction t using Term.ind with
 |h t ih=>
 intro hc σ σ' b hr;have hlen:=Term.dJ t.args;have hct:=Term.count_eq t;have hl:=vD _ _ _ _ hr;rw[Term.An,BY,oR]at hr;cases h3:fi P g ((Term.ph t.args).map pP) σ with
 |none=>rw[h3]at hr;cases hr
 |some x=>
  obtain⟨c,σ1⟩:=x;rw[h3]at hr;have hl3:=vD _ _ _ _ h3
  have h:=cE (P:=P) (nt:=22) (lv:=[1,2,8,9,10]) (b:=lz) (rd:=none) (as:=t.args) (fun i (_:ag)=>N7 g t i) (fun s=>s) (fun _ s a=>adB g s a) (fun s r=>cj 4 (.bool false) s r) (fun i s=>∃b s',fi P g ((Term.ph (t.args.drop i)).map pP) s=some (b,s'))
   (fun i a s ha hi hs=>by
    obtain⟨b2,s2,hs⟩:=hs;have hm:=mi ha;have hac:=Term.cS hm;have hlt:((i:Int)<t.args.length)=True:=by simpa using hi
    have hd:t.args.drop i=a::t.args.drop (i+1):=by rw[abm hi];rw[oq hi]at ha;cases ha;rfl
    rw[hd]at hs;simp only[Term.ph,BY,oR]at hs;cases hx:fi P g (a.post.map pP) s with
    |none=>rw[hx]at hs;cases hs
    |some x=>
     obtain⟨c,s1⟩:=x;rw[hx]at hs;have hv:=ih a hm (by omega) s s1 c hx
     have hl1:=vD _ _ _ _ hx;have gc2:∀vs,gc s.length vs s1=s1:=fun vs=>eP (by omega)
     cases c with
     |true=>
      refine⟨fun s' he=>?_,?_⟩
      ·simp only[adB,hx]at he
       cases he;exact⟨_,_,hs⟩
      ·simp only[lz,adB,hx]
       simp(disch:=omega)only[aA,↓aa,seval,-List.reduceReplicate,reduceCtorEq,ae,hlt,aJ (ax (f:=Term.row) ha) a.aB,vQ,hv,gc2,N7]
     |false=>
      refine⟨fun s' he=>?_,?_⟩
      ·simp only[adB,hx]at he
       cases he
      ·simp only[lz,adB,hx]
       simp(disch:=omega)only[aA,↓aa,seval,-List.reduceReplicate,reduceCtorEq,ae,hlt,aJ (ax (f:=Term.row) ha) a.aB,vQ,hv,gc2,cj,N7]) (fun i s=>rfl) σ ⟨c,σ1,h3⟩
  rw[Xs g t.args 0 σ c σ1 h3]at h;cases c with
  |true=>
   obtain⟨_,h⟩:=h;obtain⟨c,σ2,k1,k2,k3,k4⟩:=Ky hr;simp only[pP]at k1
   have e:b=c∧σ'=σ2:=by
    cases c with
    |true=>have:=k3 rfl;simp only[Cb,fi,bI,qX]at this;exact⟨this.1.symm,this.2.symm⟩
    |false=>exact k4 rfl
   obtain⟨rfl,rfl⟩:=e;have gc3:∀vs,gc σ.length vs σ'=σ':=fun vs=>eP (by omega)
   have h':al P o9 (N7 g t 0) σ 22 none=_:=h;simp only[N7]at h'
   (rw[ft (aD rfl),ir];simp(disch:=omega)only[aA,↓aa,seval,-List.reduceReplicate,reduceCtorEq,ae,aO,Ac,h',lz,kY,k1,gc3])
  |false=>
   simp only[Cn,bI,qX]at hr;obtain⟨rfl,rfl⟩:=hr;have gc3:∀vs,gc σ.length vs σ1=σ1:=fun vs=>eP (by omega)
   obtain⟨⟨e,τ',σ2,nt',rd'⟩,g1,g2,g3,g4⟩:=h
   simp only at g2 g3 g4
   subst g2;subst g4;have h':al P o9 (N7 g t 0) σ 22 none=some (.ret,⟨τ',σ2,nt',rd'⟩):=g1;simp only[N7]at h'
   (rw[ft (aD rfl),ir];simp(disch:=omega)only[aA,↓aa,seval,-List.reduceReplicate,reduceCtorEq,ae,aO,Ac,h',g3,gc3])
end S
end Go.AE
namespace Go.AE.S
open Go Go.AE
variable {τ:Tm} {σ:ag} {rd:Option Nat}
theorem ae0{f:FuncId}{cap args:List AV}:sQ P (.fn f cap) args σ=lJ P f (args++cap) σ:=by rw[sQ.eq_def]
abbrev obY(n:Nat):Obj:=.av 1 [[.yield n]] false
theorem ap6{n:Nat}:uW σ 1 true (some [.yield n])=some (.ptr σ.length 1 0 0,σ++[obY n]):=rfl
theorem amy{n:Nat}:cellsOf 1 false (.yield n)=some [.yield n]:=rfl
theorem avE{n:Nat}:Mm 1 0 0 1 false (some (obY n))=some (.yield n):=rfl
theorem aka{f:FuncId}{b n i o:Nat}:Fw f [.ptr b n i o]=.fn f [.ptr b n i o]:=rfl
theorem aol(u:Term)(hc:u.count≤1000000)(m n:Nat)(σ σ':ag)(b:Bool)(hY:σ[m]?=some (obY n))(hr:round P n (pP u) σ=some (.p (.bool b),σ'))(hl:σ'.length=σ.length) :
  sQ P (.fn gu [.ptr m 1 0 0]) (pP u) σ=some (.p (.bool b),σ'):=by
 have hcp:=AG u hc;have gc3:∀vs,gc σ.length vs σ'=σ':=fun vs=>eP (by omega)
 rw[ae0,PT];simp only[pP,FD,x9]at hr ⊢
 (rw[ft (aD rfl),pK];simp(disch:=omega)only[aA,↓aa,seval,-List.reduceReplicate,reduceCtorEq,ae,hY,avE,tf,hcp,hr,gc3])
theorem apF(t:Term)(hc:t.count≤1000000)(n:Nat)(σ σ':ag)(b:Bool)(hl:σ'.length=σ.length)(hb:σ'.all (Obj.below σ.length)=true)
  (hg:fi P (.fn gu [.ptr σ.length 1 0 0]) (t.post.map pP) (σ++[obY n])=some (b,σ'++[obY n])):call P tV [.yield n,.p (.ptr t.row 0)] σ=some (.p (.jC []),σ'):=by
 have hp:=Wk _ t hc _ _ _ hg
 have gc3:gc σ.length [.p (.jC [])] (σ'++[obY n])=σ':=by
  unfold gc;rw[if_neg (by simp[hl])]
  have ht:(σ'++[obY n]).take σ.length=σ':=by rw[←hl];simp
  rw[if_pos (by simp only[Cm,ht,R6,abS,hb,MM,QM]),ht]
 (rw[ft (aD rfl),tV];simp(disch:=omega)only[aA,↓aa,seval,-List.reduceReplicate,reduceCtorEq,ae,amy,ap6,aka,vQ,hp,gc3])
theorem aer(t:Term):R P ss [.agg t.row]=some (.fn jR [.ptr t.row 0]):=by
 (rw[ad7 (aD rfl),yQ];simp(disch:=omega)only[aA,↓aa,seval,-List.reduceReplicate,reduceCtorEq,ae,Fw])
theorem ad9{S T:Type}{kept:List (Nat×AV)}{ps:List Nat}{hJ b:K}{nt:Nat}(t:Term)(hc:t.count≤1000000)(hps:nodup ps=true∧ps.all (· < nt)=true)
  (sto:S→ag) (f:Nat→S→Term→S ⊕ T) (out:T→Ex×ag) (ok:Nat→S→Prop) (s0:S) (hrd:ue rd (sto s0)=true)
  (hlen:∀s,(sto s).length=(sto s0).length) (hout:∀t,(out t).2.length=(sto s0).length)
  (hbel:∀s m,(sto s0).length≤m→(sto s).all (Obj.below m)=true) (hbelo:∀t m,(sto s0).length≤m→(out t).2.all (Obj.below m)=true) (hkb:(kept.all fun x=>below ((sto s0).length+1) x.2)=true) (hnn:∀t,(out t).1≠.normal)
  (hstep:∀(i:Nat) (a:Term) (s:S),t.post[i]?=some a→ok i s→(∀s',f i s a=.inl s'→ok (i+1) s') ∧
   round P (sto s0).length [.p (.agg a.row)] ((sto s++[.loop kept nt ps hJ b none])++[obY (sto s0).length])=(match f i s a with
    |.inl s'=>some (.p (.bool true),(sto s'++[.loop kept nt ps hJ b none])++[obY (sto s0).length])
    |.inr t=>some (.p (.bool false),((out t).2++[.loop kept nt ps hJ b (some (out t).1)])++[obY (sto s0).length])))
  (h0:ok 0 s0):nk P ps hJ b (.p (.fn jR [.ptr t.row 0])) kept (sto s0) nt rd=some (kQ sto out (aq f 0 s0 t.post)):=by
 have hpc:∀a∈t.post,a.count≤1000000:=by
  intro a ha
  have key:∀(t:Term),∀a∈t.pre,a.count≤t.count:=by
   intro t
   induction t using Term.ind with
   |h t ih=>
   intro a ha;rcases lV.1 ha with rfl|⟨b,hb,hab⟩
   ·exact rm _
   ·have h1:=ih b hb a hab
    have h2:=Term.cS hb;have h3:=Term.count_eq t;omega
  have:=key t a ((jG t a).1 ha);omega
 refine YG (α:={a:Term // a∈t.post}) (f0:=jR) (cap:=[.p (.ptr t.row 0)]) (g:=.fn gu [.ptr ((sto s0).length+1) 1 0 0]) rfl UQ hps [obY (sto s0).length] (fun a=>pP a.1) sto (fun i s a=>f i s a.1) out ok
  (t.post.attach) s0 hrd ?_ ?_ hlen hout hbel hbelo hkb hnn ?_ h0 |>.trans ?_
 ·intro a σ σ' bb h1 h2 hr
  exact aol a.1 (hpc a.1 a.2) _ _ _ _ _ (by rw[←h1];simp) hr (by simp[h1,h2])
 ·intro σ σ' bb h1 h2 hb hg
  refine⟨_,apF t hc _ σ σ' bb (by omega) (by rw[h1];exact hb) ?_⟩
  rw[h1]
  have e:(t.post.attach.map fun a:{a:Term // a∈t.post}=>pP a.1)=t.post.map pP:=by
   have:=List.attach_map_subtype_val t.post
   conv=>rhs;rw[←this]
   rw[ab3];rfl
  rw[←e];exact hg
 ·intro i a s ha hok
  have:t.post[i]?=some a.1:=by
   have:=congrArg (Option.map Subtype.val) ha;rw[←zA,List.attach_map_subtype_val]at this;exact this
  exact hstep i a.1 s this hok
 ·have e:∀(l:List {a:Term // a∈t.post}) (i:Nat) (s:S),aq (fun i s (a:{a:Term // a∈t.post})=>f i s a.1) i s l=aq f i s (l.map Subtype.val):=by
   intro l
   induction l with
   |nil=>intro i s;rfl
   |cons a l ih=>
    intro i s;simp only[aq,sP];cases f i s a.1 with
    |inl s'=>exact ih _ _
    |inr t=>rfl
  rw[e,List.attach_map_subtype_val]
def y3:List Term→Int
 | []=>0
 |a::r=>if ur a=0 then y3 r else ur a
abbrev Seen:=List (ByteArray×Int)
def Ft(e:ByteArray×Int):PV×AV:=(.str e.1,.p (.int .i64 e.2))
def SU:Seen→ByteArray→Option Int
 | [],_=>none
 |e::r,k=>if k=e.1 then some e.2 else SU r k
def stW(k:ByteArray)(w:Int):Seen→Seen
 | []=>[(k,w)]
 |e::r=>if k=e.1 then(k,w)::r else e::stW k w r
theorem E4(k:ByteArray):∀s:Seen,findKey .str (.str k) (s.map Ft)=some ((SU s k).map fun w=>.p (.int .i64 w))
 | []=>rfl
 |e::r=>by
  simp only[sP,findKey,Ft,DD,SU];by_cases h:k=e.1
  ·simp[h]
  ·simp only[h,decide_false,if_false]
   exact E4 k r
theorem Qn(k:ByteArray)(w:Int):∀s:Seen,uK .str (.str k) (.p (.int .i64 w)) (s.map Ft)=some ((stW k w s).map Ft)
 | []=>rfl
 |e::r=>by
  simp only[sP,uK,Ft,DD,stW];by_cases h:k=e.1
  ·simp[h,Ft]
  ·simp only[h,decide_false,if_false]
   rw[Qn k w r];rfl
theorem mj(n:Nat)(s:Seen):((s.map Ft).all fun e=>AE.below n e.2)=true:=by
 rw[Ca];intro x hx;obtain⟨e,_,rfl⟩:=E0.1 hx;exact MM
def ckB(s:Seen)(u:Term):Bool:=match SU s u.name with
 |some w=>decide (¬w=u.w)
 |none=>false
def Jr(_:Nat)(s:Bool×Seen)(u:Term):(Bool×Seen) ⊕ Int :=
 if ur u=0 then if u.op=1 then .inl (s.1 ||ckB s.2 u,stW u.name u.w s.2)else .inl s else .inr (ur u)
abbrev sK(e:Int)(s:Bool×Seen):ag:=[.pv 1 [[.int .i64 e]] false,.map (s.2.map Ft) false,.av 1 [[.map 1]] false,.pv 1 [[.bool s.1]] false]
theorem apj{a b c:Obj}{v w:Bool}{r:ag}:eM (a::b::c::.pv 1 [[.bool w]] false::r) 1 (.ptr 3 1 0 0) (.p (.bool v))=some (a::b::c::.pv 1 [[.bool v]] false::r):=rfl
theorem Zb{a b:Int}{k k':IntKind}{es:Nat}{r:ag}:RU (.pv es [[.int k a]] false::r) 0 1 0 0 [.p (.int k' b)] (some (.pv es [[.int k a]] false))=some (.pv es [[.int k' b]] false::r):=rfl
theorem aff{vs:List AV}{a b c d e f:Obj}:gc 6 vs [a,b,c,d,e,f]=[a,b,c,d,e,f]:=eP (by simp)
theorem ae3{b:Bool}:cellsOf 1 false (.p (.bool b))=some [.p (.bool b)]:=rfl
theorem Uw{v:PV}:uW σ 1 false (some [.p v])=some (.ptr σ.length 1 0 0,σ++[.pv 1 [[v]] false]):=rfl
theorem aj0{k:IntKind}{v:Int}{es:Nat}{fr:Bool}:Mm 1 0 0 1 false (some (.pv es [[.int k v]] fr))=some (.p (.int k v)):=rfl
theorem afr{v:Bool}{es:Nat}{fr:Bool}:Mm 1 0 0 1 false (some (.pv es [[.bool v]] fr))=some (.p (.bool v)):=rfl
theorem akM{t:Term}(ht:ia t):∀a∈t.post,ia a:=by
 intro a ha
 have key:∀t:Term,ia t→∀a∈t.pre,ia a:=by
  intro t
  induction t using Term.ind with
  |h t ih=>
  intro ht a ha;rcases lV.1 ha with rfl|⟨b,hb,hab⟩
  ·exact ht
  ·exact ih b hb (ht.args hb) a hab
 exact key t ht a ((jG t a).1 ha)
theorem adC{t:Term}:∀a∈t.post,a.count≤t.count:=by
 intro a ha
 have key:∀t:Term,∀a∈t.pre,a.count≤t.count:=by
  intro t
  induction t using Term.ind with
  |h t ih=>
  intro a ha;rcases lV.1 ha with rfl|⟨b,hb,hab⟩
  ·exact rm _
  ·have h1:=ih b hb a hab
   have h2:=Term.cS hb;have h3:=Term.count_eq t;omega
 exact key t a ((jG t a).1 ha)
theorem RJ(t:Term)(ht:ia t)(hc:t.count≤1000000):nk P [21] jV jW (.p (.fn jR [.ptr t.row 0])) [(2,.ptr 0 1 0 0),(5,.ptr 2 1 0 0),(6,.ptr 3 1 0 0)] (sK 0 (false,[])) 53 none =
  some (kQ (sK 0) (fun x:Int×(Bool×Seen)=>(.ret,sK x.1 x.2)) (aq (fun i s u=>match Jr i s u with|.inl s'=>.inl s'|.inr e=>.inr (e,s)) 0 (false,[]) t.post)):=by
 refine ad9 (rd:=none) (kept:=[(2,.ptr 0 1 0 0),(5,.ptr 2 1 0 0),(6,.ptr 3 1 0 0)]) (ps:=[21]) (hJ:=jV) (b:=jW) (nt:=53) t hc ⟨rfl,rfl⟩ (sK 0) (fun i s u=>match Jr i s u with|.inl s'=>.inl s'|.inr e=>.inr (e,s)) (fun x:Int×(Bool×Seen)=>(.ret,sK x.1 x.2))
  (fun _ _=>True) (false,[]) rfl (fun _=>rfl) (fun _=>rfl) (fun s m hm=>?_) (fun s m hm=>?_) (by simp[below]) (fun _=>by simp) (fun i u s ha _=>?_) trivial
 ·have:(1:Nat)<m:=by have:(4:Nat)≤m:=hm;omega
  simp only[sK,R6,abS,yu,ze,vK,mj,Bh,this,decide_true];rfl
 ·have:(1:Nat)<m:=by have:(4:Nat)≤m:=hm;omega
  simp only[sK,R6,abS,yu,ze,vK,mj,Bh,this,decide_true];rfl
 ·have hum:=mi ha
  have hut:=akM ht u hum;have huc:=adC u hum;have hul:=Term.dJ u.args;have huq:=Term.count_eq u;have hn:=Y5 u hut (by omega)
  refine⟨fun _ _=>trivial,?_⟩
  simp only[sK,FD,x9];rw[BP rfl ⟨rfl,rfl,rfl⟩];unfold Jr;rcases dB (ur u=0)with h0|h0
  rotate_left
  ·simp only[h0,if_false,jV,jW]
   simp(disch:=omega)only[aA,↓aa,seval,-List.reduceReplicate,reduceCtorEq,ae,Av,hn,h0,mj,Zb,aff]
  rcases dB (u.op=1)with h1|h1
  rotate_left
  ·simp only[h0,h1,if_true,if_false,jV,jW]
   simp(disch:=omega)only[aA,↓aa,seval,-List.reduceReplicate,reduceCtorEq,ae,Av,hn,h0,h1,mj,aff]
  have hfk:=E4 u.name s.2;have hsk:=Qn u.name u.w s.2;simp only[h0,h1,if_true];obtain⟨c,m⟩:=s;unfold ckB;cases hl:SU m u.name with
  |none=>
   rw[hl]at hfk;have hlk:=fun r a=>SX (r:=r) (a:=a) (z:=.p (.int .i64 0)) (kl:=.str) (k:=.str u.name) rfl hfk
   simp only[jV,jW];cases c<;>simp(disch:=omega)only[aA,↓aa,seval,-List.reduceReplicate,reduceCtorEq,ae,Av,hn,h0,h1,mj,hlk,Jh rfl hsk,apj,afr,Zb,aff,TB,G1,Bool.or_false]
  |some o=>
   rw[hl]at hfk;have hlk:=fun r a=>SY (r:=r) (a:=a) (z:=.p (.int .i64 0)) (kl:=.str) (k:=.str u.name) rfl hfk
   simp only[jV,jW];rcases dB (o=u.w)with h2|h2<;>cases c<;>simp(disch:=omega)only[aA,↓aa,seval,-List.reduceReplicate,reduceCtorEq,ae,Av,hn,h0,h1,mj,hlk,Jh rfl hsk,apj,afr,aff,h2,TB,G1,Bool.or_false]
def ckE(t:Term):Int:=match aq Jr 0 (false,[]) t.post with
 |.inl s=>if s.1=true then 12 else 0
 |.inr e=>e
def gZ(t:Term):Int:=if(t.deep:Int)≤64∧(t.count:Int)≤4096 then ckE t else 7
theorem I6(t:Term)(ht:ia t)(hc:t.count≤1000000):R P lS [.agg t.row]=some (.int .i64 (gZ t)):=by
 have hm:=Qm t ht 4096 64 (by omega) (by omega)
 unfold gZ;unfold DT at hm;by_cases h1:(t.deep:Int)≤64∧(t.count:Int)≤4096
 rotate_left
 ·rw[if_neg h1]at hm
  rw[if_neg h1]
  (rw[CC (aD rfl),nX];simp(disch:=omega)only[aA,↓aa,seval,-List.reduceReplicate,reduceCtorEq,ae,qu,hm,Zb,aj0])
 rw[if_pos h1]at hm;rw[if_pos h1];have hr:=RJ t ht hc;have hA:=aer t
 have hx:∀(l:List Term) (i:Nat) (s:Bool×Seen),(aq (fun i s u=>match Jr i s u with|.inl s'=>.inl s'|.inr e=>.inr (e,s)) i s l:(Bool×Seen) ⊕ (Int×(Bool×Seen)))=match aq Jr i s l with
   |.inl s'=>.inl s'
   |.inr e=>match(aq (fun i s u=>match Jr i s u with|.inl s'=>.inl s'|.inr e=>.inr (e,s)) i s l:(Bool×Seen) ⊕ (Int×(Bool×Seen)))with|.inl s'=>.inl s'|.inr x=>.inr (e,x.2):=by
  intro l
  induction l with
  |nil=>intro i s;rfl
  |cons a l ih=>
   intro i s;simp only[aq];cases Jr i s a with
   |inl s'=>exact ih _ _
   |inr e=>rfl
 unfold ckE;rw[hx]at hr;simp only[sK,Cb]at hr;cases hf:aq Jr 0 (false,[]) t.post with
 |inl s=>
  rw[hf]at hr;obtain⟨c,m⟩:=s;cases c<;>(rw[CC (aD rfl),nX];simp(disch:=omega)only[aA,↓aa,seval,-List.reduceReplicate,reduceCtorEq,ae,qu,hm,PS,hA,DP,hr,afr,aj0,Zb,ae3,Uw])
 |inr e=>
  rw[hf]at hr;cases hg:(aq (fun i s u=>match Jr i s u with|.inl s'=>.inl s'|.inr e=>.inr (e,s)) 0 (false,[]) t.post:(Bool×Seen) ⊕ (Int×(Bool×Seen)))with
  |inl s'=>
   exfalso;have:=hx t.post 0 (false,[])
   have key:∀(l:List Term) (i:Nat) (s s':Bool×Seen),(aq (fun i s u=>match Jr i s u with|.inl s'=>.inl s'|.inr e=>.inr (e,s)) i s l:(Bool×Seen) ⊕ (Int×(Bool×Seen)))=.inl s'→aq Jr i s l=.inl s':=by
    intro l
    induction l with
    |nil=>intro i s s' h;exact congrArg _ (Sum.inl.inj h)
    |cons a l ih=>
     intro i s s' h;simp only[aq]at h ⊢;cases hc:Jr i s a with
     |inl s1=>rw[hc]at h;exact ih _ _ _ h
     |inr e=>rw[hc]at h;cases h
   rw[key _ _ _ _ hg]at hf;cases hf
  |inr x=>
   rw[hg]at hr;obtain⟨e2,c,m⟩:=x
   (rw[CC (aD rfl),nX];simp(disch:=omega)only[aA,↓aa,seval,-List.reduceReplicate,reduceCtorEq,ae,qu,hm,PS,hA,DP,hr,afr,aj0,Zb,ae3,Uw])
def WO(a b:Term):Bool:=decide (a.op=1∧b.op=1∧a.name=b.name∧¬a.w=b.w)
def Rt(p:List Term):List Term→Bool
 | []=>false
 |u::r=>p.any (WO u) ||Rt (p++[u]) r
def asf(p:List Term)(m:Seen):Prop:=(∀k w,SU m k=some w→∃b∈p,b.op=1∧b.name=k∧b.w=w)∧∀b∈p,b.op=1→SU m b.name=some b.w
theorem UL(k:ByteArray)(w:Int)(k':ByteArray):∀m:Seen,SU (stW k w m) k'=if k'=k then some w else SU m k'
 | []=>by simp[stW,SU]
 |e::r=>by
  simp only[stW];by_cases h:k=e.1
  ·simp only[h,if_true,SU]
   by_cases h2:k'=e.1<;>simp[h2]
  ·simp only[h,if_false,SU]
   rw[UL k w k' r];by_cases h2:k'=e.1
   ·have:¬k'=k:=fun e'=>h (by rw[←e',h2])
    simp[h2,this];intro e';exact absurd e'.symm h
   ·simp[h2]
theorem amW{p:List Term}{m:Seen}(h:asf p m){u:Term}(hu:u.op=1):p.any (WO u)=ckB m u:=by
 unfold ckB;cases hl:SU m u.name with
 |none=>
  rw[ML];intro b hb;unfold WO;simp only[decide_eq_true_eq]
  rintro⟨_,h2,h3,_⟩
  have:=h.2 b hb h2;rw[←h3,hl]at this;cases this
 |some w=>
  simp only
  by_cases hw:w=u.w
  ·rw[decide_eq_false (fun h=>h hw),ML]
   intro b hb;unfold WO;simp only[decide_eq_true_eq]
   rintro⟨_,h2,h3,h4⟩
   have:=h.2 b hb h2;rw[←h3,hl,bI]at this;exact h4 (by rw[←this,hw])
  ·rw[decide_eq_true hw,abB]
   obtain⟨b,hb,h1,h2,h3⟩:=h.1 _ _ hl;refine⟨b,hb,?_⟩;unfold WO;exact decide_eq_true ⟨hu,h1,h2.symm,by rw[h3];exact fun e=>hw e.symm⟩
theorem amj{p:List Term}{u:Term}(hu:¬u.op=1):p.any (WO u)=false:=by
 rw[ML];intro b _;unfold WO;simp[hu]
theorem Ub:∀(r:List Term) (i:Nat) (m:Seen),(∀u∈r,ur u=0)→∃m',aq Jr i (true,m) r=.inl (true,m')
 | [],i,m,_=>⟨m,rfl⟩
 |u::r,i,m,h=>by
  have hr:∀v∈r,ur v=0:=fun v hv=>h v (by simp[hv])
  by_cases hu:u.op=1
  ·have hk:Jr i (true,m) u=.inl (true,stW u.name u.w m):=by
    unfold Jr;rw[if_pos (h u (by simp)),if_pos hu];simp
   simp only[aq,hk];exact Ub r (i+1) _ hr
  ·have hk:Jr i (true,m) u=.inl (true,m):=by
    unfold Jr;rw[if_pos (h u (by simp)),if_neg hu]
   simp only[aq,hk];exact Ub r (i+1) _ hr
theorem acH:∀(r p:List Term) (i:Nat) (m:Seen),(∀u∈r,ur u=0)→asf p m→∃m',aq Jr i (false,m) r=.inl (Rt p r,m')
 | [],p,i,m,_,_=>⟨m,rfl⟩
 |u::r,p,i,m,h,hi=>by
  have hr:∀v∈r,ur v=0:=fun v hv=>h v (by simp[hv])
  by_cases hu:u.op=1
  ·have hk:Jr i (false,m) u=.inl (ckB m u,stW u.name u.w m):=by
    unfold Jr;rw[if_pos (h u (by simp)),if_pos hu];simp
   simp only[aq,Rt,hk];rw[amW hi hu];cases hc:ckB m u with
   |true=>obtain⟨m',hm⟩:=Ub r (i+1) (stW u.name u.w m) hr;exact⟨m',by simpa using hm⟩
   |false=>
    simp only[G1];refine acH r (p++[u]) (i+1) _ hr ⟨fun k w hk=>?_,fun b hb hb1=>?_⟩
    ·rw[UL]at hk
     split at hk
     ·rename_i e
      cases hk;exact⟨u,by simp,hu,e.symm,rfl⟩
     ·obtain⟨b,hb,h1⟩:=hi.1 _ _ hk
      exact⟨b,by simp[hb],h1⟩
    ·rw[UL]
     rcases BZ.1 hb with hb|hb
     ·split
      ·rename_i e
       have h2:=hi.2 b hb hb1;unfold ckB at hc;rw[←e,h2]at hc;simp only[decide_eq_false_iff_not,VD]at hc;rw[hc]
      ·exact hi.2 b hb hb1
     ·rw[Gg]at hb
      subst hb;simp
  ·have hk:Jr i (false,m) u=.inl (false,m):=by
    unfold Jr;rw[if_pos (h u (by simp)),if_neg hu]
   simp only[aq,Rt,hk];rw[amj hu];simp only[G1];refine acH r (p++[u]) (i+1) _ hr ⟨fun k w hk=>?_,fun b hb hb1=>?_⟩
   ·obtain⟨b,hb,h1⟩:=hi.1 _ _ hk
    exact⟨b,by simp[hb],h1⟩
   ·rcases BZ.1 hb with hb|hb
    ·exact hi.2 b hb hb1
    ·rw[Gg]at hb
     subst hb;exact absurd hb1 hu
theorem aiQ:∀(r:List Term) (i:Nat) (s:Bool×Seen),¬y3 r=0→aq Jr i s r=.inr (y3 r)
 | [],i,s,h=>absurd rfl h
 |u::r,i,s,h=>by
  simp only[y3]at h ⊢;by_cases h0:ur u=0
  ·rw[if_pos h0]at h ⊢
   have hk:∃s',Jr i s u=.inl s':=by
    unfold Jr;rw[if_pos h0];by_cases hu:u.op=1
    ·rw[if_pos hu];exact⟨_,rfl⟩
    ·rw[if_neg hu];exact⟨_,rfl⟩
   obtain⟨s',hk⟩:=hk;simp only[aq,hk];exact aiQ r (i+1) _ h
  ·rw[if_neg h0]
   have hk:Jr i s u=.inr (ur u):=by unfold Jr;rw[if_neg h0]
   simp only[aq,hk]
theorem DF:∀{l:List Term},y3 l=0→∀u∈l,ur u=0
 | [],_,u,hu=>by simp at hu
 |a::l,h,u,hu=>by
  simp only[y3]at h;split at h
  ·rename_i h0
   rcases pn.1 hu with rfl|hu
   ·exact h0
   ·exact DF h u hu
  ·rename_i h0;exact absurd h h0
theorem acG(t:Term):ckE t=if ¬y3 t.post=0 then y3 t.post else if Rt [] t.post=true then 12 else 0:=by
 unfold ckE;by_cases h:y3 t.post=0
 ·rw[if_neg (fun h'=>h' h)]
  obtain⟨m',hm⟩:=acH t.post [] 0 [] (DF h) ⟨fun k w hk=>by simp[SU]at hk,fun b hb=>by simp at hb⟩
  rw[hm]
 ·rw[if_pos h,aiQ _ _ _ h]
theorem ald(v:V2)(u:Term):R P dY [.agg (ay v),.ptr u.row 0]=some (.bool (decide (v.name=u.name))):=by
 (rw[MA (aD rfl),oE];simp(disch:=omega)only[aA,↓aa,seval,-List.reduceReplicate,reduceCtorEq,ae,ay])
theorem Bn{α:Type}(q:α→Bool):∀(as:List α) (i:Nat),(∃n:Nat,aq (S:=Unit) (T:=Nat) (fun i _ a=>if q a=true then .inr i else .inl ()) i () as=.inr n∧as.any q=true)∨(aq (S:=Unit) (T:=Nat) (fun i _ a=>if q a=true then .inr i else .inl ()) i () as=.inl ()∧as.any q=false)
 | [],i=>.inr ⟨rfl,rfl⟩
 |a::as,i=>by
  by_cases h:q a=true
  ·exact .inl ⟨i,by simp only[aq,h,if_true],by simp[h]⟩
  ·rcases Bn q as (i+1)with⟨n,h1,h2⟩|⟨h1,h2⟩
   ·exact .inl ⟨n,by simp only[aq,h];exact h1,by simp[h2]⟩
   ·exact .inr ⟨by simp only[aq,h];exact h1,by simp[h2,h]⟩
abbrev N4(l:List V2)(u:Term)(i:Int):List (Nat×AV):=[(0,.p (.aM (l.map ay))),(1,.p (.fn dY [.ptr u.row 0])),(7,.p (.int .i64 l.length)),(8,.p (.int .i64 i))]
def isV(u:Term)(v:V2):Bool:=decide (v.name=u.name)
theorem YS(l:List V2)(u:Term)(hl:l.length≤1000000):R P bH [.aM (l.map ay),.fn dY [.ptr u.row 0]]=some (.bool (l.any (isV u))):=by
 have h:=cE (P:=P) (nt:=19) (lv:=[0,1,7,8]) (b:=cO) (rd:=none) (as:=l) (fun i (_:Unit)=>N4 l u i) (fun _=>[]) (fun i _ v=>if isV u v=true then .inr i else .inl ()) (fun(n:Nat)=>cj 4 (.int .i64 n) []) (fun _ _=>True)
  (fun i v s hv hi hs=>by
   refine⟨fun _ _=>trivial,?_⟩
   have hlt:((i:Int)<l.length)=True:=by simpa using hi
   have hr:=ald v u;have hx:=fun σ=>aJ (k:=.i64) (es:=2) (σ:=σ) (ax (f:=ay) hv) (by simp[ay])
   unfold isV;rcases dB (v.name=u.name)with h1|h1
   ·rw[decide_eq_true (of_eq_true h1)]at hr
    simp only[ay]at hr;simp only[cO,h1];simp(disch:=omega)only[aA,↓aa,seval,-List.reduceReplicate,reduceCtorEq,ae,hlt,hx,ay,C5,hr,N4,cj]
   ·rw[decide_eq_false (of_eq_false h1)]at hr
    simp only[ay]at hr;simp only[cO,h1];simp(disch:=omega)only[aA,↓aa,seval,-List.reduceReplicate,reduceCtorEq,ae,hlt,hx,ay,C5,hr,N4,cj]) (fun i s=>rfl) () trivial
 rcases Bn (isV u) l 0 with⟨n,h1,h2⟩|⟨h1,h2⟩
 ·rw[h1]at h
  obtain⟨⟨e',τ',σ',nt',rd'⟩,g1,g2,g3,g4⟩:=h
  simp only at g2 g3 g4
  subst g2;subst g4;have h':al P dN (N4 l u 0) [] 19 none=some (.ret,⟨τ',[],nt',rd'⟩):=g1;simp only[N4]at h'
  have hi:R P bA [.aM (l.map ay),.fn dY [.ptr u.row 0]]=some (.int .i64 n):=by
   (rw[kP (aD rfl),cm];simp(disch:=omega)only[aA,↓aa,seval,-List.reduceReplicate,reduceCtorEq,ae,aO,kd,h',g3])
  have hn:((n:Int) ≥ 0)=True:=by simp
  rw[h2]
  (rw[ji (aD rfl),bX];simp(disch:=omega)only[aA,↓aa,seval,-List.reduceReplicate,reduceCtorEq,ae,kM,hi,hn])
 ·rw[h1]at h
  obtain⟨_,h⟩:=h;have h':al P dN (N4 l u 0) [] 19 none=_:=h;simp only[N4]at h'
  have hi:R P bA [.aM (l.map ay),.fn dY [.ptr u.row 0]]=some (.int .i64 (-1)):=by
   (rw[kP (aD rfl),cm];simp(disch:=omega)only[aA,↓aa,seval,-List.reduceReplicate,reduceCtorEq,ae,aO,kd,h',cO,kY])
  rw[h2]
  (rw[ji (aD rfl),bX];simp(disch:=omega)only[aA,↓aa,seval,-List.reduceReplicate,reduceCtorEq,ae,kM,hi])
def yc(s:List V2)(u:Term):List V2:=if u.op=1∧s.any (isV u)=false then s++[⟨u.name,u.w⟩]else s
theorem aom(u:Term)(s:List V2)(hs:s.length≤1000000):sQ P (.fn fR [.ptr 1 1 0 0]) (pP u) (sV s)=some (.p (.bool true),sV (yc s u)):=by
 have hr:=YS s u hs;have hap:=dA (σ:=sV s++[.pv 2 [ay ⟨u.name,u.w⟩] false]) (b:=0) (n:=s.length) (e:=lK 2 s) (es:=2) (bytes:=24) (rows:=s.map ay) (new:=[ay ⟨u.name,u.w⟩]) rfl (by simp) (qO _ _ _) (by simp only[lH,l5];omega)
 simp only[sV,ay,FD,x9]at hap;rw[ae0,RB];unfold yc;simp only[pP,FD,x9];rcases dB (u.op=1)with h1|h1
 rotate_left
 ·rw[if_neg (fun h=>of_eq_false h1 h.1)]
  (rw[ft (aD rfl),mf];simp(disch:=omega)only[aA,↓aa,seval,-List.reduceReplicate,reduceCtorEq,ae,h1,Fw])
 cases hc:s.any (isV u)with
 |true=>
  rw[hc]at hr;rw[if_neg (by simp)]
  (rw[ft (aD rfl),mf];simp(disch:=omega)only[aA,↓aa,seval,-List.reduceReplicate,reduceCtorEq,ae,h1,Fw,aO,jh,hr,ay])
 |false=>
  rw[hc]at hr;rw[if_pos ⟨of_eq_true h1,rfl⟩]
  (rw[ft (aD rfl),mf];simp(disch:=omega)only[aA,↓aa,seval,-List.reduceReplicate,reduceCtorEq,ae,h1,Fw,aO,jh,hr,ay,hap,BY,jE,jd])
  simp only[sV,jd,BY,sP,Cb,ay,jE,lH,l5,tn]
def adD(g:AV)(s:ag)(a:Term):ag ⊕ ag:=match fi P g (a.pre.map pP) s with
 |some (true,s')=>.inl s'
 |some (false,s')=>.inr s'
 |none=>.inr s
theorem Xt(g:AV):∀(as:List Term) (i:Nat) (s:ag) (b:Bool) (s':ag),fi P g ((Term.Cw as).map pP) s=some (b,s')→aq (fun _ s a=>adD g s a) i s as=if b=true then .inl s' else .inr s'
 | [],i,s,b,s',h=>by
  simp only[Term.Cw,Cb,fi,bI,qX]at h;obtain⟨rfl,rfl⟩:=h;rfl
 |a::as,i,s,b,s',h=>by
  simp only[Term.Cw,BY,oR]at h;simp only[aq,adD];cases h1:fi P g (a.pre.map pP) s with
  |none=>rw[h1]at h;cases h
  |some x=>
   obtain⟨c,s1⟩:=x;rw[h1]at h;cases c with
   |true=>exact Xt g as (i+1) s1 b s' h
   |false=>
    simp only[Cn,bI,qX]at h;obtain⟨rfl,rfl⟩:=h;rfl
abbrev N8(g:AV)(t:Term)(i:Int):List (Nat×AV):=[(1,g),(12,.p (.aM (t.args.map Term.row))),(13,.p (.int .i64 t.args.length)),(14,.p (.int .i64 i))]
theorem Wl(g:AV)(t:Term):t.count≤1000000→∀(σ σ':ag) (b:Bool),fi P g (t.pre.map pP) σ=some (b,σ')→call P fq [.p (.agg t.row),g] σ=some (.p (.bool b),σ'):=by
 induction t using Term.ind with
 |h t ih=>
 intro hc σ σ' b hr;have hlen:=Term.dJ t.args;have hct:=Term.count_eq t;have hl:=vD _ _ _ _ hr;rw[Term.sx,sP]at hr;obtain⟨c,σ1,k1,k2,k3,k4⟩:=Ky hr;simp only[pP]at k1;have gc1:∀vs,gc σ.length vs σ1=σ1:=fun vs=>eP (by omega)
 have gc3:∀vs,gc σ.length vs σ'=σ':=fun vs=>eP (by omega)
 cases c with
 |false=>
  obtain⟨rfl,rfl⟩:=k4 rfl
  (rw[ft (aD rfl),fq];simp(disch:=omega)only[aA,↓aa,seval,-List.reduceReplicate,reduceCtorEq,ae,k1,gc1])
 |true=>
  have h3:=k3 rfl
  have h:=cE (P:=P) (nt:=23) (lv:=[1,12,13,14]) (b:=mN) (rd:=none) (as:=t.args) (fun i (_:ag)=>N8 g t i) (fun s=>s) (fun _ s a=>adD g s a) (fun s r=>cj 4 (.bool false) s r) (fun i s=>∃b s',fi P g ((Term.Cw (t.args.drop i)).map pP) s=some (b,s'))
   (fun i a s ha hi hs=>by
    obtain⟨b2,s2,hs⟩:=hs;have hm:=mi ha;have hac:=Term.cS hm;have hlt:((i:Int)<t.args.length)=True:=by simpa using hi
    have hd:t.args.drop i=a::t.args.drop (i+1):=by rw[abm hi];rw[oq hi]at ha;cases ha;rfl
    rw[hd]at hs;simp only[Term.Cw,BY,oR]at hs;cases hx:fi P g (a.pre.map pP) s with
    |none=>rw[hx]at hs;cases hs
    |some x=>
     obtain⟨c,s1⟩:=x;rw[hx]at hs;have hv:=ih a hm (by omega) s s1 c hx
     have hl1:=vD _ _ _ _ hx;have gc2:∀vs,gc s.length vs s1=s1:=fun vs=>eP (by omega)
     cases c with
     |true=>
      refine⟨fun s' he=>?_,?_⟩
      ·simp only[adD,hx]at he
       cases he;exact⟨_,_,hs⟩
      ·simp only[mN,adD,hx]
       simp(disch:=omega)only[aA,↓aa,seval,-List.reduceReplicate,reduceCtorEq,ae,hlt,aJ (ax (f:=Term.row) ha) a.aB,xK,hv,gc2,N8]
     |false=>
      refine⟨fun s' he=>?_,?_⟩
      ·simp only[adD,hx]at he
       cases he
      ·simp only[mN,adD,hx]
       simp(disch:=omega)only[aA,↓aa,seval,-List.reduceReplicate,reduceCtorEq,ae,hlt,aJ (ax (f:=Term.row) ha) a.aB,xK,hv,gc2,cj,N8]) (fun i s=>rfl) σ1 ⟨b,σ',h3⟩
  rw[Xt g t.args 0 σ1 b σ' h3]at h;cases b with
  |true=>
   obtain⟨_,h⟩:=h;have h':al P qK (N8 g t 0) σ1 23 none=_:=h;simp only[N8]at h'
   (rw[ft (aD rfl),fq];simp(disch:=omega)only[aA,↓aa,seval,-List.reduceReplicate,reduceCtorEq,ae,k1,aO,Bs,h',mN,kY,gc3])
  |false=>
   obtain⟨⟨e,τ',σ2,nt',rd'⟩,g1,g2,g3,g4⟩:=h
   simp only at g2 g3 g4
   subst g2;subst g4;have h':al P qK (N8 g t 0) σ1 23 none=some (.ret,⟨τ',σ2,nt',rd'⟩):=g1;simp only[N8]at h'
   (rw[ft (aD rfl),fq];simp(disch:=omega)only[aA,↓aa,seval,-List.reduceReplicate,reduceCtorEq,ae,k1,aO,Bs,h',g3,gc3])
theorem agY:∀(l:List Term) (i:Nat) (s:List V2),aq (T:=Empty) (fun _ s u=>.inl (yc s u)) i s l=.inl (l.foldl yc s):=fun l i s=>lU yc l i s
theorem VP{s:List V2}{u:Term}:(yc s u).length≤s.length+1:=by
 unfold yc;split<;>simp
theorem apW(t:Term)(hc:t.count≤1000000):fi P (.fn fR [.ptr 1 1 0 0]) (t.pre.map pP) (sV [])=some (true,sV (t.pre.foldl yc [])):=by
 have h:=Kz (P:=P) (g:=.fn fR [.ptr 1 1 0 0]) (n:=2) (T:=Empty) pP sV (fun _ s u=>.inl (yc s u)) (fun t=>nomatch t) (fun i s=>s.length≤i) (fun s=>rfl) (fun t=>nomatch t) t.pre
  (fun i a s ha hs=>by
   have hi:=(fU.1 ha).1;rw[Term.lX]at hi;refine⟨fun s' he=>?_,?_⟩
   ·cases he
    have:=VP (s:=s) (u:=a);omega
   ·exact aom a s (by omega)) t.pre 0 [] rfl (rm _)
 rw[agY]at h;exact h
theorem HB{α:Type}{lt:α→α→Bool}{x y:α}:∀{l:List α},y∈Dh lt x l↔y=x∨y∈l
 | []=>by simp[Dh]
 |z::r=>by
  unfold Dh;split
  ·simp only[pn,HB (l:=r)]
   constructor
   ·rintro(h|h|h)
    ·exact .inr (.inl h)
    ·exact .inl h
    ·exact .inr (.inr h)
   ·rintro(h|h|h)
    ·exact .inr (.inl h)
    ·exact .inl h
    ·exact .inr (.inr h)
  ·simp
theorem tc{α:Type}{lt:α→α→Bool}{y:α}:∀{l:List α},y∈dd lt l↔y∈l
 | []=>by simp[dd]
 |x::r=>by simp only[dd,HB,tc (l:=r),pn]
theorem vF{α β:Type}{lt:α→α→Bool}{lt':β→β→Bool}{f:α→β}(h:∀a b,lt' (f a) (f b)=lt a b):∀l:List α,dd lt' (l.map f)=(dd lt l).map f
 | []=>rfl
 |x::r=>by
  have ins:∀l:List α,Dh lt' (f x) (l.map f)=(Dh lt x l).map f:=by
   intro l
   induction l with
   |nil=>rfl
   |cons y l ih=>
    simp only[sP,Dh,h];split<;>simp[ih]
  simp only[sP,dd,vF h r,ins]
def GR(a b:V2):Bool:=slt a.name b.name
theorem Cv(a b:V2):XW (ay a) (ay b)=GR a b:=rfl
def zL(l:List V2):Prop:=l.Pairwise fun a b=>a.name≠b.name
theorem Sa:∀{l:List V2},zL l→Jt XW (l.map ay)=true
 | [],_=>rfl
 |a::l,h=>by
  have h:=LQ.1 h;simp only[sP,Jt,Sa h.2,abR,List.all_map,Ca];intro b hb
  show(XW (ay a) (ay b) ||XW (ay b) (ay a))=true
  rw[Cv,Cv];rcases rU a.name b.name with h1|h1|h1
  ·simp[GR,h1]
  ·exact absurd h1 (h.1 b hb)
  ·simp[GR,h1]
theorem TD(l:List V2):(l.map ay).all okV=true:=by
 induction l with
 |nil=>rfl
 |cons a l ih=>simp[ay,okV]
def M8(l:List V2):Prop:=l.Pairwise fun a b=>GR a b=true
theorem SJ{x:V2}:∀{l:List V2},M8 l→(∀y∈l,y.name≠x.name)→M8 (Dh GR x l)
 | [],_,_=>by simp[Dh,M8]
 |z::r,hs,hn=>by
  have hs':=LQ.1 hs;unfold Dh;split
  ·rename_i hz
   refine LQ.2 ⟨fun y hy=>?_,SJ hs'.2 fun y hy=>hn y (by simp[hy])⟩
   rcases HB.1 hy with rfl|hy
   ·exact hz
   ·exact hs'.1 y hy
  ·rename_i hz
   have hx:GR x z=true:=by
    rcases rU x.name z.name with h1|h1|h1
    ·exact h1
    ·exact absurd h1.symm (hn z (by simp))
    ·exact absurd h1 hz
   refine LQ.2 ⟨fun y hy=>?_,hs⟩
   rcases pn.1 hy with rfl|hy
   ·exact hx
   ·exact tk hx (hs'.1 y hy)
theorem Gv:∀{l:List V2},zL l→M8 (dd GR l)
 | [],_=>by simp[dd,M8]
 |x::r,h=>by
  have h:=LQ.1 h;exact SJ (Gv h.2) fun y hy=>fun e=>h.1 y (tc.1 hy) e.symm
theorem Ki:∀{l m:List V2},M8 l→M8 m→(∀x,x∈l↔x∈m)→l=m
 | [],[],_,_,_=>rfl
 | [],b::m,_,_,h=>by have:=(h b).2 (by simp);simp at this
 |a::l,[],_,_,h=>by have:=(h a).1 (by simp);simp at this
 |a::l,b::m,hl,hm,h=>by
  have hl':=LQ.1 hl;have hm':=LQ.1 hm
  have hab:a=b:=by
   rcases pn.1 ((h a).1 (by simp))with e|e
   ·exact e
   ·rcases pn.1 ((h b).2 (by simp))with e'|e'
    ·exact e'.symm
    ·have h1:=hm'.1 a e
     have h2:=hl'.1 b e';unfold GR at h1 h2;rw[rB h1]at h2;cases h2
  subst hab;rw[Ki hl'.2 hm'.2 fun x=>⟨fun hx=>?_,fun hx=>?_⟩]
  ·rcases pn.1 ((h x).1 (by simp[hx]))with e|e
   ·subst e
    exact absurd rfl (Kh (hl'.1 x hx))
   ·exact e
  ·rcases pn.1 ((h x).2 (by simp[hx]))with e|e
   ·subst e
    exact absurd rfl (Kh (hm'.1 x hx))
   ·exact e
theorem age{s:List V2}{u:Term}(h:zL s):zL (yc s u):=by
 unfold yc;split
 ·rename_i hc
  refine List.pairwise_append.2 ⟨h,by simp,fun a ha b hb=>?_⟩
  have hb:b=⟨u.name,u.w⟩:=by simpa using hb
  subst hb;intro e;have:=ML.1 hc.2 a ha;exact this (decide_eq_true e)
 ·exact h
theorem Gh:∀{l:List Term} {s:List V2},zL s→zL (l.foldl yc s)
 | [],_,h=>h
 |u::l,s,h=>Gh (l:=l) (age h)
theorem R8:∀{l:List Term} {s:List V2},(l.foldl yc s).length≤s.length+l.length
 | [],s=>by simp
 |u::l,s=>by
  have h1:=R8 (l:=l) (s:=yc s u);have h2:=VP (s:=s) (u:=u);simp only[QL,lH];omega
def nr(t:Term):List V2:=dd GR (t.pre.foldl yc [])
theorem apG(l:List V2)(hd:zL l)(hl:l.length≤1000000):lJ P bf [.sl 0 l.length,.p (.fn dO [])] (sV l)=some (.p (.jC []),sV (dd GR l)):=by
 rw[k6]
 have hlen:(dd GR l).length=l.length:=by
  have:∀l:List V2,(dd GR l).length=l.length:=by
   intro l
   induction l with
   |nil=>rfl
   |cons a l ih=>
    have ins:∀m:List V2,(Dh GR a m).length=m.length+1:=by
     intro m
     induction m with
     |nil=>rfl
     |cons b m ih=>simp only[Dh];split<;>simp[ih]
    simp[dd,ins,ih]
  exact this l
 have he:lK 2 (dd GR l)=lK 2 l:=by
  cases l with
  |nil=>rfl
  |cons a l=>
   cases hi:dd GR (a::l)with
   |nil=>rw[hi]at hlen;simp at hlen
   |cons b m=>rfl
 have hrow:l.map ay=[]∨lK 2 l=2:=by cases l with|nil=>exact .inl rfl|cons a l=>exact .inr rfl
 have key:xn 2 dO okV XW [.sl 0 l.length,.p (.fn dO [])] (sV l)=some (.p (.jC []),sV (dd GR l)):=by
  simp only[xn,sV,if_true,QS];rw[if_pos ⟨by simp,by omega,hrow,TD l,Sa hd⟩]
  simp only[abc,vF Cv,he,hlen]
 unfold yw;rw[key];rfl
theorem LI(t:Term)(hc:t.count≤1000000):R P nL [.agg t.row]=some (.aM ((nr t).map ay)):=by
 have hg:=apW t hc;have hlen:=R8 (l:=t.pre) (s:=[]);rw[Term.lX,l5]at hlen;have hs:=apG (t.pre.foldl yc []) (Gh (by simp[zL])) (by omega)
 have hp:=Wl _ t hc _ _ _ hg;have gc2:∀(a b:Obj) vs,gc 2 vs [a,b]=[a,b]:=fun a b vs=>eP (by simp)
 have hp':call P fq [.p (.agg t.row),.fn fR [.ptr 1 1 0 0]] [.pv 0 [] false,.av 1 [[.sl 0 0]] false]=some (.p (.bool true),sV (t.pre.foldl yc [])):=hp;have hz:nr t=dd GR (t.pre.foldl yc []):=rfl;rw[hz];generalize t.pre.foldl yc []=l at *;generalize dd GR l=m at *;simp only[sV]at hs hp'
 (rw[YC (aD rfl),w7];simp(disch:=omega)only[aA,↓aa,seval,-List.reduceReplicate,reduceCtorEq,ae,aka,xK,hp',hs,gc2,aO])
theorem aoY{vs:List AV}{a b c d:Obj}:gc 4 vs [a,b,c,d]=[a,b,c,d]:=eP (by simp)
theorem aoZ{vs:List AV}{a b c d e:Obj}:gc 4 vs [a,b,c,d,e]=if Cm 4 vs [a,b,c,d,e]=true then[a,b,c,d]else[a,b,c,d,e]:=by unfold gc;rw[if_neg (by simp)];rfl
def T3(x y z:Int):Prop:=(x≤0∧y≤0→z≤0∧(z=0→x=0∧y=0))∧(x=0→z=y)∧(y=0→z=x)
def or2(x y:Int):Int:=if x=0 then y else x
theorem T3.or{x y z x' y' z':Int}(h:T3 x y z)(h':T3 x' y' z'):T3 (or2 x x') (or2 y y') (or2 z z'):=by
 unfold T3 or2 at *;obtain⟨h1,h2,h3⟩:=h;obtain⟨k1,k2,k3⟩:=h';split<;>split<;>split<;>omega
theorem arB{a b:ByteArray}(h:slt a b=true):vu a b = -1:=by rw[Bk,if_neg (Kh h),if_pos h]
theorem arz(a:ByteArray):vu a a=0:=by rw[Bk,if_pos rfl]
theorem arA{a b:ByteArray}(h:slt b a=true):vu a b=1:=by rw[Bk,if_neg (fun e=>Kh h e.symm),if_neg (by rw[rB h];simp)]
def R3(x:Int):Prop:=x = -1∨x=0∨x=1
theorem R3.or{x y:Int}(h:R3 x)(h':R3 y):R3 (or2 x y):=by unfold or2;split<;>assumption
end Go.AE.S
