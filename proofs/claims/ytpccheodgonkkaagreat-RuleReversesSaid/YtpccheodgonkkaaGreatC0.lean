import Derived.Test.YtpccheodgonkkaaGreatB0
set_option maxHeartbeats 0
set_option linter.unusedSimpArgs false
set_option linter.unusedVariables false
namespace Go.AE.S
open Go Go.AE
variable {τ:Tm} {σ:ah} {rd:Option Nat}
theorem gh(o:Int):R P iL [.int .i64 o]=some (.bool (decide (24≤o∧o≤26))):=by
 (rw[KQ (aD rfl),nn];simp(disch:=omega)only[aB,↓aa,seval,-List.reduceReplicate,reduceCtorEq,ae])
 by_cases h1:24≤o<;>by_cases h2:o≤26<;>simp(disch:=omega)only[aB,↓aa,seval,-List.reduceReplicate,reduceCtorEq,ae,h1,h2]<;>rfl
theorem Yp{α:Type}:∀(l s:List α),l.foldl (fun s a=>s++[a]) s=s++l
 | [],s=>by simp
 |a::l,s=>by rw[S1,Yp l];simp
theorem atF{vs:List AV}{a b c d e f g:Obj}:gc 6 vs [a,b,c,d,e,f,g]=if C2 6 vs [a,b,c,d,e,f,g]=true then[a,b,c,d,e,f]else[a,b,c,d,e,f,g]:=by unfold gc;rw[if_neg (by simp)];rfl
abbrev sC0(t:Term)(s:List Term):ah:=[.pv 0 [] false,.av 5 [z5 0] false,.av 5 [[.p (.int .i64 t.op),.p (.int .i64 t.w),.p (.int .u64 t.v),.p (.str t.name),.sl 3 s.length]] false,.pv (mX 5 s) (s.map Term.row) false]
abbrev afV(t:Term)(i:Int):List (Nat×AV):=[(2,.ptr 1 1 0 0),(3,.ptr 2 1 0 0),(9,.p (.aO (t.args.map Term.row))),(10,.p (.int .i64 t.args.length)),(11,.p (.int .i64 i))]
theorem ud(t:Term):t.count≤1000000→R P fX [.agg t.row]=some (.agg t.row):=by
 induction t using Term.ind with
 |h t ih=>
 intro hc;have hlen:=Term.dL t.args;have hct:=Term.count_eq t
 obtain⟨hk,h⟩:=fY (P:=P) (nt:=24) (lv:=[2,3,9,10,11]) (b:=yE) (rd:=none) (as:=t.args) (fun i (_:List Term)=>afV t i) (sC0 t) (fun _ s a=>s++[a]) (fun i s=>s.length=i)
  (fun i a s ha hi hs=>by
   have hm:=mR ha;have hac:=Term.cJ hm;have hr:=ih a hm (by omega)
   have hlt:((i:Int)<t.args.length)=True:=by simpa using hi
   have hap:=dP (σ:=sC0 t s++[.pv 5 [a.row] false]) (b:=3) (n:=s.length) (e:=mX 5 s) (es:=5) (bytes:=64) (rows:=s.map Term.row) (new:=[a.row]) rfl (by simp) (sq _ _ _) (by simp only[lZ,nz];omega)
   simp only[sC0,z5,F9,y8]at hap;refine⟨by simp[hs],?_⟩
   simp only[yE];simp(disch:=omega)only[aB,↓aa,seval,-List.reduceReplicate,reduceCtorEq,ae,hlt,aH (aw (f:=Term.row) ha) a.az,qV,hr,sC0,z5,hap,CR,jS,kM,afV,atF]) (fun i s=>rfl) [] (by simp) _ (kD _ t.args 0 [])
 rw[Yp,y8]at h;have h':al P CM (afV t 0) [.pv 0 [] false,.av 5 [z5 0] false,.av 5 [[.p (.int .i64 t.op),.p (.int .i64 t.w),.p (.int .u64 t.v),.p (.str t.name),.sl 3 0]] false,.pv 0 [] false] 24 none=_:=h;simp only[z5,sC0]at h'
 (rw[Zl (aD rfl),xJ];simp(disch:=omega)only[aB,↓aa,seval,-List.reduceReplicate,reduceCtorEq,ae,aR,Vp,h',yE,lH,afV])
 rw[Term.a6]
end Go.AE.S
namespace Go.AE
namespace Term
end Term
namespace S
open Go Go.AE
variable {τ:Tm} {σ:ah} {rd:Option Nat}
end S
end Go.AE
namespace Go.AE.S
open Go Go.AE
variable {τ:Tm} {σ:ah} {rd:Option Nat}
theorem atN{b m e j:Nat}{rows:List (List PV)}{fr:Bool}{σ:ah}(h:σ[b]?=some (.pv e rows fr))(hl:rows.length=m)(hj:j<m)(he:e=5):gj σ 5 (.sl b m) (.p (.int .i64 j))=some (.ptr b m j 0):=by
 subst he;unfold gj;simp[nE,SP,h,Obj.R9,hl,hj]
def DX(t:Term)(d n:Int):Int:=if(t.deep:Int)≤d∧(t.count:Int)≤n then n-t.count else -1
def R6(l:List Term)(d n:Int):Int:=if(Term.iB l:Int)≤d∧(Term.counts l:Int)≤n then n-Term.counts l else -1
def ag9(d:Int)(_:Nat)(s:Int)(a:Term):Int ⊕ Unit:=if 0≤s then .inl (DX a d s)else .inr ()
theorem Yg(d:Int)(hd:0≤d):∀(l:List Term) (i:Nat) (s:Int),0≤s→match aq (ag9 d) i s l with|.inl s'=>s'=R6 l d s|.inr _=>R6 l d s = -1
 | [],i,s,hs=>by
  have e1:Term.iB []=0:=rfl;have e2:Term.counts []=0:=rfl;simp only[aq];unfold R6;rw[if_pos (by omega)];omega
 |a::l,i,s,hs=>by
  simp only[aq,ag9,hs,if_true];by_cases h:(a.deep:Int)≤d∧(a.count:Int)≤s
  ·have e:DX a d s=s-a.count:=by unfold DX;rw[if_pos h]
   rw[e];have ih:=Yg d hd l (i+1) (s-a.count) (by omega)
   have e2:R6 (a::l) d s=R6 l d (s-a.count):=by
    have e1:Term.iB (a::l)=max a.deep (Term.iB l):=rfl;have e2:Term.counts (a::l)=a.count+Term.counts l:=rfl;unfold R6;by_cases h2:(Term.iB l:Int)≤d∧(Term.counts l:Int)≤s-a.count
    ·rw[if_pos h2,if_pos (by omega)];omega
    ·rw[if_neg h2,if_neg (by omega)]
   rw[e2];exact ih
  ·have e:DX a d s = -1:=by unfold DX;rw[if_neg h]
   have e2:R6 (a::l) d s = -1:=by
    have e1:Term.iB (a::l)=max a.deep (Term.iB l):=rfl;have e2:Term.counts (a::l)=a.count+Term.counts l:=rfl;unfold R6;rw[if_neg (by omega)]
   rw[e,e2];cases l with
   |nil=>rfl
   |cons b l=>simp only[aq,ag9,if_neg (show ¬(0:Int) ≤ -1 by omega)]
theorem am8(t:Term)(d n:Int)(hd:1≤d)(hn:1≤n):DX t d n=R6 t.args (d-1) (n-1):=by
 unfold DX R6;rw[Term.xe,Term.count_eq];by_cases h:((Term.iB t.args:Nat):Int)≤d-1∧((Term.counts t.args:Nat):Int)≤n-1
 ·rw[if_pos h,if_pos (by omega)];omega
 ·rw[if_neg h,if_neg (by omega)]
theorem XP(t:Term)(d n:Int)(h:d<1∨n<1):DX t d n = -1:=by
 unfold DX;rw[Term.xe,Term.count_eq,if_neg (by omega)]
theorem am9(t:Term)(d n:Int):(0≤DX t d n∧DX t d n≤n)∨DX t d n = -1:=by
 unfold DX;split
 ·left;omega
 ·right;rfl
abbrev adK(t:Term)(d s i:Int):List (Nat×AV):=[(1,.p (.int .i64 d)),(2,.p (.int .i64 s)),(3,.p (.ptr t.row 0)),(7,.p (.int .i64 i))]
def apB(r:Ex×St):Prop:=r.1=.exit 0∧r.2.τ.get 2=.p (.int .i64 (-1))∧r.2.σ=[]∧r.2.nt=37
theorem ZH(t:Term):iD t→∀d n:Int,d≤1000000→n≤1000000→R P nY [.agg t.row,.int .i64 d,.int .i64 n]=some (.int .i64 (DX t d n)):=by
 induction t using Term.ind with
 |h t ih=>
 intro ht d n hd hn;by_cases h1:d<1
 ·rw[XP t d n (.inl h1)]
  (rw[Bo (aD rfl),nT];simp(disch:=omega)only[aB,↓aa,seval,-List.reduceReplicate,reduceCtorEq,ae,h1])
 by_cases h2:n<1
 ·rw[XP t d n (.inr h2)]
  (rw[Bo (aD rfl),nT];simp(disch:=omega)only[aB,↓aa,seval,-List.reduceReplicate,reduceCtorEq,ae,h1,h2])
 rw[am8 t d n (by omega) (by omega)]
 have hlen:=ht.len
 have h:=cE (P:=P) (nt:=37) (lv:=[1,2,3,7]) (b:=ur) (rd:=none) (as:=t.args) (fun i (s:Int)=>adK t d s i) (fun _=>[]) (ag9 (d-1)) (fun _=>apB) (fun i s=>(0≤s∧s≤1000000)∨s = -1)
  (fun i a s ha hi hs=>by
   have hm:=mR ha;have hlt:((i:Int)<t.args.length)=True:=by simpa using hi
   have hw:IntKind.i64.wrap (d-1)=d-1:=IntWalk.i64_in _ (by omega)
   unfold ag9;by_cases h0:0≤s
   ·have hr:=ih a hm (ht.args hm) (d-1) s (by omega) (by omega)
    have hin:=am9 a (d-1) s;simp only[h0,if_true];refine⟨fun s' he=>(by simp only[abw]at he;subst he;omega),?_⟩
    simp only[ur];simp(disch:=omega)only[aB,↓aa,seval,-List.reduceReplicate,reduceCtorEq,ae,hlt,h0,hw,aR,aH (aw (f:=Term.row) ha) a.az,Fl,hr,adK]
   ·have hs1:s = -1:=by omega
    subst hs1;refine⟨fun s' he=>(by simp at he),?_⟩
    simp only[ur];simp(disch:=omega)only[aB,↓aa,seval,-List.reduceReplicate,reduceCtorEq,ae,hlt,h0,aR,adK,apB]) (fun i s=>rfl) (n-1) (by omega)
 have hw1:IntKind.i64.wrap (n-1)=n-1:=IntWalk.i64_in _ (by omega)
 have hf:=Yg (d-1) (by omega) t.args 0 (n-1) (by omega)
 cases hfe:aq (ag9 (d-1)) 0 (n-1) t.args with
 |inr _=>
  rw[hfe]at h hf;obtain⟨⟨e,τ',σ',nt',rd'⟩,g1,g2,g3,g4,g5⟩:=h
  simp only at g2 g3 g4 g5 hf
  subst g2;subst g4;subst g5;have h':al P yH (adK t d (n-1) 0) [] 37 none=_:=g1;simp only[adK]at h';rw[hf]
  (rw[Bo (aD rfl),nT];simp(disch:=omega)only[aB,↓aa,seval,-List.reduceReplicate,reduceCtorEq,ae,h1,h2,hw1,Iz,h',g3])
 |inl s'=>
  rw[hfe]at h hf
  simp only at hf
  obtain⟨hk,g1⟩:=h;have h':al P yH (adK t d (n-1) 0) [] 37 none=_:=g1;simp only[adK]at h';rw[←hf]
  (rw[Bo (aD rfl),nT];simp(disch:=omega)only[aB,↓aa,seval,-List.reduceReplicate,reduceCtorEq,ae,h1,h2,hw1,Iz,h',ur,lH,aR])
def EF(t:Term)(n d:Int):List PV:=if(t.deep:Int)≤d∧(t.count:Int)≤n then[.int .i64 (n-t.count),.bool true]else[.int .i64 0,.bool false]
def mF(d:Int)(_:Nat)(s:Int)(a:Term):Int ⊕ Unit:=if(a.deep:Int)≤d∧(a.count:Int)≤s then .inl (s-a.count)else .inr ()
theorem ajT(d:Int):∀(l:List Term) (i:Nat) (s:Int),aq (mF d) i s l=if(((Term.iB l:Nat):Int)≤d∧((Term.counts l:Nat):Int)≤s)∨l=[]then .inl (s-Term.counts l)else .inr ()
 | [],i,s=>by
  have e2:Term.counts []=0:=rfl;rw[if_pos (.inr rfl),e2];simp[aq]
 |a::l,i,s=>by
  have e1:Term.iB (a::l)=max a.deep (Term.iB l):=rfl;have e2:Term.counts (a::l)=a.count+Term.counts l:=rfl;have hne:¬a::l=[]:=by simp
  simp only[aq,mF];by_cases h:(a.deep:Int)≤d∧(a.count:Int)≤s
  ·simp only[h,and_self,if_true]
   rw[ajT d l (i+1)];by_cases h2:l=[]
   ·subst h2
    have e3:Term.iB []=0:=rfl;have e4:Term.counts []=0:=rfl;rw[if_pos (.inr rfl),if_pos (.inl (by omega))]
    congr 1;omega
   ·by_cases h3:((Term.iB l:Nat):Int)≤d∧((Term.counts l:Nat):Int)≤s-a.count
    ·rw[if_pos (.inl h3),if_pos (.inl (by omega))]
     congr 1;omega
    ·rw[if_neg (fun h=>h.elim h3 h2),if_neg (fun h=>h.elim (fun h=>h3 (by omega)) hne)]
  ·rw[if_neg h,if_neg (fun h'=>h'.elim (fun h'=>h (by omega)) hne)]
abbrev adM(t:Term)(d s i:Int):List (Nat×AV):=[(1,.p (.int .i64 s)),(2,.p (.int .i64 d)),(21,.p (.aO (t.args.map Term.row))),(22,.p (.int .i64 t.args.length)),(23,.p (.int .i64 i))]
def apC(r:Ex×St):Prop:=r.1=.ret∧r.2.τ.get 6=.p (.int .i64 0)∧r.2.τ.get 7=.p (.bool false)∧r.2.σ=[]
theorem Rc(t:Term):iD t→∀n d:Int,d≤1000000→n≤1000000→R P jq [.agg t.row,.int .i64 n,.int .i64 d]=some (.jY (EF t n d)):=by
 induction t using Term.ind with
 |h t ih=>
 intro ht n d hd hn;have hde:=Term.xe t;have hco:=Term.count_eq t;by_cases h1:n<1
 ·have e:EF t n d=[.int .i64 0,.bool false]:=by unfold EF;rw[if_neg (by omega)]
  rw[e]
  (rw[vB (aD rfl),jj];simp(disch:=omega)only[aB,↓aa,seval,-List.reduceReplicate,reduceCtorEq,ae,h1])
 by_cases h2:d<1
 ·have e:EF t n d=[.int .i64 0,.bool false]:=by unfold EF;rw[if_neg (by omega)]
  rw[e]
  (rw[vB (aD rfl),jj];simp(disch:=omega)only[aB,↓aa,seval,-List.reduceReplicate,reduceCtorEq,ae,h1,h2])
 have hlen:=ht.len
 have h:=cE (P:=P) (nt:=40) (lv:=[1,2,21,22,23]) (b:=oT) (rd:=none) (as:=t.args) (fun i (s:Int)=>adM t d s i) (fun _=>[]) (mF (d-1)) (fun _=>apC) (fun i s=>0≤s∧s≤1000000)
  (fun i a s ha hi hs=>by
   have hm:=mR ha;have hlt:((i:Int)<t.args.length)=True:=by simpa using hi
   have hw:IntKind.i64.wrap (d-1)=d-1:=IntWalk.i64_in _ (by omega)
   have hr:=ih a hm (ht.args hm) s (d-1) (by omega) (by omega)
   unfold mF;unfold EF at hr;by_cases h0:(a.deep:Int)≤d-1∧(a.count:Int)≤s
   ·rw[if_pos h0]at hr
    rw[if_pos h0];refine⟨fun s' he=>(by simp only[abw]at he;subst he;omega),?_⟩
    simp only[oT];simp(disch:=omega)only[aB,↓aa,seval,-List.reduceReplicate,reduceCtorEq,ae,hlt,hw,aH (aw (f:=Term.row) ha) a.az,qX,hr,adM]
   ·rw[if_neg h0]at hr
    rw[if_neg h0];refine⟨fun s' he=>(by simp at he),?_⟩
    simp only[oT];simp(disch:=omega)only[aB,↓aa,seval,-List.reduceReplicate,reduceCtorEq,ae,hlt,hw,aH (aw (f:=Term.row) ha) a.az,qX,hr,adM,apC]) (fun i s=>rfl) (n-1) (by omega)
 have hw1:IntKind.i64.wrap (n-1)=n-1:=IntWalk.i64_in _ (by omega)
 rw[ajT]at h;by_cases hc:((Term.iB t.args:Nat):Int)≤d-1∧((Term.counts t.args:Nat):Int)≤n-1∨t.args=[]
 ·rw[if_pos hc]at h
  obtain⟨hk,g1⟩:=h;have h':al P sj (adM t d (n-1) 0) [] 40 none=_:=g1;simp only[adM]at h'
  have e:EF t n d=[.int .i64 (n-1-Term.counts t.args),.bool true]:=by
   unfold EF;have hd0:t.args=[]→Term.iB t.args=0∧Term.counts t.args=0:=fun h=>by rw[h];exact⟨rfl,rfl⟩
   rw[if_pos (by rcases hc with hc|hc;omega;have:=hd0 hc;omega)]
   congr 2;omega
  rw[e]
  (rw[vB (aD rfl),jj];simp(disch:=omega)only[aB,↓aa,seval,-List.reduceReplicate,reduceCtorEq,ae,h1,h2,hw1,aR,Dv,h',oT,lH])
 ·rw[if_neg hc]at h
  obtain⟨⟨e,τ',σ',nt',rd'⟩,g1,g2,g3,g4,g5⟩:=h
  simp only at g2 g3 g4 g5
  subst g2;subst g5;have h':al P sj (adM t d (n-1) 0) [] 40 none=_:=g1;simp only[adM]at h'
  have e:EF t n d=[.int .i64 0,.bool false]:=by
   unfold EF;rw[if_neg (by simp only[not_or]at hc;omega)]
  rw[e]
  (rw[vB (aD rfl),jj];simp(disch:=omega)only[aB,↓aa,seval,-List.reduceReplicate,reduceCtorEq,ae,h1,h2,hw1,aR,Dv,h',g3,g4])
def ad9(t:Term)(d n:Int):List PV:=if(t.deep:Int)≤d∧(t.count:Int)≤n then[.agg t.row,.bool true]else[.agg zT.row,.bool false]
theorem ZG(t:Term)(ht:iD t)(d n:Int)(hd:d≤1000000)(hn:n≤1000000):R P qE [.agg t.row,.int .i64 d,.int .i64 n]=some (.jY (ad9 t d n)):=by
 have h:=ZH t ht d n hd hn;unfold ad9;by_cases hc:(t.deep:Int)≤d∧(t.count:Int)≤n
 ·have h0:(DX t d n<0)=False:=by unfold DX;rw[if_pos hc];simp;omega
  rw[if_pos hc]
  (rw[Mo (aD rfl),tu];simp(disch:=omega)only[aB,↓aa,seval,-List.reduceReplicate,reduceCtorEq,ae,Fl,h,h0,z5])
 ·have h0:(DX t d n<0)=True:=by unfold DX;rw[if_neg hc];simp
  rw[if_neg hc]
  (rw[Mo (aD rfl),tu];simp(disch:=omega)only[aB,↓aa,seval,-List.reduceReplicate,reduceCtorEq,ae,Fl,h,h0,z5])
  simp[Wu]
abbrev adO(l m:List Term)(i:Int):List (Nat×AV):=[(0,.p (.aO (l.map Term.row))),(1,.p (.aO (m.map Term.row))),(5,.p (.int .i64 i))]
theorem apm{vs:List AV}{a b:Obj}:gc 0 vs [a,b]=if C2 0 vs [a,b]=true then[]else[a,b]:=by unfold gc;rw[if_neg (by simp)];rfl
theorem JD(l m:List Term)(hl:l.length≤9223372036854775807)(ih:∀a∈l,∀b∈m,R P gI [.agg a.row,.agg b.row]=some (.bool (a.beq b))) :
  R P iZ [.aO (l.map Term.row),.aO (m.map Term.row)]=some (.bool (Term.AA l m)):=by
 rcases cY (((l.length:Nat):Int)=((m.length:Nat):Int))with h1|h1
 rotate_left
 ·rw[Term.WW (fun h=>of_eq_false h1 (by rw[h]))]
  (rw[BN (aD rfl),mz];simp(disch:=omega)only[aB,↓aa,seval,-List.reduceReplicate,reduceCtorEq,ae,aR,h1])
 have hlm:l.length=m.length:=by have:=of_eq_true h1;omega
 have hz:(l.zip m).length=l.length:=by rw[List.length_zip];omega
 have h:=cE (P:=P) (nt:=27) (lv:=[0,1,5]) (b:=pX) (rd:=none) (as:=l.zip m) (fun i (_:Unit)=>adO l m i) (fun _=>[]) (fun _ _ x=>if x.1.beq x.2=true then .inl ()else .inr ()) (fun(_:Unit)=>b7 4 (.bool false) []) (fun _ _=>True)
  (fun i x s ha hi hs=>by
   obtain⟨g1,g2⟩:=agL ha;have hr:=ih x.1 (mR g1) x.2 (mR g2);have hlt:((i:Int)<l.length)=True:=by rw[hz]at hi;simpa using hi
   have hx1:=fun σ=>aH (k:=.i64) (es:=5) (σ:=σ) (aw (f:=Term.row) g1) x.1.az
   have hx2:=fun σ=>aH (k:=.i64) (es:=5) (σ:=σ) (aw (f:=Term.row) g2) x.2.az
   refine⟨fun _ _=>trivial,?_⟩
   cases hb:x.1.beq x.2 with
   |true=>
    rw[hb]at hr;simp only[pX,if_true];simp(disch:=omega)only[aB,↓aa,seval,-List.reduceReplicate,reduceCtorEq,ae,hlt,aR,hx1,hx2,jO,hr,adO]
   |false=>
    rw[hb]at hr;simp only[pX,lG,if_false];simp(disch:=omega)only[aB,↓aa,seval,-List.reduceReplicate,reduceCtorEq,ae,hlt,aR,hx1,hx2,jO,hr,adO,b7]) (fun i s=>rfl) () trivial
 rw[tK (fun x:Term×Term=>x.1.beq x.2),Term.WX hlm,hz]at h
 cases hb:Term.AA l m with
 |true=>
  rw[hb]at h;obtain⟨_,g1⟩:=h;have h':al P uQ (adO l m 0) [] 27 none=_:=g1;simp only[adO]at h'
  (rw[BN (aD rfl),mz];simp(disch:=omega)only[aB,↓aa,seval,-List.reduceReplicate,reduceCtorEq,ae,aR,h1,Ey,h',pX,lH])
 |false=>
  rw[hb]at h;obtain⟨⟨e,τ',σ',nt',rd'⟩,g1,g2,g3,g4⟩:=h
  simp only at g2 g3 g4
  subst g2;subst g4;have h':al P uQ (adO l m 0) [] 27 none=_:=g1;simp only[adO]at h'
  (rw[BN (aD rfl),mz];simp(disch:=omega)only[aB,↓aa,seval,-List.reduceReplicate,reduceCtorEq,ae,aR,h1,Ey,h',g3])
theorem tn(t:Term):iD t→∀u:Term,R P gI [.agg t.row,.agg u.row]=some (.bool (t.beq u)):=by
 induction t using Term.ind with
 |h t ih=>
 intro ht u;rw[Term.beq_eq];have hA:=JD t.args u.args ht.len (fun a ha b _=>ih a ha (ht.args ha) b)
 rcases cY (t.op=u.op)with h1|h1
 rotate_left
 ·(rw[Am (aD rfl),oy];simp(disch:=omega)only[aB,↓aa,seval,-List.reduceReplicate,reduceCtorEq,ae,h1,BR])
 rcases cY (t.w=u.w)with h2|h2
 rotate_left
 ·(rw[Am (aD rfl),oy];simp(disch:=omega)only[aB,↓aa,seval,-List.reduceReplicate,reduceCtorEq,ae,h1,h2,BR])
 rcases cY (t.v=u.v)with h3|h3
 rotate_left
 ·(rw[Am (aD rfl),oy];simp(disch:=omega)only[aB,↓aa,seval,-List.reduceReplicate,reduceCtorEq,ae,h1,h2,h3,BR])
 rcases cY (t.name=u.name)with h4|h4
 rotate_left
 ·(rw[Am (aD rfl),oy];simp(disch:=omega)only[aB,↓aa,seval,-List.reduceReplicate,reduceCtorEq,ae,h1,h2,h3,h4,BR])
 (rw[Am (aD rfl),oy];simp(disch:=omega)only[aB,↓aa,seval,-List.reduceReplicate,reduceCtorEq,ae,h1,h2,h3,h4,GW,hA,BR])
theorem SK(l m:List Term)(hl:l.length≤9223372036854775807)(ht:∀a∈l,iD a):R P iZ [.aO (l.map Term.row),.aO (m.map Term.row)]=some (.bool (Term.AA l m)) :=
 JD l m hl fun a ha b _=>tn a (ht a ha) b
abbrev OX(l m:List Term)(i:Int):List (Nat×AV):=[(1,.p (.aO (m.map Term.row))),(2,.p (.fn jo [])),(15,.p (.aO (l.map Term.row))),(16,.p (.int .i64 l.length)),(17,.p (.int .i64 i))]
theorem Q7(l m:List Term)(hl:l.length≤9223372036854775807)(ih:∀a∈l,∀b∈m,R P jo [.agg a.row,.agg b.row]=some (.bool (a.beq b))) :
  R P aM [.aO (l.map Term.row),.aO (m.map Term.row),.fn jo []]=some (.bool (Term.AA l m)):=by
 rcases cY (((l.length:Nat):Int)=((m.length:Nat):Int))with h1|h1
 rotate_left
 ·rw[Term.WW (fun h=>of_eq_false h1 (by rw[h]))]
  (rw[cL (aD rfl),aL];simp(disch:=omega)only[aB,↓aa,seval,-List.reduceReplicate,reduceCtorEq,ae,aR,h1])
 have hlm:l.length=m.length:=by have:=of_eq_true h1;omega
 have hz:(l.zip m).length=l.length:=by rw[List.length_zip];omega
 have h:=cE (P:=P) (nt:=32) (lv:=[1,2,15,16,17]) (b:=bm) (rd:=none) (as:=l.zip m) (fun i (_:Unit)=>OX l m i) (fun _=>[]) (fun _ _ x=>if x.1.beq x.2=true then .inl ()else .inr ()) (fun(_:Unit) r=>r.1=.ret∧r.2.τ.get 6=.p (.bool false)) (fun _ _=>True)
  (fun i x s ha hi hs=>by
   obtain⟨g1,g2⟩:=agL ha;have hr:=ih x.1 (mR g1) x.2 (mR g2);have hlt:((i:Int)<l.length)=True:=by rw[hz]at hi;simpa using hi
   have hx1:=fun σ=>aH (k:=.i64) (es:=5) (σ:=σ) (aw (f:=Term.row) g1) x.1.az
   have hx2:=fun σ=>aH (k:=.i64) (es:=5) (σ:=σ) (aw (f:=Term.row) g2) x.2.az
   refine⟨fun _ _=>trivial,?_⟩
   cases hb:x.1.beq x.2 with
   |true=>
    rw[hb]at hr;simp only[bm,if_true];simp(disch:=omega)only[aB,↓aa,seval,-List.reduceReplicate,reduceCtorEq,ae,hlt,aR,hx1,hx2,Fq,hr,OX,apm]
   |false=>
    rw[hb]at hr;simp only[bm,lG,if_false];simp(disch:=omega)only[aB,↓aa,seval,-List.reduceReplicate,reduceCtorEq,ae,hlt,aR,hx1,hx2,Fq,hr,OX,apm]) (fun i s=>rfl) () trivial
 rw[tK (fun x:Term×Term=>x.1.beq x.2),Term.WX hlm,hz]at h
 cases hb:Term.AA l m with
 |true=>
  rw[hb]at h;obtain⟨_,g1⟩:=h;have h':al P bO (OX l m 0) [] 32 none=_:=g1;simp only[OX]at h'
  (rw[cL (aD rfl),aL];simp(disch:=omega)only[aB,↓aa,seval,-List.reduceReplicate,reduceCtorEq,ae,aR,h1,dX,h',bm,lH])
 |false=>
  rw[hb]at h;obtain⟨⟨e,τ',σ',nt',rd'⟩,g1,g2,g3⟩:=h
  simp only at g2 g3
  subst g2;have h':al P bO (OX l m 0) [] 32 none=_:=g1;simp only[OX]at h'
  (rw[cL (aD rfl),aL];simp(disch:=omega)only[aB,↓aa,seval,-List.reduceReplicate,reduceCtorEq,ae,aR,h1,dX,h',g3])
theorem ZN(t:Term):iD t→∀u:Term,R P jo [.agg t.row,.agg u.row]=some (.bool (t.beq u)):=by
 induction t using Term.ind with
 |h t ih=>
 intro ht u;rw[Term.beq_eq];have hA:=Q7 t.args u.args ht.len (fun a ha b _=>ih a ha (ht.args ha) b)
 rcases cY (t.op=u.op)with h1|h1
 rotate_left
 ·(rw[xY (aD rfl),lX];simp(disch:=omega)only[aB,↓aa,seval,-List.reduceReplicate,reduceCtorEq,ae,h1,BR])
 rcases cY (t.w=u.w)with h2|h2
 rotate_left
 ·(rw[xY (aD rfl),lX];simp(disch:=omega)only[aB,↓aa,seval,-List.reduceReplicate,reduceCtorEq,ae,h1,h2,BR])
 rcases cY (t.v=u.v)with h3|h3
 rotate_left
 ·(rw[xY (aD rfl),lX];simp(disch:=omega)only[aB,↓aa,seval,-List.reduceReplicate,reduceCtorEq,ae,h1,h2,h3,BR])
 rcases cY (t.name=u.name)with h4|h4
 rotate_left
 ·(rw[xY (aD rfl),lX];simp(disch:=omega)only[aB,↓aa,seval,-List.reduceReplicate,reduceCtorEq,ae,h1,h2,h3,h4,BR])
 (rw[xY (aD rfl),lX];simp(disch:=omega)only[aB,↓aa,seval,-List.reduceReplicate,reduceCtorEq,ae,h1,h2,h3,h4,jQ,hA,BR])
theorem Ym{α β:Type}(g:α→β):∀(l:List α) (k:Nat) (s:List β),k+l.length=s.length→aq (T:=Empty) (fun i s a=>.inl (s.set i (g a))) k s l=.inl (s.take k++l.map g)
 | [],k,s,h=>by simp only[aq,B0,abg];rw[List.take_of_length_le (by simp at h;omega)]
 |a::l,k,s,h=>by
  simp only[aq];rw[Ym g l (k+1) (s.set k (g a)) (by simp at h ⊢;omega)]
  congr 1
  simp only[lZ]at h;rw[List.take_set,rK];have hk:k<s.length:=by omega
  have:(s.take (k+1)).set k (g a)=s.take k++[g a]:=by
   rw[List.take_succ_eq_append_getElem hk,List.set_append_right _ _ (by rw[abz];omega),abz,Nat.min_eq_left (by omega),abM]
   rfl
  rw[this];simp
theorem ahC{α β:Type}(g:α→β)(l:List α)(s:List β)(h:l.length=s.length):aq (T:=Empty) (fun i s a=>.inl (s.set i (g a))) 0 s l=.inl (l.map g):=by
 rw[Ym g l 0 s (by omega)];rfl
theorem af6{b m es j:Nat}{rows:List (List PV)}{fr:Bool}{σ:ah}(h:σ[b]?=some (.pv es rows fr))(hl:rows.length=m)(hj:j<m):gj σ es (.sl b m) (.p (.int .i64 j))=some (.ptr b m j 0):=by
 unfold gj;simp[nE,SP,h,Obj.R9,hl,hj]
theorem alZ{σ:ah}{b m e j:Nat}{rows:List (List PV)}{v:PV}(hl:rows.length=m)(hw:∀x∈rows,x.length=1)(hj:j<m):Wj σ b m j 0 [.p v] (some (.pv e rows false))=some (σ.set b (.pv e (rows.set j [v]) false)):=by
 have hg:rows[j]?=some rows[j]:=o8 (by omega)
 have h5:(rows[j]'(by omega)).length=1:=hw _ (aba _)
 have hp:cr 0 [v] (rows[j]'(by omega))=some [v]:=by
  unfold cr;rw[h5,if_pos (by simp)]
  simp[abW,h5]
 simp only[Wj,hl,if_true,hg,Az,ae,x6,hp]
theorem atW{t:Term}{fr:Bool}:RF 1 0 1 1 false (some (.pv 5 [t.row] fr))=some (.p (.int .i64 t.w)):=by rw[Term.a6];rfl
abbrev anh(l:List Term)(i:Int):List (Nat×AV):=[(3,.sl 0 l.length),(9,.p (.aO (l.map Term.row))),(10,.p (.int .i64 l.length)),(11,.p (.int .i64 i))]
theorem SO(l:List Term)(hl:l.length≤1000000):R P mQ [.aO (l.map Term.row)]=some (.aO ((l.map Term.w).map dG)):=by
 obtain⟨hk,h⟩:=fY (P:=P) (nt:=23) (lv:=[3,9,10,11]) (b:=uz) (rd:=none) (as:=l) (fun i (_:List (List PV))=>anh l i) (fun s=>[.pv 1 s false]) (fun i s a=>s.set i (dG a.w)) (fun i s=>s.length=l.length∧∀x∈s,x.length=1)
  (fun i a s ha hi hs=>by
   obtain⟨hs1,hs2⟩:=hs;have hlt:((i:Int)<l.length)=True:=by simpa using hi
   have hia:=fun(o1 o2:Obj)=>af6 (σ:=[.pv 1 s false,o1,o2]) (b:=0) (m:=l.length) (j:=i) rfl hs1 hi
   have hst:=fun(σ:ah)=>alZ (σ:=σ) (b:=0) (m:=l.length) (e:=1) (j:=i) (v:=.int .i64 a.w) hs1 hs2 hi
   refine⟨⟨by simp[hs1],fun x hx=>?_⟩,?_⟩
   ·rcases List.mem_or_eq_of_mem_set hx with hx|rfl
    ·exact hs2 x hx
    ·rfl
   ·simp only[uz]
    simp(disch:=omega)only[aB,↓aa,seval,-List.reduceReplicate,reduceCtorEq,ae,hlt,aR,aH (aw (f:=Term.row) ha) a.az,anh,hia,hst,dG,atW]) (fun i s=>rfl) (List.replicate l.length [.int .i64 0]) ⟨by simp,fun x hx=>by rw[(List.mem_replicate.1 hx).2];rfl⟩ _ (ahC (fun a:Term=>dG a.w) l _ (by simp))
 have h':al P zD (anh l 0) [.pv 1 (List.replicate l.length [.int .i64 0]) false] 23 none=_:=h;simp only[anh]at h';have hm:=fun(σ:ah)=>apw (σ:=σ) (k:=.i64) (es:=1) (bytes:=8) (n:=l.length) (zero:=[.p (.int .i64 0)]) (z:=[.int .i64 0]) rfl (by omega)
 (rw[SB (aD rfl),rT];simp(disch:=omega)only[aB,↓aa,seval,-List.reduceReplicate,reduceCtorEq,ae,aR,hm,PD,h',uz,lH])
 simp[ack]
theorem Ec:∀ps:List PV,ae (ps.map AV.p)=some ps
 | []=>rfl
 |a::r=>by simp only[rK,ae,Ec r,x6]
def vh(t:Term):Int :=
 if arity t.op<0 then 4 else if 24≤t.op∧t.op≤26 then 4 else if ¬(t.args.length:Int)=arity t.op then 4
 else if ¬t.name=bs []∧¬t.op=1 then 4 else if ¬t.v=0∧¬t.op=2∧¬t.op=21 then 4
 else if t.op=1∧jr t.name=false then 5 else if t.w<1 then 3
 else if ¬(bM t.op t.w t.v (t.args.map Term.w)).2=0 then 3 else if ¬(bM t.op t.w t.v (t.args.map Term.w)).1=t.w then 3 else 0
theorem ZP(t:Term)(ht:iD t)(hc:t.args.length≤1000000):R P qN [.agg t.row]=some (.int .i64 (vh t)):=by
 have hwd:=SO t.args hc;have hW:=Aq t.op t.w t.v (t.args.map Term.w) (by rw[aR];exact hc) ht.v
 unfold vh;generalize hr:bM t.op t.w t.v (t.args.map Term.w)=r at hW ⊢;obtain⟨rw,re⟩:=r;simp only[two]at hW;rcases cY (arity t.op<0)with h1|h1
 ·(rw[oj (aD rfl),ia];simp(disch:=omega)only[aB,↓aa,seval,-List.reduceReplicate,reduceCtorEq,ae,aI,aJ,fZ,gh,aR,h1])
 rcases cY (24≤t.op∧t.op≤26)with h2|h2
 ·have g2:(t.op∈[24,25,(26:Int)])=True:=by have:=of_eq_true h2;simp;omega
  (rw[oj (aD rfl),ia];simp(disch:=omega)only[aB,↓aa,seval,-List.reduceReplicate,reduceCtorEq,ae,aI,aJ,fZ,gh,aR,h1,h2,g2])
 have g2:(t.op∈[24,25,(26:Int)])=False:=by have:=of_eq_false h2;simp;omega
 rcases cY ((t.args.length:Int)=arity t.op)with h3|h3
 rotate_left
 ·(rw[oj (aD rfl),ia];simp(disch:=omega)only[aB,↓aa,seval,-List.reduceReplicate,reduceCtorEq,ae,aI,aJ,fZ,gh,aR,h1,h2,g2,h3])
 have ho:∃a b c:Prop,(a=True∨a=False)∧(b=True∨b=False)∧(c=True∨c=False)∧(t.op=1)=a∧(t.op=2)=b∧(t.op=21)=c∧(a→¬b∧¬c)∧(b→¬c) :=
  ⟨_,_,_,cY _,cY _,cY _,rfl,rfl,rfl,fun h=>⟨by omega,by omega⟩,fun h=>by omega⟩
 obtain⟨a,b,c,ha,hb,hcc,e1,e2,e3,i1,i2⟩:=ho;rcases ha with rfl|rfl<;>rcases hb with rfl|rfl<;>rcases hcc with rfl|rfl
 all_goals try(exfalso;simp at i1 i2;done)
 all_goals rcases cY (t.name=bs [])with hn|hn<;>rcases cY (t.v=0)with hv|hv
 all_goals try((rw[oj (aD rfl),ia];simp(disch:=omega)only[aB,↓aa,seval,-List.reduceReplicate,reduceCtorEq,ae,aI,aJ,fZ,gh,aR,h1,h2,g2,h3,e1,e2,e3,hn,hv]);done)
 all_goals cases hk:jr t.name
 all_goals try((rw[oj (aD rfl),ia];simp(disch:=omega)only[aB,↓aa,seval,-List.reduceReplicate,reduceCtorEq,ae,aI,aJ,fZ,gh,aR,h1,h2,g2,h3,e1,e2,e3,hn,hv,iv,kH,hk]);done)
 all_goals rcases cY (t.w<1)with h7|h7
 all_goals try((rw[oj (aD rfl),ia];simp(disch:=omega)only[aB,↓aa,seval,-List.reduceReplicate,reduceCtorEq,ae,aI,aJ,fZ,gh,aR,h1,h2,g2,h3,e1,e2,e3,hn,hv,iv,kH,hk,h7,BM,hwd,dO,hW]);done)
 all_goals rcases cY (re=0)with h8|h8
 all_goals try((rw[oj (aD rfl),ia];simp(disch:=omega)only[aB,↓aa,seval,-List.reduceReplicate,reduceCtorEq,ae,aI,aJ,fZ,gh,aR,h1,h2,g2,h3,e1,e2,e3,hn,hv,iv,kH,hk,h7,BM,hwd,dO,hW,h8]);done)
 all_goals rcases cY (rw=t.w)with h9|h9
 all_goals (rw[oj (aD rfl),ia];simp(disch:=omega)only[aB,↓aa,seval,-List.reduceReplicate,reduceCtorEq,ae,aI,aJ,fZ,gh,aR,h1,h2,g2,h3,e1,e2,e3,hn,hv,iv,kH,hk,h7,BM,hwd,dO,hW,h8,h9])
end Go.AE.S
namespace Go.AE
section
variable {P:Prog} {σ σ':ah} {nt n:Nat} {rd:Option Nat} {g:AV}
def fC(P:Prog)(g:AV):List (List AV)→ah→Option (Bool×ah)
 | [],σ=>some (true,σ)
 |a::r,σ=>match tH P g a σ with
  |some (.p (.bool true),σ')=>if σ'.length=σ.length then fC P g r σ' else none
  |some (.p (.bool false),σ')=>if σ'.length=σ.length then some (false,σ')else none
  |_=>none
def C3(P:Prog)(g:AV)(r:List (List AV)):Option (Bool×ah)→Option (Bool×ah)
 |some (true,σ)=>fC P g r σ
 |some (false,σ)=>some (false,σ)
 |none=>none
theorem pA:∀(x y:List (List AV)) (σ:ah),fC P g (x++y) σ=C3 P g y (fC P g x σ)
 | [],y,σ=>rfl
 |a::x,y,σ=>by
  simp only[F9,fC];split
  ·rename_i σ' h
   split
   ·exact pA x y σ'
   ·rfl
  ·rename_i σ' h
   split<;>rfl
  ·rfl
theorem wv:∀(x:List (List AV)) (σ σ':ah) (b:Bool),fC P g x σ=some (b,σ')→σ'.length=σ.length
 | [],σ,σ',b,h=>by simp only[fC,bN,rI]at h;rw[←h.2]
 |a::x,σ,σ',b,h=>by
  simp only[fC]at h;split at h
  ·rename_i σ1 h1
   split at h
   ·rename_i hl
    rw[wv x σ1 σ' b h,hl]
   ·cases h
  ·rename_i σ1 h1
   split at h
   ·rename_i hl
    simp only[bN,rI]at h;rw[←h.2,hl]
   ·cases h
  ·cases h
theorem Ln{a:List AV}{r:List (List AV)}{b:Bool}(h:fC P g (a::r) σ=some (b,σ')) :
  ∃c σ1,tH P g a σ=some (.p (.bool c),σ1)∧σ1.length=σ.length∧(c=true→fC P g r σ1=some (b,σ'))∧(c=false→b=false∧σ'=σ1):=by
 simp only[fC]at h;split at h
 ·rename_i σ1 h1
  split at h
  ·rename_i hl
   exact⟨true,σ1,h1,hl,fun _=>h,by simp⟩
  ·cases h
 ·rename_i σ1 h1
  split at h
  ·rename_i hl
   simp only[bN,rI]at h;exact⟨false,σ1,h1,hl,by simp,fun _=>⟨h.1.symm,h.2.symm⟩⟩
  ·cases h
 ·cases h
theorem Lo{S T α:Type}(arg:α→List AV)(sto:S→ah)(f:Nat→S→α→S ⊕ T)(out:T→ah)(ok:Nat→S→Prop)(hlen:∀s,(sto s).length=n)(hout:∀t,(out t).length=n)(as:List α)
  (hstep:∀(i:Nat) (a:α) (s:S),as[i]?=some a→ok i s→(∀s',f i s a=.inl s'→ok (i+1) s') ∧
   tH P g (arg a) (sto s)=(match f i s a with
    |.inl s'=>some (.p (.bool true),sto s')
    |.inr t=>some (.p (.bool false),out t))) :
  ∀(r:List α) (i:Nat) (s:S),as.drop i=r→ok i s→fC P g (r.map arg) (sto s)=(match aq f i s r with
    |.inl s'=>some (true,sto s')
    |.inr t=>some (false,out t)):=by
 intro r
 induction r with
 |nil=>intro i s _ _;rfl
 |cons a r ih=>
  intro i s hd hok
  have ha:as[i]?=some a:=by
   have:=congrArg (·[0]?) hd;simpa using this
  have hr:as.drop (i+1)=r:=by
   have:=congrArg (List.drop 1) hd;simpa using this
  obtain⟨h1,h2⟩:=hstep i a s ha hok;simp only[rK,fC,aq];rw[h2];cases hf:f i s a with
  |inl s'=>
   simp only
   rw[if_pos (by rw[hlen,hlen]),ih (i+1) s' hr (h1 s' hf)]
  |inr t=>
   simp only
   rw[if_pos (by rw[hlen,hout])]
theorem Zr{S T α:Type}{gv:AV}{kept:List (Nat×AV)}{ps:List Nat}{iy b:K}{f0:FuncId}{fn:cH}{cap:List AV}(hfn:Va gv=some (f0,cap))(hF:P.fn f0=some fn)(hps:nodup ps=true∧ps.all (· < nt)=true)
  (X:List Obj) (arg:α→List AV) (sto:S→ah) (f:Nat→S→α→S ⊕ T) (out:T→Ex×ah) (ok:Nat→S→Prop) (as:List α) (s0:S) (hrd:uZ rd (sto s0)=true)
  (hcall:∀(a:α) (σ σ':ah) (bb:Bool),σ.length=(sto s0).length+1→σ'.length=(sto s0).length+1→round P (sto s0).length (arg a) (σ++X)=some (.p (.bool bb),σ'++X)→tH P g (arg a) (σ++X)=some (.p (.bool bb),σ'++X))
  (iter:∀(σ σ':ah) (bb:Bool),σ.length=(sto s0).length+1→σ'.length=(sto s0).length+1→σ'.all (Obj.below ((sto s0).length+1))=true→fC P g (as.map arg) (σ++X)=some (bb,σ'++X)→∃v,call P fn (.yield (sto s0).length::cap) σ=some (v,σ'))
  (hlen:∀s,(sto s).length=(sto s0).length) (hout:∀t,(out t).2.length=(sto s0).length)
  (hbel:∀s m,(sto s0).length≤m→(sto s).all (Obj.below m)=true) (hbelo:∀t m,(sto s0).length≤m→(out t).2.all (Obj.below m)=true) (hkb:(kept.all fun x=>below ((sto s0).length+1) x.2)=true) (hnn:∀t,(out t).1≠.normal)
  (hstep:∀(i:Nat) (a:α) (s:S),as[i]?=some a→ok i s→(∀s',f i s a=.inl s'→ok (i+1) s') ∧
   round P (sto s0).length (arg a) ((sto s++[.loop kept nt ps iy b none])++X)=(match f i s a with
    |.inl s'=>some (.p (.bool true),(sto s'++[.loop kept nt ps iy b none])++X)
    |.inr t=>some (.p (.bool false),((out t).2++[.loop kept nt ps iy b (some (out t).1)])++X)))
  (h0:ok 0 s0):nN P ps iy b gv kept (sto s0) nt rd=some (lp sto out (aq f 0 s0 as)):=by
 have hr:=Lo (P:=P) (g:=g) (n:=(sto s0).length+1+X.length) arg (fun s=>(sto s++[.loop kept nt ps iy b none])++X) f (fun t=>((out t).2++[.loop kept nt ps iy b (some (out t).1)])++X) ok
  (fun s=>by simp[hlen];omega) (fun t=>by simp[hout];omega) as (fun i a s ha hok=>by
   obtain⟨h1,h2⟩:=hstep i a s ha hok;refine⟨h1,?_⟩;cases hf:f i s a with
   |inl s'=>rw[hf]at h2;exact hcall a _ _ _ (by simp[hlen]) (by simp[hlen]) h2
   |inr t=>rw[hf]at h2;exact hcall a _ _ _ (by simp[hlen]) (by simp[hout]) h2) as 0 s0 rfl h0
 have gcs:∀x:ah,x.length=(sto s0).length→x.all (Obj.below (sto s0).length)=true→gc (sto s0).length [] (x++[.gone])=x:=by
  intro x hx hb;unfold gc;rw[if_neg (by simp[hx])]
  have ht:(x++[Obj.gone]).take (sto s0).length=x:=by rw[←hx];simp
  rw[if_pos (by simp only[C2,ht,abS,hb,RA]),ht]
 have seta:∀(x:ah) (o o':Obj),x.length=(sto s0).length→(x++[o]).set (sto s0).length o'=x++[o']:=by
  intro x o o' hx;rw[←hx];simp
 have geta:∀(x:ah) (o:Obj),x.length=(sto s0).length→(x++[o])[(sto s0).length]?=some o:=by
  intro x o hx;rw[←hx];simp
 have bl:∀(x:ah) (e:Option Ex),x.all (Obj.below ((sto s0).length+1))=true→(x++[Obj.loop kept nt ps iy b e]).all (Obj.below ((sto s0).length+1))=true:=by
  intro x e hx;rw[List.all_append,hx];simp only[Uj,abS,abX,Uk];exact hkb
 unfold nN;simp only[hfn,hF,Az,hrd,hps,RA,if_true];cases hf:aq f 0 s0 as with
 |inl s=>
  rw[hf]at hr;obtain⟨v,hv⟩:=iter _ _ _ (by simp) (by simp[hlen]) (bl _ _ (hbel s _ (by omega))) hr
  rw[hv];simp only[Az,geta _ _ (hlen s),seta _ _ _ (hlen s),gcs _ (hlen s) (hbel s _ (rU _)),lp]
 |inr t=>
  rw[hf]at hr;obtain⟨v,hv⟩:=iter _ _ _ (by simp) (by simp[hout]) (bl _ _ (hbelo t _ (by omega))) hr
  rw[hv];have hn:=hnn t;simp only[Az,geta _ _ (hout t),seta _ _ _ (hout t),gcs _ (hout t) (hbelo t _ (rU _)),lp]
end
namespace S
open Go Go.AE
variable {τ:Tm} {σ:ah} {rd:Option Nat}
def aem(g:AV)(s:ah)(a:Term):ah ⊕ ah:=match fC P g (a.post.map qt) s with
 |some (true,s')=>.inl s'
 |some (false,s')=>.inr s'
 |none=>.inr s
theorem Yj(g:AV):∀(as:List Term) (i:Nat) (s:ah) (b:Bool) (s':ah),fC P g ((Term.pS as).map qt) s=some (b,s')→aq (fun _ s a=>aem g s a) i s as=if b=true then .inl s' else .inr s'
 | [],i,s,b,s',h=>by
  simp only[Term.pS,B0,fC,bN,rI]at h;obtain⟨rfl,rfl⟩:=h;rfl
 |a::as,i,s,b,s',h=>by
  simp only[Term.pS,CR,pA]at h;simp only[aq,aem];cases h1:fC P g (a.post.map qt) s with
  |none=>rw[h1]at h;cases h
  |some x=>
   obtain⟨c,s1⟩:=x;rw[h1]at h;cases c with
   |true=>exact Yj g as (i+1) s1 b s' h
   |false=>
    simp only[C3,bN,rI]at h;obtain⟨rfl,rfl⟩:=h;rfl
abbrev O3(g:AV)(t:Term)(i:Int):List (Nat×AV):=[(1,g),(2,.p (.ptr t.row 0)),(8,.p (.aO (t.args.map Term.row))),(9,.p (.int .i64 t.args.length)),(10,.p (.int .i64 i))]
theorem Xf(g:AV)(t:Term):t.count≤1000000→∀(σ σ':ah) (b:Bool),fC P g (t.post.map qt) σ=some (b,σ')→call P iI [.p (.agg t.row),g] σ=some (.p (.bool b),σ'):=by
 induction t using Term.ind with
 |h t ih=>
 intro hc σ σ' b hr;have hlen:=Term.dL t.args;have hct:=Term.count_eq t;have hl:=wv _ _ _ _ hr;rw[Term.Bi,CR,pA]at hr;cases h3:fC P g ((Term.pS t.args).map qt) σ with
 |none=>rw[h3]at hr;cases hr
 |some x=>
  obtain⟨c,σ1⟩:=x;rw[h3]at hr;have hl3:=wv _ _ _ _ h3
  have h:=cE (P:=P) (nt:=22) (lv:=[1,2,8,9,10]) (b:=lP) (rd:=none) (as:=t.args) (fun i (_:ah)=>O3 g t i) (fun s=>s) (fun _ s a=>aem g s a) (fun s r=>b7 4 (.bool false) s r) (fun i s=>∃b s',fC P g ((Term.pS (t.args.drop i)).map qt) s=some (b,s'))
   (fun i a s ha hi hs=>by
    obtain⟨b2,s2,hs⟩:=hs;have hm:=mR ha;have hac:=Term.cJ hm;have hlt:((i:Int)<t.args.length)=True:=by simpa using hi
    have hd:t.args.drop i=a::t.args.drop (i+1):=by rw[abk hi];rw[o8 hi]at ha;cases ha;rfl
    rw[hd]at hs;simp only[Term.pS,CR,pA]at hs;cases hx:fC P g (a.post.map qt) s with
    |none=>rw[hx]at hs;cases hs
    |some x=>
     obtain⟨c,s1⟩:=x;rw[hx]at hs;have hv:=ih a hm (by omega) s s1 c hx
     have hl1:=wv _ _ _ _ hx;have gc2:∀vs,gc s.length vs s1=s1:=fun vs=>eU (by omega)
     cases c with
     |true=>
      refine⟨fun s' he=>?_,?_⟩
      ·simp only[aem,hx]at he
       cases he;exact⟨_,_,hs⟩
      ·simp only[lP,aem,hx]
       simp(disch:=omega)only[aB,↓aa,seval,-List.reduceReplicate,reduceCtorEq,ae,hlt,aH (aw (f:=Term.row) ha) a.az,wL,hv,gc2,O3]
     |false=>
      refine⟨fun s' he=>?_,?_⟩
      ·simp only[aem,hx]at he
       cases he
      ·simp only[lP,aem,hx]
       simp(disch:=omega)only[aB,↓aa,seval,-List.reduceReplicate,reduceCtorEq,ae,hlt,aH (aw (f:=Term.row) ha) a.az,wL,hv,gc2,b7,O3]) (fun i s=>rfl) σ ⟨c,σ1,h3⟩
  rw[Yj g t.args 0 σ c σ1 h3]at h;cases c with
  |true=>
   obtain⟨_,h⟩:=h;obtain⟨c,σ2,k1,k2,k3,k4⟩:=Ln hr;simp only[qt]at k1
   have e:b=c∧σ'=σ2:=by
    cases c with
    |true=>have:=k3 rfl;simp only[B0,fC,bN,rI]at this;exact⟨this.1.symm,this.2.symm⟩
    |false=>exact k4 rfl
   obtain⟨rfl,rfl⟩:=e;have gc3:∀vs,gc σ.length vs σ'=σ':=fun vs=>eU (by omega)
   have h':al P pO (O3 g t 0) σ 22 none=_:=h;simp only[O3]at h'
   (rw[fK (aD rfl),iI];simp(disch:=omega)only[aB,↓aa,seval,-List.reduceReplicate,reduceCtorEq,ae,aR,A7,h',lP,lH,k1,gc3])
  |false=>
   simp only[C3,bN,rI]at hr;obtain⟨rfl,rfl⟩:=hr;have gc3:∀vs,gc σ.length vs σ1=σ1:=fun vs=>eU (by omega)
   obtain⟨⟨e,τ',σ2,nt',rd'⟩,g1,g2,g3,g4⟩:=h
   simp only at g2 g3 g4
   subst g2;subst g4;have h':al P pO (O3 g t 0) σ 22 none=some (.ret,⟨τ',σ2,nt',rd'⟩):=g1;simp only[O3]at h'
   (rw[fK (aD rfl),iI];simp(disch:=omega)only[aB,↓aa,seval,-List.reduceReplicate,reduceCtorEq,ae,aR,A7,h',g3,gc3])
end S
end Go.AE
namespace Go.AE.S
open Go Go.AE
variable {τ:Tm} {σ:ah} {rd:Option Nat}
theorem afN{f:FuncId}{cap args:List AV}:tH P (.fn f cap) args σ=l5 P f (args++cap) σ:=by rw[tH.eq_def]
abbrev obY(n:Nat):Obj:=.av 1 [[.yield n]] false
theorem aqC{n:Nat}:vO σ 1 true (some [.yield n])=some (.ptr σ.length 1 0 0,σ++[obY n]):=rfl
theorem am4{n:Nat}:cellsOf 1 false (.yield n)=some [.yield n]:=rfl
theorem av6{n:Nat}:RF 1 0 0 1 false (some (obY n))=some (.yield n):=rfl
theorem akE{f:FuncId}{b n i o:Nat}:Gh f [.ptr b n i o]=.fn f [.ptr b n i o]:=rfl
theorem aoM(u:Term)(hc:u.count≤1000000)(m n:Nat)(σ σ':ah)(b:Bool)(hY:σ[m]?=some (obY n))(hr:round P n (qt u) σ=some (.p (.bool b),σ'))(hl:σ'.length=σ.length) :
  tH P (.fn gQ [.ptr m 1 0 0]) (qt u) σ=some (.p (.bool b),σ'):=by
 have hcp:=ud u hc;have gc3:∀vs,gc σ.length vs σ'=σ':=fun vs=>eU (by omega)
 rw[afN,QM];simp only[qt,F9,y8]at hr ⊢
 (rw[fK (aD rfl),qn];simp(disch:=omega)only[aB,↓aa,seval,-List.reduceReplicate,reduceCtorEq,ae,hY,av6,qV,hcp,hr,gc3])
theorem aqb(t:Term)(hc:t.count≤1000000)(n:Nat)(σ σ':ah)(b:Bool)(hl:σ'.length=σ.length)(hb:σ'.all (Obj.below σ.length)=true)
  (hg:fC P (.fn gQ [.ptr σ.length 1 0 0]) (t.post.map qt) (σ++[obY n])=some (b,σ'++[obY n])):call P uJ [.yield n,.p (.ptr t.row 0)] σ=some (.p (.jY []),σ'):=by
 have hp:=Xf _ t hc _ _ _ hg
 have gc3:gc σ.length [.p (.jY [])] (σ'++[obY n])=σ':=by
  unfold gc;rw[if_neg (by simp[hl])]
  have ht:(σ'++[obY n]).take σ.length=σ':=by rw[←hl];simp
  rw[if_pos (by simp only[C2,ht,Uj,abS,hb,NF,RA]),ht]
 (rw[fK (aD rfl),uJ];simp(disch:=omega)only[aB,↓aa,seval,-List.reduceReplicate,reduceCtorEq,ae,am4,aqC,akE,wL,hp,gc3])
theorem aff(t:Term):R P ti [.agg t.row]=some (.fn j9 [.ptr t.row 0]):=by
 (rw[aeT (aD rfl),zC];simp(disch:=omega)only[aB,↓aa,seval,-List.reduceReplicate,reduceCtorEq,ae,Gh])
theorem aeV{S T:Type}{kept:List (Nat×AV)}{ps:List Nat}{iy b:K}{nt:Nat}(t:Term)(hc:t.count≤1000000)(hps:nodup ps=true∧ps.all (· < nt)=true)
  (sto:S→ah) (f:Nat→S→Term→S ⊕ T) (out:T→Ex×ah) (ok:Nat→S→Prop) (s0:S) (hrd:uZ rd (sto s0)=true)
  (hlen:∀s,(sto s).length=(sto s0).length) (hout:∀t,(out t).2.length=(sto s0).length)
  (hbel:∀s m,(sto s0).length≤m→(sto s).all (Obj.below m)=true) (hbelo:∀t m,(sto s0).length≤m→(out t).2.all (Obj.below m)=true) (hkb:(kept.all fun x=>below ((sto s0).length+1) x.2)=true) (hnn:∀t,(out t).1≠.normal)
  (hstep:∀(i:Nat) (a:Term) (s:S),t.post[i]?=some a→ok i s→(∀s',f i s a=.inl s'→ok (i+1) s') ∧
   round P (sto s0).length [.p (.agg a.row)] ((sto s++[.loop kept nt ps iy b none])++[obY (sto s0).length])=(match f i s a with
    |.inl s'=>some (.p (.bool true),(sto s'++[.loop kept nt ps iy b none])++[obY (sto s0).length])
    |.inr t=>some (.p (.bool false),((out t).2++[.loop kept nt ps iy b (some (out t).1)])++[obY (sto s0).length])))
  (h0:ok 0 s0):nN P ps iy b (.p (.fn j9 [.ptr t.row 0])) kept (sto s0) nt rd=some (lp sto out (aq f 0 s0 t.post)):=by
 have hpc:∀a∈t.post,a.count≤1000000:=by
  intro a ha
  have key:∀(t:Term),∀a∈t.pre,a.count≤t.count:=by
   intro t
   induction t using Term.ind with
   |h t ih=>
   intro a ha;rcases mZ.1 ha with rfl|⟨b,hb,hab⟩
   ·exact rU _
   ·have h1:=ih b hb a hab
    have h2:=Term.cJ hb;have h3:=Term.count_eq t;omega
  have:=key t a ((k8 t a).1 ha);omega
 refine Zr (α:={a:Term // a∈t.post}) (f0:=j9) (cap:=[.p (.ptr t.row 0)]) (g:=.fn gQ [.ptr ((sto s0).length+1) 1 0 0]) rfl VF hps [obY (sto s0).length] (fun a=>qt a.1) sto (fun i s a=>f i s a.1) out ok
  (t.post.attach) s0 hrd ?_ ?_ hlen hout hbel hbelo hkb hnn ?_ h0 |>.trans ?_
 ·intro a σ σ' bb h1 h2 hr
  exact aoM a.1 (hpc a.1 a.2) _ _ _ _ _ (by rw[←h1];simp) hr (by simp[h1,h2])
 ·intro σ σ' bb h1 h2 hb hg
  refine⟨_,aqb t hc _ σ σ' bb (by omega) (by rw[h1];exact hb) ?_⟩
  rw[h1]
  have e:(t.post.attach.map fun a:{a:Term // a∈t.post}=>qt a.1)=t.post.map qt:=by
   have:=List.attach_map_subtype_val t.post
   conv=>rhs;rw[←this]
   rw[ab0];rfl
  rw[←e];exact hg
 ·intro i a s ha hok
  have:t.post[i]?=some a.1:=by
   have:=congrArg (Option.map Subtype.val) ha;rw[←AR,List.attach_map_subtype_val]at this;exact this
  exact hstep i a.1 s this hok
 ·have e:∀(l:List {a:Term // a∈t.post}) (i:Nat) (s:S),aq (fun i s (a:{a:Term // a∈t.post})=>f i s a.1) i s l=aq f i s (l.map Subtype.val):=by
   intro l
   induction l with
   |nil=>intro i s;rfl
   |cons a l ih=>
    intro i s;simp only[aq,rK];cases f i s a.1 with
    |inl s'=>exact ih _ _
    |inr t=>rfl
  rw[e,List.attach_map_subtype_val]
def zN:List Term→Int
 | []=>0
 |a::r=>if vh a=0 then zN r else vh a
abbrev Seen:=List (ByteArray×Int)
def Ge(e:ByteArray×Int):PV×AV:=(.str e.1,.p (.int .i64 e.2))
def TK:Seen→ByteArray→Option Int
 | [],_=>none
 |e::r,k=>if k=e.1 then some e.2 else TK r k
def stW(k:ByteArray)(w:Int):Seen→Seen
 | []=>[(k,w)]
 |e::r=>if k=e.1 then(k,w)::r else e::stW k w r
theorem FQ(k:ByteArray):∀s:Seen,findKey .str (.str k) (s.map Ge)=some ((TK s k).map fun w=>.p (.int .i64 w))
 | []=>rfl
 |e::r=>by
  simp only[rK,findKey,Ge,En,TK];by_cases h:k=e.1
  ·simp[h]
  ·simp only[h,decide_false,if_false]
   exact FQ k r
theorem Re(k:ByteArray)(w:Int):∀s:Seen,vG .str (.str k) (.p (.int .i64 w)) (s.map Ge)=some ((stW k w s).map Ge)
 | []=>rfl
 |e::r=>by
  simp only[rK,vG,Ge,En,stW];by_cases h:k=e.1
  ·simp[h,Ge]
  ·simp only[h,decide_false,if_false]
   rw[Re k w r];rfl
theorem mG(n:Nat)(s:Seen):((s.map Ge).all fun e=>AE.below n e.2)=true:=by
 rw[CS];intro x hx;obtain⟨e,_,rfl⟩:=Gq.1 hx;exact NF
def ckB(s:Seen)(u:Term):Bool:=match TK s u.name with
 |some w=>decide (¬w=u.w)
 |none=>false
def J6(_:Nat)(s:Bool×Seen)(u:Term):(Bool×Seen) ⊕ Int :=
 if vh u=0 then if u.op=1 then .inl (s.1 ||ckB s.2 u,stW u.name u.w s.2)else .inl s else .inr (vh u)
abbrev sK(e:Int)(s:Bool×Seen):ah:=[.pv 1 [[.int .i64 e]] false,.map (s.2.map Ge) false,.av 1 [[.map 1]] false,.pv 1 [[.bool s.1]] false]
theorem apO{a b c:Obj}{v w:Bool}{r:ah}:eY (a::b::c::.pv 1 [[.bool w]] false::r) 1 (.ptr 3 1 0 0) (.p (.bool v))=some (a::b::c::.pv 1 [[.bool v]] false::r):=rfl
theorem ZV{a b:Int}{k k':IntKind}{es:Nat}{r:ah}:Wj (.pv es [[.int k a]] false::r) 0 1 0 0 [.p (.int k' b)] (some (.pv es [[.int k a]] false))=some (.pv es [[.int k' b]] false::r):=rfl
theorem af3{vs:List AV}{a b c d e f:Obj}:gc 6 vs [a,b,c,d,e,f]=[a,b,c,d,e,f]:=eU (by simp)
theorem afQ{b:Bool}:cellsOf 1 false (.p (.bool b))=some [.p (.bool b)]:=rfl
theorem Vi{v:PV}:vO σ 1 false (some [.p v])=some (.ptr σ.length 1 0 0,σ++[.pv 1 [[v]] false]):=rfl
theorem aku{k:IntKind}{v:Int}{es:Nat}{fr:Bool}:RF 1 0 0 1 false (some (.pv es [[.int k v]] fr))=some (.p (.int k v)):=rfl
theorem agd{v:Bool}{es:Nat}{fr:Bool}:RF 1 0 0 1 false (some (.pv es [[.bool v]] fr))=some (.p (.bool v)):=rfl
theorem ali{t:Term}(ht:iD t):∀a∈t.post,iD a:=by
 intro a ha
 have key:∀t:Term,iD t→∀a∈t.pre,iD a:=by
  intro t
  induction t using Term.ind with
  |h t ih=>
  intro ht a ha;rcases mZ.1 ha with rfl|⟨b,hb,hab⟩
  ·exact ht
  ·exact ih b hb (ht.args hb) a hab
 exact key t ht a ((k8 t a).1 ha)
theorem aen{t:Term}:∀a∈t.post,a.count≤t.count:=by
 intro a ha
 have key:∀t:Term,∀a∈t.pre,a.count≤t.count:=by
  intro t
  induction t using Term.ind with
  |h t ih=>
  intro a ha;rcases mZ.1 ha with rfl|⟨b,hb,hab⟩
  ·exact rU _
  ·have h1:=ih b hb a hab
   have h2:=Term.cJ hb;have h3:=Term.count_eq t;omega
 exact key t a ((k8 t a).1 ha)
theorem SD(t:Term)(ht:iD t)(hc:t.count≤1000000):nN P [21] kg ki (.p (.fn j9 [.ptr t.row 0])) [(2,.ptr 0 1 0 0),(5,.ptr 2 1 0 0),(6,.ptr 3 1 0 0)] (sK 0 (false,[])) 53 none =
  some (lp (sK 0) (fun x:Int×(Bool×Seen)=>(.ret,sK x.1 x.2)) (aq (fun i s u=>match J6 i s u with|.inl s'=>.inl s'|.inr e=>.inr (e,s)) 0 (false,[]) t.post)):=by
 refine aeV (rd:=none) (kept:=[(2,.ptr 0 1 0 0),(5,.ptr 2 1 0 0),(6,.ptr 3 1 0 0)]) (ps:=[21]) (iy:=kg) (b:=ki) (nt:=53) t hc ⟨rfl,rfl⟩ (sK 0) (fun i s u=>match J6 i s u with|.inl s'=>.inl s'|.inr e=>.inr (e,s)) (fun x:Int×(Bool×Seen)=>(.ret,sK x.1 x.2))
  (fun _ _=>True) (false,[]) rfl (fun _=>rfl) (fun _=>rfl) (fun s m hm=>?_) (fun s m hm=>?_) (by simp[below]) (fun _=>by simp) (fun i u s ha _=>?_) trivial
 ·have:(1:Nat)<m:=by have:(4:Nat)≤m:=hm;omega
  simp only[sK,Uj,abS,zd,Ac,wG,mG,B3,this,decide_true];rfl
 ·have:(1:Nat)<m:=by have:(4:Nat)≤m:=hm;omega
  simp only[sK,Uj,abS,zd,Ac,wG,mG,B3,this,decide_true];rfl
 ·have hum:=mR ha
  have hut:=ali ht u hum;have huc:=aen u hum;have hul:=Term.dL u.args;have huq:=Term.count_eq u;have hn:=ZP u hut (by omega)
  refine⟨fun _ _=>trivial,?_⟩
  simp only[sK,F9,y8];rw[Cz rfl ⟨rfl,rfl,rfl⟩];unfold J6;rcases cY (vh u=0)with h0|h0
  rotate_left
  ·simp only[h0,if_false,kg,ki]
   simp(disch:=omega)only[aB,↓aa,seval,-List.reduceReplicate,reduceCtorEq,ae,Bn,hn,h0,mG,ZV,af3]
  rcases cY (u.op=1)with h1|h1
  rotate_left
  ·simp only[h0,h1,if_true,if_false,kg,ki]
   simp(disch:=omega)only[aB,↓aa,seval,-List.reduceReplicate,reduceCtorEq,ae,Bn,hn,h0,h1,mG,af3]
  have hfk:=FQ u.name s.2;have hsk:=Re u.name u.w s.2;simp only[h0,h1,if_true];obtain⟨c,m⟩:=s;unfold ckB;cases hl:TK m u.name with
  |none=>
   rw[hl]at hfk;have hlk:=fun r a=>TM (r:=r) (a:=a) (z:=.p (.int .i64 0)) (kl:=.str) (k:=.str u.name) rfl hfk
   simp only[kg,ki];cases c<;>simp(disch:=omega)only[aB,↓aa,seval,-List.reduceReplicate,reduceCtorEq,ae,Bn,hn,h0,h1,mG,hlk,JU rfl hsk,apO,agd,ZV,af3,Ul,J5,Bool.or_false]
  |some o=>
   rw[hl]at hfk;have hlk:=fun r a=>TN (r:=r) (a:=a) (z:=.p (.int .i64 0)) (kl:=.str) (k:=.str u.name) rfl hfk
   simp only[kg,ki];rcases cY (o=u.w)with h2|h2<;>cases c<;>simp(disch:=omega)only[aB,↓aa,seval,-List.reduceReplicate,reduceCtorEq,ae,Bn,hn,h0,h1,mG,hlk,JU rfl hsk,apO,agd,af3,h2,Ul,J5,Bool.or_false]
def ckE(t:Term):Int:=match aq J6 0 (false,[]) t.post with
 |.inl s=>if s.1=true then 12 else 0
 |.inr e=>e
def ix(t:Term):Int:=if(t.deep:Int)≤64∧(t.count:Int)≤4096 then ckE t else 7
theorem JJ(t:Term)(ht:iD t)(hc:t.count≤1000000):R P mf [.agg t.row]=some (.int .i64 (ix t)):=by
 have hm:=Rc t ht 4096 64 (by omega) (by omega)
 unfold ix;unfold EF at hm;by_cases h1:(t.deep:Int)≤64∧(t.count:Int)≤4096
 rotate_left
 ·rw[if_neg h1]at hm
  rw[if_neg h1]
  (rw[Di (aD rfl),oD];simp(disch:=omega)only[aB,↓aa,seval,-List.reduceReplicate,reduceCtorEq,ae,qX,hm,ZV,aku])
 rw[if_pos h1]at hm;rw[if_pos h1];have hr:=SD t ht hc;have hA:=aff t
 have hx:∀(l:List Term) (i:Nat) (s:Bool×Seen),(aq (fun i s u=>match J6 i s u with|.inl s'=>.inl s'|.inr e=>.inr (e,s)) i s l:(Bool×Seen) ⊕ (Int×(Bool×Seen)))=match aq J6 i s l with
   |.inl s'=>.inl s'
   |.inr e=>match(aq (fun i s u=>match J6 i s u with|.inl s'=>.inl s'|.inr e=>.inr (e,s)) i s l:(Bool×Seen) ⊕ (Int×(Bool×Seen)))with|.inl s'=>.inl s'|.inr x=>.inr (e,x.2):=by
  intro l
  induction l with
  |nil=>intro i s;rfl
  |cons a l ih=>
   intro i s;simp only[aq];cases J6 i s a with
   |inl s'=>exact ih _ _
   |inr e=>rfl
 unfold ckE;rw[hx]at hr;simp only[sK,B0]at hr;cases hf:aq J6 0 (false,[]) t.post with
 |inl s=>
  rw[hf]at hr;obtain⟨c,m⟩:=s;cases c<;>(rw[Di (aD rfl),oD];simp(disch:=omega)only[aB,↓aa,seval,-List.reduceReplicate,reduceCtorEq,ae,qX,hm,QL,hA,EB,hr,agd,aku,ZV,afQ,Vi])
 |inr e=>
  rw[hf]at hr;cases hg:(aq (fun i s u=>match J6 i s u with|.inl s'=>.inl s'|.inr e=>.inr (e,s)) 0 (false,[]) t.post:(Bool×Seen) ⊕ (Int×(Bool×Seen)))with
  |inl s'=>
   exfalso;have:=hx t.post 0 (false,[])
   have key:∀(l:List Term) (i:Nat) (s s':Bool×Seen),(aq (fun i s u=>match J6 i s u with|.inl s'=>.inl s'|.inr e=>.inr (e,s)) i s l:(Bool×Seen) ⊕ (Int×(Bool×Seen)))=.inl s'→aq J6 i s l=.inl s':=by
    intro l
    induction l with
    |nil=>intro i s s' h;exact congrArg _ (Sum.inl.inj h)
    |cons a l ih=>
     intro i s s' h;simp only[aq]at h ⊢;cases hc:J6 i s a with
     |inl s1=>rw[hc]at h;exact ih _ _ _ h
     |inr e=>rw[hc]at h;cases h
   rw[key _ _ _ _ hg]at hf;cases hf
  |inr x=>
   rw[hg]at hr;obtain⟨e2,c,m⟩:=x
   (rw[Di (aD rfl),oD];simp(disch:=omega)only[aB,↓aa,seval,-List.reduceReplicate,reduceCtorEq,ae,qX,hm,QL,hA,EB,hr,agd,aku,ZV,afQ,Vi])
def XJ(a b:Term):Bool:=decide (a.op=1∧b.op=1∧a.name=b.name∧¬a.w=b.w)
def Sm(p:List Term):List Term→Bool
 | []=>false
 |u::r=>p.any (XJ u) ||Sm (p++[u]) r
def asS(p:List Term)(m:Seen):Prop:=(∀k w,TK m k=some w→∃b∈p,b.op=1∧b.name=k∧b.w=w)∧∀b∈p,b.op=1→TK m b.name=some b.w
theorem Vz(k:ByteArray)(w:Int)(k':ByteArray):∀m:Seen,TK (stW k w m) k'=if k'=k then some w else TK m k'
 | []=>by simp[stW,TK]
 |e::r=>by
  simp only[stW];by_cases h:k=e.1
  ·simp only[h,if_true,TK]
   by_cases h2:k'=e.1<;>simp[h2]
  ·simp only[h,if_false,TK]
   rw[Vz k w k' r];by_cases h2:k'=e.1
   ·have:¬k'=k:=fun e'=>h (by rw[←e',h2])
    simp[h2,this];intro e';exact absurd e'.symm h
   ·simp[h2]
theorem anr{p:List Term}{m:Seen}(h:asS p m){u:Term}(hu:u.op=1):p.any (XJ u)=ckB m u:=by
 unfold ckB;cases hl:TK m u.name with
 |none=>
  rw[RB];intro b hb;unfold XJ;simp only[decide_eq_true_eq]
  rintro⟨_,h2,h3,_⟩
  have:=h.2 b hb h2;rw[←h3,hl]at this;cases this
 |some w=>
  simp only
  by_cases hw:w=u.w
  ·rw[decide_eq_false (fun h=>h hw),RB]
   intro b hb;unfold XJ;simp only[decide_eq_true_eq]
   rintro⟨_,h2,h3,h4⟩
   have:=h.2 b hb h2;rw[←h3,hl,bN]at this;exact h4 (by rw[←this,hw])
  ·rw[decide_eq_true hw,abE]
   obtain⟨b,hb,h1,h2,h3⟩:=h.1 _ _ hl;refine⟨b,hb,?_⟩;unfold XJ;exact decide_eq_true ⟨hu,h1,h2.symm,by rw[h3];exact fun e=>hw e.symm⟩
theorem amM{p:List Term}{u:Term}(hu:¬u.op=1):p.any (XJ u)=false:=by
 rw[RB];intro b _;unfold XJ;simp[hu]
theorem UW:∀(r:List Term) (i:Nat) (m:Seen),(∀u∈r,vh u=0)→∃m',aq J6 i (true,m) r=.inl (true,m')
 | [],i,m,_=>⟨m,rfl⟩
 |u::r,i,m,h=>by
  have hr:∀v∈r,vh v=0:=fun v hv=>h v (by simp[hv])
  by_cases hu:u.op=1
  ·have hk:J6 i (true,m) u=.inl (true,stW u.name u.w m):=by
    unfold J6;rw[if_pos (h u (by simp)),if_pos hu];simp
   simp only[aq,hk];exact UW r (i+1) _ hr
  ·have hk:J6 i (true,m) u=.inl (true,m):=by
    unfold J6;rw[if_pos (h u (by simp)),if_neg hu]
   simp only[aq,hk];exact UW r (i+1) _ hr
theorem adt:∀(r p:List Term) (i:Nat) (m:Seen),(∀u∈r,vh u=0)→asS p m→∃m',aq J6 i (false,m) r=.inl (Sm p r,m')
 | [],p,i,m,_,_=>⟨m,rfl⟩
 |u::r,p,i,m,h,hi=>by
  have hr:∀v∈r,vh v=0:=fun v hv=>h v (by simp[hv])
  by_cases hu:u.op=1
  ·have hk:J6 i (false,m) u=.inl (ckB m u,stW u.name u.w m):=by
    unfold J6;rw[if_pos (h u (by simp)),if_pos hu];simp
   simp only[aq,Sm,hk];rw[anr hi hu];cases hc:ckB m u with
   |true=>obtain⟨m',hm⟩:=UW r (i+1) (stW u.name u.w m) hr;exact⟨m',by simpa using hm⟩
   |false=>
    simp only[J5];refine adt r (p++[u]) (i+1) _ hr ⟨fun k w hk=>?_,fun b hb hb1=>?_⟩
    ·rw[Vz]at hk
     split at hk
     ·rename_i e
      cases hk;exact⟨u,by simp,hu,e.symm,rfl⟩
     ·obtain⟨b,hb,h1⟩:=hi.1 _ _ hk
      exact⟨b,by simp[hb],h1⟩
    ·rw[Vz]
     rcases D6.1 hb with hb|hb
     ·split
      ·rename_i e
       have h2:=hi.2 b hb hb1;unfold ckB at hc;rw[←e,h2]at hc;simp only[decide_eq_false_iff_not,Ww]at hc;rw[hc]
      ·exact hi.2 b hb hb1
     ·rw[J7]at hb
      subst hb;simp
  ·have hk:J6 i (false,m) u=.inl (false,m):=by
    unfold J6;rw[if_pos (h u (by simp)),if_neg hu]
   simp only[aq,Sm,hk];rw[amM hu];simp only[J5];refine adt r (p++[u]) (i+1) _ hr ⟨fun k w hk=>?_,fun b hb hb1=>?_⟩
   ·obtain⟨b,hb,h1⟩:=hi.1 _ _ hk
    exact⟨b,by simp[hb],h1⟩
   ·rcases D6.1 hb with hb|hb
    ·exact hi.2 b hb hb1
    ·rw[J7]at hb
     subst hb;exact absurd hb1 hu
theorem ajk:∀(r:List Term) (i:Nat) (s:Bool×Seen),¬zN r=0→aq J6 i s r=.inr (zN r)
 | [],i,s,h=>absurd rfl h
 |u::r,i,s,h=>by
  simp only[zN]at h ⊢;by_cases h0:vh u=0
  ·rw[if_pos h0]at h ⊢
   have hk:∃s',J6 i s u=.inl s':=by
    unfold J6;rw[if_pos h0];by_cases hu:u.op=1
    ·rw[if_pos hu];exact⟨_,rfl⟩
    ·rw[if_neg hu];exact⟨_,rfl⟩
   obtain⟨s',hk⟩:=hk;simp only[aq,hk];exact ajk r (i+1) _ h
  ·rw[if_neg h0]
   have hk:J6 i s u=.inr (vh u):=by unfold J6;rw[if_neg h0]
   simp only[aq,hk]
theorem Eo:∀{l:List Term},zN l=0→∀u∈l,vh u=0
 | [],_,u,hu=>by simp at hu
 |a::l,h,u,hu=>by
  simp only[zN]at h;split at h
  ·rename_i h0
   rcases pU.1 hu with rfl|hu
   ·exact h0
   ·exact Eo h u hu
  ·rename_i h0;exact absurd h h0
theorem ads(t:Term):ckE t=if ¬zN t.post=0 then zN t.post else if Sm [] t.post=true then 12 else 0:=by
 unfold ckE;by_cases h:zN t.post=0
 ·rw[if_neg (fun h'=>h' h)]
  obtain⟨m',hm⟩:=adt t.post [] 0 [] (Eo h) ⟨fun k w hk=>by simp[TK]at hk,fun b hb=>by simp at hb⟩
  rw[hm]
 ·rw[if_pos h,ajk _ _ _ h]
theorem alL(v:V2)(u:Term):R P ec [.agg (ay v),.ptr u.row 0]=some (.bool (decide (v.name=u.name))):=by
 (rw[Nv (aD rfl),o7];simp(disch:=omega)only[aB,↓aa,seval,-List.reduceReplicate,reduceCtorEq,ae,ay])
theorem Ca{α:Type}(q:α→Bool):∀(as:List α) (i:Nat),(∃n:Nat,aq (S:=Unit) (T:=Nat) (fun i _ a=>if q a=true then .inr i else .inl ()) i () as=.inr n∧as.any q=true)∨(aq (S:=Unit) (T:=Nat) (fun i _ a=>if q a=true then .inr i else .inl ()) i () as=.inl ()∧as.any q=false)
 | [],i=>.inr ⟨rfl,rfl⟩
 |a::as,i=>by
  by_cases h:q a=true
  ·exact .inl ⟨i,by simp only[aq,h,if_true],by simp[h]⟩
  ·rcases Ca q as (i+1)with⟨n,h1,h2⟩|⟨h1,h2⟩
   ·exact .inl ⟨n,by simp only[aq,h];exact h1,by simp[h2]⟩
   ·exact .inr ⟨by simp only[aq,h];exact h1,by simp[h2,h]⟩
abbrev O0(l:List V2)(u:Term)(i:Int):List (Nat×AV):=[(0,.p (.aO (l.map ay))),(1,.p (.fn ec [.ptr u.row 0])),(7,.p (.int .i64 l.length)),(8,.p (.int .i64 i))]
def isV(u:Term)(v:V2):Bool:=decide (v.name=u.name)
theorem ZC(l:List V2)(u:Term)(hl:l.length≤1000000):R P bJ [.aO (l.map ay),.fn ec [.ptr u.row 0]]=some (.bool (l.any (isV u))):=by
 have h:=cE (P:=P) (nt:=19) (lv:=[0,1,7,8]) (b:=cP) (rd:=none) (as:=l) (fun i (_:Unit)=>O0 l u i) (fun _=>[]) (fun i _ v=>if isV u v=true then .inr i else .inl ()) (fun(n:Nat)=>b7 4 (.int .i64 n) []) (fun _ _=>True)
  (fun i v s hv hi hs=>by
   refine⟨fun _ _=>trivial,?_⟩
   have hlt:((i:Int)<l.length)=True:=by simpa using hi
   have hr:=alL v u;have hx:=fun σ=>aH (k:=.i64) (es:=2) (σ:=σ) (aw (f:=ay) hv) (by simp[ay])
   unfold isV;rcases cY (v.name=u.name)with h1|h1
   ·rw[decide_eq_true (of_eq_true h1)]at hr
    simp only[ay]at hr;simp only[cP,h1];simp(disch:=omega)only[aB,↓aa,seval,-List.reduceReplicate,reduceCtorEq,ae,hlt,hx,ay,DK,hr,O0,b7]
   ·rw[decide_eq_false (of_eq_false h1)]at hr
    simp only[ay]at hr;simp only[cP,h1];simp(disch:=omega)only[aB,↓aa,seval,-List.reduceReplicate,reduceCtorEq,ae,hlt,hx,ay,DK,hr,O0,b7]) (fun i s=>rfl) () trivial
 rcases Ca (isV u) l 0 with⟨n,h1,h2⟩|⟨h1,h2⟩
 ·rw[h1]at h
  obtain⟨⟨e',τ',σ',nt',rd'⟩,g1,g2,g3,g4⟩:=h
  simp only at g2 g3 g4
  subst g2;subst g4;have h':al P dQ (O0 l u 0) [] 19 none=some (.ret,⟨τ',[],nt',rd'⟩):=g1;simp only[O0]at h'
  have hi:R P bD [.aO (l.map ay),.fn ec [.ptr u.row 0]]=some (.int .i64 n):=by
   (rw[lj (aD rfl),cu];simp(disch:=omega)only[aB,↓aa,seval,-List.reduceReplicate,reduceCtorEq,ae,aR,kE,h',g3])
  have hn:((n:Int) ≥ 0)=True:=by simp
  rw[h2]
  (rw[jA (aD rfl),bZ];simp(disch:=omega)only[aB,↓aa,seval,-List.reduceReplicate,reduceCtorEq,ae,lg,hi,hn])
 ·rw[h1]at h
  obtain⟨_,h⟩:=h;have h':al P dQ (O0 l u 0) [] 19 none=_:=h;simp only[O0]at h'
  have hi:R P bD [.aO (l.map ay),.fn ec [.ptr u.row 0]]=some (.int .i64 (-1)):=by
   (rw[lj (aD rfl),cu];simp(disch:=omega)only[aB,↓aa,seval,-List.reduceReplicate,reduceCtorEq,ae,aR,kE,h',cP,lH])
  rw[h2]
  (rw[jA (aD rfl),bZ];simp(disch:=omega)only[aB,↓aa,seval,-List.reduceReplicate,reduceCtorEq,ae,lg,hi])
def yP(s:List V2)(u:Term):List V2:=if u.op=1∧s.any (isV u)=false then s++[⟨u.name,u.w⟩]else s
theorem aoN(u:Term)(s:List V2)(hs:s.length≤1000000):tH P (.fn gu [.ptr 1 1 0 0]) (qt u) (sV s)=some (.p (.bool true),sV (yP s u)):=by
 have hr:=ZC s u hs;have hap:=dP (σ:=sV s++[.pv 2 [ay ⟨u.name,u.w⟩] false]) (b:=0) (n:=s.length) (e:=mX 2 s) (es:=2) (bytes:=24) (rows:=s.map ay) (new:=[ay ⟨u.name,u.w⟩]) rfl (by simp) (sq _ _ _) (by simp only[lZ,nz];omega)
 simp only[sV,ay,F9,y8]at hap;rw[afN,Sv];unfold yP;simp only[qt,F9,y8];rcases cY (u.op=1)with h1|h1
 rotate_left
 ·rw[if_neg (fun h=>of_eq_false h1 h.1)]
  (rw[fK (aD rfl),mD];simp(disch:=omega)only[aB,↓aa,seval,-List.reduceReplicate,reduceCtorEq,ae,h1,Gh])
 cases hc:s.any (isV u)with
 |true=>
  rw[hc]at hr;rw[if_neg (by simp)]
  (rw[fK (aD rfl),mD];simp(disch:=omega)only[aB,↓aa,seval,-List.reduceReplicate,reduceCtorEq,ae,h1,Gh,aR,jz,hr,ay])
 |false=>
  rw[hc]at hr;rw[if_pos ⟨of_eq_true h1,rfl⟩]
  (rw[fK (aD rfl),mD];simp(disch:=omega)only[aB,↓aa,seval,-List.reduceReplicate,reduceCtorEq,ae,h1,Gh,aR,jz,hr,ay,hap,CR,jS,kM])
  simp only[sV,kM,CR,rK,B0,ay,jS,lZ,nz,vL]
def aeo(g:AV)(s:ah)(a:Term):ah ⊕ ah:=match fC P g (a.pre.map qt) s with
 |some (true,s')=>.inl s'
 |some (false,s')=>.inr s'
 |none=>.inr s
theorem Yk(g:AV):∀(as:List Term) (i:Nat) (s:ah) (b:Bool) (s':ah),fC P g ((Term.Dc as).map qt) s=some (b,s')→aq (fun _ s a=>aeo g s a) i s as=if b=true then .inl s' else .inr s'
 | [],i,s,b,s',h=>by
  simp only[Term.Dc,B0,fC,bN,rI]at h;obtain⟨rfl,rfl⟩:=h;rfl
 |a::as,i,s,b,s',h=>by
  simp only[Term.Dc,CR,pA]at h;simp only[aq,aeo];cases h1:fC P g (a.pre.map qt) s with
  |none=>rw[h1]at h;cases h
  |some x=>
   obtain⟨c,s1⟩:=x;rw[h1]at h;cases c with
   |true=>exact Yk g as (i+1) s1 b s' h
   |false=>
    simp only[C3,bN,rI]at h;obtain⟨rfl,rfl⟩:=h;rfl
abbrev O4(g:AV)(t:Term)(i:Int):List (Nat×AV):=[(1,g),(12,.p (.aO (t.args.map Term.row))),(13,.p (.int .i64 t.args.length)),(14,.p (.int .i64 i))]
theorem Xg(g:AV)(t:Term):t.count≤1000000→∀(σ σ':ah) (b:Bool),fC P g (t.pre.map qt) σ=some (b,σ')→call P fI [.p (.agg t.row),g] σ=some (.p (.bool b),σ'):=by
 induction t using Term.ind with
 |h t ih=>
 intro hc σ σ' b hr;have hlen:=Term.dL t.args;have hct:=Term.count_eq t;have hl:=wv _ _ _ _ hr;rw[Term.vj,rK]at hr;obtain⟨c,σ1,k1,k2,k3,k4⟩:=Ln hr;simp only[qt]at k1;have gc1:∀vs,gc σ.length vs σ1=σ1:=fun vs=>eU (by omega)
 have gc3:∀vs,gc σ.length vs σ'=σ':=fun vs=>eU (by omega)
 cases c with
 |false=>
  obtain⟨rfl,rfl⟩:=k4 rfl
  (rw[fK (aD rfl),fI];simp(disch:=omega)only[aB,↓aa,seval,-List.reduceReplicate,reduceCtorEq,ae,k1,gc1])
 |true=>
  have h3:=k3 rfl
  have h:=cE (P:=P) (nt:=23) (lv:=[1,12,13,14]) (b:=nh) (rd:=none) (as:=t.args) (fun i (_:ah)=>O4 g t i) (fun s=>s) (fun _ s a=>aeo g s a) (fun s r=>b7 4 (.bool false) s r) (fun i s=>∃b s',fC P g ((Term.Dc (t.args.drop i)).map qt) s=some (b,s'))
   (fun i a s ha hi hs=>by
    obtain⟨b2,s2,hs⟩:=hs;have hm:=mR ha;have hac:=Term.cJ hm;have hlt:((i:Int)<t.args.length)=True:=by simpa using hi
    have hd:t.args.drop i=a::t.args.drop (i+1):=by rw[abk hi];rw[o8 hi]at ha;cases ha;rfl
    rw[hd]at hs;simp only[Term.Dc,CR,pA]at hs;cases hx:fC P g (a.pre.map qt) s with
    |none=>rw[hx]at hs;cases hs
    |some x=>
     obtain⟨c,s1⟩:=x;rw[hx]at hs;have hv:=ih a hm (by omega) s s1 c hx
     have hl1:=wv _ _ _ _ hx;have gc2:∀vs,gc s.length vs s1=s1:=fun vs=>eU (by omega)
     cases c with
     |true=>
      refine⟨fun s' he=>?_,?_⟩
      ·simp only[aeo,hx]at he
       cases he;exact⟨_,_,hs⟩
      ·simp only[nh,aeo,hx]
       simp(disch:=omega)only[aB,↓aa,seval,-List.reduceReplicate,reduceCtorEq,ae,hlt,aH (aw (f:=Term.row) ha) a.az,yq,hv,gc2,O4]
     |false=>
      refine⟨fun s' he=>?_,?_⟩
      ·simp only[aeo,hx]at he
       cases he
      ·simp only[nh,aeo,hx]
       simp(disch:=omega)only[aB,↓aa,seval,-List.reduceReplicate,reduceCtorEq,ae,hlt,aH (aw (f:=Term.row) ha) a.az,yq,hv,gc2,b7,O4]) (fun i s=>rfl) σ1 ⟨b,σ',h3⟩
  rw[Yk g t.args 0 σ1 b σ' h3]at h;cases b with
  |true=>
   obtain⟨_,h⟩:=h;have h':al P rq (O4 g t 0) σ1 23 none=_:=h;simp only[O4]at h'
   (rw[fK (aD rfl),fI];simp(disch:=omega)only[aB,↓aa,seval,-List.reduceReplicate,reduceCtorEq,ae,k1,aR,Cd,h',nh,lH,gc3])
  |false=>
   obtain⟨⟨e,τ',σ2,nt',rd'⟩,g1,g2,g3,g4⟩:=h
   simp only at g2 g3 g4
   subst g2;subst g4;have h':al P rq (O4 g t 0) σ1 23 none=some (.ret,⟨τ',σ2,nt',rd'⟩):=g1;simp only[O4]at h'
   (rw[fK (aD rfl),fI];simp(disch:=omega)only[aB,↓aa,seval,-List.reduceReplicate,reduceCtorEq,ae,k1,aR,Cd,h',g3,gc3])
theorem ahA:∀(l:List Term) (i:Nat) (s:List V2),aq (T:=Empty) (fun _ s u=>.inl (yP s u)) i s l=.inl (l.foldl yP s):=fun l i s=>kD yP l i s
theorem WI{s:List V2}{u:Term}:(yP s u).length≤s.length+1:=by
 unfold yP;split<;>simp
theorem aqt(t:Term)(hc:t.count≤1000000):fC P (.fn gu [.ptr 1 1 0 0]) (t.pre.map qt) (sV [])=some (true,sV (t.pre.foldl yP [])):=by
 have h:=Lo (P:=P) (g:=.fn gu [.ptr 1 1 0 0]) (n:=2) (T:=Empty) qt sV (fun _ s u=>.inl (yP s u)) (fun t=>nomatch t) (fun i s=>s.length≤i) (fun s=>rfl) (fun t=>nomatch t) t.pre
  (fun i a s ha hs=>by
   have hi:=(gA.1 ha).1;rw[Term.nc]at hi;refine⟨fun s' he=>?_,?_⟩
   ·cases he
    have:=WI (s:=s) (u:=a);omega
   ·exact aoN a s (by omega)) t.pre 0 [] rfl (rU _)
 rw[ahA]at h;exact h
theorem Ir{α:Type}{lt:α→α→Bool}{x y:α}:∀{l:List α},y∈D0 lt x l↔y=x∨y∈l
 | []=>by simp[D0]
 |z::r=>by
  unfold D0;split
  ·simp only[pU,Ir (l:=r)]
   constructor
   ·rintro(h|h|h)
    ·exact .inr (.inl h)
    ·exact .inl h
    ·exact .inr (.inr h)
   ·rintro(h|h|h)
    ·exact .inr (.inl h)
    ·exact .inl h
    ·exact .inr (.inr h)
  ·simp
theorem tQ{α:Type}{lt:α→α→Bool}{y:α}:∀{l:List α},y∈dg lt l↔y∈l
 | []=>by simp[dg]
 |x::r=>by simp only[dg,Ir,tQ (l:=r),pU]
theorem wA{α β:Type}{lt:α→α→Bool}{lt':β→β→Bool}{f:α→β}(h:∀a b,lt' (f a) (f b)=lt a b):∀l:List α,dg lt' (l.map f)=(dg lt l).map f
 | []=>rfl
 |x::r=>by
  have ins:∀l:List α,D0 lt' (f x) (l.map f)=(D0 lt x l).map f:=by
   intro l
   induction l with
   |nil=>rfl
   |cons y l ih=>
    simp only[rK,D0,h];split<;>simp[ih]
  simp only[rK,dg,wA h r,ins]
def HN(a b:V2):Bool:=slt a.name b.name
theorem Da(a b:V2):YM (ay a) (ay b)=HN a b:=rfl
def AK(l:List V2):Prop:=l.Pairwise fun a b=>a.name≠b.name
theorem S7:∀{l:List V2},AK l→Ka YM (l.map ay)=true
 | [],_=>rfl
 |a::l,h=>by
  have h:=MJ.1 h;simp only[rK,Ka,S7 h.2,abX,List.all_map,CS];intro b hb
  show(YM (ay a) (ay b) ||YM (ay b) (ay a))=true
  rw[Da,Da];rcases sz a.name b.name with h1|h1|h1
  ·simp[HN,h1]
  ·exact absurd h1 (h.1 b hb)
  ·simp[HN,h1]
theorem Um(l:List V2):(l.map ay).all okV=true:=by
 induction l with
 |nil=>rfl
 |cons a l ih=>simp[ay,okV]
def N1(l:List V2):Prop:=l.Pairwise fun a b=>HN a b=true
theorem TA{x:V2}:∀{l:List V2},N1 l→(∀y∈l,y.name≠x.name)→N1 (D0 HN x l)
 | [],_,_=>by simp[D0,N1]
 |z::r,hs,hn=>by
  have hs':=MJ.1 hs;unfold D0;split
  ·rename_i hz
   refine MJ.2 ⟨fun y hy=>?_,TA hs'.2 fun y hy=>hn y (by simp[hy])⟩
   rcases Ir.1 hy with rfl|hy
   ·exact hz
   ·exact hs'.1 y hy
  ·rename_i hz
   have hx:HN x z=true:=by
    rcases sz x.name z.name with h1|h1|h1
    ·exact h1
    ·exact absurd h1.symm (hn z (by simp))
    ·exact absurd h1 hz
   refine MJ.2 ⟨fun y hy=>?_,hs⟩
   rcases pU.1 hy with rfl|hy
   ·exact hx
   ·exact uf hx (hs'.1 y hy)
theorem Hj:∀{l:List V2},AK l→N1 (dg HN l)
 | [],_=>by simp[dg,N1]
 |x::r,h=>by
  have h:=MJ.1 h;exact TA (Hj h.2) fun y hy=>fun e=>h.1 y (tQ.1 hy) e.symm
theorem K6:∀{l m:List V2},N1 l→N1 m→(∀x,x∈l↔x∈m)→l=m
 | [],[],_,_,_=>rfl
 | [],b::m,_,_,h=>by have:=(h b).2 (by simp);simp at this
 |a::l,[],_,_,h=>by have:=(h a).1 (by simp);simp at this
 |a::l,b::m,hl,hm,h=>by
  have hl':=MJ.1 hl;have hm':=MJ.1 hm
  have hab:a=b:=by
   rcases pU.1 ((h a).1 (by simp))with e|e
   ·exact e
   ·rcases pU.1 ((h b).2 (by simp))with e'|e'
    ·exact e'.symm
    ·have h1:=hm'.1 a e
     have h2:=hl'.1 b e';unfold HN at h1 h2;rw[r8 h1]at h2;cases h2
  subst hab;rw[K6 hl'.2 hm'.2 fun x=>⟨fun hx=>?_,fun hx=>?_⟩]
  ·rcases pU.1 ((h x).1 (by simp[hx]))with e|e
   ·subst e
    exact absurd rfl (K5 (hl'.1 x hx))
   ·exact e
  ·rcases pU.1 ((h x).2 (by simp[hx]))with e|e
   ·subst e
    exact absurd rfl (K5 (hm'.1 x hx))
   ·exact e
theorem agS{s:List V2}{u:Term}(h:AK s):AK (yP s u):=by
 unfold yP;split
 ·rename_i hc
  refine List.pairwise_append.2 ⟨h,by simp,fun a ha b hb=>?_⟩
  have hb:b=⟨u.name,u.w⟩:=by simpa using hb
  subst hb;intro e;have:=RB.1 hc.2 a ha;exact this (decide_eq_true e)
 ·exact h
theorem G7:∀{l:List Term} {s:List V2},AK s→AK (l.foldl yP s)
 | [],_,h=>h
 |u::l,s,h=>G7 (l:=l) (agS h)
theorem S5:∀{l:List Term} {s:List V2},(l.foldl yP s).length≤s.length+l.length
 | [],s=>by simp
 |u::l,s=>by
  have h1:=S5 (l:=l) (s:=yP s u);have h2:=WI (s:=s) (u:=u);simp only[S1,lZ];omega
def nP(t:Term):List V2:=dg HN (t.pre.foldl yP [])
theorem aqc(l:List V2)(hd:AK l)(hl:l.length≤1000000):l5 P bf [.sl 0 l.length,.p (.fn dR [])] (sV l)=some (.p (.jY []),sV (dg HN l)):=by
 rw[ly]
 have hlen:(dg HN l).length=l.length:=by
  have:∀l:List V2,(dg HN l).length=l.length:=by
   intro l
   induction l with
   |nil=>rfl
   |cons a l ih=>
    have ins:∀m:List V2,(D0 HN a m).length=m.length+1:=by
     intro m
     induction m with
     |nil=>rfl
     |cons b m ih=>simp only[D0];split<;>simp[ih]
    simp[dg,ins,ih]
  exact this l
 have he:mX 2 (dg HN l)=mX 2 l:=by
  cases l with
  |nil=>rfl
  |cons a l=>
   cases hi:dg HN (a::l)with
   |nil=>rw[hi]at hlen;simp at hlen
   |cons b m=>rfl
 have hrow:l.map ay=[]∨mX 2 l=2:=by cases l with|nil=>exact .inl rfl|cons a l=>exact .inr rfl
 have key:xW 2 dR okV YM [.sl 0 l.length,.p (.fn dR [])] (sV l)=some (.p (.jY []),sV (dg HN l)):=by
  simp only[xW,sV,if_true,S2];rw[if_pos ⟨by simp,by omega,hrow,Um l,S7 hd⟩]
  simp only[abf,wA Da,he,hlen]
 unfold zf;rw[key];rfl
theorem MC(t:Term)(hc:t.count≤1000000):R P oe [.agg t.row]=some (.aO ((nP t).map ay)):=by
 have hg:=aqt t hc;have hlen:=S5 (l:=t.pre) (s:=[]);rw[Term.nc,nz]at hlen;have hs:=aqc (t.pre.foldl yP []) (G7 (by simp[AK])) (by omega)
 have hp:=Xg _ t hc _ _ _ hg;have gc2:∀(a b:Obj) vs,gc 2 vs [a,b]=[a,b]:=fun a b vs=>eU (by simp)
 have hp':call P fI [.p (.agg t.row),.fn gu [.ptr 1 1 0 0]] [.pv 0 [] false,.av 1 [[.sl 0 0]] false]=some (.p (.bool true),sV (t.pre.foldl yP [])):=hp;have hz:nP t=dg HN (t.pre.foldl yP []):=rfl;rw[hz];generalize t.pre.foldl yP []=l at *;generalize dg HN l=m at *;simp only[sV]at hs hp'
 (rw[Zn (aD rfl),xL];simp(disch:=omega)only[aB,↓aa,seval,-List.reduceReplicate,reduceCtorEq,ae,akE,yq,hp',hs,gc2,aR])
theorem apn{vs:List AV}{a b c d:Obj}:gc 4 vs [a,b,c,d]=[a,b,c,d]:=eU (by simp)
theorem apo{vs:List AV}{a b c d e:Obj}:gc 4 vs [a,b,c,d,e]=if C2 4 vs [a,b,c,d,e]=true then[a,b,c,d]else[a,b,c,d,e]:=by unfold gc;rw[if_neg (by simp)];rfl
def T3(x y z:Int):Prop:=(x≤0∧y≤0→z≤0∧(z=0→x=0∧y=0))∧(x=0→z=y)∧(y=0→z=x)
def or2(x y:Int):Int:=if x=0 then y else x
theorem T3.or{x y z x' y' z':Int}(h:T3 x y z)(h':T3 x' y' z'):T3 (or2 x x') (or2 y y') (or2 z z'):=by
 unfold T3 or2 at *;obtain⟨h1,h2,h3⟩:=h;obtain⟨k1,k2,k3⟩:=h';split<;>split<;>split<;>omega
theorem ar7{a b:ByteArray}(h:slt a b=true):wk a b = -1:=by rw[B7,if_neg (K5 h),if_pos h]
theorem ar5(a:ByteArray):wk a a=0:=by rw[B7,if_pos rfl]
theorem ar6{a b:ByteArray}(h:slt b a=true):wk a b=1:=by rw[B7,if_neg (fun e=>K5 h e.symm),if_neg (by rw[r8 h];simp)]
def R3(x:Int):Prop:=x = -1∨x=0∨x=1
theorem R3.or{x y:Int}(h:R3 x)(h':R3 y):R3 (or2 x y):=by unfold or2;split<;>assumption
end Go.AE.S
