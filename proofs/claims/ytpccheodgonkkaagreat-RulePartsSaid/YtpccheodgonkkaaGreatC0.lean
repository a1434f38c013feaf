import Derived.Test.YtpccheodgonkkaaGreatB0
set_option maxHeartbeats 0
set_option linter.unusedSimpArgs false
set_option linter.unusedVariables false
namespace Go.AE.S
open Go Go.AE
variable {τ:Tm} {σ:ae} {rd:Option Nat}
theorem fw(o:Int):R P gY [.int .i64 o]=some (.bool (decide (24≤o∧o≤26))):=by
 (rw[GQ (aO rfl),l9];simp(disch:=omega)only[aG,↓aa,seval,-List.reduceReplicate,reduceCtorEq,af])
 by_cases h1:24≤o<;>by_cases h2:o≤26<;>simp(disch:=omega)only[aG,↓aa,seval,-List.reduceReplicate,reduceCtorEq,af,h1,h2]<;>rfl
theorem SH{α:Type}:∀(l s:List α),l.foldl (fun s a=>s++[a]) s=s++l
 | [],s=>by simp
 |a::l,s=>by rw[UM,SH l];simp
theorem am8{vs:List AV}{a b c d e f g:Obj}:gc 6 vs [a,b,c,d,e,f,g]=if yW 6 vs [a,b,c,d,e,f,g]=true then[a,b,c,d,e,f]else[a,b,c,d,e,f,g]:=by unfold gc;rw[if_neg (by simp)];rfl
abbrev sC0(t:Term)(s:List Term):ae:=[.pv 0 [] false,.av 5 [z5 0] false,.av 5 [[.p (.int .i64 t.op),.p (.int .i64 t.w),.p (.int .u64 t.v),.p (.str t.name),.sl 3 s.length]] false,.pv (mD 5 s) (s.map Term.row) false]
abbrev XG(t:Term)(i:Int):List (Nat×AV):=[(2,.ptr 1 1 0 0),(3,.ptr 2 1 0 0),(9,.p (.aW (t.args.map Term.row))),(10,.p (.int .i64 t.args.length)),(11,.p (.int .i64 i))]
theorem ye(t:Term):t.count≤1000000→R P iG [.agg t.row]=some (.agg t.row):=by
 induction t using Term.ind with
 |h t ih=>
 intro hc;have hlen:=Term.eo t.args;have hct:=Term.count_eq t
 obtain⟨hk,h⟩:=jj (P:=P) (nt:=24) (lv:=[2,3,9,10,11]) (b:=vO) (rd:=none) (as:=t.args) (fun i (_:List Term)=>XG t i) (sC0 t) (fun _ s a=>s++[a]) (fun i s=>s.length=i)
  (fun i a s ha hi hs=>by
   have hm:=mK ha;have hac:=Term.dK hm;have hr:=ih a hm (by omega)
   have hlt:((i:Int)<t.args.length)=True:=by simpa using hi
   have hap:=eZ (σ:=sC0 t s++[.pv 5 [a.row] false]) (b:=3) (n:=s.length) (e:=mD 5 s) (es:=5) (bytes:=64) (rows:=s.map Term.row) (new:=[a.row]) rfl (by simp) (r9 _ _ _) (by simp only[oi,pN];omega)
   simp only[sC0,z5,Ec,yK]at hap;refine⟨by simp[hs],?_⟩
   simp only[vO];simp(disch:=omega)only[aG,↓aa,seval,-List.reduceReplicate,reduceCtorEq,af,hlt,aU (ax (f:=Term.row) ha) a.aH,rq,hr,sC0,z5,hap,Ed,mh,kE,XG,am8]) (fun i s=>rfl) [] (by simp) _ (jH _ t.args 0 [])
 rw[SH,yK]at h;have h':an P zx (XG t 0) [.pv 0 [] false,.av 5 [z5 0] false,.av 5 [[.p (.int .i64 t.op),.p (.int .i64 t.w),.p (.int .u64 t.v),.p (.str t.name),.sl 3 0]] false,.pv 0 [] false] 24 none=_:=h;simp only[z5,sC0]at h'
 (rw[TF (aO rfl),uF];simp(disch:=omega)only[aG,↓aa,seval,-List.reduceReplicate,reduceCtorEq,af,bz,P3,h',vO,pD,XG])
 rw[Term.aY]
end Go.AE.S
namespace Go.AE
namespace Term
end Term
namespace S
open Go Go.AE
variable {τ:Tm} {σ:ae} {rd:Option Nat}
end S
end Go.AE
namespace Go.AE.S
open Go Go.AE
variable {τ:Tm} {σ:ae} {rd:Option Nat}
theorem ana{b m e j:Nat}{rows:List (List PV)}{fr:Bool}{σ:ae}(h:σ[b]?=some (.pv e rows fr))(hl:rows.length=m)(hj:j<m)(he:e=5):jd σ 5 (.sl b m) (.p (.int .i64 j))=some (.ptr b m j 0):=by
 subst he;unfold jd;simp[mm,NO,h,Obj.M4,hl,hj]
def AM(t:Term)(d n:Int):Int:=if(t.deep:Int)≤d∧(t.count:Int)≤n then n-t.count else -1
def MY(l:List Term)(d n:Int):Int:=if(Term.kr l:Int)≤d∧(Term.counts l:Int)≤n then n-Term.counts l else -1
def YN(d:Int)(_:Nat)(s:Int)(a:Term):Int ⊕ Unit:=if 0≤s then .inl (AM a d s)else .inr ()
theorem Sz(d:Int)(hd:0≤d):∀(l:List Term) (i:Nat) (s:Int),0≤s→match aq (YN d) i s l with|.inl s'=>s'=MY l d s|.inr _=>MY l d s = -1
 | [],i,s,hs=>by
  have e1:Term.kr []=0:=rfl;have e2:Term.counts []=0:=rfl;simp only[aq];unfold MY;rw[if_pos (by omega)];omega
 |a::l,i,s,hs=>by
  simp only[aq,YN,hs,if_true];by_cases h:(a.deep:Int)≤d∧(a.count:Int)≤s
  ·have e:AM a d s=s-a.count:=by unfold AM;rw[if_pos h]
   rw[e];have ih:=Sz d hd l (i+1) (s-a.count) (by omega)
   have e2:MY (a::l) d s=MY l d (s-a.count):=by
    have e1:Term.kr (a::l)=max a.deep (Term.kr l):=rfl;have e2:Term.counts (a::l)=a.count+Term.counts l:=rfl;unfold MY;by_cases h2:(Term.kr l:Int)≤d∧(Term.counts l:Int)≤s-a.count
    ·rw[if_pos h2,if_pos (by omega)];omega
    ·rw[if_neg h2,if_neg (by omega)]
   rw[e2];exact ih
  ·have e:AM a d s = -1:=by unfold AM;rw[if_neg h]
   have e2:MY (a::l) d s = -1:=by
    have e1:Term.kr (a::l)=max a.deep (Term.kr l):=rfl;have e2:Term.counts (a::l)=a.count+Term.counts l:=rfl;unfold MY;rw[if_neg (by omega)]
   rw[e,e2];cases l with
   |nil=>rfl
   |cons b l=>simp only[aq,YN,if_neg (show ¬(0:Int) ≤ -1 by omega)]
theorem agM(t:Term)(d n:Int)(hd:1≤d)(hn:1≤n):AM t d n=MY t.args (d-1) (n-1):=by
 unfold AM MY;rw[Term.vU,Term.count_eq];by_cases h:((Term.kr t.args:Nat):Int)≤d-1∧((Term.counts t.args:Nat):Int)≤n-1
 ·rw[if_pos h,if_pos (by omega)];omega
 ·rw[if_neg h,if_neg (by omega)]
theorem R6(t:Term)(d n:Int)(h:d<1∨n<1):AM t d n = -1:=by
 unfold AM;rw[Term.vU,Term.count_eq,if_neg (by omega)]
theorem agN(t:Term)(d n:Int):(0≤AM t d n∧AM t d n≤n)∨AM t d n = -1:=by
 unfold AM;split
 ·left;omega
 ·right;rfl
abbrev VE(t:Term)(d s i:Int):List (Nat×AV):=[(1,.p (.int .i64 d)),(2,.p (.int .i64 s)),(3,.p (.ptr t.row 0)),(7,.p (.int .i64 i))]
def ajb(r:Ex×St):Prop:=r.1=.exit 0∧r.2.τ.get 2=.p (.int .i64 (-1))∧r.2.σ=[]∧r.2.nt=37
theorem T0(t:Term):iM t→∀d n:Int,d≤1000000→n≤1000000→R P mO [.agg t.row,.int .i64 d,.int .i64 n]=some (.int .i64 (AM t d n)):=by
 induction t using Term.ind with
 |h t ih=>
 intro ht d n hd hn;by_cases h1:d<1
 ·rw[R6 t d n (.inl h1)]
  (rw[x5 (aO rfl),mH];simp(disch:=omega)only[aG,↓aa,seval,-List.reduceReplicate,reduceCtorEq,af,h1])
 by_cases h2:n<1
 ·rw[R6 t d n (.inr h2)]
  (rw[x5 (aO rfl),mH];simp(disch:=omega)only[aG,↓aa,seval,-List.reduceReplicate,reduceCtorEq,af,h1,h2])
 rw[agM t d n (by omega) (by omega)]
 have hlen:=ht.len
 have h:=cS (P:=P) (nt:=37) (lv:=[1,2,3,7]) (b:=rD) (rd:=none) (as:=t.args) (fun i (s:Int)=>VE t d s i) (fun _=>[]) (YN (d-1)) (fun _=>ajb) (fun i s=>(0≤s∧s≤1000000)∨s = -1)
  (fun i a s ha hi hs=>by
   have hm:=mK ha;have hlt:((i:Int)<t.args.length)=True:=by simpa using hi
   have hw:IntKind.i64.wrap (d-1)=d-1:=IntWalk.i64_in _ (by omega)
   unfold YN;by_cases h0:0≤s
   ·have hr:=ih a hm (ht.args hm) (d-1) s (by omega) (by omega)
    have hin:=agN a (d-1) s;simp only[h0,if_true];refine⟨fun s' he=>(by simp only[abX]at he;subst he;omega),?_⟩
    simp only[rD];simp(disch:=omega)only[aG,↓aa,seval,-List.reduceReplicate,reduceCtorEq,af,hlt,h0,hw,bz,aU (ax (f:=Term.row) ha) a.aH,BZ,hr,VE]
   ·have hs1:s = -1:=by omega
    subst hs1;refine⟨fun s' he=>(by simp at he),?_⟩
    simp only[rD];simp(disch:=omega)only[aG,↓aa,seval,-List.reduceReplicate,reduceCtorEq,af,hlt,h0,bz,VE,ajb]) (fun i s=>rfl) (n-1) (by omega)
 have hw1:IntKind.i64.wrap (n-1)=n-1:=IntWalk.i64_in _ (by omega)
 have hf:=Sz (d-1) (by omega) t.args 0 (n-1) (by omega)
 cases hfe:aq (YN (d-1)) 0 (n-1) t.args with
 |inr _=>
  rw[hfe]at h hf;obtain⟨⟨e,τ',σ',nt',rd'⟩,g1,g2,g3,g4,g5⟩:=h
  simp only at g2 g3 g4 g5 hf
  subst g2;subst g4;subst g5;have h':an P vQ (VE t d (n-1) 0) [] 37 none=_:=g1;simp only[VE]at h';rw[hf]
  (rw[x5 (aO rfl),mH];simp(disch:=omega)only[aG,↓aa,seval,-List.reduceReplicate,reduceCtorEq,af,h1,h2,hw1,EM,h',g3])
 |inl s'=>
  rw[hfe]at h hf
  simp only at hf
  obtain⟨hk,g1⟩:=h;have h':an P vQ (VE t d (n-1) 0) [] 37 none=_:=g1;simp only[VE]at h';rw[←hf]
  (rw[x5 (aO rfl),mH];simp(disch:=omega)only[aG,↓aa,seval,-List.reduceReplicate,reduceCtorEq,af,h1,h2,hw1,EM,h',rD,pD,bz])
def Bo(t:Term)(n d:Int):List PV:=if(t.deep:Int)≤d∧(t.count:Int)≤n then[.int .i64 (n-t.count),.bool true]else[.int .i64 0,.bool false]
def mF(d:Int)(_:Nat)(s:Int)(a:Term):Int ⊕ Unit:=if(a.deep:Int)≤d∧(a.count:Int)≤s then .inl (s-a.count)else .inr ()
theorem adK(d:Int):∀(l:List Term) (i:Nat) (s:Int),aq (mF d) i s l=if(((Term.kr l:Nat):Int)≤d∧((Term.counts l:Nat):Int)≤s)∨l=[]then .inl (s-Term.counts l)else .inr ()
 | [],i,s=>by
  have e2:Term.counts []=0:=rfl;rw[if_pos (.inr rfl),e2];simp[aq]
 |a::l,i,s=>by
  have e1:Term.kr (a::l)=max a.deep (Term.kr l):=rfl;have e2:Term.counts (a::l)=a.count+Term.counts l:=rfl;have hne:¬a::l=[]:=by simp
  simp only[aq,mF];by_cases h:(a.deep:Int)≤d∧(a.count:Int)≤s
  ·simp only[h,and_self,if_true]
   rw[adK d l (i+1)];by_cases h2:l=[]
   ·subst h2
    have e3:Term.kr []=0:=rfl;have e4:Term.counts []=0:=rfl;rw[if_pos (.inr rfl),if_pos (.inl (by omega))]
    congr 1;omega
   ·by_cases h3:((Term.kr l:Nat):Int)≤d∧((Term.counts l:Nat):Int)≤s-a.count
    ·rw[if_pos (.inl h3),if_pos (.inl (by omega))]
     congr 1;omega
    ·rw[if_neg (fun h=>h.elim h3 h2),if_neg (fun h=>h.elim (fun h=>h3 (by omega)) hne)]
  ·rw[if_neg h,if_neg (fun h'=>h'.elim (fun h'=>h (by omega)) hne)]
abbrev VG(t:Term)(d s i:Int):List (Nat×AV):=[(1,.p (.int .i64 s)),(2,.p (.int .i64 d)),(21,.p (.aW (t.args.map Term.row))),(22,.p (.int .i64 t.args.length)),(23,.p (.int .i64 i))]
def ajc(r:Ex×St):Prop:=r.1=.ret∧r.2.τ.get 6=.p (.int .i64 0)∧r.2.τ.get 7=.p (.bool false)∧r.2.σ=[]
theorem Me(t:Term):iM t→∀n d:Int,d≤1000000→n≤1000000→R P iH [.agg t.row,.int .i64 n,.int .i64 d]=some (.jO (Bo t n d)):=by
 induction t using Term.ind with
 |h t ih=>
 intro ht n d hd hn;have hde:=Term.vU t;have hco:=Term.count_eq t;by_cases h1:n<1
 ·have e:Bo t n d=[.int .i64 0,.bool false]:=by unfold Bo;rw[if_neg (by omega)]
  rw[e]
  (rw[sE (aO rfl),iz];simp(disch:=omega)only[aG,↓aa,seval,-List.reduceReplicate,reduceCtorEq,af,h1])
 by_cases h2:d<1
 ·have e:Bo t n d=[.int .i64 0,.bool false]:=by unfold Bo;rw[if_neg (by omega)]
  rw[e]
  (rw[sE (aO rfl),iz];simp(disch:=omega)only[aG,↓aa,seval,-List.reduceReplicate,reduceCtorEq,af,h1,h2])
 have hlen:=ht.len
 have h:=cS (P:=P) (nt:=40) (lv:=[1,2,21,22,23]) (b:=nD) (rd:=none) (as:=t.args) (fun i (s:Int)=>VG t d s i) (fun _=>[]) (mF (d-1)) (fun _=>ajc) (fun i s=>0≤s∧s≤1000000)
  (fun i a s ha hi hs=>by
   have hm:=mK ha;have hlt:((i:Int)<t.args.length)=True:=by simpa using hi
   have hw:IntKind.i64.wrap (d-1)=d-1:=IntWalk.i64_in _ (by omega)
   have hr:=ih a hm (ht.args hm) s (d-1) (by omega) (by omega)
   unfold mF;unfold Bo at hr;by_cases h0:(a.deep:Int)≤d-1∧(a.count:Int)≤s
   ·rw[if_pos h0]at hr
    rw[if_pos h0];refine⟨fun s' he=>(by simp only[abX]at he;subst he;omega),?_⟩
    simp only[nD];simp(disch:=omega)only[aG,↓aa,seval,-List.reduceReplicate,reduceCtorEq,af,hlt,hw,aU (ax (f:=Term.row) ha) a.aH,pz,hr,VG]
   ·rw[if_neg h0]at hr
    rw[if_neg h0];refine⟨fun s' he=>(by simp at he),?_⟩
    simp only[nD];simp(disch:=omega)only[aG,↓aa,seval,-List.reduceReplicate,reduceCtorEq,af,hlt,hw,aU (ax (f:=Term.row) ha) a.aH,pz,hr,VG,ajc]) (fun i s=>rfl) (n-1) (by omega)
 have hw1:IntKind.i64.wrap (n-1)=n-1:=IntWalk.i64_in _ (by omega)
 rw[adK]at h;by_cases hc:((Term.kr t.args:Nat):Int)≤d-1∧((Term.counts t.args:Nat):Int)≤n-1∨t.args=[]
 ·rw[if_pos hc]at h
  obtain⟨hk,g1⟩:=h;have h':an P qx (VG t d (n-1) 0) [] 40 none=_:=g1;simp only[VG]at h'
  have e:Bo t n d=[.int .i64 (n-1-Term.counts t.args),.bool true]:=by
   unfold Bo;have hd0:t.args=[]→Term.kr t.args=0∧Term.counts t.args=0:=fun h=>by rw[h];exact⟨rfl,rfl⟩
   rw[if_pos (by rcases hc with hc|hc;omega;have:=hd0 hc;omega)]
   congr 2;omega
  rw[e]
  (rw[sE (aO rfl),iz];simp(disch:=omega)only[aG,↓aa,seval,-List.reduceReplicate,reduceCtorEq,af,h1,h2,hw1,bz,An,h',nD,pD])
 ·rw[if_neg hc]at h
  obtain⟨⟨e,τ',σ',nt',rd'⟩,g1,g2,g3,g4,g5⟩:=h
  simp only at g2 g3 g4 g5
  subst g2;subst g5;have h':an P qx (VG t d (n-1) 0) [] 40 none=_:=g1;simp only[VG]at h'
  have e:Bo t n d=[.int .i64 0,.bool false]:=by
   unfold Bo;rw[if_neg (by simp only[not_or]at hc;omega)]
  rw[e]
  (rw[sE (aO rfl),iz];simp(disch:=omega)only[aG,↓aa,seval,-List.reduceReplicate,reduceCtorEq,af,h1,h2,hw1,bz,An,h',g3,g4])
def V3(t:Term)(d n:Int):List PV:=if(t.deep:Int)≤d∧(t.count:Int)≤n then[.agg t.row,.bool true]else[.agg zT.row,.bool false]
theorem TZ(t:Term)(ht:iM t)(d n:Int)(hd:d≤1000000)(hn:n≤1000000):R P o8 [.agg t.row,.int .i64 d,.int .i64 n]=some (.jO (V3 t d n)):=by
 have h:=T0 t ht d n hd hn;unfold V3;by_cases hc:(t.deep:Int)≤d∧(t.count:Int)≤n
 ·have h0:(AM t d n<0)=False:=by unfold AM;rw[if_pos hc];simp;omega
  rw[if_pos hc]
  (rw[H0 (aO rfl),ri];simp(disch:=omega)only[aG,↓aa,seval,-List.reduceReplicate,reduceCtorEq,af,BZ,h,h0,z5])
 ·have h0:(AM t d n<0)=True:=by unfold AM;rw[if_neg hc];simp
  rw[if_neg hc]
  (rw[H0 (aO rfl),ri];simp(disch:=omega)only[aG,↓aa,seval,-List.reduceReplicate,reduceCtorEq,af,BZ,h,h0,z5])
  simp[Q0]
abbrev VI(l m:List Term)(i:Int):List (Nat×AV):=[(0,.p (.aW (l.map Term.row))),(1,.p (.aW (m.map Term.row))),(5,.p (.int .i64 i))]
theorem XN{vs:List AV}{a b:Obj}:gc 0 vs [a,b]=if yW 0 vs [a,b]=true then[]else[a,b]:=by unfold gc;rw[if_neg (by simp)];rfl
theorem QD(l m:List Term)(hl:l.length≤9223372036854775807)(ih:∀a∈l,∀b∈m,R P iZ [.agg a.row,.agg b.row]=some (.bool (a.beq b))) :
  R P lL [.aW (l.map Term.row),.aW (m.map Term.row)]=some (.bool (Term.Gg l m)):=by
 rcases fC (((l.length:Nat):Int)=((m.length:Nat):Int))with h1|h1
 rotate_left
 ·rw[Term.Rm (fun h=>of_eq_false h1 (by rw[h]))]
  (rw[yA (aO rfl),lz];simp(disch:=omega)only[aG,↓aa,seval,-List.reduceReplicate,reduceCtorEq,af,bz,h1])
 have hlm:l.length=m.length:=by have:=of_eq_true h1;omega
 have hz:(l.zip m).length=l.length:=by rw[acb];omega
 have h:=cS (P:=P) (nt:=27) (lv:=[0,1,5]) (b:=oC) (rd:=none) (as:=l.zip m) (fun i (_:Unit)=>VI l m i) (fun _=>[]) (fun _ _ x=>if x.1.beq x.2=true then .inl ()else .inr ()) (fun(_:Unit)=>ec 4 (.bool false) []) (fun _ _=>True)
  (fun i x s ha hi hs=>by
   obtain⟨g1,g2⟩:=Ys ha;have hr:=ih x.1 (mK g1) x.2 (mK g2);have hlt:((i:Int)<l.length)=True:=by rw[hz]at hi;simpa using hi
   have hx1:=fun σ=>aU (k:=.i64) (es:=5) (σ:=σ) (ax (f:=Term.row) g1) x.1.aH
   have hx2:=fun σ=>aU (k:=.i64) (es:=5) (σ:=σ) (ax (f:=Term.row) g2) x.2.aH
   refine⟨fun _ _=>trivial,?_⟩
   cases hb:x.1.beq x.2 with
   |true=>
    rw[hb]at hr;simp only[oC,if_true];simp(disch:=omega)only[aG,↓aa,seval,-List.reduceReplicate,reduceCtorEq,af,hlt,bz,hx1,hx2,j9,hr,VI]
   |false=>
    rw[hb]at hr;simp only[oC,nh,if_false];simp(disch:=omega)only[aG,↓aa,seval,-List.reduceReplicate,reduceCtorEq,af,hlt,bz,hx1,hx2,j9,hr,VI,ec]) (fun i s=>rfl) () trivial
 rw[rl (fun x:Term×Term=>x.1.beq x.2),Term.Rn hlm,hz]at h
 cases hb:Term.Gg l m with
 |true=>
  rw[hb]at h;obtain⟨_,g1⟩:=h;have h':an P rU (VI l m 0) [] 27 none=_:=g1;simp only[VI]at h'
  (rw[yA (aO rfl),lz];simp(disch:=omega)only[aG,↓aa,seval,-List.reduceReplicate,reduceCtorEq,af,bz,h1,Bg,h',oC,pD])
 |false=>
  rw[hb]at h;obtain⟨⟨e,τ',σ',nt',rd'⟩,g1,g2,g3,g4⟩:=h
  simp only at g2 g3 g4
  subst g2;subst g4;have h':an P rU (VI l m 0) [] 27 none=_:=g1;simp only[VI]at h'
  (rw[yA (aO rfl),lz];simp(disch:=omega)only[aG,↓aa,seval,-List.reduceReplicate,reduceCtorEq,af,bz,h1,Bg,h',g3])
theorem Ac(t:Term):iM t→∀u:Term,R P iZ [.agg t.row,.agg u.row]=some (.bool (t.beq u)):=by
 induction t using Term.ind with
 |h t ih=>
 intro ht u;rw[Term.beq_eq];have hA:=QD t.args u.args ht.len (fun a ha b _=>ih a ha (ht.args ha) b)
 rcases fC (t.op=u.op)with h1|h1
 rotate_left
 ·(rw[xl (aO rfl),mZ];simp(disch:=omega)only[aG,↓aa,seval,-List.reduceReplicate,reduceCtorEq,af,h1,vD])
 rcases fC (t.w=u.w)with h2|h2
 rotate_left
 ·(rw[xl (aO rfl),mZ];simp(disch:=omega)only[aG,↓aa,seval,-List.reduceReplicate,reduceCtorEq,af,h1,h2,vD])
 rcases fC (t.v=u.v)with h3|h3
 rotate_left
 ·(rw[xl (aO rfl),mZ];simp(disch:=omega)only[aG,↓aa,seval,-List.reduceReplicate,reduceCtorEq,af,h1,h2,h3,vD])
 rcases fC (t.name=u.name)with h4|h4
 rotate_left
 ·(rw[xl (aO rfl),mZ];simp(disch:=omega)only[aG,↓aa,seval,-List.reduceReplicate,reduceCtorEq,af,h1,h2,h3,h4,vD])
 (rw[xl (aO rfl),mZ];simp(disch:=omega)only[aG,↓aa,seval,-List.reduceReplicate,reduceCtorEq,af,h1,h2,h3,h4,Nn,hA,vD])
abbrev Ke(l m:List Term)(i:Int):List (Nat×AV):=[(1,.p (.aW (m.map Term.row))),(2,.p (.fn et [])),(15,.p (.aW (l.map Term.row))),(16,.p (.int .i64 l.length)),(17,.p (.int .i64 i))]
theorem L8(l m:List Term)(hl:l.length≤9223372036854775807)(ih:∀a∈l,∀b∈m,R P et [.agg a.row,.agg b.row]=some (.bool (a.beq b))) :
  R P aL [.aW (l.map Term.row),.aW (m.map Term.row),.fn et []]=some (.bool (Term.Gg l m)):=by
 rcases fC (((l.length:Nat):Int)=((m.length:Nat):Int))with h1|h1
 rotate_left
 ·rw[Term.Rm (fun h=>of_eq_false h1 (by rw[h]))]
  (rw[cD (aO rfl),aJ];simp(disch:=omega)only[aG,↓aa,seval,-List.reduceReplicate,reduceCtorEq,af,bz,h1])
 have hlm:l.length=m.length:=by have:=of_eq_true h1;omega
 have hz:(l.zip m).length=l.length:=by rw[acb];omega
 have h:=cS (P:=P) (nt:=32) (lv:=[1,2,15,16,17]) (b:=bh) (rd:=none) (as:=l.zip m) (fun i (_:Unit)=>Ke l m i) (fun _=>[]) (fun _ _ x=>if x.1.beq x.2=true then .inl ()else .inr ()) (fun(_:Unit) r=>r.1=.ret∧r.2.τ.get 6=.p (.bool false)) (fun _ _=>True)
  (fun i x s ha hi hs=>by
   obtain⟨g1,g2⟩:=Ys ha;have hr:=ih x.1 (mK g1) x.2 (mK g2);have hlt:((i:Int)<l.length)=True:=by rw[hz]at hi;simpa using hi
   have hx1:=fun σ=>aU (k:=.i64) (es:=5) (σ:=σ) (ax (f:=Term.row) g1) x.1.aH
   have hx2:=fun σ=>aU (k:=.i64) (es:=5) (σ:=σ) (ax (f:=Term.row) g2) x.2.aH
   refine⟨fun _ _=>trivial,?_⟩
   cases hb:x.1.beq x.2 with
   |true=>
    rw[hb]at hr;simp only[bh,if_true];simp(disch:=omega)only[aG,↓aa,seval,-List.reduceReplicate,reduceCtorEq,af,hlt,bz,hx1,hx2,jK,hr,Ke,XN]
   |false=>
    rw[hb]at hr;simp only[bh,nh,if_false];simp(disch:=omega)only[aG,↓aa,seval,-List.reduceReplicate,reduceCtorEq,af,hlt,bz,hx1,hx2,jK,hr,Ke,XN]) (fun i s=>rfl) () trivial
 rw[rl (fun x:Term×Term=>x.1.beq x.2),Term.Rn hlm,hz]at h
 cases hb:Term.Gg l m with
 |true=>
  rw[hb]at h;obtain⟨_,g1⟩:=h;have h':an P bI (Ke l m 0) [] 32 none=_:=g1;simp only[Ke]at h'
  (rw[cD (aO rfl),aJ];simp(disch:=omega)only[aG,↓aa,seval,-List.reduceReplicate,reduceCtorEq,af,bz,h1,dM,h',bh,pD])
 |false=>
  rw[hb]at h;obtain⟨⟨e,τ',σ',nt',rd'⟩,g1,g2,g3⟩:=h
  simp only at g2 g3
  subst g2;have h':an P bI (Ke l m 0) [] 32 none=_:=g1;simp only[Ke]at h'
  (rw[cD (aO rfl),aJ];simp(disch:=omega)only[aG,↓aa,seval,-List.reduceReplicate,reduceCtorEq,af,bz,h1,dM,h',g3])
theorem u7(t:Term):iM t→∀u:Term,R P et [.agg t.row,.agg u.row]=some (.bool (t.beq u)):=by
 induction t using Term.ind with
 |h t ih=>
 intro ht u;rw[Term.beq_eq];have hA:=L8 t.args u.args ht.len (fun a ha b _=>ih a ha (ht.args ha) b)
 rcases fC (t.op=u.op)with h1|h1
 rotate_left
 ·(rw[u6 (aO rfl),kS];simp(disch:=omega)only[aG,↓aa,seval,-List.reduceReplicate,reduceCtorEq,af,h1,vD])
 rcases fC (t.w=u.w)with h2|h2
 rotate_left
 ·(rw[u6 (aO rfl),kS];simp(disch:=omega)only[aG,↓aa,seval,-List.reduceReplicate,reduceCtorEq,af,h1,h2,vD])
 rcases fC (t.v=u.v)with h3|h3
 rotate_left
 ·(rw[u6 (aO rfl),kS];simp(disch:=omega)only[aG,↓aa,seval,-List.reduceReplicate,reduceCtorEq,af,h1,h2,h3,vD])
 rcases fC (t.name=u.name)with h4|h4
 rotate_left
 ·(rw[u6 (aO rfl),kS];simp(disch:=omega)only[aG,↓aa,seval,-List.reduceReplicate,reduceCtorEq,af,h1,h2,h3,h4,vD])
 (rw[u6 (aO rfl),kS];simp(disch:=omega)only[aG,↓aa,seval,-List.reduceReplicate,reduceCtorEq,af,h1,h2,h3,h4,jf,hA,vD])
theorem SE{α β:Type}(g:α→β):∀(l:List α) (k:Nat) (s:List β),k+l.length=s.length→aq (T:=Empty) (fun i s a=>.inl (s.set i (g a))) k s l=.inl (s.take k++l.map g)
 | [],k,s,h=>by simp only[aq,CU,abq];rw[List.take_of_length_le (by simp at h;omega)]
 |a::l,k,s,h=>by
  simp only[aq];rw[SE g l (k+1) (s.set k (g a)) (by simp at h ⊢;omega)]
  congr 1
  simp only[oi]at h;rw[List.take_set,ue];have hk:k<s.length:=by omega
  have:(s.take (k+1)).set k (g a)=s.take k++[g a]:=by
   rw[List.take_succ_eq_append_getElem hk,List.set_append_right _ _ (by rw[abD];omega),abD,Nat.min_eq_left (by omega),Yw]
   rfl
  rw[this];simp
theorem Zf{α β:Type}(g:α→β)(l:List α)(s:List β)(h:l.length=s.length):aq (T:=Empty) (fun i s a=>.inl (s.set i (g a))) 0 s l=.inl (l.map g):=by
 rw[SE g l 0 s (by omega)];rfl
theorem XQ{b m es j:Nat}{rows:List (List PV)}{fr:Bool}{σ:ae}(h:σ[b]?=some (.pv es rows fr))(hl:rows.length=m)(hj:j<m):jd σ es (.sl b m) (.p (.int .i64 j))=some (.ptr b m j 0):=by
 unfold jd;simp[mm,NO,h,Obj.M4,hl,hj]
theorem afH{σ:ae}{b m e j:Nat}{rows:List (List PV)}{v:PV}(hl:rows.length=m)(hw:∀x∈rows,x.length=1)(hj:j<m):QQ σ b m j 0 [.p v] (some (.pv e rows false))=some (σ.set b (.pv e (rows.set j [v]) false)):=by
 have hg:rows[j]?=some rows[j]:=oh (by omega)
 have h5:(rows[j]'(by omega)).length=1:=hw _ (UJ _)
 have hp:b9 0 [v] (rows[j]'(by omega))=some [v]:=by
  unfold b9;rw[h5,if_pos (by simp)]
  simp[ab7,h5]
 simp only[QQ,hl,if_true,hg,xu,af,vd,hp]
theorem ani{t:Term}{fr:Bool}:KS 1 0 1 1 false (some (.pv 5 [t.row] fr))=some (.p (.int .i64 t.w)):=by rw[Term.aY];rfl
abbrev agV(l:List Term)(i:Int):List (Nat×AV):=[(3,.sl 0 l.length),(9,.p (.aW (l.map Term.row))),(10,.p (.int .i64 l.length)),(11,.p (.int .i64 i))]
theorem NN(l:List Term)(hl:l.length≤1000000):R P lP [.aW (l.map Term.row)]=some (.aW ((l.map Term.w).map iJ)):=by
 obtain⟨hk,h⟩:=jj (P:=P) (nt:=23) (lv:=[3,9,10,11]) (b:=rH) (rd:=none) (as:=l) (fun i (_:List (List PV))=>agV l i) (fun s=>[.pv 1 s false]) (fun i s a=>s.set i (iJ a.w)) (fun i s=>s.length=l.length∧∀x∈s,x.length=1)
  (fun i a s ha hi hs=>by
   obtain⟨hs1,hs2⟩:=hs;have hlt:((i:Int)<l.length)=True:=by simpa using hi
   have hia:=fun(o1 o2:Obj)=>XQ (σ:=[.pv 1 s false,o1,o2]) (b:=0) (m:=l.length) (j:=i) rfl hs1 hi
   have hst:=fun(σ:ae)=>afH (σ:=σ) (b:=0) (m:=l.length) (e:=1) (j:=i) (v:=.int .i64 a.w) hs1 hs2 hi
   refine⟨⟨by simp[hs1],fun x hx=>?_⟩,?_⟩
   ·rcases List.mem_or_eq_of_mem_set hx with hx|rfl
    ·exact hs2 x hx
    ·rfl
   ·simp only[rH]
    simp(disch:=omega)only[aG,↓aa,seval,-List.reduceReplicate,reduceCtorEq,af,hlt,bz,aU (ax (f:=Term.row) ha) a.aH,agV,hia,hst,iJ,ani]) (fun i s=>rfl) (List.replicate l.length [.int .i64 0]) ⟨by simp,fun x hx=>by rw[(List.mem_replicate.1 hx).2];rfl⟩ _ (Zf (fun a:Term=>iJ a.w) l _ (by simp))
 have h':an P wN (agV l 0) [.pv 1 (List.replicate l.length [.int .i64 0]) false] 23 none=_:=h;simp only[agV]at h';have hm:=fun(σ:ae)=>ai8 (σ:=σ) (k:=.i64) (es:=1) (bytes:=8) (n:=l.length) (zero:=[.p (.int .i64 0)]) (z:=[.int .i64 0]) rfl (by omega)
 (rw[Nx (aO rfl),qi];simp(disch:=omega)only[aG,↓aa,seval,-List.reduceReplicate,reduceCtorEq,af,bz,hm,KP,h',rH,pD])
 simp[ach]
theorem A0:∀ps:List PV,af (ps.map AV.p)=some ps
 | []=>rfl
 |a::r=>by simp only[ue,af,A0 r,vd]
def sj(t:Term):Int :=
 if arity t.op<0 then 4 else if 24≤t.op∧t.op≤26 then 4 else if ¬(t.args.length:Int)=arity t.op then 4
 else if ¬t.name=bs []∧¬t.op=1 then 4 else if ¬t.v=0∧¬t.op=2∧¬t.op=21 then 4
 else if t.op=1∧pn t.name=false then 5 else if t.w<1 then 3
 else if ¬(cG t.op t.w t.v (t.args.map Term.w)).2=0 then 3 else if ¬(cG t.op t.w t.v (t.args.map Term.w)).1=t.w then 3 else 0
theorem T5(t:Term)(ht:iM t)(hc:t.args.length≤1000000):R P ph [.agg t.row]=some (.int .i64 (sj t)):=by
 have hwd:=NN t.args hc;have hW:=xo t.op t.w t.v (t.args.map Term.w) (by rw[bz];exact hc) ht.v
 unfold sj;generalize hr:cG t.op t.w t.v (t.args.map Term.w)=r at hW ⊢;obtain⟨rw,re⟩:=r;simp only[two]at hW;rcases fC (arity t.op<0)with h1|h1
 ·(rw[mU (aO rfl),gD];simp(disch:=omega)only[aG,↓aa,seval,-List.reduceReplicate,reduceCtorEq,af,aB,aC,fu,fw,bz,h1])
 rcases fC (24≤t.op∧t.op≤26)with h2|h2
 ·have g2:(t.op∈[24,25,(26:Int)])=True:=by have:=of_eq_true h2;simp;omega
  (rw[mU (aO rfl),gD];simp(disch:=omega)only[aG,↓aa,seval,-List.reduceReplicate,reduceCtorEq,af,aB,aC,fu,fw,bz,h1,h2,g2])
 have g2:(t.op∈[24,25,(26:Int)])=False:=by have:=of_eq_false h2;simp;omega
 rcases fC ((t.args.length:Int)=arity t.op)with h3|h3
 rotate_left
 ·(rw[mU (aO rfl),gD];simp(disch:=omega)only[aG,↓aa,seval,-List.reduceReplicate,reduceCtorEq,af,aB,aC,fu,fw,bz,h1,h2,g2,h3])
 have ho:∃a b c:Prop,(a=True∨a=False)∧(b=True∨b=False)∧(c=True∨c=False)∧(t.op=1)=a∧(t.op=2)=b∧(t.op=21)=c∧(a→¬b∧¬c)∧(b→¬c) :=
  ⟨_,_,_,fC _,fC _,fC _,rfl,rfl,rfl,fun h=>⟨by omega,by omega⟩,fun h=>by omega⟩
 obtain⟨a,b,c,ha,hb,hcc,e1,e2,e3,i1,i2⟩:=ho;rcases ha with rfl|rfl<;>rcases hb with rfl|rfl<;>rcases hcc with rfl|rfl
 all_goals try(exfalso;simp at i1 i2;done)
 all_goals rcases fC (t.name=bs [])with hn|hn<;>rcases fC (t.v=0)with hv|hv
 all_goals try((rw[mU (aO rfl),gD];simp(disch:=omega)only[aG,↓aa,seval,-List.reduceReplicate,reduceCtorEq,af,aB,aC,fu,fw,bz,h1,h2,g2,h3,e1,e2,e3,hn,hv]);done)
 all_goals cases hk:pn t.name
 all_goals try((rw[mU (aO rfl),gD];simp(disch:=omega)only[aG,↓aa,seval,-List.reduceReplicate,reduceCtorEq,af,aB,aC,fu,fw,bz,h1,h2,g2,h3,e1,e2,e3,hn,hv,gN,jL,hk]);done)
 all_goals rcases fC (t.w<1)with h7|h7
 all_goals try((rw[mU (aO rfl),gD];simp(disch:=omega)only[aG,↓aa,seval,-List.reduceReplicate,reduceCtorEq,af,aB,aC,fu,fw,bz,h1,h2,g2,h3,e1,e2,e3,hn,hv,gN,jL,hk,h7,yz,hwd,dG,hW]);done)
 all_goals rcases fC (re=0)with h8|h8
 all_goals try((rw[mU (aO rfl),gD];simp(disch:=omega)only[aG,↓aa,seval,-List.reduceReplicate,reduceCtorEq,af,aB,aC,fu,fw,bz,h1,h2,g2,h3,e1,e2,e3,hn,hv,gN,jL,hk,h7,yz,hwd,dG,hW,h8]);done)
 all_goals rcases fC (rw=t.w)with h9|h9
 all_goals (rw[mU (aO rfl),gD];simp(disch:=omega)only[aG,↓aa,seval,-List.reduceReplicate,reduceCtorEq,af,aB,aC,fu,fw,bz,h1,h2,g2,h3,e1,e2,e3,hn,hv,gN,jL,hk,h7,yz,hwd,dG,hW,h8,h9])
end Go.AE.S
namespace Go.AE
section
variable {P:Prog} {σ σ':ae} {nt n:Nat} {rd:Option Nat} {g:AV}
def eW(P:Prog)(g:AV):List (List AV)→ae→Option (Bool×ae)
 | [],σ=>some (true,σ)
 |a::r,σ=>match rk P g a σ with
  |some (.p (.bool true),σ')=>if σ'.length=σ.length then eW P g r σ' else none
  |some (.p (.bool false),σ')=>if σ'.length=σ.length then some (false,σ')else none
  |_=>none
def zM(P:Prog)(g:AV)(r:List (List AV)):Option (Bool×ae)→Option (Bool×ae)
 |some (true,σ)=>eW P g r σ
 |some (false,σ)=>some (false,σ)
 |none=>none
theorem nZ:∀(x y:List (List AV)) (σ:ae),eW P g (x++y) σ=zM P g y (eW P g x σ)
 | [],y,σ=>rfl
 |a::x,y,σ=>by
  simp only[Ec,eW];split
  ·rename_i σ' h
   split
   ·exact nZ x y σ'
   ·rfl
  ·rename_i σ' h
   split<;>rfl
  ·rfl
theorem tn:∀(x:List (List AV)) (σ σ':ae) (b:Bool),eW P g x σ=some (b,σ')→σ'.length=σ.length
 | [],σ,σ',b,h=>by simp only[eW,bL,pY]at h;rw[←h.2]
 |a::x,σ,σ',b,h=>by
  simp only[eW]at h;split at h
  ·rename_i σ1 h1
   split at h
   ·rename_i hl
    rw[tn x σ1 σ' b h,hl]
   ·cases h
  ·rename_i σ1 h1
   split at h
   ·rename_i hl
    simp only[bL,pY]at h;rw[←h.2,hl]
   ·cases h
  ·cases h
theorem Hf{a:List AV}{r:List (List AV)}{b:Bool}(h:eW P g (a::r) σ=some (b,σ')) :
  ∃c σ1,rk P g a σ=some (.p (.bool c),σ1)∧σ1.length=σ.length∧(c=true→eW P g r σ1=some (b,σ'))∧(c=false→b=false∧σ'=σ1):=by
 simp only[eW]at h;split at h
 ·rename_i σ1 h1
  split at h
  ·rename_i hl
   exact⟨true,σ1,h1,hl,fun _=>h,by simp⟩
  ·cases h
 ·rename_i σ1 h1
  split at h
  ·rename_i hl
   simp only[bL,pY]at h;exact⟨false,σ1,h1,hl,by simp,fun _=>⟨h.1.symm,h.2.symm⟩⟩
  ·cases h
 ·cases h
theorem Hg{S T α:Type}(arg:α→List AV)(sto:S→ae)(f:Nat→S→α→S ⊕ T)(out:T→ae)(ok:Nat→S→Prop)(hlen:∀s,(sto s).length=n)(hout:∀t,(out t).length=n)(as:List α)
  (hstep:∀(i:Nat) (a:α) (s:S),as[i]?=some a→ok i s→(∀s',f i s a=.inl s'→ok (i+1) s') ∧
   rk P g (arg a) (sto s)=(match f i s a with
    |.inl s'=>some (.p (.bool true),sto s')
    |.inr t=>some (.p (.bool false),out t))) :
  ∀(r:List α) (i:Nat) (s:S),as.drop i=r→ok i s→eW P g (r.map arg) (sto s)=(match aq f i s r with
    |.inl s'=>some (true,sto s')
    |.inr t=>some (false,out t)):=by
 intro r
 induction r with
 |nil=>intro i s _ _;rfl
 |cons a r ih=>
  intro i s hd hok
  have ha:as[i]?=some a:=by
   have:=congrArg (·[0]?) hd;simpa using this
  have hr:as.drop (i+1)=r:=by
   have:=congrArg (List.drop 1) hd;simpa using this
  obtain⟨h1,h2⟩:=hstep i a s ha hok;simp only[ue,eW,aq];rw[h2];cases hf:f i s a with
  |inl s'=>
   simp only
   rw[if_pos (by rw[hlen,hlen]),ih (i+1) s' hr (h1 s' hf)]
  |inr t=>
   simp only
   rw[if_pos (by rw[hlen,hout])]
theorem TL{S T α:Type}{gv:AV}{kept:List (Nat×AV)}{ps:List Nat}{gP b:K}{f0:FuncId}{fn:cZ}{cap:List AV}(hfn:PO gv=some (f0,cap))(hF:P.fn f0=some fn)(hps:nodup ps=true∧ps.all (· < nt)=true)
  (X:List Obj) (arg:α→List AV) (sto:S→ae) (f:Nat→S→α→S ⊕ T) (out:T→Ex×ae) (ok:Nat→S→Prop) (as:List α) (s0:S) (hrd:rZ rd (sto s0)=true)
  (hcall:∀(a:α) (σ σ':ae) (bb:Bool),σ.length=(sto s0).length+1→σ'.length=(sto s0).length+1→round P (sto s0).length (arg a) (σ++X)=some (.p (.bool bb),σ'++X)→rk P g (arg a) (σ++X)=some (.p (.bool bb),σ'++X))
  (iter:∀(σ σ':ae) (bb:Bool),σ.length=(sto s0).length+1→σ'.length=(sto s0).length+1→σ'.all (Obj.below ((sto s0).length+1))=true→eW P g (as.map arg) (σ++X)=some (bb,σ'++X)→∃v,call P fn (.yield (sto s0).length::cap) σ=some (v,σ'))
  (hlen:∀s,(sto s).length=(sto s0).length) (hout:∀t,(out t).2.length=(sto s0).length)
  (hbel:∀s m,(sto s0).length≤m→(sto s).all (Obj.below m)=true) (hbelo:∀t m,(sto s0).length≤m→(out t).2.all (Obj.below m)=true) (hkb:(kept.all fun x=>below ((sto s0).length+1) x.2)=true) (hnn:∀t,(out t).1≠.normal)
  (hstep:∀(i:Nat) (a:α) (s:S),as[i]?=some a→ok i s→(∀s',f i s a=.inl s'→ok (i+1) s') ∧
   round P (sto s0).length (arg a) ((sto s++[.loop kept nt ps gP b none])++X)=(match f i s a with
    |.inl s'=>some (.p (.bool true),(sto s'++[.loop kept nt ps gP b none])++X)
    |.inr t=>some (.p (.bool false),((out t).2++[.loop kept nt ps gP b (some (out t).1)])++X)))
  (h0:ok 0 s0):mA P ps gP b gv kept (sto s0) nt rd=some (ki sto out (aq f 0 s0 as)):=by
 have hr:=Hg (P:=P) (g:=g) (n:=(sto s0).length+1+X.length) arg (fun s=>(sto s++[.loop kept nt ps gP b none])++X) f (fun t=>((out t).2++[.loop kept nt ps gP b (some (out t).1)])++X) ok
  (fun s=>by simp[hlen];omega) (fun t=>by simp[hout];omega) as (fun i a s ha hok=>by
   obtain⟨h1,h2⟩:=hstep i a s ha hok;refine⟨h1,?_⟩;cases hf:f i s a with
   |inl s'=>rw[hf]at h2;exact hcall a _ _ _ (by simp[hlen]) (by simp[hlen]) h2
   |inr t=>rw[hf]at h2;exact hcall a _ _ _ (by simp[hlen]) (by simp[hout]) h2) as 0 s0 rfl h0
 have gcs:∀x:ae,x.length=(sto s0).length→x.all (Obj.below (sto s0).length)=true→gc (sto s0).length [] (x++[.gone])=x:=by
  intro x hx hb;unfold gc;rw[if_neg (by simp[hx])]
  have ht:(x++[Obj.gone]).take (sto s0).length=x:=by rw[←hx];simp
  rw[if_pos (by simp only[yW,ht,abM,hb,Q8]),ht]
 have seta:∀(x:ae) (o o':Obj),x.length=(sto s0).length→(x++[o]).set (sto s0).length o'=x++[o']:=by
  intro x o o' hx;rw[←hx];simp
 have geta:∀(x:ae) (o:Obj),x.length=(sto s0).length→(x++[o])[(sto s0).length]?=some o:=by
  intro x o hx;rw[←hx];simp
 have bl:∀(x:ae) (e:Option Ex),x.all (Obj.below ((sto s0).length+1))=true→(x++[Obj.loop kept nt ps gP b e]).all (Obj.below ((sto s0).length+1))=true:=by
  intro x e hx;rw[List.all_append,hx];simp only[UA,abM,ab0,IZ];exact hkb
 unfold mA;simp only[hfn,hF,xu,hrd,hps,Q8,if_true];cases hf:aq f 0 s0 as with
 |inl s=>
  rw[hf]at hr;obtain⟨v,hv⟩:=iter _ _ _ (by simp) (by simp[hlen]) (bl _ _ (hbel s _ (by omega))) hr
  rw[hv];simp only[xu,geta _ _ (hlen s),seta _ _ _ (hlen s),gcs _ (hlen s) (hbel s _ (qj _)),ki]
 |inr t=>
  rw[hf]at hr;obtain⟨v,hv⟩:=iter _ _ _ (by simp) (by simp[hout]) (bl _ _ (hbelo t _ (by omega))) hr
  rw[hv];have hn:=hnn t;simp only[xu,geta _ _ (hout t),seta _ _ _ (hout t),gcs _ (hout t) (hbelo t _ (qj _)),ki]
end
namespace S
open Go Go.AE
variable {τ:Tm} {σ:ae} {rd:Option Nat}
def Wc(g:AV)(s:ae)(a:Term):ae ⊕ ae:=match eW P g (a.post.map oU) s with
 |some (true,s')=>.inl s'
 |some (false,s')=>.inr s'
 |none=>.inr s
theorem SB(g:AV):∀(as:List Term) (i:Nat) (s:ae) (b:Bool) (s':ae),eW P g ((Term.vH as).map oU) s=some (b,s')→aq (fun _ s a=>Wc g s a) i s as=if b=true then .inl s' else .inr s'
 | [],i,s,b,s',h=>by
  simp only[Term.vH,CU,eW,bL,pY]at h;obtain⟨rfl,rfl⟩:=h;rfl
 |a::as,i,s,b,s',h=>by
  simp only[Term.vH,Ed,nZ]at h;simp only[aq,Wc];cases h1:eW P g (a.post.map oU) s with
  |none=>rw[h1]at h;cases h
  |some x=>
   obtain⟨c,s1⟩:=x;rw[h1]at h;cases c with
   |true=>exact SB g as (i+1) s1 b s' h
   |false=>
    simp only[zM,bL,pY]at h;obtain⟨rfl,rfl⟩:=h;rfl
abbrev Kj(g:AV)(t:Term)(i:Int):List (Nat×AV):=[(1,g),(2,.p (.ptr t.row 0)),(8,.p (.aW (t.args.map Term.row))),(9,.p (.int .i64 t.args.length)),(10,.p (.int .i64 i))]
theorem RD(g:AV)(t:Term):t.count≤1000000→∀(σ σ':ae) (b:Bool),eW P g (t.post.map oU) σ=some (b,σ')→call P gW [.p (.agg t.row),g] σ=some (.p (.bool b),σ'):=by
 induction t using Term.ind with
 |h t ih=>
 intro hc σ σ' b hr;have hlen:=Term.eo t.args;have hct:=Term.count_eq t;have hl:=tn _ _ _ _ hr;rw[Term.Qf,Ed,nZ]at hr;cases h3:eW P g ((Term.vH t.args).map oU) σ with
 |none=>rw[h3]at hr;cases hr
 |some x=>
  obtain⟨c,σ1⟩:=x;rw[h3]at hr;have hl3:=tn _ _ _ _ h3
  have h:=cS (P:=P) (nt:=22) (lv:=[1,2,8,9,10]) (b:=kK) (rd:=none) (as:=t.args) (fun i (_:ae)=>Kj g t i) (fun s=>s) (fun _ s a=>Wc g s a) (fun s r=>ec 4 (.bool false) s r) (fun i s=>∃b s',eW P g ((Term.vH (t.args.drop i)).map oU) s=some (b,s'))
   (fun i a s ha hi hs=>by
    obtain⟨b2,s2,hs⟩:=hs;have hm:=mK ha;have hac:=Term.dK hm;have hlt:((i:Int)<t.args.length)=True:=by simpa using hi
    have hd:t.args.drop i=a::t.args.drop (i+1):=by rw[abc hi];rw[oh hi]at ha;cases ha;rfl
    rw[hd]at hs;simp only[Term.vH,Ed,nZ]at hs;cases hx:eW P g (a.post.map oU) s with
    |none=>rw[hx]at hs;cases hs
    |some x=>
     obtain⟨c,s1⟩:=x;rw[hx]at hs;have hv:=ih a hm (by omega) s s1 c hx
     have hl1:=tn _ _ _ _ hx;have gc2:∀vs,gc s.length vs s1=s1:=fun vs=>eH (by omega)
     cases c with
     |true=>
      refine⟨fun s' he=>?_,?_⟩
      ·simp only[Wc,hx]at he
       cases he;exact⟨_,_,hs⟩
      ·simp only[kK,Wc,hx]
       simp(disch:=omega)only[aG,↓aa,seval,-List.reduceReplicate,reduceCtorEq,af,hlt,aU (ax (f:=Term.row) ha) a.aH,tE,hv,gc2,Kj]
     |false=>
      refine⟨fun s' he=>?_,?_⟩
      ·simp only[Wc,hx]at he
       cases he
      ·simp only[kK,Wc,hx]
       simp(disch:=omega)only[aG,↓aa,seval,-List.reduceReplicate,reduceCtorEq,af,hlt,aU (ax (f:=Term.row) ha) a.aH,tE,hv,gc2,ec,Kj]) (fun i s=>rfl) σ ⟨c,σ1,h3⟩
  rw[SB g t.args 0 σ c σ1 h3]at h;cases c with
  |true=>
   obtain⟨_,h⟩:=h;obtain⟨c,σ2,k1,k2,k3,k4⟩:=Hf hr;simp only[oU]at k1
   have e:b=c∧σ'=σ2:=by
    cases c with
    |true=>have:=k3 rfl;simp only[CU,eW,bL,pY]at this;exact⟨this.1.symm,this.2.symm⟩
    |false=>exact k4 rfl
   obtain⟨rfl,rfl⟩:=e;have gc3:∀vs,gc σ.length vs σ'=σ':=fun vs=>eH (by omega)
   have h':an P ow (Kj g t 0) σ 22 none=_:=h;simp only[Kj]at h'
   (rw[fh (aO rfl),gW];simp(disch:=omega)only[aG,↓aa,seval,-List.reduceReplicate,reduceCtorEq,af,bz,xN,h',kK,pD,k1,gc3])
  |false=>
   simp only[zM,bL,pY]at hr;obtain⟨rfl,rfl⟩:=hr;have gc3:∀vs,gc σ.length vs σ1=σ1:=fun vs=>eH (by omega)
   obtain⟨⟨e,τ',σ2,nt',rd'⟩,g1,g2,g3,g4⟩:=h
   simp only at g2 g3 g4
   subst g2;subst g4;have h':an P ow (Kj g t 0) σ 22 none=some (.ret,⟨τ',σ2,nt',rd'⟩):=g1;simp only[Kj]at h'
   (rw[fh (aO rfl),gW];simp(disch:=omega)only[aG,↓aa,seval,-List.reduceReplicate,reduceCtorEq,af,bz,xN,h',g3,gc3])
end S
end Go.AE
namespace Go.AE.S
open Go Go.AE
variable {τ:Tm} {σ:ae} {rd:Option Nat}
theorem Xy{f:FuncId}{cap args:List AV}:rk P (.fn f cap) args σ=kV P f (args++cap) σ:=by rw[rk.eq_def]
abbrev obY(n:Nat):Obj:=.av 1 [[.yield n]] false
theorem akh{n:Nat}:sS σ 1 true (some [.yield n])=some (.ptr σ.length 1 0 0,σ++[obY n]):=rfl
theorem agI{n:Nat}:cellsOf 1 false (.yield n)=some [.yield n]:=rfl
theorem apx{n:Nat}:KS 1 0 0 1 false (some (obY n))=some (.yield n):=rfl
theorem aeq{f:FuncId}{b n i o:Nat}:CM f [.ptr b n i o]=.fn f [.ptr b n i o]:=rfl
theorem aio(u:Term)(hc:u.count≤1000000)(m n:Nat)(σ σ':ae)(b:Bool)(hY:σ[m]?=some (obY n))(hr:round P n (oU u) σ=some (.p (.bool b),σ'))(hl:σ'.length=σ.length) :
  rk P (.fn gi [.ptr m 1 0 0]) (oU u) σ=some (.p (.bool b),σ'):=by
 have hcp:=ye u hc;have gc3:∀vs,gc σ.length vs σ'=σ':=fun vs=>eH (by omega)
 rw[Xy,LL];simp only[oU,Ec,yK]at hr ⊢
 (rw[fh (aO rfl),oQ];simp(disch:=omega)only[aG,↓aa,seval,-List.reduceReplicate,reduceCtorEq,af,hY,apx,rq,hcp,hr,gc3])
theorem ajQ(t:Term)(hc:t.count≤1000000)(n:Nat)(σ σ':ae)(b:Bool)(hl:σ'.length=σ.length)(hb:σ'.all (Obj.below σ.length)=true)
  (hg:eW P (.fn gi [.ptr σ.length 1 0 0]) (t.post.map oU) (σ++[obY n])=some (b,σ'++[obY n])):call P rP [.yield n,.p (.ptr t.row 0)] σ=some (.p (.jO []),σ'):=by
 have hp:=RD _ t hc _ _ _ hg
 have gc3:gc σ.length [.p (.jO [])] (σ'++[obY n])=σ':=by
  unfold gc;rw[if_neg (by simp[hl])]
  have ht:(σ'++[obY n]).take σ.length=σ':=by rw[←hl];simp
  rw[if_pos (by simp only[yW,ht,UA,abM,hb,I0,Q8]),ht]
 (rw[fh (aO rfl),rP];simp(disch:=omega)only[aG,↓aa,seval,-List.reduceReplicate,reduceCtorEq,af,agI,akh,aeq,tE,hp,gc3])
theorem W0(t:Term):R P q7 [.agg t.row]=some (.fn ju [.ptr t.row 0]):=by
 (rw[WJ (aO rfl),wM];simp(disch:=omega)only[aG,↓aa,seval,-List.reduceReplicate,reduceCtorEq,af,CM])
theorem WL{S T:Type}{kept:List (Nat×AV)}{ps:List Nat}{gP b:K}{nt:Nat}(t:Term)(hc:t.count≤1000000)(hps:nodup ps=true∧ps.all (· < nt)=true)
  (sto:S→ae) (f:Nat→S→Term→S ⊕ T) (out:T→Ex×ae) (ok:Nat→S→Prop) (s0:S) (hrd:rZ rd (sto s0)=true)
  (hlen:∀s,(sto s).length=(sto s0).length) (hout:∀t,(out t).2.length=(sto s0).length)
  (hbel:∀s m,(sto s0).length≤m→(sto s).all (Obj.below m)=true) (hbelo:∀t m,(sto s0).length≤m→(out t).2.all (Obj.below m)=true) (hkb:(kept.all fun x=>below ((sto s0).length+1) x.2)=true) (hnn:∀t,(out t).1≠.normal)
  (hstep:∀(i:Nat) (a:Term) (s:S),t.post[i]?=some a→ok i s→(∀s',f i s a=.inl s'→ok (i+1) s') ∧
   round P (sto s0).length [.p (.agg a.row)] ((sto s++[.loop kept nt ps gP b none])++[obY (sto s0).length])=(match f i s a with
    |.inl s'=>some (.p (.bool true),(sto s'++[.loop kept nt ps gP b none])++[obY (sto s0).length])
    |.inr t=>some (.p (.bool false),((out t).2++[.loop kept nt ps gP b (some (out t).1)])++[obY (sto s0).length])))
  (h0:ok 0 s0):mA P ps gP b (.p (.fn ju [.ptr t.row 0])) kept (sto s0) nt rd=some (ki sto out (aq f 0 s0 t.post)):=by
 have hpc:∀a∈t.post,a.count≤1000000:=by
  intro a ha
  have key:∀(t:Term),∀a∈t.pre,a.count≤t.count:=by
   intro t
   induction t using Term.ind with
   |h t ih=>
   intro a ha;rcases lX.1 ha with rfl|⟨b,hb,hab⟩
   ·exact qj _
   ·have h1:=ih b hb a hab
    have h2:=Term.dK hb;have h3:=Term.count_eq t;omega
  have:=key t a ((j7 t a).1 ha);omega
 refine TL (α:={a:Term // a∈t.post}) (f0:=ju) (cap:=[.p (.ptr t.row 0)]) (g:=.fn gi [.ptr ((sto s0).length+1) 1 0 0]) rfl Qd hps [obY (sto s0).length] (fun a=>oU a.1) sto (fun i s a=>f i s a.1) out ok
  (t.post.attach) s0 hrd ?_ ?_ hlen hout hbel hbelo hkb hnn ?_ h0 |>.trans ?_
 ·intro a σ σ' bb h1 h2 hr
  exact aio a.1 (hpc a.1 a.2) _ _ _ _ _ (by rw[←h1];simp) hr (by simp[h1,h2])
 ·intro σ σ' bb h1 h2 hb hg
  refine⟨_,ajQ t hc _ σ σ' bb (by omega) (by rw[h1];exact hb) ?_⟩
  rw[h1]
  have e:(t.post.attach.map fun a:{a:Term // a∈t.post}=>oU a.1)=t.post.map oU:=by
   have:=List.attach_map_subtype_val t.post
   conv=>rhs;rw[←this]
   rw[abW];rfl
  rw[←e];exact hg
 ·intro i a s ha hok
  have:t.post[i]?=some a.1:=by
   have:=congrArg (Option.map Subtype.val) ha;rw[←xF,List.attach_map_subtype_val]at this;exact this
  exact hstep i a.1 s this hok
 ·have e:∀(l:List {a:Term // a∈t.post}) (i:Nat) (s:S),aq (fun i s (a:{a:Term // a∈t.post})=>f i s a.1) i s l=aq f i s (l.map Subtype.val):=by
   intro l
   induction l with
   |nil=>intro i s;rfl
   |cons a l ih=>
    intro i s;simp only[aq,ue];cases f i s a.1 with
    |inl s'=>exact ih _ _
    |inr t=>rfl
  rw[e,List.attach_map_subtype_val]
def wW:List Term→Int
 | []=>0
 |a::r=>if sj a=0 then wW r else sj a
abbrev Seen:=List (ByteArray×Int)
def CJ(e:ByteArray×Int):PV×AV:=(.str e.1,.p (.int .i64 e.2))
def Oz:Seen→ByteArray→Option Int
 | [],_=>none
 |e::r,k=>if k=e.1 then some e.2 else Oz r k
def stW(k:ByteArray)(w:Int):Seen→Seen
 | []=>[(k,w)]
 |e::r=>if k=e.1 then(k,w)::r else e::stW k w r
theorem Co(k:ByteArray):∀s:Seen,findKey .str (.str k) (s.map CJ)=some ((Oz s k).map fun w=>.p (.int .i64 w))
 | []=>rfl
 |e::r=>by
  simp only[ue,findKey,CJ,A8,Oz];by_cases h:k=e.1
  ·simp[h]
  ·simp only[h,decide_false,if_false]
   exact Co k r
theorem Mf(k:ByteArray)(w:Int):∀s:Seen,sG .str (.str k) (.p (.int .i64 w)) (s.map CJ)=some ((stW k w s).map CJ)
 | []=>rfl
 |e::r=>by
  simp only[ue,sG,CJ,A8,stW];by_cases h:k=e.1
  ·simp[h,CJ]
  ·simp only[h,decide_false,if_false]
   rw[Mf k w r];rfl
theorem lE(n:Nat)(s:Seen):((s.map CJ).all fun e=>AE.below n e.2)=true:=by
 rw[AS];intro x hx;obtain⟨e,_,rfl⟩:=CV.1 hx;exact I0
def ckB(s:Seen)(u:Term):Bool:=match Oz s u.name with
 |some w=>decide (¬w=u.w)
 |none=>false
def Ga(_:Nat)(s:Bool×Seen)(u:Term):(Bool×Seen) ⊕ Int :=
 if sj u=0 then if u.op=1 then .inl (s.1 ||ckB s.2 u,stW u.name u.w s.2)else .inl s else .inr (sj u)
abbrev sK(e:Int)(s:Bool×Seen):ae:=[.pv 1 [[.int .i64 e]] false,.map (s.2.map CJ) false,.av 1 [[.map 1]] false,.pv 1 [[.bool s.1]] false]
theorem ajo{a b c:Obj}{v w:Bool}{r:ae}:eE (a::b::c::.pv 1 [[.bool w]] false::r) 1 (.ptr 3 1 0 0) (.p (.bool v))=some (a::b::c::.pv 1 [[.bool v]] false::r):=rfl
theorem Uc{a b:Int}{k k':IntKind}{es:Nat}{r:ae}:QQ (.pv es [[.int k a]] false::r) 0 1 0 0 [.p (.int k' b)] (some (.pv es [[.int k a]] false))=some (.pv es [[.int k' b]] false::r):=rfl
theorem XO{vs:List AV}{a b c d e f:Obj}:gc 6 vs [a,b,c,d,e,f]=[a,b,c,d,e,f]:=eH (by simp)
theorem XB{b:Bool}:cellsOf 1 false (.p (.bool b))=some [.p (.bool b)]:=rfl
theorem PW{v:PV}:sS σ 1 false (some [.p v])=some (.ptr σ.length 1 0 0,σ++[.pv 1 [[v]] false]):=rfl
theorem aeh{k:IntKind}{v:Int}{es:Nat}{fr:Bool}:KS 1 0 0 1 false (some (.pv es [[.int k v]] fr))=some (.p (.int k v)):=rfl
theorem XY{v:Bool}{es:Nat}{fr:Bool}:KS 1 0 0 1 false (some (.pv es [[.bool v]] fr))=some (.p (.bool v)):=rfl
theorem ae2{t:Term}(ht:iM t):∀a∈t.post,iM a:=by
 intro a ha
 have key:∀t:Term,iM t→∀a∈t.pre,iM a:=by
  intro t
  induction t using Term.ind with
  |h t ih=>
  intro ht a ha;rcases lX.1 ha with rfl|⟨b,hb,hab⟩
  ·exact ht
  ·exact ih b hb (ht.args hb) a hab
 exact key t ht a ((j7 t a).1 ha)
theorem We{t:Term}:∀a∈t.post,a.count≤t.count:=by
 intro a ha
 have key:∀t:Term,∀a∈t.pre,a.count≤t.count:=by
  intro t
  induction t using Term.ind with
  |h t ih=>
  intro a ha;rcases lX.1 ha with rfl|⟨b,hb,hab⟩
  ·exact qj _
  ·have h1:=ih b hb a hab
   have h2:=Term.dK hb;have h3:=Term.count_eq t;omega
 exact key t a ((j7 t a).1 ha)
theorem Nz(t:Term)(ht:iM t)(hc:t.count≤1000000):mA P [21] jy jz (.p (.fn ju [.ptr t.row 0])) [(2,.ptr 0 1 0 0),(5,.ptr 2 1 0 0),(6,.ptr 3 1 0 0)] (sK 0 (false,[])) 53 none =
  some (ki (sK 0) (fun x:Int×(Bool×Seen)=>(.ret,sK x.1 x.2)) (aq (fun i s u=>match Ga i s u with|.inl s'=>.inl s'|.inr e=>.inr (e,s)) 0 (false,[]) t.post)):=by
 refine WL (rd:=none) (kept:=[(2,.ptr 0 1 0 0),(5,.ptr 2 1 0 0),(6,.ptr 3 1 0 0)]) (ps:=[21]) (gP:=jy) (b:=jz) (nt:=53) t hc ⟨rfl,rfl⟩ (sK 0) (fun i s u=>match Ga i s u with|.inl s'=>.inl s'|.inr e=>.inr (e,s)) (fun x:Int×(Bool×Seen)=>(.ret,sK x.1 x.2))
  (fun _ _=>True) (false,[]) rfl (fun _=>rfl) (fun _=>rfl) (fun s m hm=>?_) (fun s m hm=>?_) (by simp[below]) (fun _=>by simp) (fun i u s ha _=>?_) trivial
 ·have:(1:Nat)<m:=by have:(4:Nat)≤m:=hm;omega
  simp only[sK,UA,abM,wj,xd,tz,lE,yN,this,decide_true];rfl
 ·have:(1:Nat)<m:=by have:(4:Nat)≤m:=hm;omega
  simp only[sK,UA,abM,wj,xd,tz,lE,yN,this,decide_true];rfl
 ·have hum:=mK ha
  have hut:=ae2 ht u hum;have huc:=We u hum;have hul:=Term.eo u.args;have huq:=Term.count_eq u;have hn:=T5 u hut (by omega)
  refine⟨fun _ _=>trivial,?_⟩
  simp only[sK,Ec,yK];rw[zk rfl ⟨rfl,rfl,rfl⟩];unfold Ga;rcases fC (sj u=0)with h0|h0
  rotate_left
  ·simp only[h0,if_false,jy,jz]
   simp(disch:=omega)only[aG,↓aa,seval,-List.reduceReplicate,reduceCtorEq,af,x4,hn,h0,lE,Uc,XO]
  rcases fC (u.op=1)with h1|h1
  rotate_left
  ·simp only[h0,h1,if_true,if_false,jy,jz]
   simp(disch:=omega)only[aG,↓aa,seval,-List.reduceReplicate,reduceCtorEq,af,x4,hn,h0,h1,lE,XO]
  have hfk:=Co u.name s.2;have hsk:=Mf u.name u.w s.2;simp only[h0,h1,if_true];obtain⟨c,m⟩:=s;unfold ckB;cases hl:Oz m u.name with
  |none=>
   rw[hl]at hfk;have hlk:=fun r a=>OB (r:=r) (a:=a) (z:=.p (.int .i64 0)) (kl:=.str) (k:=.str u.name) rfl hfk
   simp only[jy,jz];cases c<;>simp(disch:=omega)only[aG,↓aa,seval,-List.reduceReplicate,reduceCtorEq,af,x4,hn,h0,h1,lE,hlk,F1 rfl hsk,ajo,XY,Uc,XO,abI,NW,Bool.or_false]
  |some o=>
   rw[hl]at hfk;have hlk:=fun r a=>OC (r:=r) (a:=a) (z:=.p (.int .i64 0)) (kl:=.str) (k:=.str u.name) rfl hfk
   simp only[jy,jz];rcases fC (o=u.w)with h2|h2<;>cases c<;>simp(disch:=omega)only[aG,↓aa,seval,-List.reduceReplicate,reduceCtorEq,af,x4,hn,h0,h1,lE,hlk,F1 rfl hsk,ajo,XY,XO,h2,abI,NW,Bool.or_false]
def ckE(t:Term):Int:=match aq Ga 0 (false,[]) t.post with
 |.inl s=>if s.1=true then 12 else 0
 |.inr e=>e
def gO(t:Term):Int:=if(t.deep:Int)≤64∧(t.count:Int)≤4096 then ckE t else 7
theorem FP(t:Term)(ht:iM t)(hc:t.count≤1000000):R P k8 [.agg t.row]=some (.int .i64 (gO t)):=by
 have hm:=Me t ht 4096 64 (by omega) (by omega)
 unfold gO;unfold Bo at hm;by_cases h1:(t.deep:Int)≤64∧(t.count:Int)≤4096
 rotate_left
 ·rw[if_neg h1]at hm
  rw[if_neg h1]
  (rw[z7 (aO rfl),nf];simp(disch:=omega)only[aG,↓aa,seval,-List.reduceReplicate,reduceCtorEq,af,pz,hm,Uc,aeh])
 rw[if_pos h1]at hm;rw[if_pos h1];have hr:=Nz t ht hc;have hA:=W0 t
 have hx:∀(l:List Term) (i:Nat) (s:Bool×Seen),(aq (fun i s u=>match Ga i s u with|.inl s'=>.inl s'|.inr e=>.inr (e,s)) i s l:(Bool×Seen) ⊕ (Int×(Bool×Seen)))=match aq Ga i s l with
   |.inl s'=>.inl s'
   |.inr e=>match(aq (fun i s u=>match Ga i s u with|.inl s'=>.inl s'|.inr e=>.inr (e,s)) i s l:(Bool×Seen) ⊕ (Int×(Bool×Seen)))with|.inl s'=>.inl s'|.inr x=>.inr (e,x.2):=by
  intro l
  induction l with
  |nil=>intro i s;rfl
  |cons a l ih=>
   intro i s;simp only[aq];cases Ga i s a with
   |inl s'=>exact ih _ _
   |inr e=>rfl
 unfold ckE;rw[hx]at hr;simp only[sK,CU]at hr;cases hf:aq Ga 0 (false,[]) t.post with
 |inl s=>
  rw[hf]at hr;obtain⟨c,m⟩:=s;cases c<;>(rw[z7 (aO rfl),nf];simp(disch:=omega)only[aG,↓aa,seval,-List.reduceReplicate,reduceCtorEq,af,pz,hm,LK,hA,Bk,hr,XY,aeh,Uc,XB,PW])
 |inr e=>
  rw[hf]at hr;cases hg:(aq (fun i s u=>match Ga i s u with|.inl s'=>.inl s'|.inr e=>.inr (e,s)) 0 (false,[]) t.post:(Bool×Seen) ⊕ (Int×(Bool×Seen)))with
  |inl s'=>
   exfalso;have:=hx t.post 0 (false,[])
   have key:∀(l:List Term) (i:Nat) (s s':Bool×Seen),(aq (fun i s u=>match Ga i s u with|.inl s'=>.inl s'|.inr e=>.inr (e,s)) i s l:(Bool×Seen) ⊕ (Int×(Bool×Seen)))=.inl s'→aq Ga i s l=.inl s':=by
    intro l
    induction l with
    |nil=>intro i s s' h;exact congrArg _ (Sum.inl.inj h)
    |cons a l ih=>
     intro i s s' h;simp only[aq]at h ⊢;cases hc:Ga i s a with
     |inl s1=>rw[hc]at h;exact ih _ _ _ h
     |inr e=>rw[hc]at h;cases h
   rw[key _ _ _ _ hg]at hf;cases hf
  |inr x=>
   rw[hg]at hr;obtain⟨e2,c,m⟩:=x
   (rw[z7 (aO rfl),nf];simp(disch:=omega)only[aG,↓aa,seval,-List.reduceReplicate,reduceCtorEq,af,pz,hm,LK,hA,Bk,hr,XY,aeh,Uc,XB,PW])
def RY(a b:Term):Bool:=decide (a.op=1∧b.op=1∧a.name=b.name∧¬a.w=b.w)
def Ng(p:List Term):List Term→Bool
 | []=>false
 |u::r=>p.any (RY u) ||Ng (p++[u]) r
def amp(p:List Term)(m:Seen):Prop:=(∀k w,Oz m k=some w→∃b∈p,b.op=1∧b.name=k∧b.w=w)∧∀b∈p,b.op=1→Oz m b.name=some b.w
theorem P8(k:ByteArray)(w:Int)(k':ByteArray):∀m:Seen,Oz (stW k w m) k'=if k'=k then some w else Oz m k'
 | []=>by simp[stW,Oz]
 |e::r=>by
  simp only[stW];by_cases h:k=e.1
  ·simp only[h,if_true,Oz]
   by_cases h2:k'=e.1<;>simp[h2]
  ·simp only[h,if_false,Oz]
   rw[P8 k w k' r];by_cases h2:k'=e.1
   ·have:¬k'=k:=fun e'=>h (by rw[←e',h2])
    simp[h2,this];intro e';exact absurd e'.symm h
   ·simp[h2]
theorem ag7{p:List Term}{m:Seen}(h:amp p m){u:Term}(hu:u.op=1):p.any (RY u)=ckB m u:=by
 unfold ckB;cases hl:Oz m u.name with
 |none=>
  rw[Uw];intro b hb;unfold RY;simp only[decide_eq_true_eq]
  rintro⟨_,h2,h3,_⟩
  have:=h.2 b hb h2;rw[←h3,hl]at this;cases this
 |some w=>
  simp only
  by_cases hw:w=u.w
  ·rw[decide_eq_false (fun h=>h hw),Uw]
   intro b hb;unfold RY;simp only[decide_eq_true_eq]
   rintro⟨_,h2,h3,h4⟩
   have:=h.2 b hb h2;rw[←h3,hl,bL]at this;exact h4 (by rw[←this,hw])
  ·rw[decide_eq_true hw,abT]
   obtain⟨b,hb,h1,h2,h3⟩:=h.1 _ _ hl;refine⟨b,hb,?_⟩;unfold RY;exact decide_eq_true ⟨hu,h1,h2.symm,by rw[h3];exact fun e=>hw e.symm⟩
theorem agp{p:List Term}{u:Term}(hu:¬u.op=1):p.any (RY u)=false:=by
 rw[Uw];intro b _;unfold RY;simp[hu]
theorem PB:∀(r:List Term) (i:Nat) (m:Seen),(∀u∈r,sj u=0)→∃m',aq Ga i (true,m) r=.inl (true,m')
 | [],i,m,_=>⟨m,rfl⟩
 |u::r,i,m,h=>by
  have hr:∀v∈r,sj v=0:=fun v hv=>h v (by simp[hv])
  by_cases hu:u.op=1
  ·have hk:Ga i (true,m) u=.inl (true,stW u.name u.w m):=by
    unfold Ga;rw[if_pos (h u (by simp)),if_pos hu];simp
   simp only[aq,hk];exact PB r (i+1) _ hr
  ·have hk:Ga i (true,m) u=.inl (true,m):=by
    unfold Ga;rw[if_pos (h u (by simp)),if_neg hu]
   simp only[aq,hk];exact PB r (i+1) _ hr
theorem Vo:∀(r p:List Term) (i:Nat) (m:Seen),(∀u∈r,sj u=0)→amp p m→∃m',aq Ga i (false,m) r=.inl (Ng p r,m')
 | [],p,i,m,_,_=>⟨m,rfl⟩
 |u::r,p,i,m,h,hi=>by
  have hr:∀v∈r,sj v=0:=fun v hv=>h v (by simp[hv])
  by_cases hu:u.op=1
  ·have hk:Ga i (false,m) u=.inl (ckB m u,stW u.name u.w m):=by
    unfold Ga;rw[if_pos (h u (by simp)),if_pos hu];simp
   simp only[aq,Ng,hk];rw[ag7 hi hu];cases hc:ckB m u with
   |true=>obtain⟨m',hm⟩:=PB r (i+1) (stW u.name u.w m) hr;exact⟨m',by simpa using hm⟩
   |false=>
    simp only[NW];refine Vo r (p++[u]) (i+1) _ hr ⟨fun k w hk=>?_,fun b hb hb1=>?_⟩
    ·rw[P8]at hk
     split at hk
     ·rename_i e
      cases hk;exact⟨u,by simp,hu,e.symm,rfl⟩
     ·obtain⟨b,hb,h1⟩:=hi.1 _ _ hk
      exact⟨b,by simp[hb],h1⟩
    ·rw[P8]
     rcases Gb.1 hb with hb|hb
     ·split
      ·rename_i e
       have h2:=hi.2 b hb hb1;unfold ckB at hc;rw[←e,h2]at hc;simp only[decide_eq_false_iff_not,abh]at hc;rw[hc]
      ·exact hi.2 b hb hb1
     ·rw[Uz]at hb
      subst hb;simp
  ·have hk:Ga i (false,m) u=.inl (false,m):=by
    unfold Ga;rw[if_pos (h u (by simp)),if_neg hu]
   simp only[aq,Ng,hk];rw[agp hu];simp only[NW];refine Vo r (p++[u]) (i+1) _ hr ⟨fun k w hk=>?_,fun b hb hb1=>?_⟩
   ·obtain⟨b,hb,h1⟩:=hi.1 _ _ hk
    exact⟨b,by simp[hb],h1⟩
   ·rcases Gb.1 hb with hb|hb
    ·exact hi.2 b hb hb1
    ·rw[Uz]at hb
     subst hb;exact absurd hb1 hu
theorem ac8:∀(r:List Term) (i:Nat) (s:Bool×Seen),¬wW r=0→aq Ga i s r=.inr (wW r)
 | [],i,s,h=>absurd rfl h
 |u::r,i,s,h=>by
  simp only[wW]at h ⊢;by_cases h0:sj u=0
  ·rw[if_pos h0]at h ⊢
   have hk:∃s',Ga i s u=.inl s':=by
    unfold Ga;rw[if_pos h0];by_cases hu:u.op=1
    ·rw[if_pos hu];exact⟨_,rfl⟩
    ·rw[if_neg hu];exact⟨_,rfl⟩
   obtain⟨s',hk⟩:=hk;simp only[aq,hk];exact ac8 r (i+1) _ h
  ·rw[if_neg h0]
   have hk:Ga i s u=.inr (sj u):=by unfold Ga;rw[if_neg h0]
   simp only[aq,hk]
theorem A9:∀{l:List Term},wW l=0→∀u∈l,sj u=0
 | [],_,u,hu=>by simp at hu
 |a::l,h,u,hu=>by
  simp only[wW]at h;split at h
  ·rename_i h0
   rcases qL.1 hu with rfl|hu
   ·exact h0
   ·exact A9 h u hu
  ·rename_i h0;exact absurd h h0
theorem Vn(t:Term):ckE t=if ¬wW t.post=0 then wW t.post else if Ng [] t.post=true then 12 else 0:=by
 unfold ckE;by_cases h:wW t.post=0
 ·rw[if_neg (fun h'=>h' h)]
  obtain⟨m',hm⟩:=Vo t.post [] 0 [] (A9 h) ⟨fun k w hk=>by simp[Oz]at hk,fun b hb=>by simp at hb⟩
  rw[hm]
 ·rw[if_pos h,ac8 _ _ _ h]
theorem afu(v:V2)(u:Term):R P dN [.agg (au v),.ptr u.row 0]=some (.bool (decide (v.name=u.name))):=by
 (rw[IP (aO rfl),nJ];simp(disch:=omega)only[aG,↓aa,seval,-List.reduceReplicate,reduceCtorEq,af,au])
theorem yT{α:Type}(q:α→Bool):∀(as:List α) (i:Nat),(∃n:Nat,aq (S:=Unit) (T:=Nat) (fun i _ a=>if q a=true then .inr i else .inl ()) i () as=.inr n∧as.any q=true)∨(aq (S:=Unit) (T:=Nat) (fun i _ a=>if q a=true then .inr i else .inl ()) i () as=.inl ()∧as.any q=false)
 | [],i=>.inr ⟨rfl,rfl⟩
 |a::as,i=>by
  by_cases h:q a=true
  ·exact .inl ⟨i,by simp only[aq,h,if_true],by simp[h]⟩
  ·rcases yT q as (i+1)with⟨n,h1,h2⟩|⟨h1,h2⟩
   ·exact .inl ⟨n,by simp only[aq,h];exact h1,by simp[h2]⟩
   ·exact .inr ⟨by simp only[aq,h];exact h1,by simp[h2,h]⟩
abbrev Kh(l:List V2)(u:Term)(i:Int):List (Nat×AV):=[(0,.p (.aW (l.map au))),(1,.p (.fn dN [.ptr u.row 0])),(7,.p (.int .i64 l.length)),(8,.p (.int .i64 i))]
def isV(u:Term)(v:V2):Bool:=decide (v.name=u.name)
theorem TY(l:List V2)(u:Term)(hl:l.length≤1000000):R P bD [.aW (l.map au),.fn dN [.ptr u.row 0]]=some (.bool (l.any (isV u))):=by
 have h:=cS (P:=P) (nt:=19) (lv:=[0,1,7,8]) (b:=cJ) (rd:=none) (as:=l) (fun i (_:Unit)=>Kh l u i) (fun _=>[]) (fun i _ v=>if isV u v=true then .inr i else .inl ()) (fun(n:Nat)=>ec 4 (.int .i64 n) []) (fun _ _=>True)
  (fun i v s hv hi hs=>by
   refine⟨fun _ _=>trivial,?_⟩
   have hlt:((i:Int)<l.length)=True:=by simpa using hi
   have hr:=afu v u;have hx:=fun σ=>aU (k:=.i64) (es:=2) (σ:=σ) (ax (f:=au) hv) (by simp[au])
   unfold isV;rcases fC (v.name=u.name)with h1|h1
   ·rw[decide_eq_true (of_eq_true h1)]at hr
    simp only[au]at hr;simp only[cJ,h1];simp(disch:=omega)only[aG,↓aa,seval,-List.reduceReplicate,reduceCtorEq,af,hlt,hx,au,AA,hr,Kh,ec]
   ·rw[decide_eq_false (of_eq_false h1)]at hr
    simp only[au]at hr;simp only[cJ,h1];simp(disch:=omega)only[aG,↓aa,seval,-List.reduceReplicate,reduceCtorEq,af,hlt,hx,au,AA,hr,Kh,ec]) (fun i s=>rfl) () trivial
 rcases yT (isV u) l 0 with⟨n,h1,h2⟩|⟨h1,h2⟩
 ·rw[h1]at h
  obtain⟨⟨e',τ',σ',nt',rd'⟩,g1,g2,g3,g4⟩:=h
  simp only at g2 g3 g4
  subst g2;subst g4;have h':an P dH (Kh l u 0) [] 19 none=some (.ret,⟨τ',[],nt',rd'⟩):=g1;simp only[Kh]at h'
  have hi:R P bu [.aW (l.map au),.fn dN [.ptr u.row 0]]=some (.int .i64 n):=by
   (rw[kg (aO rfl),cd];simp(disch:=omega)only[aG,↓aa,seval,-List.reduceReplicate,reduceCtorEq,af,bz,jI,h',g3])
  have hn:((n:Int) ≥ 0)=True:=by simp
  rw[h2]
  (rw[iS (aO rfl),bR];simp(disch:=omega)only[aG,↓aa,seval,-List.reduceReplicate,reduceCtorEq,af,kd,hi,hn])
 ·rw[h1]at h
  obtain⟨_,h⟩:=h;have h':an P dH (Kh l u 0) [] 19 none=_:=h;simp only[Kh]at h'
  have hi:R P bu [.aW (l.map au),.fn dN [.ptr u.row 0]]=some (.int .i64 (-1)):=by
   (rw[kg (aO rfl),cd];simp(disch:=omega)only[aG,↓aa,seval,-List.reduceReplicate,reduceCtorEq,af,bz,jI,h',cJ,pD])
  rw[h2]
  (rw[iS (aO rfl),bR];simp(disch:=omega)only[aG,↓aa,seval,-List.reduceReplicate,reduceCtorEq,af,kd,hi])
def vT(s:List V2)(u:Term):List V2:=if u.op=1∧s.any (isV u)=false then s++[⟨u.name,u.w⟩]else s
theorem aip(u:Term)(s:List V2)(hs:s.length≤1000000):rk P (.fn fH [.ptr 1 1 0 0]) (oU u) (sV s)=some (.p (.bool true),sV (vT s u)):=by
 have hr:=TY s u hs;have hap:=eZ (σ:=sV s++[.pv 2 [au ⟨u.name,u.w⟩] false]) (b:=0) (n:=s.length) (e:=mD 2 s) (es:=2) (bytes:=24) (rows:=s.map au) (new:=[au ⟨u.name,u.w⟩]) rfl (by simp) (r9 _ _ _) (by simp only[oi,pN];omega)
 simp only[sV,au,Ec,yK]at hap;rw[Xy,Nr];unfold vT;simp only[oU,Ec,yK];rcases fC (u.op=1)with h1|h1
 rotate_left
 ·rw[if_neg (fun h=>of_eq_false h1 h.1)]
  (rw[fh (aO rfl),lC];simp(disch:=omega)only[aG,↓aa,seval,-List.reduceReplicate,reduceCtorEq,af,h1,CM])
 cases hc:s.any (isV u)with
 |true=>
  rw[hc]at hr;rw[if_neg (by simp)]
  (rw[fh (aO rfl),lC];simp(disch:=omega)only[aG,↓aa,seval,-List.reduceReplicate,reduceCtorEq,af,h1,CM,bz,iR,hr,au])
 |false=>
  rw[hc]at hr;rw[if_pos ⟨of_eq_true h1,rfl⟩]
  (rw[fh (aO rfl),lC];simp(disch:=omega)only[aG,↓aa,seval,-List.reduceReplicate,reduceCtorEq,af,h1,CM,bz,iR,hr,au,hap,Ed,mh,kE])
  simp only[sV,kE,Ed,ue,CU,au,mh,oi,pN,sQ]
def Wf(g:AV)(s:ae)(a:Term):ae ⊕ ae:=match eW P g (a.pre.map oU) s with
 |some (true,s')=>.inl s'
 |some (false,s')=>.inr s'
 |none=>.inr s
theorem SC(g:AV):∀(as:List Term) (i:Nat) (s:ae) (b:Bool) (s':ae),eW P g ((Term.BS as).map oU) s=some (b,s')→aq (fun _ s a=>Wf g s a) i s as=if b=true then .inl s' else .inr s'
 | [],i,s,b,s',h=>by
  simp only[Term.BS,CU,eW,bL,pY]at h;obtain⟨rfl,rfl⟩:=h;rfl
 |a::as,i,s,b,s',h=>by
  simp only[Term.BS,Ed,nZ]at h;simp only[aq,Wf];cases h1:eW P g (a.pre.map oU) s with
  |none=>rw[h1]at h;cases h
  |some x=>
   obtain⟨c,s1⟩:=x;rw[h1]at h;cases c with
   |true=>exact SC g as (i+1) s1 b s' h
   |false=>
    simp only[zM,bL,pY]at h;obtain⟨rfl,rfl⟩:=h;rfl
abbrev Kk(g:AV)(t:Term)(i:Int):List (Nat×AV):=[(1,g),(12,.p (.aW (t.args.map Term.row))),(13,.p (.int .i64 t.args.length)),(14,.p (.int .i64 i))]
theorem RE(g:AV)(t:Term):t.count≤1000000→∀(σ σ':ae) (b:Bool),eW P g (t.pre.map oU) σ=some (b,σ')→call P fg [.p (.agg t.row),g] σ=some (.p (.bool b),σ'):=by
 induction t using Term.ind with
 |h t ih=>
 intro hc σ σ' b hr;have hlen:=Term.eo t.args;have hct:=Term.count_eq t;have hl:=tn _ _ _ _ hr;rw[Term.zV,ue]at hr;obtain⟨c,σ1,k1,k2,k3,k4⟩:=Hf hr;simp only[oU]at k1;have gc1:∀vs,gc σ.length vs σ1=σ1:=fun vs=>eH (by omega)
 have gc3:∀vs,gc σ.length vs σ'=σ':=fun vs=>eH (by omega)
 cases c with
 |false=>
  obtain⟨rfl,rfl⟩:=k4 rfl
  (rw[fh (aO rfl),fg];simp(disch:=omega)only[aG,↓aa,seval,-List.reduceReplicate,reduceCtorEq,af,k1,gc1])
 |true=>
  have h3:=k3 rfl
  have h:=cS (P:=P) (nt:=23) (lv:=[1,12,13,14]) (b:=l5) (rd:=none) (as:=t.args) (fun i (_:ae)=>Kk g t i) (fun s=>s) (fun _ s a=>Wf g s a) (fun s r=>ec 4 (.bool false) s r) (fun i s=>∃b s',eW P g ((Term.BS (t.args.drop i)).map oU) s=some (b,s'))
   (fun i a s ha hi hs=>by
    obtain⟨b2,s2,hs⟩:=hs;have hm:=mK ha;have hac:=Term.dK hm;have hlt:((i:Int)<t.args.length)=True:=by simpa using hi
    have hd:t.args.drop i=a::t.args.drop (i+1):=by rw[abc hi];rw[oh hi]at ha;cases ha;rfl
    rw[hd]at hs;simp only[Term.BS,Ed,nZ]at hs;cases hx:eW P g (a.pre.map oU) s with
    |none=>rw[hx]at hs;cases hs
    |some x=>
     obtain⟨c,s1⟩:=x;rw[hx]at hs;have hv:=ih a hm (by omega) s s1 c hx
     have hl1:=tn _ _ _ _ hx;have gc2:∀vs,gc s.length vs s1=s1:=fun vs=>eH (by omega)
     cases c with
     |true=>
      refine⟨fun s' he=>?_,?_⟩
      ·simp only[Wf,hx]at he
       cases he;exact⟨_,_,hs⟩
      ·simp only[l5,Wf,hx]
       simp(disch:=omega)only[aG,↓aa,seval,-List.reduceReplicate,reduceCtorEq,af,hlt,aU (ax (f:=Term.row) ha) a.aH,vB,hv,gc2,Kk]
     |false=>
      refine⟨fun s' he=>?_,?_⟩
      ·simp only[Wf,hx]at he
       cases he
      ·simp only[l5,Wf,hx]
       simp(disch:=omega)only[aG,↓aa,seval,-List.reduceReplicate,reduceCtorEq,af,hlt,aU (ax (f:=Term.row) ha) a.aH,vB,hv,gc2,ec,Kk]) (fun i s=>rfl) σ1 ⟨b,σ',h3⟩
  rw[SC g t.args 0 σ1 b σ' h3]at h;cases b with
  |true=>
   obtain⟨_,h⟩:=h;have h':an P pK (Kk g t 0) σ1 23 none=_:=h;simp only[Kk]at h'
   (rw[fh (aO rfl),fg];simp(disch:=omega)only[aG,↓aa,seval,-List.reduceReplicate,reduceCtorEq,af,k1,bz,y2,h',l5,pD,gc3])
  |false=>
   obtain⟨⟨e,τ',σ2,nt',rd'⟩,g1,g2,g3,g4⟩:=h
   simp only at g2 g3 g4
   subst g2;subst g4;have h':an P pK (Kk g t 0) σ1 23 none=some (.ret,⟨τ',σ2,nt',rd'⟩):=g1;simp only[Kk]at h'
   (rw[fh (aO rfl),fg];simp(disch:=omega)only[aG,↓aa,seval,-List.reduceReplicate,reduceCtorEq,af,k1,bz,y2,h',g3,gc3])
theorem Ze:∀(l:List Term) (i:Nat) (s:List V2),aq (T:=Empty) (fun _ s u=>.inl (vT s u)) i s l=.inl (l.foldl vT s):=fun l i s=>jH vT l i s
theorem Rb{s:List V2}{u:Term}:(vT s u).length≤s.length+1:=by
 unfold vT;split<;>simp
theorem aj8(t:Term)(hc:t.count≤1000000):eW P (.fn fH [.ptr 1 1 0 0]) (t.pre.map oU) (sV [])=some (true,sV (t.pre.foldl vT [])):=by
 have h:=Hg (P:=P) (g:=.fn fH [.ptr 1 1 0 0]) (n:=2) (T:=Empty) oU sV (fun _ s u=>.inl (vT s u)) (fun t=>nomatch t) (fun i s=>s.length≤i) (fun s=>rfl) (fun t=>nomatch t) t.pre
  (fun i a s ha hs=>by
   have hi:=(gu.1 ha).1;rw[Term.qE]at hi;refine⟨fun s' he=>?_,?_⟩
   ·cases he
    have:=Rb (s:=s) (u:=a);omega
   ·exact aip a s (by omega)) t.pre 0 [] rfl (qj _)
 rw[Ze]at h;exact h
theorem EF{α:Type}{lt:α→α→Bool}{x y:α}:∀{l:List α},y∈AO lt x l↔y=x∨y∈l
 | []=>by simp[AO]
 |z::r=>by
  unfold AO;split
  ·simp only[qL,EF (l:=r)]
   constructor
   ·rintro(h|h|h)
    ·exact .inr (.inl h)
    ·exact .inl h
    ·exact .inr (.inr h)
   ·rintro(h|h|h)
    ·exact .inr (.inl h)
    ·exact .inl h
    ·exact .inr (.inr h)
  ·simp
theorem rp{α:Type}{lt:α→α→Bool}{y:α}:∀{l:List α},y∈cW lt l↔y∈l
 | []=>by simp[cW]
 |x::r=>by simp only[cW,EF,rp (l:=r),qL]
theorem tp{α β:Type}{lt:α→α→Bool}{lt':β→β→Bool}{f:α→β}(h:∀a b,lt' (f a) (f b)=lt a b):∀l:List α,cW lt' (l.map f)=(cW lt l).map f
 | []=>rfl
 |x::r=>by
  have ins:∀l:List α,AO lt' (f x) (l.map f)=(AO lt x l).map f:=by
   intro l
   induction l with
   |nil=>rfl
   |cons y l ih=>
    simp only[ue,AO,h];split<;>simp[ih]
  simp only[ue,cW,tp h r,ins]
def D7(a b:V2):Bool:=slt a.name b.name
theorem zU(a b:V2):S5 (au a) (au b)=D7 a b:=rfl
def xC(l:List V2):Prop:=l.Pairwise fun a b=>a.name≠b.name
theorem N2:∀{l:List V2},xC l→Ge S5 (l.map au)=true
 | [],_=>rfl
 |a::l,h=>by
  have h:=IY.1 h;simp only[ue,Ge,N2 h.2,ab0,List.all_map,AS];intro b hb
  show(S5 (au a) (au b) ||S5 (au b) (au a))=true
  rw[zU,zU];rcases qJ a.name b.name with h1|h1|h1
  ·simp[D7,h1]
  ·exact absurd h1 (h.1 b hb)
  ·simp[D7,h1]
theorem O1(l:List V2):(l.map au).all V7=true:=by
 induction l with
 |nil=>rfl
 |cons a l ih=>simp[au,V7]
def Jk(l:List V2):Prop:=l.Pairwise fun a b=>D7 a b=true
theorem Oo{x:V2}:∀{l:List V2},Jk l→(∀y∈l,y.name≠x.name)→Jk (AO D7 x l)
 | [],_,_=>by simp[AO,Jk]
 |z::r,hs,hn=>by
  have hs':=IY.1 hs;unfold AO;split
  ·rename_i hz
   refine IY.2 ⟨fun y hy=>?_,Oo hs'.2 fun y hy=>hn y (by simp[hy])⟩
   rcases EF.1 hy with rfl|hy
   ·exact hz
   ·exact hs'.1 y hy
  ·rename_i hz
   have hx:D7 x z=true:=by
    rcases qJ x.name z.name with h1|h1|h1
    ·exact h1
    ·exact absurd h1.symm (hn z (by simp))
    ·exact absurd h1 hz
   refine IY.2 ⟨fun y hy=>?_,hs⟩
   rcases qL.1 hy with rfl|hy
   ·exact hx
   ·exact ry hx (hs'.1 y hy)
theorem DP:∀{l:List V2},xC l→Jk (cW D7 l)
 | [],_=>by simp[cW,Jk]
 |x::r,h=>by
  have h:=IY.1 h;exact Oo (DP h.2) fun y hy=>fun e=>h.1 y (rp.1 hy) e.symm
theorem G1:∀{l m:List V2},Jk l→Jk m→(∀x,x∈l↔x∈m)→l=m
 | [],[],_,_,_=>rfl
 | [],b::m,_,_,h=>by have:=(h b).2 (by simp);simp at this
 |a::l,[],_,_,h=>by have:=(h a).1 (by simp);simp at this
 |a::l,b::m,hl,hm,h=>by
  have hl':=IY.1 hl;have hm':=IY.1 hm
  have hab:a=b:=by
   rcases qL.1 ((h a).1 (by simp))with e|e
   ·exact e
   ·rcases qL.1 ((h b).2 (by simp))with e'|e'
    ·exact e'.symm
    ·have h1:=hm'.1 a e
     have h2:=hl'.1 b e';unfold D7 at h1 h2;rw[sH h1]at h2;cases h2
  subst hab;rw[G1 hl'.2 hm'.2 fun x=>⟨fun hx=>?_,fun hx=>?_⟩]
  ·rcases qL.1 ((h x).1 (by simp[hx]))with e|e
   ·subst e
    exact absurd rfl (G0 (hl'.1 x hx))
   ·exact e
  ·rcases qL.1 ((h x).2 (by simp[hx]))with e|e
   ·subst e
    exact absurd rfl (G0 (hm'.1 x hx))
   ·exact e
theorem Yx{s:List V2}{u:Term}(h:xC s):xC (vT s u):=by
 unfold vT;split
 ·rename_i hc
  refine List.pairwise_append.2 ⟨h,by simp,fun a ha b hb=>?_⟩
  have hb:b=⟨u.name,u.w⟩:=by simpa using hb
  subst hb;intro e;have:=Uw.1 hc.2 a ha;exact this (decide_eq_true e)
 ·exact h
theorem DE:∀{l:List Term} {s:List V2},xC s→xC (l.foldl vT s)
 | [],_,h=>h
 |u::l,s,h=>DE (l:=l) (Yx h)
theorem N0:∀{l:List Term} {s:List V2},(l.foldl vT s).length≤s.length+l.length
 | [],s=>by simp
 |u::l,s=>by
  have h1:=N0 (l:=l) (s:=vT s u);have h2:=Rb (s:=s) (u:=u);simp only[UM,oi];omega
def mC(t:Term):List V2:=cW D7 (t.pre.foldl vT [])
theorem ajR(l:List V2)(hd:xC l)(hl:l.length≤1000000):kV P a7 [.sl 0 l.length,.p (.fn dI [])] (sV l)=some (.p (.jO []),sV (cW D7 l)):=by
 rw[kz]
 have hlen:(cW D7 l).length=l.length:=by
  have:∀l:List V2,(cW D7 l).length=l.length:=by
   intro l
   induction l with
   |nil=>rfl
   |cons a l ih=>
    have ins:∀m:List V2,(AO D7 a m).length=m.length+1:=by
     intro m
     induction m with
     |nil=>rfl
     |cons b m ih=>simp only[AO];split<;>simp[ih]
    simp[cW,ins,ih]
  exact this l
 have he:mD 2 (cW D7 l)=mD 2 l:=by
  cases l with
  |nil=>rfl
  |cons a l=>
   cases hi:cW D7 (a::l)with
   |nil=>rw[hi]at hlen;simp at hlen
   |cons b m=>rfl
 have hrow:l.map au=[]∨mD 2 l=2:=by cases l with|nil=>exact .inl rfl|cons a l=>exact .inr rfl
 have key:uZ 2 dI V7 S5 [.sl 0 l.length,.p (.fn dI [])] (sV l)=some (.p (.jO []),sV (cW D7 l)):=by
  simp only[uZ,sV,if_true,NX];rw[if_pos ⟨by simp,by omega,hrow,O1 l,N2 hd⟩]
  simp only[aa9,tp zU,he,hlen]
 unfold wm;rw[key];rfl
theorem Ia(t:Term)(hc:t.count≤1000000):R P mS [.agg t.row]=some (.aW ((mC t).map au)):=by
 have hg:=aj8 t hc;have hlen:=N0 (l:=t.pre) (s:=[]);rw[Term.qE,pN]at hlen;have hs:=ajR (t.pre.foldl vT []) (DE (by simp[xC])) (by omega)
 have hp:=RE _ t hc _ _ _ hg;have gc2:∀(a b:Obj) vs,gc 2 vs [a,b]=[a,b]:=fun a b vs=>eH (by simp)
 have hp':call P fg [.p (.agg t.row),.fn fH [.ptr 1 1 0 0]] [.pv 0 [] false,.av 1 [[.sl 0 0]] false]=some (.p (.bool true),sV (t.pre.foldl vT [])):=hp;have hz:mC t=cW D7 (t.pre.foldl vT []):=rfl;rw[hz];generalize t.pre.foldl vT []=l at *;generalize cW D7 l=m at *;simp only[sV]at hs hp'
 (rw[TH (aO rfl),uH];simp(disch:=omega)only[aG,↓aa,seval,-List.reduceReplicate,reduceCtorEq,af,aeq,vB,hp',hs,gc2,bz])
theorem ai1{vs:List AV}{a b c d:Obj}:gc 4 vs [a,b,c,d]=[a,b,c,d]:=eH (by simp)
theorem ai2{vs:List AV}{a b c d e:Obj}:gc 4 vs [a,b,c,d,e]=if yW 4 vs [a,b,c,d,e]=true then[a,b,c,d]else[a,b,c,d,e]:=by unfold gc;rw[if_neg (by simp)];rfl
def T3(x y z:Int):Prop:=(x≤0∧y≤0→z≤0∧(z=0→x=0∧y=0))∧(x=0→z=y)∧(y=0→z=x)
def or2(x y:Int):Int:=if x=0 then y else x
theorem T3.or{x y z x' y' z':Int}(h:T3 x y z)(h':T3 x' y' z'):T3 (or2 x x') (or2 y y') (or2 z z'):=by
 unfold T3 or2 at *;obtain⟨h1,h2,h3⟩:=h;obtain⟨k1,k2,k3⟩:=h';split<;>split<;>split<;>omega
theorem alI{a b:ByteArray}(h:slt a b=true):ti a b = -1:=by rw[yQ,if_neg (G0 h),if_pos h]
theorem alG(a:ByteArray):ti a a=0:=by rw[yQ,if_pos rfl]
theorem alH{a b:ByteArray}(h:slt b a=true):ti a b=1:=by rw[yQ,if_neg (fun e=>G0 h e.symm),if_neg (by rw[sH h];simp)]
def R3(x:Int):Prop:=x = -1∨x=0∨x=1
theorem R3.or{x y:Int}(h:R3 x)(h':R3 y):R3 (or2 x y):=by unfold or2;split<;>assumption
end Go.AE.S
