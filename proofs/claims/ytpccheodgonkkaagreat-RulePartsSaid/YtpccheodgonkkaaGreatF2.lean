import Derived.Test.YtpccheodgonkkaaGreatF1
import Derived.Test.YtpccheodgonkkaaGreatB0
import Derived.Test.YtpccheodgonkkaaGreatE1
set_option maxHeartbeats 0
set_option linter.unusedSimpArgs false
set_option linter.unusedVariables false
namespace Go.AE.S
open Go Go.AE
variable {τ:Tm} {σ:ae} {rd:Option Nat}
def qn(g:Gd):Term:=SK g.kind g.a g.b
def ED(a:Atom):List Term:=if a.root=bs []then[]else[.mk 16 1 0 (bs []) [(zj a).ko,a.pat.ko]]
def C4(r:ed):List Term:=r.left.flatMap ED++r.guards.map fun g=>(qn g).ko
theorem KI(a:Atom):(ED a).length≤1:=by unfold ED;split<;>simp
theorem U0{o w:Int}{x y:Term}:kB [.p (.int .i64 0),.p (.int .i64 0),.p (.int .u64 0),.p (.str (bs [])),.aF] [(0,1,.p (.int .i64 o)),(1,1,.p (.int .i64 w)),(4,1,.p (.aW [x.row,y.row]))]=some (.p (.agg (Term.mk o w 0 (bs []) [x,y]).row)):=by
 rw[Term.aY (Term.mk o w 0 (bs []) [x,y])];rfl
theorem Um{r:ed}(h:kq r){a:Atom}(ha:a∈r.left)(hn:a.root.size≤9223372036854775807):iM (zj a) :=
 Cg ⟨by decide,by decide⟩ (h.lt a ha).1.w ⟨by decide,by decide⟩ hn
abbrev UE(s:List Term):ae:=[xR,.av 5 [z5 0] false,xR,.av 5 [z5 2] false,.pv (mD 5 s) (s.map Term.row) false]
abbrev Oc(r:ed)(s:List Term)(i:Int):List (Nat×AV):=[(1,.p (.ptr r.row 0)),(3,.ptr 1 1 0 0),(4,.ptr 3 1 0 0),(5,.sl 4 s.length),(11,.p (.aW (r.left.map Atom.row))),(12,.p (.int .i64 r.left.length)),(13,.p (.int .i64 i))]
abbrev Sc(r:ed)(s:List Term)(i:Int):List (Nat×AV):=[(1,.p (.ptr r.row 0)),(3,.ptr 1 1 0 0),(4,.ptr 3 1 0 0),(5,.sl 4 s.length),(33,.p (.aW (r.guards.map Gd.row))),(34,.p (.int .i64 r.guards.length)),(35,.p (.int .i64 i))]
theorem aiR{s:List Term}{t:Term}(hs:s.length≤1000000):zF (UE s) 5 64 (.sl 4 s.length) (some (.inl [t.row]))=some (.sl 4 (s.length+1),UE (s++[t])):=by
 rw[eZ (σ:=UE s) (b:=4) (n:=s.length) (e:=mD 5 s) (es:=5) (bytes:=64) (rows:=s.map Term.row) (new:=[t.row]) rfl (by simp) (r9 _ _ _) (by simp only[oi,pN];omega)]
 simp only[UE,kE,Ed,ue,CU];rfl
theorem SR(r:ed)(h:kq r)(hn:∀a∈r.left,a.root.size≤9223372036854775807):an P tc (Oc r [] 0) (UE []) 65 none=back P [1,3,4,5,11,12,13] gT 5 (exec P gT ⟨tm (Oc r (r.left.flatMap ED) r.left.length),UE (r.left.flatMap ED),65,none⟩):=by
 have hll:=h.ll
 obtain⟨_,hL⟩:=jj (P:=P) (nt:=65) (lv:=[1,3,4,5,11,12,13]) (b:=gT) (rd:=none) (as:=r.left) (fun i (s:List Term)=>Oc r s i) UE (fun _ s a=>s++ED a) (fun i s=>s.length≤i)
  (fun i a s ha hi hs=>by
   have hm:=mK ha;have hat:=h.lt a hm;have h2:=KI a;refine⟨by rw[mh];omega,?_⟩
   have hlt:((i:Int)<r.left.length)=True:=by simpa using hi
   have hx:=fun σ=>aU (k:=.i64) (es:=6) (σ:=σ) (ax (f:=Atom.row) ha) a.aH
   have hr:=H8 a;have hcr:(zj a).count≤1000000:=by show Term.count (.mk 24 a.pat.w 0 a.root [])≤_;rw[Term.count_eq];show 1+Term.counts []≤_;decide
   have v1:=jm (zj a) (Um h hm (hn a hm)) hcr;have v2:=jm a.pat hat.1 (by omega)
   have a1:=fun t:Term=>aiR (s:=s) (t:=t) (by omega)
   unfold ED;rcases fC (a.root=bs [])with h1|h1
   ·rw[if_pos (of_eq_true h1),abq]
    simp only[gT];simp(disch:=omega)only[aG,↓aa,seval,-List.reduceReplicate,reduceCtorEq,af,hlt,bz,hx,jX,fL,iV,h1,Oc]
    try rfl
   ·rw[if_neg (of_eq_false h1)]
    simp only[UE,z5]at a1;simp only[gT];simp(disch:=omega)only[aG,↓aa,seval,-List.reduceReplicate,reduceCtorEq,af,hlt,bz,hx,jX,fL,iV,sP,h1,HX,hr,jl,v1,v2,r6,U0,lW,vM,UE,z5,a1,mh,Oc]
    try rfl) (fun i s=>rfl) [] (by simp) _ (wi ED r.left 0 [])
 exact hL
theorem SU(r:ed)(h:kq r)(ht:∀g∈r.guards,iM (qn g)∧(qn g).count≤1000000)(hG:∀g∈r.guards,∀σ,kV P fR [.p (.agg g.row)] σ=some (.p (.agg (qn g).row),σ))(s0:List Term)(h0:s0.length≤100000):an P td (Sc r s0 0) (UE s0) 65 none=back P [1,3,4,5,33,34,35] jN 5 (exec P jN ⟨tm (Sc r (s0++r.guards.map fun g=>(qn g).ko) r.guards.length),UE (s0++r.guards.map fun g=>(qn g).ko),65,none⟩):=by
 have hgl:=h.gl
 obtain⟨_,hL⟩:=jj (P:=P) (nt:=65) (lv:=[1,3,4,5,33,34,35]) (b:=jN) (rd:=none) (as:=r.guards) (fun i (s:List Term)=>Sc r s i) UE (fun _ s g=>s++[(qn g).ko]) (fun i s=>s.length≤s0.length+i)
  (fun i g s ha hi hs=>by
   have hm:=mK ha;refine⟨by rw[mh];simp only[oi,pN];omega,?_⟩
   have hlt:((i:Int)<r.guards.length)=True:=by simpa using hi
   have hx:=fun σ=>aU (k:=.i64) (es:=11) (σ:=σ) (ax (f:=Gd.row) ha) g.aH
   have hg:=hG g hm;have v1:=jm (qn g) (ht g hm).1 (ht g hm).2;have a1:=fun t:Term=>aiR (s:=s) (t:=t) (by omega)
   simp only[UE,z5]at a1;simp only[jN];simp(disch:=omega)only[aG,↓aa,seval,-List.reduceReplicate,reduceCtorEq,af,hlt,bz,hx,dx,bZ,hg,jl,v1,lW,vM,UE,z5,a1,mh,Sc]
   try rfl) (fun i s=>rfl) s0 (by omega) _ (yU (fun g:Gd=>(qn g).ko) r.guards 0 s0)
 exact hL
theorem amE{σ:ae}:rY 5 (aT [.p (.int .i64 0),.p (.int .i64 0),.p (.int .u64 0),.p (.str (bs [])),.aF] σ)=some (.ptr (σ.length+1) 1 0 0,σ++[xR,.av 5 [[.p (.int .i64 0),.p (.int .i64 0),.p (.int .u64 0),.p (.str (bs [])),.sl σ.length 0]] false]):=by
 simp[rY,aT,mkObj,af]
theorem IU(r:ed)(h:kq r)(hne:r.left≠[])(hn:∀a∈r.left,a.root.size≤9223372036854775807)(ht:∀g∈r.guards,iM (qn g)∧(qn g).count≤1000000)(hG:∀g∈r.guards,∀σ,kV P fR [.p (.agg g.row)] σ=some (.p (.agg (qn g).row),σ)):R P ja [.agg r.row]=some (.jO [.aW ((C4 r).map Term.row),.agg (Hh r).ko.row,.agg r.right.ko.row]):=by
 have hll:=h.ll;have h0:=SR r h hn;have hfl:=Cq ED 1 r.left fun a _=>KI a
 have h1:=SU r h ht hG (r.left.flatMap ED) (by omega)
 have hrc:=h.rt.2;have v2:=jm r.right h.rt.1 (by omega)
 unfold Hh;cases hl:r.left with
 |nil=>exact absurd hl hne
 |cons a l=>
 have hat:=h.lt a (by rw[hl];simp)
 have v1:=jm a.pat hat.1 (by omega)
 have u1:=Ah r;have hx:∀σ,jd σ 6 (.p (.aW (a.row::l.map Atom.row))) (.p (.int .i64 0))=some (.p (.ptr a.row 0)):=fun σ=>aU (k:=.i64) (es:=6) (σ:=σ) (ax (f:=Atom.row) (l:=a::l) (i:=0) (a:=a) rfl) a.aH
 have hlen:((((a::l).length:Nat):Int)=0)=False:=by simp;omega
 have e:C4 r=r.left.flatMap ED++r.guards.map fun g=>(qn g).ko:=rfl
 rw[e];rw[hl]at h0 h1 u1 ⊢;generalize (a::l).flatMap ED=H at *;generalize (r.guards.map fun g=>(qn g).ko)=G at *
 rw[ue]at u1;simp only[Oc,UE,z5,hl,CU,pN,Es,ue]at h0;simp only[Sc,UE,z5,hl,CU,pN,Es]at h1;simp only[oi]at h0 hlen
 (rw[IM (aO rfl),nH];simp(disch:=omega)only[aG,↓aa,seval,-List.reduceReplicate,reduceCtorEq,af,bX,bn,u1,D4,Uo,amE,oi,pN,sQ,yK,Ec,bz,GB,h0,gT,pD,GD,h1,jN,hlen,hx,sP,jl,v1,v2,z5])
def HGT:Prop:=∀g:Gd,iM g.a→iM g.b→g.a.count≤400→g.b.count≤400→∀σ,kV P fR [.p (.agg g.row)] σ=some (.p (.agg (qn g).row),σ)
structure AT (r:ed):Prop where
 ok:kq r
 ll:r.left.length≤40
 gl:r.guards.length≤40
 rn:∀a∈r.left,a.root.size≤9223372036854775807
 hG:r.guards=[]∨HGT
theorem yD{o w:Int}{l:List Term}(ho : -9223372036854775808≤o∧o≤9223372036854775807)(hw : -9223372036854775808≤w∧w≤9223372036854775807)(hl:l.length≤10)(ht:∀t∈l,iM t):iM (.mk o w 0 (bs []) l) :=
 .mk _ ho hw (show MD 0 from⟨by decide,by decide⟩) (by show(bs []).size≤_;decide) (by show l.length≤_;omega) ht
theorem count_mk{o w v:Int}{n:ByteArray}{l:List Term}:(Term.mk o w v n l).count=1+Term.counts l:=by rw[Term.count_eq];rfl
theorem qO:Term.counts []=0:=by rw[Term.counts]
theorem uR{a:Term}{l:List Term}:Term.counts (a::l)=a.count+Term.counts l:=by rw[Term.counts]
theorem acq{k:Int}{a b:Term}(ha:iM a)(hb:iM b)(ca:a.count≤400)(cb:b.count≤400):iM (SK k a b)∧(SK k a b).count≤2000:=by
 have hab:∀t∈[a,b],iM t:=by intro t ht;simp at ht;rcases ht with rfl|rfl<;>assumption
 unfold SK;split
 ·exact⟨ha,by omega⟩
 split
 ·refine⟨yD ⟨by decide,by decide⟩ ⟨by decide,by decide⟩ (by simp) hab,?_⟩
  simp only[count_mk,uR,qO];omega
 split
 ·refine⟨yD ⟨by decide,by decide⟩ ⟨by decide,by decide⟩ (by simp) ?_,?_⟩
  ·intro t ht
   simp at ht;rcases ht with rfl|rfl
   ·exact yD ⟨by decide,by decide⟩ ha.w (by simp) hab
   ·exact yD ⟨by decide,by decide⟩ ha.w (by simp) (by simp)
  ·simp only[count_mk,uR,qO];omega
 split
 ·refine⟨yD ⟨by decide,by decide⟩ ⟨by decide,by decide⟩ (by simp) hab,?_⟩
  simp only[count_mk,uR,qO];omega
 ·refine⟨yD ⟨by decide,by decide⟩ ⟨by decide,by decide⟩ (by simp) (by simp),?_⟩
  simp only[count_mk,qO];omega
theorem Kw{r:ed}(h:AT r):∀g∈r.guards,iM (qn g)∧(qn g).count≤2000:=fun g hg=>by
 have:=h.ok.gt g hg;exact acq this.1 this.2.1 this.2.2.1 this.2.2.2
theorem aj5{r:ed}(h:AT r):∀g∈r.guards,∀σ,kV P fR [.p (.agg g.row)] σ=some (.p (.agg (qn g).row),σ):=by
 rcases h.hG with h0|h0
 ·rw[h0];simp
 ·intro g hg
  have:=h.ok.gt g hg;exact h0 g this.1 this.2.1 this.2.2.1 this.2.2.2
theorem adf{a:Atom}:(zj a).count=1:=by show Term.count (.mk 24 a.pat.w 0 a.root [])=1;rw[count_mk,qO]
theorem agX{r:ed}(h:AT r)(hne:r.left≠[]):∀t∈Cn (C4 r) (Hh r).ko r.right.ko,iM t∧t.count≤10000:=by
 intro t ht;unfold Cn C4 at ht;rcases Gb.1 ht with ht|ht
 ·rcases Gb.1 ht with ht|ht
  ·obtain⟨a,ha,ht⟩:=Mz.1 ht
   have hat:=h.ok.lt a ha;unfold ED at ht;split at ht
   ·simp at ht
   ·rw[Uz.1 ht]
    refine⟨yD ⟨by decide,by decide⟩ ⟨by decide,by decide⟩ (by simp) ?_,?_⟩
    ·intro u hu
     simp at hu;rcases hu with rfl|rfl
     ·exact FZ _ (Um h.ok ha (h.rn a ha))
     ·exact FZ _ hat.1
    ·have h1:=zq (zj a)
     have h2:=zq a.pat;rw[adf]at h1;simp only[count_mk,uR,qO];omega
  ·obtain⟨g,hg,rfl⟩:=CV.1 ht
   have h1:=Kw h g hg;have h2:=zq (qn g);exact⟨FZ _ h1.1,by omega⟩
 ·simp only[qL,List.not_mem_nil,or_false]at ht
  rcases ht with rfl|rfl
  ·unfold Hh
   cases hl:r.left with
   |nil=>exact absurd hl hne
   |cons a l=>
    have hat:=h.ok.lt a (by rw[hl];simp)
    have h2:=zq a.pat;exact⟨FZ _ hat.1,by show a.pat.ko.count≤10000;omega⟩
  ·have h2:=zq r.right
   have:=h.ok.rt.2;exact⟨FZ _ h.ok.rt.1,by omega⟩
theorem adU{r:ed}(h:AT r):(C4 r).length≤90:=by
 have h1:=Cq ED 1 r.left fun a _=>KI a
 have h2:=h.ll;have h3:=h.gl;unfold C4;rw[mh,bz];omega
def Z4(r:ed):Int:=if ¬CP r=0 then CP r else if Gz r=true then 3 else NP (C4 r) (Hh r).ko r.right.ko
def afz(r:ed):Bool:=if ¬CP r=0 then false else if Gz r=true then false else Xi (C4 r) (Hh r).ko r.right.ko
def aol(r:ed):List Bd:=if ¬CP r=0 then[]else if Gz r=true then[]else Xh (C4 r) (Hh r).ko r.right.ko
theorem FN(r:ed)(h:AT r):R P nu [.agg r.row]=some (.jO [.bool (afz r),.aW ((aol r).map Rs),.int .i64 (Z4 r)]):=by
 have hll:=h.ll;have k1:=FM r h.ok (by omega)
 have k2:=pA r h.ok;unfold afz aol Z4;rcases fC (CP r=0)with c1|c1
 rotate_left
 ·have c1':=of_eq_false c1
  simp only[c1',not_false_eq_true,if_true]
  (rw[zZ (aO rfl),nc];simp(disch:=omega)only[aG,↓aa,seval,-List.reduceReplicate,reduceCtorEq,af,bX,bn,lg,k1,c1])
 have c1':=of_eq_true c1;rw[c1']at k1;simp only[c1',not_true,if_false];cases c2:Gz r with
 |true=>
  rw[c2]at k2;simp only[if_true]
  (rw[zZ (aO rfl),nc];simp(disch:=omega)only[aG,↓aa,seval,-List.reduceReplicate,reduceCtorEq,af,bX,bn,lg,k1,cO,k2])
 |false=>
  rw[c2]at k2;simp only[nh,if_false];have hne:=(ag3 ((TT r).1 c1')).1;have ke:=IU r h.ok hne h.rn (fun g hg=>⟨(Kw h g hg).1,by have:=(Kw h g hg).2;omega⟩) (aj5 h)
  have kv:=IS (C4 r) (Hh r).ko r.right.ko (agX h hne) (adU h)
  (rw[zZ (aO rfl),nc];simp(disch:=omega)only[aG,↓aa,seval,-List.reduceReplicate,reduceCtorEq,af,bX,bn,lg,k1,cO,k2,IH,ke,IG,kv])
def upX(r:ed)(v:Int):Option ed:=if Gz r=true then atR v r else some r
def upF(r:ed)(v:Int):Unit ⊕ (Int×Int):=match upX r v with
 |none=>.inr (v,3)
 |some x=>if ¬Z4 x=0 then .inr (v,Z4 x)else if afz x=false then .inr (v,0)else .inl ()
def XX(r:ed)(w:Int):Int:=if Gz r=true then min (max w 1) 8 else 1
def acs(r:ed)(w:Int):List PV :=
 if ¬CP r=0 then[.bool false,.int .i64 1,.int .i64 (CP r)]
 else match aq (S:=Unit) (T:=Int×Int) (fun _ _ v=>upF r v) 0 () ((List.range (XX r w).toNat).map fun k:Nat=>(k:Int)+1)with
  |.inl _=>[.bool true,.int .i64 0,.int .i64 0]
  |.inr (v,e)=>[.bool false,.int .i64 v,.int .i64 e]
theorem aiZ{vs:List AV}{a:Obj}:gc 0 vs [a]=if yW 0 vs [a]=true then[]else[a]:=by unfold gc;rw[if_neg (by simp)];rfl
theorem KM{σ:ae}(r:ed):sS σ 8 false (cellsOf 8 true (.p (.agg r.row)))=some (.ptr σ.length 1 0 0,σ++[.pv 8 [r.row] false]):=by
 rw[ed.aY];rfl
theorem OR(r x:ed):eE [.pv 8 [r.row] false] 8 (.ptr 0 1 0 0) (.p (.agg x.row))=some [.pv 8 [x.row] false]:=by
 rw[ed.aY r,ed.aY x];rfl
theorem Ox(r:ed):KS 1 0 0 8 true (some (.pv 8 [r.row] false))=some (.p (.agg r.row)):=by rw[ed.aY];rfl
abbrev Gr(r:ed)(n i:Int):List (Nat×AV):=[(2,.p (.ptr r.row 0)),(8,.p (.int .i64 n)),(9,.p (.int .i64 (i+1)))]
def E6(x:Int×Int)(q:Ex×St):Prop:=q.1=.ret∧q.2.τ.get 4=.p (.bool false)∧q.2.τ.get 5=.p (.int .i64 x.1)∧q.2.τ.get 6=.p (.int .i64 x.2)
theorem WK{n i:Nat}{a:Int}(h:((List.range n).map fun k:Nat=>(k:Int)+1)[i]?=some a):a=(i:Int)+1∧i<n:=by
 rw[xF,gE]at h;obtain⟨k,hk,rfl⟩:=h;obtain⟨h1,h2⟩:=gu.1 hk;rw[abY]at h1;rw[List.getElem_range]at h2;exact⟨by omega,h1⟩
theorem Zj{r:ed}(h:Jj r):∀g∈r.guards,1≤g.kind∧g.kind≤4:=by
 have hg:=h.gd;generalize ny r=hs at hg;generalize sk r=ns at hg
 have key:∀l:List Gd,yX hs ns l=0→∀g∈l,DO g hs ns=0:=by
  intro l
  induction l with
  |nil=>simp
  |cons b l ih=>
   intro h g hm;unfold yX at h;split at h
   ·rename_i h0
    rcases qL.1 hm with rfl|hm
    ·exact h0
    ·exact ih h g hm
   ·rename_i h0;exact absurd h h0
 intro g hm;have:=key _ hg g hm;unfold DO at this;split at this
 ·cases this
 ·rename_i hf
  exact VQ (by simpa using hf)
theorem Ho(r:ed)(n:Nat)(hn:n≤8)(h:AT r)(hg:Jj r)(hF:∀v x,1≤v→v≤8→upX r v=some x→AT x):uV (fun _:Unit=>True∧an P eN (Gr r n 0) [] 60 none=back P [2,8,9] cx 0 (exec P cx ⟨tm (Gr r n n),[],60,none⟩)) (fun x:Int×Int=>∃q,an P eN (Gr r n 0) [] 60 none=some q∧E6 x q) (aq (fun _ _ v=>upF r v) 0 () ((List.range n).map fun k:Nat=>(k:Int)+1)):=by
 have hlen:((List.range n).map fun k:Nat=>(k:Int)+1).length=n:=by simp
 have k2:=pA r h.ok
 have hL:=cS (P:=P) (nt:=60) (lv:=[2,8,9]) (b:=cx) (rd:=none) (as:=(List.range n).map fun k:Nat=>(k:Int)+1) (fun i (_:Unit)=>Gr r n i) (fun _=>[]) (fun _ _ v=>upF r v) E6 (fun _ _=>True)
  (fun i v s ha hi _=>by
   refine⟨fun _ _=>trivial,?_⟩
   obtain⟨hv,hi'⟩:=WK ha;have hle:(((i:Int)+1)≤n)=True:=by simp;omega
   have hw:IntKind.i64.wrap ((i:Int)+1+1)=(i:Int)+1+1:=IntWalk.i64_in _ (by omega)
   have ka:=ZY r ((i:Int)+1) ⟨by omega,by omega⟩ h.ok (Zj hg)
   unfold ajJ at ka;rw[if_pos ⟨by omega,by omega⟩]at ka
   rw[hv];unfold upF;have hFx:=hF ((i:Int)+1);unfold upX at hFx ⊢;cases c2:Gz r with
   |true=>
    rw[c2]at k2 hFx;simp only[if_true]at hFx ⊢;cases hx:atR ((i:Int)+1) r with
    |none=>
     rw[hx]at ka;simp only[UT]at ka;simp only[cx];simp(disch:=omega)only[aG,↓aa,seval,-List.reduceReplicate,reduceCtorEq,af,hle,bX,bn,KM,cO,k2,Cx,ka,Gr,E6]
    |some x=>
     rw[hx]at ka;simp only[UT]at ka;have ks:=FN x (hFx x (by omega) (by omega) hx)
     simp only
     rcases fC (Z4 x=0)with c3|c3
     rotate_left
     ·rw[if_pos (of_eq_false c3)]
      simp only[cx];simp(disch:=omega)only[aG,↓aa,seval,-List.reduceReplicate,reduceCtorEq,af,hle,bX,bn,KM,OR,Ox,cO,k2,Cx,ka,pQ,ks,c3,Gr,E6]
     ·rw[if_neg (not_not_intro (of_eq_true c3))]
      rw[of_eq_true c3]at ks;cases c4:afz x with
      |false=>
       rw[c4]at ks;simp only[if_true];simp only[cx];simp(disch:=omega)only[aG,↓aa,seval,-List.reduceReplicate,reduceCtorEq,af,hle,bX,bn,KM,OR,Ox,cO,k2,Cx,ka,pQ,ks,Gr,E6]
      |true=>
       rw[c4]at ks;simp only[abo,if_false];simp only[cx];simp(disch:=omega)only[aG,↓aa,seval,-List.reduceReplicate,reduceCtorEq,af,hle,bX,bn,KM,OR,Ox,cO,k2,Cx,ka,pQ,ks,hw,aiZ,Gr,E6]
       try rfl
   |false=>
    rw[c2]at k2 hFx;simp only[nh,if_false]at hFx ⊢;have ks:=FN r h;rcases fC (Z4 r=0)with c3|c3
    rotate_left
    ·rw[if_pos (of_eq_false c3)]
     simp only[cx];simp(disch:=omega)only[aG,↓aa,seval,-List.reduceReplicate,reduceCtorEq,af,hle,bX,bn,KM,OR,Ox,cO,k2,pQ,ks,c3,Gr,E6]
    ·rw[if_neg (not_not_intro (of_eq_true c3))]
     rw[of_eq_true c3]at ks;cases c4:afz r with
     |false=>
      rw[c4]at ks;simp only[if_true];simp only[cx];simp(disch:=omega)only[aG,↓aa,seval,-List.reduceReplicate,reduceCtorEq,af,hle,bX,bn,KM,OR,Ox,cO,k2,pQ,ks,Gr,E6]
     |true=>
      rw[c4]at ks;simp only[abo,if_false];simp only[cx];simp(disch:=omega)only[aG,↓aa,seval,-List.reduceReplicate,reduceCtorEq,af,hle,bX,bn,KM,OR,Ox,cO,k2,pQ,ks,hw,aiZ,Gr,E6]
      try rfl) (fun i s=>rfl) () trivial
 rw[hlen]at hL;exact hL
theorem zn(r:ed)(w:Int)(hw : -9223372036854775808≤w∧w≤9223372036854775807)(h:AT r)(hF:Jj r→∀v x,1≤v→v≤8→upX r v=some x→AT x):R P ft [.agg r.row,.int .i64 w]=some (.jO (acs r w)):=by
 have hll:=h.ll;have k1:=FM r h.ok (by omega)
 have k2:=pA r h.ok;unfold acs;rcases fC (CP r=0)with c1|c1
 rotate_left
 ·have c1':=of_eq_false c1
  simp only[c1',not_false_eq_true,if_true]
  (rw[mw (aO rfl),eD];simp(disch:=omega)only[aG,↓aa,seval,-List.reduceReplicate,reduceCtorEq,af,bX,bn,lg,k1,c1])
 have c1':=of_eq_true c1;have hg:=(TT r).1 c1';rw[c1']at k1;simp only[c1',not_true,if_false];unfold XX;cases c2:Gz r with
 |true=>
  rw[c2]at k2;simp only[if_true];have hm1:1≤min (max w 1) 8:=by omega
  have hm8:min (max w 1) 8≤8:=by omega
  generalize hmm:min (max w 1) 8=m at *;obtain⟨n,rfl⟩:=Int.eq_ofNat_of_zero_le (show 0≤m by omega)
  have hL:=Ho r n (by omega) h hg (hF hg)
  simp only[aci];cases hf:aq (S:=Unit) (T:=Int×Int) (fun _ _ v=>upF r v) 0 () ((List.range n).map fun k:Nat=>(k:Int)+1)with
  |inl u=>
   rw[hf]at hL;obtain⟨_,hL⟩:=hL;have h':an P eN [(2,.p (.ptr r.row 0)),(8,.p (.int .i64 n)),(9,.p (.int .i64 1))] [] 60 none=_:=hL;have Q3:((n:Int)+1≤n)=False:=by simp;omega
   (rw[mw (aO rfl),eD];simp(disch:=omega)only[aG,↓aa,seval,-List.reduceReplicate,reduceCtorEq,af,bX,bn,lg,k1,cO,k2,hmm,oy,h',cx,Gr,Q3])
  |inr x=>
   obtain⟨x1,x2⟩:=x;rw[hf]at hL;obtain⟨⟨e',τ',σ',nt',rd'⟩,g1,g2,g3,g4,g5⟩:=hL
   simp only at g2 g3 g4 g5
   subst g2;have h':an P eN [(2,.p (.ptr r.row 0)),(8,.p (.int .i64 n)),(9,.p (.int .i64 1))] [] 60 none=_:=g1
   (rw[mw (aO rfl),eD];simp(disch:=omega)only[aG,↓aa,seval,-List.reduceReplicate,reduceCtorEq,af,bX,bn,lg,k1,cO,k2,hmm,oy,h',g3,g4,g5])
 |false=>
  rw[c2]at k2;simp only[nh,if_false];have hL:=Ho r 1 (by omega) h hg (hF hg)
  have e1:(1:Int).toNat=1:=rfl;rw[e1];cases hf:aq (S:=Unit) (T:=Int×Int) (fun _ _ v=>upF r v) 0 () ((List.range 1).map fun k:Nat=>(k:Int)+1)with
  |inl u=>
   rw[hf]at hL;obtain⟨_,hL⟩:=hL;have h':an P eN [(2,.p (.ptr r.row 0)),(8,.p (.int .i64 1)),(9,.p (.int .i64 1))] [] 60 none=_:=hL
   (rw[mw (aO rfl),eD];simp(disch:=omega)only[aG,↓aa,seval,-List.reduceReplicate,reduceCtorEq,af,bX,bn,lg,k1,cO,k2,oy,h',cx,Gr])
  |inr x=>
   obtain⟨x1,x2⟩:=x;rw[hf]at hL;obtain⟨⟨e',τ',σ',nt',rd'⟩,g1,g2,g3,g4,g5⟩:=hL
   simp only at g2 g3 g4 g5
   subst g2;have h':an P eN [(2,.p (.ptr r.row 0)),(8,.p (.int .i64 1)),(9,.p (.int .i64 1))] [] 60 none=_:=g1
   (rw[mw (aO rfl),eD];simp(disch:=omega)only[aG,↓aa,seval,-List.reduceReplicate,reduceCtorEq,af,bX,bn,lg,k1,cO,k2,oy,h',g3,g4,g5])
theorem K5{α β:Type}{f:α→Option β}:∀{l:List α} {m:List β},omap f l=some m→m.length=l.length∧∀b∈m,∃a∈l,f a=some b
 | [],m,h=>by simp only[omap,bL]at h;subst h;simp
 |a::l,m,h=>by
  simp only[omap]at h;cases ha:f a with
  |none=>rw[ha]at h;cases h
  |some b=>
   rw[ha]at h;cases hm:omap f l with
   |none=>rw[hm]at h;cases h
   |some bs=>
    rw[hm]at h;simp only[bL]at h;subst h;have ih:=K5 hm;refine⟨by simp[ih.1],fun x hx=>?_⟩
    rcases qL.1 hx with rfl|hx
    ·exact⟨a,by simp,ha⟩
    ·obtain⟨y,hy,h2⟩:=ih.2 x hx
     exact⟨y,by simp[hy],h2⟩
theorem ac3{w:Int}{r x:ed}(h:atR w r=some x):∃l gs,omap (atA w) r.left=some l∧(r.right.vj w).2=true∧omap (atG w) r.guards=some gs∧x=⟨r.name,l,(r.right.vj w).1,gs⟩:=by
 unfold atR at h;cases hl:omap (atA w) r.left with
 |none=>rw[hl]at h;cases h
 |some l=>
  rw[hl]at h
  simp only at h
  split at h
  ·rename_i hr
   cases hg:omap (atG w) r.guards with
   |none=>rw[hg]at h;cases h
   |some gs=>
    rw[hg]at h;simp only[bL]at h;exact⟨l,gs,rfl,hr,rfl,h.symm⟩
  ·cases h
theorem Rj{w:Int}{a b:Atom}(h:atA w a=some b):(a.pat.vj w).2=true∧b=⟨a.root,(a.pat.vj w).1⟩:=by
 unfold atA at h;split at h
 ·rename_i h1;exact⟨h1,by simpa using h.symm⟩
 ·cases h
theorem ac2{w:Int}{g b:Gd}(h:atG w g=some b):(g.a.vj w).2=true∧((g.kind=1∧b=⟨g.kind,(g.a.vj w).1,g.b⟩)∨(¬g.kind=1∧(g.b.vj w).2=true∧b=⟨g.kind,(g.a.vj w).1,(g.b.vj w).1⟩)):=by
 unfold atG at h;split at h
 ·rename_i h1
  refine⟨h1,?_⟩;split at h
  ·rename_i h2;exact .inl ⟨h2,by simpa using h.symm⟩
  ·rename_i h2
   split at h
   ·rename_i h3;exact .inr ⟨h2,h3,by simpa using h.symm⟩
   ·cases h
 ·cases h
theorem O4{wd:Int}(hwd:1≤wd∧wd≤64){ev:Bool}{t:Term}(h:lF t ev=0)(hk:(t.vj wd).2=true):(t.vj wd).1.count=t.count:=by
 have ha:=amJ wd hwd ev t (RZ h) hk;rw[←Term.qE,←Term.qE];exact ha.rel.len
theorem SL{hs ns:List V2}:∀{l:List Gd},yX hs ns l=0→∀g∈l,DO g hs ns=0
 | [],_=>by simp
 |b::l,h=>by
  intro g hm;unfold yX at h;split at h
  ·rename_i h0
   rcases qL.1 hm with rfl|hm
   ·exact h0
   ·exact SL h g hm
  ·rename_i h0;exact absurd h h0
theorem adO{g:Gd}{hs ns:List V2}:DO g hs ns=0↔KG g=true∧lF g.a false=0∧(¬g.kind=1→lF g.b false=0)∧akd g hs ns=true∧g.a.w=(if g.kind=1 then 1 else g.b.w):=by
 unfold DO;constructor
 ·intro h
  split at h
  ·cases h
  rename_i h1;split at h
  ·rename_i h2;exact absurd h h2
  rename_i h2;split at h
  ·rename_i h3;exact absurd h h3.2
  rename_i h3;split at h
  ·cases h
  rename_i h4;by_cases h5:¬g.a.w=(if g.kind=1 then 1 else g.b.w)
  ·rw[if_pos h5]at h;cases h
  exact⟨by simpa using h1,abh.1 h2,fun hk=>Classical.byContradiction fun hb=>h3 ⟨hk,hb⟩,by simpa using h4,abh.1 h5⟩
 ·rintro⟨h1,h2,h3,h4,h5⟩
  rw[if_neg (by rw[h1];decide),if_neg (not_not_intro h2),if_neg (fun h=>h.2 (h3 h.1)),if_neg (by rw[h4];decide),if_neg (not_not_intro h5)]
theorem aj4{r x:ed}{v:Int}(hv:1≤v∧v≤64)(h:AT r)(hg:Jj r)(hx:atR v r=some x):AT x:=by
 obtain⟨l,gs,h1,h2,h3,rfl⟩:=ac3 hx;have hl:=K5 h1;have hgs:=K5 h3;have hv' : -9223372036854775808≤v∧v≤9223372036854775807:=⟨by omega,by omega⟩
 refine⟨⟨?_,?_,?_,?_,?_⟩,?_,?_,?_,?_⟩
 ·show l.length≤1000
  rw[hl.1];exact h.ok.ll
 ·intro b hb
  obtain⟨a,ha,hab⟩:=hl.2 b hb;obtain⟨e1,rfl⟩:=Rj hab;have hat:=h.ok.lt a ha;refine⟨Mn v hv' a.pat hat.1,?_⟩
  show(a.pat.vj v).1.count≤400
  rw[O4 hv (UU (R1 hg.la a ha)).1 e1];exact hat.2
 ·refine⟨Mn v hv' r.right h.ok.rt.1,?_⟩
  show(r.right.vj v).1.count≤400
  rw[O4 hv hg.rt h2];exact h.ok.rt.2
 ·show gs.length≤1000
  rw[hgs.1];exact h.ok.gl
 ·intro b hb
  obtain⟨g,hgm,hab⟩:=hgs.2 b hb;have Q3:=h.ok.gt g hgm;obtain⟨e0,e1,e2,e3,e4⟩:=adO.1 (SL hg.gd g hgm);obtain⟨k1,k2⟩:=ac2 hab;have ca:=O4 hv e1 k1;rcases k2 with⟨k2,rfl⟩|⟨k2,k3,rfl⟩
  ·refine⟨Mn v hv' _ Q3.1,Q3.2.1,?_,Q3.2.2.2⟩
   show(g.a.vj v).1.count≤400
   rw[ca];exact Q3.2.2.1
  ·have cb:=O4 hv (e2 k2) k3
   refine⟨Mn v hv' _ Q3.1,Mn v hv' _ Q3.2.1,?_,?_⟩
   ·show(g.a.vj v).1.count≤400
    rw[ca];exact Q3.2.2.1
   ·show(g.b.vj v).1.count≤400
    rw[cb];exact Q3.2.2.2
 ·show l.length≤40
  rw[hl.1];exact h.ll
 ·show gs.length≤40
  rw[hgs.1];exact h.gl
 ·intro b hb
  obtain⟨a,ha,hab⟩:=hl.2 b hb;obtain⟨e1,rfl⟩:=Rj hab;exact h.rn a ha
 ·rcases h.hG with h0|h0
  ·left
   show gs=[];rw[h0]at hgs;exact Jm.1 hgs.1
  ·exact .inr h0
theorem adE{r:ed}(h:AT r)(hg:Jj r)(v:Int)(x:ed)(h1:1≤v)(h8:v≤8)(hx:upX r v=some x):AT x:=by
 unfold upX at hx;split at hx
 ·exact aj4 ⟨h1,by omega⟩ h hg hx
 ·simp only[bL]at hx
  rw[←hx];exact h
def hA:Term:=.mk 24 0 0 (bs [97]) []
def pL:Term:=.mk 8 0 0 (bs []) [hA,hA]
def pR:Term:=.mk 13 0 0 (bs []) [hA,.mk 2 0 1 (bs []) []]
def rX1:ed:=⟨bs [100,111,117,98,108,101],[⟨bs [],pL⟩],pR,[]⟩
def rX2:ed:=⟨bs [100,111,117,98,108,101],[⟨bs [],pL⟩],hA,[]⟩
theorem apV:acs rX1 3=[.bool true,.int .i64 0,.int .i64 0]:=by
 have:(match aq (S:=Unit) (T:=Int×Int) (fun _ _ v=>upF rX1 v) 0 () ((List.range (XX rX1 3).toNat).map fun k:Nat=>(k:Int)+1)with|.inl _=>true|.inr _=>false)=true∧CP rX1=0:=by decide +kernel
 obtain⟨h1,h2⟩:=this;unfold acs;rw[if_neg (not_not_intro h2)];split at h1
 ·rename_i h;rw[h]
 ·cases h1
theorem apW:acs rX2 3=[.bool false,.int .i64 1,.int .i64 0]:=by
 have:(match aq (S:=Unit) (T:=Int×Int) (fun _ _ v=>upF rX2 v) 0 () ((List.range (XX rX2 3).toNat).map fun k:Nat=>(k:Int)+1)with|.inl _=>false|.inr x=>decide (x=(1,0)))=true∧CP rX2=0:=by decide +kernel
 obtain⟨h1,h2⟩:=this;unfold acs;rw[if_neg (not_not_intro h2)];split at h1
 ·cases h1
 ·rename_i x h;rw[h]
  have:=of_decide_eq_true h1;subst this;rfl
theorem am9:Gz rX2=true:=by decide +kernel
theorem H6(o:Int)(a b:Term):R P jD [.int .i64 o,.agg a.row,.agg b.row]=some (.agg (Term.mk o 1 0 (bs []) [a,b]).row):=by
 (rw[TA (aO rfl),uA];simp(disch:=omega)only[aG,↓aa,seval,-List.reduceReplicate,reduceCtorEq,af,afL,QS,r6,U0])
theorem ajP{o w:Int}:kB [.p (.int .i64 0),.p (.int .i64 0),.p (.int .u64 0),.p (.str (bs [])),.aF] [(0,1,.p (.int .i64 o)),(1,1,.p (.int .i64 w))]=some (.agg [.p (.int .i64 o),.p (.int .i64 w),.p (.int .u64 0),.p (.str (bs [])),.aF]):=rfl
theorem OM{σ:ae}:refs σ 11 .aF=[]:=rfl
theorem anl{t:Term}:KS 1 0 1 1 false (some (.pv 5 [t.row] false))=some (.p (.int .i64 t.w)):=by rw[Term.aY];rfl
theorem aov{ops:List fG}{i d1 d2 k b nt:Nat}{st:St}{τ:Tm}{σ:ae}(h1:Ag (ops.drop i)=some (d1,d2,k))(h2:Ch τ (ops.drop i)=true)(h3:τ.get d1=.ptr b 1 0 0)(h4:st.σ.length+k≤b)(h5:σ.all (Obj.below (b-k))=true)(h6:∀t,t≠d1→t≠d2→below (b-k) (τ.get t)=true):Af ops [(i,i+1)] st ⟨τ,σ,nt,rd⟩=true:=by
 unfold Af;simp only[h1,h2,h3,h5,beq_self_eq_true,IZ,ab0,yE,decide_eq_true_eq,AS,OZ,beq_iff_eq];refine⟨h4,fun t _=>?_⟩
 by_cases e1:t=d1
 ·exact .inl (.inl e1)
 ·by_cases e2:t=d2
  ·exact .inl (.inr e2)
  ·exact .inr (h6 t e1 e2)
theorem Q3:HGT:=by
 intro g ta tb ca cb;have k1:=ye g.a (by omega)
 have k2:=ye g.b (by omega)
 suffices h:R P fR [.agg g.row]=some (.agg (qn g).row) by
  intro σ;simp(disch:=omega)only[aG,↓aa,seval,-List.reduceReplicate,reduceCtorEq,af,Ql,h]
 (rw[Qt (aO rfl),rK];simp(disch:=omega)only[aG,↓aa,seval,-List.reduceReplicate,reduceCtorEq,af,dx,bZ,yF,C1,C2,rq,k1,k2,x8,rv,x9,jr,eJ,uP,xc,Bool.or_self,nh,if_false])
 rw[if_pos];rotate_left
 ·refine aov (i:=6) (b:=3) (k:=1) rfl rfl rfl (show 2+1≤3 by decide) ?_ (fun t h1 h2=>?_)
  ·simp[Obj.below,below]
  ·simp only[jg]
   repeat' split
   all_goals try first|exact absurd (Eq.symm (by assumption)) h1|exact absurd (Eq.symm (by assumption)) h2|(simp[below];done)
   show below 2 (lk [(0,AV.p (PV.agg g.row))] t)=true;simp only[lk];split<;>simp[below]
 have t1:=H6
 have t2:∀(o:Int) (a:Term) (w:Int),R P jD [.int .i64 o,.agg a.row,.agg [.int .i64 2,.int .i64 w,.int .u64 0,.str (bs []),.aW []]]=some (.agg (Term.mk o 1 0 (bs []) [a,.mk 2 w 0 (bs []) []]).row):=fun o a w=>by
  have:=H6 o a (.mk 2 w 0 (bs []) []);rw[Term.aY (.mk 2 w 0 (bs []) [])]at this;exact this
 unfold qn SK;rcases fC (g.kind=1)with h1|h1
 ·rw[if_pos (of_eq_true h1)]
  simp(disch:=omega)only[aG,↓aa,seval,-List.reduceReplicate,reduceCtorEq,af,yF,h1]
 rw[if_neg (of_eq_false h1)];rcases fC (g.kind=2)with h2|h2
 ·rw[if_pos (of_eq_true h2)]
  simp(disch:=omega)only[aG,↓aa,seval,-List.reduceReplicate,reduceCtorEq,af,yF,h1,h2,BY,t1]
 rw[if_neg (of_eq_false h2)];rcases fC (g.kind=3)with h3|h3
 ·rw[if_pos (of_eq_true h3)]
  simp(disch:=omega)only[aG,↓aa,seval,-List.reduceReplicate,reduceCtorEq,af,yF,h1,h2,h3,BY,t1,t2,r6,U0,ajP,anl,OM,bF,ite_self]
 rw[if_neg (of_eq_false h3)];rcases fC (g.kind=4)with h4|h4
 ·rw[if_pos (of_eq_true h4)]
  simp(disch:=omega)only[aG,↓aa,seval,-List.reduceReplicate,reduceCtorEq,af,yF,h1,h2,h3,h4,BY,t1]
 rw[if_neg (of_eq_false h4)];simp(disch:=omega)only[aG,↓aa,seval,-List.reduceReplicate,reduceCtorEq,af,yF,h1,h2,h3,h4]
 rw[Term.aY];rfl
theorem QG(n:ByteArray)(w:Int):R P iq [.str n,.int .i64 w]=some (.agg (Term.mk 24 w 0 n []).row):=by
 (rw[Qv (aO rfl),rM];simp(disch:=omega)only[aG,↓aa,seval,-List.reduceReplicate,reduceCtorEq,af])
 rw[Term.aY];rfl
theorem anp{x y:Term}:kB [.p (.int .i64 0),.p (.int .i64 0),.p (.int .u64 0),.p (.str (bs [])),.aF] [(0,1,.p (.int .i64 8)),(4,1,.p (.aW [x.row,y.row]))]=some (.p (.agg (Term.mk 8 0 0 (bs []) [x,y]).row)):=by
 rw[Term.aY (Term.mk 8 0 0 (bs []) [x,y])];rfl
theorem anq{t:Term}:kB [.p (.str (bs [])),.p (.int .i64 0),.p (.int .i64 0),.p (.int .u64 0),.p (.str (bs [])),.aF] [(1,5,.p (.agg t.row))]=some (.p (.agg (Atom.row ⟨bs [],t⟩))):=by
 rw[Atom.aY,Term.aY];rfl
theorem anr{a:Atom}:A2 σ 6 1 (gK (List.replicate 1 [.p (.str (bs [])),.p (.int .i64 0),.p (.int .i64 0),.p (.int .u64 0),.p (.str (bs [])),.aF]).flatten [(0,6,.p (.agg a.row))])=some (.p (.aW [a.row]),σ):=by
 rw[Atom.aY];rfl
theorem ans:kB [.p (.int .i64 0),.p (.int .i64 0),.p (.int .u64 0),.p (.str (bs [])),.aF] [(0,1,.p (.int .i64 2)),(2,1,.p (.int .u64 1))]=some (.agg [.p (.int .i64 2),.p (.int .i64 0),.p (.int .u64 1),.p (.str (bs [])),.aF]):=rfl
theorem ant{x:Term}:kU [] 5 2 (gK (List.replicate 2 [.p (.int .i64 0),.p (.int .i64 0),.p (.int .u64 0),.p (.str (bs [])),.aF]).flatten [(0,5,.p (.agg x.row)),(5,5,.agg [.p (.int .i64 2),.p (.int .i64 0),.p (.int .u64 1),.p (.str (bs [])),.aF])])=some (.sl 0 2,[.av 5 [x.row.map .p,[.p (.int .i64 2),.p (.int .i64 0),.p (.int .u64 1),.p (.str (bs [])),.aF]] false]):=by
 rw[Term.aY];rfl
theorem anu:kB [.p (.int .i64 0),.p (.int .i64 0),.p (.int .u64 0),.p (.str (bs [])),.aF] [(0,1,.p (.int .i64 13)),(4,1,.sl 0 2)]=some (.agg [.p (.int .i64 13),.p (.int .i64 0),.p (.int .u64 0),.p (.str (bs [])),.sl 0 2]):=rfl
theorem anv{s:ByteArray}{l:List (List PV)}:kB [.p (.str (bs [])),.aF,.p (.int .i64 0),.p (.int .i64 0),.p (.int .u64 0),.p (.str (bs [])),.aF,.aF] [(0,1,.p (.str s)),(1,1,.p (.aW l)),(2,5,.agg [.p (.int .i64 13),.p (.int .i64 0),.p (.int .u64 0),.p (.str (bs [])),.sl 0 2])]=some (.agg [.p (.str s),.p (.aW l),.p (.int .i64 13),.p (.int .i64 0),.p (.int .u64 0),.p (.str (bs [])),.sl 0 2,.aF]):=rfl
theorem apz{s:ByteArray}{l:List (List PV)}{o:Obj}:sS [o] 8 false (cellsOf 8 true (.agg [.p (.str s),.p (.aW l),.p (.int .i64 13),.p (.int .i64 0),.p (.int .u64 0),.p (.str (bs [])),.sl 0 2,.aF]))=some (.ptr 2 1 0 0,[o,xR,.av 8 [[.p (.str s),.p (.aW l),.p (.int .i64 13),.p (.int .i64 0),.p (.int .u64 0),.p (.str (bs [])),.sl 0 2,.sl 1 0]] false]):=rfl
theorem anz{s:ByteArray}{l:List Atom}{x:Term}{o:Obj}:az [.av 5 [x.row.map .p,[.p (.int .i64 2),.p (.int .i64 0),.p (.int .u64 1),.p (.str (bs [])),.aF]] false,xR,o] 12 (.agg [.p (.str s),.p (.aW (l.map Atom.row)),.p (.int .i64 13),.p (.int .i64 0),.p (.int .u64 0),.p (.str (bs [])),.sl 0 2,.sl 1 0])=some (.agg (ed.row ⟨s,l,.mk 13 0 0 (bs []) [x,.mk 2 0 1 (bs []) []],[]⟩)):=by
 rw[ed.aY];show _=some (PV.agg [.str s,.aW (l.map Atom.row),.int .i64 13,.int .i64 0,.int .u64 0,.str (bs []),.aW [x.row,(Term.mk 2 0 1 (bs []) []).row],.aW []]);rw[Term.aY x,Term.aY (Term.mk 2 0 1 (bs []) [])];simp[az,omap,xR];exact⟨rfl,rfl,rfl,rfl,rfl⟩
theorem anA{s:ByteArray}{l:List Atom}{x:Term}{o1 o2:Obj}:az [o1,xR,o2] 12 (.agg [.p (.str s),.p (.aW (l.map Atom.row)),.p (.int .i64 x.op),.p (.int .i64 x.w),.p (.int .u64 x.v),.p (.str x.name),.p (.aW (x.args.map Term.row)),.sl 1 0])=some (.agg (ed.row ⟨s,l,x,[]⟩)):=by
 rw[ed.aY];simp[az,omap,xR]
theorem anB{s:ByteArray}{l:List (List PV)}{x:Term}{o1 o2:Obj}{q1 q2 q3 q4:PV}{c5:AV}:stF [o1,o2,.av 8 [[.p (.str s),.p (.aW l),.p q1,.p q2,.p q3,.p q4,c5,.sl 1 0]] false] 2 8 (b9 2 (x.row.map .p) [.p (.str s),.p (.aW l),.p q1,.p q2,.p q3,.p q4,c5,.sl 1 0])=some [o1,o2,.av 8 [[.p (.str s),.p (.aW l),.p (.int .i64 x.op),.p (.int .i64 x.w),.p (.int .u64 x.v),.p (.str x.name),.p (.aW (x.args.map Term.row)),.sl 1 0]] false]:=by
 rw[Term.aY];rfl
theorem anw{c0 c1 c2 c3 c4 c5:PV}{a b c d:Nat}:ofC true (part 0 8 [.p c0,.p c1,.p c2,.p c3,.p c4,.p c5,.sl a b,.sl c d])=some (.agg [.p c0,.p c1,.p c2,.p c3,.p c4,.p c5,.sl a b,.sl c d]):=rfl
theorem anx{c0 c1 c2 c3 c4 c5 c6:PV}{c d:Nat}:ofC true (part 0 8 [.p c0,.p c1,.p c2,.p c3,.p c4,.p c5,.p c6,.sl c d])=some (.agg [.p c0,.p c1,.p c2,.p c3,.p c4,.p c5,.p c6,.sl c d]):=rfl
theorem apk{b:Bool}{n m:Int}:(PV.jO [.bool b,.int .i64 n,.int .i64 m]).flat=true:=by simp[PV.flat]
theorem QT:iM hA:=Cg ⟨by decide,by decide⟩ ⟨by decide,by decide⟩ ⟨by decide,by decide⟩ (by decide)
theorem aiY:AT rX1:=by
 have h2:iM (Term.mk 2 0 1 (bs []) []):=Cg ⟨by decide,by decide⟩ ⟨by decide,by decide⟩ ⟨by decide,by decide⟩ (by decide)
 have hl:iM pL:=yD ⟨by decide,by decide⟩ ⟨by decide,by decide⟩ (by simp) (by intro t ht;simp at ht;rw[ht];exact QT)
 have hr:iM pR:=yD ⟨by decide,by decide⟩ ⟨by decide,by decide⟩ (by simp) (by intro t ht;simp at ht;rcases ht with rfl|rfl;exact QT;exact h2)
 refine⟨⟨by decide,?_,⟨hr,by decide +kernel⟩,by decide,by simp[rX1]⟩,by decide,by decide,?_,.inl rfl⟩
 ·intro a ha
  simp[rX1]at ha;rw[ha];exact⟨hl,by decide +kernel⟩
 ·intro a ha
  simp[rX1]at ha;rw[ha];decide
theorem adD:AT rX2:=by
 have hl:iM pL:=yD ⟨by decide,by decide⟩ ⟨by decide,by decide⟩ (by simp) (by intro t ht;simp at ht;rw[ht];exact QT)
 refine⟨⟨by decide,?_,⟨QT,by decide +kernel⟩,by decide,by simp[rX2]⟩,by decide,by decide,?_,.inl rfl⟩
 ·intro a ha
  simp[rX2]at ha;rw[ha];exact⟨hl,by decide +kernel⟩
 ·intro a ha
  simp[rX2]at ha;rw[ha];decide
theorem NG:R P jE []=some (.bool true):=by
 have hh:=QG (bs [97]) 0;have k1:=zn rX1 3 ⟨by decide,by decide⟩ aiY (fun hg v x h1 h8 hx=>adE aiY hg v x h1 h8 hx)
 have k2:=zn rX2 3 ⟨by decide,by decide⟩ adD (fun hg v x h1 h8 hx=>adE adD hg v x h1 h8 hx)
 have k3:=pA rX2 adD.ok;rw[apV]at k1;rw[apW]at k2;rw[am9]at k3;have p1:=fun(o:Obj)=>anz (s:=bs [100,111,117,98,108,101]) (l:=[⟨bs [],pL⟩]) (x:=hA) (o:=o)
 have p2:=fun(o1 o2:Obj)=>anA (s:=bs [100,111,117,98,108,101]) (l:=[⟨bs [],pL⟩]) (x:=hA) (o1:=o1) (o2:=o2)
 have e1:(⟨bs [100,111,117,98,108,101],[⟨bs [],pL⟩],.mk 13 0 0 (bs []) [hA,.mk 2 0 1 (bs []) []],[]⟩:ed)=rX1:=rfl;have e2:(⟨bs [100,111,117,98,108,101],[⟨bs [],pL⟩],hA,[]⟩:ed)=rX2:=rfl;have e3:Term.mk 24 0 0 (bs [97]) []=hA:=rfl;have e4:Term.mk 8 0 0 (bs []) [hA,hA]=pL:=rfl;rw[e1]at p1;rw[e2]at p2;rw[e3]at hh;simp only[ue,CU]at p1 p2
 (rw[Nu (aO rfl),qf];simp(disch:=omega)only[aG,↓aa,seval,-List.reduceReplicate,reduceCtorEq,af,Qn,hh,r6,anp,e4,anq,anr,ans,ant,anu,anv,apz,anB,p1,p2,GO,k1,k2,cO,k3,apk,anw,anx])
 done
structure TyR (r:ed):Prop where
 lt:∀a∈r.left,iM a.pat∧a.root.size≤9223372036854775807
 rt:iM r.right
 gt:∀g∈r.guards,iM g.a∧iM g.b
theorem Un{r:ed}(h:TyR r):∀t∈oj r,iM t:=by
 intro t ht;unfold oj po at ht;rcases Gb.1 ht with ht|ht
 ·rcases Gb.1 ht with ht|ht
  ·rcases Gb.1 ht with ht|ht
   ·obtain⟨a,ha,rfl⟩:=CV.1 ht
    exact(h.lt a ha).1
   ·rw[Uz.1 ht];exact h.rt
  ·obtain⟨g,hg,ht⟩:=Mz.1 ht
   have:=h.gt g hg;unfold AN at ht;split at ht<;>simp at ht
   ·rw[ht];exact this.1
   ·rcases ht with rfl|rfl
    ·exact this.1
    ·exact this.2
 ·obtain⟨g,hg,rfl⟩:=CV.1 ht
  exact(h.gt g hg).2
theorem Zz{r:ed}(h:TyR r)(hl:GH r=true):AT r:=by
 unfold GH at hl;simp only[yE,decide_eq_true_eq,AS,GG]at hl;obtain⟨⟨h1,h2⟩,h3⟩:=hl;have h3:∀t∈oj r,t.count≤40:=fun t ht=>(h3 t ht).2
 have m1:∀a∈r.left,a.pat∈oj r:=fun a ha=>by
  unfold oj po;exact F9 _ (F9 _ (F9 _ (CV.2 ⟨a,ha,rfl⟩)))
 have m2:r.right∈oj r:=by
  unfold oj po;exact F9 _ (F9 _ (Xq _ (Uz.2 rfl)))
 have m3:∀g∈r.guards,g.a∈oj r∧g.b∈oj r:=fun g hg=>by
  unfold oj po;refine⟨F9 _ (Xq _ (Mz.2 ⟨g,hg,?_⟩)),Xq _ (CV.2 ⟨g,hg,rfl⟩)⟩;unfold AN;split<;>simp
 refine⟨⟨by omega,fun a ha=>⟨(h.lt a ha).1,?_⟩,⟨h.rt,?_⟩,by omega,fun g hg=>⟨(h.gt g hg).1,(h.gt g hg).2,?_,?_⟩⟩,by omega,by omega,fun a ha=>(h.lt a ha).2,.inr Q3⟩
 ·have:=h3 _ (m1 a ha);omega
 ·have:=h3 _ m2;omega
 ·have:=h3 _ (m3 g hg).1;omega
 ·have:=h3 _ (m3 g hg).2;omega
theorem YO{r:ed}(h:AT r):Term.counts (fj r.left)≤500000:=by
 have h1:=D2 h.ok;have h2:=Cq AG 2 r.left fun a _=>CA a
 have h3:=h.ll;have h4:(fj r.left).length≤80:=by unfold fj;omega
 have key:∀l:List Term,(∀t∈l,t.count≤400)→Term.counts l≤400*l.length:=by
  intro l
  induction l with
  |nil=>intro _;rw[qO];omega
  |cons a l ih=>
   intro h;rw[uR,oi];have:=h a (by simp)
   have:=ih fun t ht=>h t (by simp[ht])
   omega
 have:=key _ h1;omega
theorem Zx{r:ed}(hc:Term.counts (fj r.left)≤500000):(ny r).length≤1000000∧(sk r).length≤1000000:=by
 have h1:=pC 24 (fj r.left);have h2:=pC 25 (fj r.left);unfold ny sk;omega
theorem Ta(r:ed)(h:TyR r)(s:ed)(h':TyR s):R P iN [.agg r.row,.agg s.row]=some (.bool true):=by
 have kl:=H7 r (Un h);have kl':=H7 s (Un h');have hv:=NG;cases hL:GH r with
 |false=>
  rw[hL]at kl
  (rw[sz (aO rfl),fK];simp(disch:=omega)only[aG,↓aa,seval,-List.reduceReplicate,reduceCtorEq,af,bX,bn,B0,kl,yy,hv])
 |true=>
  rw[hL]at kl;cases hL':GH s with
  |false=>
   rw[hL']at kl'
   (rw[sz (aO rfl),fK];simp(disch:=omega)only[aG,↓aa,seval,-List.reduceReplicate,reduceCtorEq,af,bX,bn,B0,kl,kl',yy,hv])
  |true=>
   rw[hL']at kl';have hf:=Zz h hL;have hll:=hf.ll;have hc:=YO hf;have n0:=T1 r (by omega) hc
   have n1:=Ad r (by omega) hc
   have n2:=Ce r (by omega) hc
   have g1:=pA r hf.ok;have g2:=NK r hf.ok;have m1:=NL r;have m2:=QJ r;have a1:=T2 r s hf.ok;have a2:=WY r s hf.ok;have hlen:=Zx hc;have v1:=Cd (ny r) hlen.1;have v2:=Cd (sk r) hlen.2
   (rw[sz (aO rfl),fK];simp(disch:=omega)only[aG,↓aa,seval,-List.reduceReplicate,reduceCtorEq,af,bX,bn,B0,kl,kl',Tr,n0,cO,g1,No,g2,Np,m1,Qo,m2,Ts,a1,Wu,a2,sr,n1,u0,n2,LA,v1,v2,beq_self_eq_true,yy,hv])
theorem rA.flat{α β:Type}{wd:Int}(f:α→List Term)(g:β→List Term):∀{l:List α} {m:List β},l.length=m.length→(∀(i:Nat) (a:α) (b:β),l[i]?=some a→m[i]?=some b→rA wd (f a) (g b))→rA wd (l.flatMap f) (m.flatMap g)
 | [],[],_,_=>trivial
 |a::l,b::m,hl,h=>by
  simp only[abG];exact(h 0 a b rfl rfl).append (rA.flat f g (by simpa using hl) fun i x y hx hy=>h (i+1) x y (by simpa using hx) (by simpa using hy))
theorem rA.one{wd:Int}:∀{l m:List Term},rA wd l m→rA wd (l.flatMap akC) (m.flatMap akC)
 | [],[],_=>trivial
 |a::l,b::m,h=>by
  simp only[abG];refine rA.append ?_ (rA.one h.2);unfold akC;rw[Ow h.1];split
  ·exact⟨h.1,trivial⟩
  ·trivial
end Go.AE.S
