import Derived.Test.YtpccheodgonkkaaGreatF1
import Derived.Test.YtpccheodgonkkaaGreatB0
import Derived.Test.YtpccheodgonkkaaGreatE1
set_option maxHeartbeats 0
set_option linter.unusedSimpArgs false
set_option linter.unusedVariables false
namespace Go.AE.S
open Go Go.AE
variable {τ:Tm} {σ:ag} {rd:Option Nat}
def rC(g:Gd):Term:=XB g.kind g.a g.b
def HA(a:Atom):List Term:=if a.root=bs []then[]else[.mk 16 1 0 (bs []) [(uG a).kX,a.pat.kX]]
def FL(r:dR):List Term:=r.left.flatMap HA++r.guards.map fun g=>(rC g).kX
theorem OB(a:Atom):(HA a).length≤1:=by unfold HA;split<;>simp
theorem ZS{o w:Int}{x y:Term}:k8 [.p (.int .i64 0),.p (.int .i64 0),.p (.int .u64 0),.p (.str (bs [])),.aC] [(0,1,.p (.int .i64 o)),(1,1,.p (.int .i64 w)),(4,1,.p (.aM [x.row,y.row]))]=some (.p (.agg (Term.mk o w 0 (bs []) [x,y]).row)):=by
 rw[Term.aR (Term.mk o w 0 (bs []) [x,y])];rfl
theorem Zl{r:dR}(h:iS r){a:Atom}(ha:a∈r.left)(hn:a.root.size≤9223372036854775807):ia (uG a) :=
 EO ⟨by decide,by decide⟩ (h.lt a ha).1.w ⟨by decide,by decide⟩ hn
abbrev ZA(s:List Term):ag:=[Ag,.av 5 [z5 0] false,Ag,.av 5 [z5 2] false,.pv (lK 5 s) (s.map Term.row) false]
abbrev Sw(r:dR)(s:List Term)(i:Int):List (Nat×AV):=[(1,.p (.ptr r.row 0)),(3,.ptr 1 1 0 0),(4,.ptr 3 1 0 0),(5,.sl 4 s.length),(11,.p (.aM (r.left.map Atom.row))),(12,.p (.int .i64 r.left.length)),(13,.p (.int .i64 i))]
abbrev W5(r:dR)(s:List Term)(i:Int):List (Nat×AV):=[(1,.p (.ptr r.row 0)),(3,.ptr 1 1 0 0),(4,.ptr 3 1 0 0),(5,.sl 4 s.length),(33,.p (.aM (r.guards.map Gd.row))),(34,.p (.int .i64 r.guards.length)),(35,.p (.int .i64 i))]
theorem aoK{s:List Term}{t:Term}(hs:s.length≤1000000):zU (ZA s) 5 64 (.sl 4 s.length) (some (.inl [t.row]))=some (.sl 4 (s.length+1),ZA (s++[t])):=by
 rw[dA (σ:=ZA s) (b:=4) (n:=s.length) (e:=lK 5 s) (es:=5) (bytes:=64) (rows:=s.map Term.row) (new:=[t.row]) rfl (by simp) (qO _ _ _) (by simp only[lH,l5];omega)]
 simp only[ZA,jd,BY,sP,Cb];rfl
theorem XH(r:dR)(h:iS r)(hn:∀a∈r.left,a.root.size≤9223372036854775807):al P vg (Sw r [] 0) (ZA []) 65 none=back P [1,3,4,5,11,12,13] ik 5 (exec P ik ⟨tm (Sw r (r.left.flatMap HA) r.left.length),ZA (r.left.flatMap HA),65,none⟩):=by
 have hll:=h.ll
 obtain⟨_,hL⟩:=ic (P:=P) (nt:=65) (lv:=[1,3,4,5,11,12,13]) (b:=ik) (rd:=none) (as:=r.left) (fun i (s:List Term)=>Sw r s i) ZA (fun _ s a=>s++HA a) (fun i s=>s.length≤i)
  (fun i a s ha hi hs=>by
   have hm:=mi ha;have hat:=h.lt a hm;have h2:=OB a;refine⟨by rw[jE];omega,?_⟩
   have hlt:((i:Int)<r.left.length)=True:=by simpa using hi
   have hx:=fun σ=>aJ (k:=.i64) (es:=6) (σ:=σ) (ax (f:=Atom.row) ha) a.aB
   have hr:=LG a;have hcr:(uG a).count≤1000000:=by show Term.count (.mk 24 a.pat.w 0 a.root [])≤_;rw[Term.count_eq];show 1+Term.counts []≤_;decide
   have v1:=jJ (uG a) (Zl h hm (hn a hm)) hcr;have v2:=jJ a.pat hat.1 (by omega)
   have a1:=fun t:Term=>aoK (s:=s) (t:=t) (by omega)
   unfold HA;rcases dB (a.root=bs [])with h1|h1
   ·rw[if_pos (of_eq_true h1),Zy]
    simp only[ik];simp(disch:=omega)only[aA,↓aa,seval,-List.reduceReplicate,reduceCtorEq,ae,hlt,aO,hx,iu,eL,jl,h1,Sw]
    try rfl
   ·rw[if_neg (of_eq_false h1)]
    simp only[ZA,z5]at a1;simp only[ik];simp(disch:=omega)only[aA,↓aa,seval,-List.reduceReplicate,reduceCtorEq,ae,hlt,aO,hx,iu,eL,jl,pf,h1,Lq,hr,jI,v1,v2,uf,ZS,kT,u0,ZA,z5,a1,jE,Sw]
    try rfl) (fun i s=>rfl) [] (by simp) _ (s7 HA r.left 0 [])
 exact hL
theorem XJ(r:dR)(h:iS r)(ht:∀g∈r.guards,ia (rC g)∧(rC g).count≤1000000)(hG:∀g∈r.guards,∀σ,lJ P gh [.p (.agg g.row)] σ=some (.p (.agg (rC g).row),σ))(s0:List Term)(h0:s0.length≤100000):al P vi (W5 r s0 0) (ZA s0) 65 none=back P [1,3,4,5,33,34,35] km 5 (exec P km ⟨tm (W5 r (s0++r.guards.map fun g=>(rC g).kX) r.guards.length),ZA (s0++r.guards.map fun g=>(rC g).kX),65,none⟩):=by
 have hgl:=h.gl
 obtain⟨_,hL⟩:=ic (P:=P) (nt:=65) (lv:=[1,3,4,5,33,34,35]) (b:=km) (rd:=none) (as:=r.guards) (fun i (s:List Term)=>W5 r s i) ZA (fun _ s g=>s++[(rC g).kX]) (fun i s=>s.length≤s0.length+i)
  (fun i g s ha hi hs=>by
   have hm:=mi ha;refine⟨by rw[jE];simp only[lH,l5];omega,?_⟩
   have hlt:((i:Int)<r.guards.length)=True:=by simpa using hi
   have hx:=fun σ=>aJ (k:=.i64) (es:=11) (σ:=σ) (ax (f:=Gd.row) ha) g.aB
   have hg:=hG g hm;have v1:=jJ (rC g) (ht g hm).1 (ht g hm).2;have a1:=fun t:Term=>aoK (s:=s) (t:=t) (by omega)
   simp only[ZA,z5]at a1;simp only[km];simp(disch:=omega)only[aA,↓aa,seval,-List.reduceReplicate,reduceCtorEq,ae,hlt,aO,hx,bF,aP,hg,jI,v1,kT,u0,ZA,z5,a1,jE,W5]
   try rfl) (fun i s=>rfl) s0 (by omega) _ (Bp (fun g:Gd=>(rC g).kX) r.guards 0 s0)
 exact hL
theorem asz{σ:ag}:vl 5 (aW [.p (.int .i64 0),.p (.int .i64 0),.p (.int .u64 0),.p (.str (bs [])),.aC] σ)=some (.ptr (σ.length+1) 1 0 0,σ++[Ag,.av 5 [[.p (.int .i64 0),.p (.int .i64 0),.p (.int .u64 0),.p (.str (bs [])),.sl σ.length 0]] false]):=by
 simp[vl,aW,mkObj,ae]
theorem MF(r:dR)(h:iS r)(hne:r.left≠[])(hn:∀a∈r.left,a.root.size≤9223372036854775807)(ht:∀g∈r.guards,ia (rC g)∧(rC g).count≤1000000)(hG:∀g∈r.guards,∀σ,lJ P gh [.p (.agg g.row)] σ=some (.p (.agg (rC g).row),σ)):R P js [.agg r.row]=some (.jC [.aM ((FL r).map Term.row),.agg (KA r).kX.row,.agg r.right.kX.row]):=by
 have hll:=h.ll;have h0:=XH r h hn;have hfl:=Cl HA 1 r.left fun a _=>OB a
 have h1:=XJ r h ht hG (r.left.flatMap HA) (by omega)
 have hrc:=h.rt.2;have v2:=jJ r.right h.rt.1 (by omega)
 unfold KA;cases hl:r.left with
 |nil=>exact absurd hl hne
 |cons a l=>
 have hat:=h.lt a (by rw[hl];simp)
 have v1:=jJ a.pat hat.1 (by omega)
 have u1:=xt r;have hx:∀σ,jS σ 6 (.p (.aM (a.row::l.map Atom.row))) (.p (.int .i64 0))=some (.p (.ptr a.row 0)):=fun σ=>aJ (k:=.i64) (es:=6) (σ:=σ) (ax (f:=Atom.row) (l:=a::l) (i:=0) (a:=a) rfl) a.aB
 have hlen:((((a::l).length:Nat):Int)=0)=False:=by simp;omega
 have e:FL r=r.left.flatMap HA++r.guards.map fun g=>(rC g).kX:=rfl
 rw[e];rw[hl]at h0 h1 u1 ⊢;generalize (a::l).flatMap HA=H at *;generalize (r.guards.map fun g=>(rC g).kX)=G at *
 rw[sP]at u1;simp only[Sw,ZA,z5,hl,Cb,l5,Ho,sP]at h0;simp only[W5,ZA,z5,hl,Cb,l5,Ho]at h1;simp only[lH]at h0 hlen
 (rw[My (aD rfl),oC];simp(disch:=omega)only[aA,↓aa,seval,-List.reduceReplicate,reduceCtorEq,ae,bQ,aZ,u1,Fj,RX,asz,lH,l5,tn,x9,FD,aO,JU,h0,ik,kY,JW,h1,km,hlen,hx,pf,jI,v1,v2,z5])
def HGT:Prop:=∀g:Gd,ia g.a→ia g.b→g.a.count≤400→g.b.count≤400→∀σ,lJ P gh [.p (.agg g.row)] σ=some (.p (.agg (rC g).row),σ)
structure Fm (r:dR):Prop where
 ok:iS r
 ll:r.left.length≤40
 gl:r.guards.length≤40
 rn:∀a∈r.left,a.root.size≤9223372036854775807
 hG:r.guards=[]∨HGT
theorem A2{o w:Int}{l:List Term}(ho : -9223372036854775808≤o∧o≤9223372036854775807)(hw : -9223372036854775808≤w∧w≤9223372036854775807)(hl:l.length≤10)(ht:∀t∈l,ia t):ia (.mk o w 0 (bs []) l) :=
 .mk _ ho hw (show G0 0 from⟨by decide,by decide⟩) (by show(bs []).size≤_;decide) (by show l.length≤_;omega) ht
theorem count_mk{o w v:Int}{n:ByteArray}{l:List Term}:(Term.mk o w v n l).count=1+Term.counts l:=by rw[Term.count_eq];rfl
theorem vw:Term.counts []=0:=by rw[Term.counts]
theorem z6{a:Term}{l:List Term}:Term.counts (a::l)=a.count+Term.counts l:=by rw[Term.counts]
theorem ah6{k:Int}{a b:Term}(ha:ia a)(hb:ia b)(ca:a.count≤400)(cb:b.count≤400):ia (XB k a b)∧(XB k a b).count≤2000:=by
 have hab:∀t∈[a,b],ia t:=by intro t ht;simp at ht;rcases ht with rfl|rfl<;>assumption
 unfold XB;split
 ·exact⟨ha,by omega⟩
 split
 ·refine⟨A2 ⟨by decide,by decide⟩ ⟨by decide,by decide⟩ (by simp) hab,?_⟩
  simp only[count_mk,z6,vw];omega
 split
 ·refine⟨A2 ⟨by decide,by decide⟩ ⟨by decide,by decide⟩ (by simp) ?_,?_⟩
  ·intro t ht
   simp at ht;rcases ht with rfl|rfl
   ·exact A2 ⟨by decide,by decide⟩ ha.w (by simp) hab
   ·exact A2 ⟨by decide,by decide⟩ ha.w (by simp) (by simp)
  ·simp only[count_mk,z6,vw];omega
 split
 ·refine⟨A2 ⟨by decide,by decide⟩ ⟨by decide,by decide⟩ (by simp) hab,?_⟩
  simp only[count_mk,z6,vw];omega
 ·refine⟨A2 ⟨by decide,by decide⟩ ⟨by decide,by decide⟩ (by simp) (by simp),?_⟩
  simp only[count_mk,vw];omega
theorem Oi{r:dR}(h:Fm r):∀g∈r.guards,ia (rC g)∧(rC g).count≤2000:=fun g hg=>by
 have:=h.ok.gt g hg;exact ah6 this.1 this.2.1 this.2.2.1 this.2.2.2
theorem apT{r:dR}(h:Fm r):∀g∈r.guards,∀σ,lJ P gh [.p (.agg g.row)] σ=some (.p (.agg (rC g).row),σ):=by
 rcases h.hG with h0|h0
 ·rw[h0];simp
 ·intro g hg
  have:=h.ok.gt g hg;exact h0 g this.1 this.2.1 this.2.2.1 this.2.2.2
theorem aiU{a:Atom}:(uG a).count=1:=by show Term.count (.mk 24 a.pat.w 0 a.root [])=1;rw[count_mk,vw]
theorem amM{r:dR}(h:Fm r)(hne:r.left≠[]):∀t∈E3 (FL r) (KA r).kX r.right.kX,ia t∧t.count≤10000:=by
 intro t ht;unfold E3 FL at ht;rcases BZ.1 ht with ht|ht
 ·rcases BZ.1 ht with ht|ht
  ·obtain⟨a,ha,ht⟩:=Jp.1 ht
   have hat:=h.ok.lt a ha;unfold HA at ht;split at ht
   ·simp at ht
   ·rw[Gg.1 ht]
    refine⟨A2 ⟨by decide,by decide⟩ ⟨by decide,by decide⟩ (by simp) ?_,?_⟩
    ·intro u hu
     simp at hu;rcases hu with rfl|rfl
     ·exact Jf _ (Zl h.ok ha (h.rn a ha))
     ·exact Jf _ hat.1
    ·have h1:=BV (uG a)
     have h2:=BV a.pat;rw[aiU]at h1;simp only[count_mk,z6,vw];omega
  ·obtain⟨g,hg,rfl⟩:=E0.1 ht
   have h1:=Oi h g hg;have h2:=BV (rC g);exact⟨Jf _ h1.1,by omega⟩
 ·simp only[pn,ab0,or_false]at ht
  rcases ht with rfl|rfl
  ·unfold KA
   cases hl:r.left with
   |nil=>exact absurd hl hne
   |cons a l=>
    have hat:=h.ok.lt a (by rw[hl];simp)
    have h2:=BV a.pat;exact⟨Jf _ hat.1,by show a.pat.kX.count≤10000;omega⟩
  ·have h2:=BV r.right
   have:=h.ok.rt.2;exact⟨Jf _ h.ok.rt.1,by omega⟩
theorem ajy{r:dR}(h:Fm r):(FL r).length≤90:=by
 have h1:=Cl HA 1 r.left fun a _=>OB a
 have h2:=h.ll;have h3:=h.gl;unfold FL;rw[jE,aO];omega
def ahZ(r:dR):Int:=if ¬CF r=0 then CF r else if JO r=true then 3 else RY (FL r) (KA r).kX r.right.kX
def alj(r:dR):Bool:=if ¬CF r=0 then false else if JO r=true then false else aeH (FL r) (KA r).kX r.right.kX
def auy(r:dR):List Bd:=if ¬CF r=0 then[]else if JO r=true then[]else aeG (FL r) (KA r).kX r.right.kX
theorem I4(r:dR)(h:Fm r):R P oh [.agg r.row]=some (.jC [.bool (alj r),.aM ((auy r).map V8),.int .i64 (ahZ r)]):=by
 have hll:=h.ll;have k1:=CI r h.ok (by omega)
 have k2:=qw r h.ok;unfold alj auy ahZ;rcases dB (CF r=0)with c1|c1
 rotate_left
 ·have c1':=of_eq_false c1
  simp only[c1',not_false_eq_true,if_true]
  (rw[CA (aD rfl),nV];simp(disch:=omega)only[aA,↓aa,seval,-List.reduceReplicate,reduceCtorEq,ae,bQ,aZ,jU,k1,c1])
 have c1':=of_eq_true c1;rw[c1']at k1;simp only[c1',not_true,if_false];cases c2:JO r with
 |true=>
  rw[c2]at k2;simp only[if_true]
  (rw[CA (aD rfl),nV];simp(disch:=omega)only[aA,↓aa,seval,-List.reduceReplicate,reduceCtorEq,ae,bQ,aZ,jU,k1,cU,k2])
 |false=>
  rw[c2]at k2;simp only[kS,if_false];have hne:=(afg ((IW r).1 c1')).1;have ke:=MF r h.ok hne h.rn (fun g hg=>⟨(Oi h g hg).1,by have:=(Oi h g hg).2;omega⟩) (apT h)
  have kv:=MC (FL r) (KA r).kX r.right.kX (amM h hne) (ajy h)
  (rw[CA (aD rfl),nV];simp(disch:=omega)only[aA,↓aa,seval,-List.reduceReplicate,reduceCtorEq,ae,bQ,aZ,jU,k1,cU,k2,Mr,ke,Mq,kv])
def upX(r:dR)(v:Int):Option dR:=if JO r=true then atR v r else some r
def upF(r:dR)(v:Int):Unit ⊕ (Int×Int):=match upX r v with
 |none=>.inr (v,3)
 |some x=>if ¬ahZ x=0 then .inr (v,ahZ x)else if alj x=false then .inr (v,0)else .inl ()
def afq(r:dR)(w:Int):Int:=if JO r=true then min (max w 1) 8 else 1
def ah8(r:dR)(w:Int):List PV :=
 if ¬CF r=0 then[.bool false,.int .i64 1,.int .i64 (CF r)]
 else match aq (S:=Unit) (T:=Int×Int) (fun _ _ v=>upF r v) 0 () ((List.range (afq r w).toNat).map fun k:Nat=>(k:Int)+1)with
  |.inl _=>[.bool true,.int .i64 0,.int .i64 0]
  |.inr (v,e)=>[.bool false,.int .i64 v,.int .i64 e]
theorem aoW{vs:List AV}{a:Obj}:gc 0 vs [a]=if Cm 0 vs [a]=true then[]else[a]:=by unfold gc;rw[if_neg (by simp)];rfl
theorem OF{σ:ag}(r:dR):uW σ 8 false (cellsOf 8 true (.p (.agg r.row)))=some (.ptr σ.length 1 0 0,σ++[.pv 8 [r.row] false]):=by
 rw[dR.aR];rfl
theorem To(r x:dR):eM [.pv 8 [r.row] false] 8 (.ptr 0 1 0 0) (.p (.agg x.row))=some [.pv 8 [x.row] false]:=by
 rw[dR.aR r,dR.aR x];rfl
theorem SR(r:dR):Mm 1 0 0 8 true (some (.pv 8 [r.row] false))=some (.p (.agg r.row)):=by rw[dR.aR];rfl
abbrev JG(r:dR)(n i:Int):List (Nat×AV):=[(2,.p (.ptr r.row 0)),(8,.p (.int .i64 n)),(9,.p (.int .i64 (i+1)))]
def Ia(x:Int×Int)(q:Ex×St):Prop:=q.1=.ret∧q.2.τ.get 4=.p (.bool false)∧q.2.τ.get 5=.p (.int .i64 x.1)∧q.2.τ.get 6=.p (.int .i64 x.2)
theorem ad8{n i:Nat}{a:Int}(h:((List.range n).map fun k:Nat=>(k:Int)+1)[i]?=some a):a=(i:Int)+1∧i<n:=by
 rw[zA,gI]at h;obtain⟨k,hk,rfl⟩:=h;obtain⟨h1,h2⟩:=fU.1 hk;rw[abU]at h1;rw[List.getElem_range]at h2;exact⟨by omega,h1⟩
theorem SF{r:dR}(h:GX r):∀g∈r.guards,1≤g.kind∧g.kind≤4:=by
 have hg:=h.gd;generalize dU r=hs at hg;generalize ja r=ns at hg
 have key:∀l:List Gd,xj hs ns l=0→∀g∈l,Dg g hs ns=0:=by
  intro l
  induction l with
  |nil=>simp
  |cons b l ih=>
   intro h g hm;unfold xj at h;split at h
   ·rename_i h0
    rcases pn.1 hm with rfl|hm
    ·exact h0
    ·exact ih h g hm
   ·rename_i h0;exact absurd h h0
 intro g hm;have:=key _ hg g hm;unfold Dg at this;split at this
 ·cases this
 ·rename_i hf
  exact ac9 (by simpa using hf)
theorem KL(r:dR)(n:Nat)(hn:n≤8)(h:Fm r)(hg:GX r)(hF:∀v x,1≤v→v≤8→upX r v=some x→Fm x):nC (fun _:Unit=>True∧al P eU (JG r n 0) [] 60 none=back P [2,8,9] cC 0 (exec P cC ⟨tm (JG r n n),[],60,none⟩)) (fun x:Int×Int=>∃q,al P eU (JG r n 0) [] 60 none=some q∧Ia x q) (aq (fun _ _ v=>upF r v) 0 () ((List.range n).map fun k:Nat=>(k:Int)+1)):=by
 have hlen:((List.range n).map fun k:Nat=>(k:Int)+1).length=n:=by simp
 have k2:=qw r h.ok
 have hL:=cE (P:=P) (nt:=60) (lv:=[2,8,9]) (b:=cC) (rd:=none) (as:=(List.range n).map fun k:Nat=>(k:Int)+1) (fun i (_:Unit)=>JG r n i) (fun _=>[]) (fun _ _ v=>upF r v) Ia (fun _ _=>True)
  (fun i v s ha hi _=>by
   refine⟨fun _ _=>trivial,?_⟩
   obtain⟨hv,hi'⟩:=ad8 ha;have hle:(((i:Int)+1)≤n)=True:=by simp;omega
   have hw:IntKind.i64.wrap ((i:Int)+1+1)=(i:Int)+1+1:=IntWalk.i64_in _ (by omega)
   have ka:=Tk r ((i:Int)+1) ⟨by omega,by omega⟩ h.ok (SF hg)
   unfold agf at ka;rw[if_pos ⟨by omega,by omega⟩]at ka
   rw[hv];unfold upF;have hFx:=hF ((i:Int)+1);unfold upX at hFx ⊢;cases c2:JO r with
   |true=>
    rw[c2]at k2 hFx;simp only[if_true]at hFx ⊢;cases hx:atR ((i:Int)+1) r with
    |none=>
     rw[hx]at ka;simp only[Ju]at ka;simp only[cC];simp(disch:=omega)only[aA,↓aa,seval,-List.reduceReplicate,reduceCtorEq,ae,hle,bQ,aZ,OF,cU,k2,vP,ka,JG,Ia]
    |some x=>
     rw[hx]at ka;simp only[Ju]at ka;have ks:=I4 x (hFx x (by omega) (by omega) hx)
     simp only
     rcases dB (ahZ x=0)with c3|c3
     rotate_left
     ·rw[if_pos (of_eq_false c3)]
      simp only[cC];simp(disch:=omega)only[aA,↓aa,seval,-List.reduceReplicate,reduceCtorEq,ae,hle,bQ,aZ,OF,To,SR,cU,k2,vP,ka,qP,ks,c3,JG,Ia]
     ·rw[if_neg (not_not_intro (of_eq_true c3))]
      rw[of_eq_true c3]at ks;cases c4:alj x with
      |false=>
       rw[c4]at ks;simp only[if_true];simp only[cC];simp(disch:=omega)only[aA,↓aa,seval,-List.reduceReplicate,reduceCtorEq,ae,hle,bQ,aZ,OF,To,SR,cU,k2,vP,ka,qP,ks,JG,Ia]
      |true=>
       rw[c4]at ks;simp only[Nb,if_false];simp only[cC];simp(disch:=omega)only[aA,↓aa,seval,-List.reduceReplicate,reduceCtorEq,ae,hle,bQ,aZ,OF,To,SR,cU,k2,vP,ka,qP,ks,hw,aoW,JG,Ia]
       try rfl
   |false=>
    rw[c2]at k2 hFx;simp only[kS,if_false]at hFx ⊢;have ks:=I4 r h;rcases dB (ahZ r=0)with c3|c3
    rotate_left
    ·rw[if_pos (of_eq_false c3)]
     simp only[cC];simp(disch:=omega)only[aA,↓aa,seval,-List.reduceReplicate,reduceCtorEq,ae,hle,bQ,aZ,OF,To,SR,cU,k2,qP,ks,c3,JG,Ia]
    ·rw[if_neg (not_not_intro (of_eq_true c3))]
     rw[of_eq_true c3]at ks;cases c4:alj r with
     |false=>
      rw[c4]at ks;simp only[if_true];simp only[cC];simp(disch:=omega)only[aA,↓aa,seval,-List.reduceReplicate,reduceCtorEq,ae,hle,bQ,aZ,OF,To,SR,cU,k2,qP,ks,JG,Ia]
     |true=>
      rw[c4]at ks;simp only[Nb,if_false];simp only[cC];simp(disch:=omega)only[aA,↓aa,seval,-List.reduceReplicate,reduceCtorEq,ae,hle,bQ,aZ,OF,To,SR,cU,k2,qP,ks,hw,aoW,JG,Ia]
      try rfl) (fun i s=>rfl) () trivial
 rw[hlen]at hL;exact hL
theorem BS(r:dR)(w:Int)(hw : -9223372036854775808≤w∧w≤9223372036854775807)(h:Fm r)(hF:GX r→∀v x,1≤v→v≤8→upX r v=some x→Fm x):R P fH [.agg r.row,.int .i64 w]=some (.jC (ah8 r w)):=by
 have hll:=h.ll;have k1:=CI r h.ok (by omega)
 have k2:=qw r h.ok;unfold ah8;rcases dB (CF r=0)with c1|c1
 rotate_left
 ·have c1':=of_eq_false c1
  simp only[c1',not_false_eq_true,if_true]
  (rw[ni (aD rfl),eK];simp(disch:=omega)only[aA,↓aa,seval,-List.reduceReplicate,reduceCtorEq,ae,bQ,aZ,jU,k1,c1])
 have c1':=of_eq_true c1;have hg:=(IW r).1 c1';rw[c1']at k1;simp only[c1',not_true,if_false];unfold afq;cases c2:JO r with
 |true=>
  rw[c2]at k2;simp only[if_true];have hm1:1≤min (max w 1) 8:=by omega
  have hm8:min (max w 1) 8≤8:=by omega
  generalize hmm:min (max w 1) 8=m at *;obtain⟨n,rfl⟩:=Int.eq_ofNat_of_zero_le (show 0≤m by omega)
  have hL:=KL r n (by omega) h hg (hF hg)
  simp only[ack];cases hf:aq (S:=Unit) (T:=Int×Int) (fun _ _ v=>upF r v) 0 () ((List.range n).map fun k:Nat=>(k:Int)+1)with
  |inl u=>
   rw[hf]at hL;obtain⟨_,hL⟩:=hL;have h':al P eU [(2,.p (.ptr r.row 0)),(8,.p (.int .i64 n)),(9,.p (.int .i64 1))] [] 60 none=_:=hL;have Ri:((n:Int)+1≤n)=False:=by simp;omega
   (rw[ni (aD rfl),eK];simp(disch:=omega)only[aA,↓aa,seval,-List.reduceReplicate,reduceCtorEq,ae,bQ,aZ,jU,k1,cU,k2,hmm,pg,h',cC,JG,Ri])
  |inr x=>
   obtain⟨x1,x2⟩:=x;rw[hf]at hL;obtain⟨⟨e',τ',σ',nt',rd'⟩,g1,g2,g3,g4,g5⟩:=hL
   simp only at g2 g3 g4 g5
   subst g2;have h':al P eU [(2,.p (.ptr r.row 0)),(8,.p (.int .i64 n)),(9,.p (.int .i64 1))] [] 60 none=_:=g1
   (rw[ni (aD rfl),eK];simp(disch:=omega)only[aA,↓aa,seval,-List.reduceReplicate,reduceCtorEq,ae,bQ,aZ,jU,k1,cU,k2,hmm,pg,h',g3,g4,g5])
 |false=>
  rw[c2]at k2;simp only[kS,if_false];have hL:=KL r 1 (by omega) h hg (hF hg)
  have e1:(1:Int).toNat=1:=rfl;rw[e1];cases hf:aq (S:=Unit) (T:=Int×Int) (fun _ _ v=>upF r v) 0 () ((List.range 1).map fun k:Nat=>(k:Int)+1)with
  |inl u=>
   rw[hf]at hL;obtain⟨_,hL⟩:=hL;have h':al P eU [(2,.p (.ptr r.row 0)),(8,.p (.int .i64 1)),(9,.p (.int .i64 1))] [] 60 none=_:=hL
   (rw[ni (aD rfl),eK];simp(disch:=omega)only[aA,↓aa,seval,-List.reduceReplicate,reduceCtorEq,ae,bQ,aZ,jU,k1,cU,k2,pg,h',cC,JG])
  |inr x=>
   obtain⟨x1,x2⟩:=x;rw[hf]at hL;obtain⟨⟨e',τ',σ',nt',rd'⟩,g1,g2,g3,g4,g5⟩:=hL
   simp only at g2 g3 g4 g5
   subst g2;have h':al P eU [(2,.p (.ptr r.row 0)),(8,.p (.int .i64 1)),(9,.p (.int .i64 1))] [] 60 none=_:=g1
   (rw[ni (aD rfl),eK];simp(disch:=omega)only[aA,↓aa,seval,-List.reduceReplicate,reduceCtorEq,ae,bQ,aZ,jU,k1,cU,k2,pg,h',g3,g4,g5])
theorem DY{α β:Type}{f:α→Option β}:∀{l:List α} {m:List β},omap f l=some m→m.length=l.length∧∀b∈m,∃a∈l,f a=some b
 | [],m,h=>by simp only[omap,bI]at h;subst h;simp
 |a::l,m,h=>by
  simp only[omap]at h;cases ha:f a with
  |none=>rw[ha]at h;cases h
  |some b=>
   rw[ha]at h;cases hm:omap f l with
   |none=>rw[hm]at h;cases h
   |some bs=>
    rw[hm]at h;simp only[bI]at h;subst h;have ih:=DY hm;refine⟨by simp[ih.1],fun x hx=>?_⟩
    rcases pn.1 hx with rfl|hx
    ·exact⟨a,by simp,ha⟩
    ·obtain⟨y,hy,h2⟩:=ih.2 x hx
     exact⟨y,by simp[hy],h2⟩
theorem O1{α β:Type}{f:α→Option β}{a:α}{l:List α}{m:List β}(h:omap f (a::l)=some m):∃b bs,f a=some b∧omap f l=some bs∧m=b::bs:=by
 simp only[omap]at h;cases ha:f a with
 |none=>rw[ha]at h;cases h
 |some b=>
  rw[ha]at h;cases hm:omap f l with
  |none=>rw[hm]at h;cases h
  |some bs=>
   rw[hm]at h;simp only[bI]at h;exact⟨b,bs,rfl,rfl,h.symm⟩
theorem VY{w:Int}{r x:dR}(h:atR w r=some x):∃l gs,omap (ZM w) r.left=some l∧(r.right.mH w).2=true∧omap (Sd w) r.guards=some gs∧x=⟨r.name,l,(r.right.mH w).1,gs⟩:=by
 unfold atR at h;cases hl:omap (ZM w) r.left with
 |none=>rw[hl]at h;cases h
 |some l=>
  rw[hl]at h
  simp only at h
  split at h
  ·rename_i hr
   cases hg:omap (Sd w) r.guards with
   |none=>rw[hg]at h;cases h
   |some gs=>
    rw[hg]at h;simp only[bI]at h;exact⟨l,gs,rfl,hr,rfl,h.symm⟩
  ·cases h
theorem G4{w:Int}{a b:Atom}(h:ZM w a=some b):(a.pat.mH w).2=true∧b=⟨a.root,(a.pat.mH w).1⟩:=by
 unfold ZM at h;split at h
 ·rename_i h1;exact⟨h1,by simpa using h.symm⟩
 ·cases h
theorem Nn{w:Int}{g b:Gd}(h:Sd w g=some b):(g.a.mH w).2=true∧((g.kind=1∧b=⟨g.kind,(g.a.mH w).1,g.b⟩)∨(¬g.kind=1∧(g.b.mH w).2=true∧b=⟨g.kind,(g.a.mH w).1,(g.b.mH w).1⟩)):=by
 unfold Sd at h;split at h
 ·rename_i h1
  refine⟨h1,?_⟩;split at h
  ·rename_i h2;exact .inl ⟨h2,by simpa using h.symm⟩
  ·rename_i h2
   split at h
   ·rename_i h3;exact .inr ⟨h2,h3,by simpa using h.symm⟩
   ·cases h
 ·cases h
theorem TF{wd:Int}(hwd:1≤wd∧wd≤64){ev:Bool}{t:Term}(h:cB t ev=0)(hk:(t.mH wd).2=true):(t.mH wd).1.count=t.count:=by
 have ha:=aiF wd hwd ev t (j3 h) hk;rw[←Term.lX,←Term.lX];exact ha.rel.len
theorem Hz{hs ns:List V2}:∀{l:List Gd},xj hs ns l=0→∀g∈l,Dg g hs ns=0
 | [],_=>by simp
 |b::l,h=>by
  intro g hm;unfold xj at h;split at h
  ·rename_i h0
   rcases pn.1 hm with rfl|hm
   ·exact h0
   ·exact Hz h g hm
  ·rename_i h0;exact absurd h h0
theorem SG{hs ns:List V2}:∀{l:List Gd},(∀g∈l,Dg g hs ns=0)→xj hs ns l=0
 | [],_=>rfl
 |b::l,h=>by
  unfold xj;rw[if_pos (h b (by simp))]
  exact SG fun g hg=>h g (by simp[hg])
theorem DH{g:Gd}{hs ns:List V2}:Dg g hs ns=0↔DG g=true∧cB g.a false=0∧(¬g.kind=1→cB g.b false=0)∧XC g hs ns=true∧g.a.w=(if g.kind=1 then 1 else g.b.w):=by
 unfold Dg;constructor
 ·intro h
  split at h
  ·cases h
  rename_i h1;split at h
  ·rename_i h2;exact absurd h h2
  rename_i h2;split at h
  ·rename_i h3;exact absurd h h3.2
  rename_i h3;split at h
  ·cases h
  rename_i h4;by_cases h5:¬g.a.w=(if g.kind=1 then 1 else g.b.w)
  ·rw[if_pos h5]at h;cases h
  exact⟨by simpa using h1,VD.1 h2,fun hk=>abN fun hb=>h3 ⟨hk,hb⟩,by simpa using h4,VD.1 h5⟩
 ·rintro⟨h1,h2,h3,h4,h5⟩
  rw[if_neg (by rw[h1];decide),if_neg (not_not_intro h2),if_neg (fun h=>h.2 (h3 h.1)),if_neg (by rw[h4];decide),if_neg (not_not_intro h5)]
theorem ajh{r x:dR}{v:Int}(hv:1≤v∧v≤64)(h:Fm r)(hg:GX r)(hx:atR v r=some x):Fm x:=by
 obtain⟨l,gs,h1,h2,h3,rfl⟩:=VY hx;have hl:=DY h1;have hgs:=DY h3;have hv' : -9223372036854775808≤v∧v≤9223372036854775807:=⟨by omega,by omega⟩
 refine⟨⟨?_,?_,?_,?_,?_⟩,?_,?_,?_,?_⟩
 ·show l.length≤1000
  rw[hl.1];exact h.ok.ll
 ·intro b hb
  obtain⟨a,ha,hab⟩:=hl.2 b hb;obtain⟨e1,rfl⟩:=G4 hab;have hat:=h.ok.lt a ha;refine⟨Qz v hv' a.pat hat.1,?_⟩
  show(a.pat.mH v).1.count≤400
  rw[TF hv (vm (He hg.la a ha)).1 e1];exact hat.2
 ·refine⟨Qz v hv' r.right h.ok.rt.1,?_⟩
  show(r.right.mH v).1.count≤400
  rw[TF hv hg.rt h2];exact h.ok.rt.2
 ·show gs.length≤1000
  rw[hgs.1];exact h.ok.gl
 ·intro b hb
  obtain⟨g,hgm,hab⟩:=hgs.2 b hb;have Ri:=h.ok.gt g hgm;obtain⟨e0,e1,e2,e3,e4⟩:=DH.1 (Hz hg.gd g hgm);obtain⟨k1,k2⟩:=Nn hab;have ca:=TF hv e1 k1;rcases k2 with⟨k2,rfl⟩|⟨k2,k3,rfl⟩
  ·refine⟨Qz v hv' _ Ri.1,Ri.2.1,?_,Ri.2.2.2⟩
   show(g.a.mH v).1.count≤400
   rw[ca];exact Ri.2.2.1
  ·have cb:=TF hv (e2 k2) k3
   refine⟨Qz v hv' _ Ri.1,Qz v hv' _ Ri.2.1,?_,?_⟩
   ·show(g.a.mH v).1.count≤400
    rw[ca];exact Ri.2.2.1
   ·show(g.b.mH v).1.count≤400
    rw[cb];exact Ri.2.2.2
 ·show l.length≤40
  rw[hl.1];exact h.ll
 ·show gs.length≤40
  rw[hgs.1];exact h.gl
 ·intro b hb
  obtain⟨a,ha,hab⟩:=hl.2 b hb;obtain⟨e1,rfl⟩:=G4 hab;exact h.rn a ha
 ·rcases h.hG with h0|h0
  ·left
   show gs=[];rw[h0]at hgs;exact Jq.1 hgs.1
  ·exact .inr h0
theorem aji{r:dR}(h:Fm r)(hg:GX r)(v:Int)(x:dR)(h1:1≤v)(h8:v≤8)(hx:upX r v=some x):Fm x:=by
 unfold upX at hx;split at hx
 ·exact ajh ⟨h1,by omega⟩ h hg hx
 ·simp only[bI]at hx
  rw[←hx];exact h
def hA:Term:=.mk 24 0 0 (bs [97]) []
def pL:Term:=.mk 8 0 0 (bs []) [hA,hA]
def pR:Term:=.mk 13 0 0 (bs []) [hA,.mk 2 0 1 (bs []) []]
def rX1:dR:=⟨bs [100,111,117,98,108,101],[⟨bs [],pL⟩],pR,[]⟩
def rX2:dR:=⟨bs [100,111,117,98,108,101],[⟨bs [],pL⟩],hA,[]⟩
theorem avY:ah8 rX1 3=[.bool true,.int .i64 0,.int .i64 0]:=by
 have:(match aq (S:=Unit) (T:=Int×Int) (fun _ _ v=>upF rX1 v) 0 () ((List.range (afq rX1 3).toNat).map fun k:Nat=>(k:Int)+1)with|.inl _=>true|.inr _=>false)=true∧CF rX1=0:=by decide +kernel
 obtain⟨h1,h2⟩:=this;unfold ah8;rw[if_neg (not_not_intro h2)];split at h1
 ·rename_i h;rw[h]
 ·cases h1
theorem avZ:ah8 rX2 3=[.bool false,.int .i64 1,.int .i64 0]:=by
 have:(match aq (S:=Unit) (T:=Int×Int) (fun _ _ v=>upF rX2 v) 0 () ((List.range (afq rX2 3).toNat).map fun k:Nat=>(k:Int)+1)with|.inl _=>false|.inr x=>decide (x=(1,0)))=true∧CF rX2=0:=by decide +kernel
 obtain⟨h1,h2⟩:=this;unfold ah8;rw[if_neg (not_not_intro h2)];split at h1
 ·cases h1
 ·rename_i x h;rw[h]
  have:=of_decide_eq_true h1;subst this;rfl
theorem as6:JO rX2=true:=by decide +kernel
theorem LB(o:Int)(a b:Term):R P j5 [.int .i64 o,.agg a.row,.agg b.row]=some (.agg (Term.mk o 1 0 (bs []) [a,b]).row):=by
 (rw[Yr (aD rfl),wR];simp(disch:=omega)only[aA,↓aa,seval,-List.reduceReplicate,reduceCtorEq,ae,alB,Vt,uf,ZS])
theorem apE{o w:Int}:k8 [.p (.int .i64 0),.p (.int .i64 0),.p (.int .u64 0),.p (.str (bs [])),.aC] [(0,1,.p (.int .i64 o)),(1,1,.p (.int .i64 w))]=some (.agg [.p (.int .i64 o),.p (.int .i64 w),.p (.int .u64 0),.p (.str (bs [])),.aC]):=rfl
theorem Tg{σ:ag}:refs σ 11 .aC=[]:=rfl
theorem atk{t:Term}:Mm 1 0 1 1 false (some (.pv 5 [t.row] false))=some (.p (.int .i64 t.w)):=by rw[Term.aR];rfl
theorem auF{ops:List fQ}{i d1 d2 k b nt:Nat}{st:St}{τ:Tm}{σ:ag}(h1:CL (ops.drop i)=some (d1,d2,k))(h2:EP τ (ops.drop i)=true)(h3:τ.get d1=.ptr b 1 0 0)(h4:st.σ.length+k≤b)(h5:σ.all (Obj.below (b-k))=true)(h6:∀t,t≠d1→t≠d2→below (b-k) (τ.get t)=true):CK ops [(i,i+1)] st ⟨τ,σ,nt,rd⟩=true:=by
 unfold CK;simp only[h1,h2,h3,h5,beq_self_eq_true,VG,abR,ud,decide_eq_true_eq,Ca,QN,beq_iff_eq];refine⟨h4,fun t _=>?_⟩
 by_cases e1:t=d1
 ·exact .inl (.inl e1)
 ·by_cases e2:t=d2
  ·exact .inl (.inr e2)
  ·exact .inr (h6 t e1 e2)
theorem Ri:HGT:=by
 intro g ta tb ca cb;have k1:=AG g.a (by omega)
 have k2:=AG g.b (by omega)
 suffices h:R P gh [.agg g.row]=some (.agg (rC g).row) by
  intro σ;simp(disch:=omega)only[aA,↓aa,seval,-List.reduceReplicate,reduceCtorEq,ae,UX,h]
 (rw[U3 (aD rfl),tH];simp(disch:=omega)only[aA,↓aa,seval,-List.reduceReplicate,reduceCtorEq,ae,bF,aP,qZ,uR,uV,tf,k1,k2,Ay,ti,Az,jO,eR,xf,zd,Bool.or_self,kS,if_false])
 rw[if_pos];rotate_left
 ·refine auF (i:=6) (b:=3) (k:=1) rfl rfl rfl (show 2+1≤3 by decide) ?_ (fun t h1 h2=>?_)
  ·simp[Obj.below,below]
  ·simp only[dX]
   repeat' split
   all_goals try first|exact absurd (Eq.symm (by assumption)) h1|exact absurd (Eq.symm (by assumption)) h2|(simp[below];done)
   show below 2 (lk [(0,AV.p (PV.agg g.row))] t)=true;simp only[lk];split<;>simp[below]
 have t1:=LB
 have t2:∀(o:Int) (a:Term) (w:Int),R P j5 [.int .i64 o,.agg a.row,.agg [.int .i64 2,.int .i64 w,.int .u64 0,.str (bs []),.aM []]]=some (.agg (Term.mk o 1 0 (bs []) [a,.mk 2 w 0 (bs []) []]).row):=fun o a w=>by
  have:=LB o a (.mk 2 w 0 (bs []) []);rw[Term.aR (.mk 2 w 0 (bs []) [])]at this;exact this
 unfold rC XB;rcases dB (g.kind=1)with h1|h1
 ·rw[if_pos (of_eq_true h1)]
  simp(disch:=omega)only[aA,↓aa,seval,-List.reduceReplicate,reduceCtorEq,ae,qZ,h1]
 rw[if_neg (of_eq_false h1)];rcases dB (g.kind=2)with h2|h2
 ·rw[if_pos (of_eq_true h2)]
  simp(disch:=omega)only[aA,↓aa,seval,-List.reduceReplicate,reduceCtorEq,ae,qZ,h1,h2,Ev,t1]
 rw[if_neg (of_eq_false h2)];rcases dB (g.kind=3)with h3|h3
 ·rw[if_pos (of_eq_true h3)]
  simp(disch:=omega)only[aA,↓aa,seval,-List.reduceReplicate,reduceCtorEq,ae,qZ,h1,h2,h3,Ev,t1,t2,uf,ZS,apE,atk,Tg,bL,ite_self]
 rw[if_neg (of_eq_false h3)];rcases dB (g.kind=4)with h4|h4
 ·rw[if_pos (of_eq_true h4)]
  simp(disch:=omega)only[aA,↓aa,seval,-List.reduceReplicate,reduceCtorEq,ae,qZ,h1,h2,h3,h4,Ev,t1]
 rw[if_neg (of_eq_false h4)];simp(disch:=omega)only[aA,↓aa,seval,-List.reduceReplicate,reduceCtorEq,ae,qZ,h1,h2,h3,h4]
 rw[Term.aR];rfl
theorem Vi(n:ByteArray)(w:Int):R P iJ [.str n,.int .i64 w]=some (.agg (Term.mk 24 w 0 n []).row):=by
 (rw[U5 (aD rfl),tK];simp(disch:=omega)only[aA,↓aa,seval,-List.reduceReplicate,reduceCtorEq,ae])
 rw[Term.aR];rfl
theorem ato{x y:Term}:k8 [.p (.int .i64 0),.p (.int .i64 0),.p (.int .u64 0),.p (.str (bs [])),.aC] [(0,1,.p (.int .i64 8)),(4,1,.p (.aM [x.row,y.row]))]=some (.p (.agg (Term.mk 8 0 0 (bs []) [x,y]).row)):=by
 rw[Term.aR (Term.mk 8 0 0 (bs []) [x,y])];rfl
theorem atp{t:Term}:k8 [.p (.str (bs [])),.p (.int .i64 0),.p (.int .i64 0),.p (.int .u64 0),.p (.str (bs [])),.aC] [(1,5,.p (.agg t.row))]=some (.p (.agg (Atom.row ⟨bs [],t⟩))):=by
 rw[Atom.aR,Term.aR];rfl
theorem atq{a:Atom}:Du σ 6 1 (gz (List.replicate 1 [.p (.str (bs [])),.p (.int .i64 0),.p (.int .i64 0),.p (.int .u64 0),.p (.str (bs [])),.aC]).flatten [(0,6,.p (.agg a.row))])=some (.p (.aM [a.row]),σ):=by
 rw[Atom.aR];rfl
theorem atr:k8 [.p (.int .i64 0),.p (.int .i64 0),.p (.int .u64 0),.p (.str (bs [])),.aC] [(0,1,.p (.int .i64 2)),(2,1,.p (.int .u64 1))]=some (.agg [.p (.int .i64 2),.p (.int .i64 0),.p (.int .u64 1),.p (.str (bs [])),.aC]):=rfl
theorem ats{x:Term}:kU [] 5 2 (gz (List.replicate 2 [.p (.int .i64 0),.p (.int .i64 0),.p (.int .u64 0),.p (.str (bs [])),.aC]).flatten [(0,5,.p (.agg x.row)),(5,5,.agg [.p (.int .i64 2),.p (.int .i64 0),.p (.int .u64 1),.p (.str (bs [])),.aC])])=some (.sl 0 2,[.av 5 [x.row.map .p,[.p (.int .i64 2),.p (.int .i64 0),.p (.int .u64 1),.p (.str (bs [])),.aC]] false]):=by
 rw[Term.aR];rfl
theorem att:k8 [.p (.int .i64 0),.p (.int .i64 0),.p (.int .u64 0),.p (.str (bs [])),.aC] [(0,1,.p (.int .i64 13)),(4,1,.sl 0 2)]=some (.agg [.p (.int .i64 13),.p (.int .i64 0),.p (.int .u64 0),.p (.str (bs [])),.sl 0 2]):=rfl
theorem atu{s:ByteArray}{l:List (List PV)}:k8 [.p (.str (bs [])),.aC,.p (.int .i64 0),.p (.int .i64 0),.p (.int .u64 0),.p (.str (bs [])),.aC,.aC] [(0,1,.p (.str s)),(1,1,.p (.aM l)),(2,5,.agg [.p (.int .i64 13),.p (.int .i64 0),.p (.int .u64 0),.p (.str (bs [])),.sl 0 2])]=some (.agg [.p (.str s),.p (.aM l),.p (.int .i64 13),.p (.int .i64 0),.p (.int .u64 0),.p (.str (bs [])),.sl 0 2,.aC]):=rfl
theorem avG{s:ByteArray}{l:List (List PV)}{o:Obj}:uW [o] 8 false (cellsOf 8 true (.agg [.p (.str s),.p (.aM l),.p (.int .i64 13),.p (.int .i64 0),.p (.int .u64 0),.p (.str (bs [])),.sl 0 2,.aC]))=some (.ptr 2 1 0 0,[o,Ag,.av 8 [[.p (.str s),.p (.aM l),.p (.int .i64 13),.p (.int .i64 0),.p (.int .u64 0),.p (.str (bs [])),.sl 0 2,.sl 1 0]] false]):=rfl
theorem atx{s:ByteArray}{l:List Atom}{x:Term}{o:Obj}:aG [.av 5 [x.row.map .p,[.p (.int .i64 2),.p (.int .i64 0),.p (.int .u64 1),.p (.str (bs [])),.aC]] false,Ag,o] 12 (.agg [.p (.str s),.p (.aM (l.map Atom.row)),.p (.int .i64 13),.p (.int .i64 0),.p (.int .u64 0),.p (.str (bs [])),.sl 0 2,.sl 1 0])=some (.agg (dR.row ⟨s,l,.mk 13 0 0 (bs []) [x,.mk 2 0 1 (bs []) []],[]⟩)):=by
 rw[dR.aR];show _=some (PV.agg [.str s,.aM (l.map Atom.row),.int .i64 13,.int .i64 0,.int .u64 0,.str (bs []),.aM [x.row,(Term.mk 2 0 1 (bs []) []).row],.aM []]);rw[Term.aR x,Term.aR (Term.mk 2 0 1 (bs []) [])];simp[aG,omap,Ag];exact⟨rfl,rfl,rfl,rfl,rfl⟩
theorem aty{s:ByteArray}{l:List Atom}{x:Term}{o1 o2:Obj}:aG [o1,Ag,o2] 12 (.agg [.p (.str s),.p (.aM (l.map Atom.row)),.p (.int .i64 x.op),.p (.int .i64 x.w),.p (.int .u64 x.v),.p (.str x.name),.p (.aM (x.args.map Term.row)),.sl 1 0])=some (.agg (dR.row ⟨s,l,x,[]⟩)):=by
 rw[dR.aR];simp[aG,omap,Ag]
theorem atz{s:ByteArray}{l:List (List PV)}{x:Term}{o1 o2:Obj}{q1 q2 q3 q4:PV}{c5:AV}:stF [o1,o2,.av 8 [[.p (.str s),.p (.aM l),.p q1,.p q2,.p q3,.p q4,c5,.sl 1 0]] false] 2 8 (ck 2 (x.row.map .p) [.p (.str s),.p (.aM l),.p q1,.p q2,.p q3,.p q4,c5,.sl 1 0])=some [o1,o2,.av 8 [[.p (.str s),.p (.aM l),.p (.int .i64 x.op),.p (.int .i64 x.w),.p (.int .u64 x.v),.p (.str x.name),.p (.aM (x.args.map Term.row)),.sl 1 0]] false]:=by
 rw[Term.aR];rfl
theorem atv{c0 c1 c2 c3 c4 c5:PV}{a b c d:Nat}:ofC true (part 0 8 [.p c0,.p c1,.p c2,.p c3,.p c4,.p c5,.sl a b,.sl c d])=some (.agg [.p c0,.p c1,.p c2,.p c3,.p c4,.p c5,.sl a b,.sl c d]):=rfl
theorem atw{c0 c1 c2 c3 c4 c5 c6:PV}{c d:Nat}:ofC true (part 0 8 [.p c0,.p c1,.p c2,.p c3,.p c4,.p c5,.p c6,.sl c d])=some (.agg [.p c0,.p c1,.p c2,.p c3,.p c4,.p c5,.p c6,.sl c d]):=rfl
theorem avx{b:Bool}{n m:Int}:(PV.jC [.bool b,.int .i64 n,.int .i64 m]).flat=true:=by simp[PV.flat]
theorem Vu:ia hA:=EO ⟨by decide,by decide⟩ ⟨by decide,by decide⟩ ⟨by decide,by decide⟩ (by decide)
theorem aoV:Fm rX1:=by
 have h2:ia (Term.mk 2 0 1 (bs []) []):=EO ⟨by decide,by decide⟩ ⟨by decide,by decide⟩ ⟨by decide,by decide⟩ (by decide)
 have hl:ia pL:=A2 ⟨by decide,by decide⟩ ⟨by decide,by decide⟩ (by simp) (by intro t ht;simp at ht;rw[ht];exact Vu)
 have hr:ia pR:=A2 ⟨by decide,by decide⟩ ⟨by decide,by decide⟩ (by simp) (by intro t ht;simp at ht;rcases ht with rfl|rfl;exact Vu;exact h2)
 refine⟨⟨by decide,?_,⟨hr,by decide +kernel⟩,by decide,by simp[rX1]⟩,by decide,by decide,?_,.inl rfl⟩
 ·intro a ha
  simp[rX1]at ha;rw[ha];exact⟨hl,by decide +kernel⟩
 ·intro a ha
  simp[rX1]at ha;rw[ha];decide
theorem ajg:Fm rX2:=by
 have hl:ia pL:=A2 ⟨by decide,by decide⟩ ⟨by decide,by decide⟩ (by simp) (by intro t ht;simp at ht;rw[ht];exact Vu)
 refine⟨⟨by decide,?_,⟨Vu,by decide +kernel⟩,by decide,by simp[rX2]⟩,by decide,by decide,?_,.inl rfl⟩
 ·intro a ha
  simp[rX2]at ha;rw[ha];exact⟨hl,by decide +kernel⟩
 ·intro a ha
  simp[rX2]at ha;rw[ha];decide
theorem RP:R P j6 []=some (.bool true):=by
 have hh:=Vi (bs [97]) 0;have k1:=BS rX1 3 ⟨by decide,by decide⟩ aoV (fun hg v x h1 h8 hx=>aji aoV hg v x h1 h8 hx)
 have k2:=BS rX2 3 ⟨by decide,by decide⟩ ajg (fun hg v x h1 h8 hx=>aji ajg hg v x h1 h8 hx)
 have k3:=qw rX2 ajg.ok;rw[avY]at k1;rw[avZ]at k2;rw[as6]at k3;have p1:=fun(o:Obj)=>atx (s:=bs [100,111,117,98,108,101]) (l:=[⟨bs [],pL⟩]) (x:=hA) (o:=o)
 have p2:=fun(o1 o2:Obj)=>aty (s:=bs [100,111,117,98,108,101]) (l:=[⟨bs [],pL⟩]) (x:=hA) (o1:=o1) (o2:=o2)
 have e1:(⟨bs [100,111,117,98,108,101],[⟨bs [],pL⟩],.mk 13 0 0 (bs []) [hA,.mk 2 0 1 (bs []) []],[]⟩:dR)=rX1:=rfl;have e2:(⟨bs [100,111,117,98,108,101],[⟨bs [],pL⟩],hA,[]⟩:dR)=rX2:=rfl;have e3:Term.mk 24 0 0 (bs [97]) []=hA:=rfl;have e4:Term.mk 8 0 0 (bs []) [hA,hA]=pL:=rfl;rw[e1]at p1;rw[e2]at p2;rw[e3]at hh;simp only[sP,Cb]at p1 p2
 (rw[RE (aD rfl),rf];simp(disch:=omega)only[aA,↓aa,seval,-List.reduceReplicate,reduceCtorEq,ae,UZ,hh,uf,ato,e4,atp,atq,atr,ats,att,atu,avG,atz,p1,p2,J6,k1,k2,cU,k3,avx,atv,atw])
 done
structure TyR (r:dR):Prop where
 lt:∀a∈r.left,ia a.pat∧a.root.size≤9223372036854775807
 rt:ia r.right
 gt:∀g∈r.guards,ia g.a∧ia g.b
theorem alH{r:dR}(h:TyR r):∀t∈oY r,ia t:=by
 intro t ht;unfold oY rz at ht;rcases BZ.1 ht with ht|ht
 ·rcases BZ.1 ht with ht|ht
  ·rcases BZ.1 ht with ht|ht
   ·obtain⟨a,ha,rfl⟩:=E0.1 ht
    exact(h.lt a ha).1
   ·rw[Gg.1 ht];exact h.rt
  ·obtain⟨g,hg,ht⟩:=Jp.1 ht
   have:=h.gt g hg;unfold Co at ht;split at ht<;>simp at ht
   ·rw[ht];exact this.1
   ·rcases ht with rfl|rfl
    ·exact this.1
    ·exact this.2
 ·obtain⟨g,hg,rfl⟩:=E0.1 ht
  exact(h.gt g hg).2
theorem ahk{r:dR}(h:TyR r)(hl:OQ r=true):Fm r:=by
 unfold OQ at hl;simp only[ud,decide_eq_true_eq,Ca,JZ]at hl;obtain⟨⟨h1,h2⟩,h3⟩:=hl;have h3:∀t∈oY r,t.count≤40:=fun t ht=>(h3 t ht).2
 have m1:∀a∈r.left,a.pat∈oY r:=fun a ha=>by
  unfold oY rz;exact Jo _ (Jo _ (Jo _ (E0.2 ⟨a,ha,rfl⟩)))
 have m2:r.right∈oY r:=by
  unfold oY rz;exact Jo _ (Jo _ (aa3 _ (Gg.2 rfl)))
 have m3:∀g∈r.guards,g.a∈oY r∧g.b∈oY r:=fun g hg=>by
  unfold oY rz;refine⟨Jo _ (aa3 _ (Jp.2 ⟨g,hg,?_⟩)),aa3 _ (E0.2 ⟨g,hg,rfl⟩)⟩;unfold Co;split<;>simp
 refine⟨⟨by omega,fun a ha=>⟨(h.lt a ha).1,?_⟩,⟨h.rt,?_⟩,by omega,fun g hg=>⟨(h.gt g hg).1,(h.gt g hg).2,?_,?_⟩⟩,by omega,by omega,fun a ha=>(h.lt a ha).2,.inr Ri⟩
 ·have:=h3 _ (m1 a ha);omega
 ·have:=h3 _ m2;omega
 ·have:=h3 _ (m3 g hg).1;omega
 ·have:=h3 _ (m3 g hg).2;omega
def gw(wd w:Int):Int:=if w=0 then wd else w
theorem aih{o w v n wd:Int}{as:List Int}(h0:¬as=[])(h:bw o w v as=(w,0))(h':bw o w v (as.map (gw wd))=(n,0)):n=gw wd w:=by
 have hget:∀k:Nat,k<as.length→(as.map (gw wd)).getD k 0=gw wd (as.getD k 0):=by
  intro k hk;rw[aaU,aaU,zA,oq hk];rfl
 have hl0:as.length≠0:=by cases as with|nil=>exact absurd rfl h0|cons=>simp
 unfold bw at h h';split at h
 ·cases h
 rename_i h1;simp only[not_or,VD]at h1;rw[if_neg (by rw[aO];omega)]at h'
 split at h
 ·cases h
 split at h'
 ·cases h'
 split at h
 ·omega
 rename_i h3;rw[if_neg h3]at h';split at h
 ·rename_i h4
  rw[if_pos h4]at h';unfold pj at h';split at h'
  ·cases h'
  ·rename_i h5
   cases h';unfold gw;rw[if_neg (by omega)]
 rename_i h4;rw[if_neg h4]at h';split at h
 ·rename_i h5
  rw[if_pos h5,hget 0 (by omega)]at h'
  cases h;cases h';rfl
 rename_i h5;rw[if_neg h5]at h';have a2:∀{o:Int},¬arity o<0→¬arity o=0→¬arity o=1→2≤arity o:=by intro o;omega
 have hl2:=a2 h1.1 h3 h5;have g0:=hget 0 (by omega)
 have g1:=hget 1 (by omega)
 split at h
 ·rename_i h6
  rw[if_pos h6,g0,g1]at h';split at h
  ·rename_i h7
   have e0:gw wd (as.getD 0 0)=as.getD 0 0:=by unfold gw;rw[if_neg (by omega)]
   have e1:gw wd (as.getD 1 0)=as.getD 1 0:=by unfold gw;rw[if_neg (by omega)]
   rw[e0,e1,if_pos h7]at h';cases h;cases h';unfold gw;rw[if_neg (by omega)]
  ·cases h
 rename_i h6;rw[if_neg h6]at h';split at h
 ·rename_i h7
  rw[if_pos h7,g1]at h';split at h
  ·split at h'
   ·cases h
    cases h';rfl
   ·cases h'
  ·cases h
 rename_i h7;rw[if_neg h7,g0,g1]at h';split at h
 ·split at h'
  ·split at h
   ·rename_i h9
    rw[if_pos h9]at h';cases h;cases h';unfold gw;rw[if_neg (by decide)]
   ·rename_i h9
    rw[if_neg h9]at h';cases h;cases h';rfl
  ·cases h'
 ·cases h
theorem aoM{wd:Int}:∀{l m:List Term},Term.zB wd l=some m→(∀a∈l,(a.mH wd).2=true→(a.mH wd).1.w=gw wd a.w)→m.map Term.w=(l.map Term.w).map (gw wd)∧m.length=l.length
 | [],m,h,_=>by simp only[Term.zB,bI]at h;subst h;simp
 |a::l,m,h,hall=>by
  simp only[Term.zB]at h;split at h
  ·rename_i hk
   obtain⟨m',hm,rfl⟩:=gI.1 h;obtain⟨i1,i2⟩:=aoM hm fun b hb=>hall b (by simp[hb])
   refine⟨?_,by simp[i2]⟩
   simp only[sP,i1,hall a (by simp) hk]
  ·cases h
theorem agh{wd:Int}{ev:Bool}(t:Term):(∀u∈t.pre,fI u ev=0)→(t.mH wd).2=true→(t.mH wd).1.w=gw wd t.w:=by
 induction t using Term.ind with
 |h t ih=>
 intro hn hk;obtain⟨g1,g2,g3,g4,g5⟩:=afz (hn t BU);by_cases hz:t.args=[]
 ·rw[G5 wd t hz];rfl
 ·rw[G6 wd t hz]at hk ⊢
  cases hm:Term.zB wd t.args with
  |none=>rw[hm]at hk;cases hk
  |some m=>
   rw[hm]at hk;simp only[decide_eq_true_eq]at hk ⊢;obtain⟨i1,i2⟩:=aoM hm fun a ha hk=>ih a ha (fun u hu=>hn u (lV.2 (.inr ⟨a,ha,hu⟩))) hk
   show(bw t.op t.w t.v (m.map Term.w)).1=gw wd t.w
   rw[i1]at hk ⊢;exact aih (n:=(bw t.op t.w t.v ((t.args.map Term.w).map (gw wd))).1) (by intro h;exact hz (List.map_eq_nil_iff.1 h)) g4 (Prod.ext rfl hk)
def gV(wd:Int)(v:V2):V2:=⟨v.name,gw wd v.w⟩
theorem afo(wd:Int)(v:V2):∀s:List V2,nu (s.map (gV wd)) (gV wd v)=(nu s v).map (gV wd)
 | []=>rfl
 |a::r=>by
  simp only[sP,nu];by_cases h1:a.name=v.name
  ·rw[if_pos h1,if_pos (show(gV wd a).name=(gV wd v).name from h1)];rfl
  ·rw[if_neg h1,if_neg (show ¬(gV wd a).name=(gV wd v).name from h1)]
   by_cases h2:slt v.name a.name=true
   ·rw[if_pos h2,if_pos (show slt (gV wd v).name (gV wd a).name=true from h2)];rfl
   ·rw[if_neg h2,if_neg (show ¬slt (gV wd v).name (gV wd a).name=true from h2),sP,afo wd v r]
theorem TC{wd op:Int}(ho:op=24∨op=25):∀{l m:List Term} (s:List V2),mh wd l m→m.foldl (kW op) (s.map (gV wd))=(l.foldl (kW op) s).map (gV wd)
 | [],[],s,_=>rfl
 |a::l,b::m,s,h=>by
  simp only[QL]
  have e:kW op (s.map (gV wd)) b=(kW op s a).map (gV wd):=by
   unfold kW;rw[h.1.1,h.1.2.1];by_cases h1:a.op=op
   ·rw[if_pos h1,if_pos h1,h.1.2.2 ((lj a).2 (by rw[h1];exact ho))]
    exact afo wd ⟨a.name,a.w⟩ s
   ·rw[if_neg h1,if_neg h1]
  rw[e];exact TC ho _ h.2
theorem mh.flat{α β:Type}{wd:Int}(f:α→List Term)(g:β→List Term):∀{l:List α} {m:List β},l.length=m.length→(∀(i:Nat) (a:α) (b:β),l[i]?=some a→m[i]?=some b→mh wd (f a) (g b))→mh wd (l.flatMap f) (m.flatMap g)
 | [],[],_,_=>trivial
 |a::l,b::m,hl,h=>by
  simp only[VF];exact(h 0 a b rfl rfl).append (mh.flat f g (by simpa using hl) fun i x y hx hy=>h (i+1) x y (by simpa using hx) (by simpa using hy))
theorem mh.one{wd:Int}:∀{l m:List Term},mh wd l m→mh wd (l.flatMap Bx) (m.flatMap Bx)
 | [],[],_=>trivial
 |a::l,b::m,h=>by
  simp only[VF];refine mh.append ?_ (mh.one h.2);unfold Bx;rw[SP h.1];split
  ·exact⟨h.1,trivial⟩
  ·trivial
theorem ae4{wd:Int}:∀{l m p q:List Term},mh wd l m→mh wd p q→(∀u∈l,isVar u=true)→(∀u∈p,isVar u=true)→Fs p l=false→Fs q m=false
 | [],[],_,_,_,_,_,_,_=>rfl
 |a::l,b::m,p,q,h,hp,hv,hvp,hc=>by
  simp only[Fs,abv]at hc ⊢;refine⟨?_,ae4 h.2 (hp.append (show mh wd [a] [b]from⟨h.1,trivial⟩)) (fun u hu=>hv u (by simp[hu])) (fun u hu=>?_) hc.2⟩
  ·have key:∀{p q:List Term},mh wd p q→(∀u∈p,isVar u=true)→p.any (Zz a)=false→q.any (Zz b)=false:=by
    intro p
    induction p with
    |nil=>intro q hq _ _;cases q with|nil=>rfl|cons=>exact hq.elim
    |cons c p ih=>
     intro q hq hv' hc;cases q with
     |nil=>exact hq.elim
     |cons d q=>
      simp only[ZH,abv]at hc ⊢;refine⟨?_,ih hq.2 (fun u hu=>hv' u (by simp[hu])) hc.2⟩
      have h1:=hc.1;unfold Zz at h1 ⊢;rw[h.1.1,h.1.2.1,hq.1.1,hq.1.2.1,h.1.2.2 (hv a (by simp)),hq.1.2.2 (hv' c (by simp))]
      rw[decide_eq_false_iff_not]at h1 ⊢
      rintro⟨k1,k2⟩
      refine h1 ⟨k1,?_⟩;rcases k2 with k2|k2
      ·exact .inl k2
      ·right
       intro e;exact k2 (by rw[e])
   exact key hp hvp hc.1
  ·rcases BZ.1 hu with hu|hu
   ·exact hvp u hu
   ·rw[Gg.1 hu];exact hv a (by simp)
theorem ajI{wd:Int}{v:V2}{l:List V2}(h:l.any (GQ v)=true):(l.map (gV wd)).any (GQ (gV wd v))=true:=by
 rw[abB]at h ⊢;obtain⟨x,hx,hxv⟩:=h;refine⟨gV wd x,E0.2 ⟨x,hx,rfl⟩,?_⟩;unfold GQ at hxv ⊢;have:=of_decide_eq_true hxv;subst this;exact decide_eq_true rfl
theorem aiJ{wd:Int}{hs ns:List V2}:∀{l m:List Term},mh wd l m→l.all (G7 hs ns)=true→m.all (G7 (hs.map (gV wd)) (ns.map (gV wd)))=true
 | [],[],_,_=>rfl
 |a::l,b::m,h,hb=>by
  simp only[R6,ud]at hb ⊢;refine⟨?_,aiJ h.2 hb.2⟩;have h1:=hb.1;unfold G7 at h1 ⊢;rw[h.1.1,h.1.2.1];by_cases e1:a.op=24
  ·rw[if_pos e1]at h1 ⊢
   rw[h.1.2.2 ((lj a).2 (.inl e1))];exact ajI h1
  rw[if_neg e1]at h1 ⊢;by_cases e2:a.op=25
  ·rw[if_pos e2]at h1 ⊢
   rw[h.1.2.2 ((lj a).2 (.inr e2))];exact ajI h1
  rw[if_neg e2]
theorem XZ{α β:Type}{f:α→Option β}:∀{l:List α} {m:List β} (i:Nat) (a:α) (b:β),omap f l=some m→l[i]?=some a→m[i]?=some b→f a=some b
 | [],m,i,a,b,h,h1,_=>by simp at h1
 |c::l,m,i,a,b,h,h1,h2=>by
  obtain⟨d,ds,e1,e2,rfl⟩:=O1 h;cases i with
  |zero=>
   simp only[QS,bI]at h1 h2;subst h1;subst h2;exact e1
  |succ i=>
   simp only[aa9]at h1 h2;exact XZ i a b e2 h1 h2
theorem WR:∀{l:List Atom},(∀a∈l,jZ a=0)→yd l=0
 | [],_=>rfl
 |a::l,h=>by
  have e:=h a (by simp)
  have ih:=WR (l:=l) fun b hb=>h b (by simp[hb])
  unfold yd;rw[e,ih];rfl
theorem aiG{a:Atom}(h1:cB a.pat false=0)(h2:a.root=bs []∨iA a.root=true):jZ a=0:=by
 unfold jZ;rw[if_neg (not_not_intro h1),if_neg]
 rintro⟨k1,k2⟩
 rcases h2 with h2|h2
 ·exact k1 h2
 ·rw[h2]at k2;cases k2
theorem Va{wd:Int}(hwd:1≤wd∧wd≤64){ev:Bool}{t:Term}(h:cB t ev=0)(hk:(t.mH wd).2=true):mh wd t.pre (t.mH wd).1.pre:=(aiF wd hwd ev t (j3 h) hk).rel
theorem S2{r:dR}(hc:yd r.left=0):DW r.left=0↔Fs [] (zE r.left)=false∧((dU r).length:Int)+(ja r).length≤16:=by
 rw[OZ r hc];unfold Se;constructor
 ·intro h
  split at h
  ·cases h
  rename_i h1;split at h
  ·cases h
  rename_i h2;exact⟨by simpa using h1,by omega⟩
 ·rintro⟨h1,h2⟩
  rw[if_neg (by rw[h1];simp),if_neg (by omega)]
theorem amS{r x:dR}{wd:Int}(hwd:1≤wd∧wd≤64)(hg:GX r)(hx:atR wd r=some x):GX x∧JO x=false:=by
 obtain⟨l,gs,h1,h2,h3,rfl⟩:=VY hx;obtain⟨hl,hl2⟩:=DY h1;obtain⟨hgs,hgs2⟩:=DY h3
 have hA:∀(i:Nat) (a b:Atom),r.left[i]?=some a→l[i]?=some b→jZ a=0∧(a.pat.mH wd).2=true∧b=⟨a.root,(a.pat.mH wd).1⟩:=by
  intro i a b ha hb;have e:=XZ i a b h1 ha hb;exact⟨He hg.la a (mi ha),G4 e⟩
 have hA2:∀b∈l,∃a∈r.left,jZ a=0∧(a.pat.mH wd).2=true∧b=⟨a.root,(a.pat.mH wd).1⟩:=by
  intro b hb;obtain⟨a,ha,e⟩:=hl2 b hb;exact⟨a,ha,He hg.la a ha,G4 e⟩
 have cl:yd l=0:=WR fun b hb=>by
  obtain⟨a,ha,e1,e2,rfl⟩:=hA2 b hb;obtain⟨k1,k2⟩:=vm e1;exact aiG (xd hwd k1 e2).1 k2
 have rt:=xd hwd hg.rt h2
 have hsid:mh wd ((ec r.left).flatMap Term.pre) ((ec l).flatMap Term.pre):=by
  unfold ec;rw[List.flatMap_assoc,List.flatMap_assoc];refine mh.flat _ _ hl.symm fun i a b ha hb=>?_
  obtain⟨e1,e2,rfl⟩:=hA i a b ha hb;obtain⟨k1,k2⟩:=vm e1;unfold AH;simp only[];rw[List.flatMap_append,List.flatMap_append];refine mh.append ?_ ?_
  ·split
   ·trivial
   ·have p1:∀(n:ByteArray) (w:Int),(Term.mk 24 w 0 n []).pre=[Term.mk 24 w 0 n []]:=fun n w=>ID rfl
    simp only[VF,List.flatMap_nil,Zy,uG,p1];exact⟨⟨rfl,rfl,fun _=>agh a.pat (j3 k1) e2⟩,trivial⟩
  ·simp only[VF,List.flatMap_nil,Zy]
   exact Va hwd k1 e2
 have flat_vars:∀(op:Int) (L:List Term) (s:List V2),L.foldl (G3 op) s=(L.flatMap Term.pre).foldl (kW op) s:=by
  intro op L
  induction L with
  |nil=>intro s;rfl
  |cons a L ih=>intro s;simp only[QL,VF,abT,ih];rfl
 have hh:dU ⟨r.name,l,(r.right.mH wd).1,gs⟩=(dU r).map (gV wd):=by
  unfold dU varsOf;rw[flat_vars,flat_vars];exact TC (.inl rfl) [] hsid
 have hn:ja ⟨r.name,l,(r.right.mH wd).1,gs⟩=(ja r).map (gV wd):=by
  unfold ja varsOf;rw[flat_vars,flat_vars];exact TC (.inr rfl) [] hsid
 have hm:mh wd (zE r.left) (zE l):=by
  unfold zE;refine mh.flat _ _ hl.symm fun i a b ha hb=>?_
  obtain⟨e1,e2,rfl⟩:=hA i a b ha hb;obtain⟨k1,k2⟩:=vm e1;unfold mtA;simp only[];refine mh.append ?_ (Va hwd k1 e2).one;split
  ·trivial
  ·exact⟨⟨rfl,rfl,fun _=>agh a.pat (j3 k1) e2⟩,trivial⟩
 have hmv:∀u∈zE r.left,isVar u=true:=by
  intro u hu;obtain⟨a,ha,hu⟩:=Jp.1 hu;unfold mtA at hu;rcases BZ.1 hu with hu|hu
  ·split at hu
   ·simp at hu
   ·rw[Gg.1 hu];exact(lj _).2 (.inl rfl)
  ·obtain⟨v,hv,hu⟩:=Jp.1 hu
   unfold Bx at hu;split at hu
   ·rename_i h;rw[Gg.1 hu];exact h
   ·simp at hu
 have hnm:=(S2 hg.la).1 hg.bd;have hgd:∀(i:Nat) (a b:Gd),r.guards[i]?=some a→gs[i]?=some b→True:=fun _ _ _ _ _=>trivial
 have hG2:∀b∈gs,∃a∈r.guards,Sd wd a=some b:=hgs2
 have bdw:∀{hs ns:List V2} {t:Term} {ev:Bool},cB t ev=0→(t.mH wd).2=true→No hs ns t=true→No (hs.map (gV wd)) (ns.map (gV wd)) (t.mH wd).1=true:=by
  intro hs ns t ev k1 k2 k3;exact aiJ (Va hwd k1 k2) k3
 refine⟨⟨hg.nm,?_,cl,?_,rt.1,?_,?_,?_⟩,?_⟩
 ·have:=hg.t2
  unfold S.t2 at this ⊢;simp only[hl,hgs];exact this
 ·rw[S2 (r:=⟨r.name,l,(r.right.mH wd).1,gs⟩) cl,hh,hn,aO,aO]
  exact⟨ae4 (p:=[]) (q:=[]) hm trivial hmv (by simp) hnm.1,hnm.2⟩
 ·rw[hh,hn,TH _ _ _ (Hd rt.1)]
  have:=hg.bo;rw[TH _ _ _ (Hd hg.rt)]at this;exact bdw hg.rt h2 this
 ·have:=hg.wd
  unfold S.t7 at this ⊢;have e1:=agh r.right (j3 hg.rt) h2;cases hll:r.left with
  |nil=>exact absurd hll (afg hg).1
  |cons a as=>
   cases hlm:l with
   |nil=>rw[hll,hlm]at hl;simp at hl
   |cons b bs=>
    obtain⟨k1,k2,rfl⟩:=hA 0 a b (by rw[hll];rfl) (by rw[hlm];rfl)
    have e2:=agh a.pat (j3 (vm k1).1) k2;rw[hll]at this;have this':(if r.right.w=a.pat.w then(0:Int)else 3)=0:=this
    have hEq:r.right.w=a.pat.w:=by
     by_cases h:r.right.w=a.pat.w
     ·exact h
     ·rw[if_neg h]at this';cases this'
    show(if(r.right.mH wd).1.w=(a.pat.mH wd).1.w then(0:Int)else 3)=0
    rw[if_pos (by rw[e1,e2,hEq])]
 ·rw[hh,hn]
  refine SG fun b hb=>?_
  obtain⟨a,ha,e⟩:=hG2 b hb;obtain⟨c1,c2,c3,c4,c5⟩:=DH.1 (Hz hg.gd a ha);obtain⟨k1,k2⟩:=Nn e;have ca:=xd hwd c2 k1;have ea:=agh a.a (j3 c2) k1
  have opa:(a.a.mH wd).1.op=a.a.op:=by
   have:=Va hwd c2 k1;rw[Term.sx a.a,Term.sx (a.a.mH wd).1]at this;exact this.1.1
  unfold XC at c4;rw[ud,QJ c2]at c4;have wa:∀hs:List V2,(if a.kind=1 then[]else hs)=(if a.kind=1 then[]else hs):=fun _=>rfl
  have mapif:(if a.kind=1 then[]else(dU r).map (gV wd))=(if a.kind=1 then[]else dU r).map (gV wd):=by split<;>rfl
  have mapif2:(if a.kind=3∨a.kind=4 then[]else(dU r).map (gV wd))=(if a.kind=3∨a.kind=4 then[]else dU r).map (gV wd):=by split<;>rfl
  rcases k2 with⟨kk,rfl⟩|⟨kk,k3,rfl⟩
  ·refine DH.2 ⟨?_,ca.1,fun h=>absurd kk h,?_,?_⟩
   ·unfold DG at c1 ⊢
    simp only[kk,if_true]at c1 ⊢;exact c1
   ·unfold XC
    simp only[kk,decide_true,TB,abR,if_true];rw[QJ ca.1];have:=bdw c2 k1 c4.1;rw[kk,if_pos rfl]at this;exact this
   ·simp only[kk,if_true]at c5 ⊢
    rw[ea,c5];unfold gw;rw[if_neg (by decide)]
  ·have cb:=xd hwd (c3 kk) k3
   have eb:=agh a.b (j3 (c3 kk)) k3;refine DH.2 ⟨?_,ca.1,fun _=>cb.1,?_,?_⟩
   ·unfold DG at c1 ⊢
    simp only[kk,if_false]at c1 ⊢;rw[opa];exact c1
   ·unfold XC
    simp only[kk,decide_false,G1,if_false,ud];rw[QJ ca.1,QJ cb.1,mapif2];have d1:=bdw c2 k1 c4.1;rw[if_neg kk]at d1;have d2:=c4.2;simp only[kk,decide_false,G1]at d2;rw[QJ (c3 kk)]at d2;exact⟨d1,bdw (c3 kk) k3 d2⟩
   ·simp only[kk,if_false]at c5 ⊢
    rw[ea,eb,c5]
 ·unfold JO
  rw[ML];intro t ht;unfold ap1;rw[Bool.not_eq_true,ML]
  have key:∀u∈t.pre,¬u.w=0:=by
   unfold rz at ht;rcases BZ.1 ht with ht|ht
   ·rcases BZ.1 ht with ht|ht
    ·obtain⟨b,hb,rfl⟩:=E0.1 ht
     obtain⟨a,ha,e1,e2,rfl⟩:=hA2 b hb;exact(xd hwd (vm e1).1 e2).2
    ·rw[Gg.1 ht];exact rt.2
   ·obtain⟨b,hb,ht⟩:=Jp.1 ht
    obtain⟨a,ha,e⟩:=hG2 b hb;obtain⟨c1,c2,c3,c4,c5⟩:=DH.1 (Hz hg.gd a ha);obtain⟨k1,k2⟩:=Nn e;unfold Co at ht;rcases k2 with⟨kk,rfl⟩|⟨kk,k3,rfl⟩
    ·simp only[kk,if_true,Gg]at ht
     rw[ht];exact(xd hwd c2 k1).2
    ·simp only[kk,if_false,pn,ab0,or_false]at ht
     rcases ht with rfl|rfl
     ·exact(xd hwd c2 k1).2
     ·exact(xd hwd (c3 kk) k3).2
  intro u hu;simpa using key u hu
theorem at5:iS zR:=⟨by decide,by simp[zR],⟨alF,by decide +kernel⟩,by decide,by simp[zR]⟩
theorem UP(r:dR)(h:TyR r)(w:Int)(hw : -9223372036854775808≤w∧w≤9223372036854775807):R P iv [.agg r.row,.int .i64 w]=some (.bool true):=by
 have kl:=Y1 r (alH h);have hv:=RP;cases hL:OQ r with
 |false=>
  rw[hL]at kl
  (rw[kO (aD rfl),dS];simp(disch:=omega)only[aA,↓aa,seval,-List.reduceReplicate,reduceCtorEq,ae,bQ,aZ,xo,kl,rA,hv])
 |true=>
 rw[hL]at kl;have hf:=ahk h hL;have k2:=YZ r hf.ok (by have:=hf.ll;omega)
 rw[←ari]at k2;rcases dB (CF r=0)with c1|c1
 rotate_left
 ·(rw[kO (aD rfl),dS];simp(disch:=omega)only[aA,↓aa,seval,-List.reduceReplicate,reduceCtorEq,ae,bQ,aZ,xo,kl,As,k2,c1,rA,hv])
 rw[of_eq_true c1]at k2;have hg:=(IW r).1 (of_eq_true c1);have a1:=Tk r w hw hf.ok (SF hg);have a2:=alf r w hw hf.ok;have z1:=Qk zR zR at5;rw[(Tl zR zR).2 rfl]at z1;unfold agf at a1 a2;by_cases hw1:1≤w∧w≤64
 rotate_left
 ·rw[if_neg hw1]at a1 a2
  (rw[kO (aD rfl),dS];simp(disch:=omega)only[aA,↓aa,seval,-List.reduceReplicate,reduceCtorEq,ae,bQ,aZ,xo,kl,As,k2,vP,a1,PH,a2,GG,z1,rA,hv])
 rw[if_pos hw1]at a1 a2;cases hx:atR w r with
 |none=>
  rw[hx]at a1 a2;simp only[Ju]at a1 a2
  (rw[kO (aD rfl),dS];simp(disch:=omega)only[aA,↓aa,seval,-List.reduceReplicate,reduceCtorEq,ae,bQ,aZ,xo,kl,As,k2,vP,a1,PH,a2,GG,z1,rA,hv])
 |some x=>
  rw[hx]at a1 a2;simp only[Ju]at a1 a2;have fx:=ajh hw1 hf hg hx;obtain⟨gx,nx⟩:=amS hw1 hg hx;have s1:=Qk x x fx.ok;rw[(Tl x x).2 rfl]at s1;have c1:=CI x fx.ok (by have:=fx.ll;omega)
  rw[(IW x).2 gx]at c1;have n1:=qw x fx.ok;rw[nx]at n1
  (rw[kO (aD rfl),dS];simp(disch:=omega)only[aA,↓aa,seval,-List.reduceReplicate,reduceCtorEq,ae,bQ,aZ,xo,kl,As,k2,vP,a1,PH,a2,GG,s1,jU,c1,cU,n1,rA,hv])
end Go.AE.S
