import Derived.Test.YtpccheodgonkkaaGreatF1
import Derived.Test.YtpccheodgonkkaaGreatB0
import Derived.Test.YtpccheodgonkkaaGreatE1
set_option maxHeartbeats 0
set_option linter.unusedSimpArgs false
set_option linter.unusedVariables false
namespace Go.AE.S
open Go Go.AE
variable {τ:Tm} {σ:ah} {rd:Option Nat}
def jB(g:Gd):Term:=Tw g.kind g.a g.b
def zS(a:Atom):List Term:=if a.root=bs []then[]else[.mk 16 1 0 (bs []) [(ub a).fj,a.pat.fj]]
def yw(r:du):List Term:=r.left.flatMap zS++r.guards.map fun g=>(jB g).fj
theorem Es(a:Atom):(zS a).length≤1:=by unfold zS;split<;>simp
theorem Ut{o w:Int}{x y:Term}:j7 [.p (.int .i64 0),.p (.int .i64 0),.p (.int .u64 0),.p (.str (bs [])),.aA] [(0,1,.p (.int .i64 o)),(1,1,.p (.int .i64 w)),(4,1,.p (.aO [x.row,y.row]))]=some (.p (.agg (Term.mk o w 0 (bs []) [x,y]).row)):=by
 rw[Term.a6 (Term.mk o w 0 (bs []) [x,y])];rfl
theorem Rq{r:du}(h:gk r){a:Atom}(ha:a∈r.left)(hn:a.root.size≤9223372036854775807):iD (ub a) :=
 FI ⟨by decide,by decide⟩ (h.lt a ha).1.w ⟨by decide,by decide⟩ hn
abbrev sEq(s:List Term):ah:=[zc,.av 5 [z5 0] false,zc,.av 5 [z5 2] false,.pv (mX 5 s) (s.map Term.row) false]
abbrev To(r:du)(s:List Term)(i:Int):List (Nat×AV):=[(1,.p (.ptr r.row 0)),(3,.ptr 1 1 0 0),(4,.ptr 3 1 0 0),(5,.sl 4 s.length),(11,.p (.aO (r.left.map Atom.row))),(12,.p (.int .i64 r.left.length)),(13,.p (.int .i64 i))]
abbrev XW(r:du)(s:List Term)(i:Int):List (Nat×AV):=[(1,.p (.ptr r.row 0)),(3,.ptr 1 1 0 0),(4,.ptr 3 1 0 0),(5,.sl 4 s.length),(33,.p (.aO (r.guards.map Gd.row))),(34,.p (.int .i64 r.guards.length)),(35,.p (.int .i64 i))]
theorem apa{s:List Term}{t:Term}(hs:s.length≤1000000):AS (sEq s) 5 64 (.sl 4 s.length) (some (.inl [t.row]))=some (.sl 4 (s.length+1),sEq (s++[t])):=by
 rw[dP (σ:=sEq s) (b:=4) (n:=s.length) (e:=mX 5 s) (es:=5) (bytes:=64) (rows:=s.map Term.row) (new:=[t.row]) rfl (by simp) (sq _ _ _) (by simp only[lZ,nz];omega)]
 simp only[sEq,kM,CR,rK,B0];rfl
theorem Yy(r:du)(h:gk r)(hn:∀a∈r.left,a.root.size≤9223372036854775807):al P v8 (To r [] 0) (sEq []) 65 none=back P [1,3,4,5,11,12,13] iE 5 (exec P iE ⟨tm (To r (r.left.flatMap zS) r.left.length),sEq (r.left.flatMap zS),65,none⟩):=by
 have hll:=h.ll
 obtain⟨_,hL⟩:=fY (P:=P) (nt:=65) (lv:=[1,3,4,5,11,12,13]) (b:=iE) (rd:=none) (as:=r.left) (fun i (s:List Term)=>To r s i) sEq (fun _ s a=>s++zS a) (fun i s=>s.length≤i)
  (fun i a s ha hi hs=>by
   have hm:=mR ha;have hat:=h.lt a hm;have h2:=Es a;refine⟨by rw[jS];omega,?_⟩
   have hlt:((i:Int)<r.left.length)=True:=by simpa using hi
   have hx:=fun σ=>aH (k:=.i64) (es:=6) (σ:=σ) (aw (f:=Atom.row) ha) a.az
   have hr:=MA a;have hcr:(ub a).count≤1000000:=by show Term.count (.mk 24 a.pat.w 0 a.root [])≤_;rw[Term.count_eq];show 1+Term.counts []≤_;decide
   have v1:=jX (ub a) (Rq h hm (hn a hm)) hcr;have v2:=jX a.pat hat.1 (by omega)
   have a1:=fun t:Term=>apa (s:=s) (t:=t) (by omega)
   unfold zS;rcases cY (a.root=bs [])with h1|h1
   ·rw[if_pos (of_eq_true h1),abg]
    simp only[iE];simp(disch:=omega)only[aB,↓aa,seval,-List.reduceReplicate,reduceCtorEq,ae,hlt,aR,hx,iJ,eQ,fN,h1,To]
    try rfl
   ·rw[if_neg (of_eq_false h1)]
    simp only[sEq,z5]at a1;simp only[iE];simp(disch:=omega)only[aB,↓aa,seval,-List.reduceReplicate,reduceCtorEq,ae,hlt,aR,hx,iJ,eQ,fN,lY,h1,Ml,hr,jW,v1,v2,rV,Ut,fJ,ug,sEq,z5,a1,jS,To]
    try rfl) (fun i s=>rfl) [] (by simp) _ (rz zS r.left 0 [])
 exact hL
theorem YA(r:du)(h:gk r)(ht:∀g∈r.guards,iD (jB g)∧(jB g).count≤1000000)(hG:∀g∈r.guards,∀σ,l5 P gG [.p (.agg g.row)] σ=some (.p (.agg (jB g).row),σ))(s0:List Term)(h0:s0.length≤100000):al P we (XW r s0 0) (sEq s0) 65 none=back P [1,3,4,5,33,34,35] kK 5 (exec P kK ⟨tm (XW r (s0++r.guards.map fun g=>(jB g).fj) r.guards.length),sEq (s0++r.guards.map fun g=>(jB g).fj),65,none⟩):=by
 have hgl:=h.gl
 obtain⟨_,hL⟩:=fY (P:=P) (nt:=65) (lv:=[1,3,4,5,33,34,35]) (b:=kK) (rd:=none) (as:=r.guards) (fun i (s:List Term)=>XW r s i) sEq (fun _ s g=>s++[(jB g).fj]) (fun i s=>s.length≤s0.length+i)
  (fun i g s ha hi hs=>by
   have hm:=mR ha;refine⟨by rw[jS];simp only[lZ,nz];omega,?_⟩
   have hlt:((i:Int)<r.guards.length)=True:=by simpa using hi
   have hx:=fun σ=>aH (k:=.i64) (es:=11) (σ:=σ) (aw (f:=Gd.row) ha) g.az
   have hg:=hG g hm;have v1:=jX (jB g) (ht g hm).1 (ht g hm).2;have a1:=fun t:Term=>apa (s:=s) (t:=t) (by omega)
   simp only[sEq,z5]at a1;simp only[kK];simp(disch:=omega)only[aB,↓aa,seval,-List.reduceReplicate,reduceCtorEq,ae,hlt,aR,hx,bB,aQ,hg,jW,v1,fJ,ug,sEq,z5,a1,jS,XW]
   try rfl) (fun i s=>rfl) s0 (by omega) _ (za (fun g:Gd=>(jB g).fj) r.guards 0 s0)
 exact hL
theorem afH{σ:ah}:uX 5 (aX [.p (.int .i64 0),.p (.int .i64 0),.p (.int .u64 0),.p (.str (bs [])),.aA] σ)=some (.ptr (σ.length+1) 1 0 0,σ++[zc,.av 5 [[.p (.int .i64 0),.p (.int .i64 0),.p (.int .u64 0),.p (.str (bs [])),.sl σ.length 0]] false]):=by
 simp[uX,aX,mkObj,ae]
theorem DO(r:du)(h:gk r)(hne:r.left≠[])(hn:∀a∈r.left,a.root.size≤9223372036854775807)(ht:∀g∈r.guards,iD (jB g)∧(jB g).count≤1000000)(hG:∀g∈r.guards,∀σ,l5 P gG [.p (.agg g.row)] σ=some (.p (.agg (jB g).row),σ)):R P il [.agg r.row]=some (.jY [.aO ((yw r).map Term.row),.agg (og r).fj.row,.agg r.right.fj.row]):=by
 have hll:=h.ll;have h0:=Yy r h hn;have hfl:=A3 zS 1 r.left fun a _=>Es a
 have h1:=YA r h ht hG (r.left.flatMap zS) (by omega)
 have hrc:=h.rt.2;have v2:=jX r.right h.rt.1 (by omega)
 unfold og;cases hl:r.left with
 |nil=>exact absurd hl hne
 |cons a l=>
 have hat:=h.lt a (by rw[hl];simp)
 have v1:=jX a.pat hat.1 (by omega)
 have u1:=vS r;have hx:∀σ,gj σ 6 (.p (.aO (a.row::l.map Atom.row))) (.p (.int .i64 0))=some (.p (.ptr a.row 0)):=fun σ=>aH (k:=.i64) (es:=6) (σ:=σ) (aw (f:=Atom.row) (l:=a::l) (i:=0) (a:=a) rfl) a.az
 have hlen:((((a::l).length:Nat):Int)=0)=False:=by simp;omega
 have e:yw r=r.left.flatMap zS++r.guards.map fun g=>(jB g).fj:=rfl
 rw[e];rw[hl]at h0 h1 u1 ⊢;generalize (a::l).flatMap zS=H at *;generalize (r.guards.map fun g=>(jB g).fj)=G at *
 rw[rK]at u1;simp only[To,sEq,z5,hl,B0,nz,Ic,rK]at h0;simp only[XW,sEq,z5,hl,B0,nz,Ic]at h1;simp only[lZ]at h0 hlen
 (rw[Nt (aD rfl),oZ];simp(disch:=omega)only[aB,↓aa,seval,-List.reduceReplicate,reduceCtorEq,ae,bj,aK,u1,BT,MF,afH,lZ,nz,vL,y8,F9,aR,KB,h0,iE,lH,KD,h1,kK,hlen,hx,lY,jW,v1,v2,z5])
def HGT:Prop:=∀g:Gd,iD g.a→iD g.b→g.a.count≤400→g.b.count≤400→∀σ,l5 P gG [.p (.agg g.row)] σ=some (.p (.agg (jB g).row),σ)
structure F8 (r:du):Prop where
 ok:gk r
 ll:r.left.length≤40
 gl:r.guards.length≤40
 rn:∀a∈r.left,a.root.size≤9223372036854775807
 hG:r.guards=[]∨HGT
theorem BQ{o w:Int}{l:List Term}(ho : -9223372036854775808≤o∧o≤9223372036854775807)(hw : -9223372036854775808≤w∧w≤9223372036854775807)(hl:l.length≤10)(ht:∀t∈l,iD t):iD (.mk o w 0 (bs []) l) :=
 .mk _ ho hw (show RJ 0 from⟨by decide,by decide⟩) (by show(bs []).size≤_;decide) (by show l.length≤_;omega) ht
theorem count_mk{o w v:Int}{n:ByteArray}{l:List Term}:(Term.mk o w v n l).count=1+Term.counts l:=by rw[Term.count_eq];rfl
theorem wm:Term.counts []=0:=by rw[Term.counts]
theorem AZ{a:Term}{l:List Term}:Term.counts (a::l)=a.count+Term.counts l:=by rw[Term.counts]
theorem aiB{k:Int}{a b:Term}(ha:iD a)(hb:iD b)(ca:a.count≤400)(cb:b.count≤400):iD (Tw k a b)∧(Tw k a b).count≤2000:=by
 have hab:∀t∈[a,b],iD t:=by intro t ht;simp at ht;rcases ht with rfl|rfl<;>assumption
 unfold Tw;split
 ·exact⟨ha,by omega⟩
 split
 ·refine⟨BQ ⟨by decide,by decide⟩ ⟨by decide,by decide⟩ (by simp) hab,?_⟩
  simp only[count_mk,AZ,wm];omega
 split
 ·refine⟨BQ ⟨by decide,by decide⟩ ⟨by decide,by decide⟩ (by simp) ?_,?_⟩
  ·intro t ht
   simp at ht;rcases ht with rfl|rfl
   ·exact BQ ⟨by decide,by decide⟩ ha.w (by simp) hab
   ·exact BQ ⟨by decide,by decide⟩ ha.w (by simp) (by simp)
  ·simp only[count_mk,AZ,wm];omega
 split
 ·refine⟨BQ ⟨by decide,by decide⟩ ⟨by decide,by decide⟩ (by simp) hab,?_⟩
  simp only[count_mk,AZ,wm];omega
 ·refine⟨BQ ⟨by decide,by decide⟩ ⟨by decide,by decide⟩ (by simp) (by simp),?_⟩
  simp only[count_mk,wm];omega
theorem zO{r:du}(h:F8 r):∀g∈r.guards,iD (jB g)∧(jB g).count≤2000:=fun g hg=>by
 have:=h.ok.gt g hg;exact aiB this.1 this.2.1 this.2.2.1 this.2.2.2
theorem ajM{r:du}(h:F8 r):∀g∈r.guards,∀σ,l5 P gG [.p (.agg g.row)] σ=some (.p (.agg (jB g).row),σ):=by
 rcases h.hG with h0|h0
 ·rw[h0];simp
 ·intro g hg
  have:=h.ok.gt g hg;exact h0 g this.1 this.2.1 this.2.2.1 this.2.2.2
theorem ajo{a:Atom}:(ub a).count=1:=by show Term.count (.mk 24 a.pat.w 0 a.root [])=1;rw[count_mk,wm]
theorem afY{r:du}(h:F8 r)(hne:r.left≠[]):∀t∈DY (yw r) (og r).fj r.right.fj,iD t∧t.count≤10000:=by
 intro t ht;unfold DY yw at ht;rcases D6.1 ht with ht|ht
 ·rcases D6.1 ht with ht|ht
  ·obtain⟨a,ha,ht⟩:=MK.1 ht
   have hat:=h.ok.lt a ha;unfold zS at ht;split at ht
   ·simp at ht
   ·rw[J7.1 ht]
    refine⟨BQ ⟨by decide,by decide⟩ ⟨by decide,by decide⟩ (by simp) ?_,?_⟩
    ·intro u hu
     simp at hu;rcases hu with rfl|rfl
     ·exact JS _ (Rq h.ok ha (h.rn a ha))
     ·exact JS _ hat.1
    ·have h1:=CF (ub a)
     have h2:=CF a.pat;rw[ajo]at h1;simp only[count_mk,AZ,wm];omega
  ·obtain⟨g,hg,rfl⟩:=Gq.1 ht
   have h1:=zO h g hg;have h2:=CF (jB g);exact⟨JS _ h1.1,by omega⟩
 ·simp only[pU,ab9,or_false]at ht
  rcases ht with rfl|rfl
  ·unfold og
   cases hl:r.left with
   |nil=>exact absurd hl hne
   |cons a l=>
    have hat:=h.ok.lt a (by rw[hl];simp)
    have h2:=CF a.pat;exact⟨JS _ hat.1,by show a.pat.fj.count≤10000;omega⟩
  ·have h2:=CF r.right
   have:=h.ok.rt.2;exact⟨JS _ h.ok.rt.1,by omega⟩
theorem Yu{r:du}(h:F8 r):(yw r).length≤90:=by
 have h1:=A3 zS 1 r.left fun a _=>Es a
 have h2:=h.ll;have h3:=h.gl;unfold yw;rw[jS,aR];omega
def aiu(r:du):Int:=if ¬x4 r=0 then x4 r else if Pu r=true then 3 else SR (yw r) (og r).fj r.right.fj
def alQ(r:du):Bool:=if ¬x4 r=0 then false else if Pu r=true then false else afw (yw r) (og r).fj r.right.fj
def au0(r:du):List Bd:=if ¬x4 r=0 then[]else if Pu r=true then[]else afv (yw r) (og r).fj r.right.fj
theorem JH(r:du)(h:F8 r):R P oN [.agg r.row]=some (.jY [.bool (alQ r),.aO ((au0 r).map W4),.int .i64 (aiu r)]):=by
 have hll:=h.ll;have k1:=y3 r h.ok (by omega)
 have k2:=vF r h.ok;unfold alQ au0 aiu;rcases cY (x4 r=0)with c1|c1
 rotate_left
 ·have c1':=of_eq_false c1
  simp only[c1',not_false_eq_true,if_true]
  (rw[Dg (aD rfl),oB];simp(disch:=omega)only[aB,↓aa,seval,-List.reduceReplicate,reduceCtorEq,ae,bj,aK,dW,k1,c1])
 have c1':=of_eq_true c1;rw[c1']at k1;simp only[c1',not_true,if_false];cases c2:Pu r with
 |true=>
  rw[c2]at k2;simp only[if_true]
  (rw[Dg (aD rfl),oB];simp(disch:=omega)only[aB,↓aa,seval,-List.reduceReplicate,reduceCtorEq,ae,bj,aK,dW,k1,dr,k2])
 |false=>
  rw[c2]at k2;simp only[lG,if_false];have hne:=(Ve ((FB r).1 c1')).1;have ke:=DO r h.ok hne h.rn (fun g hg=>⟨(zO h g hg).1,by have:=(zO h g hg).2;omega⟩) (ajM h)
  have kv:=Nx (yw r) (og r).fj r.right.fj (afY h hne) (Yu h)
  (rw[Dg (aD rfl),oB];simp(disch:=omega)only[aB,↓aa,seval,-List.reduceReplicate,reduceCtorEq,ae,bj,aK,dW,k1,dr,k2,DJ,ke,Nl,kv])
def upX(r:du)(v:Int):Option du:=if Pu r=true then atR v r else some r
def upF(r:du)(v:Int):Unit ⊕ (Int×Int):=match upX r v with
 |none=>.inr (v,3)
 |some x=>if ¬aiu x=0 then .inr (v,aiu x)else if alQ x=false then .inr (v,0)else .inl ()
def agc(r:du)(w:Int):Int:=if Pu r=true then min (max w 1) 8 else 1
def aiD(r:du)(w:Int):List PV :=
 if ¬x4 r=0 then[.bool false,.int .i64 1,.int .i64 (x4 r)]
 else match aq (S:=Unit) (T:=Int×Int) (fun _ _ v=>upF r v) 0 () ((List.range (agc r w).toNat).map fun k:Nat=>(k:Int)+1)with
  |.inl _=>[.bool true,.int .i64 0,.int .i64 0]
  |.inr (v,e)=>[.bool false,.int .i64 v,.int .i64 e]
theorem apl{vs:List AV}{a:Obj}:gc 0 vs [a]=if C2 0 vs [a]=true then[]else[a]:=by unfold gc;rw[if_neg (by simp)];rfl
theorem Pz{σ:ah}(r:du):vO σ 8 false (cellsOf 8 true (.p (.agg r.row)))=some (.ptr σ.length 1 0 0,σ++[.pv 8 [r.row] false]):=by
 rw[du.a6];rfl
theorem T7(r x:du):eY [.pv 8 [r.row] false] 8 (.ptr 0 1 0 0) (.p (.agg x.row))=some [.pv 8 [x.row] false]:=by
 rw[du.a6 r,du.a6 x];rfl
theorem TI(r:du):RF 1 0 0 8 true (some (.pv 8 [r.row] false))=some (.p (.agg r.row)):=by rw[du.a6];rfl
abbrev Km(r:du)(n i:Int):List (Nat×AV):=[(2,.p (.ptr r.row 0)),(8,.p (.int .i64 n)),(9,.p (.int .i64 (i+1)))]
def IY(x:Int×Int)(q:Ex×St):Prop:=q.1=.ret∧q.2.τ.get 4=.p (.bool false)∧q.2.τ.get 5=.p (.int .i64 x.1)∧q.2.τ.get 6=.p (.int .i64 x.2)
theorem aeU{n i:Nat}{a:Int}(h:((List.range n).map fun k:Nat=>(k:Int)+1)[i]?=some a):a=(i:Int)+1∧i<n:=by
 rw[AR,ib]at h;obtain⟨k,hk,rfl⟩:=h;obtain⟨h1,h2⟩:=gA.1 hk;rw[ab3]at h1;rw[List.getElem_range]at h2;exact⟨by omega,h1⟩
theorem ahF{r:du}(h:N0 r):∀g∈r.guards,1≤g.kind∧g.kind≤4:=by
 have hg:=h.gd;generalize fP r=hs at hg;generalize k9 r=ns at hg
 have key:∀l:List Gd,zQ hs ns l=0→∀g∈l,Ep g hs ns=0:=by
  intro l
  induction l with
  |nil=>simp
  |cons b l ih=>
   intro h g hm;unfold zQ at h;split at h
   ·rename_i h0
    rcases pU.1 hm with rfl|hm
    ·exact h0
    ·exact ih h g hm
   ·rename_i h0;exact absurd h h0
 intro g hm;have:=key _ hg g hm;unfold Ep at this;split at this
 ·cases this
 ·rename_i hf
  exact adY (by simpa using hf)
theorem LA(r:du)(n:Nat)(hn:n≤8)(h:F8 r)(hg:N0 r)(hF:∀v x,1≤v→v≤8→upX r v=some x→F8 x):pP (fun _:Unit=>True∧al P fe (Km r n 0) [] 60 none=back P [2,8,9] cC 0 (exec P cC ⟨tm (Km r n n),[],60,none⟩)) (fun x:Int×Int=>∃q,al P fe (Km r n 0) [] 60 none=some q∧IY x q) (aq (fun _ _ v=>upF r v) 0 () ((List.range n).map fun k:Nat=>(k:Int)+1)):=by
 have hlen:((List.range n).map fun k:Nat=>(k:Int)+1).length=n:=by simp
 have k2:=vF r h.ok
 have hL:=cE (P:=P) (nt:=60) (lv:=[2,8,9]) (b:=cC) (rd:=none) (as:=(List.range n).map fun k:Nat=>(k:Int)+1) (fun i (_:Unit)=>Km r n i) (fun _=>[]) (fun _ _ v=>upF r v) IY (fun _ _=>True)
  (fun i v s ha hi _=>by
   refine⟨fun _ _=>trivial,?_⟩
   obtain⟨hv,hi'⟩:=aeU ha;have hle:(((i:Int)+1)≤n)=True:=by simp;omega
   have hw:IntKind.i64.wrap ((i:Int)+1+1)=(i:Int)+1+1:=IntWalk.i64_in _ (by omega)
   have ka:=aim r ((i:Int)+1) ⟨by omega,by omega⟩ h.ok (ahF hg)
   unfold ap5 at ka;rw[if_pos ⟨by omega,by omega⟩]at ka
   rw[hv];unfold upF;have hFx:=hF ((i:Int)+1);unfold upX at hFx ⊢;cases c2:Pu r with
   |true=>
    rw[c2]at k2 hFx;simp only[if_true]at hFx ⊢;cases hx:atR ((i:Int)+1) r with
    |none=>
     rw[hx]at ka;simp only[acQ]at ka;simp only[cC];simp(disch:=omega)only[aB,↓aa,seval,-List.reduceReplicate,reduceCtorEq,ae,hle,bj,aK,Pz,dr,k2,FZ,ka,Km,IY]
    |some x=>
     rw[hx]at ka;simp only[acQ]at ka;have ks:=JH x (hFx x (by omega) (by omega) hx)
     simp only
     rcases cY (aiu x=0)with c3|c3
     rotate_left
     ·rw[if_pos (of_eq_false c3)]
      simp only[cC];simp(disch:=omega)only[aB,↓aa,seval,-List.reduceReplicate,reduceCtorEq,ae,hle,bj,aK,Pz,T7,TI,dr,k2,FZ,ka,rA,ks,c3,Km,IY]
     ·rw[if_neg (not_not_intro (of_eq_true c3))]
      rw[of_eq_true c3]at ks;cases c4:alQ x with
      |false=>
       rw[c4]at ks;simp only[if_true];simp only[cC];simp(disch:=omega)only[aB,↓aa,seval,-List.reduceReplicate,reduceCtorEq,ae,hle,bj,aK,Pz,T7,TI,dr,k2,FZ,ka,rA,ks,Km,IY]
      |true=>
       rw[c4]at ks;simp only[N4,if_false];simp only[cC];simp(disch:=omega)only[aB,↓aa,seval,-List.reduceReplicate,reduceCtorEq,ae,hle,bj,aK,Pz,T7,TI,dr,k2,FZ,ka,rA,ks,hw,apl,Km,IY]
       try rfl
   |false=>
    rw[c2]at k2 hFx;simp only[lG,if_false]at hFx ⊢;have ks:=JH r h;rcases cY (aiu r=0)with c3|c3
    rotate_left
    ·rw[if_pos (of_eq_false c3)]
     simp only[cC];simp(disch:=omega)only[aB,↓aa,seval,-List.reduceReplicate,reduceCtorEq,ae,hle,bj,aK,Pz,T7,TI,dr,k2,rA,ks,c3,Km,IY]
    ·rw[if_neg (not_not_intro (of_eq_true c3))]
     rw[of_eq_true c3]at ks;cases c4:alQ r with
     |false=>
      rw[c4]at ks;simp only[if_true];simp only[cC];simp(disch:=omega)only[aB,↓aa,seval,-List.reduceReplicate,reduceCtorEq,ae,hle,bj,aK,Pz,T7,TI,dr,k2,rA,ks,Km,IY]
     |true=>
      rw[c4]at ks;simp only[N4,if_false];simp only[cC];simp(disch:=omega)only[aB,↓aa,seval,-List.reduceReplicate,reduceCtorEq,ae,hle,bj,aK,Pz,T7,TI,dr,k2,rA,ks,hw,apl,Km,IY]
      try rfl) (fun i s=>rfl) () trivial
 rw[hlen]at hL;exact hL
theorem CC(r:du)(w:Int)(hw : -9223372036854775808≤w∧w≤9223372036854775807)(h:F8 r)(hF:N0 r→∀v x,1≤v→v≤8→upX r v=some x→F8 x):R P fW [.agg r.row,.int .i64 w]=some (.jY (aiD r w)):=by
 have hll:=h.ll;have k1:=y3 r h.ok (by omega)
 have k2:=vF r h.ok;unfold aiD;rcases cY (x4 r=0)with c1|c1
 rotate_left
 ·have c1':=of_eq_false c1
  simp only[c1',not_false_eq_true,if_true]
  (rw[nL (aD rfl),eP];simp(disch:=omega)only[aB,↓aa,seval,-List.reduceReplicate,reduceCtorEq,ae,bj,aK,dW,k1,c1])
 have c1':=of_eq_true c1;have hg:=(FB r).1 c1';rw[c1']at k1;simp only[c1',not_true,if_false];unfold agc;cases c2:Pu r with
 |true=>
  rw[c2]at k2;simp only[if_true];have hm1:1≤min (max w 1) 8:=by omega
  have hm8:min (max w 1) 8≤8:=by omega
  generalize hmm:min (max w 1) 8=m at *;obtain⟨n,rfl⟩:=Int.eq_ofNat_of_zero_le (show 0≤m by omega)
  have hL:=LA r n (by omega) h hg (hF hg)
  simp only[acm];cases hf:aq (S:=Unit) (T:=Int×Int) (fun _ _ v=>upF r v) 0 () ((List.range n).map fun k:Nat=>(k:Int)+1)with
  |inl u=>
   rw[hf]at hL;obtain⟨_,hL⟩:=hL;have h':al P fe [(2,.p (.ptr r.row 0)),(8,.p (.int .i64 n)),(9,.p (.int .i64 1))] [] 60 none=_:=hL;have Wz:((n:Int)+1≤n)=False:=by simp;omega
   (rw[nL (aD rfl),eP];simp(disch:=omega)only[aB,↓aa,seval,-List.reduceReplicate,reduceCtorEq,ae,bj,aK,dW,k1,dr,k2,hmm,pQ,h',cC,Km,Wz])
  |inr x=>
   obtain⟨x1,x2⟩:=x;rw[hf]at hL;obtain⟨⟨e',τ',σ',nt',rd'⟩,g1,g2,g3,g4,g5⟩:=hL
   simp only at g2 g3 g4 g5
   subst g2;have h':al P fe [(2,.p (.ptr r.row 0)),(8,.p (.int .i64 n)),(9,.p (.int .i64 1))] [] 60 none=_:=g1
   (rw[nL (aD rfl),eP];simp(disch:=omega)only[aB,↓aa,seval,-List.reduceReplicate,reduceCtorEq,ae,bj,aK,dW,k1,dr,k2,hmm,pQ,h',g3,g4,g5])
 |false=>
  rw[c2]at k2;simp only[lG,if_false];have hL:=LA r 1 (by omega) h hg (hF hg)
  have e1:(1:Int).toNat=1:=rfl;rw[e1];cases hf:aq (S:=Unit) (T:=Int×Int) (fun _ _ v=>upF r v) 0 () ((List.range 1).map fun k:Nat=>(k:Int)+1)with
  |inl u=>
   rw[hf]at hL;obtain⟨_,hL⟩:=hL;have h':al P fe [(2,.p (.ptr r.row 0)),(8,.p (.int .i64 1)),(9,.p (.int .i64 1))] [] 60 none=_:=hL
   (rw[nL (aD rfl),eP];simp(disch:=omega)only[aB,↓aa,seval,-List.reduceReplicate,reduceCtorEq,ae,bj,aK,dW,k1,dr,k2,pQ,h',cC,Km])
  |inr x=>
   obtain⟨x1,x2⟩:=x;rw[hf]at hL;obtain⟨⟨e',τ',σ',nt',rd'⟩,g1,g2,g3,g4,g5⟩:=hL
   simp only at g2 g3 g4 g5
   subst g2;have h':al P fe [(2,.p (.ptr r.row 0)),(8,.p (.int .i64 1)),(9,.p (.int .i64 1))] [] 60 none=_:=g1
   (rw[nL (aD rfl),eP];simp(disch:=omega)only[aB,↓aa,seval,-List.reduceReplicate,reduceCtorEq,ae,bj,aK,dW,k1,dr,k2,pQ,h',g3,g4,g5])
theorem PU{α β:Type}{f:α→Option β}:∀{l:List α} {m:List β},omap f l=some m→m.length=l.length∧∀b∈m,∃a∈l,f a=some b
 | [],m,h=>by simp only[omap,bN]at h;subst h;simp
 |a::l,m,h=>by
  simp only[omap]at h;cases ha:f a with
  |none=>rw[ha]at h;cases h
  |some b=>
   rw[ha]at h;cases hm:omap f l with
   |none=>rw[hm]at h;cases h
   |some bs=>
    rw[hm]at h;simp only[bN]at h;subst h;have ih:=PU hm;refine⟨by simp[ih.1],fun x hx=>?_⟩
    rcases pU.1 hx with rfl|hx
    ·exact⟨a,by simp,ha⟩
    ·obtain⟨y,hy,h2⟩:=ih.2 x hx
     exact⟨y,by simp[hy],h2⟩
theorem ajd{w:Int}{r x:du}(h:atR w r=some x):∃l gs,omap (atA w) r.left=some l∧(r.right.yf w).2=true∧omap (atG w) r.guards=some gs∧x=⟨r.name,l,(r.right.yf w).1,gs⟩:=by
 unfold atR at h;cases hl:omap (atA w) r.left with
 |none=>rw[hl]at h;cases h
 |some l=>
  rw[hl]at h
  simp only at h
  split at h
  ·rename_i hr
   cases hg:omap (atG w) r.guards with
   |none=>rw[hg]at h;cases h
   |some gs=>
    rw[hg]at h;simp only[bN]at h;exact⟨l,gs,rfl,hr,rfl,h.symm⟩
  ·cases h
theorem WS{w:Int}{a b:Atom}(h:atA w a=some b):(a.pat.yf w).2=true∧b=⟨a.root,(a.pat.yf w).1⟩:=by
 unfold atA at h;split at h
 ·rename_i h1;exact⟨h1,by simpa using h.symm⟩
 ·cases h
theorem ajc{w:Int}{g b:Gd}(h:atG w g=some b):(g.a.yf w).2=true∧((g.kind=1∧b=⟨g.kind,(g.a.yf w).1,g.b⟩)∨(¬g.kind=1∧(g.b.yf w).2=true∧b=⟨g.kind,(g.a.yf w).1,(g.b.yf w).1⟩)):=by
 unfold atG at h;split at h
 ·rename_i h1
  refine⟨h1,?_⟩;split at h
  ·rename_i h2;exact .inl ⟨h2,by simpa using h.symm⟩
  ·rename_i h2
   split at h
   ·rename_i h3;exact .inr ⟨h2,h3,by simpa using h.symm⟩
   ·cases h
 ·cases h
theorem Uo{wd:Int}(hwd:1≤wd∧wd≤64){ev:Bool}{t:Term}(h:cW t ev=0)(hk:(t.yf wd).2=true):(t.yf wd).1.count=t.count:=by
 have ha:=atd wd hwd ev t (Lg h) hk;rw[←Term.nc,←Term.nc];exact ha.rel.len
theorem Ys{hs ns:List V2}:∀{l:List Gd},zQ hs ns l=0→∀g∈l,Ep g hs ns=0
 | [],_=>by simp
 |b::l,h=>by
  intro g hm;unfold zQ at h;split at h
  ·rename_i h0
   rcases pU.1 hm with rfl|hm
   ·exact h0
   ·exact Ys h g hm
  ·rename_i h0;exact absurd h h0
theorem ajY{g:Gd}{hs ns:List V2}:Ep g hs ns=0↔Io g=true∧cW g.a false=0∧(¬g.kind=1→cW g.b false=0)∧ajX g hs ns=true∧g.a.w=(if g.kind=1 then 1 else g.b.w):=by
 unfold Ep;constructor
 ·intro h
  split at h
  ·cases h
  rename_i h1;split at h
  ·rename_i h2;exact absurd h h2
  rename_i h2;split at h
  ·rename_i h3;exact absurd h h3.2
  rename_i h3;split at h
  ·cases h
  rename_i h4;by_cases h5:¬g.a.w=(if g.kind=1 then 1 else g.b.w)
  ·rw[if_pos h5]at h;cases h
  exact⟨by simpa using h1,Ww.1 h2,fun hk=>abO fun hb=>h3 ⟨hk,hb⟩,by simpa using h4,Ww.1 h5⟩
 ·rintro⟨h1,h2,h3,h4,h5⟩
  rw[if_neg (by rw[h1];decide),if_neg (not_not_intro h2),if_neg (fun h=>h.2 (h3 h.1)),if_neg (by rw[h4];decide),if_neg (not_not_intro h5)]
theorem aqq{r x:du}{v:Int}(hv:1≤v∧v≤64)(h:F8 r)(hg:N0 r)(hx:atR v r=some x):F8 x:=by
 obtain⟨l,gs,h1,h2,h3,rfl⟩:=ajd hx;have hl:=PU h1;have hgs:=PU h3;have hv' : -9223372036854775808≤v∧v≤9223372036854775807:=⟨by omega,by omega⟩
 refine⟨⟨?_,?_,?_,?_,?_⟩,?_,?_,?_,?_⟩
 ·show l.length≤1000
  rw[hl.1];exact h.ok.ll
 ·intro b hb
  obtain⟨a,ha,hab⟩:=hl.2 b hb;obtain⟨e1,rfl⟩:=WS hab;have hat:=h.ok.lt a ha;refine⟨Ro v hv' a.pat hat.1,?_⟩
  show(a.pat.yf v).1.count≤400
  rw[Uo hv (Oc (OO hg.la a ha)).1 e1];exact hat.2
 ·refine⟨Ro v hv' r.right h.ok.rt.1,?_⟩
  show(r.right.yf v).1.count≤400
  rw[Uo hv hg.rt h2];exact h.ok.rt.2
 ·show gs.length≤1000
  rw[hgs.1];exact h.ok.gl
 ·intro b hb
  obtain⟨g,hgm,hab⟩:=hgs.2 b hb;have Wz:=h.ok.gt g hgm;obtain⟨e0,e1,e2,e3,e4⟩:=ajY.1 (Ys hg.gd g hgm);obtain⟨k1,k2⟩:=ajc hab;have ca:=Uo hv e1 k1;rcases k2 with⟨k2,rfl⟩|⟨k2,k3,rfl⟩
  ·refine⟨Ro v hv' _ Wz.1,Wz.2.1,?_,Wz.2.2.2⟩
   show(g.a.yf v).1.count≤400
   rw[ca];exact Wz.2.2.1
  ·have cb:=Uo hv (e2 k2) k3
   refine⟨Ro v hv' _ Wz.1,Ro v hv' _ Wz.2.1,?_,?_⟩
   ·show(g.a.yf v).1.count≤400
    rw[ca];exact Wz.2.2.1
   ·show(g.b.yf v).1.count≤400
    rw[cb];exact Wz.2.2.2
 ·show l.length≤40
  rw[hl.1];exact h.ll
 ·show gs.length≤40
  rw[hgs.1];exact h.gl
 ·intro b hb
  obtain⟨a,ha,hab⟩:=hl.2 b hb;obtain⟨e1,rfl⟩:=WS hab;exact h.rn a ha
 ·rcases h.hG with h0|h0
  ·left
   show gs=[];rw[h0]at hgs;exact Lc.1 hgs.1
  ·exact .inr h0
theorem ajN{r:du}(h:F8 r)(hg:N0 r)(v:Int)(x:du)(h1:1≤v)(h8:v≤8)(hx:upX r v=some x):F8 x:=by
 unfold upX at hx;split at hx
 ·exact aqq ⟨h1,by omega⟩ h hg hx
 ·simp only[bN]at hx
  rw[←hx];exact h
def hA:Term:=.mk 24 0 0 (bs [97]) []
def pL:Term:=.mk 8 0 0 (bs []) [hA,hA]
def pR:Term:=.mk 13 0 0 (bs []) [hA,.mk 2 0 1 (bs []) []]
def rX1:du:=⟨bs [100,111,117,98,108,101],[⟨bs [],pL⟩],pR,[]⟩
def rX2:du:=⟨bs [100,111,117,98,108,101],[⟨bs [],pL⟩],hA,[]⟩
theorem awt:aiD rX1 3=[.bool true,.int .i64 0,.int .i64 0]:=by
 have:(match aq (S:=Unit) (T:=Int×Int) (fun _ _ v=>upF rX1 v) 0 () ((List.range (agc rX1 3).toNat).map fun k:Nat=>(k:Int)+1)with|.inl _=>true|.inr _=>false)=true∧x4 rX1=0:=by decide +kernel
 obtain⟨h1,h2⟩:=this;unfold aiD;rw[if_neg (not_not_intro h2)];split at h1
 ·rename_i h;rw[h]
 ·cases h1
theorem awu:aiD rX2 3=[.bool false,.int .i64 1,.int .i64 0]:=by
 have:(match aq (S:=Unit) (T:=Int×Int) (fun _ _ v=>upF rX2 v) 0 () ((List.range (agc rX2 3).toNat).map fun k:Nat=>(k:Int)+1)with|.inl _=>false|.inr x=>decide (x=(1,0)))=true∧x4 rX2=0:=by decide +kernel
 obtain⟨h1,h2⟩:=this;unfold aiD;rw[if_neg (not_not_intro h2)];split at h1
 ·cases h1
 ·rename_i x h;rw[h]
  have:=of_decide_eq_true h1;subst this;rfl
theorem atI:Pu rX2=true:=by decide +kernel
theorem Mx(o:Int)(a b:Term):R P kr [.int .i64 o,.agg a.row,.agg b.row]=some (.agg (Term.mk o 1 0 (bs []) [a,b]).row):=by
 (rw[Zc (aD rfl),xB];simp(disch:=omega)only[aB,↓aa,seval,-List.reduceReplicate,reduceCtorEq,ae,afp,NU,rV,Ut])
theorem ajg{o w:Int}:j7 [.p (.int .i64 0),.p (.int .i64 0),.p (.int .u64 0),.p (.str (bs [])),.aA] [(0,1,.p (.int .i64 o)),(1,1,.p (.int .i64 w))]=some (.agg [.p (.int .i64 o),.p (.int .i64 w),.p (.int .u64 0),.p (.str (bs [])),.aA]):=rfl
theorem KV{σ:ah}:refs σ 11 .aA=[]:=rfl
theorem atZ{t:Term}:RF 1 0 1 1 false (some (.pv 5 [t.row] false))=some (.p (.int .i64 t.w)):=by rw[Term.a6];rfl
theorem au8{ops:List gr}{i d1 d2 k b nt:Nat}{st:St}{τ:Tm}{σ:ah}(h1:Dp (ops.drop i)=some (d1,d2,k))(h2:FJ τ (ops.drop i)=true)(h3:τ.get d1=.ptr b 1 0 0)(h4:st.σ.length+k≤b)(h5:σ.all (Obj.below (b-k))=true)(h6:∀t,t≠d1→t≠d2→below (b-k) (τ.get t)=true):Dn ops [(i,i+1)] st ⟨τ,σ,nt,rd⟩=true:=by
 unfold Dn;simp only[h1,h2,h3,h5,beq_self_eq_true,Uk,abX,vM,decide_eq_true_eq,CS,RC,beq_iff_eq];refine⟨h4,fun t _=>?_⟩
 by_cases e1:t=d1
 ·exact .inl (.inl e1)
 ·by_cases e2:t=d2
  ·exact .inl (.inr e2)
  ·exact .inr (h6 t e1 e2)
theorem Wz:HGT:=by
 intro g ta tb ca cb;have k1:=ud g.a (by omega)
 have k2:=ud g.b (by omega)
 suffices h:R P gG [.agg g.row]=some (.agg (jB g).row) by
  intro σ;simp(disch:=omega)only[aB,↓aa,seval,-List.reduceReplicate,reduceCtorEq,ae,VM,h]
 (rw[VS (aD rfl),uC];simp(disch:=omega)only[aB,↓aa,seval,-List.reduceReplicate,reduceCtorEq,ae,bB,aQ,qP,uk,um,qV,k1,k2,Bq,ua,Br,j6,eW,xQ,Ab,Bool.or_self,lG,if_false])
 rw[if_pos];rotate_left
 ·refine au8 (i:=6) (b:=3) (k:=1) rfl rfl rfl (show 2+1≤3 by decide) ?_ (fun t h1 h2=>?_)
  ·simp[Obj.below,below]
  ·simp only[ef]
   repeat' split
   all_goals try first|exact absurd (Eq.symm (by assumption)) h1|exact absurd (Eq.symm (by assumption)) h2|(simp[below];done)
   show below 2 (lk [(0,AV.p (PV.agg g.row))] t)=true;simp only[lk];split<;>simp[below]
 have t1:=Mx
 have t2:∀(o:Int) (a:Term) (w:Int),R P kr [.int .i64 o,.agg a.row,.agg [.int .i64 2,.int .i64 w,.int .u64 0,.str (bs []),.aO []]]=some (.agg (Term.mk o 1 0 (bs []) [a,.mk 2 w 0 (bs []) []]).row):=fun o a w=>by
  have:=Mx o a (.mk 2 w 0 (bs []) []);rw[Term.a6 (.mk 2 w 0 (bs []) [])]at this;exact this
 unfold jB Tw;rcases cY (g.kind=1)with h1|h1
 ·rw[if_pos (of_eq_true h1)]
  simp(disch:=omega)only[aB,↓aa,seval,-List.reduceReplicate,reduceCtorEq,ae,qP,h1]
 rw[if_neg (of_eq_false h1)];rcases cY (g.kind=2)with h2|h2
 ·rw[if_pos (of_eq_true h2)]
  simp(disch:=omega)only[aB,↓aa,seval,-List.reduceReplicate,reduceCtorEq,ae,qP,h1,h2,Fk,t1]
 rw[if_neg (of_eq_false h2)];rcases cY (g.kind=3)with h3|h3
 ·rw[if_pos (of_eq_true h3)]
  simp(disch:=omega)only[aB,↓aa,seval,-List.reduceReplicate,reduceCtorEq,ae,qP,h1,h2,h3,Fk,t1,t2,rV,Ut,ajg,atZ,KV,bL,ite_self]
 rw[if_neg (of_eq_false h3)];rcases cY (g.kind=4)with h4|h4
 ·rw[if_pos (of_eq_true h4)]
  simp(disch:=omega)only[aB,↓aa,seval,-List.reduceReplicate,reduceCtorEq,ae,qP,h1,h2,h3,h4,Fk,t1]
 rw[if_neg (of_eq_false h4)];simp(disch:=omega)only[aB,↓aa,seval,-List.reduceReplicate,reduceCtorEq,ae,qP,h1,h2,h3,h4]
 rw[Term.a6];rfl
theorem K0(o w:Int)(a b:Term):R P lI [.int .i64 o,.int .i64 w,.agg a.row,.agg b.row]=some (.agg (Term.mk o w 0 (bs []) [a,b]).row):=by
 (rw[aif (aD rfl),BX];simp(disch:=omega)only[aB,↓aa,seval,-List.reduceReplicate,reduceCtorEq,ae,afp,NU,rV,Ut])
theorem afc(g:Gd):R P tf [.agg g.row]=some (.agg (jB g).row):=by
 have t1:=K0
 have t2:∀(o w':Int) (a:Term) (w:Int),R P lI [.int .i64 o,.int .i64 w',.agg a.row,.agg [.int .i64 2,.int .i64 w,.int .u64 0,.str (bs []),.aO []]]=some (.agg (Term.mk o w' 0 (bs []) [a,.mk 2 w 0 (bs []) []]).row):=fun o w' a w=>by
  have:=K0 o w' a (.mk 2 w 0 (bs []) []);rw[Term.a6 (.mk 2 w 0 (bs []) [])]at this;exact this
 unfold jB Tw;rcases cY (g.kind=1)with h1|h1
 ·rw[if_pos (of_eq_true h1)]
  (rw[An (aD rfl),oA];simp(disch:=omega)only[aB,↓aa,seval,-List.reduceReplicate,reduceCtorEq,ae,bB,aQ,qP,uk,um,zP,h1,zh,t1])
 rw[if_neg (of_eq_false h1)];rcases cY (g.kind=2)with h2|h2
 ·rw[if_pos (of_eq_true h2)]
  (rw[An (aD rfl),oA];simp(disch:=omega)only[aB,↓aa,seval,-List.reduceReplicate,reduceCtorEq,ae,bB,aQ,qP,uk,um,zP,h1,h2,zh,t1])
 rw[if_neg (of_eq_false h2)];rcases cY (g.kind=3)with h3|h3
 ·rw[if_pos (of_eq_true h3)]
  (rw[An (aD rfl),oA];simp(disch:=omega)only[aB,↓aa,seval,-List.reduceReplicate,reduceCtorEq,ae,bB,aQ,qP,uk,um,zP,h1,h2,h3,zh,t1,t2,ajg,KV,bL,ite_self])
 rw[if_neg (of_eq_false h3)];rcases cY (g.kind=4)with h4|h4
 ·rw[if_pos (of_eq_true h4)]
  (rw[An (aD rfl),oA];simp(disch:=omega)only[aB,↓aa,seval,-List.reduceReplicate,reduceCtorEq,ae,bB,aQ,qP,uk,um,zP,h1,h2,h3,h4,zh,t1])
 rw[if_neg (of_eq_false h4)]
 (rw[An (aD rfl),oA];simp(disch:=omega)only[aB,↓aa,seval,-List.reduceReplicate,reduceCtorEq,ae,bB,aQ,qP,uk,um,zP,h1,h2,h3,h4,zh,t1])
 rw[Term.a6];rfl
abbrev sQ(s:List Term):ah:=[zc,.av 5 [z5 0] false,zc,.av 5 [z5 2] false,.pv 5 (s.map Term.row) false]
abbrev ahk(r:du)(s:List Term)(i:Int):List (Nat×AV):=[(1,.p (.ptr r.row 0)),(3,.ptr 1 1 0 0),(4,.ptr 3 1 0 0),(5,.sl 4 s.length),(6,.p (.int .i64 i))]
abbrev ajx(r:du)(s:List Term)(i:Int):List (Nat×AV):=[(1,.p (.ptr r.row 0)),(3,.ptr 1 1 0 0),(4,.ptr 3 1 0 0),(5,.sl 4 s.length),(7,.p (.int .i64 i))]
theorem as9{s:List Term}{t:Term}(hs:s.length≤1000000):AS (sQ s) 5 64 (.sl 4 s.length) (some (.inl [t.row]))=some (.sl 4 (s.length+1),sQ (s++[t])):=by
 rw[dP (σ:=sQ s) (b:=4) (n:=s.length) (e:=5) (es:=5) (bytes:=64) (rows:=s.map Term.row) (new:=[t.row]) rfl (by simp) (.inl rfl) (by simp only[lZ,nz];omega)]
 simp only[sQ,CR,rK,B0];rfl
theorem Vs(r:du)(h:gk r)(hn:∀a∈r.left,a.root.size≤9223372036854775807):al P x9 (ahk r [] 0) (sQ []) 68 none=back P [1,3,4,5,6] jC 5 (exec P jC ⟨tm (ahk r (r.left.flatMap zS) r.left.length),sQ (r.left.flatMap zS),68,none⟩):=by
 have hll:=h.ll
 obtain⟨_,hL⟩:=fY (P:=P) (nt:=68) (lv:=[1,3,4,5,6]) (b:=jC) (rd:=none) (as:=r.left) (fun i (s:List Term)=>ahk r s i) sQ (fun _ s a=>s++zS a) (fun i s=>s.length≤i)
  (fun i a s ha hi hs=>by
   have hm:=mR ha;have hat:=h.lt a hm;have h2:=Es a;refine⟨by rw[jS];omega,?_⟩
   have hlt:((i:Int)<r.left.length)=True:=by simpa using hi
   have hx:=fun σ=>aH (k:=.i64) (es:=6) (σ:=σ) (aw (f:=Atom.row) ha) a.az
   have hr:=HG a;have hcr:(ub a).count≤1000000:=by show Term.count (.mk 24 a.pat.w 0 a.root [])≤_;rw[Term.count_eq];show 1+Term.counts []≤_;decide
   have v1:=pn (ub a) (Rq h hm (hn a hm)) hcr;have v2:=pn a.pat hat.1 (by omega)
   have t1:=K0;have a1:=fun t:Term=>as9 (s:=s) (t:=t) (by omega)
   unfold zS;rcases cY (a.root=bs [])with h1|h1
   ·rw[if_pos (of_eq_true h1),abg]
    simp only[jC];simp(disch:=omega)only[aB,↓aa,seval,-List.reduceReplicate,reduceCtorEq,ae,hlt,vS,aR,hx,iJ,eQ,fN,h1,ahk]
    try rfl
   ·rw[if_neg (of_eq_false h1)]
    simp only[sQ,z5]at a1;simp only[jC];simp(disch:=omega)only[aB,↓aa,seval,-List.reduceReplicate,reduceCtorEq,ae,hlt,vS,aR,hx,iJ,eQ,fN,lY,h1,Hz,hr,ph,v1,v2,zh,t1,fJ,ug,sQ,z5,a1,jS,ahk]
    try rfl) (fun i s=>rfl) [] (by simp) _ (rz zS r.left 0 [])
 exact hL
theorem Vu(r:du)(h:gk r)(ht:∀g∈r.guards,iD (jB g)∧(jB g).count≤1000000)(s0:List Term)(h0:s0.length≤100000):al P yc (ajx r s0 0) (sQ s0) 68 none=back P [1,3,4,5,7] lD 5 (exec P lD ⟨tm (ajx r (s0++r.guards.map fun g=>(jB g).fj) r.guards.length),sQ (s0++r.guards.map fun g=>(jB g).fj),68,none⟩):=by
 have hgl:=h.gl
 obtain⟨_,hL⟩:=fY (P:=P) (nt:=68) (lv:=[1,3,4,5,7]) (b:=lD) (rd:=none) (as:=r.guards) (fun i (s:List Term)=>ajx r s i) sQ (fun _ s g=>s++[(jB g).fj]) (fun i s=>s.length≤s0.length+i)
  (fun i g s ha hi hs=>by
   have hm:=mR ha;refine⟨by rw[jS];simp only[lZ,nz];omega,?_⟩
   have hlt:((i:Int)<r.guards.length)=True:=by simpa using hi
   have hx:=fun σ=>aH (k:=.i64) (es:=11) (σ:=σ) (aw (f:=Gd.row) ha) g.az
   have hg:=afc g;have v1:=pn (jB g) (ht g hm).1 (ht g hm).2;have a1:=fun t:Term=>as9 (s:=s) (t:=t) (by omega)
   simp only[sQ,z5]at a1;simp only[lD];simp(disch:=omega)only[aB,↓aa,seval,-List.reduceReplicate,reduceCtorEq,ae,hlt,BT,aR,hx,bB,aQ,aeE,hg,ph,v1,fJ,ug,sQ,z5,a1,jS,ajx]
   try rfl) (fun i s=>rfl) s0 (by omega) _ (za (fun g:Gd=>(jB g).fj) r.guards 0 s0)
 exact hL
theorem atf{z:List AV}{a b c d:Obj}:lr [a,b,c,d] 5 0 (gR (List.replicate 0 z).flatten [])=some (.sl 4 0,[a,b,c,d,.pv 5 [] false]):=rfl
theorem Rb(r:du)(h:gk r)(hne:r.left≠[])(hn:∀a∈r.left,a.root.size≤9223372036854775807)(ht:∀g∈r.guards,iD (jB g)∧(jB g).count≤1000000):R P k6 [.agg r.row]=some (.jY [.aO ((yw r).map Term.row),.agg (og r).fj.row,.agg r.right.fj.row]):=by
 have hll:=h.ll;have h0:=Vs r h hn;have hfl:=A3 zS 1 r.left fun a _=>Es a
 have h1:=Vu r h ht (r.left.flatMap zS) (by omega)
 have hrc:=h.rt.2;have v2:=pn r.right h.rt.1 (by omega)
 unfold og;cases hl:r.left with
 |nil=>exact absurd hl hne
 |cons a l=>
 have hat:=h.lt a (by rw[hl];simp)
 have v1:=pn a.pat hat.1 (by omega)
 have u1:=vS r;have hx:∀σ,gj σ 6 (.p (.aO (a.row::l.map Atom.row))) (.p (.int .i64 0))=some (.p (.ptr a.row 0)):=fun σ=>aH (k:=.i64) (es:=6) (σ:=σ) (aw (f:=Atom.row) (l:=a::l) (i:=0) (a:=a) rfl) a.az
 have e:yw r=r.left.flatMap zS++r.guards.map fun g=>(jB g).fj:=rfl
 rw[e];rw[hl]at h0 h1 u1 ⊢;generalize (a::l).flatMap zS=H at *;generalize (r.guards.map fun g=>(jB g).fj)=G at *
 rw[rK]at u1;simp only[ahk,sQ,z5,hl,B0,nz]at h0;simp only[ajx,sQ,z5,hl,B0,nz]at h1;simp only[lZ]at h0
 (rw[QU (aD rfl),qg];simp(disch:=omega)only[aB,↓aa,seval,-List.reduceReplicate,reduceCtorEq,ae,bj,aK,u1,BT,MF,afH,atf,lZ,nz,vL,y8,F9,aR,Nb,h0,jC,lH,Nd,h1,lD,hx,lY,ph,v1,v2,z5])
theorem ap2:uX 5 (aX [.p (.int .i64 0),.p (.int .i64 0),.p (.int .u64 0),.p (.str (bs [])),.aA] [])=some (.ptr 1 1 0 0,[zc,.av 5 [[.p (.int .i64 0),.p (.int .i64 0),.p (.int .u64 0),.p (.str (bs [])),.sl 0 0]] false]):=afH
theorem V7(n:ByteArray)(w:Int):R P iX [.str n,.int .i64 w]=some (.agg (Term.mk 24 w 0 n []).row):=by
 (rw[VU (aD rfl),uE];simp(disch:=omega)only[aB,↓aa,seval,-List.reduceReplicate,reduceCtorEq,ae])
 rw[Term.a6];rfl
theorem at3{x y:Term}:j7 [.p (.int .i64 0),.p (.int .i64 0),.p (.int .u64 0),.p (.str (bs [])),.aA] [(0,1,.p (.int .i64 8)),(4,1,.p (.aO [x.row,y.row]))]=some (.p (.agg (Term.mk 8 0 0 (bs []) [x,y]).row)):=by
 rw[Term.a6 (Term.mk 8 0 0 (bs []) [x,y])];rfl
theorem at4{t:Term}:j7 [.p (.str (bs [])),.p (.int .i64 0),.p (.int .i64 0),.p (.int .u64 0),.p (.str (bs [])),.aA] [(1,5,.p (.agg t.row))]=some (.p (.agg (Atom.row ⟨bs [],t⟩))):=by
 rw[Atom.a6,Term.a6];rfl
theorem at5{a:Atom}:Ee σ 6 1 (gR (List.replicate 1 [.p (.str (bs [])),.p (.int .i64 0),.p (.int .i64 0),.p (.int .u64 0),.p (.str (bs [])),.aA]).flatten [(0,6,.p (.agg a.row))])=some (.p (.aO [a.row]),σ):=by
 rw[Atom.a6];rfl
theorem at6:j7 [.p (.int .i64 0),.p (.int .i64 0),.p (.int .u64 0),.p (.str (bs [])),.aA] [(0,1,.p (.int .i64 2)),(2,1,.p (.int .u64 1))]=some (.agg [.p (.int .i64 2),.p (.int .i64 0),.p (.int .u64 1),.p (.str (bs [])),.aA]):=rfl
theorem at7{x:Term}:lr [] 5 2 (gR (List.replicate 2 [.p (.int .i64 0),.p (.int .i64 0),.p (.int .u64 0),.p (.str (bs [])),.aA]).flatten [(0,5,.p (.agg x.row)),(5,5,.agg [.p (.int .i64 2),.p (.int .i64 0),.p (.int .u64 1),.p (.str (bs [])),.aA])])=some (.sl 0 2,[.av 5 [x.row.map .p,[.p (.int .i64 2),.p (.int .i64 0),.p (.int .u64 1),.p (.str (bs [])),.aA]] false]):=by
 rw[Term.a6];rfl
theorem at8:j7 [.p (.int .i64 0),.p (.int .i64 0),.p (.int .u64 0),.p (.str (bs [])),.aA] [(0,1,.p (.int .i64 13)),(4,1,.sl 0 2)]=some (.agg [.p (.int .i64 13),.p (.int .i64 0),.p (.int .u64 0),.p (.str (bs [])),.sl 0 2]):=rfl
theorem at9{s:ByteArray}{l:List (List PV)}:j7 [.p (.str (bs [])),.aA,.p (.int .i64 0),.p (.int .i64 0),.p (.int .u64 0),.p (.str (bs [])),.aA,.aA] [(0,1,.p (.str s)),(1,1,.p (.aO l)),(2,5,.agg [.p (.int .i64 13),.p (.int .i64 0),.p (.int .u64 0),.p (.str (bs [])),.sl 0 2])]=some (.agg [.p (.str s),.p (.aO l),.p (.int .i64 13),.p (.int .i64 0),.p (.int .u64 0),.p (.str (bs [])),.sl 0 2,.aA]):=rfl
theorem av8{s:ByteArray}{l:List (List PV)}{o:Obj}:vO [o] 8 false (cellsOf 8 true (.agg [.p (.str s),.p (.aO l),.p (.int .i64 13),.p (.int .i64 0),.p (.int .u64 0),.p (.str (bs [])),.sl 0 2,.aA]))=some (.ptr 2 1 0 0,[o,zc,.av 8 [[.p (.str s),.p (.aO l),.p (.int .i64 13),.p (.int .i64 0),.p (.int .u64 0),.p (.str (bs [])),.sl 0 2,.sl 1 0]] false]):=rfl
theorem auc{s:ByteArray}{l:List Atom}{x:Term}{o:Obj}:aG [.av 5 [x.row.map .p,[.p (.int .i64 2),.p (.int .i64 0),.p (.int .u64 1),.p (.str (bs [])),.aA]] false,zc,o] 12 (.agg [.p (.str s),.p (.aO (l.map Atom.row)),.p (.int .i64 13),.p (.int .i64 0),.p (.int .u64 0),.p (.str (bs [])),.sl 0 2,.sl 1 0])=some (.agg (du.row ⟨s,l,.mk 13 0 0 (bs []) [x,.mk 2 0 1 (bs []) []],[]⟩)):=by
 rw[du.a6];show _=some (PV.agg [.str s,.aO (l.map Atom.row),.int .i64 13,.int .i64 0,.int .u64 0,.str (bs []),.aO [x.row,(Term.mk 2 0 1 (bs []) []).row],.aO []]);rw[Term.a6 x,Term.a6 (Term.mk 2 0 1 (bs []) [])];simp[aG,omap,zc];exact⟨rfl,rfl,rfl,rfl,rfl⟩
theorem aud{s:ByteArray}{l:List Atom}{x:Term}{o1 o2:Obj}:aG [o1,zc,o2] 12 (.agg [.p (.str s),.p (.aO (l.map Atom.row)),.p (.int .i64 x.op),.p (.int .i64 x.w),.p (.int .u64 x.v),.p (.str x.name),.p (.aO (x.args.map Term.row)),.sl 1 0])=some (.agg (du.row ⟨s,l,x,[]⟩)):=by
 rw[du.a6];simp[aG,omap,zc]
theorem aue{s:ByteArray}{l:List (List PV)}{x:Term}{o1 o2:Obj}{q1 q2 q3 q4:PV}{c5:AV}:stF [o1,o2,.av 8 [[.p (.str s),.p (.aO l),.p q1,.p q2,.p q3,.p q4,c5,.sl 1 0]] false] 2 8 (cr 2 (x.row.map .p) [.p (.str s),.p (.aO l),.p q1,.p q2,.p q3,.p q4,c5,.sl 1 0])=some [o1,o2,.av 8 [[.p (.str s),.p (.aO l),.p (.int .i64 x.op),.p (.int .i64 x.w),.p (.int .u64 x.v),.p (.str x.name),.p (.aO (x.args.map Term.row)),.sl 1 0]] false]:=by
 rw[Term.a6];rfl
theorem aua{c0 c1 c2 c3 c4 c5:PV}{a b c d:Nat}:ofC true (part 0 8 [.p c0,.p c1,.p c2,.p c3,.p c4,.p c5,.sl a b,.sl c d])=some (.agg [.p c0,.p c1,.p c2,.p c3,.p c4,.p c5,.sl a b,.sl c d]):=rfl
theorem aub{c0 c1 c2 c3 c4 c5 c6:PV}{c d:Nat}:ofC true (part 0 8 [.p c0,.p c1,.p c2,.p c3,.p c4,.p c5,.p c6,.sl c d])=some (.agg [.p c0,.p c1,.p c2,.p c3,.p c4,.p c5,.p c6,.sl c d]):=rfl
theorem avY{b:Bool}{n m:Int}:(PV.jY [.bool b,.int .i64 n,.int .i64 m]).flat=true:=by simp[PV.flat]
theorem Wl:iD hA:=FI ⟨by decide,by decide⟩ ⟨by decide,by decide⟩ ⟨by decide,by decide⟩ (by decide)
theorem apk:F8 rX1:=by
 have h2:iD (Term.mk 2 0 1 (bs []) []):=FI ⟨by decide,by decide⟩ ⟨by decide,by decide⟩ ⟨by decide,by decide⟩ (by decide)
 have hl:iD pL:=BQ ⟨by decide,by decide⟩ ⟨by decide,by decide⟩ (by simp) (by intro t ht;simp at ht;rw[ht];exact Wl)
 have hr:iD pR:=BQ ⟨by decide,by decide⟩ ⟨by decide,by decide⟩ (by simp) (by intro t ht;simp at ht;rcases ht with rfl|rfl;exact Wl;exact h2)
 refine⟨⟨by decide,?_,⟨hr,by decide +kernel⟩,by decide,by simp[rX1]⟩,by decide,by decide,?_,.inl rfl⟩
 ·intro a ha
  simp[rX1]at ha;rw[ha];exact⟨hl,by decide +kernel⟩
 ·intro a ha
  simp[rX1]at ha;rw[ha];decide
theorem ajL:F8 rX2:=by
 have hl:iD pL:=BQ ⟨by decide,by decide⟩ ⟨by decide,by decide⟩ (by simp) (by intro t ht;simp at ht;rw[ht];exact Wl)
 refine⟨⟨by decide,?_,⟨Wl,by decide +kernel⟩,by decide,by simp[rX2]⟩,by decide,by decide,?_,.inl rfl⟩
 ·intro a ha
  simp[rX2]at ha;rw[ha];exact⟨hl,by decide +kernel⟩
 ·intro a ha
  simp[rX2]at ha;rw[ha];decide
theorem BP:R P eH []=some (.bool true):=by
 have hh:=V7 (bs [97]) 0;have k1:=CC rX1 3 ⟨by decide,by decide⟩ apk (fun hg v x h1 h8 hx=>ajN apk hg v x h1 h8 hx)
 have k2:=CC rX2 3 ⟨by decide,by decide⟩ ajL (fun hg v x h1 h8 hx=>ajN ajL hg v x h1 h8 hx)
 have k3:=vF rX2 ajL.ok;rw[awt]at k1;rw[awu]at k2;rw[atI]at k3;have p1:=fun(o:Obj)=>auc (s:=bs [100,111,117,98,108,101]) (l:=[⟨bs [],pL⟩]) (x:=hA) (o:=o)
 have p2:=fun(o1 o2:Obj)=>aud (s:=bs [100,111,117,98,108,101]) (l:=[⟨bs [],pL⟩]) (x:=hA) (o1:=o1) (o2:=o2)
 have e1:(⟨bs [100,111,117,98,108,101],[⟨bs [],pL⟩],.mk 13 0 0 (bs []) [hA,.mk 2 0 1 (bs []) []],[]⟩:du)=rX1:=rfl;have e2:(⟨bs [100,111,117,98,108,101],[⟨bs [],pL⟩],hA,[]⟩:du)=rX2:=rfl;have e3:Term.mk 24 0 0 (bs [97]) []=hA:=rfl;have e4:Term.mk 8 0 0 (bs []) [hA,hA]=pL:=rfl;rw[e1]at p1;rw[e2]at p2;rw[e3]at hh;simp only[rK,B0]at p1 p2
 (rw[Sy (aD rfl),rQ];simp(disch:=omega)only[aB,↓aa,seval,-List.reduceReplicate,reduceCtorEq,ae,VO,hh,rV,at3,e4,at4,at5,at6,at7,at8,at9,av8,aue,p1,p2,KO,k1,k2,dr,k3,avY,aua,aub])
 done
structure TyR (r:du):Prop where
 lt:∀a∈r.left,iD a.pat∧a.root.size≤9223372036854775807
 rt:iD r.right
 gt:∀g∈r.guards,iD g.a∧iD g.b
theorem Rt{r:du}(h:TyR r):∀t∈pH r,iD t:=by
 intro t ht;unfold pH tV at ht;rcases D6.1 ht with ht|ht
 ·rcases D6.1 ht with ht|ht
  ·rcases D6.1 ht with ht|ht
   ·obtain⟨a,ha,rfl⟩:=Gq.1 ht
    exact(h.lt a ha).1
   ·rw[J7.1 ht];exact h.rt
  ·obtain⟨g,hg,ht⟩:=MK.1 ht
   have:=h.gt g hg;unfold DZ at ht;split at ht<;>simp at ht
   ·rw[ht];exact this.1
   ·rcases ht with rfl|rfl
    ·exact this.1
    ·exact this.2
 ·obtain⟨g,hg,rfl⟩:=Gq.1 ht
  exact(h.gt g hg).2
theorem KH{r:du}(h:TyR r)(hl:Hn r=true):F8 r:=by
 unfold Hn at hl;simp only[vM,decide_eq_true_eq,CS,KG]at hl;obtain⟨⟨h1,h2⟩,h3⟩:=hl;have h3:∀t∈pH r,t.count≤40:=fun t ht=>(h3 t ht).2
 have m1:∀a∈r.left,a.pat∈pH r:=fun a ha=>by
  unfold pH tV;exact J4 _ (J4 _ (J4 _ (Gq.2 ⟨a,ha,rfl⟩)))
 have m2:r.right∈pH r:=by
  unfold pH tV;exact J4 _ (J4 _ (aa1 _ (J7.2 rfl)))
 have m3:∀g∈r.guards,g.a∈pH r∧g.b∈pH r:=fun g hg=>by
  unfold pH tV;refine⟨J4 _ (aa1 _ (MK.2 ⟨g,hg,?_⟩)),aa1 _ (Gq.2 ⟨g,hg,rfl⟩)⟩;unfold DZ;split<;>simp
 refine⟨⟨by omega,fun a ha=>⟨(h.lt a ha).1,?_⟩,⟨h.rt,?_⟩,by omega,fun g hg=>⟨(h.gt g hg).1,(h.gt g hg).2,?_,?_⟩⟩,by omega,by omega,fun a ha=>(h.lt a ha).2,.inr Wz⟩
 ·have:=h3 _ (m1 a ha);omega
 ·have:=h3 _ m2;omega
 ·have:=h3 _ (m3 g hg).1;omega
 ·have:=h3 _ (m3 g hg).2;omega
theorem VE(r:du)(h:TyR r):R P iK [.agg r.row]=some (.bool true):=by
 have kl:=FF r (Rt h);have hv:=BP;cases hL:Hn r with
 |false=>
  rw[hL]at kl
  (rw[Al (aD rfl),iG];simp(disch:=omega)only[aB,↓aa,seval,-List.reduceReplicate,reduceCtorEq,ae,bj,aK,mi,kl,jc,hv])
 |true=>
  rw[hL]at kl;have hf:=KH h hL;have k1:=y3 r hf.ok (by have:=hf.ll;omega)
  have k2:=FE r hf.ok (by have:=hf.ll;omega)
  rw[←ae4]at k2
  (rw[Al (aD rfl),iG];simp(disch:=omega)only[aB,↓aa,seval,-List.reduceReplicate,reduceCtorEq,ae,bj,aK,mi,kl,dW,k1,oi,k2,jc,hv])
theorem Ni(r:du)(h:TyR r):R P fk [.agg r.row]=some (.bool true):=by
 have kl:=FF r (Rt h);have hv:=BP;cases hL:Hn r with
 |false=>
  rw[hL]at kl
  (rw[pI (aD rfl),et];simp(disch:=omega)only[aB,↓aa,seval,-List.reduceReplicate,reduceCtorEq,ae,bj,aK,mi,kl,jc,hv])
 |true=>
  rw[hL]at kl;have hf:=KH h hL;have k2:=FE r hf.ok (by have:=hf.ll;omega)
  rw[←ae4]at k2;rcases cY (x4 r=0)with c1|c1
  rotate_left
  ·(rw[pI (aD rfl),et];simp(disch:=omega)only[aB,↓aa,seval,-List.reduceReplicate,reduceCtorEq,ae,bj,aK,mi,kl,oi,k2,c1,jc,hv])
  ·rw[of_eq_true c1]at k2
   have hg:=(FB r).1 (of_eq_true c1);have hne:=(Ve hg).1;have e1:=DO r hf.ok hne hf.rn (fun g hg=>⟨(zO hf g hg).1,by have:=(zO hf g hg).2;omega⟩) (ajM hf)
   have e2:=Rb r hf.ok hne hf.rn (fun g hg=>⟨(zO hf g hg).1,by have:=(zO hf g hg).2;omega⟩)
   have hq:=afY hf hne;have h90:=Yu hf;have b1:=SK (yw r) (yw r) (by omega) (fun t ht=>(hq t (by unfold DY;simp[ht])).1)
   have b2:=tn (og r).fj (hq _ (by unfold DY;simp)).1 (og r).fj
   have b3:=tn r.right.fj (hq _ (by unfold DY;simp)).1 r.right.fj
   rw[WV]at b2 b3
   have b4:Term.AA (yw r) (yw r)=true:=by
    have:∀l:List Term,Term.AA l l=true:=by
     intro l
     induction l with
     |nil=>rw[Term.AA]
     |cons a l ih=>rw[Term.AA,ih,WV];rfl
    exact this _
   rw[b4]at b1;generalize (og r).fj=A1 at *;generalize r.right.fj=A2 at *
   (rw[pI (aD rfl),et];simp(disch:=omega)only[aB,↓aa,seval,-List.reduceReplicate,reduceCtorEq,ae,bj,aK,mi,kl,oi,k2,DJ,e1,QC,e2,ap2,afH,GW,b1,jO,b2,b3,jc,hv])
theorem ui.flat{α β:Type}{wd:Int}(f:α→List Term)(g:β→List Term):∀{l:List α} {m:List β},l.length=m.length→(∀(i:Nat) (a:α) (b:β),l[i]?=some a→m[i]?=some b→ui wd (f a) (g b))→ui wd (l.flatMap f) (m.flatMap g)
 | [],[],_,_=>trivial
 |a::l,b::m,hl,h=>by
  simp only[aa4];exact(h 0 a b rfl rfl).append (ui.flat f g (by simpa using hl) fun i x y hx hy=>h (i+1) x y (by simpa using hx) (by simpa using hy))
theorem ui.one{wd:Int}:∀{l m:List Term},ui wd l m→ui wd (l.flatMap Db) (m.flatMap Db)
 | [],[],_=>trivial
 |a::l,b::m,h=>by
  simp only[aa4];refine ui.append ?_ (ui.one h.2);unfold Db;rw[TG h.1];split
  ·exact⟨h.1,trivial⟩
  ·trivial
theorem apz:gk zR:=⟨by decide,by simp[zR],⟨al7,by decide +kernel⟩,by decide,by simp[zR]⟩
theorem aq0{r:du}(h:gk r)(hr:xZ r=0)(hl:r.left≠[]):gk (r7 r):=by
 unfold r7;rw[if_pos hr];refine⟨by simp,?_,?_,by simp,by simp⟩
 ·intro a ha
  simp only[J7]at ha;rw[ha];exact h.rt
 ·unfold og
  cases hll:r.left with
  |nil=>exact absurd hll hl
  |cons a l=>exact h.lt a (by rw[hll];simp)
theorem rev_rev{r:du}(h1:xZ r=0)(h2:xZ (r7 r)=0):r7 (r7 r)=r:=by
 have hs:K4 r=true:=by
  unfold xZ at h1;split at h1
  ·rename_i h;exact absurd h1 h
  ·split at h1
   ·cases h1
   ·rename_i h;simp only[not_or]at h;simpa using h.1
 have e:r7 (r7 r)=⟨(r7 r).name,[⟨bs [],(r7 r).right⟩],og (r7 r),[]⟩:=by
  generalize r7 r=y at *;unfold r7;rw[if_pos h2]
 rw[e];have e2:r7 r=⟨r.name,[⟨bs [],r.right⟩],og r,[]⟩:=by unfold r7;rw[if_pos h1]
 rw[e2];unfold K4 at hs;obtain⟨nm,left,right,guards⟩:=r;cases left with
 |nil=>simp at hs
 |cons a l=>
  cases l with
  |cons b l=>simp at hs
  |nil=>
   obtain⟨root,pat⟩:=a;cases guards with
   |cons g gs=>simp at hs
   |nil=>
    simp at hs;subst hs;rfl
theorem PW(r:du)(h:TyR r):R P fU [.agg r.row]=some (.bool true):=by
 have kl:=FF r (Rt h);have hv:=BP;cases hL:Hn r with
 |false=>
  rw[hL]at kl
  (rw[mm (aD rfl),dV];simp(disch:=omega)only[aB,↓aa,seval,-List.reduceReplicate,reduceCtorEq,ae,bj,aK,mi,kl,jc,hv])
 |true=>
 rw[hL]at kl;have hf:=KH h hL;have a1:=Ar r hf.ok (by have:=hf.ll;omega)
 have a2:=SL r hf.ok (by have:=hf.ll;omega)
 rcases cY (xZ r=0)with c1|c1
 rotate_left
 ·have hX:r7 r=zR:=by unfold r7;rw[if_neg (of_eq_false c1)]
  rw[hX]at a1 a2;have z1:=HF zR zR apz;rw[(K2 zR zR).2 rfl]at z1;have a3:=Ar zR apz (by decide)
  generalize xZ zR=ee at *;generalize r7 zR=xx at *
  (rw[mm (aD rfl),dV];simp(disch:=omega)only[aB,↓aa,seval,-List.reduceReplicate,reduceCtorEq,ae,bj,aK,mi,kl,Aj,a1,BK,a2,Hy,z1,a3,c1,jc,hv])
 have hc:x4 r=0:=by
  have:=of_eq_true c1;unfold xZ at this;split at this
  ·rename_i h;exact absurd this h
  ·rename_i h;exact Ww.1 h
 have okx:=aq0 hf.ok (of_eq_true c1) (Ve ((FB r).1 hc)).1;have hlx:(r7 r).left.length≤100:=by unfold r7;rw[if_pos (of_eq_true c1)];simp
 have a3:=Ar (r7 r) okx hlx;have s1:=HF (r7 r) (r7 r) okx;rw[(K2 _ _).2 rfl]at s1;rw[of_eq_true c1]at a1 a2;rcases cY (xZ (r7 r)=0)with c2|c2
 rotate_left
 ·generalize xZ (r7 r)=ee at *
  generalize r7 (r7 r)=xx at *;generalize r7 r=yy at *
  (rw[mm (aD rfl),dV];simp(disch:=omega)only[aB,↓aa,seval,-List.reduceReplicate,reduceCtorEq,ae,bj,aK,mi,kl,Aj,a1,BK,a2,Hy,s1,a3,c2,jc,hv])
 ·rw[of_eq_true c2,rev_rev (of_eq_true c1) (of_eq_true c2)]at a3
  have s2:=HF r r hf.ok;rw[(K2 _ _).2 rfl]at s2;generalize r7 r=yy at *
  (rw[mm (aD rfl),dV];simp(disch:=omega)only[aB,↓aa,seval,-List.reduceReplicate,reduceCtorEq,ae,bj,aK,mi,kl,Aj,a1,BK,a2,Hy,s1,s2,a3,jc,hv])
end Go.AE.S
