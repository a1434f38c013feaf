import Derived.Test.YtpccheodgonkkaaGreatF0
import Derived.Test.YtpccheodgonkkaaGreatB0
import Derived.Test.YtpccheodgonkkaaGreatD1
import Derived.Test.YtpccheodgonkkaaGreatE1
import Derived.Test.YtpccheodgonkkaaGreatC0
set_option maxHeartbeats 0
set_option linter.unusedSimpArgs false
set_option linter.unusedVariables false
namespace Go.AE.S
open Go Go.AE
def VL(t:Term):Prop:=∀u∈t.pre,isVar u=true→u.args=[]
theorem VL.args{t a:Term}(h:VL t)(ha:a∈t.args):VL a:=fun u hu=>h u (lX.2 (.inr ⟨a,ha,hu⟩))
variable {τ:Tm} {σ:ae} {rd:Option Nat}
def AN(g:Gd):List Term:=if g.kind=1 then[g.a]else[g.a,g.b]
def po(r:ed):List Term:=r.left.map (·.pat)++[r.right]++r.guards.flatMap AN
theorem EC(g:Gd):(AN g).length≤2:=by unfold AN;split<;>simp
theorem Tb(r:ed)(h:kq r):(po r).length≤4000:=by
 have h1:=Cq AN 2 r.guards fun g _=>EC g
 have h2:=h.ll;have h3:=h.gl;unfold po;simp only[mh,bz,oi,pN];omega
theorem yU{α β:Type}(f:α→β):∀(l:List α) (i:Nat) (s:List β),aq (T:=Empty) (fun _ s a=>.inl (s++[f a])) i s l=.inl (s++l.map f)
 | [],i,s=>by simp[aq]
 |a::l,i,s=>by
  simp only[aq];rw[yU f l (i+1) (s++[f a]),ue,Ux];rfl
abbrev Od(r:ed)(s:List Term)(i:Int):List (Nat×AV):=[(1,.p (.ptr r.row 0)),(3,.sl 0 s.length),(9,.p (.aW (r.left.map Atom.row))),(10,.p (.int .i64 r.left.length)),(11,.p (.int .i64 i))]
abbrev Oe(r:ed)(s:List Term)(i:Int):List (Nat×AV):=[(3,.sl 0 s.length),(27,.p (.aW (r.guards.map Gd.row))),(28,.p (.int .i64 r.guards.length)),(29,.p (.int .i64 i))]
theorem SS(r:ed)(h:kq r):an P pJ (Od r [] 0) (sT1 []) 48 none=back P [1,3,9,10,11] jM 1 (exec P jM ⟨tm (Od r (r.left.map (·.pat)) r.left.length),sT1 (r.left.map (·.pat)),48,none⟩):=by
 have hll:=h.ll
 obtain⟨_,hL⟩:=jj (P:=P) (nt:=48) (lv:=[1,3,9,10,11]) (b:=jM) (rd:=none) (as:=r.left) (fun i (s:List Term)=>Od r s i) sT1 (fun _ s a=>s++[a.pat]) (fun i s=>s.length=i)
  (fun i a s ha hi hs=>by
   refine⟨by simp[hs],?_⟩
   have hlt:((i:Int)<r.left.length)=True:=by simpa using hi
   have hx:=fun σ=>aU (k:=.i64) (es:=6) (σ:=σ) (ax (f:=Atom.row) ha) a.aH
   have a1:=fun r=>UR (r:=r) s a.pat (by omega)
   simp only[jM];simp(disch:=omega)only[aG,↓aa,seval,-List.reduceReplicate,reduceCtorEq,af,hlt,hx,jX,fL,sP,lW,vM,a1,Od,mh]
   try rfl) (fun i s=>rfl) [] rfl _ (yU (fun a:Atom=>a.pat) r.left 0 [])
 exact hL
theorem SV(r:ed)(h:kq r)(s0:List Term)(h0:s0.length≤100000):an P te (Oe r s0 0) (sT1 s0) 48 none=back P [3,27,28,29] gU 1 (exec P gU ⟨tm (Oe r (s0++r.guards.flatMap AN) r.guards.length),sT1 (s0++r.guards.flatMap AN),48,none⟩):=by
 have hgl:=h.gl
 obtain⟨_,hL⟩:=jj (P:=P) (nt:=48) (lv:=[3,27,28,29]) (b:=gU) (rd:=none) (as:=r.guards) (fun i (s:List Term)=>Oe r s i) sT1 (fun _ s a=>s++AN a) (fun i s=>s.length≤s0.length+2*i)
  (fun i g s ha hi hs=>by
   have hgp:=EC g;refine⟨by rw[mh];omega,?_⟩
   have hlt:((i:Int)<r.guards.length)=True:=by simpa using hi
   have hx:=fun σ=>aU (k:=.i64) (es:=11) (σ:=σ) (ax (f:=Gd.row) ha) g.aH
   have a1:=fun r=>UR (r:=r) s g.a (by omega)
   unfold AN;rcases fC (g.kind=1)with h1|h1
   ·rw[if_pos (of_eq_true h1)]
    simp only[gU];simp(disch:=omega)only[aG,↓aa,seval,-List.reduceReplicate,reduceCtorEq,af,hlt,hx,dx,bZ,yF,C1,C2,h1,lW,vM,a1,Oe,mh]
    try rfl
   ·rw[if_neg (of_eq_false h1)]
    have a2:=fun r=>UR (r:=r) (s++[g.a]) g.b (by simp;omega)
    simp only[mh,oi,pN,sQ]at a2;have e:s++[g.a,g.b]=s++[g.a]++[g.b]:=by simp
    rw[e];simp only[gU];simp(disch:=omega)only[aG,↓aa,seval,-List.reduceReplicate,reduceCtorEq,af,hlt,hx,dx,bZ,yF,C1,C2,h1,lW,vM,a1,a2,Oe,mh]
    try rfl) (fun i s=>rfl) s0 (by omega) _ (wi AN r.guards 0 s0)
 exact hL
theorem IV(r:ed)(h:kq r):R P jb [.agg r.row]=some (.aW ((po r).map Term.row)):=by
 have hll:=h.ll;have h0:=SS r h;have h1:=SV r h (r.left.map (·.pat)++[r.right]) (by simp;omega)
 have a1:=fun z=>UR (r:=z) (r.left.map (·.pat)) r.right (by simp;omega)
 simp only[mh,bz,oi,pN,sQ]at h1 a1;have h0':an P pJ (Od r [] 0) [.pv 0 [] false] 48 none=_:=h0;simp only[Od,pN,bz]at h0';simp only[Oe,pN,bz,mh,oi,sQ]at h1;unfold po
 (rw[IN (aO rfl),nI];simp(disch:=omega)only[aG,↓aa,seval,-List.reduceReplicate,reduceCtorEq,af,bX,bn,Ah,D4,Uo,bz,GC,h0',jM,pD,lW,vM,a1,GF,h1,gU,mh])
abbrev Kf(f:FuncId)(l:List Term)(i:Int):List (Nat×AV):=[(0,.p (.aW (l.map Term.row))),(1,.p (.fn f [])),(7,.p (.int .i64 l.length)),(8,.p (.int .i64 i))]
theorem TW(f:FuncId)(q:Term→Bool)(l:List Term)(hq:Qp P f)(hr:∀t∈l,R P f [.agg t.row]=some (.bool (q t)))(hl:l.length≤1000000):R P aQ [.aW (l.map Term.row),.fn f []]=some (.bool (l.any q)):=by
 have h:=cS (P:=P) (nt:=19) (lv:=[0,1,7,8]) (b:=aX) (rd:=none) (as:=l) (fun i (_:Unit)=>Kf f l i) (fun _=>[]) (fun i _ v=>if q v=true then .inr i else .inl ()) (fun(n:Nat)=>ec 4 (.int .i64 n) []) (fun _ _=>True)
  (fun i v s hv hi hs=>by
   refine⟨fun _ _=>trivial,?_⟩
   have hlt:((i:Int)<l.length)=True:=by simpa using hi
   have hr:=hr v (mK hv);have hx:=fun σ=>aU (k:=.i64) (es:=5) (σ:=σ) (ax (f:=Term.row) hv) v.aH
   have hq':Qp P f:=fun {_ _}=>hq
   cases h1:q v with
   |true=>
    rw[h1]at hr;simp only[aX,if_true];simp(disch:=omega)only[aG,↓aa,seval,-List.reduceReplicate,reduceCtorEq,af,hlt,hx,I1,hq',hr,Kf,ec]
   |false=>
    rw[h1]at hr;simp only[aX,nh,if_false];simp(disch:=omega)only[aG,↓aa,seval,-List.reduceReplicate,reduceCtorEq,af,hlt,hx,I1,hq',hr,Kf,ec]) (fun i s=>rfl) () trivial
 rcases yT q l 0 with⟨n,h1,h2⟩|⟨h1,h2⟩
 ·rw[h1]at h
  obtain⟨⟨e',τ',σ',nt',rd'⟩,g1,g2,g3,g4⟩:=h
  simp only at g2 g3 g4
  subst g2;subst g4;have h':an P bS (Kf f l 0) [] 19 none=some (.ret,⟨τ',[],nt',rd'⟩):=g1;simp only[Kf]at h'
  have hi:R P aP [.aW (l.map Term.row),.fn f []]=some (.int .i64 n):=by
   (rw[dA (aO rfl),bk];simp(disch:=omega)only[aG,↓aa,seval,-List.reduceReplicate,reduceCtorEq,af,bz,dr,h',g3])
  have hn:((n:Int) ≥ 0)=True:=by simp
  rw[h2]
  (rw[cU (aO rfl),a8];simp(disch:=omega)only[aG,↓aa,seval,-List.reduceReplicate,reduceCtorEq,af,dz,hi,hn])
 ·rw[h1]at h
  obtain⟨_,h⟩:=h;have h':an P bS (Kf f l 0) [] 19 none=_:=h;simp only[Kf]at h'
  have hi:R P aP [.aW (l.map Term.row),.fn f []]=some (.int .i64 (-1)):=by
   (rw[dA (aO rfl),bk];simp(disch:=omega)only[aG,↓aa,seval,-List.reduceReplicate,reduceCtorEq,af,bz,dr,h',aX,pD])
  rw[h2]
  (rw[cU (aO rfl),a8];simp(disch:=omega)only[aG,↓aa,seval,-List.reduceReplicate,reduceCtorEq,af,dz,hi])
def Zh(t:Term):Bool:=t.pre.any fun u=>decide (u.w=0)
def Gz(r:ed):Bool:=(po r).any Zh
theorem Lq{r:ed}(h:kq r):∀t∈po r,iM t∧t.count≤400:=by
 intro t ht;unfold po at ht;rcases Gb.1 ht with ht|ht
 ·rcases Gb.1 ht with ht|ht
  ·obtain⟨a,ha,rfl⟩:=CV.1 ht
   exact h.lt a ha
  ·rw[Uz.1 ht];exact h.rt
 ·obtain⟨g,hg,ht⟩:=Mz.1 ht
  have:=h.gt g hg;unfold AN at ht;split at ht
  ·rw[Uz.1 ht];exact⟨this.1,this.2.2.1⟩
  ·rcases qL.1 ht with rfl|ht
   ·exact⟨this.1,this.2.2.1⟩
   ·rw[Uz.1 ht];exact⟨this.2.1,this.2.2.2⟩
theorem pA(r:ed)(h:kq r):R P er [.agg r.row]=some (.bool (Gz r)):=by
 have h1:=IV r h;have h2:=TW eP Zh (po r) FA (fun t ht=>FL t (by have:=(Lq h t ht).2;omega)) (by have:=Tb r h;omega)
 unfold Gz
 (rw[LY (aO rfl),oP];simp(disch:=omega)only[aG,↓aa,seval,-List.reduceReplicate,reduceCtorEq,af,bX,bn,II,h1,cT,h2])
abbrev Hc(r:ed)(s:List Term)(i:Int):List (Nat×AV):=[(1,.p (.ptr r.row 0)),(3,.sl 0 s.length),(4,.p (.int .i64 i))]
abbrev J8(r:ed)(s:List Term)(i:Int):List (Nat×AV):=[(1,.p (.ptr r.row 0)),(3,.sl 0 s.length),(5,.p (.int .i64 i))]
theorem ES(r:ed)(hll:r.left.length≤1000):an P nK (Hc r [] 0) (Ja []) 61 none=back P [1,3,4] iT 1 (exec P iT ⟨tm (Hc r (r.left.map (·.pat)) r.left.length),Ja (r.left.map (·.pat)),61,none⟩):=by
 obtain⟨_,hL⟩:=jj (P:=P) (nt:=61) (lv:=[1,3,4]) (b:=iT) (rd:=none) (as:=r.left) (fun i (s:List Term)=>Hc r s i) Ja (fun _ s a=>s++[a.pat]) (fun i s=>s.length=i)
  (fun i a s ha hi hs=>by
   refine⟨by simp[hs],?_⟩
   have hlt:((i:Int)<r.left.length)=True:=by simpa using hi
   have hx:=fun σ=>aU (k:=.i64) (es:=6) (σ:=σ) (ax (f:=Atom.row) ha) a.aH
   have a1:=fun r=>O3 (r:=r) s a.pat (by omega)
   simp only[iT];simp(disch:=omega)only[aG,↓aa,seval,-List.reduceReplicate,reduceCtorEq,af,hlt,Ah,bz,hx,jX,fL,sP,lW,vM,a1,Hc,mh]
   try rfl) (fun i s=>rfl) [] rfl _ (yU (fun a:Atom=>a.pat) r.left 0 [])
 exact hL
theorem ET(r:ed)(hgl:r.guards.length≤1000)(s0:List Term)(h0:s0.length≤100000):an P vh (J8 r s0 0) (Ja s0) 61 none=back P [1,3,5] gA 1 (exec P gA ⟨tm (J8 r (s0++r.guards.flatMap AN) r.guards.length),Ja (s0++r.guards.flatMap AN),61,none⟩):=by
 obtain⟨_,hL⟩:=jj (P:=P) (nt:=61) (lv:=[1,3,5]) (b:=gA) (rd:=none) (as:=r.guards) (fun i (s:List Term)=>J8 r s i) Ja (fun _ s a=>s++AN a) (fun i s=>s.length≤s0.length+2*i)
  (fun i g s ha hi hs=>by
   have hgp:=EC g;refine⟨by rw[mh];omega,?_⟩
   have hlt:((i:Int)<r.guards.length)=True:=by simpa using hi
   have hx:=fun σ=>aU (k:=.i64) (es:=11) (σ:=σ) (ax (f:=Gd.row) ha) g.aH
   have a1:=fun r=>O3 (r:=r) s g.a (by omega)
   unfold AN;rcases fC (g.kind=1)with h1|h1
   ·rw[if_pos (of_eq_true h1)]
    simp only[gA];simp(disch:=omega)only[aG,↓aa,seval,-List.reduceReplicate,reduceCtorEq,af,hlt,D4,bz,hx,dx,bZ,yF,C1,C2,h1,lW,vM,a1,J8,mh]
    try rfl
   ·rw[if_neg (of_eq_false h1)]
    have a2:=fun r=>O3 (r:=r) (s++[g.a]) g.b (by simp;omega)
    simp only[mh,oi,pN,sQ]at a2;have e:s++[g.a,g.b]=s++[g.a]++[g.b]:=by simp
    rw[e];simp only[gA];simp(disch:=omega)only[aG,↓aa,seval,-List.reduceReplicate,reduceCtorEq,af,hlt,D4,bz,hx,dx,bZ,yF,C1,C2,h1,lW,vM,a1,a2,J8,mh]
    try rfl) (fun i s=>rfl) s0 (by omega) _ (wi AN r.guards 0 s0)
 exact hL
theorem Md(r:ed)(h:kq r):R P iF [.agg r.row]=some (.aW ((po r).map Term.row)):=by
 have hll:=h.ll;have h0:=ES r h.ll;have h1:=ET r h.gl (r.left.map (·.pat)++[r.right]) (by simp;omega)
 have a1:=fun z=>O3 (r:=z) (r.left.map (·.pat)) r.right (by simp;omega)
 simp only[mh,bz,oi,pN,sQ]at h1 a1;have h0':an P nK (Hc r [] 0) [.pv 5 [] false] 61 none=_:=h0;simp only[Hc,pN,bz]at h0';simp only[J8,pN,bz,mh,oi,sQ]at h1;unfold po
 (rw[LS (aO rfl),jV];simp(disch:=omega)only[aG,↓aa,seval,-List.reduceReplicate,reduceCtorEq,af,bX,bn,Ah,D4,Uo,ajL,bz,Al,h0',iT,pD,lW,vM,a1,Ap,h1,gA,mh])
abbrev VB(l:List Term)(i:Int):List (Nat×AV):=[(3,.p (.aW (l.map Term.row))),(4,.p (.int .i64 i))]
theorem NK(r:ed)(h:kq r):R P lM [.agg r.row]=some (.bool (Gz r)):=by
 have h1:=Md r h;have hc:=Lq h;have hpl:=Tb r h;unfold Gz;generalize po r=l at *
 have hL:=cS (P:=P) (nt:=18) (lv:=[3,4]) (b:=oD) (rd:=none) (as:=l) (fun i (_:Unit)=>VB l i) (fun _=>[]) (fun _ _ a=>if Zh a=true then .inr ()else .inl ()) (fun(_:Unit)=>ec 2 (.bool true) []) (fun _ _=>True)
  (fun i t s ha hi hs=>by
   refine⟨fun _ _=>trivial,?_⟩
   have hlt:((i:Int)<l.length)=True:=by simpa using hi
   have hx:=fun σ=>aU (k:=.i64) (es:=5) (σ:=σ) (ax (f:=Term.row) ha) t.aH
   have hg:R P jF [.agg t.row]=some (.bool (Zh t)):=NJ t (by have:=(hc t (mK ha)).2;omega)
   cases h1:Zh t with
   |true=>
    rw[h1]at hg;simp only[oD,if_true];simp(disch:=omega)only[aG,↓aa,seval,-List.reduceReplicate,reduceCtorEq,af,hlt,bz,hx,Dt,hg,VB,ec]
   |false=>
    rw[h1]at hg;simp only[oD,nh,if_false];simp(disch:=omega)only[aG,↓aa,seval,-List.reduceReplicate,reduceCtorEq,af,hlt,bz,hx,Dt,hg,VB,ec]) (fun i s=>rfl) () trivial
 rw[KA]at hL;cases ha:l.any Zh with
 |true=>
  rw[ha]at hL;obtain⟨⟨e',τ',σ',nt',rd'⟩,k1,k2,k3,k4⟩:=hL
  simp only at k2 k3 k4
  subst k2;have h':an P rW (VB l 0) [] 18 none=some (.ret,⟨τ',σ',nt',rd'⟩):=k1;simp only[VB]at h'
  (rw[Dx (aO rfl),nT];simp(disch:=omega)only[aG,↓aa,seval,-List.reduceReplicate,reduceCtorEq,af,bX,bn,B1,h1,Bi,h',k3])
 |false=>
  rw[ha]at hL;obtain⟨_,hL⟩:=hL;have h':an P rW (VB l 0) [] 18 none=_:=hL;simp only[VB]at h'
  (rw[Dx (aO rfl),nT];simp(disch:=omega)only[aG,↓aa,seval,-List.reduceReplicate,reduceCtorEq,af,bX,bn,B1,h1,Bi,h',oD,bz,pD])
def aia(r:ed):Bool:=match r.left,r.guards with
 | [a],[]=>decide (a.root=bs [])
 |_,_=>false
theorem afx(r:ed):aia r=(decide (r.left.length=1) && (r.left.head?.any fun a=>decide (a.root=bs [])) && decide (r.guards.length=0)):=by
 unfold aia;cases hl:r.left with
 |nil=>rfl
 |cons a l=>
  cases l with
  |cons b m=>simp
  |nil=>
   cases hg:r.guards with
   |nil=>simp
   |cons g m=>simp
theorem NL(r:ed):R P lN [.agg r.row]=some (.bool (aia r)):=by
 rw[afx];by_cases h1:r.left.length=1
 rotate_left
 ·have h1':((r.left.length:Int)=1)=False:=by simp;omega
  rw[decide_eq_false h1,vD,vD]
  (rw[uj (aO rfl),jA];simp(disch:=omega)only[aG,↓aa,seval,-List.reduceReplicate,reduceCtorEq,af,bX,bn,Ah,D4,bz,h1'])
 obtain⟨a,ha⟩:=abS.1 h1;have hx:∀σ,jd σ 6 (.p (.aW [a.row])) (.p (.int .i64 0))=some (.p (.ptr a.row 0)):=fun σ=>aU (k:=.i64) (es:=6) (σ:=σ) (ax (f:=Atom.row) (l:=[a]) (i:=0) (a:=a) rfl) a.aH
 have u1:=Ah r;rw[ha]at u1 ⊢;simp only[ue,CU]at u1;rcases fC (a.root=bs [])with h2|h2
 ·by_cases h3:r.guards.length=0
  ·have h3':((r.guards.length:Int)=0)=True:=by simpa using h3
   rw[decide_eq_true h3]
   (rw[uj (aO rfl),jA];simp(disch:=omega)only[aG,↓aa,seval,-List.reduceReplicate,reduceCtorEq,af,bX,bn,u1,D4,bz,hx,iV,h2,h3'])
   simp[of_eq_true h2]
  ·have h3':((r.guards.length:Int)=0)=False:=by simp;simpa using h3
   rw[decide_eq_false h3,UN]
   (rw[uj (aO rfl),jA];simp(disch:=omega)only[aG,↓aa,seval,-List.reduceReplicate,reduceCtorEq,af,bX,bn,u1,D4,bz,hx,iV,h2,h3'])
 ·have:([a].head?.any fun a=>decide (a.root=bs []))=false:=by simpa using of_eq_false h2
  rw[this,UN,vD]
  (rw[uj (aO rfl),jA];simp(disch:=omega)only[aG,↓aa,seval,-List.reduceReplicate,reduceCtorEq,af,bX,bn,u1,D4,bz,hx,iV,h2])
theorem QJ(r:ed):R P nr [.agg r.row]=some (.bool (aia r)):=by
 rw[afx];by_cases h1:r.left.length=1
 rotate_left
 ·have h1':((r.left.length:Int)=1)=False:=by simp;omega
  rw[decide_eq_false h1,vD,vD]
  (rw[v7 (aO rfl),kP];simp(disch:=omega)only[aG,↓aa,seval,-List.reduceReplicate,reduceCtorEq,af,bX,bn,Ah,D4,bz,h1'])
 obtain⟨a,ha⟩:=abS.1 h1;have hx:∀σ,jd σ 6 (.p (.aW [a.row])) (.p (.int .i64 0))=some (.p (.ptr a.row 0)):=fun σ=>aU (k:=.i64) (es:=6) (σ:=σ) (ax (f:=Atom.row) (l:=[a]) (i:=0) (a:=a) rfl) a.aH
 have u1:=Ah r;rw[ha]at u1 ⊢;simp only[ue,CU]at u1;rcases fC (a.root=bs [])with h2|h2
 ·by_cases h3:r.guards.length=0
  ·have h3':((r.guards.length:Int)=0)=True:=by simpa using h3
   rw[decide_eq_true h3]
   (rw[v7 (aO rfl),kP];simp(disch:=omega)only[aG,↓aa,seval,-List.reduceReplicate,reduceCtorEq,af,bX,bn,u1,D4,bz,hx,iV,h2,h3'])
   simp[of_eq_true h2]
  ·have h3':((r.guards.length:Int)=0)=False:=by simp;simpa using h3
   rw[decide_eq_false h3,UN]
   (rw[v7 (aO rfl),kP];simp(disch:=omega)only[aG,↓aa,seval,-List.reduceReplicate,reduceCtorEq,af,bX,bn,u1,D4,bz,hx,iV,h2,h3'])
 ·have:([a].head?.any fun a=>decide (a.root=bs []))=false:=by simpa using of_eq_false h2
  rw[this,UN,vD]
  (rw[v7 (aO rfl),kP];simp(disch:=omega)only[aG,↓aa,seval,-List.reduceReplicate,reduceCtorEq,af,bX,bn,u1,D4,bz,hx,iV,h2])
def vL(a b:Atom):Bool:=decide (a.root=b.root) && a.pat.beq b.pat
def yf(g h:Gd):Bool:=decide (g.kind=h.kind) && g.a.beq h.a && g.b.beq h.b
def Js{α:Type}(q:α→α→Bool)(l m:List α):Bool:=decide (l.length=m.length) && (l.zip m).all fun x=>q x.1 x.2
def Ye(r s:ed):Bool:=decide (r.name=s.name) && r.right.beq s.right && Js vL r.left s.left && Js yf r.guards s.guards
theorem F8{α:Type}{as bs:List α}{i:Nat}{a b:α}(h:(as.zip bs)[i]?=some (a,b)):as[i]?=some a∧bs[i]?=some b:=by
 rw[List.getElem?_zip_eq_some]at h;exact h
theorem aiE(a b:Atom)(ht:iM a.pat):R P iu [.agg a.row,.agg b.row]=some (.bool (vL a b)):=by
 have h:=u7 a.pat ht b.pat;unfold vL;rcases fC (a.root=b.root)with h1|h1
 ·rw[decide_eq_true (of_eq_true h1),IZ]
  (rw[Dy (aO rfl),nV];simp(disch:=omega)only[aG,↓aa,seval,-List.reduceReplicate,reduceCtorEq,af,jX,fL,iV,sP,h1,jK,h])
 ·rw[decide_eq_false (of_eq_false h1),vD]
  (rw[Dy (aO rfl),nV];simp(disch:=omega)only[aG,↓aa,seval,-List.reduceReplicate,reduceCtorEq,af,jX,fL,iV,sP,h1,jK,h])
theorem aiF(a b:Gd)(ha:iM a.a)(hb:iM a.b):R P iv [.agg a.row,.agg b.row]=some (.bool (yf a b)):=by
 have k1:=u7 a.a ha b.a;have k2:=u7 a.b hb b.b;unfold yf;rcases fC (a.kind=b.kind)with h1|h1
 ·rw[decide_eq_true (of_eq_true h1),IZ]
  cases hq:a.a.beq b.a with
  |true=>
   rw[hq]at k1;rw[IZ]
   (rw[yB (aO rfl),lB];simp(disch:=omega)only[aG,↓aa,seval,-List.reduceReplicate,reduceCtorEq,af,dx,bZ,yF,C1,C2,h1,jK,k1,k2])
  |false=>
   rw[hq]at k1;rw[vD]
   (rw[yB (aO rfl),lB];simp(disch:=omega)only[aG,↓aa,seval,-List.reduceReplicate,reduceCtorEq,af,dx,bZ,yF,C1,C2,h1,jK,k1])
 ·rw[decide_eq_false (of_eq_false h1),vD,vD]
  (rw[yB (aO rfl),lB];simp(disch:=omega)only[aG,↓aa,seval,-List.reduceReplicate,reduceCtorEq,af,dx,bZ,yF,C1,C2,h1])
theorem amD:rY 6 (aT [.p (.str (bs [])),.p (.int .i64 0),.p (.int .i64 0),.p (.int .u64 0),.p (.str (bs [])),.aF] [])=some (.ptr 1 1 0 0,[.pv 0 [] false,.av 6 [[.p (.str (bs [])),.p (.int .i64 0),.p (.int .i64 0),.p (.int .u64 0),.p (.str (bs [])),.sl 0 0]] false]):=rfl
theorem aoo(a:Atom){c0 c1 c2 c3 c4 c5:AV}{f:Obj}:eE [f,.av 6 [[c0,c1,c2,c3,c4,c5]] false] 6 (.ptr 1 1 0 0) (.p (.agg a.row))=some [f,.pv 6 [a.row] false]:=by
 rw[a.aY];rfl
theorem anj(a:Atom):KS 1 0 0 6 true (some (.pv 6 [a.row] false))=some (.p (.agg a.row)):=by rw[a.aY];rfl
theorem Yz:rY 11 (aT [.p (.int .i64 0),.p (.int .i64 0),.p (.int .i64 0),.p (.int .u64 0),.p (.str (bs [])),.aF,.p (.int .i64 0),.p (.int .i64 0),.p (.int .u64 0),.p (.str (bs [])),.aF] [])=some (.ptr 2 1 0 0,[.pv 0 [] false,.pv 0 [] false,.av 11 [[.p (.int .i64 0),.p (.int .i64 0),.p (.int .i64 0),.p (.int .u64 0),.p (.str (bs [])),.sl 0 0,.p (.int .i64 0),.p (.int .i64 0),.p (.int .u64 0),.p (.str (bs [])),.sl 1 0]] false]):=rfl
theorem aop(a:Gd){c0 c1 c2 c3 c4 c5 c6 c7 c8 c9 c10:AV}{f g:Obj}:eE [f,g,.av 11 [[c0,c1,c2,c3,c4,c5,c6,c7,c8,c9,c10]] false] 11 (.ptr 2 1 0 0) (.p (.agg a.row))=some [f,g,.pv 11 [a.row] false]:=by
 rw[a.aY];rfl
theorem Zw(a:Gd):KS 1 0 0 11 true (some (.pv 11 [a.row] false))=some (.p (.agg a.row)):=by rw[a.aY];rfl
theorem ai0{vs:List AV}{a b c:Obj}:gc 0 vs [a,b,c]=if yW 0 vs [a,b,c]=true then[]else[a,b,c]:=by unfold gc;rw[if_neg (by simp)];rfl
abbrev Kc(l m:List Atom)(i:Int):List (Nat×AV):=[(1,.p (.aW (m.map Atom.row))),(2,.p (.fn iu [])),(15,.p (.aW (l.map Atom.row))),(16,.p (.int .i64 l.length)),(17,.p (.int .i64 i))]
theorem afq(l m:List Atom)(hl:l.length≤9223372036854775807)(ih:∀a∈l,iM a.pat) :
  R P aK [.aW (l.map Atom.row),.aW (m.map Atom.row),.fn iu []]=some (.bool (Js vL l m)):=by
 unfold Js;rcases fC (((l.length:Nat):Int)=((m.length:Nat):Int))with h1|h1
 rotate_left
 ·rw[decide_eq_false (fun h=>of_eq_false h1 (by rw[h])),vD]
  (rw[cC (aO rfl),aI];simp(disch:=omega)only[aG,↓aa,seval,-List.reduceReplicate,reduceCtorEq,af,bz,h1])
 have hlm:l.length=m.length:=by have:=of_eq_true h1;omega
 rw[decide_eq_true hlm,IZ];have hz:(l.zip m).length=l.length:=by rw[acb];omega
 have h:=cS (P:=P) (nt:=32) (lv:=[1,2,15,16,17]) (b:=bg) (rd:=none) (as:=l.zip m) (fun i (_:Unit)=>Kc l m i) (fun _=>[]) (fun _ _ x=>if vL x.1 x.2=true then .inl ()else .inr ()) (fun(_:Unit) r=>r.1=.ret∧r.2.τ.get 6=.p (.bool false)) (fun _ _=>True)
  (fun i x s ha hi hs=>by
   obtain⟨g1,g2⟩:=F8 ha;have hr:=aiE x.1 x.2 (ih x.1 (mK g1));have hlt:((i:Int)<l.length)=True:=by rw[hz]at hi;simpa using hi
   have hx1:=fun σ=>aU (k:=.i64) (es:=6) (σ:=σ) (ax (f:=Atom.row) g1) x.1.aH
   have hx2:=fun σ=>aU (k:=.i64) (es:=6) (σ:=σ) (ax (f:=Atom.row) g2) x.2.aH
   have r1:=x.1.aY;refine⟨fun _ _=>trivial,?_⟩
   cases hb:vL x.1 x.2 with
   |true=>
    rw[hb]at hr;simp only[bg,if_true];simp(disch:=omega)only[aG,↓aa,seval,-List.reduceReplicate,reduceCtorEq,af,hlt,bz,hx1,hx2,jX,fL,Du,hr,Kc,XN,amD,aoo,anj]
   |false=>
    rw[hb]at hr;simp only[bg,nh,if_false];simp(disch:=omega)only[aG,↓aa,seval,-List.reduceReplicate,reduceCtorEq,af,hlt,bz,hx1,hx2,jX,fL,Du,hr,Kc,XN,amD,aoo,anj]) (fun i s=>rfl) () trivial
 rw[rl (fun x:Atom×Atom=>vL x.1 x.2),hz]at h
 cases hb:(l.zip m).all fun x=>vL x.1 x.2 with
 |true=>
  rw[hb]at h;obtain⟨_,g1⟩:=h;have h':an P bH (Kc l m 0) [] 32 none=_:=g1;simp only[Kc]at h'
  (rw[cC (aO rfl),aI];simp(disch:=omega)only[aG,↓aa,seval,-List.reduceReplicate,reduceCtorEq,af,bz,h1,dL,h',bg,pD])
 |false=>
  rw[hb]at h;obtain⟨⟨e,τ',σ',nt',rd'⟩,g1,g2,g3⟩:=h
  simp only at g2 g3
  subst g2;have h':an P bH (Kc l m 0) [] 32 none=_:=g1;simp only[Kc]at h'
  (rw[cC (aO rfl),aI];simp(disch:=omega)only[aG,↓aa,seval,-List.reduceReplicate,reduceCtorEq,af,bz,h1,dL,h',g3])
abbrev Kd(l m:List Gd)(i:Int):List (Nat×AV):=[(1,.p (.aW (m.map Gd.row))),(2,.p (.fn iv [])),(15,.p (.aW (l.map Gd.row))),(16,.p (.int .i64 l.length)),(17,.p (.int .i64 i))]
theorem afr(l m:List Gd)(hl:l.length≤9223372036854775807)(ih:∀a∈l,iM a.a∧iM a.b) :
  R P aE [.aW (l.map Gd.row),.aW (m.map Gd.row),.fn iv []]=some (.bool (Js yf l m)):=by
 unfold Js;rcases fC (((l.length:Nat):Int)=((m.length:Nat):Int))with h1|h1
 rotate_left
 ·rw[decide_eq_false (fun h=>of_eq_false h1 (by rw[h])),vD]
  (rw[cj (aO rfl),aD];simp(disch:=omega)only[aG,↓aa,seval,-List.reduceReplicate,reduceCtorEq,af,bz,h1])
 have hlm:l.length=m.length:=by have:=of_eq_true h1;omega
 rw[decide_eq_true hlm,IZ];have hz:(l.zip m).length=l.length:=by rw[acb];omega
 have h:=cS (P:=P) (nt:=32) (lv:=[1,2,15,16,17]) (b:=aZ) (rd:=none) (as:=l.zip m) (fun i (_:Unit)=>Kd l m i) (fun _=>[]) (fun _ _ x=>if yf x.1 x.2=true then .inl ()else .inr ()) (fun(_:Unit) r=>r.1=.ret∧r.2.τ.get 6=.p (.bool false)) (fun _ _=>True)
  (fun i x s ha hi hs=>by
   obtain⟨g1,g2⟩:=F8 ha;have hr:=aiF x.1 x.2 (ih x.1 (mK g1)).1 (ih x.1 (mK g1)).2;have hlt:((i:Int)<l.length)=True:=by rw[hz]at hi;simpa using hi
   have hx1:=fun σ=>aU (k:=.i64) (es:=11) (σ:=σ) (ax (f:=Gd.row) g1) x.1.aH
   have hx2:=fun σ=>aU (k:=.i64) (es:=11) (σ:=σ) (ax (f:=Gd.row) g2) x.2.aH
   have r1:=x.1.aY;refine⟨fun _ _=>trivial,?_⟩
   cases hb:yf x.1 x.2 with
   |true=>
    rw[hb]at hr;simp only[aZ,if_true];simp(disch:=omega)only[aG,↓aa,seval,-List.reduceReplicate,reduceCtorEq,af,hlt,bz,hx1,hx2,dx,bZ,Dv,hr,Kd,ai0,Yz,aop,Zw]
   |false=>
    rw[hb]at hr;simp only[aZ,nh,if_false];simp(disch:=omega)only[aG,↓aa,seval,-List.reduceReplicate,reduceCtorEq,af,hlt,bz,hx1,hx2,dx,bZ,Dv,hr,Kd,ai0,Yz,aop,Zw]) (fun i s=>rfl) () trivial
 rw[rl (fun x:Gd×Gd=>yf x.1 x.2),hz]at h
 cases hb:(l.zip m).all fun x=>yf x.1 x.2 with
 |true=>
  rw[hb]at h;obtain⟨_,g1⟩:=h;have h':an P bA (Kd l m 0) [] 32 none=_:=g1;simp only[Kd]at h'
  (rw[cj (aO rfl),aD];simp(disch:=omega)only[aG,↓aa,seval,-List.reduceReplicate,reduceCtorEq,af,bz,h1,dy,h',aZ,pD])
 |false=>
  rw[hb]at h;obtain⟨⟨e,τ',σ',nt',rd'⟩,g1,g2,g3⟩:=h
  simp only at g2 g3
  subst g2;have h':an P bA (Kd l m 0) [] 32 none=_:=g1;simp only[Kd]at h'
  (rw[cj (aO rfl),aD];simp(disch:=omega)only[aG,↓aa,seval,-List.reduceReplicate,reduceCtorEq,af,bz,h1,dy,h',g3])
theorem T2(r s:ed)(h:kq r):R P pg [.agg r.row,.agg s.row]=some (.bool (Ye r s)):=by
 have hll:=h.ll;have hgl:=h.gl;have k1:=u7 r.right h.rt.1 s.right;have k2:=afq r.left s.left (by omega) fun a ha=>(h.lt a ha).1
 have k3:=afr r.guards s.guards (by omega) fun g hg=>⟨(h.gt g hg).1,(h.gt g hg).2.1⟩
 unfold Ye;rcases fC (r.name=s.name)with h1|h1
 rotate_left
 ·rw[decide_eq_false (of_eq_false h1),vD,vD,vD]
  (rw[x7 (aO rfl),mJ];simp(disch:=omega)only[aG,↓aa,seval,-List.reduceReplicate,reduceCtorEq,af,bX,bn,UF,h1])
 rw[decide_eq_true (of_eq_true h1),IZ];cases q1:r.right.beq s.right with
 |false=>
  rw[q1]at k1;rw[vD,vD]
  (rw[x7 (aO rfl),mJ];simp(disch:=omega)only[aG,↓aa,seval,-List.reduceReplicate,reduceCtorEq,af,bX,bn,UF,Uo,h1,jK,k1])
 |true=>
 rw[q1]at k1;rw[IZ];cases q2:Js vL r.left s.left with
 |false=>
  rw[q2]at k2;rw[vD]
  (rw[x7 (aO rfl),mJ];simp(disch:=omega)only[aG,↓aa,seval,-List.reduceReplicate,reduceCtorEq,af,bX,bn,UF,Ah,Uo,h1,jK,k1,dQ,k2])
 |true=>
 rw[q2]at k2;rw[IZ]
 (rw[x7 (aO rfl),mJ];simp(disch:=omega)only[aG,↓aa,seval,-List.reduceReplicate,reduceCtorEq,af,bX,bn,UF,Ah,D4,Uo,h1,jK,k1,dQ,k2,ia,k3])
abbrev PG(l m:List Gd)(i:Int):List (Nat×AV):=[(0,.p (.aW (l.map Gd.row))),(1,.p (.aW (m.map Gd.row))),(5,.p (.int .i64 i))]
theorem GZ(l m:List Gd)(hl:l.length≤1000000)(ih:∀a∈l,iM a.a∧iM a.b):R P hJ [.aW (l.map Gd.row),.aW (m.map Gd.row)]=some (.bool (Js yf l m)):=by
 unfold Js;rcases fC (((l.length:Nat):Int)=((m.length:Nat):Int))with h1|h1
 rotate_left
 ·rw[decide_eq_false (fun h=>of_eq_false h1 (by rw[h])),vD]
  (rw[tH (aO rfl),gV];simp(disch:=omega)only[aG,↓aa,seval,-List.reduceReplicate,reduceCtorEq,af,bz,h1])
 have hlm:l.length=m.length:=by have:=of_eq_true h1;omega
 rw[decide_eq_true hlm,IZ];have hz:(l.zip m).length=l.length:=by rw[acb];omega
 have h:=cS (P:=P) (nt:=56) (lv:=[0,1,5]) (b:=fJ) (rd:=none) (as:=l.zip m) (fun i (_:Unit)=>PG l m i) (fun _=>[]) (fun _ _ x=>if yf x.1 x.2=true then .inl ()else .inr ()) (fun(_:Unit)=>ec 4 (.bool false) []) (fun _ _=>True)
  (fun i x s ha hi hs=>by
   obtain⟨g1,g2⟩:=F8 ha;have hm:=ih x.1 (mK g1);have k1:=Ac x.1.a hm.1 x.2.a;have k2:=Ac x.1.b hm.2 x.2.b;have hlt:((i:Int)<l.length)=True:=by rw[hz]at hi;simpa using hi
   have hx1:=fun σ=>aU (k:=.i64) (es:=11) (σ:=σ) (ax (f:=Gd.row) g1) x.1.aH
   have hx2:=fun σ=>aU (k:=.i64) (es:=11) (σ:=σ) (ax (f:=Gd.row) g2) x.2.aH
   refine⟨fun _ _=>trivial,?_⟩
   unfold yf;rcases fC (x.1.kind=x.2.kind)with q1|q1
   rotate_left
   ·rw[decide_eq_false (of_eq_false q1)]
    simp only[vD,nh,if_false,fJ];simp(disch:=omega)only[aG,↓aa,seval,-List.reduceReplicate,reduceCtorEq,af,hlt,bz,hx1,hx2,dx,bZ,yF,q1,PG,ec]
   rw[decide_eq_true (of_eq_true q1)];cases c1:x.1.a.beq x.2.a with
   |false=>
    rw[c1]at k1;simp only[UN,vD,nh,if_false,fJ];simp(disch:=omega)only[aG,↓aa,seval,-List.reduceReplicate,reduceCtorEq,af,hlt,bz,hx1,hx2,dx,bZ,yF,C1,q1,j9,k1,PG,ec]
   |true=>
    rw[c1]at k1;cases c2:x.1.b.beq x.2.b with
    |false=>
     rw[c2]at k2;simp only[UN,nh,if_false,fJ];simp(disch:=omega)only[aG,↓aa,seval,-List.reduceReplicate,reduceCtorEq,af,hlt,bz,hx1,hx2,dx,bZ,yF,C1,C2,q1,j9,k1,k2,PG,ec]
    |true=>
     rw[c2]at k2;simp only[Q8,if_true,fJ];simp(disch:=omega)only[aG,↓aa,seval,-List.reduceReplicate,reduceCtorEq,af,hlt,bz,hx1,hx2,dx,bZ,yF,C1,C2,q1,j9,k1,k2,PG,ec]) (fun i s=>rfl) () trivial
 rw[rl (fun x:Gd×Gd=>yf x.1 x.2),hz]at h
 cases hb:(l.zip m).all fun x=>yf x.1 x.2 with
 |true=>
  rw[hb]at h;obtain⟨_,g1⟩:=h;have h':an P ou (PG l m 0) [] 56 none=_:=g1;simp only[PG]at h'
  (rw[tH (aO rfl),gV];simp(disch:=omega)only[aG,↓aa,seval,-List.reduceReplicate,reduceCtorEq,af,bz,h1,xM,h',fJ,pD])
 |false=>
  rw[hb]at h;obtain⟨⟨e,τ',σ',nt',rd'⟩,g1,g2,g3,g4⟩:=h
  simp only at g2 g3 g4
  subst g2;have h':an P ou (PG l m 0) [] 56 none=_:=g1;simp only[PG]at h'
  (rw[tH (aO rfl),gV];simp(disch:=omega)only[aG,↓aa,seval,-List.reduceReplicate,reduceCtorEq,af,bz,h1,xM,h',g3])
abbrev J9(r s:ed)(i:Int):List (Nat×AV):=[(2,.p (.ptr r.row 0)),(3,.p (.ptr s.row 0)),(5,.p (.int .i64 i))]
theorem ahf(r s:ed)(h:kq r)(hlm:r.left.length=s.left.length):uV (fun _:Unit=>True∧an P rj (J9 r s 0) [] 72 none=back P [2,3,5] mG 0 (exec P mG ⟨tm (J9 r s r.left.length),[],72,none⟩)) (fun _:Unit=>∃q,an P rj (J9 r s 0) [] 72 none=some q∧ec 4 (.bool false) [] q) (if(r.left.zip s.left).all (fun x=>vL x.1 x.2)=true then .inl ()else .inr ()):=by
 have hll:=h.ll;have hz:(r.left.zip s.left).length=r.left.length:=by rw[acb];omega
 have h:=cS (P:=P) (nt:=72) (lv:=[2,3,5]) (b:=mG) (rd:=none) (as:=r.left.zip s.left) (fun i (_:Unit)=>J9 r s i) (fun _=>[]) (fun _ _ x=>if vL x.1 x.2=true then .inl ()else .inr ()) (fun(_:Unit)=>ec 4 (.bool false) []) (fun _ _=>True)
  (fun i x s' ha hi hs=>by
   obtain⟨g1,g2⟩:=F8 ha;have hm:=h.lt x.1 (mK g1);have k1:=Ac x.1.pat hm.1 x.2.pat;have hlt:((i:Int)<r.left.length)=True:=by rw[hz]at hi;simpa using hi
   have hx1:=fun σ=>aU (k:=.i64) (es:=6) (σ:=σ) (ax (f:=Atom.row) g1) x.1.aH
   have hx2:=fun σ=>aU (k:=.i64) (es:=6) (σ:=σ) (ax (f:=Atom.row) g2) x.2.aH
   refine⟨fun _ _=>trivial,?_⟩
   unfold vL;rcases fC (x.1.root=x.2.root)with q1|q1
   rotate_left
   ·rw[decide_eq_false (of_eq_false q1)]
    simp only[vD,nh,if_false,mG];simp(disch:=omega)only[aG,↓aa,seval,-List.reduceReplicate,reduceCtorEq,af,hlt,Ah,bz,hx1,hx2,jX,fL,iV,q1,J9,ec]
   rw[decide_eq_true (of_eq_true q1)];cases c1:x.1.pat.beq x.2.pat with
   |false=>
    rw[c1]at k1;simp only[UN,nh,if_false,mG];simp(disch:=omega)only[aG,↓aa,seval,-List.reduceReplicate,reduceCtorEq,af,hlt,Ah,bz,hx1,hx2,jX,fL,iV,sP,q1,j9,k1,J9,ec]
   |true=>
    rw[c1]at k1;simp only[Q8,if_true,mG];simp(disch:=omega)only[aG,↓aa,seval,-List.reduceReplicate,reduceCtorEq,af,hlt,Ah,bz,hx1,hx2,jX,fL,iV,sP,q1,j9,k1,J9,ec]) (fun i s=>rfl) () trivial
 rw[rl (fun x:Atom×Atom=>vL x.1 x.2),hz]at h
 exact h
theorem WY(r s:ed)(h:kq r):R P q5 [.agg r.row,.agg s.row]=some (.bool (Ye r s)):=by
 have hll:=h.ll;have hgl:=h.gl;have k1:=Ac r.right h.rt.1 s.right;have k3:=GZ r.guards s.guards (by omega) fun g hg=>⟨(h.gt g hg).1,(h.gt g hg).2.1⟩
 unfold Ye;rcases fC (r.name=s.name)with h1|h1
 rotate_left
 ·rw[decide_eq_false (of_eq_false h1),vD,vD,vD]
  (rw[tF (aO rfl),lA];simp(disch:=omega)only[aG,↓aa,seval,-List.reduceReplicate,reduceCtorEq,af,bX,bn,UF,h1])
 rw[decide_eq_true (of_eq_true h1),IZ];have e:Js vL r.left s.left=(decide (r.left.length=s.left.length) && (r.left.zip s.left).all fun x=>vL x.1 x.2):=rfl
 rw[e];rcases fC (((r.left.length:Nat):Int)=((s.left.length:Nat):Int))with h2|h2
 rotate_left
 ·rw[decide_eq_false (fun h=>of_eq_false h2 (by rw[h])),vD,UN,vD]
  (rw[tF (aO rfl),lA];simp(disch:=omega)only[aG,↓aa,seval,-List.reduceReplicate,reduceCtorEq,af,bX,bn,UF,Ah,bz,h1,h2])
 have hlm:r.left.length=s.left.length:=by have:=of_eq_true h2;omega
 rw[decide_eq_true hlm,IZ];cases q1:r.right.beq s.right with
 |false=>
  rw[q1]at k1;rw[vD,vD]
  (rw[tF (aO rfl),lA];simp(disch:=omega)only[aG,↓aa,seval,-List.reduceReplicate,reduceCtorEq,af,bX,bn,UF,Ah,bz,h1,h2,Uo,j9,k1])
 |true=>
 rw[q1]at k1;rw[IZ];cases q3:Js yf r.guards s.guards with
 |false=>
  rw[q3]at k3;rw[UN]
  (rw[tF (aO rfl),lA];simp(disch:=omega)only[aG,↓aa,seval,-List.reduceReplicate,reduceCtorEq,af,bX,bn,UF,Ah,D4,bz,h1,h2,Uo,j9,k1,tD,k3])
 |true=>
 rw[q3]at k3;rw[ab0];have hL:=ahf r s h hlm;cases hb:(r.left.zip s.left).all fun x=>vL x.1 x.2 with
 |true=>
  rw[hb]at hL;obtain⟨_,g1⟩:=hL;have h':an P rj (J9 r s 0) [] 72 none=_:=g1;simp only[J9]at h'
  (rw[tF (aO rfl),lA];simp(disch:=omega)only[aG,↓aa,seval,-List.reduceReplicate,reduceCtorEq,af,bX,bn,UF,Ah,D4,bz,h1,h2,Uo,j9,k1,tD,k3,Hm,h',mG,pD])
 |false=>
  rw[hb]at hL;obtain⟨⟨e,τ',σ',nt',rd'⟩,g1,g2,g3,g4⟩:=hL
  simp only at g2 g3 g4
  subst g2;have h':an P rj (J9 r s 0) [] 72 none=_:=g1;simp only[J9]at h'
  (rw[tF (aO rfl),lA];simp(disch:=omega)only[aG,↓aa,seval,-List.reduceReplicate,reduceCtorEq,af,bX,bn,UF,Ah,D4,bz,h1,h2,Uo,j9,k1,tD,k3,Hm,h',g3])
def zG:Gd:=⟨0,zT,zT⟩
def atG(w:Int)(g:Gd):Option Gd :=
 if(g.a.vj w).2=true then
  if g.kind=1 then some ⟨g.kind,(g.a.vj w).1,g.b⟩
  else if(g.b.vj w).2=true then some ⟨g.kind,(g.a.vj w).1,(g.b.vj w).1⟩else none
 else none
def US:Option Gd→List PV
 |some g=>[.agg g.row,.int .i64 0]
 |none=>[.agg zG.row,.int .i64 3]
theorem af1:zG.row=[.int .i64 0,.int .i64 0,.int .i64 0,.int .u64 0,.str (bs []),.aW [],.int .i64 0,.int .i64 0,.int .u64 0,.str (bs []),.aW []]:=by rw[Gd.aY];rfl
theorem ajO{k:Int}{a b:Term}:kB [.p (.int .i64 0),.p (.int .i64 0),.p (.int .i64 0),.p (.int .u64 0),.p (.str (bs [])),.aF,.p (.int .i64 0),.p (.int .i64 0),.p (.int .u64 0),.p (.str (bs [])),.aF] [(0,1,.p (.int .i64 k)),(1,5,.p (.agg a.row)),(6,5,.p (.agg b.row))]=some (.p (.agg (Gd.row ⟨k,a,b⟩))):=by
 rw[Gd.aY,Term.aY a,Term.aY b];rfl
theorem agA:kB [.p (.int .i64 0),.p (.int .i64 0),.p (.int .i64 0),.p (.int .u64 0),.p (.str (bs [])),.aF,.p (.int .i64 0),.p (.int .i64 0),.p (.int .u64 0),.p (.str (bs [])),.aF] []=some (.agg [.p (.int .i64 0),.p (.int .i64 0),.p (.int .i64 0),.p (.int .u64 0),.p (.str (bs [])),.aF,.p (.int .i64 0),.p (.int .i64 0),.p (.int .u64 0),.p (.str (bs [])),.aF]):=rfl
theorem Yi{c0 c1 c2 c3 c4 c5 c6 c7 c8 c9 c10:AV}{o p:Obj}:eE [o,p,.av 11 [[c0,c1,c2,c3,c4,c5,c6,c7,c8,c9,c10]] false] 11 (.ptr 2 1 0 0) (.agg [.p (.int .i64 0),.p (.int .i64 0),.p (.int .i64 0),.p (.int .u64 0),.p (.str (bs [])),.aF,.p (.int .i64 0),.p (.int .i64 0),.p (.int .u64 0),.p (.str (bs [])),.aF])=some [o,p,.av 11 [[.p (.int .i64 0),.p (.int .i64 0),.p (.int .i64 0),.p (.int .u64 0),.p (.str (bs [])),.sl 3 0,.p (.int .i64 0),.p (.int .i64 0),.p (.int .u64 0),.p (.str (bs [])),.sl 4 0]] false,.pv 0 [] false,.pv 0 [] false]:=rfl
theorem Yj{c0 c1 c2 c3 c4 c5 c6 c7 c8 c9 c10:AV}{o p q:Obj}:eE [o,p,.av 11 [[c0,c1,c2,c3,c4,c5,c6,c7,c8,c9,c10]] false,q] 11 (.ptr 2 1 0 0) (.agg [.p (.int .i64 0),.p (.int .i64 0),.p (.int .i64 0),.p (.int .u64 0),.p (.str (bs [])),.aF,.p (.int .i64 0),.p (.int .i64 0),.p (.int .u64 0),.p (.str (bs [])),.aF])=some [o,p,.av 11 [[.p (.int .i64 0),.p (.int .i64 0),.p (.int .i64 0),.p (.int .u64 0),.p (.str (bs [])),.sl 4 0,.p (.int .i64 0),.p (.int .i64 0),.p (.int .u64 0),.p (.str (bs [])),.sl 5 0]] false,q,.pv 0 [] false,.pv 0 [] false]:=rfl
theorem Yh{c0 c1 c2 c3 c4 c5 c6 c7 c8 c9 c10:AV}{o p q:Obj}(a:Gd):eE [o,p,.av 11 [[c0,c1,c2,c3,c4,c5,c6,c7,c8,c9,c10]] false,q] 11 (.ptr 2 1 0 0) (.p (.agg a.row))=some [o,p,.pv 11 [a.row] false,q]:=by rw[a.aY];rfl
theorem aie{o p q:Obj}(t u:Term):QQ [o,p,q,.pv 5 [u.row] false] 3 1 0 0 (List.map AV.p t.row) (some (.pv 5 [u.row] false))=some [o,p,q,.pv 5 [t.row] false]:=by rw[Term.aY t,Term.aY u];rfl
theorem WX(g:Gd)(w:Int)(hw:1≤w∧w≤64)(hk:1≤g.kind∧g.kind≤4)(ha:iM g.a)(hb:iM g.b)(ca:g.a.count≤400000)(cb:g.b.count≤400000):R P qZ [.agg g.row,.int .i64 w]=some (.jO (US (atG w g))):=by
 have k1:=we g.a w ⟨by omega,by omega⟩ ha (by omega)
 have k2:=we g.b w ⟨by omega,by omega⟩ hb (by omega)
 rw[if_pos hw]at k1 k2;have kc:=ye g.b (by omega)
 have lo:(g.kind<1)=False:=by simp;omega
 have hi:(g.kind > 4)=False:=by simp;omega
 unfold atG;cases e1:(g.a.vj w).2 with
 |false=>
  unfold atE at k1;rw[e1]at k1;simp only[nh,if_false]at k1 ⊢;unfold US
  (rw[zX (aO rfl),oG];simp(disch:=omega)only[aG,↓aa,seval,-List.reduceReplicate,reduceCtorEq,af,dx,bZ,yF,C1,lo,hi,Yz,agA,Yi,Yj,Yh,aie,Zw,jx,k1])
  rw[af1];rfl
 |true=>
  unfold atE at k1;rw[e1]at k1;simp only[if_true]at k1 ⊢;rcases fC (g.kind=1)with h1|h1
  ·rw[if_pos (of_eq_true h1)]
   unfold US
   (rw[zX (aO rfl),oG];simp(disch:=omega)only[aG,↓aa,seval,-List.reduceReplicate,reduceCtorEq,af,dx,bZ,yF,C1,C2,lo,hi,h1,Yz,agA,Yi,Yj,Yh,aie,Zw,jx,k1,rq,kc,ajO])
  ·rw[if_neg (of_eq_false h1)]
   cases e2:(g.b.vj w).2 with
   |false=>
    unfold atE at k2;rw[e2]at k2;simp only[nh,if_false]at k2 ⊢;unfold US
    (rw[zX (aO rfl),oG];simp(disch:=omega)only[aG,↓aa,seval,-List.reduceReplicate,reduceCtorEq,af,dx,bZ,yF,C1,C2,lo,hi,h1,Yz,agA,Yi,Yj,Yh,aie,Zw,jx,k1,k2,rq,kc,ajO])
    rw[af1];rfl
   |true=>
    unfold atE at k2;rw[e2]at k2;simp only[if_true]at k2 ⊢;unfold US
    (rw[zX (aO rfl),oG];simp(disch:=omega)only[aG,↓aa,seval,-List.reduceReplicate,reduceCtorEq,af,dx,bZ,yF,C1,C2,lo,hi,h1,Yz,agA,Yi,Yj,Yh,aie,Zw,jx,k1,k2,rq,kc,ajO])
def atA(w:Int)(a:Atom):Option Atom:=if(a.pat.vj w).2=true then some ⟨a.root,(a.pat.vj w).1⟩else none
def C3{α β:Type}(h:α→Option β)(s:List β)(a:α):List β ⊕ List β:=match h a with
 |some b=>.inl (s++[b])
 |none=>.inr s
theorem Gx{α β:Type}(h:α→Option β):∀(l:List α) (i:Nat) (s:List β),match omap h l with
  |some m=>aq (fun _ s a=>C3 h s a) i s l=.inl (s++m)∧m.length=l.length
  |none=>∃t,aq (fun _ s a=>C3 h s a) i s l=.inr t
 | [],i,s=>by simp[omap,aq]
 |a::l,i,s=>by
  simp only[omap,aq,C3];cases ha:h a with
  |none=>exact⟨s,rfl⟩
  |some b=>
   have ih:=Gx h l (i+1) (s++[b]);simp only[C3]at ih;cases hm:omap h l with
   |none=>rw[hm]at ih;exact ih
   |some m=>
    rw[hm]at ih;refine⟨?_,by simp[ih.2]⟩
    show aq _ (i+1) (s++[b]) l=_;rw[ih.1];simp
def z8(a b c:Nat):List AV:=[.p (.str (bs [])),.sl a 0,.p (.int .i64 0),.p (.int .i64 0),.p (.int .u64 0),.p (.str (bs [])),.sl b 0,.sl c 0]
abbrev xR:Obj:=.pv 0 [] false
abbrev QC(k:Nat)(n:ByteArray)(s:List Atom):ae:=[xR,xR,xR,.av 8 [z8 k (k+1) (k+2)] false,.pv (mD 6 s) (s.map Atom.row) false,xR,xR,.av 8 [[.p (.str n),.sl 4 s.length,.p (.int .i64 0),.p (.int .i64 0),.p (.int .u64 0),.p (.str (bs [])),.sl 5 0,.sl 6 0]] false]
def aeY(n:ByteArray)(s:List Atom)(r:Ex×St):Prop:=r.1=.ret∧r.2.τ.get 4=.ptr 3 1 0 0∧r.2.τ.get 5=.p (.int .i64 3) ∧
 r.2.σ=QC 8 n s++[xR,xR,xR]
abbrev Sd(r:ed)(w:Int)(i:Int):List (Nat×AV):=[(1,.p (.int .i64 w)),(2,.p (.ptr r.row 0)),(4,.ptr 3 1 0 0),(6,.ptr 7 1 0 0),(28,.p (.aW (r.left.map Atom.row))),(29,.p (.int .i64 r.left.length)),(30,.p (.int .i64 i))]
theorem JC:kB [.p (.str (bs [])),.aF,.p (.int .i64 0),.p (.int .i64 0),.p (.int .u64 0),.p (.str (bs [])),.aF,.aF] []=some (.agg [.p (.str (bs [])),.aF,.p (.int .i64 0),.p (.int .i64 0),.p (.int .u64 0),.p (.str (bs [])),.aF,.aF]):=rfl
theorem apf{a:ByteArray}{t:Term}:kB [.p (.str (bs [])),.p (.int .i64 0),.p (.int .i64 0),.p (.int .u64 0),.p (.str (bs [])),.aF] [(0,1,.p (.str a)),(1,5,.p (.agg t.row))]=some (.p (.agg (Atom.row ⟨a,t⟩))):=by
 rw[Atom.aY,Term.aY t];rfl
theorem agv{a:Atom}:A2 σ 6 1 (gK (List.replicate 1 [.p (.str (bs [])),.p (.int .i64 0),.p (.int .i64 0),.p (.int .u64 0),.p (.str (bs [])),.aF]).flatten [(0,6,.p (.agg a.row))])=some (.p (.aW [a.row]),σ):=by rw[a.aY];rfl
theorem aom{a:Atom}:mB σ 6 (.p (.aW [a.row]))=some (.inl [a.row]):=OQ (by simp[wide,a.aH])
theorem ajn{c0 c1 c2 c3 c4 c5 c6 c7:AV}{a b c d e f g:Obj}:eE [a,b,c,.av 8 [[c0,c1,c2,c3,c4,c5,c6,c7]] false,d,e,f,g] 8 (.ptr 3 1 0 0) (.agg [.p (.str (bs [])),.aF,.p (.int .i64 0),.p (.int .i64 0),.p (.int .u64 0),.p (.str (bs [])),.aF,.aF])=some [a,b,c,.av 8 [z8 8 9 10] false,d,e,f,g,xR,xR,xR]:=rfl
theorem apE{c0 c1 c2 c3 c4 c5 c6 c7:AV}:part 1 1 [c0,c1,c2,c3,c4,c5,c6,c7]=some [c1]:=rfl
theorem apF{c0 c1 c2 c3 c4 c5 c6 c7:AV}:part 7 1 [c0,c1,c2,c3,c4,c5,c6,c7]=some [c7]:=rfl
theorem apG{c0 c1 c2 c3 c4 c5 c6 c7:AV}:part 0 8 [c0,c1,c2,c3,c4,c5,c6,c7]=some [c0,c1,c2,c3,c4,c5,c6,c7]:=rfl
theorem apH{x c0 c1 c2 c3 c4 c5 c6 c7:AV}:b9 1 [x] [c0,c1,c2,c3,c4,c5,c6,c7]=some [c0,x,c2,c3,c4,c5,c6,c7]:=rfl
theorem apI{x c0 c1 c2 c3 c4 c5 c6 c7:AV}:b9 7 [x] [c0,c1,c2,c3,c4,c5,c6,c7]=some [c0,c1,c2,c3,c4,c5,c6,x]:=rfl
theorem Zr(r:ed)(w:Int)(h:kq r)(hw:1≤w∧w≤64):uV (fun s:List Atom=>s.length=r.left.length∧an P zw (Sd r w 0) (QC 0 r.name []) 93 none=back P [1,2,4,6,28,29,30] mX 8 (exec P mX ⟨tm (Sd r w r.left.length),QC 0 r.name s,93,none⟩)) (fun s:List Atom=>∃q,an P zw (Sd r w 0) (QC 0 r.name []) 93 none=some q∧aeY r.name s q) (aq (fun _ s a=>C3 (atA w) s a) 0 [] r.left):=by
 have hll:=h.ll
 have hL:=cS (P:=P) (nt:=93) (lv:=[1,2,4,6,28,29,30]) (b:=mX) (rd:=none) (as:=r.left) (fun i (_:List Atom)=>Sd r w i) (QC 0 r.name) (fun _ s a=>C3 (atA w) s a) (aeY r.name) (fun i s=>s.length=i)
  (fun i a s ha hi hs=>by
   have hat:=h.lt a (mK ha);have hr:=we a.pat w ⟨by omega,by omega⟩ hat.1 (by omega)
   rw[if_pos hw]at hr;have hlt:((i:Int)<r.left.length)=True:=by simpa using hi
   have hx:=fun σ=>aU (k:=.i64) (es:=6) (σ:=σ) (ax (f:=Atom.row) ha) a.aH
   unfold C3 atA;unfold atE at hr;generalize hxx:a.pat.vj w=x at hr;obtain⟨x,ok⟩:=x;cases ok with
   |true=>
    have hap:=eZ (σ:=QC 0 r.name s) (b:=4) (n:=s.length) (e:=mD 6 s) (es:=6) (bytes:=80) (rows:=s.map Atom.row) (new:=[Atom.row ⟨a.root,x⟩]) rfl (by simp) (r9 _ _ _) (by simp only[oi,pN];omega)
    simp only[QC,z8,sQ,oi,pN]at hap;simp only[if_true]at hr ⊢;refine⟨fun s' he=>by simp at he;subst he;simp[hs],?_⟩
    simp only[mX];simp(disch:=omega)only[aG,↓aa,seval,-List.reduceReplicate,reduceCtorEq,af,hlt,bz,hx,jX,fL,iV,sP,jx,hr,apE,apH,apf,agv,aom,QC,z8,hap,Ed,mh,kE,Sd]
    try rfl
   |false=>
    simp only[nh,if_false]at hr ⊢;refine⟨fun s' he=>by simp at he,?_⟩
    simp only[mX];simp(disch:=omega)only[aG,↓aa,seval,-List.reduceReplicate,reduceCtorEq,af,hlt,bz,hx,jX,fL,iV,sP,jx,hr,JC,ajn,QC,z8,aeY,Sd]
    try rfl) (fun i s=>rfl) [] rfl
 exact hL
def zR:ed:=⟨bs [],[],zT,[]⟩
theorem Mx:zR.row=[.str (bs []),.aW [],.int .i64 0,.int .i64 0,.int .u64 0,.str (bs []),.aW [],.aW []]:=by rw[ed.aY];rfl
def atR(w:Int)(r:ed):Option ed:=match omap (atA w) r.left with
 |some l=>if(r.right.vj w).2=true then
   match omap (atG w) r.guards with
   |some gs=>some ⟨r.name,l,(r.right.vj w).1,gs⟩
   |none=>none
  else none
 |none=>none
def UT:Option ed→List PV
 |some x=>[.agg x.row,.int .i64 0]
 |none=>[.agg zR.row,.int .i64 3]
def ajJ(w:Int)(r:ed):List PV:=if 1≤w∧w≤64 then UT (atR w r)else[.agg zR.row,.int .i64 2]
abbrev sRG(k:Nat)(n:ByteArray)(l:List Atom)(t:Term)(s:List Gd):ae:=[xR,xR,xR,.av 8 [z8 k (k+1) (k+2)] false,.pv (mD 6 l) (l.map Atom.row) false,xR,.pv (mD 11 s) (s.map Gd.row) false,.av 8 [[.p (.str n),.sl 4 l.length,.p (.int .i64 t.op),.p (.int .i64 t.w),.p (.int .u64 t.v),.p (.str t.name),.p (.aW (t.args.map Term.row)),.sl 6 s.length]] false]
def aeZ(n:ByteArray)(l:List Atom)(t:Term)(s:List Gd)(r:Ex×St):Prop:=r.1=.ret∧r.2.τ.get 4=.ptr 3 1 0 0∧r.2.τ.get 5=.p (.int .i64 3) ∧
 r.2.σ=sRG 8 n l t s++[xR,xR,xR]
abbrev Se(r:ed)(w:Int)(i:Int):List (Nat×AV):=[(1,.p (.int .i64 w)),(4,.ptr 3 1 0 0),(6,.ptr 7 1 0 0),(69,.p (.aW (r.guards.map Gd.row))),(70,.p (.int .i64 r.guards.length)),(71,.p (.int .i64 i))]
theorem agw{a:Gd}:A2 σ 11 1 (gK (List.replicate 1 [.p (.int .i64 0),.p (.int .i64 0),.p (.int .i64 0),.p (.int .u64 0),.p (.str (bs [])),.aF,.p (.int .i64 0),.p (.int .i64 0),.p (.int .u64 0),.p (.str (bs [])),.aF]).flatten [(0,11,.p (.agg a.row))])=some (.p (.aW [a.row]),σ):=by rw[a.aY];rfl
theorem aon{a:Gd}:mB σ 11 (.p (.aW [a.row]))=some (.inl [a.row]):=OQ (by simp[wide,a.aH])
theorem VQ{g:Gd}(h:KG g=true):1≤g.kind∧g.kind≤4:=by
 unfold KG at h;split at h
 ·omega
 ·split at h
  ·omega
  ·have:=of_decide_eq_true h;omega
theorem Zt(r:ed)(w:Int)(l:List Atom)(t:Term)(h:kq r)(hk:∀g∈r.guards,1≤g.kind∧g.kind≤4)(hw:1≤w∧w≤64):uV (fun s:List Gd=>s.length=r.guards.length∧an P zA (Se r w 0) (sRG 0 r.name l t []) 93 none=back P [1,4,6,69,70,71] qK 8 (exec P qK ⟨tm (Se r w r.guards.length),sRG 0 r.name l t s,93,none⟩)) (fun s:List Gd=>∃q,an P zA (Se r w 0) (sRG 0 r.name l t []) 93 none=some q∧aeZ r.name l t s q) (aq (fun _ s a=>C3 (atG w) s a) 0 [] r.guards):=by
 have hgl:=h.gl
 have hL:=cS (P:=P) (nt:=93) (lv:=[1,4,6,69,70,71]) (b:=qK) (rd:=none) (as:=r.guards) (fun i (_:List Gd)=>Se r w i) (sRG 0 r.name l t) (fun _ s a=>C3 (atG w) s a) (aeZ r.name l t) (fun i s=>s.length=i)
  (fun i g s ha hi hs=>by
   have hm:=mK ha;have Q3:=h.gt g hm;have hr:=WX g w hw (hk g hm) Q3.1 Q3.2.1 (by omega) (by omega)
   have hlt:((i:Int)<r.guards.length)=True:=by simpa using hi
   have hx:=fun σ=>aU (k:=.i64) (es:=11) (σ:=σ) (ax (f:=Gd.row) ha) g.aH
   unfold C3;cases hxx:atG w g with
   |some x=>
    rw[hxx]at hr;simp only[US]at hr;have hap:=eZ (σ:=sRG 0 r.name l t s) (b:=6) (n:=s.length) (e:=mD 11 s) (es:=11) (bytes:=136) (rows:=s.map Gd.row) (new:=[x.row]) rfl (by simp) (r9 _ _ _) (by simp only[oi,pN];omega)
    simp only[sRG,z8,sQ,oi,pN]at hap;refine⟨fun s' he=>by simp at he;subst he;simp[hs],?_⟩
    simp only[qK];simp(disch:=omega)only[aG,↓aa,seval,-List.reduceReplicate,reduceCtorEq,af,hlt,bz,hx,dx,bZ,Lx,hr,apF,apI,agw,aon,sRG,z8,hap,Ed,mh,kE,Se]
    try rfl
   |none=>
    rw[hxx]at hr;simp only[US]at hr;refine⟨fun s' he=>by simp at he,?_⟩
    simp only[qK];simp(disch:=omega)only[aG,↓aa,seval,-List.reduceReplicate,reduceCtorEq,af,hlt,bz,hx,dx,bZ,Lx,hr,JC,ajn,sRG,z8,aeZ,Se]
    try rfl) (fun i s=>rfl) [] rfl
 exact hL
def z8n(n:ByteArray):List AV:=[.p (.str n),.aF,.p (.int .i64 0),.p (.int .i64 0),.p (.int .u64 0),.p (.str (bs [])),.aF,.aF]
theorem Yy:rY 8 (aT [.p (.str (bs [])),.aF,.p (.int .i64 0),.p (.int .i64 0),.p (.int .u64 0),.p (.str (bs [])),.aF,.aF] [])=some (.ptr 3 1 0 0,[xR,xR,xR,.av 8 [z8 0 1 2] false]):=rfl
theorem agz{n:ByteArray}:kB [.p (.str (bs [])),.aF,.p (.int .i64 0),.p (.int .i64 0),.p (.int .u64 0),.p (.str (bs [])),.aF,.aF] [(0,1,.p (.str n))]=some (.agg (z8n n)):=rfl
theorem ag6{n:ByteArray}:sS [xR,xR,xR,.av 8 [z8 0 1 2] false] 8 false (cellsOf 8 true (.agg (z8n n)))=some (.ptr 7 1 0 0,QC 0 n []):=rfl
theorem afG:eE [xR,xR,xR,.av 8 [z8 0 1 2] false] 8 (.ptr 3 1 0 0) (.agg [.p (.str (bs [])),.aF,.p (.int .i64 0),.p (.int .i64 0),.p (.int .u64 0),.p (.str (bs [])),.aF,.aF])=some [xR,xR,xR,.av 8 [z8 4 5 6] false,xR,xR,xR]:=rfl
theorem ajd{c0 c1 c2 c3 c4 c5 c6 c7:AV}(t:Term):b9 2 (List.map AV.p t.row) [c0,c1,c2,c3,c4,c5,c6,c7]=some [c0,c1,.p (.int .i64 t.op),.p (.int .i64 t.w),.p (.int .u64 t.v),.p (.str t.name),.p (.aW (t.args.map Term.row)),c7]:=by rw[Term.aY];rfl
theorem ajm{σ:ae}{n:ByteArray}{a b:Nat}{c2 c3 c4 c5 c6 c7:AV}:stF σ 7 8 (some [.p (.str n),.sl a b,c2,c3,c4,c5,c6,c7])=some (σ.set 7 (.av 8 [[.p (.str n),.sl a b,c2,c3,c4,c5,c6,c7]] false)):=rfl
theorem Es{α:Type}{n:Nat}:mD n ([]:List α)=0:=rfl
theorem anC{n:ByteArray}{a b:Nat}{c2 c3 c4 c5 c6 c7:AV}:mkObj 8 [.p (.str n),.sl a b,c2,c3,c4,c5,c6,c7]=.av 8 [[.p (.str n),.sl a b,c2,c3,c4,c5,c6,c7]] false:=rfl
theorem alB{i j k:Nat}{a b c d e f g:Obj}:eE [a,b,c,.av 8 [z8 i j k] false,d,e,f,g] 8 (.ptr 3 1 0 0) (.agg [.p (.str (bs [])),.aF,.p (.int .i64 0),.p (.int .i64 0),.p (.int .u64 0),.p (.str (bs [])),.aF,.aF])=some [a,b,c,.av 8 [z8 8 9 10] false,d,e,f,g,xR,xR,xR]:=rfl
theorem apC{p0:PV}{a b:Nat}{c2 c3 c4 c5 c6 c7:AV}:ofC true (some [.p p0,.sl a b,c2,c3,c4,c5,c6,c7])=some (.agg [.p p0,.sl a b,c2,c3,c4,c5,c6,c7]):=rfl
theorem apQ{i j k x y z q:Nat}{p0 p2 p3 p4 p5 p6:PV}{a b c d e f g:Obj}:eE [a,b,c,.av 8 [z8 i j k] false,d,e,f,g] 8 (.ptr 3 1 0 0) (.agg [.p p0,.sl x y,.p p2,.p p3,.p p4,.p p5,.p p6,.sl z q])=some [a,b,c,.av 8 [[.p p0,.sl x y,.p p2,.p p3,.p p4,.p p5,.p p6,.sl z q]] false,d,e,f,g]:=rfl
theorem an3{n es:Nat}{rows:List (List PV)}{fl:Bool}{a b c d e f g:Obj}:az [a,b,c,d,e,f,.pv es rows fl,g] 10 (.sl 6 n)=if rows.length=n then some (.aW rows)else none:=rfl
theorem ZY(r:ed)(w:Int)(hw0 : -9223372036854775808≤w∧w≤9223372036854775807)(h:kq r)(hk:∀g∈r.guards,1≤g.kind∧g.kind≤4):R P tl [.agg r.row,.int .i64 w]=some (.jO (ajJ w r)):=by
 unfold ajJ;by_cases hw:1≤w∧w≤64
 rotate_left
 ·rw[if_neg hw]
  by_cases c1:w<1
  ·(rw[wq (aO rfl),nU];simp(disch:=omega)only[aG,↓aa,seval,-List.reduceReplicate,reduceCtorEq,af,bX,bn,Yy,c1,JC,afG])
   rw[Mx];rfl
  ·have c2:w > 64:=by omega
   (rw[wq (aO rfl),nU];simp(disch:=omega)only[aG,↓aa,seval,-List.reduceReplicate,reduceCtorEq,af,bX,bn,Yy,c1,c2,JC,afG])
   rw[Mx];rfl
 rw[if_pos hw];have c1:(w<1)=False:=by simp;omega
 have c2:(w > 64)=False:=by simp;omega
 have h0:=Zr r w h hw;have f0:=Gx (atA w) r.left 0 [];have hr:=we r.right w hw0 h.rt.1 (by have:=h.rt.2;omega)
 rw[if_pos hw]at hr;unfold atE at hr;unfold atR;cases hl:omap (atA w) r.left with
 |none=>
  rw[hl]at f0;obtain⟨s,f0⟩:=f0;rw[f0]at h0;obtain⟨⟨e,τ',σ',nt',rd'⟩,k1,k2,k3,k4,k5⟩:=h0
  simp only at k2 k3 k4 k5
  subst k2;subst k5;simp only[Sd,QC,CU,pN,sQ]at k1
  (rw[wq (aO rfl),nU];simp(disch:=omega)only[aG,↓aa,seval,-List.reduceReplicate,reduceCtorEq,af,bX,bn,UF,Ah,bz,Yy,c1,c2,agz,ag6,QC,zS,k1,k3,k4])
  unfold UT;rw[Mx];rfl
 |some l=>
  rw[hl]at f0;simp only[yK]at f0;rw[f0.1]at h0;obtain⟨_,h0⟩:=h0;simp only[Sd,QC,CU,pN,sQ]at h0;cases he:(r.right.vj w).2 with
  |false=>
   rw[he]at hr;simp only[nh,if_false]at hr ⊢
   (rw[wq (aO rfl),nU];simp(disch:=omega)only[aG,↓aa,seval,-List.reduceReplicate,reduceCtorEq,af,bX,bn,UF,Ah,Uo,bz,Yy,c1,c2,agz,ag6,QC,zS,h0,mX,pD,jx,hr,JC,QC,alB])
   unfold UT;rw[Mx];rfl
  |true=>
   rw[he]at hr;simp only[if_true]at hr ⊢;have h1:=Zt r w l (r.right.vj w).1 h hk hw;have f1:=Gx (atG w) r.guards 0 [];cases hg:omap (atG w) r.guards with
   |none=>
    rw[hg]at f1;obtain⟨s,f1⟩:=f1;rw[f1]at h1;obtain⟨⟨e,τ',σ',nt',rd'⟩,k1,k2,k3,k4,k5⟩:=h1
    simp only at k2 k3 k4 k5
    subst k2;subst k5;simp only[Se,sRG,Es,CU,pN,sQ]at k1
    (rw[wq (aO rfl),nU];simp(disch:=omega)only[aG,↓aa,seval,-List.reduceReplicate,reduceCtorEq,af,bX,bn,UF,Ah,D4,Uo,bz,Yy,c1,c2,agz,ag6,QC,zS,h0,mX,pD,jx,hr,JC,QC,ajd,ajm,anC,KQ,k1,k3,k4])
    unfold UT;rw[Mx];rfl
   |some gs=>
    rw[hg]at f1;simp only[yK]at f1;rw[f1.1]at h1;obtain⟨_,h1⟩:=h1;simp only[Se,sRG,Es,CU,pN,sQ]at h1
    (rw[wq (aO rfl),nU];simp(disch:=omega)only[aG,↓aa,seval,-List.reduceReplicate,reduceCtorEq,af,bX,bn,UF,Ah,D4,Uo,bz,Yy,c1,c2,agz,ag6,QC,zS,h0,mX,pD,jx,hr,JC,QC,ajd,ajm,anC,KQ,h1,qK,apG,apC,apQ,an3])
    have e:∀x:ed,UT (some x)=[.agg x.row,.int .i64 0]:=fun _=>rfl
    rw[e,ed.aY]
def Hh(r:ed):Term:=match r.left with
 |a::_=>a.pat
 | []=>zT
theorem R1:∀{l:List Atom},J4 l=0→∀a∈l,uL a=0
 | [],_=>by simp
 |b::l,h=>by
  intro a ha;unfold J4 at h;split at h
  ·rename_i h0
   rcases qL.1 ha with rfl|ha
   ·exact h0
   ·exact R1 h a ha
  ·rename_i h0;exact absurd h h0
theorem UU{a:Atom}(h:uL a=0):lF a.pat false=0∧(a.root=bs []∨pn a.root=true):=by
 unfold uL at h;split at h
 ·rename_i h1;exact absurd h h1
 ·rename_i h1
  refine⟨abh.1 h1,?_⟩;split at h
  ·cases h
  ·rename_i h2
   by_cases h3:a.root=bs []
   ·exact .inl h3
   ·right
    cases hn:pn a.root with
    |true=>rfl
    |false=>exact absurd ⟨h3,hn⟩ h2
structure Jj (r:ed):Prop where
 nm:pn r.name=true
 t2:t2 r=0
 la:J4 r.left=0
 bd:K2 r.left=0
 rt:lF r.right true=0
 bo:Jy (ny r) (sk r) r.right=true
 wd:t7 r=0
 gd:yX (ny r) (sk r) r.guards=0
theorem TT(r:ed):CP r=0↔Jj r:=by
 unfold CP yi;simp only[ue,CU,Cp];constructor
 ·intro h
  have step:∀{a b:Int},(if a=0 then b else a)=0→a=0∧b=0:=by
   intro a b h;split at h
   ·rename_i h1;exact⟨h1,h⟩
   ·rename_i h1;exact absurd h h1
  obtain⟨h1,h⟩:=step h;obtain⟨h2,h⟩:=step h;obtain⟨h3,h⟩:=step h;obtain⟨h4,h⟩:=step h;obtain⟨h5,h⟩:=step h;obtain⟨h6,h⟩:=step h;obtain⟨h7,h⟩:=step h;obtain⟨h8,h⟩:=step h;refine⟨?_,h2,h3,h4,h5,?_,h7,h8⟩
  ·unfold t1 at h1
   split at h1
   ·assumption
   ·cases h1
  ·unfold t6 at h6
   split at h6
   ·assumption
   ·cases h6
 ·intro h
  have e1:t1 r=0:=by unfold t1;rw[if_pos h.nm]
  have e6:t6 r=0:=by unfold t6;rw[if_pos h.bo]
  simp only[e1,h.t2,h.la,h.bd,h.rt,e6,h.wd,h.gd,if_true]
theorem ag3{r:ed}(h:Jj r):r.left≠[]∧r.left.length≤4∧r.guards.length≤8:=by
 have:=h.t2;unfold S.t2 at this;split at this
 ·cases this
 ·rename_i h1
  simp only[not_or]at h1;refine⟨fun e=>h1.1 (by rw[e];rfl),by omega,by omega⟩
def GG(t:Term):Bool:=decide (t.deep≤20∧t.count≤40)
def oj(r:ed):List Term:=po r++r.guards.map (·.b)
def GH(r:ed):Bool:=decide (r.left.length≤6) && decide (r.guards.length≤10) && (oj r).all GG
theorem akb{n:Nat}{o:Obj}:gc 0 [.sl 0 n] [o]=[o]:=by
 unfold gc;rw[if_neg (by simp),if_neg]
 simp[yW,below]
theorem XZ{n es:Nat}{rows:List (List PV)}{fl:Bool}(h:rows.length=n):KU [.pv es rows fl] (.sl 0 n)=some (.p (.int .i64 n)):=by
 subst h;simp[KU,bV,W5,Obj.len]
theorem U1(r:ed)(hll:r.left.length≤1000)(hgl:r.guards.length≤1000):call P jV [.p (.agg r.row)] []=some (.sl 0 (po r).length,[.pv 5 ((po r).map Term.row) false]):=by
 have h0:=ES r hll;have h1:=ET r hgl (r.left.map (·.pat)++[r.right]) (by simp;omega)
 have a1:=fun z=>O3 (r:=z) (r.left.map (·.pat)) r.right (by simp;omega)
 simp only[mh,bz,oi,pN,sQ]at h1 a1;have h0':an P nK (Hc r [] 0) [.pv 5 [] false] 61 none=_:=h0;simp only[Hc,pN,bz]at h0';simp only[J8,pN,bz,mh,oi,sQ]at h1;unfold po
 (rw[fh (aO rfl),jV];simp(disch:=omega)only[aG,↓aa,seval,-List.reduceReplicate,reduceCtorEq,af,bX,bn,Ah,D4,Uo,ajL,bz,Al,h0',iT,pD,lW,vM,a1,Ap,h1,gA,mh,Ja,akb])
abbrev Sb(r:ed)(s:List Term)(i:Int):List (Nat×AV):=[(1,.p (.ptr r.row 0)),(3,.sl 0 s.length),(4,.p (.int .i64 i))]
theorem ad6(r:ed)(s0:List Term)(hgl:r.guards.length≤1000)(h0:s0.length≤100000):an P zt (Sb r s0 0) (Ja s0) 52 none=back P [1,3,4] mW 1 (exec P mW ⟨tm (Sb r (s0++r.guards.map (·.b)) r.guards.length),Ja (s0++r.guards.map (·.b)),52,none⟩):=by
 obtain⟨_,hL⟩:=jj (P:=P) (nt:=52) (lv:=[1,3,4]) (b:=mW) (rd:=none) (as:=r.guards) (fun i (s:List Term)=>Sb r s i) Ja (fun _ s a=>s++[a.b]) (fun i s=>s.length≤s0.length+i)
  (fun i g s ha hi hs=>by
   refine⟨by simp;omega,?_⟩
   have hlt:((i:Int)<r.guards.length)=True:=by simpa using hi
   have hx:=fun σ=>aU (k:=.i64) (es:=11) (σ:=σ) (ax (f:=Gd.row) ha) g.aH
   have a1:=fun r=>O3 (r:=r) s g.b (by omega)
   simp only[mW];simp(disch:=omega)only[aG,↓aa,seval,-List.reduceReplicate,reduceCtorEq,af,hlt,D4,bz,hx,dx,bZ,C2,lW,vM,a1,Sb,mh]
   try rfl) (fun i s=>rfl) s0 (by omega) _ (yU (fun a:Gd=>a.b) r.guards 0 s0)
 exact hL
theorem akn{l:List Term}{i n:Nat}{t:Term}{fl:Bool}(h:l[i]?=some t)(hn:l.length=n):KS n i 0 5 true (some (.pv 5 (l.map Term.row) fl))=some (.p (.agg t.row)):=by
 simp only[KS];rw[bz,if_pos hn,xF,h]
 show((part 0 5 t.row).bind (nM true)).map AV.p=_
 rw[Term.aY];rfl
abbrev Ka(l:List Term)(i:Int):List (Nat×AV):=[(3,.sl 0 l.length),(5,.p (.int .i64 i))]
theorem ad9(l:List Term)(ht:∀t∈l,iM t)(hl:l.length≤100000):uV (fun _:Unit=>True∧an P vS (Ka l 0) (Ja l) 52 none=back P [3,5] mY 1 (exec P mY ⟨tm (Ka l l.length),Ja l,52,none⟩)) (fun _:Unit=>∃q,an P vS (Ka l 0) (Ja l) 52 none=some q∧ec 2 (.bool false) (Ja l) q) (if l.all GG=true then .inl ()else .inr ()):=by
 have hL:=cS (P:=P) (nt:=52) (lv:=[3,5]) (b:=mY) (rd:=none) (as:=l) (fun i (_:Unit)=>Ka l i) (fun _=>Ja l) (fun _ _ t=>if GG t=true then .inl ()else .inr ()) (fun(_:Unit)=>ec 2 (.bool false) (Ja l)) (fun _ _=>True)
  (fun i t s ha hi hs=>by
   refine⟨fun _ _=>trivial,?_⟩
   have hlt:((i:Int)<l.length)=True:=by simpa using hi
   have hx:jd [.pv 5 (l.map Term.row) false] 5 (.sl 0 l.length) (.p (.int .i64 i))=some (.ptr 0 l.length i 0):=ana (rows:=l.map Term.row) rfl (by simp) hi rfl
   have hd:=akn (fl:=false) ha rfl;have hln:=XZ (n:=l.length) (es:=5) (rows:=l.map Term.row) (fl:=false) (by simp)
   have hg:=TZ t (ht t (mK ha)) 20 40 (by decide) (by decide)
   unfold V3 at hg;unfold GG;by_cases h1:t.deep≤20∧t.count≤40
   ·have h1':((t.deep:Int)≤20∧(t.count:Int)≤40):=⟨by omega,by omega⟩
    rw[if_pos h1']at hg;rw[decide_eq_true h1];simp only[mY,if_true];simp(disch:=omega)only[aG,↓aa,seval,-List.reduceReplicate,reduceCtorEq,af,hlt,hln,hx,hd,HW,hg,Ja,Ka,ec]
   ·have h1':¬((t.deep:Int)≤20∧(t.count:Int)≤40):=by omega
    rw[if_neg h1']at hg;rw[decide_eq_false h1];simp only[mY,nh,if_false];simp(disch:=omega)only[aG,↓aa,seval,-List.reduceReplicate,reduceCtorEq,af,hlt,hln,hx,hd,HW,hg,Ja,Ka,ec]) (fun i s=>rfl) () trivial
 rw[Sx]at hL;exact hL
theorem H7(r:ed)(ht:∀t∈oj r,iM t):R P mP [.agg r.row]=some (.bool (GH r)):=by
 unfold GH;by_cases g1:r.left.length≤6
 rotate_left
 ·have g1':((r.left.length:Int) > 6)=True:=by simp;omega
  rw[decide_eq_false g1,vD,vD]
  (rw[x6 (aO rfl),mI];simp(disch:=omega)only[aG,↓aa,seval,-List.reduceReplicate,reduceCtorEq,af,bX,bn,Ah,D4,bz,g1'])
 have g1':((r.left.length:Int) > 6)=False:=by simp;omega
 rw[decide_eq_true g1,IZ];by_cases g2:r.guards.length≤10
 rotate_left
 ·have g2':((r.guards.length:Int) > 10)=True:=by simp;omega
  rw[decide_eq_false g2,vD]
  (rw[x6 (aO rfl),mI];simp(disch:=omega)only[aG,↓aa,seval,-List.reduceReplicate,reduceCtorEq,af,bX,bn,Ah,D4,bz,g1',g2'])
 have g2':((r.guards.length:Int) > 10)=False:=by simp;omega
 rw[decide_eq_true g2,IZ];have hp:=U1 r (by omega) (by omega)
 have hpl:(po r).length≤100:=by
  have h1:=Cq AN 2 r.guards fun g _=>EC g
  unfold po;simp only[mh,bz,oi,pN];omega
 have h0:=ad6 r (po r) (by omega) (by omega)
 have h1:=ad9 (oj r) ht (by unfold oj;rw[mh,bz];omega)
 simp only[Sb,Ja]at h0;simp only[Ka,Ja]at h1;have hln:=XZ (n:=(oj r).length) (es:=5) (rows:=(oj r).map Term.row) (fl:=false) (by simp)
 have e:po r++r.guards.map (·.b)=oj r:=rfl;rw[e]at h0;cases hb:(oj r).all GG with
 |true=>
  rw[hb]at h1;obtain⟨_,h1⟩:=h1
  (rw[x6 (aO rfl),mI];simp(disch:=omega)only[aG,↓aa,seval,-List.reduceReplicate,reduceCtorEq,af,bX,bn,Ah,D4,bz,g1',g2',sn,hp,EN,h0,mW,pD,EP,h1,mY,hln])
 |false=>
  rw[hb]at h1;obtain⟨⟨e',τ',σ',nt',rd'⟩,k1,k2,k3,k4⟩:=h1
  simp only at k2 k3 k4
  subst k2;subst k4
  (rw[x6 (aO rfl),mI];simp(disch:=omega)only[aG,↓aa,seval,-List.reduceReplicate,reduceCtorEq,af,bX,bn,Ah,D4,bz,g1',g2',sn,hp,EN,h0,mW,pD,EP,k1,k3])
end Go.AE.S
