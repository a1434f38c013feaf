import Derived.Test.YtpccheodgonkkaaGreatE0
import Derived.Test.YtpccheodgonkkaaGreatD1
set_option maxHeartbeats 0
set_option linter.unusedSimpArgs false
set_option linter.unusedVariables false
namespace Go.AE.S
open Go Go.AE
variable {τ:Tm} {σ:ah} {rd:Option Nat}
def BJ(t:Term):Bool:=!decide (t.w=1)
theorem alK(t:Term):R P dp [.agg t.row]=some (.bool (BJ t)):=by
 unfold BJ
 (rw[Jw (aD rfl),lQ];simp(disch:=omega)only[aB,↓aa,seval,-List.reduceReplicate,reduceCtorEq,ae])
abbrev OZ(l:List Term)(i:Int):List (Nat×AV):=[(0,.p (.aO (l.map Term.row))),(1,.p (.fn dp [])),(7,.p (.int .i64 l.length)),(8,.p (.int .i64 i))]
theorem ZB(l:List Term)(hl:l.length≤1000000):R P aN [.aO (l.map Term.row),.fn dp []]=some (.bool (l.any BJ)):=by
 have h:=cE (P:=P) (nt:=19) (lv:=[0,1,7,8]) (b:=a8) (rd:=none) (as:=l) (fun i (_:Unit)=>OZ l i) (fun _=>[]) (fun i _ v=>if BJ v=true then .inr i else .inl ()) (fun(n:Nat)=>b7 4 (.int .i64 n) []) (fun _ _=>True)
  (fun i v s hv hi hs=>by
   refine⟨fun _ _=>trivial,?_⟩
   have hlt:((i:Int)<l.length)=True:=by simpa using hi
   have hr:=alK v;have hx:=fun σ=>aH (k:=.i64) (es:=5) (σ:=σ) (aw (f:=Term.row) hv) v.az
   cases h1:BJ v with
   |true=>
    rw[h1]at hr;simp only[a8,if_true];simp(disch:=omega)only[aB,↓aa,seval,-List.reduceReplicate,reduceCtorEq,ae,hlt,hx,Bk,hr,OZ,b7]
   |false=>
    rw[h1]at hr;simp only[a8,lG,if_false];simp(disch:=omega)only[aB,↓aa,seval,-List.reduceReplicate,reduceCtorEq,ae,hlt,hx,Bk,hr,OZ,b7]) (fun i s=>rfl) () trivial
 rcases Ca BJ l 0 with⟨n,h1,h2⟩|⟨h1,h2⟩
 ·rw[h1]at h
  obtain⟨⟨e',τ',σ',nt',rd'⟩,g1,g2,g3,g4⟩:=h
  simp only at g2 g3 g4
  subst g2;subst g4;have h':al P b6 (OZ l 0) [] 19 none=some (.ret,⟨τ',[],nt',rd'⟩):=g1;simp only[OZ]at h'
  have hi:R P aS [.aO (l.map Term.row),.fn dp []]=some (.int .i64 n):=by
   (rw[dI (aD rfl),bp];simp(disch:=omega)only[aB,↓aa,seval,-List.reduceReplicate,reduceCtorEq,ae,aR,dz,h',g3])
  have hn:((n:Int) ≥ 0)=True:=by simp
  rw[h2]
  (rw[dd (aD rfl),bh];simp(disch:=omega)only[aB,↓aa,seval,-List.reduceReplicate,reduceCtorEq,ae,dH,hi,hn])
 ·rw[h1]at h
  obtain⟨_,h⟩:=h;have h':al P b6 (OZ l 0) [] 19 none=_:=h;simp only[OZ]at h'
  have hi:R P aS [.aO (l.map Term.row),.fn dp []]=some (.int .i64 (-1)):=by
   (rw[dI (aD rfl),bp];simp(disch:=omega)only[aB,↓aa,seval,-List.reduceReplicate,reduceCtorEq,ae,aR,dz,h',a8,lH])
  rw[h2]
  (rw[dd (aD rfl),bh];simp(disch:=omega)only[aB,↓aa,seval,-List.reduceReplicate,reduceCtorEq,ae,dH,hi])
def G8(k:Nat)(S:List (List Nat)):Bool:=S.all fun x=>decide (x.getD k 0=1)
abbrev O6(V:List (List Nat))(n k:Int)(c:AV)(S:List (List Nat))(i:Int):List (Nat×AV):=[(6,.ptr 0 1 0 0),(7,.ptr 2 1 0 0),(8,.ptr 3 1 0 0),(12,.p (.ptr [.aO (V.map Sl)] 0)),(13,.p (.ptr [.int .i64 n] 0)),(14,.p (.int .i64 k)),(15,c),(52,.p (.aO (S.map Sl))),(53,.p (.int .i64 S.length)),(54,.p (.int .i64 i))]
theorem Ll(k:Nat):∀(S:List (List Nat)) (i:Nat),aq (S:=Unit) (T:=Unit) (fun _ _ (x:List Nat)=>if x.getD k 0=1 then .inl ()else .inr ()) i () S=if G8 k S=true then .inl ()else .inr ()
 | [],i=>rfl
 |x::S,i=>by
  rw[aq];by_cases h:x.getD k 0=1
  ·rw[if_pos h]
   simp only
   rw[Ll k S (i+1)];simp only[G8,Uj,decide_eq_true h,Uk];rfl
  ·rw[if_neg h]
   simp only[G8,Uj,decide_eq_false h,BR,lG,if_false]
theorem ahR(V:List (List Nat))(n:Int)(k:Nat)(c:AV)(S:List (List Nat))(σ:ah)(l:Nat)(hS:∀x∈S,k<x.length)(hn:S.length≤1000000)(hk:k<65536) :
  if G8 k S=true then al P ru (O6 V n k c S 0) σ 82 (some l)=back P [6,7,8,12,13,14,15,52,53,54] fS σ.length (exec P fS ⟨tm (O6 V n k c S S.length),σ,82,some l⟩)
  else ∃τ',al P ru (O6 V n k c S 0) σ 82 (some l)=some (.exit 1,⟨τ',σ,82,some l⟩):=by
 have h:=cE (P:=P) (nt:=82) (lv:=[6,7,8,12,13,14,15,52,53,54]) (b:=fS) (rd:=some l) (as:=S) (fun i (_:Unit)=>O6 V n k c S i) (fun _=>σ) (fun _ _ (x:List Nat)=>if x.getD k 0=1 then .inl ()else .inr ()) (fun(_:Unit) r=>∃τ',r=(.exit 1,⟨τ',σ,82,some l⟩)) (fun _ _=>True)
  (fun i x s hv hi hs=>by
   refine⟨fun _ _=>trivial,?_⟩
   have hlt:((i:Int)<S.length)=True:=by simpa using hi
   have hx:=fun σ=>aH (k:=.i64) (es:=1) (σ:=σ) (aw (f:=Sl) hv) rfl
   have hkl:=hS x (mR hv)
   have hg:x[k]?=some (x.getD k 0):=by
    rw[aaZ,o8 hkl];rfl
   have hy:=fun σ=>aH (k:=.i64) (es:=1) (σ:=σ) (aw (f:=Dq) hg) (by simp[Dq])
   generalize x.getD k 0=y at *;rcases cY (y=1)with c1|c1
   ·have c2:=of_eq_true c1
    subst c2;simp only[fS,if_true];simp(disch:=omega)only[aB,↓aa,seval,-List.reduceReplicate,reduceCtorEq,ae,hlt,hx,Sl,hy,Dq,aR,O6]
   ·have c3:(((y:Nat):Int)=1)=False:=by
     simp only[eq_iff_iff,iff_false];have:=of_eq_false c1;omega
    simp only[fS,if_neg (of_eq_false c1)];simp(disch:=omega)only[aB,↓aa,seval,-List.reduceReplicate,reduceCtorEq,ae,hlt,hx,Sl,hy,Dq,aR,c3,O6]
    exact⟨_,rfl⟩) (fun i s=>rfl) () trivial
 rw[Ll]at h;cases hb:G8 k S with
 |true=>rw[hb,if_pos rfl]at h;rw[if_pos rfl];exact h.2
 |false=>
  rw[hb,if_neg (by simp)]at h
  rw[if_neg (by simp)]
  obtain⟨r,h1,τ',rfl⟩:=h;exact⟨τ',h1⟩
def ceX(V:List (List Nat))(n k:Nat):Bool:=G8 k (V.take n) && !decide ((V.getD n []).getD k 0=(V.getD (n+1) []).getD k 0)
theorem asz(V:List (List Nat)):wide 1 (V.map Sl)=true:=by simp[wide,Sl]
theorem ait(V:List (List Nat))(n:Nat)(h:n≤V.length):alP 1 (.p (.aO (V.map Sl))) none (some (.p (.int .i64 n))) none=some (.p (.aO ((V.take n).map Sl))):=by
 unfold alP;simp only[asz,if_true];simp[bounds,l4,nE,h,acq]
theorem ajW{vs:List AV}{a b c d e f:Obj}:gc 6 vs [a,b,c,d,e,f]=[a,b,c,d,e,f]:=eU (by simp)
theorem MD{a b c:Obj}{r:ah}{x y:Int}:Wj (a::b::c::.pv 1 [[.int .i64 x]] false::r) 3 1 0 0 [.p (.int .i64 y)] (some (.pv 1 [[.int .i64 x]] false))=some (a::b::c::.pv 1 [[.int .i64 y]] false::r):=rfl
theorem alW{a b:Obj}{r:ah}{v:AV}{x:List (List PV)}:eY (a::b::.av 1 [[v]] false::r) 1 (.ptr 2 1 0 0) (.p (.aO x))=some (a::b::.pv 1 [[.aO x]] false::r):=rfl
abbrev sVd(r4:List (List PV))(f4:Bool):ah:=[.pv 1 [[.bool false]] false,.pv 0 [] false,.av 1 [[.sl 1 0]] false,.pv 1 [[.int .i64 0]] false,.pv 5 r4 f4]
abbrev sVo(r4:List (List PV))(f4:Bool)(x:List (List PV)):ah:=[.pv 1 [[.bool false]] false,.pv 0 [] false,.pv 1 [[.aO x]] false,.pv 1 [[.int .i64 0]] false,.pv 5 r4 f4]
abbrev kVd(V:List (List Nat))(n:Nat):List (Nat×AV):=[(6,.ptr 0 1 0 0),(7,.ptr 2 1 0 0),(8,.ptr 3 1 0 0),(12,.p (.ptr [.aO (V.map Sl)] 0)),(13,.p (.ptr [.int .i64 (n:Int)] 0))]
theorem alD(vs:List V2)(hw:∀v∈vs,1≤v.w∧v.w≤16)(hvl:vs.length≤40)(b:Nat)(hb:b≤16)(V:List (List Nat))(n:Nat)(hV:V.length=n+2)(hlen:∀x∈V,x.length=2^b)(hn:n≤1000000)(r4:List (List PV))(f4:Bool) :
  nN P [48,49] fQ fR (.p (.fn ck [.ptr [.int .i64 (b:Int)] 0,.ptr [.aO (vs.map ay)] 0])) (kVd V n) (sVd r4 f4) 82 none =
   some (lp (fun(_:Unit)=>sVd r4 f4) (fun k=>(.ret,sVo r4 f4 ((gC k vs).map W4))) (aq (fun _ _ k=>if ceX V n k=true then .inr k else .inl ()) 0 () (List.range (2^b)))):=by
 have hp:(2:Nat)^b≤65536:=aa7 (show 0<2 by omega) hb
 refine Q0 (f0:=ck) (cap:=[.p (.ptr [.int .i64 (b:Int)] 0),.p (.ptr [.aO (vs.map ay)] 0)]) rfl Cl ⟨rfl,rfl⟩ (WQ vs) (fun(_:Unit)=>sVd r4 f4) (fun _ _ k=>if ceX V n k=true then .inr k else .inl ()) (fun k=>(.ret,sVo r4 f4 ((gC k vs).map W4))) (fun _ _=>True) (List.range (2^b)) () rfl
  (fun σ σ' bb h=>⟨_,agY _ vs b hb σ σ' bb h⟩) (fun _=>rfl) (fun _=>rfl) (fun _=>by simp[AE.Obj.below,below]) (fun _=>by simp[AE.Obj.below,below]) (fun _=>by simp) (fun i k s hk _=>?_) trivial
 refine⟨fun _ _=>trivial,?_⟩
 have hkr:=abD.1 (mR hk);simp only[sVd,F9,y8,WQ];rw[Cz rfl ⟨rfl,rfl,rfl⟩];have hVn:n<V.length:=by omega
 have hVn1:n+1<V.length:=by omega
 have hgn:V[n]?=some (V.getD n []):=by rw[aaZ,o8 hVn];rfl
 have hgn1:V[n+1]?=some (V.getD (n+1) []):=by rw[aaZ,o8 hVn1];rfl
 have hln:=hlen _ (mR hgn);have hln1:=hlen _ (mR hgn1);have hxn:=fun σ=>aH (k:=.i64) (es:=1) (σ:=σ) (aw (f:=Sl) hgn) rfl
 have hxn1:=fun σ=>aH (k:=.i64) (es:=1) (σ:=σ) (aw (f:=Sl) hgn1) rfl
 have gg:∀x:List Nat,x.length=2^b→x[k]?=some (x.getD k 0):=fun x hx=>by
  rw[aaZ,o8 (by omega)];rfl
 have hya:=fun σ=>aH (k:=.i64) (es:=1) (σ:=σ) (aw (f:=Dq) (gg _ hln)) (by simp[Dq])
 have hyb:=fun σ=>aH (k:=.i64) (es:=1) (σ:=σ) (aw (f:=Dq) (gg _ hln1)) (by simp[Dq])
 have hsl:=ait V n (by omega)
 have hwr:IntKind.i64.wrap ((n:Int)+1)=((n+1:Nat):Int):=IntWalk.i64_in _ (by omega)
 have henv:=auX vs hw hvl k (by omega)
 have hl1:=fun(σ:ah) (c:AV)=>ahR V n k c (V.take n) σ 5 (fun x hx=>by rw[hlen x (abR hx)];exact hkr) (by rw[abz];omega) (by omega)
 simp only[O6]at hl1;have htl:(V.take n).length=n:=by rw[abz];omega
 unfold ceX;generalize (V.getD n []).getD k 0=ya at *;generalize (V.getD (n+1) []).getD k 0=yb at *;generalize V.getD n []=xa at *;generalize V.getD (n+1) []=xb at *;cases hone:G8 k (V.take n)with
 |false=>
  simp only[hone,lG,if_false]at hl1;simp only[BR,lG,if_false];obtain⟨τ',hl1⟩:=hl1 (sVd r4 f4++[.loop (kVd V n) 82 [48,49] fQ fR (some .normal)]) (.p (.fn bV [.ptr [.int .i64 (k:Int)] 0,.ptr [.aO (vs.map ay)] 0]));rw[htl]at hl1;simp only[sVd,F9,y8]at hl1;simp only[fQ,fR]at hl1 ⊢;simp(disch:=omega)only[aB,↓aa,seval,-List.reduceReplicate,reduceCtorEq,ae,hsl,aR,htl,wB,ajW,MD,alW,hl1]
 |true=>
  simp only[hone,if_true]at hl1;simp only[Uk];have hl1:=hl1 (sVd r4 f4++[.loop (kVd V n) 82 [48,49] fQ fR (some .normal)]) (.p (.fn bV [.ptr [.int .i64 (k:Int)] 0,.ptr [.aO (vs.map ay)] 0]));rw[htl]at hl1;simp only[sVd,F9,y8]at hl1;rcases cY (ya=yb)with c|c
  ·simp only[decide_eq_true (of_eq_true c),abY,lG,if_false]
   have c2:(((ya:Nat):Int)=((yb:Nat):Int))=True:=by simp[of_eq_true c]
   simp only[fQ,fR]at hl1 ⊢;simp(disch:=omega)only[aB,↓aa,seval,-List.reduceReplicate,reduceCtorEq,ae,hsl,aR,htl,wB,ajW,MD,alW,hl1,fS,lH,hxn,hxn1,Sl,hya,hyb,Dq,hwr,c2]
  ·simp only[decide_eq_false (of_eq_false c),ab1,if_true]
   have c2:(((ya:Nat):Int)=((yb:Nat):Int))=False:=by
    simp only[eq_iff_iff,iff_false];have:=of_eq_false c;omega
   simp only[fQ,fR]at hl1 ⊢;simp(disch:=omega)only[aB,↓aa,seval,-List.reduceReplicate,reduceCtorEq,ae,hsl,aR,htl,wB,ajW,MD,alW,hl1,fS,lH,hxn,hxn1,Sl,hya,hyb,Dq,hwr,c2,AF,henv]
def DY(hs:List Term)(a b:Term):List Term:=hs++[a,b]
def SR(hs:List Term)(a b:Term):Int:=if yD (DY hs a b)≠0 then yD (DY hs a b)else if a.w=b.w∧hs.any BJ=false then 0 else 3
def JQ(hs:List Term)(a b:Term):List (List Nat):=(DY hs a b).map (tvX (DY hs a b))
def SS(hs:List Term)(a b:Term):Option Nat:=if SR hs a b=0 then(List.range (2^B4 (DY hs a b))).find? (ceX (JQ hs a b) hs.length)else none
def afw(hs:List Term)(a b:Term):Bool:=decide (SR hs a b=0) && (SS hs a b).isNone
def afv(hs:List Term)(a b:Term):List Bd:=match SS hs a b with
 |some k=>gC k (cN (DY hs a b))
 |none=>[]
theorem am6{rows:List (List PV)}(h1:rows.length≤2000000000)(h2:(rows.all fun r=>r.length == 5)=true):ze [.p (.aO rows)] σ=some (.sl σ.length rows.length,σ++[.pv 5 rows false]):=by
 unfold ze;exact if_pos ⟨by omega,h2⟩
theorem Tt(p:Nat→Bool):∀(l:List Nat) (i:Nat),aq (S:=Unit) (T:=Nat) (fun _ _ k=>if p k=true then .inr k else .inl ()) i () l=match l.find? p with|some k=>.inr k|none=>.inl ()
 | [],_=>rfl
 |a::l,i=>by
  unfold aq;cases h:p a with
  |true=>simp[h]
  |false=>simp only[lG,if_false,List.find?_cons,h];exact Tt p l (i+1)
theorem Yq{x:PV}{o1 o2 o3 o4:Obj}{rows:List (List PV)}{n:Nat}{f:Bool}:(if x.flat=true then[o1,o2,o3,o4,.pv 5 rows f]else bL [o1,o2,o3,o4,.pv 5 rows f] (refs [o1,o2,o3,o4,.pv 5 rows f] 12 (.sl 4 n)))=[o1,o2,o3,o4,.pv 5 rows (f || !x.flat)]:=by
 cases h:x.flat<;>simp[bL,dM,refs]
theorem ap3{o1 o2 o3 o4:Obj}{rs:List (List PV)}{n:Nat}{a b:Term}(hn:rs.length=n)(hl:n≤90):AS [o1,o2,o3,o4,.pv 5 rs false] 5 64 (.sl 4 n) (some (.inl [a.row,b.row]))=some (.sl 4 (n+2),[o1,o2,o3,o4,.pv 5 (rs++[a.row,b.row]) false]) :=
 dP (σ:=[o1,o2,o3,o4,.pv 5 rs false]) (b:=4) (n:=n) (e:=5) (es:=5) (bytes:=64) (rows:=rs) (new:=[a.row,b.row]) rfl hn (.inl rfl) (by simp only[lZ,nz];omega)
theorem Rk{a b:Term}:nO σ 5 (.p (.aO [a.row,b.row]))=some (.inl [a.row,b.row]):=Rj (by simp[wide,Term.az])
theorem Nx(hs:List Term)(a b:Term)(ht:∀t∈DY hs a b,iD t∧t.count≤10000)(hl:hs.length≤90):R P ic [.aO (hs.map Term.row),.agg a.row,.agg b.row]=some (.jY [.bool (afw hs a b),.aO ((afv hs a b).map W4),.int .i64 (SR hs a b)]):=by
 have ht6:∀t∈DY hs a b,iD t∧t.count≤1000000:=fun t h=>⟨(ht t h).1,by have:=(ht t h).2;omega⟩
 have hll:(DY hs a b).length=hs.length+2:=by simp[DY]
 have hV:=Q9 (DY hs a b) ht6 (by omega)
 have hrow:(DY hs a b).map Term.row=hs.map Term.row++[a.row,b.row]:=by simp[DY]
 have hcl:=fun(σ:ah)=>am6 (σ:=σ) (rows:=hs.map Term.row) (by simp only[aR];omega) (by simp[Term.az])
 have hsz:(hs.map Term.row).length=hs.length:=aR ..;have hap:=fun(o1 o2 o3 o4:Obj)=>ap3 (o1:=o1) (o2:=o2) (o3:=o3) (o4:=o4) (a:=a) (b:=b) hsz hl
 have hcn:=ZB hs (by omega)
 have hP:∀(k:Nat) (o1 o2 o3 o4:Obj) (f:Bool),aG [o1,o2,o3,o4,.pv 5 (hs.map Term.row++[a.row,b.row]) f] (k+1) (.sl 4 (hs.length+2))=some (.aO (hs.map Term.row++[a.row,b.row])):=fun k o1 o2 o3 o4 f=>by simp[aG]
 rcases cY (yD (DY hs a b)=0)with c0|c0
 rotate_left
 ·have c0':=of_eq_false c0
  have hE:SR hs a b=yD (DY hs a b):=by unfold SR;rw[if_pos c0']
  have hX:SS hs a b=none:=by unfold SS;rw[if_neg (by rw[hE];exact c0')]
  have hB:afw hs a b=false:=by unfold afw;rw[hE,decide_eq_false c0'];rfl
  have hA:afv hs a b=[]:=by unfold afv;rw[hX]
  rw[hE,hB,hA];rw[hrow]at hV;generalize yD (DY hs a b)=ee at *;generalize DR (DY hs a b)=vv at *;generalize hs.map Term.row=rs at *
  (rw[pj (aD rfl),fH];simp(disch:=omega)only[aB,↓aa,seval,-List.reduceReplicate,reduceCtorEq,ae,dt,hcl,hsz,rV,Rk,hap,Bq,ua,Br,j6,eW,xQ,Ab,Ul,acd,RA,if_true,qT,hV,c0,hP,Yq,MD])
  rfl
 ·have hg:=ano (of_eq_true c0)
  have hR:DR (DY hs a b)=cN (DY hs a b):=by unfold DR;rw[if_pos (of_eq_true c0)]
  rw[hrow,of_eq_true c0,hR]at hV;by_cases cw:a.w=b.w∧hs.any BJ=false
  rotate_left
  ·have hE:SR hs a b=3:=by unfold SR;rw[if_neg (by simpa using of_eq_true c0),if_neg cw]
   have hX:SS hs a b=none:=by unfold SS;rw[if_neg (by rw[hE];decide)]
   have hB:afw hs a b=false:=by unfold afw;rw[hE];rfl
   have hA:afv hs a b=[]:=by unfold afv;rw[hX]
   rw[hE,hB,hA];generalize cN (DY hs a b)=vv at *;generalize hs.map Term.row=rs at *;rcases cY (a.w=b.w)with c1|c1
   ·have c2:hs.any BJ=true:=by
     cases h:hs.any BJ with
     |true=>rfl
     |false=>exact absurd ⟨of_eq_true c1,h⟩ cw
    rw[c2]at hcn
    (rw[pj (aD rfl),fH];simp(disch:=omega)only[aB,↓aa,seval,-List.reduceReplicate,reduceCtorEq,ae,dt,hcl,hsz,rV,Rk,hap,Bq,ua,Br,j6,eW,xQ,Ab,Ul,acd,RA,if_true,qT,hV,hP,Yq,MD,c1,cy,hcn])
    rfl
   ·(rw[pj (aD rfl),fH];simp(disch:=omega)only[aB,↓aa,seval,-List.reduceReplicate,reduceCtorEq,ae,dt,hcl,hsz,rV,Rk,hap,Bq,ua,Br,j6,eW,xQ,Ab,Ul,acd,RA,if_true,qT,hV,hP,Yq,MD,c1])
    rfl
  ·have hE:SR hs a b=0:=by unfold SR;rw[if_neg (by simpa using of_eq_true c0),if_pos cw]
   have hVl:(JQ hs a b).length=hs.length+2:=by unfold JQ;rw[aR,hll]
   have hlen:∀x∈JQ hs a b,x.length=2^B4 (DY hs a b):=by
    intro x hx;unfold JQ at hx;obtain⟨t,_,rfl⟩:=Gq.1 hx;simp[tvX,afq]
   have hrg:=fun f4=>alD (cN (DY hs a b)) hg.w16 (by have:=hg.len;omega) (B4 (DY hs a b)) hg.acT (JQ hs a b) hs.length hVl hlen (by omega) ((DY hs a b).map Term.row) f4
   have htb:=alM (DY hs a b) hg ht6 (DY hs a b) (fun _ h=>h) (by omega)
   have has:=SF (cN (DY hs a b)) hg.ok (by have:=hg.len;omega)
   rw[hg.sum]at has;rw[Tt]at hrg;rw[cw.2]at hcn;have c1:(a.w=b.w)=True:=eq_true cw.1;have hX:SS hs a b=(List.range (2^B4 (DY hs a b))).find? (ceX (JQ hs a b) hs.length):=by unfold SS;rw[if_pos hE]
   rw[←hX]at hrg;rw[hE];unfold afw afv;rw[hE];show R P ic _=some (.jY [.bool (decide ((0:Int)=0) && (SS hs a b).isNone),_,_]);have htb':R P fT [.aO ((cN (DY hs a b)).map ay),.aO ((DY hs a b).map Term.row)]=some (.aO ((JQ hs a b).map Sl)):=htb;rw[hrow]at htb' hrg;generalize SS hs a b=vX at *;generalize JQ hs a b=V at *;generalize cN (DY hs a b)=vv at *;generalize B4 (DY hs a b)=bb at *;generalize hs.map Term.row=rs at *;cases vX with
   |none=>
    simp only[lp]at hrg
    (rw[pj (aD rfl),fH];simp(disch:=omega)only[aB,↓aa,seval,-List.reduceReplicate,reduceCtorEq,ae,dt,hcl,hsz,rV,Rk,hap,Bq,ua,Br,j6,eW,xQ,Ab,Ul,acd,RA,if_true,qT,hV,hP,Yq,MD,c1,cy,hcn,Cw,htb',vR,has,A8,hrg])
    rfl
   |some k=>
    simp only[lp]at hrg
    (rw[pj (aD rfl),fH];simp(disch:=omega)only[aB,↓aa,seval,-List.reduceReplicate,reduceCtorEq,ae,dt,hcl,hsz,rV,Rk,hap,Bq,ua,Br,j6,eW,xQ,Ab,Ul,acd,RA,if_true,qT,hV,hP,Yq,MD,c1,cy,hcn,Cw,htb',vR,has,A8,hrg])
    rfl
theorem XL:∀{l:List Term},(∀t∈l,ix t=0)→DW l=0
 | [],_=>rfl
 |a::l,h=>by
  unfold DW;rw[h a (by simp)]
  simpa using XL fun t ht=>h t (by simp[ht])
theorem Rm:∀(a b:List V2),js (a++b)=js a+js b
 | [],b=>by simp[js]
 |v::a,b=>by
  rw[F9,js,js,Rm a b];omega
theorem Z0:∀(m l:List V2),m.Nodup→(∀v∈m,v∈l)→(∀v∈l,1≤v.w)→js m≤js l
 | [],l,_,_,hw=>by
  have:∀l:List V2,(∀v∈l,1≤v.w)→0≤js l:=fun l=>by
   induction l with
   |nil=>intro _;simp[js]
   |cons a l ih=>
    intro h;have h1:=h a (by simp)
    have h2:=ih fun v hv=>h v (by simp[hv])
    rw[js];omega
  simpa[js]using this l hw
 |a::m,l,hn,hs,hw=>by
  obtain⟨l1,l2,rfl⟩:=List.append_of_mem (hs a (by simp))
  rw[List.nodup_cons]at hn
  have h:=Z0 m (l1++l2) hn.2 (fun v hv=>by
   have h1:=hs v (by simp[hv])
   rw[D6,pU]at h1;rw[D6];rcases h1 with h1|h1|h1
   ·exact .inl h1
   ·rw[h1]at hv;exact absurd hv hn.1
   ·exact .inr h1) (fun v hv=>hw v (by
   rw[D6]at hv;rw[D6,pU];rcases hv with h|h
   ·exact .inl h
   ·exact .inr (.inr h)))
  rw[Rm]at h;rw[js,Rm,js];omega
theorem Wk{l:List V2}(h:AQ l):l.Nodup:=h.imp fun {a b} hab e=>by rw[e,Ba]at hab;cases hab
theorem Good.sub{l m:List Term}(h:Good l)(hk:∀t∈m,ix t=0)(hs:∀t∈m,∀v∈nP t,∃u∈l,v∈nP u):Good m:=by
 have hv:∀v∈cN m,v∈cN l:=fun v hv=>by
  obtain⟨t,ht,h1⟩:=CG.1 hv;exact CG.2 (hs t ht v h1)
 refine⟨XL hk,?_,?_⟩
 ·rintro⟨x,hx,y,hy,h1⟩
  exact h.yu ⟨x,zk.1 (hv x (zk.2 hx)),y,zk.1 (hv y (zk.2 hy)),h1⟩
 ·have h1:=Z0 (cN m) (cN l) (Wk (Dr m)) hv fun v hv=>(h.ok v hv).1
  have h2:=h.bits;omega
theorem avX{w:Int}(h:1≤w∧w≤64):cw w=w.toNat:=by
 unfold cw jl;omega
theorem ahU{n:ByteArray}{b:Bd}{r:List Bd}(h:b.name=n):A9 n (b::r)=some b.v:=by unfold A9;rw[if_pos h]
theorem ahV{n:ByteArray}{b:Bd}{r:List Bd}(h:¬b.name=n):A9 n (b::r)=A9 n r:=by
 conv=>lhs;unfold A9
 rw[if_neg h]
theorem ZZ:∀{l:List V2},(∀v∈l,uo v)→0≤js l
 | [],_=>by simp[js]
 |a::l,h=>by
  have h1:=h a (by simp)
  unfold uo at h1;have h2:=ZZ (l:=l) fun v hv=>h v (by simp[hv])
  rw[js];omega
theorem Ld(E:ByteArray→Nat):∀(l:List V2),(∀v∈l,uo v)→dS l→∃k,k<2^(js l).toNat∧∀v∈l,A9 v.name (gC k l)=some (E v.name % 2^cw v.w)
 | [],_,_=>⟨0,by simp[js],by simp⟩
 |a::l,h,hs=>by
  have h1:=h a (by simp)
  have hs':=MJ.1 hs;obtain⟨k,hk,hE⟩:=Ld E l (fun v hv=>h v (by simp[hv])) hs'.2
  have hp:=ZZ (l:=l) fun v hv=>h v (by simp[hv])
  have hc:=avX h1;unfold uo at h1;have he:(js (a::l)).toNat=cw a.w+(js l).toNat:=by rw[js,hc];omega
  have hm:E a.name % 2^cw a.w<2^cw a.w:=S3 _ (Nat.two_pow_pos _);refine⟨E a.name % 2^cw a.w+2^cw a.w*k,?_,?_⟩
  ·rw[he,Nat.pow_add]
   have:2^cw a.w*(k+1)≤2^cw a.w*2^(js l).toNat:=Nat.mul_le_mul_left _ hk;rw[Nat.mul_add,Nat.mul_one]at this;omega
  ·intro v hv
   unfold gC;rw[←hc,Nat.add_mul_mod_self_left,Nat.mod_mod,Nat.add_mul_div_left _ _ (Nat.two_pow_pos _),Nat.div_eq_of_lt hm,vL];rcases pU.1 hv with rfl|hv
   ·exact ahU rfl
   ·have hne:=K5 (hs'.1 v hv)
    rw[ahV hne];exact hE v hv
theorem Good.env{l:List Term}(h:Good l)(E:ByteArray→Nat):∃k,k<2^B4 l∧∀t∈l,t.AI E=t.AI (U7 (gC k (cN l))):=by
 obtain⟨k,hk,hE⟩:=Ld E (cN l) h.ok h.sorted;refine⟨k,hk,fun t ht=>agF _ _ t fun u hu h1=>?_⟩
 obtain⟨v,hv,hn⟩:=Wn hu h1;have hw:=amg (FP h.chk t ht) hu h1 hv hn;have h2:=hE v (CG.2 ⟨t,ht,hv⟩);rw[hn,hw]at h2;unfold U7;rw[h2];simp
end Go.AE.S
