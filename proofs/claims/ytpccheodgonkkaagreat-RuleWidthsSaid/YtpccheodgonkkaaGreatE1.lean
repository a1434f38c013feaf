import Derived.Test.YtpccheodgonkkaaGreatE0
import Derived.Test.YtpccheodgonkkaaGreatD1
set_option maxHeartbeats 0
set_option linter.unusedSimpArgs false
set_option linter.unusedVariables false
namespace Go.AE.S
open Go Go.AE
variable {τ:Tm} {σ:ag} {rd:Option Nat}
def AY(t:Term):Bool:=!decide (t.w=1)
theorem alc(t:Term):R P di [.agg t.row]=some (.bool (AY t)):=by
 unfold AY
 (rw[IN (aD rfl),lA];simp(disch:=omega)only[aA,↓aa,seval,-List.reduceReplicate,reduceCtorEq,ae])
abbrev N3(l:List Term)(i:Int):List (Nat×AV):=[(0,.p (.aM (l.map Term.row))),(1,.p (.fn di [])),(7,.p (.int .i64 l.length)),(8,.p (.int .i64 i))]
theorem YR(l:List Term)(hl:l.length≤1000000):R P aS [.aM (l.map Term.row),.fn di []]=some (.bool (l.any AY)):=by
 have h:=cE (P:=P) (nt:=19) (lv:=[0,1,7,8]) (b:=aY) (rd:=none) (as:=l) (fun i (_:Unit)=>N3 l i) (fun _=>[]) (fun i _ v=>if AY v=true then .inr i else .inl ()) (fun(n:Nat)=>cj 4 (.int .i64 n) []) (fun _ _=>True)
  (fun i v s hv hi hs=>by
   refine⟨fun _ _=>trivial,?_⟩
   have hlt:((i:Int)<l.length)=True:=by simpa using hi
   have hr:=alc v;have hx:=fun σ=>aJ (k:=.i64) (es:=5) (σ:=σ) (ax (f:=Term.row) hv) v.aB
   cases h1:AY v with
   |true=>
    rw[h1]at hr;simp only[aY,if_true];simp(disch:=omega)only[aA,↓aa,seval,-List.reduceReplicate,reduceCtorEq,ae,hlt,hx,Aq,hr,N3,cj]
   |false=>
    rw[h1]at hr;simp only[aY,kS,if_false];simp(disch:=omega)only[aA,↓aa,seval,-List.reduceReplicate,reduceCtorEq,ae,hlt,hx,Aq,hr,N3,cj]) (fun i s=>rfl) () trivial
 rcases Bn AY l 0 with⟨n,h1,h2⟩|⟨h1,h2⟩
 ·rw[h1]at h
  obtain⟨⟨e',τ',σ',nt',rd'⟩,g1,g2,g3,g4⟩:=h
  simp only at g2 g3 g4
  subst g2;subst g4;have h':al P bY (N3 l 0) [] 19 none=some (.ret,⟨τ',[],nt',rd'⟩):=g1;simp only[N3]at h'
  have hi:R P aQ [.aM (l.map Term.row),.fn di []]=some (.int .i64 n):=by
   (rw[dG (aD rfl),bm];simp(disch:=omega)only[aA,↓aa,seval,-List.reduceReplicate,reduceCtorEq,ae,aO,dv,h',g3])
  have hn:((n:Int) ≥ 0)=True:=by simp
  rw[h2]
  (rw[cY (aD rfl),bg];simp(disch:=omega)only[aA,↓aa,seval,-List.reduceReplicate,reduceCtorEq,ae,dF,hi,hn])
 ·rw[h1]at h
  obtain⟨_,h⟩:=h;have h':al P bY (N3 l 0) [] 19 none=_:=h;simp only[N3]at h'
  have hi:R P aQ [.aM (l.map Term.row),.fn di []]=some (.int .i64 (-1)):=by
   (rw[dG (aD rfl),bm];simp(disch:=omega)only[aA,↓aa,seval,-List.reduceReplicate,reduceCtorEq,ae,aO,dv,h',aY,kY])
  rw[h2]
  (rw[cY (aD rfl),bg];simp(disch:=omega)only[aA,↓aa,seval,-List.reduceReplicate,reduceCtorEq,ae,dF,hi])
def Gi(k:Nat)(S:List (List Nat)):Bool:=S.all fun x=>decide (x.getD k 0=1)
abbrev Oa(V:List (List Nat))(n k:Int)(c:AV)(S:List (List Nat))(i:Int):List (Nat×AV):=[(6,.ptr 0 1 0 0),(7,.ptr 2 1 0 0),(8,.ptr 3 1 0 0),(12,.p (.ptr [.aM (V.map Rs)] 0)),(13,.p (.ptr [.int .i64 n] 0)),(14,.p (.int .i64 k)),(15,c),(52,.p (.aM (S.map Rs))),(53,.p (.int .i64 S.length)),(54,.p (.int .i64 i))]
theorem Kw(k:Nat):∀(S:List (List Nat)) (i:Nat),aq (S:=Unit) (T:=Unit) (fun _ _ (x:List Nat)=>if x.getD k 0=1 then .inl ()else .inr ()) i () S=if Gi k S=true then .inl ()else .inr ()
 | [],i=>rfl
 |x::S,i=>by
  rw[aq];by_cases h:x.getD k 0=1
  ·rw[if_pos h]
   simp only
   rw[Kw k S (i+1)];simp only[Gi,R6,decide_eq_true h,VG];rfl
  ·rw[if_neg h]
   simp only[Gi,R6,decide_eq_false h,Dr,kS,if_false]
theorem ahe(V:List (List Nat))(n:Int)(k:Nat)(c:AV)(S:List (List Nat))(σ:ag)(l:Nat)(hS:∀x∈S,k<x.length)(hn:S.length≤1000000)(hk:k<65536) :
  if Gi k S=true then al P qL (Oa V n k c S 0) σ 82 (some l)=back P [6,7,8,12,13,14,15,52,53,54] fD σ.length (exec P fD ⟨tm (Oa V n k c S S.length),σ,82,some l⟩)
  else ∃τ',al P qL (Oa V n k c S 0) σ 82 (some l)=some (.exit 1,⟨τ',σ,82,some l⟩):=by
 have h:=cE (P:=P) (nt:=82) (lv:=[6,7,8,12,13,14,15,52,53,54]) (b:=fD) (rd:=some l) (as:=S) (fun i (_:Unit)=>Oa V n k c S i) (fun _=>σ) (fun _ _ (x:List Nat)=>if x.getD k 0=1 then .inl ()else .inr ()) (fun(_:Unit) r=>∃τ',r=(.exit 1,⟨τ',σ,82,some l⟩)) (fun _ _=>True)
  (fun i x s hv hi hs=>by
   refine⟨fun _ _=>trivial,?_⟩
   have hlt:((i:Int)<S.length)=True:=by simpa using hi
   have hx:=fun σ=>aJ (k:=.i64) (es:=1) (σ:=σ) (ax (f:=Rs) hv) rfl
   have hkl:=hS x (mi hv)
   have hg:x[k]?=some (x.getD k 0):=by
    rw[aaU,oq hkl];rfl
   have hy:=fun σ=>aJ (k:=.i64) (es:=1) (σ:=σ) (ax (f:=CM) hg) (by simp[CM])
   generalize x.getD k 0=y at *;rcases dB (y=1)with c1|c1
   ·have c2:=of_eq_true c1
    subst c2;simp only[fD,if_true];simp(disch:=omega)only[aA,↓aa,seval,-List.reduceReplicate,reduceCtorEq,ae,hlt,hx,Rs,hy,CM,aO,Oa]
   ·have c3:(((y:Nat):Int)=1)=False:=by
     simp only[eq_iff_iff,iff_false];have:=of_eq_false c1;omega
    simp only[fD,if_neg (of_eq_false c1)];simp(disch:=omega)only[aA,↓aa,seval,-List.reduceReplicate,reduceCtorEq,ae,hlt,hx,Rs,hy,CM,aO,c3,Oa]
    exact⟨_,rfl⟩) (fun i s=>rfl) () trivial
 rw[Kw]at h;cases hb:Gi k S with
 |true=>rw[hb,if_pos rfl]at h;rw[if_pos rfl];exact h.2
 |false=>
  rw[hb,if_neg (by simp)]at h
  rw[if_neg (by simp)]
  obtain⟨r,h1,τ',rfl⟩:=h;exact⟨τ',h1⟩
def ceX(V:List (List Nat))(n k:Nat):Bool:=Gi k (V.take n) && !decide ((V.getD n []).getD k 0=(V.getD (n+1) []).getD k 0)
theorem ar0(V:List (List Nat)):wide 1 (V.map Rs)=true:=by simp[wide,Rs]
theorem ahY(V:List (List Nat))(n:Nat)(h:n≤V.length):ali 1 (.p (.aM (V.map Rs))) none (some (.p (.int .i64 n))) none=some (.p (.aM ((V.take n).map Rs))):=by
 unfold ali;simp only[ar0,if_true];simp[bounds,lI,nc,h,acp]
theorem ajs{vs:List AV}{a b c d e f:Obj}:gc 6 vs [a,b,c,d,e,f]=[a,b,c,d,e,f]:=eP (by simp)
theorem LJ{a b c:Obj}{r:ag}{x y:Int}:RU (a::b::c::.pv 1 [[.int .i64 x]] false::r) 3 1 0 0 [.p (.int .i64 y)] (some (.pv 1 [[.int .i64 x]] false))=some (a::b::c::.pv 1 [[.int .i64 y]] false::r):=rfl
theorem alr{a b:Obj}{r:ag}{v:AV}{x:List (List PV)}:eM (a::b::.av 1 [[v]] false::r) 1 (.ptr 2 1 0 0) (.p (.aM x))=some (a::b::.pv 1 [[.aM x]] false::r):=rfl
abbrev sVd(r4:List (List PV))(f4:Bool):ag:=[.pv 1 [[.bool false]] false,.pv 0 [] false,.av 1 [[.sl 1 0]] false,.pv 1 [[.int .i64 0]] false,.pv 5 r4 f4]
abbrev sVo(r4:List (List PV))(f4:Bool)(x:List (List PV)):ag:=[.pv 1 [[.bool false]] false,.pv 0 [] false,.pv 1 [[.aM x]] false,.pv 1 [[.int .i64 0]] false,.pv 5 r4 f4]
abbrev kVd(V:List (List Nat))(n:Nat):List (Nat×AV):=[(6,.ptr 0 1 0 0),(7,.ptr 2 1 0 0),(8,.ptr 3 1 0 0),(12,.p (.ptr [.aM (V.map Rs)] 0)),(13,.p (.ptr [.int .i64 (n:Int)] 0))]
theorem ak5(vs:List V2)(hw:∀v∈vs,1≤v.w∧v.w≤16)(hvl:vs.length≤40)(b:Nat)(hb:b≤16)(V:List (List Nat))(n:Nat)(hV:V.length=n+2)(hlen:∀x∈V,x.length=2^b)(hn:n≤1000000)(r4:List (List PV))(f4:Bool) :
  nk P [48,49] fB fC (.p (.fn cg [.ptr [.int .i64 (b:Int)] 0,.ptr [.aM (vs.map ay)] 0])) (kVd V n) (sVd r4 f4) 82 none =
   some (kQ (fun(_:Unit)=>sVd r4 f4) (fun k=>(.ret,sVo r4 f4 ((fW k vs).map V8))) (aq (fun _ _ k=>if ceX V n k=true then .inr k else .inl ()) 0 () (List.range (2^b)))):=by
 have hp:(2:Nat)^b≤65536:=aa7 (show 0<2 by omega) hb
 refine P7 (f0:=cg) (cap:=[.p (.ptr [.int .i64 (b:Int)] 0),.p (.ptr [.aM (vs.map ay)] 0)]) rfl BB ⟨rfl,rfl⟩ (VW vs) (fun(_:Unit)=>sVd r4 f4) (fun _ _ k=>if ceX V n k=true then .inr k else .inl ()) (fun k=>(.ret,sVo r4 f4 ((fW k vs).map V8))) (fun _ _=>True) (List.range (2^b)) () rfl
  (fun σ σ' bb h=>⟨_,agn _ vs b hb σ σ' bb h⟩) (fun _=>rfl) (fun _=>rfl) (fun _=>by simp[AE.Obj.below,below]) (fun _=>by simp[AE.Obj.below,below]) (fun _=>by simp) (fun i k s hk _=>?_) trivial
 refine⟨fun _ _=>trivial,?_⟩
 have hkr:=abF.1 (mi hk);simp only[sVd,FD,x9,VW];rw[BP rfl ⟨rfl,rfl,rfl⟩];have hVn:n<V.length:=by omega
 have hVn1:n+1<V.length:=by omega
 have hgn:V[n]?=some (V.getD n []):=by rw[aaU,oq hVn];rfl
 have hgn1:V[n+1]?=some (V.getD (n+1) []):=by rw[aaU,oq hVn1];rfl
 have hln:=hlen _ (mi hgn);have hln1:=hlen _ (mi hgn1);have hxn:=fun σ=>aJ (k:=.i64) (es:=1) (σ:=σ) (ax (f:=Rs) hgn) rfl
 have hxn1:=fun σ=>aJ (k:=.i64) (es:=1) (σ:=σ) (ax (f:=Rs) hgn1) rfl
 have gg:∀x:List Nat,x.length=2^b→x[k]?=some (x.getD k 0):=fun x hx=>by
  rw[aaU,oq (by omega)];rfl
 have hya:=fun σ=>aJ (k:=.i64) (es:=1) (σ:=σ) (ax (f:=CM) (gg _ hln)) (by simp[CM])
 have hyb:=fun σ=>aJ (k:=.i64) (es:=1) (σ:=σ) (ax (f:=CM) (gg _ hln1)) (by simp[CM])
 have hsl:=ahY V n (by omega)
 have hwr:IntKind.i64.wrap ((n:Int)+1)=((n+1:Nat):Int):=IntWalk.i64_in _ (by omega)
 have henv:=aut vs hw hvl k (by omega)
 have hl1:=fun(σ:ag) (c:AV)=>ahe V n k c (V.take n) σ 5 (fun x hx=>by rw[hlen x (abQ hx)];exact hkr) (by rw[abC];omega) (by omega)
 simp only[Oa]at hl1;have htl:(V.take n).length=n:=by rw[abC];omega
 unfold ceX;generalize (V.getD n []).getD k 0=ya at *;generalize (V.getD (n+1) []).getD k 0=yb at *;generalize V.getD n []=xa at *;generalize V.getD (n+1) []=xb at *;cases hone:Gi k (V.take n)with
 |false=>
  simp only[hone,kS,if_false]at hl1;simp only[Dr,kS,if_false];obtain⟨τ',hl1⟩:=hl1 (sVd r4 f4++[.loop (kVd V n) 82 [48,49] fB fC (some .normal)]) (.p (.fn bT [.ptr [.int .i64 (k:Int)] 0,.ptr [.aM (vs.map ay)] 0]));rw[htl]at hl1;simp only[sVd,FD,x9]at hl1;simp only[fB,fC]at hl1 ⊢;simp(disch:=omega)only[aA,↓aa,seval,-List.reduceReplicate,reduceCtorEq,ae,hsl,aO,htl,vG,ajs,LJ,alr,hl1]
 |true=>
  simp only[hone,if_true]at hl1;simp only[VG];have hl1:=hl1 (sVd r4 f4++[.loop (kVd V n) 82 [48,49] fB fC (some .normal)]) (.p (.fn bT [.ptr [.int .i64 (k:Int)] 0,.ptr [.aM (vs.map ay)] 0]));rw[htl]at hl1;simp only[sVd,FD,x9]at hl1;rcases dB (ya=yb)with c|c
  ·simp only[decide_eq_true (of_eq_true c),ab1,kS,if_false]
   have c2:(((ya:Nat):Int)=((yb:Nat):Int))=True:=by simp[of_eq_true c]
   simp only[fB,fC]at hl1 ⊢;simp(disch:=omega)only[aA,↓aa,seval,-List.reduceReplicate,reduceCtorEq,ae,hsl,aO,htl,vG,ajs,LJ,alr,hl1,fD,kY,hxn,hxn1,Rs,hya,hyb,CM,hwr,c2]
  ·simp only[decide_eq_false (of_eq_false c),ab4,if_true]
   have c2:(((ya:Nat):Int)=((yb:Nat):Int))=False:=by
    simp only[eq_iff_iff,iff_false];have:=of_eq_false c;omega
   simp only[fB,fC]at hl1 ⊢;simp(disch:=omega)only[aA,↓aa,seval,-List.reduceReplicate,reduceCtorEq,ae,hsl,aO,htl,vG,ajs,LJ,alr,hl1,fD,kY,hxn,hxn1,Rs,hya,hyb,CM,hwr,c2,zF,henv]
def E3(hs:List Term)(a b:Term):List Term:=hs++[a,b]
def RY(hs:List Term)(a b:Term):Int:=if xU (E3 hs a b)≠0 then xU (E3 hs a b)else if a.w=b.w∧hs.any AY=false then 0 else 3
def Jd(hs:List Term)(a b:Term):List (List Nat):=(E3 hs a b).map (tvX (E3 hs a b))
def RZ(hs:List Term)(a b:Term):Option Nat:=if RY hs a b=0 then(List.range (2^Bi (E3 hs a b))).find? (ceX (Jd hs a b) hs.length)else none
def aeH(hs:List Term)(a b:Term):Bool:=decide (RY hs a b=0) && (RZ hs a b).isNone
def aeG(hs:List Term)(a b:Term):List Bd:=match RZ hs a b with
 |some k=>fW k (cM (E3 hs a b))
 |none=>[]
theorem amA{rows:List (List PV)}(h1:rows.length≤2000000000)(h2:(rows.all fun r=>r.length == 5)=true):yv [.p (.aM rows)] σ=some (.sl σ.length rows.length,σ++[.pv 5 rows false]):=by
 unfold yv;exact if_pos ⟨by omega,h2⟩
theorem SC(p:Nat→Bool):∀(l:List Nat) (i:Nat),aq (S:=Unit) (T:=Nat) (fun _ _ k=>if p k=true then .inr k else .inl ()) i () l=match l.find? p with|some k=>.inr k|none=>.inl ()
 | [],_=>rfl
 |a::l,i=>by
  unfold aq;cases h:p a with
  |true=>simp[h]
  |false=>simp only[kS,if_false,List.find?_cons,h];exact SC p l (i+1)
theorem Xz{x:PV}{o1 o2 o3 o4:Obj}{rows:List (List PV)}{n:Nat}{f:Bool}:(if x.flat=true then[o1,o2,o3,o4,.pv 5 rows f]else bL [o1,o2,o3,o4,.pv 5 rows f] (refs [o1,o2,o3,o4,.pv 5 rows f] 12 (.sl 4 n)))=[o1,o2,o3,o4,.pv 5 rows (f || !x.flat)]:=by
 cases h:x.flat<;>simp[bL,dK,refs]
theorem apx{o1 o2 o3 o4:Obj}{rs:List (List PV)}{n:Nat}{a b:Term}(hn:rs.length=n)(hl:n≤90):zU [o1,o2,o3,o4,.pv 5 rs false] 5 64 (.sl 4 n) (some (.inl [a.row,b.row]))=some (.sl 4 (n+2),[o1,o2,o3,o4,.pv 5 (rs++[a.row,b.row]) false]) :=
 dA (σ:=[o1,o2,o3,o4,.pv 5 rs false]) (b:=4) (n:=n) (e:=5) (es:=5) (bytes:=64) (rows:=rs) (new:=[a.row,b.row]) rfl hn (.inl rfl) (by simp only[lH,l5];omega)
theorem Qu{a b:Term}:nn σ 5 (.p (.aM [a.row,b.row]))=some (.inl [a.row,b.row]):=Qt (by simp[wide,Term.aB])
theorem MC(hs:List Term)(a b:Term)(ht:∀t∈E3 hs a b,ia t∧t.count≤10000)(hl:hs.length≤90):R P gO [.aM (hs.map Term.row),.agg a.row,.agg b.row]=some (.jC [.bool (aeH hs a b),.aM ((aeG hs a b).map V8),.int .i64 (RY hs a b)]):=by
 have ht6:∀t∈E3 hs a b,ia t∧t.count≤1000000:=fun t h=>⟨(ht t h).1,by have:=(ht t h).2;omega⟩
 have hll:(E3 hs a b).length=hs.length+2:=by simp[E3]
 have hV:=Qg (E3 hs a b) ht6 (by omega)
 have hrow:(E3 hs a b).map Term.row=hs.map Term.row++[a.row,b.row]:=by simp[E3]
 have hcl:=fun(σ:ag)=>amA (σ:=σ) (rows:=hs.map Term.row) (by simp only[aO];omega) (by simp[Term.aB])
 have hsz:(hs.map Term.row).length=hs.length:=aO ..;have hap:=fun(o1 o2 o3 o4:Obj)=>apx (o1:=o1) (o2:=o2) (o3:=o3) (o4:=o4) (a:=a) (b:=b) hsz hl
 have hcn:=YR hs (by omega)
 have hP:∀(k:Nat) (o1 o2 o3 o4:Obj) (f:Bool),aG [o1,o2,o3,o4,.pv 5 (hs.map Term.row++[a.row,b.row]) f] (k+1) (.sl 4 (hs.length+2))=some (.aM (hs.map Term.row++[a.row,b.row])):=fun k o1 o2 o3 o4 f=>by simp[aG]
 rcases dB (xU (E3 hs a b)=0)with c0|c0
 rotate_left
 ·have c0':=of_eq_false c0
  have hE:RY hs a b=xU (E3 hs a b):=by unfold RY;rw[if_pos c0']
  have hX:RZ hs a b=none:=by unfold RZ;rw[if_neg (by rw[hE];exact c0')]
  have hB:aeH hs a b=false:=by unfold aeH;rw[hE,decide_eq_false c0'];rfl
  have hA:aeG hs a b=[]:=by unfold aeG;rw[hX]
  rw[hE,hB,hA];rw[hrow]at hV;generalize xU (E3 hs a b)=ee at *;generalize Da (E3 hs a b)=vv at *;generalize hs.map Term.row=rs at *
  (rw[oI (aD rfl),fp];simp(disch:=omega)only[aA,↓aa,seval,-List.reduceReplicate,reduceCtorEq,ae,dp,hcl,hsz,uf,Qu,hap,Ay,ti,Az,jO,eR,xf,zd,TB,acb,QM,if_true,qq,hV,c0,hP,Xz,LJ])
  rfl
 ·have hg:=amT (of_eq_true c0)
  have hR:Da (E3 hs a b)=cM (E3 hs a b):=by unfold Da;rw[if_pos (of_eq_true c0)]
  rw[hrow,of_eq_true c0,hR]at hV;by_cases cw:a.w=b.w∧hs.any AY=false
  rotate_left
  ·have hE:RY hs a b=3:=by unfold RY;rw[if_neg (by simpa using of_eq_true c0),if_neg cw]
   have hX:RZ hs a b=none:=by unfold RZ;rw[if_neg (by rw[hE];decide)]
   have hB:aeH hs a b=false:=by unfold aeH;rw[hE];rfl
   have hA:aeG hs a b=[]:=by unfold aeG;rw[hX]
   rw[hE,hB,hA];generalize cM (E3 hs a b)=vv at *;generalize hs.map Term.row=rs at *;rcases dB (a.w=b.w)with c1|c1
   ·have c2:hs.any AY=true:=by
     cases h:hs.any AY with
     |true=>rfl
     |false=>exact absurd ⟨of_eq_true c1,h⟩ cw
    rw[c2]at hcn
    (rw[oI (aD rfl),fp];simp(disch:=omega)only[aA,↓aa,seval,-List.reduceReplicate,reduceCtorEq,ae,dp,hcl,hsz,uf,Qu,hap,Ay,ti,Az,jO,eR,xf,zd,TB,acb,QM,if_true,qq,hV,hP,Xz,LJ,c1,cX,hcn])
    rfl
   ·(rw[oI (aD rfl),fp];simp(disch:=omega)only[aA,↓aa,seval,-List.reduceReplicate,reduceCtorEq,ae,dp,hcl,hsz,uf,Qu,hap,Ay,ti,Az,jO,eR,xf,zd,TB,acb,QM,if_true,qq,hV,hP,Xz,LJ,c1])
    rfl
  ·have hE:RY hs a b=0:=by unfold RY;rw[if_neg (by simpa using of_eq_true c0),if_pos cw]
   have hVl:(Jd hs a b).length=hs.length+2:=by unfold Jd;rw[aO,hll]
   have hlen:∀x∈Jd hs a b,x.length=2^Bi (E3 hs a b):=by
    intro x hx;unfold Jd at hx;obtain⟨t,_,rfl⟩:=E0.1 hx;simp[tvX,aeB]
   have hrg:=fun f4=>ak5 (cM (E3 hs a b)) hg.w16 (by have:=hg.len;omega) (Bi (E3 hs a b)) hg.ZQ (Jd hs a b) hs.length hVl hlen (by omega) ((E3 hs a b).map Term.row) f4
   have htb:=alg (E3 hs a b) hg ht6 (E3 hs a b) (fun _ h=>h) (by omega)
   have has:=RM (cM (E3 hs a b)) hg.ok (by have:=hg.len;omega)
   rw[hg.sum]at has;rw[SC]at hrg;rw[cw.2]at hcn;have c1:(a.w=b.w)=True:=eq_true cw.1;have hX:RZ hs a b=(List.range (2^Bi (E3 hs a b))).find? (ceX (Jd hs a b) hs.length):=by unfold RZ;rw[if_pos hE]
   rw[←hX]at hrg;rw[hE];unfold aeH aeG;rw[hE];show R P gO _=some (.jC [.bool (decide ((0:Int)=0) && (RZ hs a b).isNone),_,_]);have htb':R P fE [.aM ((cM (E3 hs a b)).map ay),.aM ((E3 hs a b).map Term.row)]=some (.aM ((Jd hs a b).map Rs)):=htb;rw[hrow]at htb' hrg;generalize RZ hs a b=vX at *;generalize Jd hs a b=V at *;generalize cM (E3 hs a b)=vv at *;generalize Bi (E3 hs a b)=bb at *;generalize hs.map Term.row=rs at *;cases vX with
   |none=>
    simp only[kQ]at hrg
    (rw[oI (aD rfl),fp];simp(disch:=omega)only[aA,↓aa,seval,-List.reduceReplicate,reduceCtorEq,ae,dp,hcl,hsz,uf,Qu,hap,Ay,ti,Az,jO,eR,xf,zd,TB,acb,QM,if_true,qq,hV,hP,Xz,LJ,c1,cX,hcn,BL,htb',uZ,has,Ad,hrg])
    rfl
   |some k=>
    simp only[kQ]at hrg
    (rw[oI (aD rfl),fp];simp(disch:=omega)only[aA,↓aa,seval,-List.reduceReplicate,reduceCtorEq,ae,dp,hcl,hsz,uf,Qu,hap,Ay,ti,Az,jO,eR,xf,zd,TB,acb,QM,if_true,qq,hV,hP,Xz,LJ,c1,cX,hcn,BL,htb',uZ,has,Ad,hrg])
    rfl
theorem WQ:∀{l:List Term},(∀t∈l,gZ t=0)→De l=0
 | [],_=>rfl
 |a::l,h=>by
  unfold De;rw[h a (by simp)]
  simpa using WQ fun t ht=>h t (by simp[ht])
theorem Qx:∀(a b:List V2),jb (a++b)=jb a+jb b
 | [],b=>by simp[jb]
 |v::a,b=>by
  rw[FD,jb,jb,Qx a b];omega
theorem Zg:∀(m l:List V2),m.Nodup→(∀v∈m,v∈l)→(∀v∈l,1≤v.w)→jb m≤jb l
 | [],l,_,_,hw=>by
  have:∀l:List V2,(∀v∈l,1≤v.w)→0≤jb l:=fun l=>by
   induction l with
   |nil=>intro _;simp[jb]
   |cons a l ih=>
    intro h;have h1:=h a (by simp)
    have h2:=ih fun v hv=>h v (by simp[hv])
    rw[jb];omega
  simpa[jb]using this l hw
 |a::m,l,hn,hs,hw=>by
  obtain⟨l1,l2,rfl⟩:=List.append_of_mem (hs a (by simp))
  rw[List.nodup_cons]at hn
  have h:=Zg m (l1++l2) hn.2 (fun v hv=>by
   have h1:=hs v (by simp[hv])
   rw[BZ,pn]at h1;rw[BZ];rcases h1 with h1|h1|h1
   ·exact .inl h1
   ·rw[h1]at hv;exact absurd hv hn.1
   ·exact .inr h1) (fun v hv=>hw v (by
   rw[BZ]at hv;rw[BZ,pn];rcases hv with h|h
   ·exact .inl h
   ·exact .inr (.inr h)))
  rw[Qx]at h;rw[jb,Qx,jb];omega
theorem Vs{l:List V2}(h:zS l):l.Nodup:=h.imp fun {a b} hab e=>by rw[e,Af]at hab;cases hab
theorem Good.sub{l m:List Term}(h:Good l)(hk:∀t∈m,gZ t=0)(hs:∀t∈m,∀v∈nr t,∃u∈l,v∈nr u):Good m:=by
 have hv:∀v∈cM m,v∈cM l:=fun v hv=>by
  obtain⟨t,ht,h1⟩:=BW.1 hv;exact BW.2 (hs t ht v h1)
 refine⟨WQ hk,?_,?_⟩
 ·rintro⟨x,hx,y,hy,h1⟩
  exact h.xM ⟨x,yA.1 (hv x (yA.2 hx)),y,yA.1 (hv y (yA.2 hy)),h1⟩
 ·have h1:=Zg (cM m) (cM l) (Vs (CN m)) hv fun v hv=>(h.ok v hv).1
  have h2:=h.bits;omega
theorem avw{w:Int}(h:1≤w∧w≤64):cw w=w.toNat:=by
 unfold cw fM;omega
theorem ahl{n:ByteArray}{b:Bd}{r:List Bd}(h:b.name=n):Ae n (b::r)=some b.v:=by unfold Ae;rw[if_pos h]
theorem ahm{n:ByteArray}{b:Bd}{r:List Bd}(h:¬b.name=n):Ae n (b::r)=Ae n r:=by
 conv=>lhs;unfold Ae
 rw[if_neg h]
theorem Zf:∀{l:List V2},(∀v∈l,tq v)→0≤jb l
 | [],_=>by simp[jb]
 |a::l,h=>by
  have h1:=h a (by simp)
  unfold tq at h1;have h2:=Zf (l:=l) fun v hv=>h v (by simp[hv])
  rw[jb];omega
theorem Kn(E:ByteArray→Nat):∀(l:List V2),(∀v∈l,tq v)→dP l→∃k,k<2^(jb l).toNat∧∀v∈l,Ae v.name (fW k l)=some (E v.name % 2^cw v.w)
 | [],_,_=>⟨0,by simp[jb],by simp⟩
 |a::l,h,hs=>by
  have h1:=h a (by simp)
  have hs':=LQ.1 hs;obtain⟨k,hk,hE⟩:=Kn E l (fun v hv=>h v (by simp[hv])) hs'.2
  have hp:=Zf (l:=l) fun v hv=>h v (by simp[hv])
  have hc:=avw h1;unfold tq at h1;have he:(jb (a::l)).toNat=cw a.w+(jb l).toNat:=by rw[jb,hc];omega
  have hm:E a.name % 2^cw a.w<2^cw a.w:=QO _ (Nat.two_pow_pos _);refine⟨E a.name % 2^cw a.w+2^cw a.w*k,?_,?_⟩
  ·rw[he,Nat.pow_add]
   have:2^cw a.w*(k+1)≤2^cw a.w*2^(jb l).toNat:=Nat.mul_le_mul_left _ hk;rw[Nat.mul_add,Nat.mul_one]at this;omega
  ·intro v hv
   unfold fW;rw[←hc,Nat.add_mul_mod_self_left,Nat.mod_mod,Nat.add_mul_div_left _ _ (Nat.two_pow_pos _),Nat.div_eq_of_lt hm,tn];rcases pn.1 hv with rfl|hv
   ·exact ahl rfl
   ·have hne:=Kh (hs'.1 v hv)
    rw[ahm hne];exact hE v hv
theorem Good.env{l:List Term}(h:Good l)(E:ByteArray→Nat):∃k,k<2^Bi l∧∀t∈l,t.zJ E=t.zJ (Um (fW k (cM l))):=by
 obtain⟨k,hk,hE⟩:=Kn E (cM l) h.ok h.sorted;refine⟨k,hk,fun t ht=>afY _ _ t fun u hu h1=>?_⟩
 obtain⟨v,hv,hn⟩:=Vw hu h1;have hw:=alP (E2 h.chk t ht) hu h1 hv hn;have h2:=hE v (BW.2 ⟨t,ht,hv⟩);rw[hn,hw]at h2;unfold Um;rw[h2];simp
end Go.AE.S
