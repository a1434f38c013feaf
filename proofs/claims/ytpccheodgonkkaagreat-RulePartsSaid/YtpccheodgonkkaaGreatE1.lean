import Derived.Test.YtpccheodgonkkaaGreatE0
import Derived.Test.YtpccheodgonkkaaGreatD1
set_option maxHeartbeats 0
set_option linter.unusedSimpArgs false
set_option linter.unusedVariables false
namespace Go.AE.S
open Go Go.AE
variable {τ:Tm} {σ:ae} {rd:Option Nat}
def yx(t:Term):Bool:=!decide (t.w=1)
theorem aft(t:Term):R P dh [.agg t.row]=some (.bool (yx t)):=by
 unfold yx
 (rw[FE (aO rfl),kL];simp(disch:=omega)only[aG,↓aa,seval,-List.reduceReplicate,reduceCtorEq,af])
abbrev Kg(l:List Term)(i:Int):List (Nat×AV):=[(0,.p (.aW (l.map Term.row))),(1,.p (.fn dh [])),(7,.p (.int .i64 l.length)),(8,.p (.int .i64 i))]
theorem TX(l:List Term)(hl:l.length≤1000000):R P aQ [.aW (l.map Term.row),.fn dh []]=some (.bool (l.any yx)):=by
 have h:=cS (P:=P) (nt:=19) (lv:=[0,1,7,8]) (b:=aX) (rd:=none) (as:=l) (fun i (_:Unit)=>Kg l i) (fun _=>[]) (fun i _ v=>if yx v=true then .inr i else .inl ()) (fun(n:Nat)=>ec 4 (.int .i64 n) []) (fun _ _=>True)
  (fun i v s hv hi hs=>by
   refine⟨fun _ _=>trivial,?_⟩
   have hlt:((i:Int)<l.length)=True:=by simpa using hi
   have hr:=aft v;have hx:=fun σ=>aU (k:=.i64) (es:=5) (σ:=σ) (ax (f:=Term.row) hv) v.aH
   cases h1:yx v with
   |true=>
    rw[h1]at hr;simp only[aX,if_true];simp(disch:=omega)only[aG,↓aa,seval,-List.reduceReplicate,reduceCtorEq,af,hlt,hx,xZ,hr,Kg,ec]
   |false=>
    rw[h1]at hr;simp only[aX,nh,if_false];simp(disch:=omega)only[aG,↓aa,seval,-List.reduceReplicate,reduceCtorEq,af,hlt,hx,xZ,hr,Kg,ec]) (fun i s=>rfl) () trivial
 rcases yT yx l 0 with⟨n,h1,h2⟩|⟨h1,h2⟩
 ·rw[h1]at h
  obtain⟨⟨e',τ',σ',nt',rd'⟩,g1,g2,g3,g4⟩:=h
  simp only at g2 g3 g4
  subst g2;subst g4;have h':an P bS (Kg l 0) [] 19 none=some (.ret,⟨τ',[],nt',rd'⟩):=g1;simp only[Kg]at h'
  have hi:R P aP [.aW (l.map Term.row),.fn dh []]=some (.int .i64 n):=by
   (rw[dA (aO rfl),bk];simp(disch:=omega)only[aG,↓aa,seval,-List.reduceReplicate,reduceCtorEq,af,bz,dr,h',g3])
  have hn:((n:Int) ≥ 0)=True:=by simp
  rw[h2]
  (rw[cU (aO rfl),a8];simp(disch:=omega)only[aG,↓aa,seval,-List.reduceReplicate,reduceCtorEq,af,dz,hi,hn])
 ·rw[h1]at h
  obtain⟨_,h⟩:=h;have h':an P bS (Kg l 0) [] 19 none=_:=h;simp only[Kg]at h'
  have hi:R P aP [.aW (l.map Term.row),.fn dh []]=some (.int .i64 (-1)):=by
   (rw[dA (aO rfl),bk];simp(disch:=omega)only[aG,↓aa,seval,-List.reduceReplicate,reduceCtorEq,af,bz,dr,h',aX,pD])
  rw[h2]
  (rw[cU (aO rfl),a8];simp(disch:=omega)only[aG,↓aa,seval,-List.reduceReplicate,reduceCtorEq,af,dz,hi])
def DG(k:Nat)(S:List (List Nat)):Bool:=S.all fun x=>decide (x.getD k 0=1)
abbrev Km(V:List (List Nat))(n k:Int)(c:AV)(S:List (List Nat))(i:Int):List (Nat×AV):=[(6,.ptr 0 1 0 0),(7,.ptr 2 1 0 0),(8,.ptr 3 1 0 0),(12,.p (.ptr [.aW (V.map Nf)] 0)),(13,.p (.ptr [.int .i64 n] 0)),(14,.p (.int .i64 k)),(15,c),(52,.p (.aW (S.map Nf))),(53,.p (.int .i64 S.length)),(54,.p (.int .i64 i))]
theorem He(k:Nat):∀(S:List (List Nat)) (i:Nat),aq (S:=Unit) (T:=Unit) (fun _ _ (x:List Nat)=>if x.getD k 0=1 then .inl ()else .inr ()) i () S=if DG k S=true then .inl ()else .inr ()
 | [],i=>rfl
 |x::S,i=>by
  rw[aq];by_cases h:x.getD k 0=1
  ·rw[if_pos h]
   simp only
   rw[He k S (i+1)];simp only[DG,UA,decide_eq_true h,IZ];rfl
  ·rw[if_neg h]
   simp only[DG,UA,decide_eq_false h,vD,nh,if_false]
theorem Zv(V:List (List Nat))(n:Int)(k:Nat)(c:AV)(S:List (List Nat))(σ:ae)(l:Nat)(hS:∀x∈S,k<x.length)(hn:S.length≤1000000)(hk:k<65536) :
  if DG k S=true then an P pM (Km V n k c S 0) σ 82 (some l)=back P [6,7,8,12,13,14,15,52,53,54] fo σ.length (exec P fo ⟨tm (Km V n k c S S.length),σ,82,some l⟩)
  else ∃τ',an P pM (Km V n k c S 0) σ 82 (some l)=some (.exit 1,⟨τ',σ,82,some l⟩):=by
 have h:=cS (P:=P) (nt:=82) (lv:=[6,7,8,12,13,14,15,52,53,54]) (b:=fo) (rd:=some l) (as:=S) (fun i (_:Unit)=>Km V n k c S i) (fun _=>σ) (fun _ _ (x:List Nat)=>if x.getD k 0=1 then .inl ()else .inr ()) (fun(_:Unit) r=>∃τ',r=(.exit 1,⟨τ',σ,82,some l⟩)) (fun _ _=>True)
  (fun i x s hv hi hs=>by
   refine⟨fun _ _=>trivial,?_⟩
   have hlt:((i:Int)<S.length)=True:=by simpa using hi
   have hx:=fun σ=>aU (k:=.i64) (es:=1) (σ:=σ) (ax (f:=Nf) hv) rfl
   have hkl:=hS x (mK hv)
   have hg:x[k]?=some (x.getD k 0):=by
    rw[aaT,oh hkl];rfl
   have hy:=fun σ=>aU (k:=.i64) (es:=1) (σ:=σ) (ax (f:=Ai) hg) (by simp[Ai])
   generalize x.getD k 0=y at *;rcases fC (y=1)with c1|c1
   ·have c2:=of_eq_true c1
    subst c2;simp only[fo,if_true];simp(disch:=omega)only[aG,↓aa,seval,-List.reduceReplicate,reduceCtorEq,af,hlt,hx,Nf,hy,Ai,bz,Km]
   ·have c3:(((y:Nat):Int)=1)=False:=by
     simp only[eq_iff_iff,iff_false];have:=of_eq_false c1;omega
    simp only[fo,if_neg (of_eq_false c1)];simp(disch:=omega)only[aG,↓aa,seval,-List.reduceReplicate,reduceCtorEq,af,hlt,hx,Nf,hy,Ai,bz,c3,Km]
    exact⟨_,rfl⟩) (fun i s=>rfl) () trivial
 rw[He]at h;cases hb:DG k S with
 |true=>rw[hb,if_pos rfl]at h;rw[if_pos rfl];exact h.2
 |false=>
  rw[hb,if_neg (by simp)]at h
  rw[if_neg (by simp)]
  obtain⟨r,h1,τ',rfl⟩:=h;exact⟨τ',h1⟩
def ceX(V:List (List Nat))(n k:Nat):Bool:=DG k (V.take n) && !decide ((V.getD n []).getD k 0=(V.getD (n+1) []).getD k 0)
theorem al6(V:List (List Nat)):wide 1 (V.map Nf)=true:=by simp[wide,Nf]
theorem Z3(V:List (List Nat))(n:Nat)(h:n≤V.length):afy 1 (.p (.aW (V.map Nf))) none (some (.p (.int .i64 n))) none=some (.p (.aW ((V.take n).map Nf))):=by
 unfold afy;simp only[al6,if_true];simp[bounds,kT,mm,h,acm]
theorem adN{vs:List AV}{a b c d e f:Obj}:gc 6 vs [a,b,c,d,e,f]=[a,b,c,d,e,f]:=eH (by simp)
theorem Ib{a b c:Obj}{r:ae}{x y:Int}:QQ (a::b::c::.pv 1 [[.int .i64 x]] false::r) 3 1 0 0 [.p (.int .i64 y)] (some (.pv 1 [[.int .i64 x]] false))=some (a::b::c::.pv 1 [[.int .i64 y]] false::r):=rfl
theorem afF{a b:Obj}{r:ae}{v:AV}{x:List (List PV)}:eE (a::b::.av 1 [[v]] false::r) 1 (.ptr 2 1 0 0) (.p (.aW x))=some (a::b::.pv 1 [[.aW x]] false::r):=rfl
abbrev sVd(r4:List (List PV))(f4:Bool):ae:=[.pv 1 [[.bool false]] false,.pv 0 [] false,.av 1 [[.sl 1 0]] false,.pv 1 [[.int .i64 0]] false,.pv 5 r4 f4]
abbrev sVo(r4:List (List PV))(f4:Bool)(x:List (List PV)):ae:=[.pv 1 [[.bool false]] false,.pv 0 [] false,.pv 1 [[.aW x]] false,.pv 1 [[.int .i64 0]] false,.pv 5 r4 f4]
abbrev kVd(V:List (List Nat))(n:Nat):List (Nat×AV):=[(6,.ptr 0 1 0 0),(7,.ptr 2 1 0 0),(8,.ptr 3 1 0 0),(12,.p (.ptr [.aW (V.map Nf)] 0)),(13,.p (.ptr [.int .i64 (n:Int)] 0))]
theorem afk(vs:List V2)(hw:∀v∈vs,1≤v.w∧v.w≤16)(hvl:vs.length≤40)(b:Nat)(hb:b≤16)(V:List (List Nat))(n:Nat)(hV:V.length=n+2)(hlen:∀x∈V,x.length=2^b)(hn:n≤1000000)(r4:List (List PV))(f4:Bool) :
  mA P [48,49] fk fm (.p (.fn b8 [.ptr [.int .i64 (b:Int)] 0,.ptr [.aW (vs.map au)] 0])) (kVd V n) (sVd r4 f4) 82 none =
   some (ki (fun(_:Unit)=>sVd r4 f4) (fun k=>(.ret,sVo r4 f4 ((fN k vs).map Rs))) (aq (fun _ _ k=>if ceX V n k=true then .inr k else .inl ()) 0 () (List.range (2^b)))):=by
 have hp:(2:Nat)^b≤65536:=aa4 (show 0<2 by omega) hb
 refine LZ (f0:=b8) (cap:=[.p (.ptr [.int .i64 (b:Int)] 0),.p (.ptr [.aW (vs.map au)] 0)]) rfl y7 ⟨rfl,rfl⟩ (Rh vs) (fun(_:Unit)=>sVd r4 f4) (fun _ _ k=>if ceX V n k=true then .inr k else .inl ()) (fun k=>(.ret,sVo r4 f4 ((fN k vs).map Rs))) (fun _ _=>True) (List.range (2^b)) () rfl
  (fun σ σ' bb h=>⟨_,YF _ vs b hb σ σ' bb h⟩) (fun _=>rfl) (fun _=>rfl) (fun _=>by simp[AE.Obj.below,below]) (fun _=>by simp[AE.Obj.below,below]) (fun _=>by simp) (fun i k s hk _=>?_) trivial
 refine⟨fun _ _=>trivial,?_⟩
 have hkr:=abw.1 (mK hk);simp only[sVd,Ec,yK,Rh];rw[zk rfl ⟨rfl,rfl,rfl⟩];have hVn:n<V.length:=by omega
 have hVn1:n+1<V.length:=by omega
 have hgn:V[n]?=some (V.getD n []):=by rw[aaT,oh hVn];rfl
 have hgn1:V[n+1]?=some (V.getD (n+1) []):=by rw[aaT,oh hVn1];rfl
 have hln:=hlen _ (mK hgn);have hln1:=hlen _ (mK hgn1);have hxn:=fun σ=>aU (k:=.i64) (es:=1) (σ:=σ) (ax (f:=Nf) hgn) rfl
 have hxn1:=fun σ=>aU (k:=.i64) (es:=1) (σ:=σ) (ax (f:=Nf) hgn1) rfl
 have gg:∀x:List Nat,x.length=2^b→x[k]?=some (x.getD k 0):=fun x hx=>by
  rw[aaT,oh (by omega)];rfl
 have hya:=fun σ=>aU (k:=.i64) (es:=1) (σ:=σ) (ax (f:=Ai) (gg _ hln)) (by simp[Ai])
 have hyb:=fun σ=>aU (k:=.i64) (es:=1) (σ:=σ) (ax (f:=Ai) (gg _ hln1)) (by simp[Ai])
 have hsl:=Z3 V n (by omega)
 have hwr:IntKind.i64.wrap ((n:Int)+1)=((n+1:Nat):Int):=IntWalk.i64_in _ (by omega)
 have henv:=aoi vs hw hvl k (by omega)
 have hl1:=fun(σ:ae) (c:AV)=>Zv V n k c (V.take n) σ 5 (fun x hx=>by rw[hlen x (abK hx)];exact hkr) (by rw[abD];omega) (by omega)
 simp only[Km]at hl1;have htl:(V.take n).length=n:=by rw[abD];omega
 unfold ceX;generalize (V.getD n []).getD k 0=ya at *;generalize (V.getD (n+1) []).getD k 0=yb at *;generalize V.getD n []=xa at *;generalize V.getD (n+1) []=xb at *;cases hone:DG k (V.take n)with
 |false=>
  simp only[hone,nh,if_false]at hl1;simp only[vD,nh,if_false];obtain⟨τ',hl1⟩:=hl1 (sVd r4 f4++[.loop (kVd V n) 82 [48,49] fk fm (some .normal)]) (.p (.fn bO [.ptr [.int .i64 (k:Int)] 0,.ptr [.aW (vs.map au)] 0]));rw[htl]at hl1;simp only[sVd,Ec,yK]at hl1;simp only[fk,fm]at hl1 ⊢;simp(disch:=omega)only[aG,↓aa,seval,-List.reduceReplicate,reduceCtorEq,af,hsl,bz,htl,tq,adN,Ib,afF,hl1]
 |true=>
  simp only[hone,if_true]at hl1;simp only[IZ];have hl1:=hl1 (sVd r4 f4++[.loop (kVd V n) 82 [48,49] fk fm (some .normal)]) (.p (.fn bO [.ptr [.int .i64 (k:Int)] 0,.ptr [.aW (vs.map au)] 0]));rw[htl]at hl1;simp only[sVd,Ec,yK]at hl1;rcases fC (ya=yb)with c|c
  ·simp only[decide_eq_true (of_eq_true c),abU,nh,if_false]
   have c2:(((ya:Nat):Int)=((yb:Nat):Int))=True:=by simp[of_eq_true c]
   simp only[fk,fm]at hl1 ⊢;simp(disch:=omega)only[aG,↓aa,seval,-List.reduceReplicate,reduceCtorEq,af,hsl,bz,htl,tq,adN,Ib,afF,hl1,fo,pD,hxn,hxn1,Nf,hya,hyb,Ai,hwr,c2]
  ·simp only[decide_eq_false (of_eq_false c),ab6,if_true]
   have c2:(((ya:Nat):Int)=((yb:Nat):Int))=False:=by
    simp only[eq_iff_iff,iff_false];have:=of_eq_false c;omega
   simp only[fk,fm]at hl1 ⊢;simp(disch:=omega)only[aG,↓aa,seval,-List.reduceReplicate,reduceCtorEq,af,hsl,bz,htl,tq,adN,Ib,afF,hl1,fo,pD,hxn,hxn1,Nf,hya,hyb,Ai,hwr,c2,xy,henv]
def Cn(hs:List Term)(a b:Term):List Term:=hs++[a,b]
def NP(hs:List Term)(a b:Term):Int:=if vN (Cn hs a b)≠0 then vN (Cn hs a b)else if a.w=b.w∧hs.any yx=false then 0 else 3
def FX(hs:List Term)(a b:Term):List (List Nat):=(Cn hs a b).map (tvX (Cn hs a b))
def NQ(hs:List Term)(a b:Term):Option Nat:=if NP hs a b=0 then(List.range (2^yO (Cn hs a b))).find? (ceX (FX hs a b) hs.length)else none
def Xi(hs:List Term)(a b:Term):Bool:=decide (NP hs a b=0) && (NQ hs a b).isNone
def Xh(hs:List Term)(a b:Term):List Bd:=match NQ hs a b with
 |some k=>fN k (cH (Cn hs a b))
 |none=>[]
theorem agK{rows:List (List PV)}(h1:rows.length≤2000000000)(h2:(rows.all fun r=>r.length == 5)=true):wk [.p (.aW rows)] σ=some (.sl σ.length rows.length,σ++[.pv 5 rows false]):=by
 unfold wk;exact if_pos ⟨by omega,h2⟩
theorem Oi(p:Nat→Bool):∀(l:List Nat) (i:Nat),aq (S:=Unit) (T:=Nat) (fun _ _ k=>if p k=true then .inr k else .inl ()) i () l=match l.find? p with|some k=>.inr k|none=>.inl ()
 | [],_=>rfl
 |a::l,i=>by
  unfold aq;cases h:p a with
  |true=>simp[h]
  |false=>simp only[nh,if_false,List.find?_cons,h];exact Oi p l (i+1)
theorem SI{x:PV}{o1 o2 o3 o4:Obj}{rows:List (List PV)}{n:Nat}{f:Bool}:(if x.flat=true then[o1,o2,o3,o4,.pv 5 rows f]else bF [o1,o2,o3,o4,.pv 5 rows f] (refs [o1,o2,o3,o4,.pv 5 rows f] 12 (.sl 4 n)))=[o1,o2,o3,o4,.pv 5 rows (f || !x.flat)]:=by
 cases h:x.flat<;>simp[bF,dD,refs]
theorem ajH{o1 o2 o3 o4:Obj}{rs:List (List PV)}{n:Nat}{a b:Term}(hn:rs.length=n)(hl:n≤90):zF [o1,o2,o3,o4,.pv 5 rs false] 5 64 (.sl 4 n) (some (.inl [a.row,b.row]))=some (.sl 4 (n+2),[o1,o2,o3,o4,.pv 5 (rs++[a.row,b.row]) false]) :=
 eZ (σ:=[o1,o2,o3,o4,.pv 5 rs false]) (b:=4) (n:=n) (e:=5) (es:=5) (bytes:=64) (rows:=rs) (new:=[a.row,b.row]) rfl hn (.inl rfl) (by simp only[oi,pN];omega)
theorem Mj{a b:Term}:mB σ 5 (.p (.aW [a.row,b.row]))=some (.inl [a.row,b.row]):=OQ (by simp[wide,Term.aH])
theorem IS(hs:List Term)(a b:Term)(ht:∀t∈Cn hs a b,iM t∧t.count≤10000)(hl:hs.length≤90):R P gF [.aW (hs.map Term.row),.agg a.row,.agg b.row]=some (.jO [.bool (Xi hs a b),.aW ((Xh hs a b).map Rs),.int .i64 (NP hs a b)]):=by
 have ht6:∀t∈Cn hs a b,iM t∧t.count≤1000000:=fun t h=>⟨(ht t h).1,by have:=(ht t h).2;omega⟩
 have hll:(Cn hs a b).length=hs.length+2:=by simp[Cn]
 have hV:=Ma (Cn hs a b) ht6 (by omega)
 have hrow:(Cn hs a b).map Term.row=hs.map Term.row++[a.row,b.row]:=by simp[Cn]
 have hcl:=fun(σ:ae)=>agK (σ:=σ) (rows:=hs.map Term.row) (by simp only[bz];omega) (by simp[Term.aH])
 have hsz:(hs.map Term.row).length=hs.length:=bz ..;have hap:=fun(o1 o2 o3 o4:Obj)=>ajH (o1:=o1) (o2:=o2) (o3:=o3) (o4:=o4) (a:=a) (b:=b) hsz hl
 have hcn:=TX hs (by omega)
 have hP:∀(k:Nat) (o1 o2 o3 o4:Obj) (f:Bool),az [o1,o2,o3,o4,.pv 5 (hs.map Term.row++[a.row,b.row]) f] (k+1) (.sl 4 (hs.length+2))=some (.aW (hs.map Term.row++[a.row,b.row])):=fun k o1 o2 o3 o4 f=>by simp[az]
 rcases fC (vN (Cn hs a b)=0)with c0|c0
 rotate_left
 ·have c0':=of_eq_false c0
  have hE:NP hs a b=vN (Cn hs a b):=by unfold NP;rw[if_pos c0']
  have hX:NQ hs a b=none:=by unfold NQ;rw[if_neg (by rw[hE];exact c0')]
  have hB:Xi hs a b=false:=by unfold Xi;rw[hE,decide_eq_false c0'];rfl
  have hA:Xh hs a b=[]:=by unfold Xh;rw[hX]
  rw[hE,hB,hA];rw[hrow]at hV;generalize vN (Cn hs a b)=ee at *;generalize AH (Cn hs a b)=vv at *;generalize hs.map Term.row=rs at *
  (rw[nO (aO rfl),ff];simp(disch:=omega)only[aG,↓aa,seval,-List.reduceReplicate,reduceCtorEq,af,dj,hcl,hsz,r6,Mj,hap,x8,rv,x9,jr,eJ,uP,xc,abI,acp,Q8,if_true,pw,hV,c0,hP,SI,Ib])
  rfl
 ·have hg:=ag4 (of_eq_true c0)
  have hR:AH (Cn hs a b)=cH (Cn hs a b):=by unfold AH;rw[if_pos (of_eq_true c0)]
  rw[hrow,of_eq_true c0,hR]at hV;by_cases cw:a.w=b.w∧hs.any yx=false
  rotate_left
  ·have hE:NP hs a b=3:=by unfold NP;rw[if_neg (by simpa using of_eq_true c0),if_neg cw]
   have hX:NQ hs a b=none:=by unfold NQ;rw[if_neg (by rw[hE];decide)]
   have hB:Xi hs a b=false:=by unfold Xi;rw[hE];rfl
   have hA:Xh hs a b=[]:=by unfold Xh;rw[hX]
   rw[hE,hB,hA];generalize cH (Cn hs a b)=vv at *;generalize hs.map Term.row=rs at *;rcases fC (a.w=b.w)with c1|c1
   ·have c2:hs.any yx=true:=by
     cases h:hs.any yx with
     |true=>rfl
     |false=>exact absurd ⟨of_eq_true c1,h⟩ cw
    rw[c2]at hcn
    (rw[nO (aO rfl),ff];simp(disch:=omega)only[aG,↓aa,seval,-List.reduceReplicate,reduceCtorEq,af,dj,hcl,hsz,r6,Mj,hap,x8,rv,x9,jr,eJ,uP,xc,abI,acp,Q8,if_true,pw,hV,hP,SI,Ib,c1,cT,hcn])
    rfl
   ·(rw[nO (aO rfl),ff];simp(disch:=omega)only[aG,↓aa,seval,-List.reduceReplicate,reduceCtorEq,af,dj,hcl,hsz,r6,Mj,hap,x8,rv,x9,jr,eJ,uP,xc,abI,acp,Q8,if_true,pw,hV,hP,SI,Ib,c1])
    rfl
  ·have hE:NP hs a b=0:=by unfold NP;rw[if_neg (by simpa using of_eq_true c0),if_pos cw]
   have hVl:(FX hs a b).length=hs.length+2:=by unfold FX;rw[bz,hll]
   have hlen:∀x∈FX hs a b,x.length=2^yO (Cn hs a b):=by
    intro x hx;unfold FX at hx;obtain⟨t,_,rfl⟩:=CV.1 hx;simp[tvX,Xc]
   have hrg:=fun f4=>afk (cH (Cn hs a b)) hg.w16 (by have:=hg.len;omega) (yO (Cn hs a b)) hg.UY (FX hs a b) hs.length hVl hlen (by omega) ((Cn hs a b).map Term.row) f4
   have htb:=afv (Cn hs a b) hg ht6 (Cn hs a b) (fun _ h=>h) (by omega)
   have has:=NC (cH (Cn hs a b)) hg.ok (by have:=hg.len;omega)
   rw[hg.sum]at has;rw[Oi]at hrg;rw[cw.2]at hcn;have c1:(a.w=b.w)=True:=eq_true cw.1;have hX:NQ hs a b=(List.range (2^yO (Cn hs a b))).find? (ceX (FX hs a b) hs.length):=by unfold NQ;rw[if_pos hE]
   rw[←hX]at hrg;rw[hE];unfold Xi Xh;rw[hE];show R P gF _=some (.jO [.bool (decide ((0:Int)=0) && (NQ hs a b).isNone),_,_]);have htb':R P fp [.aW ((cH (Cn hs a b)).map au),.aW ((Cn hs a b).map Term.row)]=some (.aW ((FX hs a b).map Nf)):=htb;rw[hrow]at htb' hrg;generalize NQ hs a b=vX at *;generalize FX hs a b=V at *;generalize cH (Cn hs a b)=vv at *;generalize yO (Cn hs a b)=bb at *;generalize hs.map Term.row=rs at *;cases vX with
   |none=>
    simp only[ki]at hrg
    (rw[nO (aO rfl),ff];simp(disch:=omega)only[aG,↓aa,seval,-List.reduceReplicate,reduceCtorEq,af,dj,hcl,hsz,r6,Mj,hap,x8,rv,x9,jr,eJ,uP,xc,abI,acp,Q8,if_true,pw,hV,hP,SI,Ib,c1,cT,hcn,zh,htb',s6,has,xO,hrg])
    rfl
   |some k=>
    simp only[ki]at hrg
    (rw[nO (aO rfl),ff];simp(disch:=omega)only[aG,↓aa,seval,-List.reduceReplicate,reduceCtorEq,af,dj,hcl,hsz,r6,Mj,hap,x8,rv,x9,jr,eJ,uP,xc,abI,acp,Q8,if_true,pw,hV,hP,SI,Ib,c1,cT,hcn,zh,htb',s6,has,xO,hrg])
    rfl
theorem R0:∀{l:List Term},(∀t∈l,gO t=0)→AL l=0
 | [],_=>rfl
 |a::l,h=>by
  unfold AL;rw[h a (by simp)]
  simpa using R0 fun t ht=>h t (by simp[ht])
theorem Ml:∀(a b:List V2),iK (a++b)=iK a+iK b
 | [],b=>by simp[iK]
 |v::a,b=>by
  rw[Ec,iK,iK,Ml a b];omega
theorem Uh:∀(m l:List V2),m.Nodup→(∀v∈m,v∈l)→(∀v∈l,1≤v.w)→iK m≤iK l
 | [],l,_,_,hw=>by
  have:∀l:List V2,(∀v∈l,1≤v.w)→0≤iK l:=fun l=>by
   induction l with
   |nil=>intro _;simp[iK]
   |cons a l ih=>
    intro h;have h1:=h a (by simp)
    have h2:=ih fun v hv=>h v (by simp[hv])
    rw[iK];omega
  simpa[iK]using this l hw
 |a::m,l,hn,hs,hw=>by
  obtain⟨l1,l2,rfl⟩:=List.append_of_mem (hs a (by simp))
  rw[List.nodup_cons]at hn
  have h:=Uh m (l1++l2) hn.2 (fun v hv=>by
   have h1:=hs v (by simp[hv])
   rw[Gb,qL]at h1;rw[Gb];rcases h1 with h1|h1|h1
   ·exact .inl h1
   ·rw[h1]at hv;exact absurd hv hn.1
   ·exact .inr h1) (fun v hv=>hw v (by
   rw[Gb]at hv;rw[Gb,qL];rcases hv with h|h
   ·exact .inl h
   ·exact .inr (.inr h)))
  rw[Ml]at h;rw[iK,Ml,iK];omega
theorem QR{l:List V2}(h:xE l):l.Nodup:=h.imp fun {a b} hab e=>by rw[e,xQ]at hab;cases hab
theorem Good.sub{l m:List Term}(h:Good l)(hk:∀t∈m,gO t=0)(hs:∀t∈m,∀v∈mC t,∃u∈l,v∈mC u):Good m:=by
 have hv:∀v∈cH m,v∈cH l:=fun v hv=>by
  obtain⟨t,ht,h1⟩:=zr.1 hv;exact zr.2 (hs t ht v h1)
 refine⟨R0 hk,?_,?_⟩
 ·rintro⟨x,hx,y,hy,h1⟩
  exact h.ac9 ⟨x,wv.1 (hv x (wv.2 hx)),y,wv.1 (hv y (wv.2 hy)),h1⟩
 ·have h1:=Uh (cH m) (cH l) (QR (Aj m)) hv fun v hv=>(h.ok v hv).1
  have h2:=h.bits;omega
theorem apj{w:Int}(h:1≤w∧w≤64):cw w=w.toNat:=by
 unfold cw iB;omega
theorem ZA{n:ByteArray}{b:Bd}{r:List Bd}(h:b.name=n):xP n (b::r)=some b.v:=by unfold xP;rw[if_pos h]
theorem ZB{n:ByteArray}{b:Bd}{r:List Bd}(h:¬b.name=n):xP n (b::r)=xP n r:=by
 conv=>lhs;unfold xP
 rw[if_neg h]
theorem Ug:∀{l:List V2},(∀v∈l,rC v)→0≤iK l
 | [],_=>by simp[iK]
 |a::l,h=>by
  have h1:=h a (by simp)
  unfold rC at h1;have h2:=Ug (l:=l) fun v hv=>h v (by simp[hv])
  rw[iK];omega
theorem G6(E:ByteArray→Nat):∀(l:List V2),(∀v∈l,rC v)→eL l→∃k,k<2^(iK l).toNat∧∀v∈l,xP v.name (fN k l)=some (E v.name % 2^cw v.w)
 | [],_,_=>⟨0,by simp[iK],by simp⟩
 |a::l,h,hs=>by
  have h1:=h a (by simp)
  have hs':=IY.1 hs;obtain⟨k,hk,hE⟩:=G6 E l (fun v hv=>h v (by simp[hv])) hs'.2
  have hp:=Ug (l:=l) fun v hv=>h v (by simp[hv])
  have hc:=apj h1;unfold rC at h1;have he:(iK (a::l)).toNat=cw a.w+(iK l).toNat:=by rw[iK,hc];omega
  have hm:E a.name % 2^cw a.w<2^cw a.w:=NY _ (Nat.two_pow_pos _);refine⟨E a.name % 2^cw a.w+2^cw a.w*k,?_,?_⟩
  ·rw[he,Nat.pow_add]
   have:2^cw a.w*(k+1)≤2^cw a.w*2^(iK l).toNat:=Nat.mul_le_mul_left _ hk;rw[Nat.mul_add,Nat.mul_one]at this;omega
  ·intro v hv
   unfold fN;rw[←hc,Nat.add_mul_mod_self_left,Nat.mod_mod,Nat.add_mul_div_left _ _ (Nat.two_pow_pos _),Nat.div_eq_of_lt hm,sQ];rcases qL.1 hv with rfl|hv
   ·exact ZA rfl
   ·have hne:=G0 (hs'.1 v hv)
    rw[ZB hne];exact hE v hv
theorem Good.env{l:List Term}(h:Good l)(E:ByteArray→Nat):∃k,k<2^yO l∧∀t∈l,t.xB E=t.xB (PK (fN k (cH l))):=by
 obtain⟨k,hk,hE⟩:=G6 E (cH l) h.ok h.sorted;refine⟨k,hk,fun t ht=>Yn _ _ t fun u hu h1=>?_⟩
 obtain⟨v,hv,hn⟩:=QU hu h1;have hw:=afU (Cm h.chk t ht) hu h1 hv hn;have h2:=hE v (zr.2 ⟨t,ht,hv⟩);rw[hn,hw]at h2;unfold PK;rw[h2];simp
end Go.AE.S
