import Derived.Test.YtpccheodgonkkaaGreatB0
import Derived.Test.YtpccheodgonkkaaGreatC0
set_option maxHeartbeats 0
set_option linter.unusedSimpArgs false
set_option linter.unusedVariables false
namespace Go.AE.S
open Go Go.AE
variable {τ:Tm} {σ:ah} {rd:Option Nat}
structure Atom where
 root:ByteArray
 pat:Term
def Atom.row(a:Atom):List PV:=.str a.root::a.pat.row
theorem Atom.a6(a:Atom):a.row=[.str a.root,.int .i64 a.pat.op,.int .i64 a.pat.w,.int .u64 a.pat.v,.str a.pat.name,.aO (a.pat.args.map Term.row)]:=by rw[Atom.row,Term.a6]
theorem Atom.az(a:Atom):a.row.length=6:=by rw[a.a6];rfl
theorem iJ(a:Atom):iu σ 6 true (.p (.ptr a.row 0))=some (.p (.agg a.row)):=F6 a.az
theorem eQ(a:Atom):cellsOf 6 true (.p (.agg a.row))=some (a.row.map .p):=by simp[cellsOf,a.az]
theorem fN(a:Atom):a.row[0]?=some (.str a.root):=by rw[a.a6];rfl
theorem a_w(a:Atom):a.row[2]?=some (.int .i64 a.pat.w):=by rw[a.a6];rfl
theorem lY(a:Atom):iu σ 5 true (.p (.ptr a.row 1))=some (.p (.agg a.pat.row)):=by
 rw[a.a6,a.pat.a6];rfl
structure Gd where
 kind:Int
 a:Term
 b:Term
def Gd.row(g:Gd):List PV:=.int .i64 g.kind::(g.a.row++g.b.row)
theorem Gd.a6(g:Gd):g.row=[.int .i64 g.kind,.int .i64 g.a.op,.int .i64 g.a.w,.int .u64 g.a.v,.str g.a.name,.aO (g.a.args.map Term.row),.int .i64 g.b.op,.int .i64 g.b.w,.int .u64 g.b.v,.str g.b.name,.aO (g.b.args.map Term.row)]:=by
 rw[Gd.row,Term.a6 g.a,Term.a6 g.b];rfl
theorem Gd.az(g:Gd):g.row.length=11:=by rw[g.a6];rfl
theorem bB(g:Gd):iu σ 11 true (.p (.ptr g.row 0))=some (.p (.agg g.row)):=F6 g.az
theorem aQ(g:Gd):cellsOf 11 true (.p (.agg g.row))=some (g.row.map .p):=by simp[cellsOf,g.az]
theorem qP(g:Gd):g.row[0]?=some (.int .i64 g.kind):=by rw[g.a6];rfl
theorem HM(g:Gd):g.row[1]?=some (.int .i64 g.a.op):=by rw[g.a6];rfl
theorem zP(g:Gd):g.row[2]?=some (.int .i64 g.a.w):=by rw[g.a6];rfl
theorem BS(g:Gd):g.row[7]?=some (.int .i64 g.b.w):=by rw[g.a6];rfl
theorem uk(g:Gd):iu σ 5 true (.p (.ptr g.row 1))=some (.p (.agg g.a.row)):=by rw[g.a6,g.a.a6];rfl
theorem um(g:Gd):iu σ 5 true (.p (.ptr g.row 6))=some (.p (.agg g.b.row)):=by rw[g.a6,g.b.a6];rfl
structure du where
 name:ByteArray
 left:List Atom
 right:Term
 guards:List Gd
def du.row(r:du):List PV:=.str r.name::.aO (r.left.map Atom.row)::(r.right.row++[.aO (r.guards.map Gd.row)])
theorem du.a6(r:du):r.row=[.str r.name,.aO (r.left.map Atom.row),.int .i64 r.right.op,.int .i64 r.right.w,.int .u64 r.right.v,.str r.right.name,.aO (r.right.args.map Term.row),.aO (r.guards.map Gd.row)]:=by
 rw[du.row,Term.a6 r.right];rfl
theorem du.az(r:du):r.row.length=8:=by rw[r.a6];rfl
theorem bj(r:du):iu σ 8 true (.p (.ptr r.row 0))=some (.p (.agg r.row)):=F6 r.az
theorem aK(r:du):cellsOf 8 true (.p (.agg r.row))=some (r.row.map .p):=by simp[cellsOf,r.az]
theorem SQ(r:du):r.row[0]?=some (.str r.name):=by rw[r.a6];rfl
theorem vS(r:du):r.row[1]?=some (.aO (r.left.map Atom.row)):=by rw[r.a6];rfl
theorem u_3(r:du):r.row[3]?=some (.int .i64 r.right.w):=by rw[r.a6];rfl
theorem BT(r:du):r.row[7]?=some (.aO (r.guards.map Gd.row)):=by rw[r.a6];rfl
theorem MF(r:du):iu σ 5 true (.p (.ptr r.row 2))=some (.p (.agg r.right.row)):=by rw[r.a6,r.right.a6];rfl
def ub(a:Atom):Term:=.mk 24 a.pat.w 0 a.root []
theorem MA(a:Atom):R P oc [.agg a.row]=some (.agg (ub a).row):=by
 (rw[Zj (aD rfl),xH];simp(disch:=omega)only[aB,↓aa,seval,-List.reduceReplicate,reduceCtorEq,ae,iJ,eQ,fN,a_w])
 rfl
def CE(a:Atom):List Term:=(if a.root=bs []then[]else[ub a])++[a.pat]
def eF(l:List Atom):List Term:=l.flatMap CE
theorem rz{α β:Type}(g:α→List β):∀(l:List α) (i:Nat) (s:List β),aq (T:=Empty) (fun _ s a=>.inl (s++g a)) i s l=.inl (s++l.flatMap g)
 | [],i,s=>by simp[aq]
 |a::l,i,s=>by
  simp only[aq];rw[rz g l (i+1) (s++g a),aa4,Ui]
theorem fJ{a:Term}:Ee σ 5 1 (gR (List.replicate 1 [.p (.int .i64 0),.p (.int .i64 0),.p (.int .u64 0),.p (.str (bs [])),.aA]).flatten [(0,5,.p (.agg a.row))])=some (.p (.aO [a.row]),σ):=by rw[Term.a6 a];rfl
theorem ug{a:Term}:nO σ 5 (.p (.aO [a.row]))=some (.inl [a.row]):=Rj (by simp[wide,Term.az])
theorem acO(s:List Term)(t:Term)(hs:s.length≤1000000000){r:ah}:AS (.pv (mX 5 s) (s.map Term.row) false::r) 5 64 (.sl 0 s.length) (some (.inl [t.row]))=some (.sl 0 (s.length+1),.pv (mX 5 (s++[t])) ((s++[t]).map Term.row) false::r):=by
 rw[dP (σ:=.pv (mX 5 s) (s.map Term.row) false::r) (b:=0) (n:=s.length) (e:=mX 5 s) (rows:=s.map Term.row) rfl (by simp) (sq _ _ _) (by simp only[lZ,nz];omega)]
 simp only[kM,CR,rK,B0,abf,lZ,nz,vL]
abbrev sT1(s:List Term):ah:=[.pv (mX 5 s) (s.map Term.row) false]
abbrev ahl(l:List Atom)(s:List Term)(i:Int):List (Nat×AV):=[(3,.sl 0 s.length),(6,.p (.aO (l.map Atom.row))),(7,.p (.int .i64 l.length)),(8,.p (.int .i64 i))]
theorem K3(a:Atom):(CE a).length≤2:=by unfold CE;split<;>simp
theorem Dm(l:List Atom)(hl:l.length≤1000000):R P j8 [.aO (l.map Atom.row)]=some (.aO ((eF l).map Term.row)):=by
 have h:=lJ (P:=P) (nt:=27) (rd:=none) (lv:=[3,6,7,8]) (b:=rN) (x:=0) (as:=l) (fun i (s:List Term)=>ahl l s i) sT1 (fun i s a=>s++CE a)
  (fun s=>⟨ef (tm (ahl l s l.length)) 9 (.p (.bool false)),sT1 s,27,none⟩) (fun i s=>s.length≤2*i)
  (fun i a s ha hi hs=>by
   have h2:=K3 a;refine⟨by rw[jS];omega,?_⟩
   have hlt:((i:Int)<l.length)=True:=by simpa using hi
   have hx:=fun σ=>aH (k:=.i64) (es:=6) (σ:=σ) (aw (f:=Atom.row) ha) a.az
   have hr:=MA a;unfold CE;rcases cY (a.root=bs [])with h1|h1
   ·have h1':=of_eq_true h1
    have a1:=fun r=>acO (r:=r) s a.pat (by omega)
    rw[if_pos h1',y8];simp only[rN];simp(disch:=omega)only[aB,↓aa,seval,-List.reduceReplicate,reduceCtorEq,ae,hlt,hx,iJ,eQ,fN,lY,h1,fJ,ug,a1,ahl,jS]
    try rfl
   ·have h1':=of_eq_false h1
    have a1:=fun r=>acO (r:=r) s (ub a) (by omega)
    have a2:=fun r=>acO (r:=r) (s++[ub a]) a.pat (by simp;omega)
    rw[if_neg h1',←Ui];simp only[jS,lZ,nz,vL]at a2;simp only[rN];simp(disch:=omega)only[aB,↓aa,seval,-List.reduceReplicate,reduceCtorEq,ae,hlt,hx,iJ,eQ,fN,lY,h1,Ml,hr,fJ,ug,a1,a2,ahl,jS]
    try rfl) (fun s hs=>by
   simp only[rN];simp(disch:=omega)only[aB,↓aa,seval,-List.reduceReplicate,reduceCtorEq,ae,lH]) (fun i s=>rfl) [] (by simp) _ (rz CE l 0 [])
 rw[y8]at h;have h':al P By (ahl l [] 0) [.pv 0 [] false] 27 none=_:=h;simp only[ahl,nz]at h'
 (rw[VX (aD rfl),uH];simp(disch:=omega)only[aB,↓aa,seval,-List.reduceReplicate,reduceCtorEq,ae,Sg,h',aR])
 rfl
def fP(r:du):List V2:=varsOf 24 (eF r.left)
def k9(r:du):List V2:=varsOf 25 (eF r.left)
theorem JG(r:du)(hl:r.left.length≤1000000)(hc:Term.counts (eF r.left)≤500000):R P mc [.agg r.row]=some (.aO ((fP r).map ay)):=by
 have h1:=Dm r.left hl;have h2:=sy (eF r.left) hc
 (rw[VW (aD rfl),uG];simp(disch:=omega)only[aB,↓aa,seval,-List.reduceReplicate,reduceCtorEq,ae,aK,vS,vp,h1,jM,h2])
 rfl
theorem Mz(r:du)(hl:r.left.length≤1000000)(hc:Term.counts (eF r.left)≤500000):R P n9 [.agg r.row]=some (.aO ((k9 r).map ay)):=by
 have h1:=Dm r.left hl;have h2:=vD (eF r.left) hc
 (rw[Zi (aD rfl),xG];simp(disch:=omega)only[aB,↓aa,seval,-List.reduceReplicate,reduceCtorEq,ae,aK,vS,vp,h1,qU,h2])
 rfl
theorem MB(b:Bool)(e:Int):R P iq [.bool b,.int .i64 e]=some (.int .i64 (if b=true then e else 0)):=by
 cases b<;>(rw[Zk (aD rfl),xI];simp(disch:=omega)only[aB,↓aa,seval,-List.reduceReplicate,reduceCtorEq,ae])
theorem Wm{a b:V2}:a=b↔a.name=b.name∧a.w=b.w:=by cases a;cases b;simp
instance:DecidableEq V2:=fun a b=>decidable_of_iff (a.name=b.name∧a.w=b.w) Wm.symm
def Iw(v x:V2):Bool:=decide (v=x)
theorem ato(a b:V2):X7 false [.str,.int] (.p (.agg (ay a))) (.p (.agg (ay b)))=some (.p (.bool (Iw a b))):=by
 have e:dF [.str,.int] (ay a) (ay b)=some (Iw a b):=by
  simp only[ay,dF,En,Az,x6,pF,if_true]
  congr 1
  rw[abC];simp[Iw,Wm,wi]
 simp only[X7,e,x6,lG,if_false]
theorem G4{v:V2}:iu σ 2 true (.p (.ptr (ay v) 0))=some (.p (.agg (ay v))):=rfl
theorem G3{v:V2}:cellsOf 2 true (.p (.agg (ay v)))=some ((ay v).map .p):=rfl
abbrev O1(l:List V2)(v:V2)(i:Int):List (Nat×AV):=[(0,.p (.aO (l.map ay))),(3,.p (.ptr (ay v) 0)),(7,.p (.int .i64 l.length)),(8,.p (.int .i64 i))]
theorem x5(l:List V2)(v:V2)(hl:l.length≤1000000):R P aT [.aO (l.map ay),.agg (ay v)]=some (.bool (l.any (Iw v))):=by
 have h:=cE (P:=P) (nt:=19) (lv:=[0,3,7,8]) (b:=dB) (rd:=none) (as:=l) (fun i (_:Unit)=>O1 l v i) (fun _=>[]) (fun i _ x=>if Iw v x=true then .inr i else .inl ()) (fun(n:Nat)=>b7 4 (.int .i64 n) []) (fun _ _=>True)
  (fun i x s hv hi hs=>by
   refine⟨fun _ _=>trivial,?_⟩
   have hlt:((i:Int)<l.length)=True:=by simpa using hi
   have hx:=fun σ=>aH (k:=.i64) (es:=2) (σ:=σ) (aw (f:=ay) hv) (by simp[ay])
   have he:=ato v x;cases hd:Iw v x with
   |true=>
    rw[hd]at he;simp only[dB,if_true];simp(disch:=omega)only[aB,↓aa,seval,-List.reduceReplicate,reduceCtorEq,ae,hlt,hx,G4,he,O1,b7]
   |false=>
    rw[hd]at he;simp only[dB,lG,if_false];simp(disch:=omega)only[aB,↓aa,seval,-List.reduceReplicate,reduceCtorEq,ae,hlt,hx,G4,he,O1,b7]) (fun i s=>rfl) () trivial
 rcases Ca (Iw v) l 0 with⟨n,h1,h2⟩|⟨h1,h2⟩
 ·rw[h1]at h
  obtain⟨⟨e',τ',σ',nt',rd'⟩,g1,g2,g3,g4⟩:=h
  simp only at g2 g3 g4
  subst g2;subst g4;have h':al P ez (O1 l v 0) [] 19 none=some (.ret,⟨τ',[],nt',rd'⟩):=g1;simp only[O1]at h'
  have hi:R P bW [.aO (l.map ay),.agg (ay v)]=some (.int .i64 n):=by
   (rw[nM (aD rfl),cS];simp(disch:=omega)only[aB,↓aa,seval,-List.reduceReplicate,reduceCtorEq,ae,G3,aR,mS,h',g3])
  have hn:((n:Int) ≥ 0)=True:=by simp
  rw[h2]
  (rw[lz (aD rfl),cA];simp(disch:=omega)only[aB,↓aa,seval,-List.reduceReplicate,reduceCtorEq,ae,G3,G4,nJ,hi,hn])
 ·rw[h1]at h
  obtain⟨_,h⟩:=h;have h':al P ez (O1 l v 0) [] 19 none=_:=h;simp only[O1]at h'
  have hi:R P bW [.aO (l.map ay),.agg (ay v)]=some (.int .i64 (-1)):=by
   (rw[nM (aD rfl),cS];simp(disch:=omega)only[aB,↓aa,seval,-List.reduceReplicate,reduceCtorEq,ae,G3,aR,mS,h',dB,lH])
  rw[h2]
  (rw[lz (aD rfl),cA];simp(disch:=omega)only[aB,↓aa,seval,-List.reduceReplicate,reduceCtorEq,ae,G3,G4,nJ,hi])
def A4(all:List V2)(l:List V2):Bool:=l.all fun v=>all.any (Iw v)
theorem NJ(all:List V2):∀(l:List V2) (i:Nat),aq (S:=Unit) (T:=Unit) (fun _ _ v=>if all.any (Iw v)=true then .inl ()else .inr ()) i () l=if A4 all l=true then .inl ()else .inr ()
 | [],i=>rfl
 |a::l,i=>by
  unfold aq;cases h:all.any (Iw a)with
  |true=>
   simp only[if_true,A4,Uj,h,Uk];exact NJ all l (i+1)
  |false=>simp[A4,h]
abbrev adR(all l:List V2)(i:Int):List (Nat×AV):=[(1,.p (.aO (all.map ay))),(7,.p (.aO (l.map ay))),(8,.p (.int .i64 l.length)),(9,.p (.int .i64 i))]
theorem GZ(l all:List V2)(hl:l.length≤1000000)(ha:all.length≤1000000):R P kB [.aO (l.map ay),.aO (all.map ay)]=some (.bool (A4 all l)):=by
 have h:=cE (P:=P) (nt:=18) (lv:=[1,7,8,9]) (b:=pZ) (rd:=none) (as:=l) (fun i (_:Unit)=>adR all l i) (fun _=>[]) (fun _ _ v=>if all.any (Iw v)=true then .inl ()else .inr ()) (fun(_:Unit)=>b7 4 (.bool false) []) (fun _ _=>True)
  (fun i x s hv hi hs=>by
   refine⟨fun _ _=>trivial,?_⟩
   have hlt:((i:Int)<l.length)=True:=by simpa using hi
   have hx:=fun σ=>aH (k:=.i64) (es:=2) (σ:=σ) (aw (f:=ay) hv) (by simp[ay])
   have hc:=x5 all x ha;cases hd:all.any (Iw x)with
   |true=>
    rw[hd]at hc;simp only[pZ,if_true];simp(disch:=omega)only[aB,↓aa,seval,-List.reduceReplicate,reduceCtorEq,ae,hlt,hx,G4,G3,bK,hc,adR,b7]
   |false=>
    rw[hd]at hc;simp only[pZ,lG,if_false];simp(disch:=omega)only[aB,↓aa,seval,-List.reduceReplicate,reduceCtorEq,ae,hlt,hx,G4,G3,bK,hc,adR,b7]) (fun i s=>rfl) () trivial
 rw[NJ]at h;cases hc:A4 all l with
 |true=>
  rw[hc]at h;obtain⟨_,h⟩:=h;have h':al P uV (adR all l 0) [] 18 none=_:=h;simp only[adR]at h'
  (rw[GY (aD rfl),px];simp(disch:=omega)only[aB,↓aa,seval,-List.reduceReplicate,reduceCtorEq,ae,aR,EA,h',pZ,lH])
 |false=>
  rw[hc]at h;obtain⟨⟨e',τ',σ',nt',rd'⟩,k1,k2,k3,k4⟩:=h
  simp only at k2 k3 k4
  subst k2;have h':al P uV (adR all l 0) [] 18 none=some (.ret,⟨τ',σ',nt',rd'⟩):=k1;simp only[adR]at h'
  (rw[GY (aD rfl),px];simp(disch:=omega)only[aB,↓aa,seval,-List.reduceReplicate,reduceCtorEq,ae,aR,EA,h',k3,k4])
structure M3 where
 name:ByteArray
 w:Int
 op:Int
theorem aqN{a b:M3}:a=b↔a.name=b.name∧a.w=b.w∧a.op=b.op:=by cases a;cases b;simp
instance:DecidableEq M3:=fun a b=>decidable_of_iff (a.name=b.name∧a.w=b.w∧a.op=b.op) aqN.symm
def rr(o w:Int):List PV:=[.int .i64 o,.int .i64 w]
abbrev Q2(m:M3):List PV:=rr m.op m.w
def U6(e:ByteArray×M3):PV×AV:=(.str e.1,.p (.agg (Q2 e.2)))
def RG:List (ByteArray×M3)→ByteArray→Option M3
 | [],_=>none
 |e::r,k=>if k=e.1 then some e.2 else RG r k
def stM(u:M3):List (ByteArray×M3)→List (ByteArray×M3)
 | []=>[(u.name,u)]
 |e::r=>if u.name=e.1 then(u.name,u)::r else e::stM u r
theorem Kq(k:ByteArray):∀s:List (ByteArray×M3),findKey .str (.str k) (s.map U6)=some ((RG s k).map fun u=>.p (.agg (Q2 u)))
 | []=>rfl
 |e::r=>by
  simp only[rK,findKey,U6,En,RG];by_cases h:k=e.1
  ·simp[h]
  ·simp only[h,decide_false,if_false]
   exact Kq k r
theorem ZR(u:M3):∀s:List (ByteArray×M3),vG .str (.str u.name) (.p (.agg (Q2 u))) (s.map U6)=some ((stM u s).map U6)
 | []=>rfl
 |e::r=>by
  simp only[rK,vG,U6,En,stM];by_cases h:u.name=e.1
  ·simp[h,U6]
  ·simp only[h,decide_false,if_false]
   rw[ZR u r];rfl
def okM(s:List (ByteArray×M3))(m:M3):Bool:=match RG s m.name with
 |some o=>decide (o.op=m.op∧o.w=m.w)
 |none=>true
def bindM(s:List (ByteArray×M3))(m:M3):List (ByteArray×M3) ⊕ List (ByteArray×M3):=if okM s m=true then .inl (stM m s)else .inr (stM m s)
abbrev sRo(s:List (ByteArray×M3)):ah:=[.map (s.map U6) false]
theorem akA{s:List (ByteArray×M3)}{k:ByteArray}(h:RG s k=none):vf (sRo s) .str (.p (.agg [.int .i64 0,.int .i64 0])) (.map 0) (.p (.str k)) true=some (.p (.jY [.agg (Q2 ⟨bs [],0,0⟩),.bool false])):=by
 show(if tj .str (.str k)=true then(findKey .str (.str k) (s.map U6)).bind fun o:Option AV=>some (z6 [o.getD (.p (.agg [.int .i64 0,.int .i64 0])),.p (.bool o.isSome)])else none)=_
 rw[Kq,h];rfl
theorem akB{s:List (ByteArray×M3)}{k:ByteArray}{o:M3}{z:AV}(h:RG s k=some o):vf (sRo s) .str z (.map 0) (.p (.str k)) true=some (.p (.jY [.agg (Q2 o),.bool true])):=by
 show(if tj .str (.str k)=true then(findKey .str (.str k) (s.map U6)).bind fun o:Option AV=>some (z6 [o.getD z,.p (.bool o.isSome)])else none)=_
 rw[Kq,h];rfl
theorem muR(s:List (ByteArray×M3))(m:M3):PR (sRo s) .str (.map 0) (.p (.str m.name)) (.p (.agg (Q2 m)))=some (.any,sRo (stM m s)):=by
 simp[PR,tj,ZR]
theorem atn(a b:M3):X7 false [.int,.int] (.p (.agg (Q2 a))) (.p (.agg (Q2 b)))=some (.p (.bool (decide (a.op=b.op∧a.w=b.w)))):=by
 have e:dF [.int,.int] (Q2 a) (Q2 b)=some (decide (a.op=b.op∧a.w=b.w)):=by
  simp only[Q2,rr,dF,Az,x6,pF,if_true]
  congr 1
  rw[abC];simp
 simp only[X7,e,x6,lG,if_false]
theorem aie{a b:Int}:iu σ 2 true (.p (.ptr (rr a b) 0))=some (.p (.agg (rr a b))):=rfl
theorem aid{a b:Int}:cellsOf 2 true (.p (.agg (rr a b)))=some ((rr a b).map .p):=rfl
theorem Tc{a b:Int}{z0 z1:AV}:j7 [z0,z1] [(0,1,.p (.int .i64 a)),(1,1,.p (.int .i64 b))]=some (.p (.agg (rr a b))):=rfl
mutual
def Ei:Term→List M3
 |.mk o w v n as=>if o=24∨o=25 then[⟨n,w,o⟩]else jG as
def jG:List Term→List M3
 | []=>[]
 |a::r=>Ei a++jG r
end
theorem OP(t:Term):Ei t=if t.op=24∨t.op=25 then[⟨t.name,t.w,t.op⟩]else jG t.args:=by cases t;rw[Ei];rfl
def foldM(l:List M3)(s:List (ByteArray×M3)):List (ByteArray×M3) ⊕ List (ByteArray×M3):=aq (fun _ s m=>bindM s m) 0 s l
theorem Im{S T α:Type}(f:S→α→S ⊕ T):∀(l:List α) (i j:Nat) (s:S),aq (fun _ s a=>f s a) i s l=aq (fun _ s a=>f s a) j s l
 | [],_,_,_=>rfl
 |a::l,i,j,s=>by
  simp only[aq];cases f s a with
  |inl s'=>exact Im f l (i+1) (j+1) s'
  |inr t=>rfl
theorem Vb(l m:List M3)(s:List (ByteArray×M3)):foldM (l++m) s=match foldM l s with
  |.inl s'=>foldM m s'
  |.inr t=>.inr t:=by
 unfold foldM
 induction l generalizing s with
 |nil=>rfl
 |cons a l ih=>
  simp only[F9,aq];cases bindM s a with
  |inl s'=>
   simp only
   rw[Im bindM (l++m) 1 0,Im bindM l 1 0];exact ih s'
  |inr t=>rfl
abbrev adJ(t:Term)(i:Int):List (Nat×AV):=[(0,.map 0),(42,.p (.aO (t.args.map Term.row))),(43,.p (.int .i64 t.args.length)),(44,.p (.int .i64 i))]
theorem Kt:∀(l:List Term) (i:Nat) (s:List (ByteArray×M3)),aq (fun _ s a=>foldM (Ei a) s) i s l=foldM (jG l) s
 | [],i,s=>by rw[jG];rfl
 |a::l,i,s=>by
  rw[jG,Vb];simp only[aq];cases foldM (Ei a) s with
  |inl s'=>exact Kt l (i+1) s'
  |inr t=>rfl
theorem ag0(t:Term):t.count≤1000000→∀s,call P dK [.map 0,.p (.agg t.row)] (sRo s)=(match foldM (Ei t) s with
  |.inl s'=>some (.p (.bool true),sRo s')
  |.inr s'=>some (.p (.bool false),sRo s')):=by
 induction t using Term.ind with
 |h t ih=>
 intro hc s;have hlen:=Term.dL t.args;have hct:=Term.count_eq t;rw[OP];by_cases hv:t.op=24∨t.op=25
 ·rw[if_pos hv]
  have hmu:=muR s ⟨t.name,t.w,t.op⟩
  have hfm:foldM [⟨t.name,t.w,t.op⟩] s=bindM s ⟨t.name,t.w,t.op⟩:=by
   unfold foldM aq;cases bindM s ⟨t.name,t.w,t.op⟩<;>rfl
  rw[hfm];unfold bindM okM
  simp only at hmu ⊢
  have hor:(t.op=24)=True∨(t.op=24)=False∧(t.op=25)=True:=by
   by_cases h1:t.op=24
   ·exact .inl (eq_true h1)
   ·exact .inr ⟨eq_false h1,eq_true (hv.resolve_left h1)⟩
  cases hk:RG s t.name with
  |none=>
   have hf:=akA hk;simp only[if_true];rcases hor with h1|⟨h1,h2⟩
   ·(rw[fK (aD rfl),dK];simp(disch:=omega)only[aB,↓aa,seval,-List.reduceReplicate,reduceCtorEq,ae,h1,Tc,aid,aie,hf,hmu])
   ·(rw[fK (aD rfl),dK];simp(disch:=omega)only[aB,↓aa,seval,-List.reduceReplicate,reduceCtorEq,ae,h1,h2,Tc,aid,aie,hf,hmu])
  |some o=>
   have hf:=fun z=>akB (z:=z) hk
   have he:=atn o ⟨t.name,t.w,t.op⟩
   simp only at he ⊢
   by_cases hd:o.op=t.op∧o.w=t.w
   ·rw[decide_eq_true hd]at he
    simp only[hd,decide_true,and_self,if_true];rcases hor with h1|⟨h1,h2⟩
    ·(rw[fK (aD rfl),dK];simp(disch:=omega)only[aB,↓aa,seval,-List.reduceReplicate,reduceCtorEq,ae,h1,Tc,aid,aie,hf,hmu,he])
    ·(rw[fK (aD rfl),dK];simp(disch:=omega)only[aB,↓aa,seval,-List.reduceReplicate,reduceCtorEq,ae,h1,h2,Tc,aid,aie,hf,hmu,he])
   ·rw[decide_eq_false hd]at he
    simp only[hd,decide_false,lG,if_false];rcases hor with h1|⟨h1,h2⟩
    ·(rw[fK (aD rfl),dK];simp(disch:=omega)only[aB,↓aa,seval,-List.reduceReplicate,reduceCtorEq,ae,h1,Tc,aid,aie,hf,hmu,he])
    ·(rw[fK (aD rfl),dK];simp(disch:=omega)only[aB,↓aa,seval,-List.reduceReplicate,reduceCtorEq,ae,h1,h2,Tc,aid,aie,hf,hmu,he])
 ·rw[if_neg hv]
  have h1:(t.op=24)=False:=eq_false (fun h=>hv (.inl h))
  have h2:(t.op=25)=False:=eq_false (fun h=>hv (.inr h))
  have h:=cE (P:=P) (nt:=53) (lv:=[0,42,43,44]) (b:=oS) (rd:=none) (as:=t.args) (fun i (_:List (ByteArray×M3))=>adJ t i) sRo (fun _ s a=>foldM (Ei a) s) (fun s r=>b7 4 (.bool false) (sRo s) r) (fun _ _=>True)
   (fun i a s ha hi hs=>by
    refine⟨fun _ _=>trivial,?_⟩
    have hm:=mR ha;have hac:=Term.cJ hm;have hr:=ih a hm (by omega) s
    have hlt:((i:Int)<t.args.length)=True:=by simpa using hi
    have hx:=fun σ=>aH (k:=.i64) (es:=5) (σ:=σ) (aw (f:=Term.row) ha) a.az
    cases hf:foldM (Ei a) s with
    |inl s'=>
     rw[hf]at hr
     simp only at hr
     simp only[oS];simp(disch:=omega)only[aB,↓aa,seval,-List.reduceReplicate,reduceCtorEq,ae,hlt,hx,vn,hr,adJ]
    |inr s'=>
     rw[hf]at hr
     simp only at hr
     simp only[oS];simp(disch:=omega)only[aB,↓aa,seval,-List.reduceReplicate,reduceCtorEq,ae,hlt,hx,vn,hr,adJ,b7]) (fun i s=>rfl) s trivial
  rw[Kt]at h;cases hf:foldM (jG t.args) s with
  |inl s'=>
   rw[hf]at h;obtain⟨_,h⟩:=h;have h':al P si (adJ t 0) (sRo s) 53 none=_:=h;simp only[adJ]at h'
   (rw[fK (aD rfl),dK];simp(disch:=omega)only[aB,↓aa,seval,-List.reduceReplicate,reduceCtorEq,ae,h1,h2,aR,Du,h',oS,lH])
  |inr s'=>
   rw[hf]at h;obtain⟨⟨e',τ',σ',nt',rd'⟩,k1,k2,k3,k4⟩:=h
   simp only at k2 k3 k4
   subst k2;subst k4;have h':al P si (adJ t 0) (sRo s) 53 none=some (.ret,⟨τ',sRo s',nt',rd'⟩):=k1;simp only[adJ]at h'
   (rw[fK (aD rfl),dK];simp(disch:=omega)only[aB,↓aa,seval,-List.reduceReplicate,reduceCtorEq,ae,h1,h2,aR,Du,h',k3])
abbrev adN(l:List Term)(i:Int):List (Nat×AV):=[(3,.map 0),(8,.p (.aO (l.map Term.row))),(9,.p (.int .i64 l.length)),(10,.p (.int .i64 i))]
theorem agE{es:List (PV×AV)}{r:ah}:aky (.map es false::r) (.map 0)=some (.p (.int .i64 es.length)):=rfl
def Hq(l:List Atom):Int:=match foldM (jG (eF l)) []with
 |.inl s=>if 16<(s.length:Int)then 7 else 0
 |.inr _=>12
theorem Wf(l:List Atom)(hl:l.length≤1000000)(hc:∀t∈eF l,t.count≤1000000)(hsl:(eF l).length≤1000000):R P oP [.aO (l.map Atom.row)]=some (.int .i64 (Hq l)):=by
 have hs:=Dm l hl;unfold Hq;generalize eF l=T at *
 have h:=cE (P:=P) (nt:=22) (lv:=[3,8,9,10]) (b:=po) (rd:=none) (as:=T) (fun i (_:List (ByteArray×M3))=>adN T i) sRo (fun _ s a=>foldM (Ei a) s) (fun s r=>b7 2 (.int .i64 12) (sRo s) r) (fun _ _=>True)
  (fun i a s ha hi hs=>by
   refine⟨fun _ _=>trivial,?_⟩
   have hm:=mR ha;have hr:=ag0 a (hc a hm) s;have hlt:((i:Int)<T.length)=True:=by simpa using hi
   have hx:=fun σ=>aH (k:=.i64) (es:=5) (σ:=σ) (aw (f:=Term.row) ha) a.az
   cases hf:foldM (Ei a) s with
   |inl s'=>
    rw[hf]at hr
    simp only at hr
    simp only[po];simp(disch:=omega)only[aB,↓aa,seval,-List.reduceReplicate,reduceCtorEq,ae,hlt,hx,vn,hr,adN]
   |inr s'=>
    rw[hf]at hr
    simp only at hr
    simp only[po];simp(disch:=omega)only[aB,↓aa,seval,-List.reduceReplicate,reduceCtorEq,ae,hlt,hx,vn,hr,adN,b7]) (fun i s=>rfl) [] trivial
 rw[Kt]at h;cases hf:foldM (jG T) []with
 |inl s'=>
  rw[hf]at h;obtain⟨_,h⟩:=h;have h':al P w6 (adN T 0) [.map [] false] 22 none=_:=h;simp only[adN]at h';by_cases g:(16:Int)<s'.length
  ·simp only[g,if_true]
   (rw[Dh (aD rfl),oC];simp(disch:=omega)only[aB,↓aa,seval,-List.reduceReplicate,reduceCtorEq,ae,vp,hs,aR,BG,h',po,lH,agE,g])
  ·simp only[g,if_false]
   (rw[Dh (aD rfl),oC];simp(disch:=omega)only[aB,↓aa,seval,-List.reduceReplicate,reduceCtorEq,ae,vp,hs,aR,BG,h',po,lH,agE,g])
 |inr s'=>
  rw[hf]at h;obtain⟨⟨e',τ',σ',nt',rd'⟩,k1,k2,k3,k4⟩:=h
  simp only at k2 k3 k4
  subst k2;subst k4;have h':al P w6 (adN T 0) [.map [] false] 22 none=some (.ret,⟨τ',sRo s',nt',rd'⟩):=k1;simp only[adN]at h'
  (rw[Dh (aD rfl),oC];simp(disch:=omega)only[aB,↓aa,seval,-List.reduceReplicate,reduceCtorEq,ae,vp,hs,aR,BG,h',k3])
def nA(a:Atom):Int:=if ¬cW a.pat false=0 then cW a.pat false else if ¬a.root=bs []∧jr a.root=false then 5 else 0
def B6:List Atom→Int
 | []=>0
 |a::r=>if nA a=0 then B6 r else nA a
theorem Ks:∀(l:List Atom) (i:Nat),aq (S:=Unit) (T:=Int) (fun _ _ a=>if nA a=0 then .inl ()else .inr (nA a)) i () l=if B6 l=0 then .inl ()else .inr (B6 l)
 | [],i=>rfl
 |a::r,i=>by
  unfold aq B6;by_cases h:nA a=0
  ·simp only[h,if_true];exact Ks r (i+1)
  ·simp only[h,if_false]
abbrev U4(l:List Atom)(i:Int):List (Nat×AV):=[(6,.p (.aO (l.map Atom.row))),(7,.p (.int .i64 l.length)),(8,.p (.int .i64 i))]
theorem Wc(l:List Atom)(hl:l.length≤1000000)(ht:∀a∈l,iD a.pat∧a.pat.count≤1000000):R P oO [.aO (l.map Atom.row)]=some (.int .i64 (B6 l)):=by
 have h:=cE (P:=P) (nt:=28) (lv:=[6,7,8]) (b:=mu) (rd:=none) (as:=l) (fun i (_:Unit)=>U4 l i) (fun _=>[]) (fun _ _ a=>if nA a=0 then .inl ()else .inr (nA a)) (fun e=>b7 2 (.int .i64 e) []) (fun _ _=>True)
  (fun i a s ha hi hs=>by
   refine⟨fun _ _=>trivial,?_⟩
   have hma:=mR ha;have hlt:((i:Int)<l.length)=True:=by simpa using hi
   have hx:=fun σ=>aH (k:=.i64) (es:=6) (σ:=σ) (aw (f:=Atom.row) ha) a.az
   have c1:=sx a.pat false (ht a hma).1 (ht a hma).2;have c3:=kH a.root;rcases cY (cW a.pat false=0)with h1|h1
   rotate_left
   ·have h1':=of_eq_false h1
    have e:nA a=cW a.pat false:=by unfold nA;rw[if_pos h1']
    rw[e,if_neg h1'];simp only[mu];simp(disch:=omega)only[aB,↓aa,seval,-List.reduceReplicate,reduceCtorEq,ae,hlt,hx,iJ,eQ,fN,a_w,lY,bA,c1,h1,U4,b7]
   have h1':=of_eq_true h1;have e0:nA a=if ¬a.root=bs []∧jr a.root=false then 5 else 0:=by unfold nA;rw[if_neg (not_not_intro h1')]
   rcases cY (a.root=bs [])with h2|h2
   ·have h2':=of_eq_true h2
    have e:nA a=0:=by rw[e0];exact if_neg (fun h=>h.1 h2')
    rw[e,if_pos rfl];simp only[mu];simp(disch:=omega)only[aB,↓aa,seval,-List.reduceReplicate,reduceCtorEq,ae,hlt,hx,iJ,eQ,fN,a_w,lY,bA,c1,h1,h2,U4,b7]
   ·have h2':=of_eq_false h2
    cases hn:jr a.root with
    |true=>
     rw[hn]at c3 e0;have e:nA a=0:=by rw[e0];exact if_neg (fun h=>by cases h.2)
     rw[e,if_pos rfl];simp only[mu];simp(disch:=omega)only[aB,↓aa,seval,-List.reduceReplicate,reduceCtorEq,ae,hlt,hx,iJ,eQ,fN,a_w,lY,bA,c1,h1,h2,iv,c3,U4,b7]
    |false=>
     rw[hn]at c3 e0;have e:nA a=5:=by rw[e0];exact if_pos ⟨h2',rfl⟩
     rw[e,if_neg (by decide)]
     simp only[mu];simp(disch:=omega)only[aB,↓aa,seval,-List.reduceReplicate,reduceCtorEq,ae,hlt,hx,iJ,eQ,fN,a_w,lY,bA,c1,h1,h2,iv,c3,U4,b7]) (fun i s=>rfl) () trivial
 rw[Ks]at h;rcases cY (B6 l=0)with c0|c0
 ·have c0':=of_eq_true c0
  rw[if_pos c0']at h;obtain⟨_,h⟩:=h;have h':al P wZ (U4 l 0) [] 28 none=_:=h;simp only[U4]at h';rw[c0']
  (rw[Jz (aD rfl),ri];simp(disch:=omega)only[aB,↓aa,seval,-List.reduceReplicate,reduceCtorEq,ae,aR,GB,h',mu,lH])
 ·have c0':=of_eq_false c0
  rw[if_neg c0']at h;obtain⟨⟨e',τ',σ',nt',rd'⟩,k1,k2,k3,k4⟩:=h
  simp only at k2 k3 k4
  subst k2;have h':al P wZ (U4 l 0) [] 28 none=some (.ret,⟨τ',σ',nt',rd'⟩):=k1;simp only[U4]at h'
  (rw[Jz (aD rfl),ri];simp(disch:=omega)only[aB,↓aa,seval,-List.reduceReplicate,reduceCtorEq,ae,aR,GB,h',k3])
mutual
def MM(hs ns:List V2):Term→Bool
 |.mk o w v n as=>if o=24 then hs.any (Iw ⟨n,w⟩)else if o=25 then ns.any (Iw ⟨n,w⟩)else Gr hs ns as
def Gr(hs ns:List V2):List Term→Bool
 | []=>true
 |a::r=>MM hs ns a && Gr hs ns r
end
theorem afK(hs ns:List V2)(t:Term):MM hs ns t=if t.op=24 then hs.any (Iw ⟨t.name,t.w⟩)else if t.op=25 then ns.any (Iw ⟨t.name,t.w⟩)else Gr hs ns t.args:=by cases t;rw[MM];rfl
theorem Pn(hs ns:List V2):∀(l:List Term) (i:Nat),aq (S:=Unit) (T:=Unit) (fun _ _ a=>if MM hs ns a=true then .inl ()else .inr ()) i () l=if Gr hs ns l=true then .inl ()else .inr ()
 | [],i=>by rw[Gr];rfl
 |a::l,i=>by
  unfold aq;rw[Gr];cases h:MM hs ns a with
  |true=>
   simp only[if_true,Uk];exact Pn hs ns l (i+1)
  |false=>simp
theorem apd{n:ByteArray}{w:Int}{z0 z1:AV}:j7 [z0,z1] [(0,1,.p (.str n)),(1,1,.p (.int .i64 w))]=some (.p (.agg (ay ⟨n,w⟩))):=rfl
abbrev adI(hs ns:List V2)(t:Term)(i:Int):List (Nat×AV):=[(1,.p (.aO (hs.map ay))),(2,.p (.aO (ns.map ay))),(30,.p (.aO (t.args.map Term.row))),(31,.p (.int .i64 t.args.length)),(32,.p (.int .i64 i))]
theorem We(hs ns:List V2)(hh:hs.length≤1000000)(hn:ns.length≤1000000)(t:Term):t.count≤1000000→R P me [.agg t.row,.aO (hs.map ay),.aO (ns.map ay)]=some (.bool (MM hs ns t)):=by
 induction t using Term.ind with
 |h t ih=>
 intro hc;have hlen:=Term.dL t.args;have hct:=Term.count_eq t;rw[afK];have ch:=x5 hs ⟨t.name,t.w⟩ hh;have cn:=x5 ns ⟨t.name,t.w⟩ hn;simp only[ay]at ch cn;rcases cY (t.op=24)with h1|h1
 ·rw[if_pos (of_eq_true h1)]
  (rw[yZ (aD rfl),lV];simp(disch:=omega)only[aB,↓aa,seval,-List.reduceReplicate,reduceCtorEq,ae,h1,apd,bK,ch])
 rw[if_neg (of_eq_false h1)];rcases cY (t.op=25)with h2|h2
 ·rw[if_pos (of_eq_true h2)]
  (rw[yZ (aD rfl),lV];simp(disch:=omega)only[aB,↓aa,seval,-List.reduceReplicate,reduceCtorEq,ae,h1,h2,apd,bK,cn])
 rw[if_neg (of_eq_false h2)]
 have h:=cE (P:=P) (nt:=42) (lv:=[1,2,30,31,32]) (b:=rM) (rd:=none) (as:=t.args) (fun i (_:Unit)=>adI hs ns t i) (fun _=>[]) (fun _ _ a=>if MM hs ns a=true then .inl ()else .inr ()) (fun(_:Unit)=>b7 6 (.bool false) []) (fun _ _=>True)
  (fun i a s ha hi _=>by
   refine⟨fun _ _=>trivial,?_⟩
   have hm:=mR ha;have hac:=Term.cJ hm;have hr:=ih a hm (by omega)
   have hlt:((i:Int)<t.args.length)=True:=by simpa using hi
   have hx:=fun σ=>aH (k:=.i64) (es:=5) (σ:=σ) (aw (f:=Term.row) ha) a.az
   cases hd:MM hs ns a with
   |true=>
    rw[hd]at hr;simp only[rM,if_true];simp(disch:=omega)only[aB,↓aa,seval,-List.reduceReplicate,reduceCtorEq,ae,hlt,hx,yV,hr,adI,b7]
   |false=>
    rw[hd]at hr;simp only[rM,lG,if_false];simp(disch:=omega)only[aB,↓aa,seval,-List.reduceReplicate,reduceCtorEq,ae,hlt,hx,yV,hr,adI,b7]) (fun i s=>rfl) () trivial
 rw[Pn]at h;cases hd:Gr hs ns t.args with
 |true=>
  rw[hd]at h;obtain⟨_,h⟩:=h;have h':al P w5 (adI hs ns t 0) [] 42 none=_:=h;simp only[adI]at h'
  (rw[yZ (aD rfl),lV];simp(disch:=omega)only[aB,↓aa,seval,-List.reduceReplicate,reduceCtorEq,ae,h1,h2,aR,GC,h',rM,lH])
 |false=>
  rw[hd]at h;obtain⟨⟨e',τ',σ',nt',rd'⟩,k1,k2,k3,k4⟩:=h
  simp only at k2 k3 k4
  subst k2;have h':al P w5 (adI hs ns t 0) [] 42 none=some (.ret,⟨τ',σ',nt',rd'⟩):=k1;simp only[adI]at h'
  (rw[yZ (aD rfl),lV];simp(disch:=omega)only[aB,↓aa,seval,-List.reduceReplicate,reduceCtorEq,ae,h1,h2,aR,GC,h',k3])
theorem V6(t:Term)(ht:iD t):R P oH [.agg t.row]=some (.bool (t.beq zT)):=by
 have h:=ZN t ht zT;have hz:zT.row=[.int .i64 0,.int .i64 0,.int .u64 0,.str (bs []),.aO []]:=by simp[zT,Term.row,Term.rows]
 rw[hz]at h
 (rw[VT (aD rfl),uD];simp(disch:=omega)only[aB,↓aa,seval,-List.reduceReplicate,reduceCtorEq,ae,Fq,h])
def Io(g:Gd):Bool:=if g.kind=1 then g.b.beq zT else if g.kind=3∨g.kind=4 then decide (g.a.op=24)else decide (g.kind=2)
theorem V5(g:Gd)(hb:iD g.b):R P oG [.agg g.row]=some (.bool (Io g)):=by
 have hz:=V6 g.b hb;unfold Io;rcases cY (g.kind=1)with h1|h1
 ·rw[if_pos (of_eq_true h1)]
  (rw[yW (aD rfl),lR];simp(disch:=omega)only[aB,↓aa,seval,-List.reduceReplicate,reduceCtorEq,ae,aQ,qP,um,h1,VN,hz])
 rw[if_neg (of_eq_false h1)];rcases cY (g.kind=3)with h3|h3
 ·rw[if_pos (.inl (of_eq_true h3))]
  (rw[yW (aD rfl),lR];simp(disch:=omega)only[aB,↓aa,seval,-List.reduceReplicate,reduceCtorEq,ae,aQ,qP,HM,h1,h3])
 rcases cY (g.kind=4)with h4|h4
 ·rw[if_pos (.inr (of_eq_true h4))]
  (rw[yW (aD rfl),lR];simp(disch:=omega)only[aB,↓aa,seval,-List.reduceReplicate,reduceCtorEq,ae,aQ,qP,HM,h1,h3,h4])
 rw[if_neg (by rintro(h|h);exact of_eq_false h3 h;exact of_eq_false h4 h)]
 (rw[yW (aD rfl),lR];simp(disch:=omega)only[aB,↓aa,seval,-List.reduceReplicate,reduceCtorEq,ae,aQ,qP,HM,h1,h3,h4])
theorem ap8{a:Term}:lr σ 5 1 (gR (List.replicate 1 [.p (.int .i64 0),.p (.int .i64 0),.p (.int .u64 0),.p (.str (bs [])),.aA]).flatten [(0,5,.p (.agg a.row))])=some (.sl σ.length 1,σ++[.pv 5 [a.row] false]):=by rw[Term.a6 a];rfl
abbrev X2(p:Term)(hs ns l:List V2)(i:Int):List (Nat×AV):=[(1,.p (.aO (hs.map ay))),(2,.p (.aO (ns.map ay))),(3,.p (.ptr p.row 0)),(13,.p (.aO (l.map ay))),(14,.p (.int .i64 l.length)),(15,.p (.int .i64 i))]
abbrev X3(ns l:List V2)(i:Int):List (Nat×AV):=[(2,.p (.aO (ns.map ay))),(26,.p (.aO (l.map ay))),(27,.p (.int .i64 l.length)),(28,.p (.int .i64 i))]
theorem ahO(p:Term)(hs ns l:List V2)(hh:hs.length≤1000000)(hl:l.length≤1000000):pP (fun _:Unit=>True∧al P se (X2 p hs ns l 0) σ 37 none=back P [1,2,3,13,14,15] gZ σ.length (exec P gZ ⟨tm (X2 p hs ns l l.length),σ,37,none⟩)) (fun _:Unit=>∃r,al P se (X2 p hs ns l 0) σ 37 none=some r∧b7 6 (.bool false) σ r) (if A4 hs l=true then .inl ()else .inr ()):=by
 have h:=cE (P:=P) (nt:=37) (lv:=[1,2,3,13,14,15]) (b:=gZ) (rd:=none) (as:=l) (fun i (_:Unit)=>X2 p hs ns l i) (fun _=>σ) (fun _ _ v=>if hs.any (Iw v)=true then .inl ()else .inr ()) (fun(_:Unit)=>b7 6 (.bool false) σ) (fun _ _=>True)
  (fun i x s hv hi _=>by
   refine⟨fun _ _=>trivial,?_⟩
   have hlt:((i:Int)<l.length)=True:=by simpa using hi
   have hx:=fun σ=>aH (k:=.i64) (es:=2) (σ:=σ) (aw (f:=ay) hv) (by simp[ay])
   have hc:=x5 hs x hh;cases hd:hs.any (Iw x)with
   |true=>
    rw[hd]at hc;simp only[gZ,if_true];simp(disch:=omega)only[aB,↓aa,seval,-List.reduceReplicate,reduceCtorEq,ae,hlt,hx,G4,G3,bK,hc,X2,b7]
   |false=>
    rw[hd]at hc;simp only[gZ,lG,if_false];simp(disch:=omega)only[aB,↓aa,seval,-List.reduceReplicate,reduceCtorEq,ae,hlt,hx,G4,G3,bK,hc,X2,b7]) (fun i s=>rfl) () trivial
 rw[NJ]at h;exact h
theorem ahQ(ns l:List V2)(hh:ns.length≤1000000)(hl:l.length≤1000000):pP (fun _:Unit=>True∧al P sm (X3 ns l 0) σ 37 none=back P [2,26,27,28] jD σ.length (exec P jD ⟨tm (X3 ns l l.length),σ,37,none⟩)) (fun _:Unit=>∃r,al P sm (X3 ns l 0) σ 37 none=some r∧b7 6 (.bool false) σ r) (if A4 ns l=true then .inl ()else .inr ()):=by
 have h:=cE (P:=P) (nt:=37) (lv:=[2,26,27,28]) (b:=jD) (rd:=none) (as:=l) (fun i (_:Unit)=>X3 ns l i) (fun _=>σ) (fun _ _ v=>if ns.any (Iw v)=true then .inl ()else .inr ()) (fun(_:Unit)=>b7 6 (.bool false) σ) (fun _ _=>True)
  (fun i x s hv hi _=>by
   refine⟨fun _ _=>trivial,?_⟩
   have hlt:((i:Int)<l.length)=True:=by simpa using hi
   have hx:=fun σ=>aH (k:=.i64) (es:=2) (σ:=σ) (aw (f:=ay) hv) (by simp[ay])
   have hc:=x5 ns x hh;cases hd:ns.any (Iw x)with
   |true=>
    rw[hd]at hc;simp only[jD,if_true];simp(disch:=omega)only[aB,↓aa,seval,-List.reduceReplicate,reduceCtorEq,ae,hlt,hx,G4,G3,bK,hc,X3,b7]
   |false=>
    rw[hd]at hc;simp only[jD,lG,if_false];simp(disch:=omega)only[aB,↓aa,seval,-List.reduceReplicate,reduceCtorEq,ae,hlt,hx,G4,G3,bK,hc,X3,b7]) (fun i s=>rfl) () trivial
 rw[NJ]at h;exact h
theorem aqs{x:List PV}{c:Bool}:(if c=true then[Obj.pv 5 [x] false]else bL [Obj.pv 5 [x] false] (refs [Obj.pv 5 [x] false] 12 (.sl 0 1)))=[Obj.pv 5 [x] (!c)]:=by cases c<;>rfl
theorem att{o:Obj}{x:List PV}{c:Bool}:(if c=true then[o,Obj.pv 5 [x] false]else dM [o,Obj.pv 5 [x] false] 1)=[o,Obj.pv 5 [x] (!c)]:=by cases c<;>rfl
theorem eZ(op:Int)(l:List Term):(varsOf op l).length≤Term.counts l:=by
 have:=S4 (op:=op) (l:=l) (s:=[]);simpa[varsOf]using this
def Ws(hs ns:List V2)(p:Term):Bool:=A4 hs (varsOf 24 [p]) && A4 ns (varsOf 25 [p])
theorem vC(p:Term)(hs ns:List V2)(hh:hs.length≤1000000)(hn:ns.length≤1000000)(hc:p.count≤400000):R P jm [.agg p.row,.aO (hs.map ay),.aO (ns.map ay)]=some (.bool (Ws hs ns p)):=by
 have hcc:Term.counts [p]≤500000:=by simp[Term.counts];omega
 have k1:=sy [p] hcc;have k2:=vD [p] hcc;have la:=eZ 24 [p];have lb:=eZ 25 [p];simp only[rK,B0]at k1 k2;unfold Ws;generalize varsOf 24 [p]=A at *;generalize varsOf 25 [p]=B at *;have L0:=fun σ=>ahO (σ:=σ) p hs ns A hh (by omega)
 have L1:=fun σ=>ahQ (σ:=σ) ns B hn (by omega)
 cases hA:A4 hs A with
 |false=>
  have h0:=L0 [Obj.pv 5 [p.row] (!(PV.aO (A.map ay)).flat)];rw[hA]at h0;obtain⟨⟨e',τ',σ',nt',rd'⟩,g1,g2,g3,g4⟩:=h0
  simp only at g2 g3 g4
  subst g2;simp only[X2]at g1
  (rw[Ak (aD rfl),kR];simp(disch:=omega)only[aB,↓aa,seval,-List.reduceReplicate,reduceCtorEq,ae,ap8,jM,k1,aR,aqs,yi,g1,g3,g4,BR])
 |true=>
  have h0:=L0 [Obj.pv 5 [p.row] (!(PV.aO (A.map ay)).flat)];rw[hA]at h0;obtain⟨_,h0⟩:=h0;simp only[X2]at h0;have h1:=L1 [Obj.pv 5 [p.row] (!(PV.aO (A.map ay)).flat),Obj.pv 5 [p.row] (!(PV.aO (B.map ay)).flat)];cases hB:A4 ns B with
  |false=>
   rw[hB]at h1;obtain⟨⟨e',τ',σ',nt',rd'⟩,g1,g2,g3,g4⟩:=h1
   simp only at g2 g3 g4
   subst g2;simp only[X3]at g1
   (rw[Ak (aD rfl),kR];simp(disch:=omega)only[aB,↓aa,seval,-List.reduceReplicate,reduceCtorEq,ae,ap8,jM,k1,qU,k2,aR,aqs,att,yi,h0,gZ,lH,Dw,g1,g3,g4,Wy])
  |true=>
   rw[hB]at h1;obtain⟨_,h1⟩:=h1;simp only[X3]at h1
   (rw[Ak (aD rfl),kR];simp(disch:=omega)only[aB,↓aa,seval,-List.reduceReplicate,reduceCtorEq,ae,ap8,jM,k1,qU,k2,aR,aqs,att,yi,h0,gZ,lH,Dw,h1,jD,RA])
def ajX(g:Gd)(hs ns:List V2):Bool:=Ws (if g.kind=1 then[]else hs) ns g.a && (decide (g.kind=1) ||Ws (if g.kind=3∨g.kind=4 then[]else hs) ns g.b)
def Ep(g:Gd)(hs ns:List V2):Int :=
 if Io g=false then 1
 else if ¬cW g.a false=0 then cW g.a false
 else if ¬g.kind=1∧¬cW g.b false=0 then cW g.b false
 else if ajX g hs ns=false then 12
 else if ¬g.a.w=(if g.kind=1 then 1 else g.b.w)then 3 else 0
theorem SH(g:Gd)(hs ns:List V2)(ha:iD g.a)(hb:iD g.b)(ca:g.a.count≤400000)(cb:g.b.count≤400000)(hh:hs.length≤1000000)(hn:ns.length≤1000000):R P mJ [.agg g.row,.aO (hs.map ay),.aO (ns.map ay)]=some (.int .i64 (Ep g hs ns)):=by
 have kf:=V5 g hb;have k1:=sx g.a false ha (by omega)
 have k2:=sx g.b false hb (by omega)
 have wa:=vC g.a hs ns hh hn ca;have wb:=vC g.b hs ns hh hn cb;have wa0:=vC g.a [] ns (by simp) hn ca
 have wb0:=vC g.b [] ns (by simp) hn cb
 simp only[B0]at wa0 wb0;unfold Ep;cases hf:Io g with
 |false=>
  rw[hf]at kf;simp only[if_true]
  (rw[cG (aD rfl),bU];simp(disch:=omega)only[aB,↓aa,seval,-List.reduceReplicate,reduceCtorEq,ae,bB,aQ,cV,kf])
 |true=>
 rw[hf]at kf;simp only[N4,if_false];rcases cY (cW g.a false=0)with h1|h1
 rotate_left
 ·rw[if_pos (of_eq_false h1)]
  (rw[cG (aD rfl),bU];simp(disch:=omega)only[aB,↓aa,seval,-List.reduceReplicate,reduceCtorEq,ae,bB,aQ,cV,kf,qP,uk,um,bA,k1,h1])
 rw[if_neg (not_not_intro (of_eq_true h1))];unfold ajX;rcases cY (g.kind=1)with e1|e1
 ·have e1':=of_eq_true e1
  simp only[e1',not_true,false_and,if_false,if_true,decide_true,Ul,abX];cases hw:Ws [] ns g.a with
  |false=>
   rw[hw]at wa0
   (rw[cG (aD rfl),bU];simp(disch:=omega)only[aB,↓aa,seval,-List.reduceReplicate,reduceCtorEq,ae,bB,aQ,cV,kf,qP,zP,BS,uk,um,bA,k1,h1,e1,cU,wa0])
  |true=>
   rw[hw]at wa0;rcases cY (g.a.w=1)with w1|w1
   ·simp only[N4,if_false,of_eq_true w1,not_true]
    (rw[cG (aD rfl),bU];simp(disch:=omega)only[aB,↓aa,seval,-List.reduceReplicate,reduceCtorEq,ae,bB,aQ,cV,kf,qP,zP,BS,uk,um,bA,k1,h1,e1,cU,wa0,w1])
   ·simp only[N4,if_false,of_eq_false w1,not_false_eq_true,if_true]
    (rw[cG (aD rfl),bU];simp(disch:=omega)only[aB,↓aa,seval,-List.reduceReplicate,reduceCtorEq,ae,bB,aQ,cV,kf,qP,zP,BS,uk,um,bA,k1,h1,e1,cU,wa0,w1])
 have e1':=of_eq_false e1;simp only[e1',not_false_eq_true,true_and,if_false,decide_false,J5];rcases cY (cW g.b false=0)with h2|h2
 rotate_left
 ·rw[if_pos (of_eq_false h2)]
  (rw[cG (aD rfl),bU];simp(disch:=omega)only[aB,↓aa,seval,-List.reduceReplicate,reduceCtorEq,ae,bB,aQ,cV,kf,qP,uk,um,bA,k1,k2,h1,h2,e1])
 rw[if_neg (not_not_intro (of_eq_true h2))];have key:∀(hs':List V2),(if g.kind=3∨g.kind=4 then[]else hs)=hs'→True:=fun _ _=>trivial
 rcases cY (g.kind=3)with e3|e3
 ·have e3':(if g.kind=3∨g.kind=4 then([]:List V2)else hs)=[]:=if_pos (.inl (of_eq_true e3))
  rw[e3'];cases hw:Ws hs ns g.a with
  |false=>
   rw[hw]at wa;simp only[BR,if_true]
   (rw[cG (aD rfl),bU];simp(disch:=omega)only[aB,↓aa,seval,-List.reduceReplicate,reduceCtorEq,ae,bB,aQ,cV,kf,qP,zP,BS,uk,um,bA,k1,k2,h1,h2,e1,e3,cU,wa])
  |true=>
   rw[hw]at wa;cases hw2:Ws [] ns g.b with
   |false=>
    rw[hw2]at wb0;simp only[Wy,if_true]
    (rw[cG (aD rfl),bU];simp(disch:=omega)only[aB,↓aa,seval,-List.reduceReplicate,reduceCtorEq,ae,bB,aQ,cV,kf,qP,zP,BS,uk,um,bA,k1,k2,h1,h2,e1,e3,cU,wa,wb0])
   |true=>
    rw[hw2]at wb0;simp only[RA,N4,if_false];rcases cY (g.a.w=g.b.w)with w1|w1
    ·rw[if_neg (not_not_intro (of_eq_true w1))]
     (rw[cG (aD rfl),bU];simp(disch:=omega)only[aB,↓aa,seval,-List.reduceReplicate,reduceCtorEq,ae,bB,aQ,cV,kf,qP,zP,BS,uk,um,bA,k1,k2,h1,h2,e1,e3,cU,wa,wb0,w1])
    ·rw[if_pos (of_eq_false w1)]
     (rw[cG (aD rfl),bU];simp(disch:=omega)only[aB,↓aa,seval,-List.reduceReplicate,reduceCtorEq,ae,bB,aQ,cV,kf,qP,zP,BS,uk,um,bA,k1,k2,h1,h2,e1,e3,cU,wa,wb0,w1])
 rcases cY (g.kind=4)with e4|e4
 ·have e4':(if g.kind=3∨g.kind=4 then([]:List V2)else hs)=[]:=if_pos (.inr (of_eq_true e4))
  rw[e4'];cases hw:Ws hs ns g.a with
  |false=>
   rw[hw]at wa;simp only[BR,if_true]
   (rw[cG (aD rfl),bU];simp(disch:=omega)only[aB,↓aa,seval,-List.reduceReplicate,reduceCtorEq,ae,bB,aQ,cV,kf,qP,zP,BS,uk,um,bA,k1,k2,h1,h2,e1,e3,e4,cU,wa])
  |true=>
   rw[hw]at wa;cases hw2:Ws [] ns g.b with
   |false=>
    rw[hw2]at wb0;simp only[Wy,if_true]
    (rw[cG (aD rfl),bU];simp(disch:=omega)only[aB,↓aa,seval,-List.reduceReplicate,reduceCtorEq,ae,bB,aQ,cV,kf,qP,zP,BS,uk,um,bA,k1,k2,h1,h2,e1,e3,e4,cU,wa,wb0])
   |true=>
    rw[hw2]at wb0;simp only[RA,N4,if_false];rcases cY (g.a.w=g.b.w)with w1|w1
    ·rw[if_neg (not_not_intro (of_eq_true w1))]
     (rw[cG (aD rfl),bU];simp(disch:=omega)only[aB,↓aa,seval,-List.reduceReplicate,reduceCtorEq,ae,bB,aQ,cV,kf,qP,zP,BS,uk,um,bA,k1,k2,h1,h2,e1,e3,e4,cU,wa,wb0,w1])
    ·rw[if_pos (of_eq_false w1)]
     (rw[cG (aD rfl),bU];simp(disch:=omega)only[aB,↓aa,seval,-List.reduceReplicate,reduceCtorEq,ae,bB,aQ,cV,kf,qP,zP,BS,uk,um,bA,k1,k2,h1,h2,e1,e3,e4,cU,wa,wb0,w1])
 have e5':(if g.kind=3∨g.kind=4 then([]:List V2)else hs)=hs:=if_neg (by rintro(h|h);exact of_eq_false e3 h;exact of_eq_false e4 h)
 rw[e5'];cases hw:Ws hs ns g.a with
 |false=>
  rw[hw]at wa;simp only[BR,if_true]
  (rw[cG (aD rfl),bU];simp(disch:=omega)only[aB,↓aa,seval,-List.reduceReplicate,reduceCtorEq,ae,bB,aQ,cV,kf,qP,zP,BS,uk,um,bA,k1,k2,h1,h2,e1,e3,e4,cU,wa])
 |true=>
  rw[hw]at wa;cases hw2:Ws hs ns g.b with
  |false=>
   rw[hw2]at wb;simp only[Wy,if_true]
   (rw[cG (aD rfl),bU];simp(disch:=omega)only[aB,↓aa,seval,-List.reduceReplicate,reduceCtorEq,ae,bB,aQ,cV,kf,qP,zP,BS,uk,um,bA,k1,k2,h1,h2,e1,e3,e4,cU,wa,wb])
  |true=>
   rw[hw2]at wb;simp only[RA,N4,if_false];rcases cY (g.a.w=g.b.w)with w1|w1
   ·rw[if_neg (not_not_intro (of_eq_true w1))]
    (rw[cG (aD rfl),bU];simp(disch:=omega)only[aB,↓aa,seval,-List.reduceReplicate,reduceCtorEq,ae,bB,aQ,cV,kf,qP,zP,BS,uk,um,bA,k1,k2,h1,h2,e1,e3,e4,cU,wa,wb,w1])
   ·rw[if_pos (of_eq_false w1)]
    (rw[cG (aD rfl),bU];simp(disch:=omega)only[aB,↓aa,seval,-List.reduceReplicate,reduceCtorEq,ae,bB,aQ,cV,kf,qP,zP,BS,uk,um,bA,k1,k2,h1,h2,e1,e3,e4,cU,wa,wb,w1])
def zQ(hs ns:List V2):List Gd→Int
 | []=>0
 |g::r=>if Ep g hs ns=0 then zQ hs ns r else Ep g hs ns
theorem Tu(hs ns:List V2):∀(l:List Gd) (i:Nat),aq (S:=Unit) (T:=Int) (fun _ _ a=>if Ep a hs ns=0 then .inl ()else .inr (Ep a hs ns)) i () l=if zQ hs ns l=0 then .inl ()else .inr (zQ hs ns l)
 | [],i=>rfl
 |a::r,i=>by
  unfold aq zQ;by_cases h:Ep a hs ns=0
  ·simp only[h,if_true];exact Tu hs ns r (i+1)
  ·simp only[h,if_false]
structure gk (r:du):Prop where
 ll:r.left.length≤1000
 lt:∀a∈r.left,iD a.pat∧a.pat.count≤400
 rt:iD r.right∧r.right.count≤400
 gl:r.guards.length≤1000
 gt:∀g∈r.guards,iD g.a∧iD g.b∧g.a.count≤400∧g.b.count≤400
theorem Rh{r:du}(h:gk r):∀t∈eF r.left,t.count≤400:=by
 intro t ht;obtain⟨a,ha,ht⟩:=MK.1 ht;unfold CE at ht;rcases D6.1 ht with h1|h1
 ·split at h1
  ·simp at h1
  ·rw[J7.1 h1]
   show Term.count (.mk 24 a.pat.w 0 a.root [])≤400;rw[Term.count_eq];show 1+Term.counts []≤400;decide
 ·rw[J7.1 h1]
  exact(h.lt a ha).2
theorem Ti(k:Nat):∀l:List Term,(∀t∈l,t.count≤k)→Term.counts l≤l.length*k
 | [],_=>by simp[Term.counts]
 |a::l,h=>by
  have h1:=Ti k l (fun t ht=>h t (by simp[ht]))
  have h2:=h a (by simp)
  simp only[Term.counts,lZ,acg];omega
theorem T6(l:List Atom):(eF l).length≤2*l.length:=by
 induction l with
 |nil=>simp[eF]
 |cons a l ih=>
  have:=K3 a;simp only[eF,aa4,jS,lZ]at *;omega
theorem y4{r:du}(h:gk r)(hl:r.left.length≤100):Term.counts (eF r.left)≤80000:=by
 have h1:=Ti 400 _ (Rh h);have h2:=T6 r.left;have h3:(eF r.left).length*400≤200*400:=ND _ (by omega)
 omega
abbrev adL(hs ns:List V2)(l:List Gd)(i:Int):List (Nat×AV):=[(3,.p (.aO (hs.map ay))),(4,.p (.aO (ns.map ay))),(13,.p (.aO (l.map Gd.row))),(14,.p (.int .i64 l.length)),(15,.p (.int .i64 i))]
theorem SN(r:du)(h:gk r)(hl:r.left.length≤100):R P mP [.agg r.row]=some (.int .i64 (zQ (fP r) (k9 r) r.guards)):=by
 have hsc:=y4 h hl;have kh:=JG r (by omega) (by omega)
 have kn:=Mz r (by omega) (by omega)
 have lh:=eZ 24 (eF r.left);have ln:=eZ 25 (eF r.left);have lh':(fP r).length≤1000000:=by unfold fP;omega
 have ln':(k9 r).length≤1000000:=by unfold k9;omega
 have hgl:=h.gl;generalize fP r=hs at *;generalize k9 r=ns at *
 have hL:=cE (P:=P) (nt:=27) (lv:=[3,4,13,14,15]) (b:=pY) (rd:=none) (as:=r.guards) (fun i (_:Unit)=>adL hs ns r.guards i) (fun _=>[]) (fun _ _ a=>if Ep a hs ns=0 then .inl ()else .inr (Ep a hs ns)) (fun e=>b7 2 (.int .i64 e) []) (fun _ _=>True)
  (fun i g s ha hi _=>by
   refine⟨fun _ _=>trivial,?_⟩
   have hm:=h.gt g (mR ha);have hlt:((i:Int)<r.guards.length)=True:=by simpa using hi
   have hx:=fun σ=>aH (k:=.i64) (es:=11) (σ:=σ) (aw (f:=Gd.row) ha) g.az
   have hg:=SH g hs ns hm.1 hm.2.1 (by omega) (by omega) lh' ln'
   rcases cY (Ep g hs ns=0)with h1|h1
   ·rw[if_pos (of_eq_true h1)]
    simp only[pY];simp(disch:=omega)only[aB,↓aa,seval,-List.reduceReplicate,reduceCtorEq,ae,hlt,hx,bB,aQ,GV,hg,h1,adL,b7]
   ·rw[if_neg (of_eq_false h1)]
    simp only[pY];simp(disch:=omega)only[aB,↓aa,seval,-List.reduceReplicate,reduceCtorEq,ae,hlt,hx,bB,aQ,GV,hg,h1,adL,b7]) (fun i s=>rfl) () trivial
 rw[Tu]at hL;rcases cY (zQ hs ns r.guards=0)with c0|c0
 ·have c0':=of_eq_true c0
  rw[if_pos c0']at hL;obtain⟨_,hL⟩:=hL;have h':al P uR (adL hs ns r.guards 0) [] 27 none=_:=hL;simp only[adL]at h';rw[c0']
  (rw[GX (aD rfl),pw];simp(disch:=omega)only[aB,↓aa,seval,-List.reduceReplicate,reduceCtorEq,ae,bj,aK,BT,yU,kh,Bm,kn,aR,Ez,h',pY,lH])
 ·have c0':=of_eq_false c0
  rw[if_neg c0']at hL;obtain⟨⟨e',τ',σ',nt',rd'⟩,k1,k2,k3,k4⟩:=hL
  simp only at k2 k3 k4
  subst k2;have h':al P uR (adL hs ns r.guards 0) [] 27 none=some (.ret,⟨τ',σ',nt',rd'⟩):=k1;simp only[adL]at h'
  (rw[GX (aD rfl),pw];simp(disch:=omega)only[aB,↓aa,seval,-List.reduceReplicate,reduceCtorEq,ae,bj,aK,BT,yU,kh,Bm,kn,aR,Ez,h',k3])
theorem SV(e:Int):R P iq [.bool true,.int .i64 e]=some (.int .i64 e):=MB true e
theorem SU(e:Int):R P iq [.bool false,.int .i64 e]=some (.int .i64 0):=MB false e
def t1(r:du):Int:=if jr r.name=true then 0 else 5
def t2(r:du):Int:=if r.left.length=0∨4<r.left.length∨8<r.guards.length then 7 else 0
def t6(r:du):Int:=if MM (fP r) (k9 r) r.right=true then 0 else 12
def t7(r:du):Int:=if r.right.w=(match r.left with | []=>0|a::_=>a.pat.w)then 0 else 3
theorem awx(r:du):R P gJ [.ptr r.row 0]=some (.int .i64 (t1 r)):=by
 have h1:=kH r.name;unfold t1;cases hn:jr r.name with
 |true=>rw[hn]at h1;(rw[Fv (aD rfl),nu];simp(disch:=omega)only[aB,↓aa,seval,-List.reduceReplicate,reduceCtorEq,ae,SQ,iv,h1,kG,SV,SU])
 |false=>rw[hn]at h1;(rw[Fv (aD rfl),nu];simp(disch:=omega)only[aB,↓aa,seval,-List.reduceReplicate,reduceCtorEq,ae,SQ,iv,h1,kG,SV,SU])
theorem awy(r:du):R P fA [.ptr r.row 0]=some (.int .i64 (t2 r)):=by
 unfold t2;by_cases g1:r.left.length=0
 ·have g1':((r.left.length:Int)=0)=True:=by simpa using g1
  rw[if_pos (.inl g1)]
  (rw[vA (aD rfl),ji];simp(disch:=omega)only[aB,↓aa,seval,-List.reduceReplicate,reduceCtorEq,ae,vS,BT,aR,g1',kG,SV,SU])
 have g1':((r.left.length:Int)=0)=False:=by simp;simpa using g1
 by_cases g2:4<r.left.length
 ·have g2':((r.left.length:Int) > 4)=True:=by simp;omega
  rw[if_pos (.inr (.inl g2))]
  (rw[vA (aD rfl),ji];simp(disch:=omega)only[aB,↓aa,seval,-List.reduceReplicate,reduceCtorEq,ae,vS,BT,aR,g1',g2',kG,SV,SU])
 have g2':((r.left.length:Int) > 4)=False:=by simp;omega
 by_cases g3:8<r.guards.length
 ·have g3':((r.guards.length:Int) > 8)=True:=by simp;omega
  rw[if_pos (.inr (.inr g3))]
  (rw[vA (aD rfl),ji];simp(disch:=omega)only[aB,↓aa,seval,-List.reduceReplicate,reduceCtorEq,ae,vS,BT,aR,g1',g2',g3',kG,SV,SU])
 have g3':((r.guards.length:Int) > 8)=False:=by simp;omega
 rw[if_neg (by omega)]
 (rw[vA (aD rfl),ji];simp(disch:=omega)only[aB,↓aa,seval,-List.reduceReplicate,reduceCtorEq,ae,vS,BT,aR,g1',g2',g3',kG,SV,SU])
theorem awz(r:du)(h:gk r):R P gK [.ptr r.row 0]=some (.int .i64 (B6 r.left)):=by
 have hll:=h.ll;have k:=Wc r.left (by omega) (fun a ha=>⟨(h.lt a ha).1,by have:=(h.lt a ha).2;omega⟩)
 (rw[QV (aD rfl),qi];simp(disch:=omega)only[aB,↓aa,seval,-List.reduceReplicate,reduceCtorEq,ae,vS,VP,k])
theorem awA(r:du)(h:gk r):R P gL [.ptr r.row 0]=some (.int .i64 (Hq r.left)):=by
 have hll:=h.ll;have hsl:=T6 r.left;have k:=Wf r.left (by omega) (fun t ht=>by have:=Rh h t ht;omega) (by omega)
 (rw[QW (aD rfl),qj];simp(disch:=omega)only[aB,↓aa,seval,-List.reduceReplicate,reduceCtorEq,ae,vS,VQ,k])
theorem awB(r:du)(h:gk r):R P gM [.ptr r.row 0]=some (.int .i64 (cW r.right true)):=by
 have k:=sx r.right true h.rt.1 (by have:=h.rt.2;omega)
 (rw[QX (aD rfl),qk];simp(disch:=omega)only[aB,↓aa,seval,-List.reduceReplicate,reduceCtorEq,ae,MF,bA,k])
theorem awC(r:du)(h:gk r)(hl:r.left.length≤100):R P gN [.ptr r.row 0]=some (.int .i64 (t6 r)):=by
 have hsc:=y4 h hl;have kh:=JG r (by omega) (by omega)
 have kn:=Mz r (by omega) (by omega)
 have lh:=eZ 24 (eF r.left);have ln:=eZ 25 (eF r.left);have kb:=We (fP r) (k9 r) (by unfold fP;omega) (by unfold k9;omega) r.right (by have:=h.rt.2;omega)
 unfold t6;cases hb:MM (fP r) (k9 r) r.right with
 |true=>rw[hb]at kb;(rw[Fw (aD rfl),nw];simp(disch:=omega)only[aB,↓aa,seval,-List.reduceReplicate,reduceCtorEq,ae,MF,bj,yU,kh,Bm,kn,yV,kb,kG,SV,SU])
 |false=>rw[hb]at kb;(rw[Fw (aD rfl),nw];simp(disch:=omega)only[aB,↓aa,seval,-List.reduceReplicate,reduceCtorEq,ae,MF,bj,yU,kh,Bm,kn,yV,kb,kG,SV,SU])
theorem awD(r:du)(hl:r.left.length≠0):R P gO [.ptr r.row 0]=some (.int .i64 (t7 r)):=by
 cases hr:r.left with
 |nil=>rw[hr]at hl;exact absurd rfl hl
 |cons a l=>
  have hx:=fun σ=>aH (k:=.i64) (es:=6) (σ:=σ) (aw (f:=Atom.row) (l:=a::l) (i:=0) (a:=a) rfl) a.az
  have hx':∀σ,gj σ 6 (.p (.aO (a.row::l.map Atom.row))) (.p (.int .i64 0))=some (.p (.ptr a.row 0)):=hx;have h1:=vS r;rw[hr,rK]at h1;have ht7:t7 r=if r.right.w=a.pat.w then 0 else 3:=by unfold t7;rw[hr]
  rw[ht7];rcases cY (r.right.w=a.pat.w)with e|e
  ·rw[if_pos (of_eq_true e)]
   (rw[Fx (aD rfl),nx];simp(disch:=omega)only[aB,↓aa,seval,-List.reduceReplicate,reduceCtorEq,ae,u_3,h1,hx',a_w,e,kG,SV,SU])
  ·rw[if_neg (of_eq_false e)]
   (rw[Fx (aD rfl),nx];simp(disch:=omega)only[aB,↓aa,seval,-List.reduceReplicate,reduceCtorEq,ae,u_3,h1,hx',a_w,e,kG,SV,SU])
theorem awE(r:du)(h:gk r)(hl:r.left.length≤100):R P gP [.ptr r.row 0]=some (.int .i64 (zQ (fP r) (k9 r) r.guards)):=by
 have k:=SN r h hl
 (rw[QY (aD rfl),ql];simp(disch:=omega)only[aB,↓aa,seval,-List.reduceReplicate,reduceCtorEq,ae,bj,Su,k])
def CZ:List Int→Int
 | []=>0
 |e::r=>if e=0 then CZ r else e
theorem af1{α:Type}(g:α→Int):∀(l:List α) (i:Nat),aq (S:=Unit) (T:=Int) (fun _ _ a=>if g a=0 then .inl ()else .inr (g a)) i () l=if CZ (l.map g)=0 then .inl ()else .inr (CZ (l.map g))
 | [],i=>rfl
 |a::r,i=>by
  unfold aq;simp only[rK,CZ];by_cases h:g a=0
  ·simp only[h,if_true];exact af1 g r (i+1)
  ·simp only[h,if_false]
def Aw(r:du):List (FuncId×Int):=[(gJ,t1 r),(fA,t2 r),(gK,B6 r.left),(gL,Hq r.left),(gM,cW r.right true),(gN,t6 r),(gO,t7 r),(gP,zQ (fP r) (k9 r) r.guards)]
def x4(r:du):Int:=CZ ((Aw r).map (·.2))
def fnr(r:du)(x:FuncId×Int):List PV:=[.fn x.1 [.ptr r.row 0]]
theorem afs(r:du):∀x∈Aw r,Qp P x.1:=by
 intro x hx;simp only[Aw,pU,ab9,or_false]at hx;rcases hx with rfl|rfl|rfl|rfl|rfl|rfl|rfl|rfl
 ·exact QD
 ·exact QE
 ·exact QF
 ·exact QG
 ·exact QH
 ·exact QI
 ·exact QJ
 ·exact QK
theorem aoI(r:du)(h:gk r)(hl:r.left.length≤100)(i:Nat)(x:FuncId×Int)(hx:(Aw r)[i]?=some x)(hz:∀y∈(Aw r).take i,y.2=0):R P x.1 [.ptr r.row 0]=some (.int .i64 x.2):=by
 match i,hx with
 |0,hx=>cases hx;exact awx r
 |1,hx=>cases hx;exact awy r
 |2,hx=>cases hx;exact awz r h
 |3,hx=>cases hx;exact awA r h
 |4,hx=>cases hx;exact awB r h
 |5,hx=>cases hx;exact awC r h hl
 |6,hx=>
  cases hx;refine awD r fun e=>?_
  have:=hz (fA,t2 r) (by simp[Aw])
  unfold t2 at this;rw[if_pos (.inl e)]at this;cases this
 |7,hx=>cases hx;exact awE r h hl
 |n+8,hx=>simp[Aw]at hx
abbrev Lk(r:du)(i:Int):List (Nat×AV):=[(14,.p (.aO ((Aw r).map (fnr r)))),(15,.p (.int .i64 8)),(16,.p (.int .i64 i))]
theorem F4(r:du):(Aw r).length=8:=rfl
theorem apt{f:FuncId}{q:PV}:iu σ 1 false (.p (.ptr [.fn f [q]] 0))=some (.p (.fn f [q])):=rfl
theorem anA(r:du)(h:gk r)(hl:r.left.length≤100):pP (fun _:Unit=>(∀y∈(Aw r).take 8,y.2=0)∧al P wY (Lk r 0) [] 26 none=back P [14,15,16] mr 0 (exec P mr ⟨tm (Lk r 8),[],26,none⟩)) (fun e:Int=>∃q,al P wY (Lk r 0) [] 26 none=some q∧b7 2 (.int .i64 e) [] q) (if x4 r=0 then .inl ()else .inr (x4 r)):=by
 have hL:=cE (P:=P) (nt:=26) (lv:=[14,15,16]) (b:=mr) (rd:=none) (as:=Aw r) (fun i (_:Unit)=>Lk r i) (fun _=>[]) (fun _ _ x=>if x.2=0 then .inl ()else .inr x.2) (fun e=>b7 2 (.int .i64 e) []) (fun i _=>∀y∈(Aw r).take i,y.2=0)
  (fun i x s hx hi hs=>by
   have hR:=aoI r h hl i x hx hs;have hq:Qp P x.1:=fun {args σ}=>afs r x (mR hx)
   have hlt:((i:Int)<8)=True:=by rw[F4]at hi;simp;omega
   have hxi:=fun σ=>aH (k:=.i64) (es:=1) (σ:=σ) (aw (f:=fnr r) hx) rfl
   rw[F4]at hi;rcases cY (x.2=0)with h1|h1
   ·rw[if_pos (of_eq_true h1)]
    refine⟨fun s' he y hy=>?_,?_⟩
    ·rw[List.take_add_one,hx]at hy
     rcases D6.1 hy with hy|hy
     ·exact hs y hy
     ·have:y=x:=by simpa using hy
      rw[this];exact of_eq_true h1
    ·simp only[mr]
     simp(disch:=omega)only[aB,↓aa,seval,-List.reduceReplicate,reduceCtorEq,ae,hlt,hxi,fnr,apt,NG,hq,hR,h1,Lk,b7]
   ·rw[if_neg (of_eq_false h1)]
    refine⟨fun s' he=>?_,?_⟩
    ·cases he
    ·simp only[mr]
     simp(disch:=omega)only[aB,↓aa,seval,-List.reduceReplicate,reduceCtorEq,ae,hlt,hxi,fnr,apt,NG,hq,hR,h1,Lk,b7]) (fun i s=>rfl) () (by simp)
 rw[af1 (fun x:FuncId×Int=>x.2)]at hL
 exact hL
theorem y3(r:du)(h:gk r)(hl:r.left.length≤100):R P ja [.agg r.row]=some (.int .i64 (x4 r)):=by
 have hL:=anA r h hl;have hbl:Ee [] 1 8 (gR (List.replicate 8 [.p .Aa]).flatten [(0,1,.p (.fn gJ [.ptr r.row 0])),(1,1,.p (.fn fA [.ptr r.row 0])),(2,1,.p (.fn gK [.ptr r.row 0])),(3,1,.p (.fn gL [.ptr r.row 0])),(4,1,.p (.fn gM [.ptr r.row 0])),(5,1,.p (.fn gN [.ptr r.row 0])),(6,1,.p (.fn gO [.ptr r.row 0])),(7,1,.p (.fn gP [.ptr r.row 0]))])=some (.p (.aO ((Aw r).map (fnr r))),[]):=rfl;rcases cY (x4 r=0)with c0|c0
 ·have c0':=of_eq_true c0
  rw[if_pos c0']at hL;obtain⟨_,hL⟩:=hL;simp only[Lk]at hL;rw[c0']
  (rw[Jy (aD rfl),rh];simp(disch:=omega)only[aB,↓aa,seval,-List.reduceReplicate,reduceCtorEq,ae,aK,Gh,hbl,aR,F4,GA,hL,mr,lH])
 ·have c0':=of_eq_false c0
  rw[if_neg c0']at hL;obtain⟨⟨e',τ',σ',nt',rd'⟩,k1,k2,k3,k4⟩:=hL
  simp only at k2 k3 k4
  subst k2;simp only[Lk]at k1
  (rw[Jy (aD rfl),rh];simp(disch:=omega)only[aB,↓aa,seval,-List.reduceReplicate,reduceCtorEq,ae,aK,Gh,hbl,aR,F4,GA,k1,k3])
def acv(t:Term):Bool:=decide (t.op=0∧t.w=0∧t.v=0∧t.name=bs []∧t.args=[])
theorem amp(t:Term):t.beq zT=acv t:=by
 rw[abC,Term.beq_iff];unfold acv;rw[decide_eq_true_eq];cases t with
 |mk o w v n as=>
  show Term.mk o w v n as=Term.mk 0 0 0 (bs []) []↔o=0∧w=0∧v=0∧n=bs []∧as=[];simp
theorem afe(t:Term):R P th [.agg t.row]=some (.bool (acv t)):=by
 unfold acv;rcases cY (t.op=0)with h1|h1
 rotate_left
 ·rw[decide_eq_false (fun h=>of_eq_false h1 h.1)]
  (rw[wP (aD rfl),mC];simp(disch:=omega)only[aB,↓aa,seval,-List.reduceReplicate,reduceCtorEq,ae,h1])
 rcases cY (t.w=0)with h2|h2
 rotate_left
 ·rw[decide_eq_false (fun h=>of_eq_false h2 h.2.1)]
  (rw[wP (aD rfl),mC];simp(disch:=omega)only[aB,↓aa,seval,-List.reduceReplicate,reduceCtorEq,ae,h1,h2])
 rcases cY (t.v=0)with h3|h3
 rotate_left
 ·rw[decide_eq_false (fun h=>of_eq_false h3 h.2.2.1)]
  (rw[wP (aD rfl),mC];simp(disch:=omega)only[aB,↓aa,seval,-List.reduceReplicate,reduceCtorEq,ae,h1,h2,h3])
 rcases cY (t.name=bs [])with h4|h4
 rotate_left
 ·rw[decide_eq_false (fun h=>of_eq_false h4 h.2.2.2.1)]
  (rw[wP (aD rfl),mC];simp(disch:=omega)only[aB,↓aa,seval,-List.reduceReplicate,reduceCtorEq,ae,h1,h2,h3,h4])
 rcases cY (t.args=[])with h5|h5
 ·have h5':((t.args.length:Int)=0)=True:=by rw[of_eq_true h5];simp
  rw[decide_eq_true ⟨of_eq_true h1,of_eq_true h2,of_eq_true h3,of_eq_true h4,of_eq_true h5⟩]
  (rw[wP (aD rfl),mC];simp(disch:=omega)only[aB,↓aa,seval,-List.reduceReplicate,reduceCtorEq,ae,h1,h2,h3,h4,aR,h5'])
 ·have h5':((t.args.length:Int)=0)=False:=by
   have:=of_eq_false h5;simp only[eq_iff_iff,iff_false];intro e;exact this (Lc.1 (by omega))
  rw[decide_eq_false (fun h=>of_eq_false h5 h.2.2.2.2)]
  (rw[wP (aD rfl),mC];simp(disch:=omega)only[aB,↓aa,seval,-List.reduceReplicate,reduceCtorEq,ae,h1,h2,h3,h4,aR,h5'])
theorem C1{α:Type}(q:α→Bool):∀(l:List α) (i:Nat),aq (S:=Unit) (T:=Unit) (fun _ _ a=>if q a=true then .inr ()else .inl ()) i () l=if l.any q=true then .inr ()else .inl ()
 | [],i=>rfl
 |a::l,i=>by
  unfold aq;cases h:q a with
  |true=>simp[h]
  |false=>
   simp only[abt,h,J5,lG,if_false];exact C1 q l (i+1)
theorem aqE(n:ByteArray)(w:Int)(x:V2):Iw ⟨n,w⟩ x=decide (x.name=n∧x.w=w):=by
 unfold Iw
 congr 1
 rw[Wm];simp only[eq_iff_iff];exact⟨fun h=>⟨h.1.symm,h.2.symm⟩,fun h=>⟨h.1.symm,h.2.symm⟩⟩
theorem ass(v:V2):(ay v)[0]?=some (.str v.name):=rfl
theorem ast(v:V2):(ay v)[1]?=some (.int .i64 v.w):=rfl
abbrev XX(l:List V2)(n:ByteArray)(w i:Int):List (Nat×AV):=[(0,.p (.aO (l.map ay))),(1,.p (.str n)),(2,.p (.int .i64 w)),(7,.p (.int .i64 i))]
theorem T5(l:List V2)(n:ByteArray)(w:Int)(hl:l.length≤1000000):R P tJ [.aO (l.map ay),.str n,.int .i64 w]=some (.bool (l.any (Iw ⟨n,w⟩))):=by
 have h:=cE (P:=P) (nt:=30) (lv:=[0,1,2,7]) (b:=vU) (rd:=none) (as:=l) (fun i (_:Unit)=>XX l n w i) (fun _=>[]) (fun _ _ x=>if Iw ⟨n,w⟩ x=true then .inr ()else .inl ()) (fun(_:Unit)=>b7 6 (.bool true) []) (fun _ _=>True)
  (fun i x s hv hi hs=>by
   refine⟨fun _ _=>trivial,?_⟩
   have hlt:((i:Int)<l.length)=True:=by simpa using hi
   have hx:=fun σ=>aH (k:=.i64) (es:=2) (σ:=σ) (aw (f:=ay) hv) (by simp[ay])
   rw[aqE];rcases cY (x.name=n)with h1|h1
   ·rcases cY (x.w=w)with h2|h2
    ·rw[decide_eq_true ⟨of_eq_true h1,of_eq_true h2⟩]
     simp only[vU,if_true];simp(disch:=omega)only[aB,↓aa,seval,-List.reduceReplicate,reduceCtorEq,ae,hlt,hx,aR,ass,ast,h1,h2,XX,b7]
    ·rw[decide_eq_false (fun h=>of_eq_false h2 h.2)]
     simp only[vU,lG,if_false];simp(disch:=omega)only[aB,↓aa,seval,-List.reduceReplicate,reduceCtorEq,ae,hlt,hx,aR,ass,ast,h1,h2,XX,b7]
   ·rw[decide_eq_false (fun h=>of_eq_false h1 h.1)]
    simp only[vU,lG,if_false];simp(disch:=omega)only[aB,↓aa,seval,-List.reduceReplicate,reduceCtorEq,ae,hlt,hx,aR,ass,ast,h1,XX,b7]) (fun i s=>rfl) () trivial
 rw[C1]at h;cases hc:l.any (Iw ⟨n,w⟩)with
 |false=>
  rw[hc]at h;obtain⟨_,h⟩:=h;have h':al P CK (XX l n w 0) [] 30 none=_:=h;simp only[XX]at h'
  (rw[T1 (aD rfl),y7];simp(disch:=omega)only[aB,↓aa,seval,-List.reduceReplicate,reduceCtorEq,ae,aR,PC,h',vU,lH])
 |true=>
  rw[hc]at h;obtain⟨⟨e',τ',σ',nt',rd'⟩,k1,k2,k3,k4⟩:=h
  simp only at k2 k3 k4
  subst k2;have h':al P CK (XX l n w 0) [] 30 none=some (.ret,⟨τ',σ',nt',rd'⟩):=k1;simp only[XX]at h'
  (rw[T1 (aD rfl),y7];simp(disch:=omega)only[aB,↓aa,seval,-List.reduceReplicate,reduceCtorEq,ae,aR,PC,h',k3])
def Oe(hs ns:List V2)(u:Term):Bool:=if u.op=24 then hs.any (Iw ⟨u.name,u.w⟩)else if u.op=25 then ns.any (Iw ⟨u.name,u.w⟩)else true
def RE(hs ns:List V2)(p:Term):Bool:=p.pre.all (Oe hs ns)
abbrev Sc(hs ns:List V2)(T:List Term)(i:Int):List (Nat×AV):=[(1,.p (.aO (hs.map ay))),(2,.p (.aO (ns.map ay))),(7,.p (.aO (T.map Term.row))),(8,.p (.int .i64 i))]
theorem Pm{α:Type}(q:α→Bool):∀(l:List α) (i:Nat),aq (S:=Unit) (T:=Unit) (fun _ _ a=>if q a=true then .inl ()else .inr ()) i () l=if l.all q=true then .inl ()else .inr ()
 | [],i=>rfl
 |a::l,i=>by
  unfold aq;cases h:q a with
  |true=>
   simp only[Uj,h,Uk,if_true];exact Pm q l (i+1)
  |false=>simp[h]
theorem uc(p:Term)(hs ns:List V2)(hh:hs.length≤1000000)(hn:ns.length≤1000000)(hc:p.count≤1000000):R P fh [.agg p.row,.aO (hs.map ay),.aO (ns.map ay)]=some (.bool (RE hs ns p)):=by
 have hp:=qZ p hc;have hpl:=Term.nc p;unfold RE;generalize p.pre=T at *
 have h:=cE (P:=P) (nt:=61) (lv:=[1,2,7,8]) (b:=lO) (rd:=none) (as:=T) (fun i (_:Unit)=>Sc hs ns T i) (fun _=>[]) (fun _ _ u=>if Oe hs ns u=true then .inl ()else .inr ()) (fun(_:Unit)=>b7 6 (.bool false) []) (fun _ _=>True)
  (fun i u s hu hi _=>by
   refine⟨fun _ _=>trivial,?_⟩
   have hlt:((i:Int)<T.length)=True:=by simpa using hi
   have hx:=fun σ=>aH (k:=.i64) (es:=5) (σ:=σ) (aw (f:=Term.row) hu) u.az
   have kh:=T5 hs u.name u.w hh;have kn:=T5 ns u.name u.w hn;unfold Oe;rcases cY (u.op=24)with h1|h1
   ·rw[if_pos (of_eq_true h1)]
    have h2:(u.op=25)=False:=by rw[of_eq_true h1];simp
    cases hd:hs.any (Iw ⟨u.name,u.w⟩)with
    |true=>
     rw[hd]at kh;simp only[lO,if_true];simp(disch:=omega)only[aB,↓aa,seval,-List.reduceReplicate,reduceCtorEq,ae,hlt,hx,aR,h1,h2,FY,kh,Sc,b7]
    |false=>
     rw[hd]at kh;simp only[lO,lG,if_false];simp(disch:=omega)only[aB,↓aa,seval,-List.reduceReplicate,reduceCtorEq,ae,hlt,hx,aR,h1,h2,FY,kh,Sc,b7]
   ·rw[if_neg (of_eq_false h1)]
    rcases cY (u.op=25)with h2|h2
    ·rw[if_pos (of_eq_true h2)]
     cases hd:ns.any (Iw ⟨u.name,u.w⟩)with
     |true=>
      rw[hd]at kn;simp only[lO,if_true];simp(disch:=omega)only[aB,↓aa,seval,-List.reduceReplicate,reduceCtorEq,ae,hlt,hx,aR,h1,h2,FY,kn,Sc,b7]
     |false=>
      rw[hd]at kn;simp only[lO,lG,if_false];simp(disch:=omega)only[aB,↓aa,seval,-List.reduceReplicate,reduceCtorEq,ae,hlt,hx,aR,h1,h2,FY,kn,Sc,b7]
    ·rw[if_neg (of_eq_false h2)]
     simp only[lO,if_true];simp(disch:=omega)only[aB,↓aa,seval,-List.reduceReplicate,reduceCtorEq,ae,hlt,hx,aR,h1,h2,Sc,b7]) (fun i s=>rfl) () trivial
 rw[Pm]at h;cases hd:T.all (Oe hs ns)with
 |true=>
  rw[hd]at h;obtain⟨_,h⟩:=h;have h':al P yJ (Sc hs ns T 0) [] 61 none=_:=h;simp only[Sc]at h'
  (rw[Mq (aD rfl),tx];simp(disch:=omega)only[aB,↓aa,seval,-List.reduceReplicate,reduceCtorEq,ae,eE,hp,aR,ID,h',lO,lH])
 |false=>
  rw[hd]at h;obtain⟨⟨e',τ',σ',nt',rd'⟩,k1,k2,k3,k4⟩:=h
  simp only at k2 k3 k4
  subst k2;have h':al P yJ (Sc hs ns T 0) [] 61 none=some (.ret,⟨τ',σ',nt',rd'⟩):=k1;simp only[Sc]at h'
  (rw[Mq (aD rfl),tx];simp(disch:=omega)only[aB,↓aa,seval,-List.reduceReplicate,reduceCtorEq,ae,eE,hp,aR,ID,h',k3])
def Pv(g:Gd)(hs ns:List V2):Bool:=RE (if g.kind=1 then[]else hs) ns g.a && (decide (g.kind=1) ||RE (if g.kind=3∨g.kind=4 then[]else hs) ns g.b)
def M8(g:Gd)(hs ns:List V2):Int :=
 if Io g=false then 1
 else if ¬cW g.a false=0 then cW g.a false
 else if ¬g.kind=1∧¬cW g.b false=0 then cW g.b false
 else if Pv g hs ns=false then 12
 else if ¬g.a.w=(if g.kind=1 then 1 else g.b.w)then 3 else 0
theorem ZK(g:Gd)(hs ns:List V2)(ha:iD g.a)(hb:iD g.b)(ca:g.a.count≤400000)(cb:g.b.count≤400000)(hh:hs.length≤1000000)(hn:ns.length≤1000000):R P qJ [.agg g.row,.aO (hs.map ay),.aO (ns.map ay)]=some (.int .i64 (M8 g hs ns)):=by
 have kz:=afe g.b;have k1:=Bu g.a false ha (by omega)
 have k2:=Bu g.b false hb (by omega)
 have wa:=uc g.a hs ns hh hn (by omega)
 have wb:=uc g.b hs ns hh hn (by omega)
 have wa0:=uc g.a [] ns (by simp) hn (by omega)
 have wb0:=uc g.b [] ns (by simp) hn (by omega)
 simp only[B0]at wa0 wb0;unfold M8 Io;rw[amp];rcases cY (g.kind=1)with e1|e1
 ·have e1':=of_eq_true e1
  have n3:(g.kind=3)=False:=by rw[e1'];simp
  have n4:(g.kind=4)=False:=by rw[e1'];simp
  have n2:(g.kind=2)=False:=by rw[e1'];simp
  have lo:(g.kind<1)=False:=by rw[e1'];simp
  have hi:(g.kind > 4)=False:=by rw[e1'];simp
  rw[if_pos e1'];cases hz:acv g.b with
  |false=>
   rw[hz]at kz;simp only[if_true]
   (rw[bY (aD rfl),bC];simp(disch:=omega)only[aB,↓aa,seval,-List.reduceReplicate,reduceCtorEq,ae,bB,aQ,qP,HM,zP,BS,uk,um,n3,n4,n2,e1,lo,hi,Ai,kz])
  |true=>
  rw[hz]at kz;simp only[N4,if_false];rcases cY (cW g.a false=0)with h1|h1
  rotate_left
  ·rw[if_pos (of_eq_false h1)]
   (rw[bY (aD rfl),bC];simp(disch:=omega)only[aB,↓aa,seval,-List.reduceReplicate,reduceCtorEq,ae,bB,aQ,qP,HM,zP,BS,uk,um,n3,n4,n2,e1,lo,hi,Ai,kz,bE,k1,h1])
  rw[if_neg (not_not_intro (of_eq_true h1))];unfold Pv;simp only[e1',not_true,false_and,if_false,if_true,decide_true,Ul,abX];cases hw:RE [] ns g.a with
  |false=>
   rw[hw]at wa0;simp only[if_true]
   (rw[bY (aD rfl),bC];simp(disch:=omega)only[aB,↓aa,seval,-List.reduceReplicate,reduceCtorEq,ae,bB,aQ,qP,HM,zP,BS,uk,um,n3,n4,n2,e1,lo,hi,Ai,kz,bE,k1,h1,cR,wa0])
  |true=>
   rw[hw]at wa0;rcases cY (g.a.w=1)with w1|w1
   ·simp only[N4,if_false,of_eq_true w1,not_true]
    (rw[bY (aD rfl),bC];simp(disch:=omega)only[aB,↓aa,seval,-List.reduceReplicate,reduceCtorEq,ae,bB,aQ,qP,HM,zP,BS,uk,um,n3,n4,n2,e1,lo,hi,Ai,kz,bE,k1,h1,cR,wa0,w1])
   ·simp only[N4,if_false,of_eq_false w1,not_false_eq_true,if_true]
    (rw[bY (aD rfl),bC];simp(disch:=omega)only[aB,↓aa,seval,-List.reduceReplicate,reduceCtorEq,ae,bB,aQ,qP,HM,zP,BS,uk,um,n3,n4,n2,e1,lo,hi,Ai,kz,bE,k1,h1,cR,wa0,w1])
 have e1':=of_eq_false e1;rw[if_neg e1'];have rest:∀(hs':List V2) (wb':R P fh [.agg g.b.row,.aO (hs'.map ay),.aO (ns.map ay)]=some (.bool (RE hs' ns g.b))),True:=fun _ _=>trivial
 rcases cY (g.kind=3)with n3|n3
 ·have n3':=of_eq_true n3
  have n4:(g.kind=4)=False:=by rw[n3'];simp
  have n2:(g.kind=2)=False:=by rw[n3'];simp
  have lo:(g.kind<1)=False:=by rw[n3'];simp
  have hi:(g.kind > 4)=False:=by rw[n3'];simp
  rw[if_pos (show g.kind=3∨g.kind=4 from Or.inl n3')];rcases cY (g.a.op=24)with o1|o1
  rotate_left
  ·rw[decide_eq_false (of_eq_false o1)]
   simp only[if_true]
   (rw[bY (aD rfl),bC];simp(disch:=omega)only[aB,↓aa,seval,-List.reduceReplicate,reduceCtorEq,ae,bB,aQ,qP,HM,zP,BS,uk,um,n3,n4,n2,e1,lo,hi,o1])
  rw[decide_eq_true (of_eq_true o1)];simp only[N4,if_false];rcases cY (cW g.a false=0)with h1|h1
  rotate_left
  ·rw[if_pos (of_eq_false h1)]
   (rw[bY (aD rfl),bC];simp(disch:=omega)only[aB,↓aa,seval,-List.reduceReplicate,reduceCtorEq,ae,bB,aQ,qP,HM,zP,BS,uk,um,n3,n4,n2,e1,lo,hi,o1,bE,k1,h1])
  rw[if_neg (not_not_intro (of_eq_true h1))];rcases cY (cW g.b false=0)with h2|h2
  rotate_left
  ·rw[if_pos ⟨e1',of_eq_false h2⟩]
   (rw[bY (aD rfl),bC];simp(disch:=omega)only[aB,↓aa,seval,-List.reduceReplicate,reduceCtorEq,ae,bB,aQ,qP,HM,zP,BS,uk,um,n3,n4,n2,e1,lo,hi,o1,bE,k1,k2,h1,h2])
  rw[if_neg (fun h=>h.2 (of_eq_true h2))]
  unfold Pv;rw[if_neg e1',if_pos (show g.kind=3∨g.kind=4 from Or.inl n3'),decide_eq_false e1',J5,if_neg e1'];cases hw:RE hs ns g.a with
  |false=>
   rw[hw]at wa;simp only[BR,if_true]
   (rw[bY (aD rfl),bC];simp(disch:=omega)only[aB,↓aa,seval,-List.reduceReplicate,reduceCtorEq,ae,bB,aQ,qP,HM,zP,BS,uk,um,n3,n4,n2,e1,lo,hi,o1,bE,k1,k2,h1,h2,cR,wa])
  |true=>
  rw[hw]at wa;cases hw2:RE [] ns g.b with
  |false=>
   rw[hw2]at wb0;simp only[Wy,if_true]
   (rw[bY (aD rfl),bC];simp(disch:=omega)only[aB,↓aa,seval,-List.reduceReplicate,reduceCtorEq,ae,bB,aQ,qP,HM,zP,BS,uk,um,n3,n4,n2,e1,lo,hi,o1,bE,k1,k2,h1,h2,cR,wa,wb0])
  |true=>
   rw[hw2]at wb0;simp only[RA,N4,if_false];rcases cY (g.a.w=g.b.w)with w1|w1
   ·rw[if_neg (not_not_intro (of_eq_true w1))]
    (rw[bY (aD rfl),bC];simp(disch:=omega)only[aB,↓aa,seval,-List.reduceReplicate,reduceCtorEq,ae,bB,aQ,qP,HM,zP,BS,uk,um,n3,n4,n2,e1,lo,hi,o1,bE,k1,k2,h1,h2,cR,wa,wb0,w1])
   ·rw[if_pos (of_eq_false w1)]
    (rw[bY (aD rfl),bC];simp(disch:=omega)only[aB,↓aa,seval,-List.reduceReplicate,reduceCtorEq,ae,bB,aQ,qP,HM,zP,BS,uk,um,n3,n4,n2,e1,lo,hi,o1,bE,k1,k2,h1,h2,cR,wa,wb0,w1])
 rcases cY (g.kind=4)with n4|n4
 ·have n4':=of_eq_true n4
  have n2:(g.kind=2)=False:=by rw[n4'];simp
  have lo:(g.kind<1)=False:=by rw[n4'];simp
  have hi:(g.kind > 4)=False:=by rw[n4'];simp
  rw[if_pos (show g.kind=3∨g.kind=4 from Or.inr n4')];rcases cY (g.a.op=24)with o1|o1
  rotate_left
  ·rw[decide_eq_false (of_eq_false o1)]
   simp only[if_true]
   (rw[bY (aD rfl),bC];simp(disch:=omega)only[aB,↓aa,seval,-List.reduceReplicate,reduceCtorEq,ae,bB,aQ,qP,HM,zP,BS,uk,um,n3,n4,n2,e1,lo,hi,o1])
  rw[decide_eq_true (of_eq_true o1)];simp only[N4,if_false];rcases cY (cW g.a false=0)with h1|h1
  rotate_left
  ·rw[if_pos (of_eq_false h1)]
   (rw[bY (aD rfl),bC];simp(disch:=omega)only[aB,↓aa,seval,-List.reduceReplicate,reduceCtorEq,ae,bB,aQ,qP,HM,zP,BS,uk,um,n3,n4,n2,e1,lo,hi,o1,bE,k1,h1])
  rw[if_neg (not_not_intro (of_eq_true h1))];rcases cY (cW g.b false=0)with h2|h2
  rotate_left
  ·rw[if_pos ⟨e1',of_eq_false h2⟩]
   (rw[bY (aD rfl),bC];simp(disch:=omega)only[aB,↓aa,seval,-List.reduceReplicate,reduceCtorEq,ae,bB,aQ,qP,HM,zP,BS,uk,um,n3,n4,n2,e1,lo,hi,o1,bE,k1,k2,h1,h2])
  rw[if_neg (fun h=>h.2 (of_eq_true h2))]
  unfold Pv;rw[if_neg e1',if_pos (show g.kind=3∨g.kind=4 from Or.inr n4'),decide_eq_false e1',J5,if_neg e1'];cases hw:RE hs ns g.a with
  |false=>
   rw[hw]at wa;simp only[BR,if_true]
   (rw[bY (aD rfl),bC];simp(disch:=omega)only[aB,↓aa,seval,-List.reduceReplicate,reduceCtorEq,ae,bB,aQ,qP,HM,zP,BS,uk,um,n3,n4,n2,e1,lo,hi,o1,bE,k1,k2,h1,h2,cR,wa])
  |true=>
  rw[hw]at wa;cases hw2:RE [] ns g.b with
  |false=>
   rw[hw2]at wb0;simp only[Wy,if_true]
   (rw[bY (aD rfl),bC];simp(disch:=omega)only[aB,↓aa,seval,-List.reduceReplicate,reduceCtorEq,ae,bB,aQ,qP,HM,zP,BS,uk,um,n3,n4,n2,e1,lo,hi,o1,bE,k1,k2,h1,h2,cR,wa,wb0])
  |true=>
   rw[hw2]at wb0;simp only[RA,N4,if_false];rcases cY (g.a.w=g.b.w)with w1|w1
   ·rw[if_neg (not_not_intro (of_eq_true w1))]
    (rw[bY (aD rfl),bC];simp(disch:=omega)only[aB,↓aa,seval,-List.reduceReplicate,reduceCtorEq,ae,bB,aQ,qP,HM,zP,BS,uk,um,n3,n4,n2,e1,lo,hi,o1,bE,k1,k2,h1,h2,cR,wa,wb0,w1])
   ·rw[if_pos (of_eq_false w1)]
    (rw[bY (aD rfl),bC];simp(disch:=omega)only[aB,↓aa,seval,-List.reduceReplicate,reduceCtorEq,ae,bB,aQ,qP,HM,zP,BS,uk,um,n3,n4,n2,e1,lo,hi,o1,bE,k1,k2,h1,h2,cR,wa,wb0,w1])
 have hno:¬(g.kind=3∨g.kind=4):=by rintro(h|h);exact of_eq_false n3 h;exact of_eq_false n4 h
 rw[if_neg hno];rcases cY (g.kind=2)with n2|n2
 rotate_left
 ·rw[decide_eq_false (of_eq_false n2)]
  simp only[if_true];have hout:g.kind<1∨g.kind > 4:=by have a1:=of_eq_false n2;have a3:=of_eq_false n3;have a4:=of_eq_false n4;omega
  by_cases lo:g.kind<1
  ·have lo':=eq_true lo
   (rw[bY (aD rfl),bC];simp(disch:=omega)only[aB,↓aa,seval,-List.reduceReplicate,reduceCtorEq,ae,bB,aQ,qP,HM,zP,BS,uk,um,n3,n4,n2,e1,lo'])
  ·have lo':=eq_false lo
   have hi':(g.kind > 4)=True:=eq_true (hout.resolve_left lo)
   (rw[bY (aD rfl),bC];simp(disch:=omega)only[aB,↓aa,seval,-List.reduceReplicate,reduceCtorEq,ae,bB,aQ,qP,HM,zP,BS,uk,um,n3,n4,n2,e1,lo',hi'])
 have n2':=of_eq_true n2;have lo:(g.kind<1)=False:=by rw[n2'];simp
 have hi:(g.kind > 4)=False:=by rw[n2'];simp
 rw[decide_eq_true n2'];simp only[N4,if_false];rcases cY (cW g.a false=0)with h1|h1
 rotate_left
 ·rw[if_pos (of_eq_false h1)]
  (rw[bY (aD rfl),bC];simp(disch:=omega)only[aB,↓aa,seval,-List.reduceReplicate,reduceCtorEq,ae,bB,aQ,qP,HM,zP,BS,uk,um,n3,n4,n2,e1,lo,hi,bE,k1,h1])
 rw[if_neg (not_not_intro (of_eq_true h1))];rcases cY (cW g.b false=0)with h2|h2
 rotate_left
 ·rw[if_pos ⟨e1',of_eq_false h2⟩]
  (rw[bY (aD rfl),bC];simp(disch:=omega)only[aB,↓aa,seval,-List.reduceReplicate,reduceCtorEq,ae,bB,aQ,qP,HM,zP,BS,uk,um,n3,n4,n2,e1,lo,hi,bE,k1,k2,h1,h2])
 rw[if_neg (fun h=>h.2 (of_eq_true h2))]
 unfold Pv;rw[if_neg e1',if_neg hno,decide_eq_false e1',J5,if_neg e1'];cases hw:RE hs ns g.a with
 |false=>
  rw[hw]at wa;simp only[BR,if_true]
  (rw[bY (aD rfl),bC];simp(disch:=omega)only[aB,↓aa,seval,-List.reduceReplicate,reduceCtorEq,ae,bB,aQ,qP,HM,zP,BS,uk,um,n3,n4,n2,e1,lo,hi,bE,k1,k2,h1,h2,cR,wa])
 |true=>
 rw[hw]at wa;cases hw2:RE hs ns g.b with
 |false=>
  rw[hw2]at wb;simp only[Wy,if_true]
  (rw[bY (aD rfl),bC];simp(disch:=omega)only[aB,↓aa,seval,-List.reduceReplicate,reduceCtorEq,ae,bB,aQ,qP,HM,zP,BS,uk,um,n3,n4,n2,e1,lo,hi,bE,k1,k2,h1,h2,cR,wa,wb])
 |true=>
  rw[hw2]at wb;simp only[RA,N4,if_false];rcases cY (g.a.w=g.b.w)with w1|w1
  ·rw[if_neg (not_not_intro (of_eq_true w1))]
   (rw[bY (aD rfl),bC];simp(disch:=omega)only[aB,↓aa,seval,-List.reduceReplicate,reduceCtorEq,ae,bB,aQ,qP,HM,zP,BS,uk,um,n3,n4,n2,e1,lo,hi,bE,k1,k2,h1,h2,cR,wa,wb,w1])
  ·rw[if_pos (of_eq_false w1)]
   (rw[bY (aD rfl),bC];simp(disch:=omega)only[aB,↓aa,seval,-List.reduceReplicate,reduceCtorEq,ae,bB,aQ,qP,HM,zP,BS,uk,um,n3,n4,n2,e1,lo,hi,bE,k1,k2,h1,h2,cR,wa,wb,w1])
theorem HG(a:Atom):R P oM [.agg a.row]=some (.agg (ub a).row):=by
 (rw[aeS (aD rfl),zB];simp(disch:=omega)only[aB,↓aa,seval,-List.reduceReplicate,reduceCtorEq,ae,iJ,eQ,fN,a_w])
 rfl
abbrev HO(s:List Term):ah:=[.pv 5 (s.map Term.row) false]
theorem RL(s:List Term)(t:Term)(hs:s.length≤1000000000){r:ah}:AS (.pv 5 (s.map Term.row) false::r) 5 64 (.sl 0 s.length) (some (.inl [t.row]))=some (.sl 0 (s.length+1),.pv 5 ((s++[t]).map Term.row) false::r):=by
 rw[dP (σ:=.pv 5 (s.map Term.row) false::r) (b:=0) (n:=s.length) (e:=5) (rows:=s.map Term.row) rfl (by simp) (.inl rfl) (by simp only[lZ,nz];omega)]
 simp only[CR,rK,B0,abf,lZ,nz,vL]
theorem ap7{z:List AV}:lr [] 5 0 (gR (List.replicate 0 z).flatten [])=some (.sl 0 0,[.pv 5 [] false]):=rfl
theorem av1{l:List Term}{n:Nat}{c:Bool}:(if c=true then HO l else bL (HO l) (refs (HO l) 12 (.sl 0 n)))=[Obj.pv 5 (l.map Term.row) (!c)]:=by cases c<;>rfl
theorem atu{l:List Term}{n:Nat}{c f:Bool}:(if c=true then[Obj.pv 5 (l.map Term.row) f]else bL [Obj.pv 5 (l.map Term.row) f] (refs [Obj.pv 5 (l.map Term.row) f] 12 (.sl 0 n)))=[Obj.pv 5 (l.map Term.row) (f || !c)]:=by cases c<;>cases f<;>rfl
theorem atv{l:List Term}{c f:Bool}:(if c=true then[Obj.pv 5 (l.map Term.row) f]else dM [Obj.pv 5 (l.map Term.row) f] 0)=[Obj.pv 5 (l.map Term.row) (f || !c)]:=by cases c<;>cases f<;>rfl
theorem auJ{l:List Term}{f:Bool}:aG [Obj.pv 5 (l.map Term.row) f] 12 (.sl 0 l.length)=some (.aO (l.map Term.row)):=by simp[aG]
abbrev ajw(r:du)(s:List Term)(i:Int):List (Nat×AV):=[(1,.p (.ptr r.row 0)),(4,.sl 0 s.length),(5,.p (.int .i64 i))]
theorem My(r:du)(hl:r.left.length≤1000000)(hc:Term.counts (eF r.left)≤500000):R P nZ [.agg r.row]=some (.jY [.aO ((fP r).map ay),.aO ((k9 r).map ay)]):=by
 obtain⟨_,h⟩:=fY (P:=P) (nt:=43) (lv:=[1,4,5]) (b:=uv) (rd:=none) (as:=r.left) (fun i (s:List Term)=>ajw r s i) HO (fun i s a=>s++CE a) (fun i s=>s.length≤2*i)
  (fun i a s ha hi hs=>by
   have h2:=K3 a;refine⟨by rw[jS];omega,?_⟩
   have hlt:((i:Int)<r.left.length)=True:=by simpa using hi
   have hx:=fun σ=>aH (k:=.i64) (es:=6) (σ:=σ) (aw (f:=Atom.row) ha) a.az
   have hr:=HG a;unfold CE;rcases cY (a.root=bs [])with h1|h1
   ·have h1':=of_eq_true h1
    have a1:=fun r=>RL (r:=r) s a.pat (by omega)
    rw[if_pos h1',y8];simp only[uv];simp(disch:=omega)only[aB,↓aa,seval,-List.reduceReplicate,reduceCtorEq,ae,hlt,vS,aR,hx,iJ,eQ,fN,lY,h1,fJ,ug,a1,ajw,jS]
    try rfl
   ·have h1':=of_eq_false h1
    have a1:=fun r=>RL (r:=r) s (ub a) (by omega)
    have a2:=fun r=>RL (r:=r) (s++[ub a]) a.pat (by simp;omega)
    rw[if_neg h1',←Ui];simp only[jS,lZ,nz,vL]at a2;simp only[uv];simp(disch:=omega)only[aB,↓aa,seval,-List.reduceReplicate,reduceCtorEq,ae,hlt,vS,aR,hx,iJ,eQ,fN,lY,h1,Hz,hr,fJ,ug,a1,a2,ajw,jS]
    try rfl) (fun i s=>rfl) [] (by simp) _ (rz CE r.left 0 [])
 rw[y8]at h;have h':al P CJ (ajw r [] 0) [.pv 5 [] false] 43 none=_:=h;simp only[ajw,nz]at h';have k1:=Dl 24 (eF r.left) hc;have k2:=Dl 25 (eF r.left) hc;unfold fP k9;have hd:r.left.flatMap CE=eF r.left:=rfl;rw[hd]at h'
 (rw[Zh (aD rfl),xF];simp(disch:=omega)only[aB,↓aa,seval,-List.reduceReplicate,reduceCtorEq,ae,aK,vS,ap7,Vo,h',uv,lH,aR,Hw,k1,k2,av1,atu,atv,auJ])
def Db(u:Term):List Term:=if isVar u=true then[u]else[]
def mtA(a:Atom):List Term:=(if a.root=bs []then[]else[ub a])++a.pat.pre.flatMap Db
def EI(l:List Atom):List Term:=l.flatMap mtA
abbrev Lj(r:du)(s T:List Term)(i k:Int):List (Nat×AV):=[(1,.p (.ptr r.row 0)),(3,.sl 0 s.length),(4,.p (.int .i64 i)),(5,.p (.aO (T.map Term.row))),(6,.p (.int .i64 k))]
theorem apr(r:du)(T s0:List Term)(i:Nat)(hT:T.length≤1000000)(h0:s0.length≤100000000):al P wc (Lj r s0 T i 0) (HO s0) 66 none=back P [1,3,4,5,6] eO 1 (exec P eO ⟨tm (Lj r (s0++T.flatMap Db) T i T.length),HO (s0++T.flatMap Db),66,none⟩):=by
 obtain⟨_,h⟩:=fY (P:=P) (nt:=66) (lv:=[1,3,4,5,6]) (b:=eO) (rd:=none) (as:=T) (fun k (s:List Term)=>Lj r s T i k) HO (fun _ s u=>s++Db u) (fun k s=>s.length≤s0.length+k)
  (fun k u s hu hk hs=>by
   have hlt:((k:Int)<T.length)=True:=by simpa using hk
   have hx:=fun σ=>aH (k:=.i64) (es:=5) (σ:=σ) (aw (f:=Term.row) hu) u.az
   have a1:=fun r=>RL (r:=r) s u (by omega)
   unfold Db isVar;rcases cY (u.op=24)with h1|h1
   ·have e:(decide (u.op=24∨u.op=25)=true):=decide_eq_true (.inl (of_eq_true h1))
    rw[if_pos e];refine⟨by rw[jS];simp only[lZ,nz];omega,?_⟩
    simp only[eO];simp(disch:=omega)only[aB,↓aa,seval,-List.reduceReplicate,reduceCtorEq,ae,hlt,aR,hx,h1,fJ,ug,a1,Lj,jS]
    try rfl
   ·rcases cY (u.op=25)with h2|h2
    ·have e:(decide (u.op=24∨u.op=25)=true):=decide_eq_true (.inr (of_eq_true h2))
     rw[if_pos e];refine⟨by rw[jS];simp only[lZ,nz];omega,?_⟩
     simp only[eO];simp(disch:=omega)only[aB,↓aa,seval,-List.reduceReplicate,reduceCtorEq,ae,hlt,aR,hx,h1,h2,fJ,ug,a1,Lj,jS]
     try rfl
    ·have e:¬(decide (u.op=24∨u.op=25)=true):=by
      rw[decide_eq_true_eq]
      rintro(h|h)
      ·exact of_eq_false h1 h
      ·exact of_eq_false h2 h
     rw[if_neg e,abg];refine⟨by omega,?_⟩
     simp only[eO];simp(disch:=omega)only[aB,↓aa,seval,-List.reduceReplicate,reduceCtorEq,ae,hlt,aR,hx,h1,h2,Lj]
     try rfl) (fun i s=>rfl) s0 (by omega) _ (rz Db T 0 s0)
 exact h
theorem akX(u:Term):(Db u).length≤1:=by unfold Db;split<;>simp
theorem A3{α β:Type}(f:α→List β)(k:Nat):∀l:List α,(∀a∈l,(f a).length≤k)→(l.flatMap f).length≤l.length*k
 | [],_=>by simp
 |a::l,h=>by
  have h1:=A3 f k l (fun x hx=>h x (by simp[hx]))
  have h2:=h a (by simp)
  simp only[aa4,jS,lZ,acg];omega
theorem agj(a:Atom):(mtA a).length≤1+a.pat.count:=by
 have h:=A3 Db 1 a.pat.pre (fun u _=>akX u)
 rw[Term.nc]at h;unfold mtA;rw[jS];split
 ·simp only[nz];omega
 ·simp only[lZ,nz];omega
abbrev XU(r:du)(s:List Term)(i:Int):List (Nat×AV):=[(1,.p (.ptr r.row 0)),(3,.sl 0 s.length),(4,.p (.int .i64 i))]
theorem Nz(r:du)(h:gk r):R P jI [.agg r.row]=some (.aO ((EI r.left).map Term.row)):=by
 have hll:=h.ll
 obtain⟨_,hL⟩:=fY (P:=P) (nt:=66) (lv:=[1,3,4]) (b:=ng) (rd:=none) (as:=r.left) (fun i (s:List Term)=>XU r s i) HO (fun i s a=>s++mtA a) (fun i s=>s.length≤401*i)
  (fun i a s ha hi hs=>by
   have hat:=h.lt a (mR ha);have h2:=agj a;refine⟨by rw[jS];omega,?_⟩
   have hlt:((i:Int)<r.left.length)=True:=by simpa using hi
   have hx:=fun σ=>aH (k:=.i64) (es:=6) (σ:=σ) (aw (f:=Atom.row) ha) a.az
   have hr:=HG a;have hp:=qZ a.pat (by omega)
   have hpl:=Term.nc a.pat;unfold mtA;rcases cY (a.root=bs [])with h1|h1
   ·have h1':=of_eq_true h1
    have h3:=apr r a.pat.pre s i (by omega) (by omega)
    simp only[Lj,HO]at h3;rw[if_pos h1',y8];simp only[ng];simp(disch:=omega)only[aB,↓aa,seval,-List.reduceReplicate,reduceCtorEq,ae,hlt,vS,aR,hx,iJ,eQ,fN,lY,h1,eE,hp,Ce,h3,eO,lH,XU]
    try rfl
   ·have h1':=of_eq_false h1
    have a1:=fun r=>RL (r:=r) s (ub a) (by omega)
    have h3:=apr r a.pat.pre (s++[ub a]) i (by omega) (by simp;omega)
    simp only[Lj,HO,jS,lZ,nz,vL]at h3;rw[if_neg h1',←Ui];simp only[ng];simp(disch:=omega)only[aB,↓aa,seval,-List.reduceReplicate,reduceCtorEq,ae,hlt,vS,aR,hx,iJ,eQ,fN,lY,h1,Hz,hr,fJ,ug,a1,eE,hp,Ce,h3,eO,lH,XU,jS]
    try rfl) (fun i s=>rfl) [] (by simp) _ (rz mtA r.left 0 [])
 rw[y8]at hL;have h':al P v7 (XU r [] 0) [.pv 5 [] false] 66 none=_:=hL;have hd:r.left.flatMap mtA=EI r.left:=rfl;rw[hd]at h';simp only[XU,nz]at h'
 (rw[Ns (aD rfl),oY];simp(disch:=omega)only[aB,↓aa,seval,-List.reduceReplicate,reduceCtorEq,ae,aK,vS,ap7,KA,h',ng,lH,aR,auJ])
def clU(u v:Term):Bool:=decide (u.name=v.name∧(¬u.op=v.op∨¬u.w=v.w))
def M5(p:List Term):List Term→Bool
 | []=>false
 |m::r=>p.any (clU m) ||M5 (p++[m]) r
abbrev Gt(T:List Term)(i k:Int):List (Nat×AV):=[(0,.p (.aO (T.map Term.row))),(3,.p (.int .i64 i)),(4,.p (.int .i64 k))]
theorem akl(T:List Term)(i:Nat)(u:Term)(hu:T[i]?=some u)(hl:T.length≤1000000) :
  pP (fun _:Unit=>True∧al P yO (Gt T i 0) [] 53 none=back P [0,3,4] j4 0 (exec P j4 ⟨tm (Gt T i i),[],53,none⟩)) (fun _:Unit=>∃r,al P yO (Gt T i 0) [] 53 none=some r∧b7 2 (.bool true) [] r) (if(T.take i).any (clU u)=true then .inr ()else .inl ()):=by
 have hi:i<T.length:=(gA.1 hu).1;have hlen:(T.take i).length=i:=by rw[abz];omega
 have hui:=fun σ=>aH (k:=.i64) (es:=5) (σ:=σ) (aw (f:=Term.row) hu) u.az
 have h:=cE (P:=P) (nt:=53) (lv:=[0,3,4]) (b:=j4) (rd:=none) (as:=T.take i) (fun k (_:Unit)=>Gt T i k) (fun _=>[]) (fun _ _ v=>if clU u v=true then .inr ()else .inl ())
  (fun(_:Unit)=>b7 2 (.bool true) []) (fun _ _=>True)
  (fun k v s hv hk hs=>by
   refine⟨fun _ _=>trivial,?_⟩
   rw[hlen]at hk;have hv':T[k]?=some v:=by rw[WC hk]at hv;exact hv
   have hlt:((k:Int)<i)=True:=by simpa using hk
   have hvi:=fun σ=>aH (k:=.i64) (es:=5) (σ:=σ) (aw (f:=Term.row) hv') v.az
   unfold clU;rcases cY (u.name=v.name)with h1|h1
   ·rcases cY (u.op=v.op)with h2|h2
    ·rcases cY (u.w=v.w)with h3|h3
     ·rw[decide_eq_false (by rintro⟨_,h|h⟩;exact h (of_eq_true h2);exact h (of_eq_true h3))]
      simp only[j4,lG,if_false];simp(disch:=omega)only[aB,↓aa,seval,-List.reduceReplicate,reduceCtorEq,ae,hlt,hvi,hui,h1,h2,h3,Gt,b7]
     ·rw[decide_eq_true ⟨of_eq_true h1,.inr (of_eq_false h3)⟩]
      simp only[j4,if_true];simp(disch:=omega)only[aB,↓aa,seval,-List.reduceReplicate,reduceCtorEq,ae,hlt,hvi,hui,h1,h2,h3,Gt,b7]
    ·rw[decide_eq_true ⟨of_eq_true h1,.inl (of_eq_false h2)⟩]
     simp only[j4,if_true];simp(disch:=omega)only[aB,↓aa,seval,-List.reduceReplicate,reduceCtorEq,ae,hlt,hvi,hui,h1,h2,Gt,b7]
   ·rw[decide_eq_false (fun h=>of_eq_false h1 h.1)]
    simp only[j4,lG,if_false];simp(disch:=omega)only[aB,↓aa,seval,-List.reduceReplicate,reduceCtorEq,ae,hlt,hvi,hui,h1,Gt,b7]) (fun i s=>rfl) () trivial
 rw[C1]at h;rw[hlen]at h;exact h
theorem Yf(T:List Term):∀(r:List Term) (i:Nat),T.drop i=r→aq (S:=Unit) (T:=Unit) (fun i _ u=>if(T.take i).any (clU u)=true then .inr ()else .inl ()) i () r=if M5 (T.take i) r=true then .inr ()else .inl ()
 | [],i,h=>rfl
 |a::r,i,h=>by
  have hi:i<T.length:=by
   rcases WG i T.length with h1|h1
   ·exact h1
   ·rw[abW h1]at h;cases h
  have hg:T[i]?=some a:=by
   rw[←List.head?_drop,h];rfl
  have hr:T.drop (i+1)=r:=by rw[←List.tail_drop,h];rfl
  have ht:T.take (i+1)=T.take i++[a]:=by rw[List.take_add_one,hg];rfl
  unfold aq M5;by_cases h1:(T.take i).any (clU a)=true
  ·simp only[h1,if_true,Ul]
  ·have h':(T.take i).any (clU a)=false:=by simpa using h1
   simp only[h',J5,lG,if_false];rw[Yf T r (i+1) hr,ht]
theorem ZL(T:List Term)(hl:T.length≤1000000):R P qL [.aO (T.map Term.row)]=some (.bool (M5 [] T)):=by
 have h:=cE (P:=P) (nt:=53) (lv:=[0,3]) (b:=uw) (rd:=none) (as:=T) (fun i (_:Unit)=>[(0,.p (.aO (T.map Term.row))),(3,.p (.int .i64 (i:Int)))]) (fun _=>[]) (fun i _ u=>if(T.take i).any (clU u)=true then .inr ()else .inl ())
  (fun(_:Unit)=>b7 2 (.bool true) []) (fun _ _=>True)
  (fun i u s ha hi hs=>by
   refine⟨fun _ _=>trivial,?_⟩
   have hlt:((i:Int)<T.length)=True:=by simpa using hi
   have h2:=akl T i u ha hl;cases hc:(T.take i).any (clU u)with
   |true=>
    rw[hc]at h2;obtain⟨⟨e',τ',σ',nt',rd'⟩,k1,k2,k3,k4⟩:=h2
    simp only at k2 k3 k4
    subst k2;simp only[Gt]at k1;simp only[if_true];simp only[uw];simp(disch:=omega)only[aB,↓aa,seval,-List.reduceReplicate,reduceCtorEq,ae,hlt,aR,II,k1,k3,k4,b7]
   |false=>
    rw[hc]at h2;obtain⟨_,k1⟩:=h2;simp only[Gt]at k1;simp only[lG,if_false];simp only[uw];simp(disch:=omega)only[aB,↓aa,seval,-List.reduceReplicate,reduceCtorEq,ae,hlt,aR,II,k1,j4,lH,b7]) (fun i s=>rfl) () trivial
 have e:=Yf T T 0 rfl;rw[List.take_zero]at e;rw[e]at h;cases hc:M5 [] T with
 |false=>
  rw[hc]at h;obtain⟨_,h⟩:=h;have h':al P yK [(0,.p (.aO (T.map Term.row))),(3,.p (.int .i64 0))] [] 53 none=_:=h
  (rw[Mr (aD rfl),tz];simp(disch:=omega)only[aB,↓aa,seval,-List.reduceReplicate,reduceCtorEq,ae,aR,IE,h',uw,lH])
 |true=>
  rw[hc]at h;obtain⟨⟨e',τ',σ',nt',rd'⟩,k1,k2,k3,k4⟩:=h
  simp only at k2 k3 k4
  subst k2;have h':al P yK [(0,.p (.aO (T.map Term.row))),(3,.p (.int .i64 0))] [] 53 none=some (.ret,⟨τ',σ',nt',rd'⟩):=k1
  (rw[Mr (aD rfl),tz];simp(disch:=omega)only[aB,↓aa,seval,-List.reduceReplicate,reduceCtorEq,ae,aR,IE,h',k3])
abbrev M6(r:du)(i:Int):List (Nat×AV):=[(1,.p (.ptr r.row 0)),(3,.p (.int .i64 i))]
theorem aqH(r:du)(h:gk r):pP (fun _:Unit=>True∧al P tE (M6 r 0) [] 71 none=back P [1,3] je 0 (exec P je ⟨tm (M6 r r.left.length),[],71,none⟩)) (fun e:Int=>∃q,al P tE (M6 r 0) [] 71 none=some q∧b7 2 (.int .i64 e) [] q) (if B6 r.left=0 then .inl ()else .inr (B6 r.left)):=by
 have hll:=h.ll
 have hL:=cE (P:=P) (nt:=71) (lv:=[1,3]) (b:=je) (rd:=none) (as:=r.left) (fun i (_:Unit)=>M6 r i) (fun _=>[]) (fun _ _ a=>if nA a=0 then .inl ()else .inr (nA a)) (fun e=>b7 2 (.int .i64 e) []) (fun _ _=>True)
  (fun i a s ha hi hs=>by
   refine⟨fun _ _=>trivial,?_⟩
   have hat:=h.lt a (mR ha);have hlt:((i:Int)<r.left.length)=True:=by simpa using hi
   have hx:=fun σ=>aH (k:=.i64) (es:=6) (σ:=σ) (aw (f:=Atom.row) ha) a.az
   have c1:=Bu a.pat false hat.1 (by omega)
   have c3:=wS a.root;rcases cY (cW a.pat false=0)with h1|h1
   rotate_left
   ·have h1':=of_eq_false h1
    have e:nA a=cW a.pat false:=by unfold nA;rw[if_pos h1']
    rw[e,if_neg h1'];simp only[je];simp(disch:=omega)only[aB,↓aa,seval,-List.reduceReplicate,reduceCtorEq,ae,hlt,hx,vS,aR,iJ,eQ,fN,a_w,lY,bE,c1,h1,M6,b7]
   have h1':=of_eq_true h1;have e0:nA a=if ¬a.root=bs []∧jr a.root=false then 5 else 0:=by unfold nA;rw[if_neg (not_not_intro h1')]
   rcases cY (a.root=bs [])with h2|h2
   ·have h2':=of_eq_true h2
    have e:nA a=0:=by rw[e0];exact if_neg (fun h=>h.1 h2')
    rw[e,if_pos rfl];simp only[je];simp(disch:=omega)only[aB,↓aa,seval,-List.reduceReplicate,reduceCtorEq,ae,hlt,hx,vS,aR,iJ,eQ,fN,a_w,lY,bE,c1,h1,h2,M6,b7]
   ·have h2':=of_eq_false h2
    cases hn:jr a.root with
    |true=>
     rw[hn]at c3 e0;have e:nA a=0:=by rw[e0];exact if_neg (fun h=>by cases h.2)
     rw[e,if_pos rfl];simp only[je];simp(disch:=omega)only[aB,↓aa,seval,-List.reduceReplicate,reduceCtorEq,ae,hlt,hx,vS,aR,iJ,eQ,fN,a_w,lY,bE,c1,h1,h2,iQ,c3,M6,b7]
    |false=>
     rw[hn]at c3 e0;have e:nA a=5:=by rw[e0];exact if_pos ⟨h2',rfl⟩
     rw[e,if_neg (by decide)]
     simp only[je];simp(disch:=omega)only[aB,↓aa,seval,-List.reduceReplicate,reduceCtorEq,ae,hlt,hx,vS,aR,iJ,eQ,fN,a_w,lY,bE,c1,h1,h2,iQ,c3,M6,b7]) (fun i s=>rfl) () trivial
 rw[Ks]at hL;exact hL
def WY(r:du):Int:=if M5 [] (EI r.left)=true then 12 else if 16<((fP r).length:Int)+(k9 r).length then 7 else 0
def PH(r:du):Int:=if ¬t2 r=0 then t2 r else if ¬B6 r.left=0 then B6 r.left else WY r
theorem afd(r:du)(h:gk r)(hl100:r.left.length≤100):R P tg [.agg r.row]=some (.int .i64 (PH r)):=by
 have hll:=h.ll;have hgl:=h.gl;unfold PH;by_cases g1:(r.left.length:Int)<1
 ·have g0:r.left.length=0:=by omega
  have ht2:t2 r=7:=by unfold t2;exact if_pos (.inl g0)
  rw[ht2,if_pos (by decide)]
  (rw[tl (aD rfl),kU];simp(disch:=omega)only[aB,↓aa,seval,-List.reduceReplicate,reduceCtorEq,ae,bj,aK,vS,BT,aR,g1])
 by_cases g2:4<r.left.length
 ·have g2':((r.left.length:Int) > 4)=True:=by simp;omega
  have ht2:t2 r=7:=by unfold t2;exact if_pos (.inr (.inl g2))
  rw[ht2,if_pos (by decide)]
  (rw[tl (aD rfl),kU];simp(disch:=omega)only[aB,↓aa,seval,-List.reduceReplicate,reduceCtorEq,ae,bj,aK,vS,BT,aR,g1,g2'])
 have g2':((r.left.length:Int) > 4)=False:=by simp;omega
 by_cases g3:8<r.guards.length
 ·have g3':((r.guards.length:Int) > 8)=True:=by simp;omega
  have ht2:t2 r=7:=by unfold t2;exact if_pos (.inr (.inr g3))
  rw[ht2,if_pos (by decide)]
  (rw[tl (aD rfl),kU];simp(disch:=omega)only[aB,↓aa,seval,-List.reduceReplicate,reduceCtorEq,ae,bj,aK,vS,BT,aR,g1,g2',g3'])
 have g3':((r.guards.length:Int) > 8)=False:=by simp;omega
 have ht2:t2 r=0:=by unfold t2;exact if_neg (by omega)
 rw[ht2,if_neg (by decide)]
 have hL:=aqH r h;rcases cY (B6 r.left=0)with c0|c0
 rotate_left
 ·have c0':=of_eq_false c0
  rw[if_neg c0']at hL;rw[if_pos c0'];obtain⟨⟨e',τ',σ',nt',rd'⟩,k1,k2,k3,k4⟩:=hL
  simp only at k2 k3 k4
  subst k2;have h':al P tE (M6 r 0) [] 71 none=some (.ret,⟨τ',σ',nt',rd'⟩):=k1;simp only[M6]at h'
  (rw[tl (aD rfl),kU];simp(disch:=omega)only[aB,↓aa,seval,-List.reduceReplicate,reduceCtorEq,ae,bj,aK,vS,BT,aR,g1,g2',g3',A6,h',k3])
 have c0':=of_eq_true c0;rw[if_pos c0']at hL;rw[if_neg (not_not_intro c0')];obtain⟨_,hL⟩:=hL;have h':al P tE (M6 r 0) [] 71 none=_:=hL;simp only[M6]at h';have hsc:=y4 h hl100;have kv:=Nz r h;have hml:=A3 mtA 401 r.left (fun a ha=>by have h1:=agj a;have h2:=(h.lt a ha).2;omega)
 have hm2:r.left.length*401≤100*401:=ND _ hl100;have kc:=ZL (EI r.left) (by unfold EI;omega)
 have kn:=My r (by omega) (by omega)
 have lh:=eZ 24 (eF r.left);have ln:=eZ 25 (eF r.left);have lh':(fP r).length≤80000:=by unfold fP;omega
 have ln':(k9 r).length≤80000:=by unfold k9;omega
 have hw:IntKind.i64.wrap (((fP r).length:Int)+(k9 r).length)=((fP r).length:Int)+(k9 r).length:=IntWalk.i64_in _ (by omega)
 unfold WY;cases hc:M5 [] (EI r.left)with
 |true=>
  rw[hc]at kc;simp only[if_true]
  (rw[tl (aD rfl),kU];simp(disch:=omega)only[aB,↓aa,seval,-List.reduceReplicate,reduceCtorEq,ae,bj,aK,vS,BT,aR,g1,g2',g3',A6,h',je,lH,yo,kv,Fo,kc])
 |false=>
  rw[hc]at kc;simp only[lG,if_false];by_cases g4:(16:Int)<((fP r).length:Int)+(k9 r).length
  ·simp only[g4,if_true]
   (rw[tl (aD rfl),kU];simp(disch:=omega)only[aB,↓aa,seval,-List.reduceReplicate,reduceCtorEq,ae,bj,aK,vS,BT,aR,g1,g2',g3',A6,h',je,lH,yo,kv,Fo,kc,tX,kn,hw,g4])
  ·simp only[g4,if_false]
   (rw[tl (aD rfl),kU];simp(disch:=omega)only[aB,↓aa,seval,-List.reduceReplicate,reduceCtorEq,ae,bj,aK,vS,BT,aR,g1,g2',g3',A6,h',je,lH,yo,kv,Fo,kc,tX,kn,hw,g4])
def Gx(hs ns:List V2):List Gd→Int
 | []=>0
 |g::r=>if M8 g hs ns=0 then Gx hs ns r else M8 g hs ns
theorem Pp(hs ns:List V2):∀(l:List Gd) (i:Nat),aq (S:=Unit) (T:=Int) (fun _ _ a=>if M8 a hs ns=0 then .inl ()else .inr (M8 a hs ns)) i () l=if Gx hs ns l=0 then .inl ()else .inr (Gx hs ns l)
 | [],i=>rfl
 |a::r,i=>by
  unfold aq Gx;by_cases h:M8 a hs ns=0
  ·simp only[h,if_true];exact Pp hs ns r (i+1)
  ·simp only[h,if_false]
abbrev Sb(r:du)(hs ns:List V2)(i:Int):List (Nat×AV):=[(1,.p (.ptr r.row 0)),(4,.p (.aO (hs.map ay))),(5,.p (.aO (ns.map ay))),(6,.p (.int .i64 i))]
theorem ahS(r:du)(hs ns:List V2)(h:gk r)(hh:hs.length≤1000000)(hn:ns.length≤1000000):pP (fun _:Unit=>True∧al P rm (Sb r hs ns 0) [] 61 none=back P [1,4,5,6] ot 0 (exec P ot ⟨tm (Sb r hs ns r.guards.length),[],61,none⟩)) (fun e:Int=>∃q,al P rm (Sb r hs ns 0) [] 61 none=some q∧b7 2 (.int .i64 e) [] q) (if Gx hs ns r.guards=0 then .inl ()else .inr (Gx hs ns r.guards)):=by
 have hgl:=h.gl
 have hL:=cE (P:=P) (nt:=61) (lv:=[1,4,5,6]) (b:=ot) (rd:=none) (as:=r.guards) (fun i (_:Unit)=>Sb r hs ns i) (fun _=>[]) (fun _ _ a=>if M8 a hs ns=0 then .inl ()else .inr (M8 a hs ns)) (fun e=>b7 2 (.int .i64 e) []) (fun _ _=>True)
  (fun i g s ha hi _=>by
   refine⟨fun _ _=>trivial,?_⟩
   have hm:=h.gt g (mR ha);have hlt:((i:Int)<r.guards.length)=True:=by simpa using hi
   have hx:=fun σ=>aH (k:=.i64) (es:=11) (σ:=σ) (aw (f:=Gd.row) ha) g.az
   have hg:=ZK g hs ns hm.1 hm.2.1 (by omega) (by omega) hh hn
   rcases cY (M8 g hs ns=0)with h1|h1
   ·rw[if_pos (of_eq_true h1)]
    simp only[ot];simp(disch:=omega)only[aB,↓aa,seval,-List.reduceReplicate,reduceCtorEq,ae,hlt,hx,BT,aR,bB,aQ,Mk,hg,h1,Sb,b7]
   ·rw[if_neg (of_eq_false h1)]
    simp only[ot];simp(disch:=omega)only[aB,↓aa,seval,-List.reduceReplicate,reduceCtorEq,ae,hlt,hx,BT,aR,bB,aQ,Mk,hg,h1,Sb,b7]) (fun i s=>rfl) () trivial
 rw[Pp]at hL;exact hL
def aoq(r:du):Int :=
 if jr r.name=false then 5
 else if ¬PH r=0 then PH r
 else if ¬cW r.right true=0 then cW r.right true
 else if RE (fP r) (k9 r) r.right=false then 12
 else if ¬t7 r=0 then t7 r
 else Gx (fP r) (k9 r) r.guards
theorem FE(r:du)(h:gk r)(hl100:r.left.length≤100):R P ma [.agg r.row]=some (.int .i64 (aoq r)):=by
 have hll:=h.ll;have kn:=wS r.name;have kl:=afd r h hl100;have kc:=Bu r.right true h.rt.1 (by have:=h.rt.2;omega)
 have hsc:=y4 h hl100;have kN:=My r (by omega) (by omega)
 have lh:=eZ 24 (eF r.left);have ln:=eZ 25 (eF r.left);have lh':(fP r).length≤80000:=by unfold fP;omega
 have ln':(k9 r).length≤80000:=by unfold k9;omega
 have kb:=uc r.right (fP r) (k9 r) (by omega) (by omega) (by have:=h.rt.2;omega)
 have hg:=ahS r (fP r) (k9 r) h (by omega) (by omega)
 unfold aoq;cases hn:jr r.name with
 |false=>
  rw[hn]at kn;simp only[if_true]
  (rw[qY (aD rfl),jh];simp(disch:=omega)only[aB,↓aa,seval,-List.reduceReplicate,reduceCtorEq,ae,aK,SQ,iQ,kn])
 |true=>
 rw[hn]at kn;simp only[N4,if_false];rcases cY (PH r=0)with c1|c1
 rotate_left
 ·rw[if_pos (of_eq_false c1)]
  (rw[qY (aD rfl),jh];simp(disch:=omega)only[aB,↓aa,seval,-List.reduceReplicate,reduceCtorEq,ae,bj,aK,SQ,iQ,kn,wK,kl,c1])
 have c1':=of_eq_true c1;rw[if_neg (not_not_intro c1')];rcases cY (cW r.right true=0)with c2|c2
 rotate_left
 ·rw[if_pos (of_eq_false c2)]
  (rw[qY (aD rfl),jh];simp(disch:=omega)only[aB,↓aa,seval,-List.reduceReplicate,reduceCtorEq,ae,bj,aK,SQ,MF,iQ,kn,wK,kl,c1,bE,kc,c2])
 rw[if_neg (not_not_intro (of_eq_true c2))];generalize fP r=hs at *;generalize k9 r=ns at *;cases hb:RE hs ns r.right with
 |false=>
  rw[hb]at kb;simp only[if_true]
  (rw[qY (aD rfl),jh];simp(disch:=omega)only[aB,↓aa,seval,-List.reduceReplicate,reduceCtorEq,ae,bj,aK,SQ,MF,iQ,kn,wK,kl,c1,bE,kc,c2,tX,kN,cR,kb])
 |true=>
 rw[hb]at kb;simp only[N4,if_false]
 have hne:r.left≠[]:=by
  intro e;unfold PH at c1';have:t2 r=7:=by unfold t2;exact if_pos (.inl (by rw[e];rfl))
  rw[this,if_pos (by decide)]at c1'
  cases c1'
 cases hr:r.left with
 |nil=>exact absurd hr hne
 |cons a l=>
 have hx':∀σ,gj σ 6 (.p (.aO (a.row::l.map Atom.row))) (.p (.int .i64 0))=some (.p (.ptr a.row 0)):=fun σ=>aH (k:=.i64) (es:=6) (σ:=σ) (aw (f:=Atom.row) (l:=a::l) (i:=0) (a:=a) rfl) a.az
 have h1:=vS r;rw[hr,rK]at h1;have ht7:t7 r=if r.right.w=a.pat.w then 0 else 3:=by unfold t7;rw[hr]
 rw[ht7];rcases cY (r.right.w=a.pat.w)with e|e
 rotate_left
 ·rw[if_neg (of_eq_false e),if_pos (by decide)]
  (rw[qY (aD rfl),jh];simp(disch:=omega)only[aB,↓aa,seval,-List.reduceReplicate,reduceCtorEq,ae,bj,aK,SQ,MF,u_3,h1,hx',a_w,e,iQ,kn,wK,kl,c1,bE,kc,c2,tX,kN,cR,kb])
 rw[if_pos (of_eq_true e),if_neg (by decide)]
 rcases cY (Gx hs ns r.guards=0)with c0|c0
 ·have c0':=of_eq_true c0
  rw[if_pos c0']at hg;obtain⟨_,hg⟩:=hg;have h':al P rm (Sb r hs ns 0) [] 61 none=_:=hg;simp only[Sb]at h';rw[c0']
  (rw[qY (aD rfl),jh];simp(disch:=omega)only[aB,↓aa,seval,-List.reduceReplicate,reduceCtorEq,ae,bj,aK,SQ,MF,u_3,BT,aR,h1,hx',a_w,e,iQ,kn,wK,kl,c1,bE,kc,c2,tX,kN,cR,kb,IB,h',ot,lH])
 ·have c0':=of_eq_false c0
  rw[if_neg c0']at hg;obtain⟨⟨e',τ',σ',nt',rd'⟩,k1,k2,k3,k4⟩:=hg
  simp only at k2 k3 k4
  subst k2;have h':al P rm (Sb r hs ns 0) [] 61 none=some (.ret,⟨τ',σ',nt',rd'⟩):=k1;simp only[Sb]at h'
  (rw[qY (aD rfl),jh];simp(disch:=omega)only[aB,↓aa,seval,-List.reduceReplicate,reduceCtorEq,ae,bj,aK,SQ,MF,u_3,BT,aR,h1,hx',a_w,e,iQ,kn,wK,kl,c1,bE,kc,c2,tX,kN,cR,kb,IB,h',k3])
end Go.AE.S
