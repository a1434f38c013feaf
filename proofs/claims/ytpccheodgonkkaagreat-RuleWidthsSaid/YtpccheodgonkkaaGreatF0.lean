import Derived.Test.YtpccheodgonkkaaGreatB0
import Derived.Test.YtpccheodgonkkaaGreatC0
set_option maxHeartbeats 0
set_option linter.unusedSimpArgs false
set_option linter.unusedVariables false
namespace Go.AE.S
open Go Go.AE
variable {τ:Tm} {σ:ag} {rd:Option Nat}
structure Atom where
 root:ByteArray
 pat:Term
def Atom.row(a:Atom):List PV:=.str a.root::a.pat.row
theorem Atom.aR(a:Atom):a.row=[.str a.root,.int .i64 a.pat.op,.int .i64 a.pat.w,.int .u64 a.pat.v,.str a.pat.name,.aM (a.pat.args.map Term.row)]:=by rw[Atom.row,Term.aR]
theorem Atom.aB(a:Atom):a.row.length=6:=by rw[a.aR];rfl
theorem iu(a:Atom):gU σ 6 true (.p (.ptr a.row 0))=some (.p (.agg a.row)):=Fk a.aB
theorem eL(a:Atom):cellsOf 6 true (.p (.agg a.row))=some (a.row.map .p):=by simp[cellsOf,a.aB]
theorem jl(a:Atom):a.row[0]?=some (.str a.root):=by rw[a.aR];rfl
theorem ZE(a:Atom):a.row[2]?=some (.int .i64 a.pat.w):=by rw[a.aR];rfl
theorem pf(a:Atom):gU σ 5 true (.p (.ptr a.row 1))=some (.p (.agg a.pat.row)):=by
 rw[a.aR,a.pat.aR];rfl
structure Gd where
 kind:Int
 a:Term
 b:Term
def Gd.row(g:Gd):List PV:=.int .i64 g.kind::(g.a.row++g.b.row)
theorem Gd.aR(g:Gd):g.row=[.int .i64 g.kind,.int .i64 g.a.op,.int .i64 g.a.w,.int .u64 g.a.v,.str g.a.name,.aM (g.a.args.map Term.row),.int .i64 g.b.op,.int .i64 g.b.w,.int .u64 g.b.v,.str g.b.name,.aM (g.b.args.map Term.row)]:=by
 rw[Gd.row,Term.aR g.a,Term.aR g.b];rfl
theorem Gd.aB(g:Gd):g.row.length=11:=by rw[g.aR];rfl
theorem bF(g:Gd):gU σ 11 true (.p (.ptr g.row 0))=some (.p (.agg g.row)):=Fk g.aB
theorem aP(g:Gd):cellsOf 11 true (.p (.agg g.row))=some (g.row.map .p):=by simp[cellsOf,g.aB]
theorem qZ(g:Gd):g.row[0]?=some (.int .i64 g.kind):=by rw[g.aR];rfl
theorem GP(g:Gd):g.row[1]?=some (.int .i64 g.a.op):=by rw[g.aR];rfl
theorem A4(g:Gd):g.row[2]?=some (.int .i64 g.a.w):=by rw[g.aR];rfl
theorem A5(g:Gd):g.row[7]?=some (.int .i64 g.b.w):=by rw[g.aR];rfl
theorem uR(g:Gd):gU σ 5 true (.p (.ptr g.row 1))=some (.p (.agg g.a.row)):=by rw[g.aR,g.a.aR];rfl
theorem uV(g:Gd):gU σ 5 true (.p (.ptr g.row 6))=some (.p (.agg g.b.row)):=by rw[g.aR,g.b.aR];rfl
structure dR where
 name:ByteArray
 left:List Atom
 right:Term
 guards:List Gd
def dR.row(r:dR):List PV:=.str r.name::.aM (r.left.map Atom.row)::(r.right.row++[.aM (r.guards.map Gd.row)])
theorem dR.aR(r:dR):r.row=[.str r.name,.aM (r.left.map Atom.row),.int .i64 r.right.op,.int .i64 r.right.w,.int .u64 r.right.v,.str r.right.name,.aM (r.right.args.map Term.row),.aM (r.guards.map Gd.row)]:=by
 rw[dR.row,Term.aR r.right];rfl
theorem dR.aB(r:dR):r.row.length=8:=by rw[r.aR];rfl
theorem bQ(r:dR):gU σ 8 true (.p (.ptr r.row 0))=some (.p (.agg r.row)):=Fk r.aB
theorem aZ(r:dR):cellsOf 8 true (.p (.agg r.row))=some (r.row.map .p):=by simp[cellsOf,r.aB]
theorem MI(r:dR):r.row[0]?=some (.str r.name):=by rw[r.aR];rfl
theorem xt(r:dR):r.row[1]?=some (.aM (r.left.map Atom.row)):=by rw[r.aR];rfl
theorem u_3(r:dR):r.row[3]?=some (.int .i64 r.right.w):=by rw[r.aR];rfl
theorem Fj(r:dR):r.row[7]?=some (.aM (r.guards.map Gd.row)):=by rw[r.aR];rfl
theorem RX(r:dR):gU σ 5 true (.p (.ptr r.row 2))=some (.p (.agg r.right.row)):=by rw[r.aR,r.right.aR];rfl
def uG(a:Atom):Term:=.mk 24 a.pat.w 0 a.root []
theorem LG(a:Atom):R P nJ [.agg a.row]=some (.agg (uG a).row):=by
 (rw[Yy (aD rfl),wY];simp(disch:=omega)only[aA,↓aa,seval,-List.reduceReplicate,reduceCtorEq,ae,iu,eL,jl,ZE])
 rfl
def AH(a:Atom):List Term:=(if a.root=bs []then[]else[uG a])++[a.pat]
def ec(l:List Atom):List Term:=l.flatMap AH
theorem s7{α β:Type}(g:α→List β):∀(l:List α) (i:Nat) (s:List β),aq (T:=Empty) (fun _ s a=>.inl (s++g a)) i s l=.inl (s++l.flatMap g)
 | [],i,s=>by simp[aq]
 |a::l,i,s=>by
  simp only[aq];rw[s7 g l (i+1) (s++g a),VF,TA]
theorem kT{a:Term}:Du σ 5 1 (gz (List.replicate 1 [.p (.int .i64 0),.p (.int .i64 0),.p (.int .u64 0),.p (.str (bs [])),.aC]).flatten [(0,5,.p (.agg a.row))])=some (.p (.aM [a.row]),σ):=by rw[Term.aR a];rfl
theorem u0{a:Term}:nn σ 5 (.p (.aM [a.row]))=some (.inl [a.row]):=Qt (by simp[wide,Term.aB])
theorem ZL(s:List Term)(t:Term)(hs:s.length≤1000000000){r:ag}:zU (.pv (lK 5 s) (s.map Term.row) false::r) 5 64 (.sl 0 s.length) (some (.inl [t.row]))=some (.sl 0 (s.length+1),.pv (lK 5 (s++[t])) ((s++[t]).map Term.row) false::r):=by
 rw[dA (σ:=.pv (lK 5 s) (s.map Term.row) false::r) (b:=0) (n:=s.length) (e:=lK 5 s) (rows:=s.map Term.row) rfl (by simp) (qO _ _ _) (by simp only[lH,l5];omega)]
 simp only[jd,BY,sP,Cb,abc,lH,l5,tn]
abbrev sT1(s:List Term):ag:=[.pv (lK 5 s) (s.map Term.row) false]
abbrev agJ(l:List Atom)(s:List Term)(i:Int):List (Nat×AV):=[(3,.sl 0 s.length),(6,.p (.aM (l.map Atom.row))),(7,.p (.int .i64 l.length)),(8,.p (.int .i64 i))]
theorem Kg(a:Atom):(AH a).length≤2:=by unfold AH;split<;>simp
theorem CJ(l:List Atom)(hl:l.length≤1000000):R P jQ [.aM (l.map Atom.row)]=some (.aM ((ec l).map Term.row)):=by
 have h:=lp (P:=P) (nt:=27) (rd:=none) (lv:=[3,6,7,8]) (b:=q7) (x:=0) (as:=l) (fun i (s:List Term)=>agJ l s i) sT1 (fun i s a=>s++AH a)
  (fun s=>⟨dX (tm (agJ l s l.length)) 9 (.p (.bool false)),sT1 s,27,none⟩) (fun i s=>s.length≤2*i)
  (fun i a s ha hi hs=>by
   have h2:=Kg a;refine⟨by rw[jE];omega,?_⟩
   have hlt:((i:Int)<l.length)=True:=by simpa using hi
   have hx:=fun σ=>aJ (k:=.i64) (es:=6) (σ:=σ) (ax (f:=Atom.row) ha) a.aB
   have hr:=LG a;unfold AH;rcases dB (a.root=bs [])with h1|h1
   ·have h1':=of_eq_true h1
    have a1:=fun r=>ZL (r:=r) s a.pat (by omega)
    rw[if_pos h1',x9];simp only[q7];simp(disch:=omega)only[aA,↓aa,seval,-List.reduceReplicate,reduceCtorEq,ae,hlt,hx,iu,eL,jl,pf,h1,kT,u0,a1,agJ,jE]
    try rfl
   ·have h1':=of_eq_false h1
    have a1:=fun r=>ZL (r:=r) s (uG a) (by omega)
    have a2:=fun r=>ZL (r:=r) (s++[uG a]) a.pat (by simp;omega)
    rw[if_neg h1',←TA];simp only[jE,lH,l5,tn]at a2;simp only[q7];simp(disch:=omega)only[aA,↓aa,seval,-List.reduceReplicate,reduceCtorEq,ae,hlt,hx,iu,eL,jl,pf,h1,Lq,hr,kT,u0,a1,a2,agJ,jE]
    try rfl) (fun s hs=>by
   simp only[q7];simp(disch:=omega)only[aA,↓aa,seval,-List.reduceReplicate,reduceCtorEq,ae,kY]) (fun i s=>rfl) [] (by simp) _ (s7 AH l 0 [])
 rw[x9]at h;have h':al P AL (agJ l [] 0) [.pv 0 [] false] 27 none=_:=h;simp only[agJ,l5]at h'
 (rw[U8 (aD rfl),tQ];simp(disch:=omega)only[aA,↓aa,seval,-List.reduceReplicate,reduceCtorEq,ae,Rn,h',aO])
 rfl
def dU(r:dR):List V2:=varsOf 24 (ec r.left)
def ja(r:dR):List V2:=varsOf 25 (ec r.left)
theorem I3(r:dR)(hl:r.left.length≤1000000)(hc:Term.counts (ec r.left)≤500000):R P lQ [.agg r.row]=some (.aM ((dU r).map ay)):=by
 have h1:=CJ r.left hl;have h2:=C7 (ec r.left) hc
 (rw[U7 (aD rfl),tP];simp(disch:=omega)only[aA,↓aa,seval,-List.reduceReplicate,reduceCtorEq,ae,aZ,xt,uz,h1,rR,h2])
 rfl
theorem LF(r:dR)(hl:r.left.length≤1000000)(hc:Term.counts (ec r.left)≤500000):R P nI [.agg r.row]=some (.aM ((ja r).map ay)):=by
 have h1:=CJ r.left hl;have h2:=EM (ec r.left) hc
 (rw[Yx (aD rfl),wX];simp(disch:=omega)only[aA,↓aa,seval,-List.reduceReplicate,reduceCtorEq,ae,aZ,xt,uz,h1,zk,h2])
 rfl
theorem LH(b:Bool)(e:Int):R P gS [.bool b,.int .i64 e]=some (.int .i64 (if b=true then e else 0)):=by
 cases b<;>(rw[Yz (aD rfl),wZ];simp(disch:=omega)only[aA,↓aa,seval,-List.reduceReplicate,reduceCtorEq,ae])
theorem Vv{a b:V2}:a=b↔a.name=b.name∧a.w=b.w:=by cases a;cases b;simp
instance:DecidableEq V2:=fun a b=>decidable_of_iff (a.name=b.name∧a.w=b.w) Vv.symm
def GQ(v x:V2):Bool:=decide (v=x)
theorem asR(a b:V2):Xg false [.str,.int] (.p (.agg (ay a))) (.p (.agg (ay b)))=some (.p (.bool (GQ a b))):=by
 have e:dD [.str,.int] (ay a) (ay b)=some (GQ a b):=by
  simp only[ay,dD,DD,zy,xu,oX,if_true]
  congr 1
  rw[abE];simp[GQ,Vv,vp]
 simp only[Xg,e,xu,kS,if_false]
theorem LP{v:V2}:gU σ 2 true (.p (.ptr (ay v) 0))=some (.p (.agg (ay v))):=rfl
theorem LM{v:V2}:cellsOf 2 true (.p (.agg (ay v)))=some ((ay v).map .p):=rfl
abbrev N5(l:List V2)(v:V2)(i:Int):List (Nat×AV):=[(0,.p (.aM (l.map ay))),(3,.p (.ptr (ay v) 0)),(7,.p (.int .i64 l.length)),(8,.p (.int .i64 i))]
theorem AB(l:List V2)(v:V2)(hl:l.length≤1000000):R P a8 [.aM (l.map ay),.agg (ay v)]=some (.bool (l.any (GQ v))):=by
 have h:=cE (P:=P) (nt:=19) (lv:=[0,3,7,8]) (b:=dx) (rd:=none) (as:=l) (fun i (_:Unit)=>N5 l v i) (fun _=>[]) (fun i _ x=>if GQ v x=true then .inr i else .inl ()) (fun(n:Nat)=>cj 4 (.int .i64 n) []) (fun _ _=>True)
  (fun i x s hv hi hs=>by
   refine⟨fun _ _=>trivial,?_⟩
   have hlt:((i:Int)<l.length)=True:=by simpa using hi
   have hx:=fun σ=>aJ (k:=.i64) (es:=2) (σ:=σ) (ax (f:=ay) hv) (by simp[ay])
   have he:=asR v x;cases hd:GQ v x with
   |true=>
    rw[hd]at he;simp only[dx,if_true];simp(disch:=omega)only[aA,↓aa,seval,-List.reduceReplicate,reduceCtorEq,ae,hlt,hx,LP,he,N5,cj]
   |false=>
    rw[hd]at he;simp only[dx,kS,if_false];simp(disch:=omega)only[aA,↓aa,seval,-List.reduceReplicate,reduceCtorEq,ae,hlt,hx,LP,he,N5,cj]) (fun i s=>rfl) () trivial
 rcases Bn (GQ v) l 0 with⟨n,h1,h2⟩|⟨h1,h2⟩
 ·rw[h1]at h
  obtain⟨⟨e',τ',σ',nt',rd'⟩,g1,g2,g3,g4⟩:=h
  simp only at g2 g3 g4
  subst g2;subst g4;have h':al P eu (N5 l v 0) [] 19 none=some (.ret,⟨τ',[],nt',rd'⟩):=g1;simp only[N5]at h'
  have hi:R P bU [.aM (l.map ay),.agg (ay v)]=some (.int .i64 n):=by
   (rw[nj (aD rfl),cQ];simp(disch:=omega)only[aA,↓aa,seval,-List.reduceReplicate,reduceCtorEq,ae,LM,aO,mB,h',g3])
  have hn:((n:Int) ≥ 0)=True:=by simp
  rw[h2]
  (rw[k7 (aD rfl),cy];simp(disch:=omega)only[aA,↓aa,seval,-List.reduceReplicate,reduceCtorEq,ae,LM,LP,nh,hi,hn])
 ·rw[h1]at h
  obtain⟨_,h⟩:=h;have h':al P eu (N5 l v 0) [] 19 none=_:=h;simp only[N5]at h'
  have hi:R P bU [.aM (l.map ay),.agg (ay v)]=some (.int .i64 (-1)):=by
   (rw[nj (aD rfl),cQ];simp(disch:=omega)only[aA,↓aa,seval,-List.reduceReplicate,reduceCtorEq,ae,LM,aO,mB,h',dx,kY])
  rw[h2]
  (rw[k7 (aD rfl),cy];simp(disch:=omega)only[aA,↓aa,seval,-List.reduceReplicate,reduceCtorEq,ae,LM,LP,nh,hi])
def FM(all:List V2)(l:List V2):Bool:=l.all fun v=>all.any (GQ v)
theorem Us(all:List V2):∀(l:List V2) (i:Nat),aq (S:=Unit) (T:=Unit) (fun _ _ v=>if all.any (GQ v)=true then .inl ()else .inr ()) i () l=if FM all l=true then .inl ()else .inr ()
 | [],i=>rfl
 |a::l,i=>by
  unfold aq;cases h:all.any (GQ a)with
  |true=>
   simp only[if_true,FM,R6,h,VG];exact Us all l (i+1)
  |false=>simp[FM,h]
structure M3 where
 name:ByteArray
 w:Int
 op:Int
theorem aqi{a b:M3}:a=b↔a.name=b.name∧a.w=b.w∧a.op=b.op:=by cases a;cases b;simp
instance:DecidableEq M3:=fun a b=>decidable_of_iff (a.name=b.name∧a.w=b.w∧a.op=b.op) aqi.symm
def rr(o w:Int):List PV:=[.int .i64 o,.int .i64 w]
abbrev P9(m:M3):List PV:=rr m.op m.w
def Ul(e:ByteArray×M3):PV×AV:=(.str e.1,.p (.agg (P9 e.2)))
def QP:List (ByteArray×M3)→ByteArray→Option M3
 | [],_=>none
 |e::r,k=>if k=e.1 then some e.2 else QP r k
def stM(u:M3):List (ByteArray×M3)→List (ByteArray×M3)
 | []=>[(u.name,u)]
 |e::r=>if u.name=e.1 then(u.name,u)::r else e::stM u r
theorem JJ(k:ByteArray):∀s:List (ByteArray×M3),findKey .str (.str k) (s.map Ul)=some ((QP s k).map fun u=>.p (.agg (P9 u)))
 | []=>rfl
 |e::r=>by
  simp only[sP,findKey,Ul,DD,QP];by_cases h:k=e.1
  ·simp[h]
  ·simp only[h,decide_false,if_false]
   exact JJ k r
theorem Y7(u:M3):∀s:List (ByteArray×M3),uK .str (.str u.name) (.p (.agg (P9 u))) (s.map Ul)=some ((stM u s).map Ul)
 | []=>rfl
 |e::r=>by
  simp only[sP,uK,Ul,DD,stM];by_cases h:u.name=e.1
  ·simp[h,Ul]
  ·simp only[h,decide_false,if_false]
   rw[Y7 u r];rfl
def okM(s:List (ByteArray×M3))(m:M3):Bool:=match QP s m.name with
 |some o=>decide (o.op=m.op∧o.w=m.w)
 |none=>true
def bindM(s:List (ByteArray×M3))(m:M3):List (ByteArray×M3) ⊕ List (ByteArray×M3):=if okM s m=true then .inl (stM m s)else .inr (stM m s)
abbrev sRo(s:List (ByteArray×M3)):ag:=[.map (s.map Ul) false]
theorem aj6{s:List (ByteArray×M3)}{k:ByteArray}(h:QP s k=none):uo (sRo s) .str (.p (.agg [.int .i64 0,.int .i64 0])) (.map 0) (.p (.str k)) true=some (.p (.jC [.agg (P9 ⟨bs [],0,0⟩),.bool false])):=by
 show(if su .str (.str k)=true then(findKey .str (.str k) (s.map Ul)).bind fun o:Option AV=>some (za [o.getD (.p (.agg [.int .i64 0,.int .i64 0])),.p (.bool o.isSome)])else none)=_
 rw[JJ,h];rfl
theorem aj7{s:List (ByteArray×M3)}{k:ByteArray}{o:M3}{z:AV}(h:QP s k=some o):uo (sRo s) .str z (.map 0) (.p (.str k)) true=some (.p (.jC [.agg (P9 o),.bool true])):=by
 show(if su .str (.str k)=true then(findKey .str (.str k) (s.map Ul)).bind fun o:Option AV=>some (za [o.getD z,.p (.bool o.isSome)])else none)=_
 rw[JJ,h];rfl
theorem muR(s:List (ByteArray×M3))(m:M3):OX (sRo s) .str (.map 0) (.p (.str m.name)) (.p (.agg (P9 m)))=some (.any,sRo (stM m s)):=by
 simp[OX,su,Y7]
theorem asQ(a b:M3):Xg false [.int,.int] (.p (.agg (P9 a))) (.p (.agg (P9 b)))=some (.p (.bool (decide (a.op=b.op∧a.w=b.w)))):=by
 have e:dD [.int,.int] (P9 a) (P9 b)=some (decide (a.op=b.op∧a.w=b.w)):=by
  simp only[P9,rr,dD,zy,xu,oX,if_true]
  congr 1
  rw[abE];simp
 simp only[Xg,e,xu,kS,if_false]
theorem ahI{a b:Int}:gU σ 2 true (.p (.ptr (rr a b) 0))=some (.p (.agg (rr a b))):=rfl
theorem ahH{a b:Int}:cellsOf 2 true (.p (.agg (rr a b)))=some ((rr a b).map .p):=rfl
theorem Si{a b:Int}{z0 z1:AV}:k8 [z0,z1] [(0,1,.p (.int .i64 a)),(1,1,.p (.int .i64 b))]=some (.p (.agg (rr a b))):=rfl
mutual
def Dy:Term→List M3
 |.mk o w v n as=>if o=24∨o=25 then[⟨n,w,o⟩]else jn as
def jn:List Term→List M3
 | []=>[]
 |a::r=>Dy a++jn r
end
theorem NU(t:Term):Dy t=if t.op=24∨t.op=25 then[⟨t.name,t.w,t.op⟩]else jn t.args:=by cases t;rw[Dy];rfl
def foldM(l:List M3)(s:List (ByteArray×M3)):List (ByteArray×M3) ⊕ List (ByteArray×M3):=aq (fun _ s m=>bindM s m) 0 s l
theorem Hv{S T α:Type}(f:S→α→S ⊕ T):∀(l:List α) (i j:Nat) (s:S),aq (fun _ s a=>f s a) i s l=aq (fun _ s a=>f s a) j s l
 | [],_,_,_=>rfl
 |a::l,i,j,s=>by
  simp only[aq];cases f s a with
  |inl s'=>exact Hv f l (i+1) (j+1) s'
  |inr t=>rfl
theorem Uq(l m:List M3)(s:List (ByteArray×M3)):foldM (l++m) s=match foldM l s with
  |.inl s'=>foldM m s'
  |.inr t=>.inr t:=by
 unfold foldM
 induction l generalizing s with
 |nil=>rfl
 |cons a l ih=>
  simp only[FD,aq];cases bindM s a with
  |inl s'=>
   simp only
   rw[Hv bindM (l++m) 1 0,Hv bindM l 1 0];exact ih s'
  |inr t=>rfl
abbrev acV(t:Term)(i:Int):List (Nat×AV):=[(0,.map 0),(42,.p (.aM (t.args.map Term.row))),(43,.p (.int .i64 t.args.length)),(44,.p (.int .i64 i))]
theorem JM:∀(l:List Term) (i:Nat) (s:List (ByteArray×M3)),aq (fun _ s a=>foldM (Dy a) s) i s l=foldM (jn l) s
 | [],i,s=>by rw[jn];rfl
 |a::l,i,s=>by
  rw[jn,Uq];simp only[aq];cases foldM (Dy a) s with
  |inl s'=>exact JM l (i+1) s'
  |inr t=>rfl
theorem agp(t:Term):t.count≤1000000→∀s,call P dI [.map 0,.p (.agg t.row)] (sRo s)=(match foldM (Dy t) s with
  |.inl s'=>some (.p (.bool true),sRo s')
  |.inr s'=>some (.p (.bool false),sRo s')):=by
 induction t using Term.ind with
 |h t ih=>
 intro hc s;have hlen:=Term.dJ t.args;have hct:=Term.count_eq t;rw[NU];by_cases hv:t.op=24∨t.op=25
 ·rw[if_pos hv]
  have hmu:=muR s ⟨t.name,t.w,t.op⟩
  have hfm:foldM [⟨t.name,t.w,t.op⟩] s=bindM s ⟨t.name,t.w,t.op⟩:=by
   unfold foldM aq;cases bindM s ⟨t.name,t.w,t.op⟩<;>rfl
  rw[hfm];unfold bindM okM
  simp only at hmu ⊢
  have hor:(t.op=24)=True∨(t.op=24)=False∧(t.op=25)=True:=by
   by_cases h1:t.op=24
   ·exact .inl (eq_true h1)
   ·exact .inr ⟨eq_false h1,eq_true (hv.resolve_left h1)⟩
  cases hk:QP s t.name with
  |none=>
   have hf:=aj6 hk;simp only[if_true];rcases hor with h1|⟨h1,h2⟩
   ·(rw[ft (aD rfl),dI];simp(disch:=omega)only[aA,↓aa,seval,-List.reduceReplicate,reduceCtorEq,ae,h1,Si,ahH,ahI,hf,hmu])
   ·(rw[ft (aD rfl),dI];simp(disch:=omega)only[aA,↓aa,seval,-List.reduceReplicate,reduceCtorEq,ae,h1,h2,Si,ahH,ahI,hf,hmu])
  |some o=>
   have hf:=fun z=>aj7 (z:=z) hk
   have he:=asQ o ⟨t.name,t.w,t.op⟩
   simp only at he ⊢
   by_cases hd:o.op=t.op∧o.w=t.w
   ·rw[decide_eq_true hd]at he
    simp only[hd,decide_true,and_self,if_true];rcases hor with h1|⟨h1,h2⟩
    ·(rw[ft (aD rfl),dI];simp(disch:=omega)only[aA,↓aa,seval,-List.reduceReplicate,reduceCtorEq,ae,h1,Si,ahH,ahI,hf,hmu,he])
    ·(rw[ft (aD rfl),dI];simp(disch:=omega)only[aA,↓aa,seval,-List.reduceReplicate,reduceCtorEq,ae,h1,h2,Si,ahH,ahI,hf,hmu,he])
   ·rw[decide_eq_false hd]at he
    simp only[hd,decide_false,kS,if_false];rcases hor with h1|⟨h1,h2⟩
    ·(rw[ft (aD rfl),dI];simp(disch:=omega)only[aA,↓aa,seval,-List.reduceReplicate,reduceCtorEq,ae,h1,Si,ahH,ahI,hf,hmu,he])
    ·(rw[ft (aD rfl),dI];simp(disch:=omega)only[aA,↓aa,seval,-List.reduceReplicate,reduceCtorEq,ae,h1,h2,Si,ahH,ahI,hf,hmu,he])
 ·rw[if_neg hv]
  have h1:(t.op=24)=False:=eq_false (fun h=>hv (.inl h))
  have h2:(t.op=25)=False:=eq_false (fun h=>hv (.inr h))
  have h:=cE (P:=P) (nt:=53) (lv:=[0,42,43,44]) (b:=ou) (rd:=none) (as:=t.args) (fun i (_:List (ByteArray×M3))=>acV t i) sRo (fun _ s a=>foldM (Dy a) s) (fun s r=>cj 4 (.bool false) (sRo s) r) (fun _ _=>True)
   (fun i a s ha hi hs=>by
    refine⟨fun _ _=>trivial,?_⟩
    have hm:=mi ha;have hac:=Term.cS hm;have hr:=ih a hm (by omega) s
    have hlt:((i:Int)<t.args.length)=True:=by simpa using hi
    have hx:=fun σ=>aJ (k:=.i64) (es:=5) (σ:=σ) (ax (f:=Term.row) ha) a.aB
    cases hf:foldM (Dy a) s with
    |inl s'=>
     rw[hf]at hr
     simp only at hr
     simp only[ou];simp(disch:=omega)only[aA,↓aa,seval,-List.reduceReplicate,reduceCtorEq,ae,hlt,hx,uy,hr,acV]
    |inr s'=>
     rw[hf]at hr
     simp only at hr
     simp only[ou];simp(disch:=omega)only[aA,↓aa,seval,-List.reduceReplicate,reduceCtorEq,ae,hlt,hx,uy,hr,acV,cj]) (fun i s=>rfl) s trivial
  rw[JM]at h;cases hf:foldM (jn t.args) s with
  |inl s'=>
   rw[hf]at h;obtain⟨_,h⟩:=h;have h':al P rI (acV t 0) (sRo s) 53 none=_:=h;simp only[acV]at h'
   (rw[ft (aD rfl),dI];simp(disch:=omega)only[aA,↓aa,seval,-List.reduceReplicate,reduceCtorEq,ae,h1,h2,aO,CR,h',ou,kY])
  |inr s'=>
   rw[hf]at h;obtain⟨⟨e',τ',σ',nt',rd'⟩,k1,k2,k3,k4⟩:=h
   simp only at k2 k3 k4
   subst k2;subst k4;have h':al P rI (acV t 0) (sRo s) 53 none=some (.ret,⟨τ',sRo s',nt',rd'⟩):=k1;simp only[acV]at h'
   (rw[ft (aD rfl),dI];simp(disch:=omega)only[aA,↓aa,seval,-List.reduceReplicate,reduceCtorEq,ae,h1,h2,aO,CR,h',k3])
abbrev acZ(l:List Term)(i:Int):List (Nat×AV):=[(3,.map 0),(8,.p (.aM (l.map Term.row))),(9,.p (.int .i64 l.length)),(10,.p (.int .i64 i))]
theorem afW{es:List (PV×AV)}{r:ag}:aj4 (.map es false::r) (.map 0)=some (.p (.int .i64 es.length)):=rfl
def DW(l:List Atom):Int:=match foldM (jn (ec l)) []with
 |.inl s=>if 16<(s.length:Int)then 7 else 0
 |.inr _=>12
theorem Vo(l:List Atom)(hl:l.length≤1000000)(hc:∀t∈ec l,t.count≤1000000)(hsl:(ec l).length≤1000000):R P oj [.aM (l.map Atom.row)]=some (.int .i64 (DW l)):=by
 have hs:=CJ l hl;unfold DW;generalize ec l=T at *
 have h:=cE (P:=P) (nt:=22) (lv:=[3,8,9,10]) (b:=oK) (rd:=none) (as:=T) (fun i (_:List (ByteArray×M3))=>acZ T i) sRo (fun _ s a=>foldM (Dy a) s) (fun s r=>cj 2 (.int .i64 12) (sRo s) r) (fun _ _=>True)
  (fun i a s ha hi hs=>by
   refine⟨fun _ _=>trivial,?_⟩
   have hm:=mi ha;have hr:=agp a (hc a hm) s;have hlt:((i:Int)<T.length)=True:=by simpa using hi
   have hx:=fun σ=>aJ (k:=.i64) (es:=5) (σ:=σ) (ax (f:=Term.row) ha) a.aB
   cases hf:foldM (Dy a) s with
   |inl s'=>
    rw[hf]at hr
    simp only at hr
    simp only[oK];simp(disch:=omega)only[aA,↓aa,seval,-List.reduceReplicate,reduceCtorEq,ae,hlt,hx,uy,hr,acZ]
   |inr s'=>
    rw[hf]at hr
    simp only at hr
    simp only[oK];simp(disch:=omega)only[aA,↓aa,seval,-List.reduceReplicate,reduceCtorEq,ae,hlt,hx,uy,hr,acZ,cj]) (fun i s=>rfl) [] trivial
 rw[JM]at h;cases hf:foldM (jn T) []with
 |inl s'=>
  rw[hf]at h;obtain⟨_,h⟩:=h;have h':al P wj (acZ T 0) [.map [] false] 22 none=_:=h;simp only[acZ]at h';by_cases g:(16:Int)<s'.length
  ·simp only[g,if_true]
   (rw[CB (aD rfl),nW];simp(disch:=omega)only[aA,↓aa,seval,-List.reduceReplicate,reduceCtorEq,ae,uz,hs,aO,AU,h',oK,kY,afW,g])
  ·simp only[g,if_false]
   (rw[CB (aD rfl),nW];simp(disch:=omega)only[aA,↓aa,seval,-List.reduceReplicate,reduceCtorEq,ae,uz,hs,aO,AU,h',oK,kY,afW,g])
 |inr s'=>
  rw[hf]at h;obtain⟨⟨e',τ',σ',nt',rd'⟩,k1,k2,k3,k4⟩:=h
  simp only at k2 k3 k4
  subst k2;subst k4;have h':al P wj (acZ T 0) [.map [] false] 22 none=some (.ret,⟨τ',sRo s',nt',rd'⟩):=k1;simp only[acZ]at h'
  (rw[CB (aD rfl),nW];simp(disch:=omega)only[aA,↓aa,seval,-List.reduceReplicate,reduceCtorEq,ae,uz,hs,aO,AU,h',k3])
def jZ(a:Atom):Int:=if ¬cB a.pat false=0 then cB a.pat false else if ¬a.root=bs []∧iA a.root=false then 5 else 0
def yd:List Atom→Int
 | []=>0
 |a::r=>if jZ a=0 then yd r else jZ a
theorem JL:∀(l:List Atom) (i:Nat),aq (S:=Unit) (T:=Int) (fun _ _ a=>if jZ a=0 then .inl ()else .inr (jZ a)) i () l=if yd l=0 then .inl ()else .inr (yd l)
 | [],i=>rfl
 |a::r,i=>by
  unfold aq yd;by_cases h:jZ a=0
  ·simp only[h,if_true];exact JL r (i+1)
  ·simp only[h,if_false]
abbrev Uj(l:List Atom)(i:Int):List (Nat×AV):=[(6,.p (.aM (l.map Atom.row))),(7,.p (.int .i64 l.length)),(8,.p (.int .i64 i))]
theorem Vm(l:List Atom)(hl:l.length≤1000000)(ht:∀a∈l,ia a.pat∧a.pat.count≤1000000):R P oi [.aM (l.map Atom.row)]=some (.int .i64 (yd l)):=by
 have h:=cE (P:=P) (nt:=28) (lv:=[6,7,8]) (b:=l8) (rd:=none) (as:=l) (fun i (_:Unit)=>Uj l i) (fun _=>[]) (fun _ _ a=>if jZ a=0 then .inl ()else .inr (jZ a)) (fun e=>cj 2 (.int .i64 e) []) (fun _ _=>True)
  (fun i a s ha hi hs=>by
   refine⟨fun _ _=>trivial,?_⟩
   have hma:=mi ha;have hlt:((i:Int)<l.length)=True:=by simpa using hi
   have hx:=fun σ=>aJ (k:=.i64) (es:=6) (σ:=σ) (ax (f:=Atom.row) ha) a.aB
   have c1:=rT a.pat false (ht a hma).1 (ht a hma).2;have c3:=ki a.root;rcases dB (cB a.pat false=0)with h1|h1
   rotate_left
   ·have h1':=of_eq_false h1
    have e:jZ a=cB a.pat false:=by unfold jZ;rw[if_pos h1']
    rw[e,if_neg h1'];simp only[l8];simp(disch:=omega)only[aA,↓aa,seval,-List.reduceReplicate,reduceCtorEq,ae,hlt,hx,iu,eL,jl,ZE,pf,bu,c1,h1,Uj,cj]
   have h1':=of_eq_true h1;have e0:jZ a=if ¬a.root=bs []∧iA a.root=false then 5 else 0:=by unfold jZ;rw[if_neg (not_not_intro h1')]
   rcases dB (a.root=bs [])with h2|h2
   ·have h2':=of_eq_true h2
    have e:jZ a=0:=by rw[e0];exact if_neg (fun h=>h.1 h2')
    rw[e,if_pos rfl];simp only[l8];simp(disch:=omega)only[aA,↓aa,seval,-List.reduceReplicate,reduceCtorEq,ae,hlt,hx,iu,eL,jl,ZE,pf,bu,c1,h1,h2,Uj,cj]
   ·have h2':=of_eq_false h2
    cases hn:iA a.root with
    |true=>
     rw[hn]at c3 e0;have e:jZ a=0:=by rw[e0];exact if_neg (fun h=>by cases h.2)
     rw[e,if_pos rfl];simp only[l8];simp(disch:=omega)only[aA,↓aa,seval,-List.reduceReplicate,reduceCtorEq,ae,hlt,hx,iu,eL,jl,ZE,pf,bu,c1,h1,h2,gX,c3,Uj,cj]
    |false=>
     rw[hn]at c3 e0;have e:jZ a=5:=by rw[e0];exact if_pos ⟨h2',rfl⟩
     rw[e,if_neg (by decide)]
     simp only[l8];simp(disch:=omega)only[aA,↓aa,seval,-List.reduceReplicate,reduceCtorEq,ae,hlt,hx,iu,eL,jl,ZE,pf,bu,c1,h1,h2,gX,c3,Uj,cj]) (fun i s=>rfl) () trivial
 rw[JL]at h;rcases dB (yd l=0)with c0|c0
 ·have c0':=of_eq_true c0
  rw[if_pos c0']at h;obtain⟨_,h⟩:=h;have h':al P wh (Uj l 0) [] 28 none=_:=h;simp only[Uj]at h';rw[c0']
  (rw[IU (aD rfl),qE];simp(disch:=omega)only[aA,↓aa,seval,-List.reduceReplicate,reduceCtorEq,ae,aO,FQ,h',l8,kY])
 ·have c0':=of_eq_false c0
  rw[if_neg c0']at h;obtain⟨⟨e',τ',σ',nt',rd'⟩,k1,k2,k3,k4⟩:=h
  simp only at k2 k3 k4
  subst k2;have h':al P wh (Uj l 0) [] 28 none=some (.ret,⟨τ',σ',nt',rd'⟩):=k1;simp only[Uj]at h'
  (rw[IU (aD rfl),qE];simp(disch:=omega)only[aA,↓aa,seval,-List.reduceReplicate,reduceCtorEq,ae,aO,FQ,h',k3])
mutual
def LU(hs ns:List V2):Term→Bool
 |.mk o w v n as=>if o=24 then hs.any (GQ ⟨n,w⟩)else if o=25 then ns.any (GQ ⟨n,w⟩)else FE hs ns as
def FE(hs ns:List V2):List Term→Bool
 | []=>true
 |a::r=>LU hs ns a && FE hs ns r
end
theorem aeX(hs ns:List V2)(t:Term):LU hs ns t=if t.op=24 then hs.any (GQ ⟨t.name,t.w⟩)else if t.op=25 then ns.any (GQ ⟨t.name,t.w⟩)else FE hs ns t.args:=by cases t;rw[LU];rfl
theorem Oq(hs ns:List V2):∀(l:List Term) (i:Nat),aq (S:=Unit) (T:=Unit) (fun _ _ a=>if LU hs ns a=true then .inl ()else .inr ()) i () l=if FE hs ns l=true then .inl ()else .inr ()
 | [],i=>by rw[FE];rfl
 |a::l,i=>by
  unfold aq;rw[FE];cases h:LU hs ns a with
  |true=>
   simp only[if_true,VG];exact Oq hs ns l (i+1)
  |false=>simp
theorem aoO{n:ByteArray}{w:Int}{z0 z1:AV}:k8 [z0,z1] [(0,1,.p (.str n)),(1,1,.p (.int .i64 w))]=some (.p (.agg (ay ⟨n,w⟩))):=rfl
abbrev acU(hs ns:List V2)(t:Term)(i:Int):List (Nat×AV):=[(1,.p (.aM (hs.map ay))),(2,.p (.aM (ns.map ay))),(30,.p (.aM (t.args.map Term.row))),(31,.p (.int .i64 t.args.length)),(32,.p (.int .i64 i))]
theorem Vn(hs ns:List V2)(hh:hs.length≤1000000)(hn:ns.length≤1000000)(t:Term):t.count≤1000000→R P lR [.agg t.row,.aM (hs.map ay),.aM (ns.map ay)]=some (.bool (LU hs ns t)):=by
 induction t using Term.ind with
 |h t ih=>
 intro hc;have hlen:=Term.dJ t.args;have hct:=Term.count_eq t;rw[aeX];have ch:=AB hs ⟨t.name,t.w⟩ hh;have cn:=AB ns ⟨t.name,t.w⟩ hn;simp only[ay]at ch cn;rcases dB (t.op=24)with h1|h1
 ·rw[if_pos (of_eq_true h1)]
  (rw[yk (aD rfl),lE];simp(disch:=omega)only[aA,↓aa,seval,-List.reduceReplicate,reduceCtorEq,ae,h1,aoO,cz,ch])
 rw[if_neg (of_eq_false h1)];rcases dB (t.op=25)with h2|h2
 ·rw[if_pos (of_eq_true h2)]
  (rw[yk (aD rfl),lE];simp(disch:=omega)only[aA,↓aa,seval,-List.reduceReplicate,reduceCtorEq,ae,h1,h2,aoO,cz,cn])
 rw[if_neg (of_eq_false h2)]
 have h:=cE (P:=P) (nt:=42) (lv:=[1,2,30,31,32]) (b:=q6) (rd:=none) (as:=t.args) (fun i (_:Unit)=>acU hs ns t i) (fun _=>[]) (fun _ _ a=>if LU hs ns a=true then .inl ()else .inr ()) (fun(_:Unit)=>cj 6 (.bool false) []) (fun _ _=>True)
  (fun i a s ha hi _=>by
   refine⟨fun _ _=>trivial,?_⟩
   have hm:=mi ha;have hac:=Term.cS hm;have hr:=ih a hm (by omega)
   have hlt:((i:Int)<t.args.length)=True:=by simpa using hi
   have hx:=fun σ=>aJ (k:=.i64) (es:=5) (σ:=σ) (ax (f:=Term.row) ha) a.aB
   cases hd:LU hs ns a with
   |true=>
    rw[hd]at hr;simp only[q6,if_true];simp(disch:=omega)only[aA,↓aa,seval,-List.reduceReplicate,reduceCtorEq,ae,hlt,hx,yh,hr,acU,cj]
   |false=>
    rw[hd]at hr;simp only[q6,kS,if_false];simp(disch:=omega)only[aA,↓aa,seval,-List.reduceReplicate,reduceCtorEq,ae,hlt,hx,yh,hr,acU,cj]) (fun i s=>rfl) () trivial
 rw[Oq]at h;cases hd:FE hs ns t.args with
 |true=>
  rw[hd]at h;obtain⟨_,h⟩:=h;have h':al P wi (acU hs ns t 0) [] 42 none=_:=h;simp only[acU]at h'
  (rw[yk (aD rfl),lE];simp(disch:=omega)only[aA,↓aa,seval,-List.reduceReplicate,reduceCtorEq,ae,h1,h2,aO,FR,h',q6,kY])
 |false=>
  rw[hd]at h;obtain⟨⟨e',τ',σ',nt',rd'⟩,k1,k2,k3,k4⟩:=h
  simp only at k2 k3 k4
  subst k2;have h':al P wi (acU hs ns t 0) [] 42 none=some (.ret,⟨τ',σ',nt',rd'⟩):=k1;simp only[acU]at h'
  (rw[yk (aD rfl),lE];simp(disch:=omega)only[aA,↓aa,seval,-List.reduceReplicate,reduceCtorEq,ae,h1,h2,aO,FR,h',k3])
theorem Vh(t:Term)(ht:ia t):R P oc [.agg t.row]=some (.bool (t.beq zT)):=by
 have h:=Y3 t ht zT;have hz:zT.row=[.int .i64 0,.int .i64 0,.int .u64 0,.str (bs []),.aM []]:=by simp[zT,Term.row,Term.rows]
 rw[hz]at h
 (rw[U4 (aD rfl),tJ];simp(disch:=omega)only[aA,↓aa,seval,-List.reduceReplicate,reduceCtorEq,ae,EA,h])
def DG(g:Gd):Bool:=if g.kind=1 then g.b.beq zT else if g.kind=3∨g.kind=4 then decide (g.a.op=24)else decide (g.kind=2)
theorem Vg(g:Gd)(hb:ia g.b):R P n9 [.agg g.row]=some (.bool (DG g)):=by
 have hz:=Vh g.b hb;unfold DG;rcases dB (g.kind=1)with h1|h1
 ·rw[if_pos (of_eq_true h1)]
  (rw[yi (aD rfl),lB];simp(disch:=omega)only[aA,↓aa,seval,-List.reduceReplicate,reduceCtorEq,ae,aP,qZ,uV,h1,UY,hz])
 rw[if_neg (of_eq_false h1)];rcases dB (g.kind=3)with h3|h3
 ·rw[if_pos (.inl (of_eq_true h3))]
  (rw[yi (aD rfl),lB];simp(disch:=omega)only[aA,↓aa,seval,-List.reduceReplicate,reduceCtorEq,ae,aP,qZ,GP,h1,h3])
 rcases dB (g.kind=4)with h4|h4
 ·rw[if_pos (.inr (of_eq_true h4))]
  (rw[yi (aD rfl),lB];simp(disch:=omega)only[aA,↓aa,seval,-List.reduceReplicate,reduceCtorEq,ae,aP,qZ,GP,h1,h3,h4])
 rw[if_neg (by rintro(h|h);exact of_eq_false h3 h;exact of_eq_false h4 h)]
 (rw[yi (aD rfl),lB];simp(disch:=omega)only[aA,↓aa,seval,-List.reduceReplicate,reduceCtorEq,ae,aP,qZ,GP,h1,h3,h4])
theorem apB{a:Term}:kU σ 5 1 (gz (List.replicate 1 [.p (.int .i64 0),.p (.int .i64 0),.p (.int .u64 0),.p (.str (bs [])),.aC]).flatten [(0,5,.p (.agg a.row))])=some (.sl σ.length 1,σ++[.pv 5 [a.row] false]):=by rw[Term.aR a];rfl
abbrev Xb(p:Term)(hs ns l:List V2)(i:Int):List (Nat×AV):=[(1,.p (.aM (hs.map ay))),(2,.p (.aM (ns.map ay))),(3,.p (.ptr p.row 0)),(13,.p (.aM (l.map ay))),(14,.p (.int .i64 l.length)),(15,.p (.int .i64 i))]
abbrev Xc(ns l:List V2)(i:Int):List (Nat×AV):=[(2,.p (.aM (ns.map ay))),(26,.p (.aM (l.map ay))),(27,.p (.int .i64 l.length)),(28,.p (.int .i64 i))]
theorem ahb(p:Term)(hs ns l:List V2)(hh:hs.length≤1000000)(hl:l.length≤1000000):nC (fun _:Unit=>True∧al P rF (Xb p hs ns l 0) σ 37 none=back P [1,2,3,13,14,15] gJ σ.length (exec P gJ ⟨tm (Xb p hs ns l l.length),σ,37,none⟩)) (fun _:Unit=>∃r,al P rF (Xb p hs ns l 0) σ 37 none=some r∧cj 6 (.bool false) σ r) (if FM hs l=true then .inl ()else .inr ()):=by
 have h:=cE (P:=P) (nt:=37) (lv:=[1,2,3,13,14,15]) (b:=gJ) (rd:=none) (as:=l) (fun i (_:Unit)=>Xb p hs ns l i) (fun _=>σ) (fun _ _ v=>if hs.any (GQ v)=true then .inl ()else .inr ()) (fun(_:Unit)=>cj 6 (.bool false) σ) (fun _ _=>True)
  (fun i x s hv hi _=>by
   refine⟨fun _ _=>trivial,?_⟩
   have hlt:((i:Int)<l.length)=True:=by simpa using hi
   have hx:=fun σ=>aJ (k:=.i64) (es:=2) (σ:=σ) (ax (f:=ay) hv) (by simp[ay])
   have hc:=AB hs x hh;cases hd:hs.any (GQ x)with
   |true=>
    rw[hd]at hc;simp only[gJ,if_true];simp(disch:=omega)only[aA,↓aa,seval,-List.reduceReplicate,reduceCtorEq,ae,hlt,hx,LP,LM,cz,hc,Xb,cj]
   |false=>
    rw[hd]at hc;simp only[gJ,kS,if_false];simp(disch:=omega)only[aA,↓aa,seval,-List.reduceReplicate,reduceCtorEq,ae,hlt,hx,LP,LM,cz,hc,Xb,cj]) (fun i s=>rfl) () trivial
 rw[Us]at h;exact h
theorem ahd(ns l:List V2)(hh:ns.length≤1000000)(hl:l.length≤1000000):nC (fun _:Unit=>True∧al P rL (Xc ns l 0) σ 37 none=back P [2,26,27,28] jj σ.length (exec P jj ⟨tm (Xc ns l l.length),σ,37,none⟩)) (fun _:Unit=>∃r,al P rL (Xc ns l 0) σ 37 none=some r∧cj 6 (.bool false) σ r) (if FM ns l=true then .inl ()else .inr ()):=by
 have h:=cE (P:=P) (nt:=37) (lv:=[2,26,27,28]) (b:=jj) (rd:=none) (as:=l) (fun i (_:Unit)=>Xc ns l i) (fun _=>σ) (fun _ _ v=>if ns.any (GQ v)=true then .inl ()else .inr ()) (fun(_:Unit)=>cj 6 (.bool false) σ) (fun _ _=>True)
  (fun i x s hv hi _=>by
   refine⟨fun _ _=>trivial,?_⟩
   have hlt:((i:Int)<l.length)=True:=by simpa using hi
   have hx:=fun σ=>aJ (k:=.i64) (es:=2) (σ:=σ) (ax (f:=ay) hv) (by simp[ay])
   have hc:=AB ns x hh;cases hd:ns.any (GQ x)with
   |true=>
    rw[hd]at hc;simp only[jj,if_true];simp(disch:=omega)only[aA,↓aa,seval,-List.reduceReplicate,reduceCtorEq,ae,hlt,hx,LP,LM,cz,hc,Xc,cj]
   |false=>
    rw[hd]at hc;simp only[jj,kS,if_false];simp(disch:=omega)only[aA,↓aa,seval,-List.reduceReplicate,reduceCtorEq,ae,hlt,hx,LP,LM,cz,hc,Xc,cj]) (fun i s=>rfl) () trivial
 rw[Us]at h;exact h
theorem apV{x:List PV}{c:Bool}:(if c=true then[Obj.pv 5 [x] false]else bL [Obj.pv 5 [x] false] (refs [Obj.pv 5 [x] false] 12 (.sl 0 1)))=[Obj.pv 5 [x] (!c)]:=by cases c<;>rfl
theorem asW{o:Obj}{x:List PV}{c:Bool}:(if c=true then[o,Obj.pv 5 [x] false]else dK [o,Obj.pv 5 [x] false] 1)=[o,Obj.pv 5 [x] (!c)]:=by cases c<;>rfl
theorem mA(op:Int)(l:List Term):(varsOf op l).length≤Term.counts l:=by
 have:=R7 (op:=op) (l:=l) (s:=[]);simpa[varsOf]using this
def wiB(hs ns:List V2)(p:Term):Bool:=FM hs (varsOf 24 [p]) && FM ns (varsOf 25 [p])
theorem uH(p:Term)(hs ns:List V2)(hh:hs.length≤1000000)(hn:ns.length≤1000000)(hc:p.count≤400000):R P iV [.agg p.row,.aM (hs.map ay),.aM (ns.map ay)]=some (.bool (wiB hs ns p)):=by
 have hcc:Term.counts [p]≤500000:=by simp[Term.counts];omega
 have k1:=C7 [p] hcc;have k2:=EM [p] hcc;have la:=mA 24 [p];have lb:=mA 25 [p];simp only[sP,Cb]at k1 k2;unfold wiB;generalize varsOf 24 [p]=A at *;generalize varsOf 25 [p]=B at *;have L0:=fun σ=>ahb (σ:=σ) p hs ns A hh (by omega)
 have L1:=fun σ=>ahd (σ:=σ) ns B hn (by omega)
 cases hA:FM hs A with
 |false=>
  have h0:=L0 [Obj.pv 5 [p.row] (!(PV.aM (A.map ay)).flat)];rw[hA]at h0;obtain⟨⟨e',τ',σ',nt',rd'⟩,g1,g2,g3,g4⟩:=h0
  simp only at g2 g3 g4
  subst g2;simp only[Xb]at g1
  (rw[zm (aD rfl),ku];simp(disch:=omega)only[aA,↓aa,seval,-List.reduceReplicate,reduceCtorEq,ae,apB,rR,k1,aO,apV,xC,g1,g3,g4,Dr])
 |true=>
  have h0:=L0 [Obj.pv 5 [p.row] (!(PV.aM (A.map ay)).flat)];rw[hA]at h0;obtain⟨_,h0⟩:=h0;simp only[Xb]at h0;have h1:=L1 [Obj.pv 5 [p.row] (!(PV.aM (A.map ay)).flat),Obj.pv 5 [p.row] (!(PV.aM (B.map ay)).flat)];cases hB:FM ns B with
  |false=>
   rw[hB]at h1;obtain⟨⟨e',τ',σ',nt',rd'⟩,g1,g2,g3,g4⟩:=h1
   simp only at g2 g3 g4
   subst g2;simp only[Xc]at g1
   (rw[zm (aD rfl),ku];simp(disch:=omega)only[aA,↓aa,seval,-List.reduceReplicate,reduceCtorEq,ae,apB,rR,k1,zk,k2,aO,apV,asW,xC,h0,gJ,kY,CT,g1,g3,g4,abt])
  |true=>
   rw[hB]at h1;obtain⟨_,h1⟩:=h1;simp only[Xc]at h1
   (rw[zm (aD rfl),ku];simp(disch:=omega)only[aA,↓aa,seval,-List.reduceReplicate,reduceCtorEq,ae,apB,rR,k1,zk,k2,aO,apV,asW,xC,h0,gJ,kY,CT,h1,jj,QM])
def XC(g:Gd)(hs ns:List V2):Bool:=wiB (if g.kind=1 then[]else hs) ns g.a && (decide (g.kind=1) ||wiB (if g.kind=3∨g.kind=4 then[]else hs) ns g.b)
def Dg(g:Gd)(hs ns:List V2):Int :=
 if DG g=false then 1
 else if ¬cB g.a false=0 then cB g.a false
 else if ¬g.kind=1∧¬cB g.b false=0 then cB g.b false
 else if XC g hs ns=false then 12
 else if ¬g.a.w=(if g.kind=1 then 1 else g.b.w)then 3 else 0
theorem RO(g:Gd)(hs ns:List V2)(ha:ia g.a)(hb:ia g.b)(ca:g.a.count≤400000)(cb:g.b.count≤400000)(hh:hs.length≤1000000)(hn:ns.length≤1000000):R P mn [.agg g.row,.aM (hs.map ay),.aM (ns.map ay)]=some (.int .i64 (Dg g hs ns)):=by
 have kf:=Vg g hb;have k1:=rT g.a false ha (by omega)
 have k2:=rT g.b false hb (by omega)
 have wa:=uH g.a hs ns hh hn ca;have wb:=uH g.b hs ns hh hn cb;have wa0:=uH g.a [] ns (by simp) hn ca
 have wb0:=uH g.b [] ns (by simp) hn cb
 simp only[Cb]at wa0 wb0;unfold Dg;cases hf:DG g with
 |false=>
  rw[hf]at kf;simp only[if_true]
  (rw[cG (aD rfl),bS];simp(disch:=omega)only[aA,↓aa,seval,-List.reduceReplicate,reduceCtorEq,ae,bF,aP,cV,kf])
 |true=>
 rw[hf]at kf;simp only[Nb,if_false];rcases dB (cB g.a false=0)with h1|h1
 rotate_left
 ·rw[if_pos (of_eq_false h1)]
  (rw[cG (aD rfl),bS];simp(disch:=omega)only[aA,↓aa,seval,-List.reduceReplicate,reduceCtorEq,ae,bF,aP,cV,kf,qZ,uR,uV,bu,k1,h1])
 rw[if_neg (not_not_intro (of_eq_true h1))];unfold XC;rcases dB (g.kind=1)with e1|e1
 ·have e1':=of_eq_true e1
  simp only[e1',not_true,false_and,if_false,if_true,decide_true,TB,abR];cases hw:wiB [] ns g.a with
  |false=>
   rw[hw]at wa0
   (rw[cG (aD rfl),bS];simp(disch:=omega)only[aA,↓aa,seval,-List.reduceReplicate,reduceCtorEq,ae,bF,aP,cV,kf,qZ,A4,A5,uR,uV,bu,k1,h1,e1,cT,wa0])
  |true=>
   rw[hw]at wa0;rcases dB (g.a.w=1)with w1|w1
   ·simp only[Nb,if_false,of_eq_true w1,not_true]
    (rw[cG (aD rfl),bS];simp(disch:=omega)only[aA,↓aa,seval,-List.reduceReplicate,reduceCtorEq,ae,bF,aP,cV,kf,qZ,A4,A5,uR,uV,bu,k1,h1,e1,cT,wa0,w1])
   ·simp only[Nb,if_false,of_eq_false w1,not_false_eq_true,if_true]
    (rw[cG (aD rfl),bS];simp(disch:=omega)only[aA,↓aa,seval,-List.reduceReplicate,reduceCtorEq,ae,bF,aP,cV,kf,qZ,A4,A5,uR,uV,bu,k1,h1,e1,cT,wa0,w1])
 have e1':=of_eq_false e1;simp only[e1',not_false_eq_true,true_and,if_false,decide_false,G1];rcases dB (cB g.b false=0)with h2|h2
 rotate_left
 ·rw[if_pos (of_eq_false h2)]
  (rw[cG (aD rfl),bS];simp(disch:=omega)only[aA,↓aa,seval,-List.reduceReplicate,reduceCtorEq,ae,bF,aP,cV,kf,qZ,uR,uV,bu,k1,k2,h1,h2,e1])
 rw[if_neg (not_not_intro (of_eq_true h2))];have key:∀(hs':List V2),(if g.kind=3∨g.kind=4 then[]else hs)=hs'→True:=fun _ _=>trivial
 rcases dB (g.kind=3)with e3|e3
 ·have e3':(if g.kind=3∨g.kind=4 then([]:List V2)else hs)=[]:=if_pos (.inl (of_eq_true e3))
  rw[e3'];cases hw:wiB hs ns g.a with
  |false=>
   rw[hw]at wa;simp only[Dr,if_true]
   (rw[cG (aD rfl),bS];simp(disch:=omega)only[aA,↓aa,seval,-List.reduceReplicate,reduceCtorEq,ae,bF,aP,cV,kf,qZ,A4,A5,uR,uV,bu,k1,k2,h1,h2,e1,e3,cT,wa])
  |true=>
   rw[hw]at wa;cases hw2:wiB [] ns g.b with
   |false=>
    rw[hw2]at wb0;simp only[abt,if_true]
    (rw[cG (aD rfl),bS];simp(disch:=omega)only[aA,↓aa,seval,-List.reduceReplicate,reduceCtorEq,ae,bF,aP,cV,kf,qZ,A4,A5,uR,uV,bu,k1,k2,h1,h2,e1,e3,cT,wa,wb0])
   |true=>
    rw[hw2]at wb0;simp only[QM,Nb,if_false];rcases dB (g.a.w=g.b.w)with w1|w1
    ·rw[if_neg (not_not_intro (of_eq_true w1))]
     (rw[cG (aD rfl),bS];simp(disch:=omega)only[aA,↓aa,seval,-List.reduceReplicate,reduceCtorEq,ae,bF,aP,cV,kf,qZ,A4,A5,uR,uV,bu,k1,k2,h1,h2,e1,e3,cT,wa,wb0,w1])
    ·rw[if_pos (of_eq_false w1)]
     (rw[cG (aD rfl),bS];simp(disch:=omega)only[aA,↓aa,seval,-List.reduceReplicate,reduceCtorEq,ae,bF,aP,cV,kf,qZ,A4,A5,uR,uV,bu,k1,k2,h1,h2,e1,e3,cT,wa,wb0,w1])
 rcases dB (g.kind=4)with e4|e4
 ·have e4':(if g.kind=3∨g.kind=4 then([]:List V2)else hs)=[]:=if_pos (.inr (of_eq_true e4))
  rw[e4'];cases hw:wiB hs ns g.a with
  |false=>
   rw[hw]at wa;simp only[Dr,if_true]
   (rw[cG (aD rfl),bS];simp(disch:=omega)only[aA,↓aa,seval,-List.reduceReplicate,reduceCtorEq,ae,bF,aP,cV,kf,qZ,A4,A5,uR,uV,bu,k1,k2,h1,h2,e1,e3,e4,cT,wa])
  |true=>
   rw[hw]at wa;cases hw2:wiB [] ns g.b with
   |false=>
    rw[hw2]at wb0;simp only[abt,if_true]
    (rw[cG (aD rfl),bS];simp(disch:=omega)only[aA,↓aa,seval,-List.reduceReplicate,reduceCtorEq,ae,bF,aP,cV,kf,qZ,A4,A5,uR,uV,bu,k1,k2,h1,h2,e1,e3,e4,cT,wa,wb0])
   |true=>
    rw[hw2]at wb0;simp only[QM,Nb,if_false];rcases dB (g.a.w=g.b.w)with w1|w1
    ·rw[if_neg (not_not_intro (of_eq_true w1))]
     (rw[cG (aD rfl),bS];simp(disch:=omega)only[aA,↓aa,seval,-List.reduceReplicate,reduceCtorEq,ae,bF,aP,cV,kf,qZ,A4,A5,uR,uV,bu,k1,k2,h1,h2,e1,e3,e4,cT,wa,wb0,w1])
    ·rw[if_pos (of_eq_false w1)]
     (rw[cG (aD rfl),bS];simp(disch:=omega)only[aA,↓aa,seval,-List.reduceReplicate,reduceCtorEq,ae,bF,aP,cV,kf,qZ,A4,A5,uR,uV,bu,k1,k2,h1,h2,e1,e3,e4,cT,wa,wb0,w1])
 have e5':(if g.kind=3∨g.kind=4 then([]:List V2)else hs)=hs:=if_neg (by rintro(h|h);exact of_eq_false e3 h;exact of_eq_false e4 h)
 rw[e5'];cases hw:wiB hs ns g.a with
 |false=>
  rw[hw]at wa;simp only[Dr,if_true]
  (rw[cG (aD rfl),bS];simp(disch:=omega)only[aA,↓aa,seval,-List.reduceReplicate,reduceCtorEq,ae,bF,aP,cV,kf,qZ,A4,A5,uR,uV,bu,k1,k2,h1,h2,e1,e3,e4,cT,wa])
 |true=>
  rw[hw]at wa;cases hw2:wiB hs ns g.b with
  |false=>
   rw[hw2]at wb;simp only[abt,if_true]
   (rw[cG (aD rfl),bS];simp(disch:=omega)only[aA,↓aa,seval,-List.reduceReplicate,reduceCtorEq,ae,bF,aP,cV,kf,qZ,A4,A5,uR,uV,bu,k1,k2,h1,h2,e1,e3,e4,cT,wa,wb])
  |true=>
   rw[hw2]at wb;simp only[QM,Nb,if_false];rcases dB (g.a.w=g.b.w)with w1|w1
   ·rw[if_neg (not_not_intro (of_eq_true w1))]
    (rw[cG (aD rfl),bS];simp(disch:=omega)only[aA,↓aa,seval,-List.reduceReplicate,reduceCtorEq,ae,bF,aP,cV,kf,qZ,A4,A5,uR,uV,bu,k1,k2,h1,h2,e1,e3,e4,cT,wa,wb,w1])
   ·rw[if_pos (of_eq_false w1)]
    (rw[cG (aD rfl),bS];simp(disch:=omega)only[aA,↓aa,seval,-List.reduceReplicate,reduceCtorEq,ae,bF,aP,cV,kf,qZ,A4,A5,uR,uV,bu,k1,k2,h1,h2,e1,e3,e4,cT,wa,wb,w1])
def xj(hs ns:List V2):List Gd→Int
 | []=>0
 |g::r=>if Dg g hs ns=0 then xj hs ns r else Dg g hs ns
theorem SD(hs ns:List V2):∀(l:List Gd) (i:Nat),aq (S:=Unit) (T:=Int) (fun _ _ a=>if Dg a hs ns=0 then .inl ()else .inr (Dg a hs ns)) i () l=if xj hs ns l=0 then .inl ()else .inr (xj hs ns l)
 | [],i=>rfl
 |a::r,i=>by
  unfold aq xj;by_cases h:Dg a hs ns=0
  ·simp only[h,if_true];exact SD hs ns r (i+1)
  ·simp only[h,if_false]
structure iS (r:dR):Prop where
 ll:r.left.length≤1000
 lt:∀a∈r.left,ia a.pat∧a.pat.count≤400
 rt:ia r.right∧r.right.count≤400
 gl:r.guards.length≤1000
 gt:∀g∈r.guards,ia g.a∧ia g.b∧g.a.count≤400∧g.b.count≤400
theorem Qr{r:dR}(h:iS r):∀t∈ec r.left,t.count≤400:=by
 intro t ht;obtain⟨a,ha,ht⟩:=Jp.1 ht;unfold AH at ht;rcases BZ.1 ht with h1|h1
 ·split at h1
  ·simp at h1
  ·rw[Gg.1 h1]
   show Term.count (.mk 24 a.pat.w 0 a.root [])≤400;rw[Term.count_eq];show 1+Term.counts []≤400;decide
 ·rw[Gg.1 h1]
  exact(h.lt a ha).2
theorem Sp(k:Nat):∀l:List Term,(∀t∈l,t.count≤k)→Term.counts l≤l.length*k
 | [],_=>by simp[Term.counts]
 |a::l,h=>by
  have h1:=Sp k l (fun t ht=>h t (by simp[ht]))
  have h2:=h a (by simp)
  simp only[Term.counts,lH,acf];omega
theorem Tn(l:List Atom):(ec l).length≤2*l.length:=by
 induction l with
 |nil=>simp[ec]
 |cons a l ih=>
  have:=Kg a;simp only[ec,VF,jE,lH]at *;omega
theorem yn{r:dR}(h:iS r)(hl:r.left.length≤100):Term.counts (ec r.left)≤80000:=by
 have h1:=Sp 400 _ (Qr h);have h2:=Tn r.left;have h3:(ec r.left).length*400≤200*400:=MK _ (by omega)
 omega
abbrev acX(hs ns:List V2)(l:List Gd)(i:Int):List (Nat×AV):=[(3,.p (.aM (hs.map ay))),(4,.p (.aM (ns.map ay))),(13,.p (.aM (l.map Gd.row))),(14,.p (.int .i64 l.length)),(15,.p (.int .i64 i))]
theorem RS(r:dR)(h:iS r)(hl:r.left.length≤100):R P mw [.agg r.row]=some (.int .i64 (xj (dU r) (ja r) r.guards)):=by
 have hsc:=yn h hl;have kh:=I3 r (by omega) (by omega)
 have kn:=LF r (by omega) (by omega)
 have lh:=mA 24 (ec r.left);have ln:=mA 25 (ec r.left);have lh':(dU r).length≤1000000:=by unfold dU;omega
 have ln':(ja r).length≤1000000:=by unfold ja;omega
 have hgl:=h.gl;generalize dU r=hs at *;generalize ja r=ns at *
 have hL:=cE (P:=P) (nt:=27) (lv:=[3,4,13,14,15]) (b:=pw) (rd:=none) (as:=r.guards) (fun i (_:Unit)=>acX hs ns r.guards i) (fun _=>[]) (fun _ _ a=>if Dg a hs ns=0 then .inl ()else .inr (Dg a hs ns)) (fun e=>cj 2 (.int .i64 e) []) (fun _ _=>True)
  (fun i g s ha hi _=>by
   refine⟨fun _ _=>trivial,?_⟩
   have hm:=h.gt g (mi ha);have hlt:((i:Int)<r.guards.length)=True:=by simpa using hi
   have hx:=fun σ=>aJ (k:=.i64) (es:=11) (σ:=σ) (ax (f:=Gd.row) ha) g.aB
   have hg:=RO g hs ns hm.1 hm.2.1 (by omega) (by omega) lh' ln'
   rcases dB (Dg g hs ns=0)with h1|h1
   ·rw[if_pos (of_eq_true h1)]
    simp only[pw];simp(disch:=omega)only[aA,↓aa,seval,-List.reduceReplicate,reduceCtorEq,ae,hlt,hx,bF,aP,F6,hg,h1,acX,cj]
   ·rw[if_neg (of_eq_false h1)]
    simp only[pw];simp(disch:=omega)only[aA,↓aa,seval,-List.reduceReplicate,reduceCtorEq,ae,hlt,hx,bF,aP,F6,hg,h1,acX,cj]) (fun i s=>rfl) () trivial
 rw[SD]at hL;rcases dB (xj hs ns r.guards=0)with c0|c0
 ·have c0':=of_eq_true c0
  rw[if_pos c0']at hL;obtain⟨_,hL⟩:=hL;have h':al P ub (acX hs ns r.guards 0) [] 27 none=_:=hL;simp only[acX]at h';rw[c0']
  (rw[F7 (aD rfl),oN];simp(disch:=omega)only[aA,↓aa,seval,-List.reduceReplicate,reduceCtorEq,ae,bQ,aZ,Fj,yg,kh,Au,kn,aO,DO,h',pw,kY])
 ·have c0':=of_eq_false c0
  rw[if_neg c0']at hL;obtain⟨⟨e',τ',σ',nt',rd'⟩,k1,k2,k3,k4⟩:=hL
  simp only at k2 k3 k4
  subst k2;have h':al P ub (acX hs ns r.guards 0) [] 27 none=some (.ret,⟨τ',σ',nt',rd'⟩):=k1;simp only[acX]at h'
  (rw[F7 (aD rfl),oN];simp(disch:=omega)only[aA,↓aa,seval,-List.reduceReplicate,reduceCtorEq,ae,bQ,aZ,Fj,yg,kh,Au,kn,aO,DO,h',k3])
theorem R1(e:Int):R P gS [.bool true,.int .i64 e]=some (.int .i64 e):=LH true e
theorem R0(e:Int):R P gS [.bool false,.int .i64 e]=some (.int .i64 0):=LH false e
def t1(r:dR):Int:=if iA r.name=true then 0 else 5
def t2(r:dR):Int:=if r.left.length=0∨4<r.left.length∨8<r.guards.length then 7 else 0
def t6(r:dR):Int:=if LU (dU r) (ja r) r.right=true then 0 else 12
def t7(r:dR):Int:=if r.right.w=(match r.left with | []=>0|a::_=>a.pat.w)then 0 else 3
theorem av2(r:dR):R P gj [.ptr r.row 0]=some (.int .i64 (t1 r)):=by
 have h1:=ki r.name;unfold t1;cases hn:iA r.name with
 |true=>rw[hn]at h1;(rw[EE (aD rfl),mU];simp(disch:=omega)only[aA,↓aa,seval,-List.reduceReplicate,reduceCtorEq,ae,MI,gX,h1,kg,R1,R0])
 |false=>rw[hn]at h1;(rw[EE (aD rfl),mU];simp(disch:=omega)only[aA,↓aa,seval,-List.reduceReplicate,reduceCtorEq,ae,MI,gX,h1,kg,R1,R0])
theorem av3(r:dR):R P fg [.ptr r.row 0]=some (.int .i64 (t2 r)):=by
 unfold t2;by_cases g1:r.left.length=0
 ·have g1':((r.left.length:Int)=0)=True:=by simpa using g1
  rw[if_pos (.inl g1)]
  (rw[uE (aD rfl),iQ];simp(disch:=omega)only[aA,↓aa,seval,-List.reduceReplicate,reduceCtorEq,ae,xt,Fj,aO,g1',kg,R1,R0])
 have g1':((r.left.length:Int)=0)=False:=by simp;simpa using g1
 by_cases g2:4<r.left.length
 ·have g2':((r.left.length:Int) > 4)=True:=by simp;omega
  rw[if_pos (.inr (.inl g2))]
  (rw[uE (aD rfl),iQ];simp(disch:=omega)only[aA,↓aa,seval,-List.reduceReplicate,reduceCtorEq,ae,xt,Fj,aO,g1',g2',kg,R1,R0])
 have g2':((r.left.length:Int) > 4)=False:=by simp;omega
 by_cases g3:8<r.guards.length
 ·have g3':((r.guards.length:Int) > 8)=True:=by simp;omega
  rw[if_pos (.inr (.inr g3))]
  (rw[uE (aD rfl),iQ];simp(disch:=omega)only[aA,↓aa,seval,-List.reduceReplicate,reduceCtorEq,ae,xt,Fj,aO,g1',g2',g3',kg,R1,R0])
 have g3':((r.guards.length:Int) > 8)=False:=by simp;omega
 rw[if_neg (by omega)]
 (rw[uE (aD rfl),iQ];simp(disch:=omega)only[aA,↓aa,seval,-List.reduceReplicate,reduceCtorEq,ae,xt,Fj,aO,g1',g2',g3',kg,R1,R0])
theorem av4(r:dR)(h:iS r):R P gk [.ptr r.row 0]=some (.int .i64 (yd r.left)):=by
 have hll:=h.ll;have k:=Vm r.left (by omega) (fun a ha=>⟨(h.lt a ha).1,by have:=(h.lt a ha).2;omega⟩)
 (rw[P2 (aD rfl),pF];simp(disch:=omega)only[aA,↓aa,seval,-List.reduceReplicate,reduceCtorEq,ae,xt,U0,k])
theorem av5(r:dR)(h:iS r):R P gm [.ptr r.row 0]=some (.int .i64 (DW r.left)):=by
 have hll:=h.ll;have hsl:=Tn r.left;have k:=Vo r.left (by omega) (fun t ht=>by have:=Qr h t ht;omega) (by omega)
 (rw[P3 (aD rfl),pG];simp(disch:=omega)only[aA,↓aa,seval,-List.reduceReplicate,reduceCtorEq,ae,xt,U1,k])
theorem av6(r:dR)(h:iS r):R P gn [.ptr r.row 0]=some (.int .i64 (cB r.right true)):=by
 have k:=rT r.right true h.rt.1 (by have:=h.rt.2;omega)
 (rw[P4 (aD rfl),pH];simp(disch:=omega)only[aA,↓aa,seval,-List.reduceReplicate,reduceCtorEq,ae,RX,bu,k])
theorem av7(r:dR)(h:iS r)(hl:r.left.length≤100):R P gp [.ptr r.row 0]=some (.int .i64 (t6 r)):=by
 have hsc:=yn h hl;have kh:=I3 r (by omega) (by omega)
 have kn:=LF r (by omega) (by omega)
 have lh:=mA 24 (ec r.left);have ln:=mA 25 (ec r.left);have kb:=Vn (dU r) (ja r) (by unfold dU;omega) (by unfold ja;omega) r.right (by have:=h.rt.2;omega)
 unfold t6;cases hb:LU (dU r) (ja r) r.right with
 |true=>rw[hb]at kb;(rw[EF (aD rfl),mV];simp(disch:=omega)only[aA,↓aa,seval,-List.reduceReplicate,reduceCtorEq,ae,RX,bQ,yg,kh,Au,kn,yh,kb,kg,R1,R0])
 |false=>rw[hb]at kb;(rw[EF (aD rfl),mV];simp(disch:=omega)only[aA,↓aa,seval,-List.reduceReplicate,reduceCtorEq,ae,RX,bQ,yg,kh,Au,kn,yh,kb,kg,R1,R0])
theorem av8(r:dR)(hl:r.left.length≠0):R P gq [.ptr r.row 0]=some (.int .i64 (t7 r)):=by
 cases hr:r.left with
 |nil=>rw[hr]at hl;exact absurd rfl hl
 |cons a l=>
  have hx:=fun σ=>aJ (k:=.i64) (es:=6) (σ:=σ) (ax (f:=Atom.row) (l:=a::l) (i:=0) (a:=a) rfl) a.aB
  have hx':∀σ,jS σ 6 (.p (.aM (a.row::l.map Atom.row))) (.p (.int .i64 0))=some (.p (.ptr a.row 0)):=hx;have h1:=xt r;rw[hr,sP]at h1;have ht7:t7 r=if r.right.w=a.pat.w then 0 else 3:=by unfold t7;rw[hr]
  rw[ht7];rcases dB (r.right.w=a.pat.w)with e|e
  ·rw[if_pos (of_eq_true e)]
   (rw[EG (aD rfl),mW];simp(disch:=omega)only[aA,↓aa,seval,-List.reduceReplicate,reduceCtorEq,ae,u_3,h1,hx',ZE,e,kg,R1,R0])
  ·rw[if_neg (of_eq_false e)]
   (rw[EG (aD rfl),mW];simp(disch:=omega)only[aA,↓aa,seval,-List.reduceReplicate,reduceCtorEq,ae,u_3,h1,hx',ZE,e,kg,R1,R0])
theorem av9(r:dR)(h:iS r)(hl:r.left.length≤100):R P gr [.ptr r.row 0]=some (.int .i64 (xj (dU r) (ja r) r.guards)):=by
 have k:=RS r h hl
 (rw[P5 (aD rfl),pI];simp(disch:=omega)only[aA,↓aa,seval,-List.reduceReplicate,reduceCtorEq,ae,bQ,RA,k])
def Cj:List Int→Int
 | []=>0
 |e::r=>if e=0 then Cj r else e
theorem afd{α:Type}(g:α→Int):∀(l:List α) (i:Nat),aq (S:=Unit) (T:=Int) (fun _ _ a=>if g a=0 then .inl ()else .inr (g a)) i () l=if Cj (l.map g)=0 then .inl ()else .inr (Cj (l.map g))
 | [],i=>rfl
 |a::r,i=>by
  unfold aq;simp only[sP,Cj];by_cases h:g a=0
  ·simp only[h,if_true];exact afd g r (i+1)
  ·simp only[h,if_false]
def zu(r:dR):List (FuncId×Int):=[(gj,t1 r),(fg,t2 r),(gk,yd r.left),(gm,DW r.left),(gn,cB r.right true),(gp,t6 r),(gq,t7 r),(gr,xj (dU r) (ja r) r.guards)]
def CF(r:dR):Int:=Cj ((zu r).map (·.2))
def fnr(r:dR)(x:FuncId×Int):List PV:=[.fn x.1 [.ptr r.row 0]]
theorem aeD(r:dR):∀x∈zu r,Qp P x.1:=by
 intro x hx;simp only[zu,pn,ab0,or_false]at hx;rcases hx with rfl|rfl|rfl|rfl|rfl|rfl|rfl|rfl
 ·exact PJ
 ·exact PK
 ·exact PL
 ·exact PM
 ·exact PN
 ·exact PO
 ·exact PQ
 ·exact PR
theorem aoi(r:dR)(h:iS r)(hl:r.left.length≤100)(i:Nat)(x:FuncId×Int)(hx:(zu r)[i]?=some x)(hz:∀y∈(zu r).take i,y.2=0):R P x.1 [.ptr r.row 0]=some (.int .i64 x.2):=by
 match i,hx with
 |0,hx=>cases hx;exact av2 r
 |1,hx=>cases hx;exact av3 r
 |2,hx=>cases hx;exact av4 r h
 |3,hx=>cases hx;exact av5 r h
 |4,hx=>cases hx;exact av6 r h
 |5,hx=>cases hx;exact av7 r h hl
 |6,hx=>
  cases hx;refine av8 r fun e=>?_
  have:=hz (fg,t2 r) (by simp[zu])
  unfold t2 at this;rw[if_pos (.inl e)]at this;cases this
 |7,hx=>cases hx;exact av9 r h hl
 |n+8,hx=>simp[zu]at hx
abbrev Kv(r:dR)(i:Int):List (Nat×AV):=[(14,.p (.aM ((zu r).map (fnr r)))),(15,.p (.int .i64 8)),(16,.p (.int .i64 i))]
theorem Fh(r:dR):(zu r).length=8:=rfl
theorem ao3{f:FuncId}{q:PV}:gU σ 1 false (.p (.ptr [.fn f [q]] 0))=some (.p (.fn f [q])):=rfl
theorem am3(r:dR)(h:iS r)(hl:r.left.length≤100):nC (fun _:Unit=>(∀y∈(zu r).take 8,y.2=0)∧al P wg (Kv r 0) [] 26 none=back P [14,15,16] l7 0 (exec P l7 ⟨tm (Kv r 8),[],26,none⟩)) (fun e:Int=>∃q,al P wg (Kv r 0) [] 26 none=some q∧cj 2 (.int .i64 e) [] q) (if CF r=0 then .inl ()else .inr (CF r)):=by
 have hL:=cE (P:=P) (nt:=26) (lv:=[14,15,16]) (b:=l7) (rd:=none) (as:=zu r) (fun i (_:Unit)=>Kv r i) (fun _=>[]) (fun _ _ x=>if x.2=0 then .inl ()else .inr x.2) (fun e=>cj 2 (.int .i64 e) []) (fun i _=>∀y∈(zu r).take i,y.2=0)
  (fun i x s hx hi hs=>by
   have hR:=aoi r h hl i x hx hs;have hq:Qp P x.1:=fun {args σ}=>aeD r x (mi hx)
   have hlt:((i:Int)<8)=True:=by rw[Fh]at hi;simp;omega
   have hxi:=fun σ=>aJ (k:=.i64) (es:=1) (σ:=σ) (ax (f:=fnr r) hx) rfl
   rw[Fh]at hi;rcases dB (x.2=0)with h1|h1
   ·rw[if_pos (of_eq_true h1)]
    refine⟨fun s' he y hy=>?_,?_⟩
    ·rw[List.take_add_one,hx]at hy
     rcases BZ.1 hy with hy|hy
     ·exact hs y hy
     ·have:y=x:=by simpa using hy
      rw[this];exact of_eq_true h1
    ·simp only[l7]
     simp(disch:=omega)only[aA,↓aa,seval,-List.reduceReplicate,reduceCtorEq,ae,hlt,hxi,fnr,ao3,MN,hq,hR,h1,Kv,cj]
   ·rw[if_neg (of_eq_false h1)]
    refine⟨fun s' he=>?_,?_⟩
    ·cases he
    ·simp only[l7]
     simp(disch:=omega)only[aA,↓aa,seval,-List.reduceReplicate,reduceCtorEq,ae,hlt,hxi,fnr,ao3,MN,hq,hR,h1,Kv,cj]) (fun i s=>rfl) () (by simp)
 rw[afd (fun x:FuncId×Int=>x.2)]at hL
 exact hL
theorem CI(r:dR)(h:iS r)(hl:r.left.length≤100):R P jP [.agg r.row]=some (.int .i64 (CF r)):=by
 have hL:=am3 r h hl;have hbl:Du [] 1 8 (gz (List.replicate 8 [.p .zc]).flatten [(0,1,.p (.fn gj [.ptr r.row 0])),(1,1,.p (.fn fg [.ptr r.row 0])),(2,1,.p (.fn gk [.ptr r.row 0])),(3,1,.p (.fn gm [.ptr r.row 0])),(4,1,.p (.fn gn [.ptr r.row 0])),(5,1,.p (.fn gp [.ptr r.row 0])),(6,1,.p (.fn gq [.ptr r.row 0])),(7,1,.p (.fn gr [.ptr r.row 0]))])=some (.p (.aM ((zu r).map (fnr r))),[]):=rfl;rcases dB (CF r=0)with c0|c0
 ·have c0':=of_eq_true c0
  rw[if_pos c0']at hL;obtain⟨_,hL⟩:=hL;simp only[Kv]at hL;rw[c0']
  (rw[IT (aD rfl),qD];simp(disch:=omega)only[aA,↓aa,seval,-List.reduceReplicate,reduceCtorEq,ae,aZ,Fw,hbl,aO,Fh,FP,hL,l7,kY])
 ·have c0':=of_eq_false c0
  rw[if_neg c0']at hL;obtain⟨⟨e',τ',σ',nt',rd'⟩,k1,k2,k3,k4⟩:=hL
  simp only at k2 k3 k4
  subst k2;simp only[Kv]at k1
  (rw[IT (aD rfl),qD];simp(disch:=omega)only[aA,↓aa,seval,-List.reduceReplicate,reduceCtorEq,ae,aZ,Fw,hbl,aO,Fh,FP,k1,k3])
def Zs(t:Term):Bool:=decide (t.op=0∧t.w=0∧t.v=0∧t.name=bs []∧t.args=[])
theorem alW(t:Term):t.beq zT=Zs t:=by
 rw[abE,Term.beq_iff];unfold Zs;rw[decide_eq_true_eq];cases t with
 |mk o w v n as=>
  show Term.mk o w v n as=Term.mk 0 0 0 (bs []) []↔o=0∧w=0∧v=0∧n=bs []∧as=[];simp
theorem aeq(t:Term):R P sr [.agg t.row]=some (.bool (Zs t)):=by
 unfold Zs;rcases dB (t.op=0)with h1|h1
 rotate_left
 ·rw[decide_eq_false (fun h=>of_eq_false h1 h.1)]
  (rw[vU (aD rfl),me];simp(disch:=omega)only[aA,↓aa,seval,-List.reduceReplicate,reduceCtorEq,ae,h1])
 rcases dB (t.w=0)with h2|h2
 rotate_left
 ·rw[decide_eq_false (fun h=>of_eq_false h2 h.2.1)]
  (rw[vU (aD rfl),me];simp(disch:=omega)only[aA,↓aa,seval,-List.reduceReplicate,reduceCtorEq,ae,h1,h2])
 rcases dB (t.v=0)with h3|h3
 rotate_left
 ·rw[decide_eq_false (fun h=>of_eq_false h3 h.2.2.1)]
  (rw[vU (aD rfl),me];simp(disch:=omega)only[aA,↓aa,seval,-List.reduceReplicate,reduceCtorEq,ae,h1,h2,h3])
 rcases dB (t.name=bs [])with h4|h4
 rotate_left
 ·rw[decide_eq_false (fun h=>of_eq_false h4 h.2.2.2.1)]
  (rw[vU (aD rfl),me];simp(disch:=omega)only[aA,↓aa,seval,-List.reduceReplicate,reduceCtorEq,ae,h1,h2,h3,h4])
 rcases dB (t.args=[])with h5|h5
 ·have h5':((t.args.length:Int)=0)=True:=by rw[of_eq_true h5];simp
  rw[decide_eq_true ⟨of_eq_true h1,of_eq_true h2,of_eq_true h3,of_eq_true h4,of_eq_true h5⟩]
  (rw[vU (aD rfl),me];simp(disch:=omega)only[aA,↓aa,seval,-List.reduceReplicate,reduceCtorEq,ae,h1,h2,h3,h4,aO,h5'])
 ·have h5':((t.args.length:Int)=0)=False:=by
   have:=of_eq_false h5;simp only[eq_iff_iff,iff_false];intro e;exact this (Jq.1 (by omega))
  rw[decide_eq_false (fun h=>of_eq_false h5 h.2.2.2.2)]
  (rw[vU (aD rfl),me];simp(disch:=omega)only[aA,↓aa,seval,-List.reduceReplicate,reduceCtorEq,ae,h1,h2,h3,h4,aO,h5'])
theorem Gt{α:Type}(q:α→Bool):∀(l:List α) (i:Nat),aq (S:=Unit) (T:=Unit) (fun _ _ a=>if q a=true then .inr ()else .inl ()) i () l=if l.any q=true then .inr ()else .inl ()
 | [],i=>rfl
 |a::l,i=>by
  unfold aq;cases h:q a with
  |true=>simp[h]
  |false=>
   simp only[ZH,h,G1,kS,if_false];exact Gt q l (i+1)
theorem ap8(n:ByteArray)(w:Int)(x:V2):GQ ⟨n,w⟩ x=decide (x.name=n∧x.w=w):=by
 unfold GQ
 congr 1
 rw[Vv];simp only[eq_iff_iff];exact⟨fun h=>⟨h.1.symm,h.2.symm⟩,fun h=>⟨h.1.symm,h.2.symm⟩⟩
theorem arT(v:V2):(ay v)[0]?=some (.str v.name):=rfl
theorem arU(v:V2):(ay v)[1]?=some (.int .i64 v.w):=rfl
abbrev W6(l:List V2)(n:ByteArray)(w i:Int):List (Nat×AV):=[(0,.p (.aM (l.map ay))),(1,.p (.str n)),(2,.p (.int .i64 w)),(7,.p (.int .i64 i))]
theorem Tj(l:List V2)(n:ByteArray)(w:Int)(hl:l.length≤1000000):R P sU [.aM (l.map ay),.str n,.int .i64 w]=some (.bool (l.any (GQ ⟨n,w⟩))):=by
 have h:=cE (P:=P) (nt:=30) (lv:=[0,1,2,7]) (b:=u6) (rd:=none) (as:=l) (fun i (_:Unit)=>W6 l n w i) (fun _=>[]) (fun _ _ x=>if GQ ⟨n,w⟩ x=true then .inr ()else .inl ()) (fun(_:Unit)=>cj 6 (.bool true) []) (fun _ _=>True)
  (fun i x s hv hi hs=>by
   refine⟨fun _ _=>trivial,?_⟩
   have hlt:((i:Int)<l.length)=True:=by simpa using hi
   have hx:=fun σ=>aJ (k:=.i64) (es:=2) (σ:=σ) (ax (f:=ay) hv) (by simp[ay])
   rw[ap8];rcases dB (x.name=n)with h1|h1
   ·rcases dB (x.w=w)with h2|h2
    ·rw[decide_eq_true ⟨of_eq_true h1,of_eq_true h2⟩]
     simp only[u6,if_true];simp(disch:=omega)only[aA,↓aa,seval,-List.reduceReplicate,reduceCtorEq,ae,hlt,hx,aO,arT,arU,h1,h2,W6,cj]
    ·rw[decide_eq_false (fun h=>of_eq_false h2 h.2)]
     simp only[u6,kS,if_false];simp(disch:=omega)only[aA,↓aa,seval,-List.reduceReplicate,reduceCtorEq,ae,hlt,hx,aO,arT,arU,h1,h2,W6,cj]
   ·rw[decide_eq_false (fun h=>of_eq_false h1 h.1)]
    simp only[u6,kS,if_false];simp(disch:=omega)only[aA,↓aa,seval,-List.reduceReplicate,reduceCtorEq,ae,hlt,hx,aO,arT,arU,h1,W6,cj]) (fun i s=>rfl) () trivial
 rw[Gt]at h;cases hc:l.any (GQ ⟨n,w⟩)with
 |false=>
  rw[hc]at h;obtain⟨_,h⟩:=h;have h':al P B3 (W6 l n w 0) [] 30 none=_:=h;simp only[W6]at h'
  (rw[Tf (aD rfl),yq];simp(disch:=omega)only[aA,↓aa,seval,-List.reduceReplicate,reduceCtorEq,ae,aO,OI,h',u6,kY])
 |true=>
  rw[hc]at h;obtain⟨⟨e',τ',σ',nt',rd'⟩,k1,k2,k3,k4⟩:=h
  simp only at k2 k3 k4
  subst k2;have h':al P B3 (W6 l n w 0) [] 30 none=some (.ret,⟨τ',σ',nt',rd'⟩):=k1;simp only[W6]at h'
  (rw[Tf (aD rfl),yq];simp(disch:=omega)only[aA,↓aa,seval,-List.reduceReplicate,reduceCtorEq,ae,aO,OI,h',k3])
def G7(hs ns:List V2)(u:Term):Bool:=if u.op=24 then hs.any (GQ ⟨u.name,u.w⟩)else if u.op=25 then ns.any (GQ ⟨u.name,u.w⟩)else true
def No(hs ns:List V2)(p:Term):Bool:=p.pre.all (G7 hs ns)
abbrev Rh(hs ns:List V2)(T:List Term)(i:Int):List (Nat×AV):=[(1,.p (.aM (hs.map ay))),(2,.p (.aM (ns.map ay))),(7,.p (.aM (T.map Term.row))),(8,.p (.int .i64 i))]
theorem Oo{α:Type}(q:α→Bool):∀(l:List α) (i:Nat),aq (S:=Unit) (T:=Unit) (fun _ _ a=>if q a=true then .inl ()else .inr ()) i () l=if l.all q=true then .inl ()else .inr ()
 | [],i=>rfl
 |a::l,i=>by
  unfold aq;cases h:q a with
  |true=>
   simp only[R6,h,VG,if_true];exact Oo q l (i+1)
  |false=>simp[h]
theorem xr(p:Term)(hs ns:List V2)(hh:hs.length≤1000000)(hn:ns.length≤1000000)(hc:p.count≤1000000):R P fG [.agg p.row,.aM (hs.map ay),.aM (ns.map ay)]=some (.bool (No hs ns p)):=by
 have hp:=uJ p hc;have hpl:=Term.lX p;unfold No;generalize p.pre=T at *
 have h:=cE (P:=P) (nt:=61) (lv:=[1,2,7,8]) (b:=ly) (rd:=none) (as:=T) (fun i (_:Unit)=>Rh hs ns T i) (fun _=>[]) (fun _ _ u=>if G7 hs ns u=true then .inl ()else .inr ()) (fun(_:Unit)=>cj 6 (.bool false) []) (fun _ _=>True)
  (fun i u s hu hi _=>by
   refine⟨fun _ _=>trivial,?_⟩
   have hlt:((i:Int)<T.length)=True:=by simpa using hi
   have hx:=fun σ=>aJ (k:=.i64) (es:=5) (σ:=σ) (ax (f:=Term.row) hu) u.aB
   have kh:=Tj hs u.name u.w hh;have kn:=Tj ns u.name u.w hn;unfold G7;rcases dB (u.op=24)with h1|h1
   ·rw[if_pos (of_eq_true h1)]
    have h2:(u.op=25)=False:=by rw[of_eq_true h1];simp
    cases hd:hs.any (GQ ⟨u.name,u.w⟩)with
    |true=>
     rw[hd]at kh;simp only[ly,if_true];simp(disch:=omega)only[aA,↓aa,seval,-List.reduceReplicate,reduceCtorEq,ae,hlt,hx,aO,h1,h2,Fc,kh,Rh,cj]
    |false=>
     rw[hd]at kh;simp only[ly,kS,if_false];simp(disch:=omega)only[aA,↓aa,seval,-List.reduceReplicate,reduceCtorEq,ae,hlt,hx,aO,h1,h2,Fc,kh,Rh,cj]
   ·rw[if_neg (of_eq_false h1)]
    rcases dB (u.op=25)with h2|h2
    ·rw[if_pos (of_eq_true h2)]
     cases hd:ns.any (GQ ⟨u.name,u.w⟩)with
     |true=>
      rw[hd]at kn;simp only[ly,if_true];simp(disch:=omega)only[aA,↓aa,seval,-List.reduceReplicate,reduceCtorEq,ae,hlt,hx,aO,h1,h2,Fc,kn,Rh,cj]
     |false=>
      rw[hd]at kn;simp only[ly,kS,if_false];simp(disch:=omega)only[aA,↓aa,seval,-List.reduceReplicate,reduceCtorEq,ae,hlt,hx,aO,h1,h2,Fc,kn,Rh,cj]
    ·rw[if_neg (of_eq_false h2)]
     simp only[ly,if_true];simp(disch:=omega)only[aA,↓aa,seval,-List.reduceReplicate,reduceCtorEq,ae,hlt,hx,aO,h1,h2,Rh,cj]) (fun i s=>rfl) () trivial
 rw[Oo]at h;cases hd:T.all (G7 hs ns)with
 |true=>
  rw[hd]at h;obtain⟨_,h⟩:=h;have h':al P x4 (Rh hs ns T 0) [] 61 none=_:=h;simp only[Rh]at h'
  (rw[Lv (aD rfl),sH];simp(disch:=omega)only[aA,↓aa,seval,-List.reduceReplicate,reduceCtorEq,ae,gC,hp,aO,HP,h',ly,kY])
 |false=>
  rw[hd]at h;obtain⟨⟨e',τ',σ',nt',rd'⟩,k1,k2,k3,k4⟩:=h
  simp only at k2 k3 k4
  subst k2;have h':al P x4 (Rh hs ns T 0) [] 61 none=some (.ret,⟨τ',σ',nt',rd'⟩):=k1;simp only[Rh]at h'
  (rw[Lv (aD rfl),sH];simp(disch:=omega)only[aA,↓aa,seval,-List.reduceReplicate,reduceCtorEq,ae,gC,hp,aO,HP,h',k3])
def OA(g:Gd)(hs ns:List V2):Bool:=No (if g.kind=1 then[]else hs) ns g.a && (decide (g.kind=1) ||No (if g.kind=3∨g.kind=4 then[]else hs) ns g.b)
def Mg(g:Gd)(hs ns:List V2):Int :=
 if DG g=false then 1
 else if ¬cB g.a false=0 then cB g.a false
 else if ¬g.kind=1∧¬cB g.b false=0 then cB g.b false
 else if OA g hs ns=false then 12
 else if ¬g.a.w=(if g.kind=1 then 1 else g.b.w)then 3 else 0
theorem Y0(g:Gd)(hs ns:List V2)(ha:ia g.a)(hb:ia g.b)(ca:g.a.count≤400000)(cb:g.b.count≤400000)(hh:hs.length≤1000000)(hn:ns.length≤1000000):R P qh [.agg g.row,.aM (hs.map ay),.aM (ns.map ay)]=some (.int .i64 (Mg g hs ns)):=by
 have kz:=aeq g.b;have k1:=AF g.a false ha (by omega)
 have k2:=AF g.b false hb (by omega)
 have wa:=xr g.a hs ns hh hn (by omega)
 have wb:=xr g.b hs ns hh hn (by omega)
 have wa0:=xr g.a [] ns (by simp) hn (by omega)
 have wb0:=xr g.b [] ns (by simp) hn (by omega)
 simp only[Cb]at wa0 wb0;unfold Mg DG;rw[alW];rcases dB (g.kind=1)with e1|e1
 ·have e1':=of_eq_true e1
  have n3:(g.kind=3)=False:=by rw[e1'];simp
  have n4:(g.kind=4)=False:=by rw[e1'];simp
  have n2:(g.kind=2)=False:=by rw[e1'];simp
  have lo:(g.kind<1)=False:=by rw[e1'];simp
  have hi:(g.kind > 4)=False:=by rw[e1'];simp
  rw[if_pos e1'];cases hz:Zs g.b with
  |false=>
   rw[hz]at kz;simp only[if_true]
   (rw[bW (aD rfl),bz];simp(disch:=omega)only[aA,↓aa,seval,-List.reduceReplicate,reduceCtorEq,ae,bF,aP,qZ,GP,A4,A5,uR,uV,n3,n4,n2,e1,lo,hi,zl,kz])
  |true=>
  rw[hz]at kz;simp only[Nb,if_false];rcases dB (cB g.a false=0)with h1|h1
  rotate_left
  ·rw[if_pos (of_eq_false h1)]
   (rw[bW (aD rfl),bz];simp(disch:=omega)only[aA,↓aa,seval,-List.reduceReplicate,reduceCtorEq,ae,bF,aP,qZ,GP,A4,A5,uR,uV,n3,n4,n2,e1,lo,hi,zl,kz,bB,k1,h1])
  rw[if_neg (not_not_intro (of_eq_true h1))];unfold OA;simp only[e1',not_true,false_and,if_false,if_true,decide_true,TB,abR];cases hw:No [] ns g.a with
  |false=>
   rw[hw]at wa0;simp only[if_true]
   (rw[bW (aD rfl),bz];simp(disch:=omega)only[aA,↓aa,seval,-List.reduceReplicate,reduceCtorEq,ae,bF,aP,qZ,GP,A4,A5,uR,uV,n3,n4,n2,e1,lo,hi,zl,kz,bB,k1,h1,dn,wa0])
  |true=>
   rw[hw]at wa0;rcases dB (g.a.w=1)with w1|w1
   ·simp only[Nb,if_false,of_eq_true w1,not_true]
    (rw[bW (aD rfl),bz];simp(disch:=omega)only[aA,↓aa,seval,-List.reduceReplicate,reduceCtorEq,ae,bF,aP,qZ,GP,A4,A5,uR,uV,n3,n4,n2,e1,lo,hi,zl,kz,bB,k1,h1,dn,wa0,w1])
   ·simp only[Nb,if_false,of_eq_false w1,not_false_eq_true,if_true]
    (rw[bW (aD rfl),bz];simp(disch:=omega)only[aA,↓aa,seval,-List.reduceReplicate,reduceCtorEq,ae,bF,aP,qZ,GP,A4,A5,uR,uV,n3,n4,n2,e1,lo,hi,zl,kz,bB,k1,h1,dn,wa0,w1])
 have e1':=of_eq_false e1;rw[if_neg e1'];have rest:∀(hs':List V2) (wb':R P fG [.agg g.b.row,.aM (hs'.map ay),.aM (ns.map ay)]=some (.bool (No hs' ns g.b))),True:=fun _ _=>trivial
 rcases dB (g.kind=3)with n3|n3
 ·have n3':=of_eq_true n3
  have n4:(g.kind=4)=False:=by rw[n3'];simp
  have n2:(g.kind=2)=False:=by rw[n3'];simp
  have lo:(g.kind<1)=False:=by rw[n3'];simp
  have hi:(g.kind > 4)=False:=by rw[n3'];simp
  rw[if_pos (show g.kind=3∨g.kind=4 from Or.inl n3')];rcases dB (g.a.op=24)with o1|o1
  rotate_left
  ·rw[decide_eq_false (of_eq_false o1)]
   simp only[if_true]
   (rw[bW (aD rfl),bz];simp(disch:=omega)only[aA,↓aa,seval,-List.reduceReplicate,reduceCtorEq,ae,bF,aP,qZ,GP,A4,A5,uR,uV,n3,n4,n2,e1,lo,hi,o1])
  rw[decide_eq_true (of_eq_true o1)];simp only[Nb,if_false];rcases dB (cB g.a false=0)with h1|h1
  rotate_left
  ·rw[if_pos (of_eq_false h1)]
   (rw[bW (aD rfl),bz];simp(disch:=omega)only[aA,↓aa,seval,-List.reduceReplicate,reduceCtorEq,ae,bF,aP,qZ,GP,A4,A5,uR,uV,n3,n4,n2,e1,lo,hi,o1,bB,k1,h1])
  rw[if_neg (not_not_intro (of_eq_true h1))];rcases dB (cB g.b false=0)with h2|h2
  rotate_left
  ·rw[if_pos ⟨e1',of_eq_false h2⟩]
   (rw[bW (aD rfl),bz];simp(disch:=omega)only[aA,↓aa,seval,-List.reduceReplicate,reduceCtorEq,ae,bF,aP,qZ,GP,A4,A5,uR,uV,n3,n4,n2,e1,lo,hi,o1,bB,k1,k2,h1,h2])
  rw[if_neg (fun h=>h.2 (of_eq_true h2))]
  unfold OA;rw[if_neg e1',if_pos (show g.kind=3∨g.kind=4 from Or.inl n3'),decide_eq_false e1',G1,if_neg e1'];cases hw:No hs ns g.a with
  |false=>
   rw[hw]at wa;simp only[Dr,if_true]
   (rw[bW (aD rfl),bz];simp(disch:=omega)only[aA,↓aa,seval,-List.reduceReplicate,reduceCtorEq,ae,bF,aP,qZ,GP,A4,A5,uR,uV,n3,n4,n2,e1,lo,hi,o1,bB,k1,k2,h1,h2,dn,wa])
  |true=>
  rw[hw]at wa;cases hw2:No [] ns g.b with
  |false=>
   rw[hw2]at wb0;simp only[abt,if_true]
   (rw[bW (aD rfl),bz];simp(disch:=omega)only[aA,↓aa,seval,-List.reduceReplicate,reduceCtorEq,ae,bF,aP,qZ,GP,A4,A5,uR,uV,n3,n4,n2,e1,lo,hi,o1,bB,k1,k2,h1,h2,dn,wa,wb0])
  |true=>
   rw[hw2]at wb0;simp only[QM,Nb,if_false];rcases dB (g.a.w=g.b.w)with w1|w1
   ·rw[if_neg (not_not_intro (of_eq_true w1))]
    (rw[bW (aD rfl),bz];simp(disch:=omega)only[aA,↓aa,seval,-List.reduceReplicate,reduceCtorEq,ae,bF,aP,qZ,GP,A4,A5,uR,uV,n3,n4,n2,e1,lo,hi,o1,bB,k1,k2,h1,h2,dn,wa,wb0,w1])
   ·rw[if_pos (of_eq_false w1)]
    (rw[bW (aD rfl),bz];simp(disch:=omega)only[aA,↓aa,seval,-List.reduceReplicate,reduceCtorEq,ae,bF,aP,qZ,GP,A4,A5,uR,uV,n3,n4,n2,e1,lo,hi,o1,bB,k1,k2,h1,h2,dn,wa,wb0,w1])
 rcases dB (g.kind=4)with n4|n4
 ·have n4':=of_eq_true n4
  have n2:(g.kind=2)=False:=by rw[n4'];simp
  have lo:(g.kind<1)=False:=by rw[n4'];simp
  have hi:(g.kind > 4)=False:=by rw[n4'];simp
  rw[if_pos (show g.kind=3∨g.kind=4 from Or.inr n4')];rcases dB (g.a.op=24)with o1|o1
  rotate_left
  ·rw[decide_eq_false (of_eq_false o1)]
   simp only[if_true]
   (rw[bW (aD rfl),bz];simp(disch:=omega)only[aA,↓aa,seval,-List.reduceReplicate,reduceCtorEq,ae,bF,aP,qZ,GP,A4,A5,uR,uV,n3,n4,n2,e1,lo,hi,o1])
  rw[decide_eq_true (of_eq_true o1)];simp only[Nb,if_false];rcases dB (cB g.a false=0)with h1|h1
  rotate_left
  ·rw[if_pos (of_eq_false h1)]
   (rw[bW (aD rfl),bz];simp(disch:=omega)only[aA,↓aa,seval,-List.reduceReplicate,reduceCtorEq,ae,bF,aP,qZ,GP,A4,A5,uR,uV,n3,n4,n2,e1,lo,hi,o1,bB,k1,h1])
  rw[if_neg (not_not_intro (of_eq_true h1))];rcases dB (cB g.b false=0)with h2|h2
  rotate_left
  ·rw[if_pos ⟨e1',of_eq_false h2⟩]
   (rw[bW (aD rfl),bz];simp(disch:=omega)only[aA,↓aa,seval,-List.reduceReplicate,reduceCtorEq,ae,bF,aP,qZ,GP,A4,A5,uR,uV,n3,n4,n2,e1,lo,hi,o1,bB,k1,k2,h1,h2])
  rw[if_neg (fun h=>h.2 (of_eq_true h2))]
  unfold OA;rw[if_neg e1',if_pos (show g.kind=3∨g.kind=4 from Or.inr n4'),decide_eq_false e1',G1,if_neg e1'];cases hw:No hs ns g.a with
  |false=>
   rw[hw]at wa;simp only[Dr,if_true]
   (rw[bW (aD rfl),bz];simp(disch:=omega)only[aA,↓aa,seval,-List.reduceReplicate,reduceCtorEq,ae,bF,aP,qZ,GP,A4,A5,uR,uV,n3,n4,n2,e1,lo,hi,o1,bB,k1,k2,h1,h2,dn,wa])
  |true=>
  rw[hw]at wa;cases hw2:No [] ns g.b with
  |false=>
   rw[hw2]at wb0;simp only[abt,if_true]
   (rw[bW (aD rfl),bz];simp(disch:=omega)only[aA,↓aa,seval,-List.reduceReplicate,reduceCtorEq,ae,bF,aP,qZ,GP,A4,A5,uR,uV,n3,n4,n2,e1,lo,hi,o1,bB,k1,k2,h1,h2,dn,wa,wb0])
  |true=>
   rw[hw2]at wb0;simp only[QM,Nb,if_false];rcases dB (g.a.w=g.b.w)with w1|w1
   ·rw[if_neg (not_not_intro (of_eq_true w1))]
    (rw[bW (aD rfl),bz];simp(disch:=omega)only[aA,↓aa,seval,-List.reduceReplicate,reduceCtorEq,ae,bF,aP,qZ,GP,A4,A5,uR,uV,n3,n4,n2,e1,lo,hi,o1,bB,k1,k2,h1,h2,dn,wa,wb0,w1])
   ·rw[if_pos (of_eq_false w1)]
    (rw[bW (aD rfl),bz];simp(disch:=omega)only[aA,↓aa,seval,-List.reduceReplicate,reduceCtorEq,ae,bF,aP,qZ,GP,A4,A5,uR,uV,n3,n4,n2,e1,lo,hi,o1,bB,k1,k2,h1,h2,dn,wa,wb0,w1])
 have hno:¬(g.kind=3∨g.kind=4):=by rintro(h|h);exact of_eq_false n3 h;exact of_eq_false n4 h
 rw[if_neg hno];rcases dB (g.kind=2)with n2|n2
 rotate_left
 ·rw[decide_eq_false (of_eq_false n2)]
  simp only[if_true];have hout:g.kind<1∨g.kind > 4:=by have a1:=of_eq_false n2;have a3:=of_eq_false n3;have a4:=of_eq_false n4;omega
  by_cases lo:g.kind<1
  ·have lo':=eq_true lo
   (rw[bW (aD rfl),bz];simp(disch:=omega)only[aA,↓aa,seval,-List.reduceReplicate,reduceCtorEq,ae,bF,aP,qZ,GP,A4,A5,uR,uV,n3,n4,n2,e1,lo'])
  ·have lo':=eq_false lo
   have hi':(g.kind > 4)=True:=eq_true (hout.resolve_left lo)
   (rw[bW (aD rfl),bz];simp(disch:=omega)only[aA,↓aa,seval,-List.reduceReplicate,reduceCtorEq,ae,bF,aP,qZ,GP,A4,A5,uR,uV,n3,n4,n2,e1,lo',hi'])
 have n2':=of_eq_true n2;have lo:(g.kind<1)=False:=by rw[n2'];simp
 have hi:(g.kind > 4)=False:=by rw[n2'];simp
 rw[decide_eq_true n2'];simp only[Nb,if_false];rcases dB (cB g.a false=0)with h1|h1
 rotate_left
 ·rw[if_pos (of_eq_false h1)]
  (rw[bW (aD rfl),bz];simp(disch:=omega)only[aA,↓aa,seval,-List.reduceReplicate,reduceCtorEq,ae,bF,aP,qZ,GP,A4,A5,uR,uV,n3,n4,n2,e1,lo,hi,bB,k1,h1])
 rw[if_neg (not_not_intro (of_eq_true h1))];rcases dB (cB g.b false=0)with h2|h2
 rotate_left
 ·rw[if_pos ⟨e1',of_eq_false h2⟩]
  (rw[bW (aD rfl),bz];simp(disch:=omega)only[aA,↓aa,seval,-List.reduceReplicate,reduceCtorEq,ae,bF,aP,qZ,GP,A4,A5,uR,uV,n3,n4,n2,e1,lo,hi,bB,k1,k2,h1,h2])
 rw[if_neg (fun h=>h.2 (of_eq_true h2))]
 unfold OA;rw[if_neg e1',if_neg hno,decide_eq_false e1',G1,if_neg e1'];cases hw:No hs ns g.a with
 |false=>
  rw[hw]at wa;simp only[Dr,if_true]
  (rw[bW (aD rfl),bz];simp(disch:=omega)only[aA,↓aa,seval,-List.reduceReplicate,reduceCtorEq,ae,bF,aP,qZ,GP,A4,A5,uR,uV,n3,n4,n2,e1,lo,hi,bB,k1,k2,h1,h2,dn,wa])
 |true=>
 rw[hw]at wa;cases hw2:No hs ns g.b with
 |false=>
  rw[hw2]at wb;simp only[abt,if_true]
  (rw[bW (aD rfl),bz];simp(disch:=omega)only[aA,↓aa,seval,-List.reduceReplicate,reduceCtorEq,ae,bF,aP,qZ,GP,A4,A5,uR,uV,n3,n4,n2,e1,lo,hi,bB,k1,k2,h1,h2,dn,wa,wb])
 |true=>
  rw[hw2]at wb;simp only[QM,Nb,if_false];rcases dB (g.a.w=g.b.w)with w1|w1
  ·rw[if_neg (not_not_intro (of_eq_true w1))]
   (rw[bW (aD rfl),bz];simp(disch:=omega)only[aA,↓aa,seval,-List.reduceReplicate,reduceCtorEq,ae,bF,aP,qZ,GP,A4,A5,uR,uV,n3,n4,n2,e1,lo,hi,bB,k1,k2,h1,h2,dn,wa,wb,w1])
  ·rw[if_pos (of_eq_false w1)]
   (rw[bW (aD rfl),bz];simp(disch:=omega)only[aA,↓aa,seval,-List.reduceReplicate,reduceCtorEq,ae,bF,aP,qZ,GP,A4,A5,uR,uV,n3,n4,n2,e1,lo,hi,bB,k1,k2,h1,h2,dn,wa,wb,w1])
theorem Ql(a:Atom):R P qk [.agg a.row]=some (.agg (uG a).row):=by
 (rw[ad6 (aD rfl),yP];simp(disch:=omega)only[aA,↓aa,seval,-List.reduceReplicate,reduceCtorEq,ae,iu,eL,jl,ZE])
 rfl
abbrev GS(s:List Term):ag:=[.pv 5 (s.map Term.row) false]
theorem QT(s:List Term)(t:Term)(hs:s.length≤1000000000){r:ag}:zU (.pv 5 (s.map Term.row) false::r) 5 64 (.sl 0 s.length) (some (.inl [t.row]))=some (.sl 0 (s.length+1),.pv 5 ((s++[t]).map Term.row) false::r):=by
 rw[dA (σ:=.pv 5 (s.map Term.row) false::r) (b:=0) (n:=s.length) (e:=5) (rows:=s.map Term.row) rfl (by simp) (.inl rfl) (by simp only[lH,l5];omega)]
 simp only[BY,sP,Cb,abc,lH,l5,tn]
theorem apA{z:List AV}:kU [] 5 0 (gz (List.replicate 0 z).flatten [])=some (.sl 0 0,[.pv 5 [] false]):=rfl
theorem avz{l:List Term}{n:Nat}{c:Bool}:(if c=true then GS l else bL (GS l) (refs (GS l) 12 (.sl 0 n)))=[Obj.pv 5 (l.map Term.row) (!c)]:=by cases c<;>rfl
theorem asX{l:List Term}{n:Nat}{c f:Bool}:(if c=true then[Obj.pv 5 (l.map Term.row) f]else bL [Obj.pv 5 (l.map Term.row) f] (refs [Obj.pv 5 (l.map Term.row) f] 12 (.sl 0 n)))=[Obj.pv 5 (l.map Term.row) (f || !c)]:=by cases c<;>cases f<;>rfl
theorem asY{l:List Term}{c f:Bool}:(if c=true then[Obj.pv 5 (l.map Term.row) f]else dK [Obj.pv 5 (l.map Term.row) f] 0)=[Obj.pv 5 (l.map Term.row) (f || !c)]:=by cases c<;>cases f<;>rfl
theorem auf{l:List Term}{f:Bool}:aG [Obj.pv 5 (l.map Term.row) f] 12 (.sl 0 l.length)=some (.aM (l.map Term.row)):=by simp[aG]
abbrev ai2(r:dR)(s:List Term)(i:Int):List (Nat×AV):=[(1,.p (.ptr r.row 0)),(4,.sl 0 s.length),(5,.p (.int .i64 i))]
theorem LD(r:dR)(hl:r.left.length≤1000000)(hc:Term.counts (ec r.left)≤500000):R P nH [.agg r.row]=some (.jC [.aM ((dU r).map ay),.aM ((ja r).map ay)]):=by
 obtain⟨_,h⟩:=ic (P:=P) (nt:=43) (lv:=[1,4,5]) (b:=tx) (rd:=none) (as:=r.left) (fun i (s:List Term)=>ai2 r s i) GS (fun i s a=>s++AH a) (fun i s=>s.length≤2*i)
  (fun i a s ha hi hs=>by
   have h2:=Kg a;refine⟨by rw[jE];omega,?_⟩
   have hlt:((i:Int)<r.left.length)=True:=by simpa using hi
   have hx:=fun σ=>aJ (k:=.i64) (es:=6) (σ:=σ) (ax (f:=Atom.row) ha) a.aB
   have hr:=Ql a;unfold AH;rcases dB (a.root=bs [])with h1|h1
   ·have h1':=of_eq_true h1
    have a1:=fun r=>QT (r:=r) s a.pat (by omega)
    rw[if_pos h1',x9];simp only[tx];simp(disch:=omega)only[aA,↓aa,seval,-List.reduceReplicate,reduceCtorEq,ae,hlt,xt,aO,hx,iu,eL,jl,pf,h1,kT,u0,a1,ai2,jE]
    try rfl
   ·have h1':=of_eq_false h1
    have a1:=fun r=>QT (r:=r) s (uG a) (by omega)
    have a2:=fun r=>QT (r:=r) (s++[uG a]) a.pat (by simp;omega)
    rw[if_neg h1',←TA];simp only[jE,lH,l5,tn]at a2;simp only[tx];simp(disch:=omega)only[aA,↓aa,seval,-List.reduceReplicate,reduceCtorEq,ae,hlt,xt,aO,hx,iu,eL,jl,pf,h1,PI,hr,kT,u0,a1,a2,ai2,jE]
    try rfl) (fun i s=>rfl) [] (by simp) _ (s7 AH r.left 0 [])
 rw[x9]at h;have h':al P B2 (ai2 r [] 0) [.pv 5 [] false] 43 none=_:=h;simp only[ai2,l5]at h';have k1:=Qj 24 (ec r.left) hc;have k2:=Qj 25 (ec r.left) hc;unfold dU ja;have hd:r.left.flatMap AH=ec r.left:=rfl;rw[hd]at h'
 (rw[Yw (aD rfl),wW];simp(disch:=omega)only[aA,↓aa,seval,-List.reduceReplicate,reduceCtorEq,ae,aZ,xt,apA,UC,h',tx,kY,aO,adS,k1,k2,avz,asX,asY,auf])
def Bx(u:Term):List Term:=if isVar u=true then[u]else[]
def mtA(a:Atom):List Term:=(if a.root=bs []then[]else[uG a])++a.pat.pre.flatMap Bx
def zE(l:List Atom):List Term:=l.flatMap mtA
abbrev Ku(r:dR)(s T:List Term)(i k:Int):List (Nat×AV):=[(1,.p (.ptr r.row 0)),(3,.sl 0 s.length),(4,.p (.int .i64 i)),(5,.p (.aM (T.map Term.row))),(6,.p (.int .i64 k))]
theorem ao1(r:dR)(T s0:List Term)(i:Nat)(hT:T.length≤1000000)(h0:s0.length≤100000000):al P vh (Ku r s0 T i 0) (GS s0) 66 none=back P [1,3,4,5,6] eJ 1 (exec P eJ ⟨tm (Ku r (s0++T.flatMap Bx) T i T.length),GS (s0++T.flatMap Bx),66,none⟩):=by
 obtain⟨_,h⟩:=ic (P:=P) (nt:=66) (lv:=[1,3,4,5,6]) (b:=eJ) (rd:=none) (as:=T) (fun k (s:List Term)=>Ku r s T i k) GS (fun _ s u=>s++Bx u) (fun k s=>s.length≤s0.length+k)
  (fun k u s hu hk hs=>by
   have hlt:((k:Int)<T.length)=True:=by simpa using hk
   have hx:=fun σ=>aJ (k:=.i64) (es:=5) (σ:=σ) (ax (f:=Term.row) hu) u.aB
   have a1:=fun r=>QT (r:=r) s u (by omega)
   unfold Bx isVar;rcases dB (u.op=24)with h1|h1
   ·have e:(decide (u.op=24∨u.op=25)=true):=decide_eq_true (.inl (of_eq_true h1))
    rw[if_pos e];refine⟨by rw[jE];simp only[lH,l5];omega,?_⟩
    simp only[eJ];simp(disch:=omega)only[aA,↓aa,seval,-List.reduceReplicate,reduceCtorEq,ae,hlt,aO,hx,h1,kT,u0,a1,Ku,jE]
    try rfl
   ·rcases dB (u.op=25)with h2|h2
    ·have e:(decide (u.op=24∨u.op=25)=true):=decide_eq_true (.inr (of_eq_true h2))
     rw[if_pos e];refine⟨by rw[jE];simp only[lH,l5];omega,?_⟩
     simp only[eJ];simp(disch:=omega)only[aA,↓aa,seval,-List.reduceReplicate,reduceCtorEq,ae,hlt,aO,hx,h1,h2,kT,u0,a1,Ku,jE]
     try rfl
    ·have e:¬(decide (u.op=24∨u.op=25)=true):=by
      rw[decide_eq_true_eq]
      rintro(h|h)
      ·exact of_eq_false h1 h
      ·exact of_eq_false h2 h
     rw[if_neg e,Zy];refine⟨by omega,?_⟩
     simp only[eJ];simp(disch:=omega)only[aA,↓aa,seval,-List.reduceReplicate,reduceCtorEq,ae,hlt,aO,hx,h1,h2,Ku]
     try rfl) (fun i s=>rfl) s0 (by omega) _ (s7 Bx T 0 s0)
 exact h
theorem aks(u:Term):(Bx u).length≤1:=by unfold Bx;split<;>simp
theorem Cl{α β:Type}(f:α→List β)(k:Nat):∀l:List α,(∀a∈l,(f a).length≤k)→(l.flatMap f).length≤l.length*k
 | [],_=>by simp
 |a::l,h=>by
  have h1:=Cl f k l (fun x hx=>h x (by simp[hx]))
  have h2:=h a (by simp)
  simp only[VF,jE,lH,acf];omega
theorem afw(a:Atom):(mtA a).length≤1+a.pat.count:=by
 have h:=Cl Bx 1 a.pat.pre (fun u _=>aks u)
 rw[Term.lX]at h;unfold mtA;rw[jE];split
 ·simp only[l5];omega
 ·simp only[lH,l5];omega
abbrev W3(r:dR)(s:List Term)(i:Int):List (Nat×AV):=[(1,.p (.ptr r.row 0)),(3,.sl 0 s.length),(4,.p (.int .i64 i))]
theorem ME(r:dR)(h:iS r):R P jr [.agg r.row]=some (.aM ((zE r.left).map Term.row)):=by
 have hll:=h.ll
 obtain⟨_,hL⟩:=ic (P:=P) (nt:=66) (lv:=[1,3,4]) (b:=mM) (rd:=none) (as:=r.left) (fun i (s:List Term)=>W3 r s i) GS (fun i s a=>s++mtA a) (fun i s=>s.length≤401*i)
  (fun i a s ha hi hs=>by
   have hat:=h.lt a (mi ha);have h2:=afw a;refine⟨by rw[jE];omega,?_⟩
   have hlt:((i:Int)<r.left.length)=True:=by simpa using hi
   have hx:=fun σ=>aJ (k:=.i64) (es:=6) (σ:=σ) (ax (f:=Atom.row) ha) a.aB
   have hr:=Ql a;have hp:=uJ a.pat (by omega)
   have hpl:=Term.lX a.pat;unfold mtA;rcases dB (a.root=bs [])with h1|h1
   ·have h1':=of_eq_true h1
    have h3:=ao1 r a.pat.pre s i (by omega) (by omega)
    simp only[Ku,GS]at h3;rw[if_pos h1',x9];simp only[mM];simp(disch:=omega)only[aA,↓aa,seval,-List.reduceReplicate,reduceCtorEq,ae,hlt,xt,aO,hx,iu,eL,jl,pf,h1,gC,hp,Bt,h3,eJ,kY,W3]
    try rfl
   ·have h1':=of_eq_false h1
    have a1:=fun r=>QT (r:=r) s (uG a) (by omega)
    have h3:=ao1 r a.pat.pre (s++[uG a]) i (by omega) (by simp;omega)
    simp only[Ku,GS,jE,lH,l5,tn]at h3;rw[if_neg h1',←TA];simp only[mM];simp(disch:=omega)only[aA,↓aa,seval,-List.reduceReplicate,reduceCtorEq,ae,hlt,xt,aO,hx,iu,eL,jl,pf,h1,PI,hr,kT,u0,a1,gC,hp,Bt,h3,eJ,kY,W3,jE]
    try rfl) (fun i s=>rfl) [] (by simp) _ (s7 mtA r.left 0 [])
 rw[x9]at hL;have h':al P vf (W3 r [] 0) [.pv 5 [] false] 66 none=_:=hL;have hd:r.left.flatMap mtA=zE r.left:=rfl;rw[hd]at h';simp only[W3,l5]at h'
 (rw[Mx (aD rfl),oB];simp(disch:=omega)only[aA,↓aa,seval,-List.reduceReplicate,reduceCtorEq,ae,aZ,xt,apA,JT,h',mM,kY,aO,auf])
def Zz(u v:Term):Bool:=decide (u.name=v.name∧(¬u.op=v.op∨¬u.w=v.w))
def Fs(p:List Term):List Term→Bool
 | []=>false
 |m::r=>p.any (Zz m) ||Fs (p++[m]) r
abbrev FG(T:List Term)(i k:Int):List (Nat×AV):=[(0,.p (.aM (T.map Term.row))),(3,.p (.int .i64 i)),(4,.p (.int .i64 k))]
theorem ajR(T:List Term)(i:Nat)(u:Term)(hu:T[i]?=some u)(hl:T.length≤1000000) :
  nC (fun _:Unit=>True∧al P x8 (FG T i 0) [] 53 none=back P [0,3,4] jM 0 (exec P jM ⟨tm (FG T i i),[],53,none⟩)) (fun _:Unit=>∃r,al P x8 (FG T i 0) [] 53 none=some r∧cj 2 (.bool true) [] r) (if(T.take i).any (Zz u)=true then .inr ()else .inl ()):=by
 have hi:i<T.length:=(fU.1 hu).1;have hlen:(T.take i).length=i:=by rw[abC];omega
 have hui:=fun σ=>aJ (k:=.i64) (es:=5) (σ:=σ) (ax (f:=Term.row) hu) u.aB
 have h:=cE (P:=P) (nt:=53) (lv:=[0,3,4]) (b:=jM) (rd:=none) (as:=T.take i) (fun k (_:Unit)=>FG T i k) (fun _=>[]) (fun _ _ v=>if Zz u v=true then .inr ()else .inl ())
  (fun(_:Unit)=>cj 2 (.bool true) []) (fun _ _=>True)
  (fun k v s hv hk hs=>by
   refine⟨fun _ _=>trivial,?_⟩
   rw[hlen]at hk;have hv':T[k]?=some v:=by rw[VK hk]at hv;exact hv
   have hlt:((k:Int)<i)=True:=by simpa using hk
   have hvi:=fun σ=>aJ (k:=.i64) (es:=5) (σ:=σ) (ax (f:=Term.row) hv') v.aB
   unfold Zz;rcases dB (u.name=v.name)with h1|h1
   ·rcases dB (u.op=v.op)with h2|h2
    ·rcases dB (u.w=v.w)with h3|h3
     ·rw[decide_eq_false (by rintro⟨_,h|h⟩;exact h (of_eq_true h2);exact h (of_eq_true h3))]
      simp only[jM,kS,if_false];simp(disch:=omega)only[aA,↓aa,seval,-List.reduceReplicate,reduceCtorEq,ae,hlt,hvi,hui,h1,h2,h3,FG,cj]
     ·rw[decide_eq_true ⟨of_eq_true h1,.inr (of_eq_false h3)⟩]
      simp only[jM,if_true];simp(disch:=omega)only[aA,↓aa,seval,-List.reduceReplicate,reduceCtorEq,ae,hlt,hvi,hui,h1,h2,h3,FG,cj]
    ·rw[decide_eq_true ⟨of_eq_true h1,.inl (of_eq_false h2)⟩]
     simp only[jM,if_true];simp(disch:=omega)only[aA,↓aa,seval,-List.reduceReplicate,reduceCtorEq,ae,hlt,hvi,hui,h1,h2,FG,cj]
   ·rw[decide_eq_false (fun h=>of_eq_false h1 h.1)]
    simp only[jM,kS,if_false];simp(disch:=omega)only[aA,↓aa,seval,-List.reduceReplicate,reduceCtorEq,ae,hlt,hvi,hui,h1,FG,cj]) (fun i s=>rfl) () trivial
 rw[Gt]at h;rw[hlen]at h;exact h
theorem Xo(T:List Term):∀(r:List Term) (i:Nat),T.drop i=r→aq (S:=Unit) (T:=Unit) (fun i _ u=>if(T.take i).any (Zz u)=true then .inr ()else .inl ()) i () r=if Fs (T.take i) r=true then .inr ()else .inl ()
 | [],i,h=>rfl
 |a::r,i,h=>by
  have hi:i<T.length:=by
   rcases VN i T.length with h1|h1
   ·exact h1
   ·rw[abZ h1]at h;cases h
  have hg:T[i]?=some a:=by
   rw[←List.head?_drop,h];rfl
  have hr:T.drop (i+1)=r:=by rw[←List.tail_drop,h];rfl
  have ht:T.take (i+1)=T.take i++[a]:=by rw[List.take_add_one,hg];rfl
  unfold aq Fs;by_cases h1:(T.take i).any (Zz a)=true
  ·simp only[h1,if_true,TB]
  ·have h':(T.take i).any (Zz a)=false:=by simpa using h1
   simp only[h',G1,kS,if_false];rw[Xo T r (i+1) hr,ht]
theorem Y2(T:List Term)(hl:T.length≤1000000):R P qj [.aM (T.map Term.row)]=some (.bool (Fs [] T)):=by
 have h:=cE (P:=P) (nt:=53) (lv:=[0,3]) (b:=tz) (rd:=none) (as:=T) (fun i (_:Unit)=>[(0,.p (.aM (T.map Term.row))),(3,.p (.int .i64 (i:Int)))]) (fun _=>[]) (fun i _ u=>if(T.take i).any (Zz u)=true then .inr ()else .inl ())
  (fun(_:Unit)=>cj 2 (.bool true) []) (fun _ _=>True)
  (fun i u s ha hi hs=>by
   refine⟨fun _ _=>trivial,?_⟩
   have hlt:((i:Int)<T.length)=True:=by simpa using hi
   have h2:=ajR T i u ha hl;cases hc:(T.take i).any (Zz u)with
   |true=>
    rw[hc]at h2;obtain⟨⟨e',τ',σ',nt',rd'⟩,k1,k2,k3,k4⟩:=h2
    simp only at k2 k3 k4
    subst k2;simp only[FG]at k1;simp only[if_true];simp only[tz];simp(disch:=omega)only[aA,↓aa,seval,-List.reduceReplicate,reduceCtorEq,ae,hlt,aO,HU,k1,k3,k4,cj]
   |false=>
    rw[hc]at h2;obtain⟨_,k1⟩:=h2;simp only[FG]at k1;simp only[kS,if_false];simp only[tz];simp(disch:=omega)only[aA,↓aa,seval,-List.reduceReplicate,reduceCtorEq,ae,hlt,aO,HU,k1,jM,kY,cj]) (fun i s=>rfl) () trivial
 have e:=Xo T T 0 rfl;rw[List.take_zero]at e;rw[e]at h;cases hc:Fs [] T with
 |false=>
  rw[hc]at h;obtain⟨_,h⟩:=h;have h':al P x5 [(0,.p (.aM (T.map Term.row))),(3,.p (.int .i64 0))] [] 53 none=_:=h
  (rw[Lw (aD rfl),sL];simp(disch:=omega)only[aA,↓aa,seval,-List.reduceReplicate,reduceCtorEq,ae,aO,HQ,h',tz,kY])
 |true=>
  rw[hc]at h;obtain⟨⟨e',τ',σ',nt',rd'⟩,k1,k2,k3,k4⟩:=h
  simp only at k2 k3 k4
  subst k2;have h':al P x5 [(0,.p (.aM (T.map Term.row))),(3,.p (.int .i64 0))] [] 53 none=some (.ret,⟨τ',σ',nt',rd'⟩):=k1
  (rw[Lw (aD rfl),sL];simp(disch:=omega)only[aA,↓aa,seval,-List.reduceReplicate,reduceCtorEq,ae,aO,HQ,h',k3])
abbrev Md(r:dR)(i:Int):List (Nat×AV):=[(1,.p (.ptr r.row 0)),(3,.p (.int .i64 i))]
theorem aqc(r:dR)(h:iS r):nC (fun _:Unit=>True∧al P sN (Md r 0) [] 71 none=back P [1,3] iM 0 (exec P iM ⟨tm (Md r r.left.length),[],71,none⟩)) (fun e:Int=>∃q,al P sN (Md r 0) [] 71 none=some q∧cj 2 (.int .i64 e) [] q) (if yd r.left=0 then .inl ()else .inr (yd r.left)):=by
 have hll:=h.ll
 have hL:=cE (P:=P) (nt:=71) (lv:=[1,3]) (b:=iM) (rd:=none) (as:=r.left) (fun i (_:Unit)=>Md r i) (fun _=>[]) (fun _ _ a=>if jZ a=0 then .inl ()else .inr (jZ a)) (fun e=>cj 2 (.int .i64 e) []) (fun _ _=>True)
  (fun i a s ha hi hs=>by
   refine⟨fun _ _=>trivial,?_⟩
   have hat:=h.lt a (mi ha);have hlt:((i:Int)<r.left.length)=True:=by simpa using hi
   have hx:=fun σ=>aJ (k:=.i64) (es:=6) (σ:=σ) (ax (f:=Atom.row) ha) a.aB
   have c1:=AF a.pat false hat.1 (by omega)
   have c3:=vY a.root;rcases dB (cB a.pat false=0)with h1|h1
   rotate_left
   ·have h1':=of_eq_false h1
    have e:jZ a=cB a.pat false:=by unfold jZ;rw[if_pos h1']
    rw[e,if_neg h1'];simp only[iM];simp(disch:=omega)only[aA,↓aa,seval,-List.reduceReplicate,reduceCtorEq,ae,hlt,hx,xt,aO,iu,eL,jl,ZE,pf,bB,c1,h1,Md,cj]
   have h1':=of_eq_true h1;have e0:jZ a=if ¬a.root=bs []∧iA a.root=false then 5 else 0:=by unfold jZ;rw[if_neg (not_not_intro h1')]
   rcases dB (a.root=bs [])with h2|h2
   ·have h2':=of_eq_true h2
    have e:jZ a=0:=by rw[e0];exact if_neg (fun h=>h.1 h2')
    rw[e,if_pos rfl];simp only[iM];simp(disch:=omega)only[aA,↓aa,seval,-List.reduceReplicate,reduceCtorEq,ae,hlt,hx,xt,aO,iu,eL,jl,ZE,pf,bB,c1,h1,h2,Md,cj]
   ·have h2':=of_eq_false h2
    cases hn:iA a.root with
    |true=>
     rw[hn]at c3 e0;have e:jZ a=0:=by rw[e0];exact if_neg (fun h=>by cases h.2)
     rw[e,if_pos rfl];simp only[iM];simp(disch:=omega)only[aA,↓aa,seval,-List.reduceReplicate,reduceCtorEq,ae,hlt,hx,xt,aO,iu,eL,jl,ZE,pf,bB,c1,h1,h2,iC,c3,Md,cj]
    |false=>
     rw[hn]at c3 e0;have e:jZ a=5:=by rw[e0];exact if_pos ⟨h2',rfl⟩
     rw[e,if_neg (by decide)]
     simp only[iM];simp(disch:=omega)only[aA,↓aa,seval,-List.reduceReplicate,reduceCtorEq,ae,hlt,hx,xt,aO,iu,eL,jl,ZE,pf,bB,c1,h1,h2,iC,c3,Md,cj]) (fun i s=>rfl) () trivial
 rw[JL]at hL;exact hL
def Se(r:dR):Int:=if Fs [] (zE r.left)=true then 12 else if 16<((dU r).length:Int)+(ja r).length then 7 else 0
def ON(r:dR):Int:=if ¬t2 r=0 then t2 r else if ¬yd r.left=0 then yd r.left else Se r
theorem aep(r:dR)(h:iS r)(hl100:r.left.length≤100):R P sq [.agg r.row]=some (.int .i64 (ON r)):=by
 have hll:=h.ll;have hgl:=h.gl;unfold ON;by_cases g1:(r.left.length:Int)<1
 ·have g0:r.left.length=0:=by omega
  have ht2:t2 r=7:=by unfold t2;exact if_pos (.inl g0)
  rw[ht2,if_pos (by decide)]
  (rw[sz (aD rfl),kC];simp(disch:=omega)only[aA,↓aa,seval,-List.reduceReplicate,reduceCtorEq,ae,bQ,aZ,xt,Fj,aO,g1])
 by_cases g2:4<r.left.length
 ·have g2':((r.left.length:Int) > 4)=True:=by simp;omega
  have ht2:t2 r=7:=by unfold t2;exact if_pos (.inr (.inl g2))
  rw[ht2,if_pos (by decide)]
  (rw[sz (aD rfl),kC];simp(disch:=omega)only[aA,↓aa,seval,-List.reduceReplicate,reduceCtorEq,ae,bQ,aZ,xt,Fj,aO,g1,g2'])
 have g2':((r.left.length:Int) > 4)=False:=by simp;omega
 by_cases g3:8<r.guards.length
 ·have g3':((r.guards.length:Int) > 8)=True:=by simp;omega
  have ht2:t2 r=7:=by unfold t2;exact if_pos (.inr (.inr g3))
  rw[ht2,if_pos (by decide)]
  (rw[sz (aD rfl),kC];simp(disch:=omega)only[aA,↓aa,seval,-List.reduceReplicate,reduceCtorEq,ae,bQ,aZ,xt,Fj,aO,g1,g2',g3'])
 have g3':((r.guards.length:Int) > 8)=False:=by simp;omega
 have ht2:t2 r=0:=by unfold t2;exact if_neg (by omega)
 rw[ht2,if_neg (by decide)]
 have hL:=aqc r h;rcases dB (yd r.left=0)with c0|c0
 rotate_left
 ·have c0':=of_eq_false c0
  rw[if_neg c0']at hL;rw[if_pos c0'];obtain⟨⟨e',τ',σ',nt',rd'⟩,k1,k2,k3,k4⟩:=hL
  simp only at k2 k3 k4
  subst k2;have h':al P sN (Md r 0) [] 71 none=some (.ret,⟨τ',σ',nt',rd'⟩):=k1;simp only[Md]at h'
  (rw[sz (aD rfl),kC];simp(disch:=omega)only[aA,↓aa,seval,-List.reduceReplicate,reduceCtorEq,ae,bQ,aZ,xt,Fj,aO,g1,g2',g3',Ab,h',k3])
 have c0':=of_eq_true c0;rw[if_pos c0']at hL;rw[if_neg (not_not_intro c0')];obtain⟨_,hL⟩:=hL;have h':al P sN (Md r 0) [] 71 none=_:=hL;simp only[Md]at h';have hsc:=yn h hl100;have kv:=ME r h;have hml:=Cl mtA 401 r.left (fun a ha=>by have h1:=afw a;have h2:=(h.lt a ha).2;omega)
 have hm2:r.left.length*401≤100*401:=MK _ hl100;have kc:=Y2 (zE r.left) (by unfold zE;omega)
 have kn:=LD r (by omega) (by omega)
 have lh:=mA 24 (ec r.left);have ln:=mA 25 (ec r.left);have lh':(dU r).length≤80000:=by unfold dU;omega
 have ln':(ja r).length≤80000:=by unfold ja;omega
 have hw:IntKind.i64.wrap (((dU r).length:Int)+(ja r).length)=((dU r).length:Int)+(ja r).length:=IntWalk.i64_in _ (by omega)
 unfold Se;cases hc:Fs [] (zE r.left)with
 |true=>
  rw[hc]at kc;simp only[if_true]
  (rw[sz (aD rfl),kC];simp(disch:=omega)only[aA,↓aa,seval,-List.reduceReplicate,reduceCtorEq,ae,bQ,aZ,xt,Fj,aO,g1,g2',g3',Ab,h',iM,kY,xI,kv,Ez,kc])
 |false=>
  rw[hc]at kc;simp only[kS,if_false];by_cases g4:(16:Int)<((dU r).length:Int)+(ja r).length
  ·simp only[g4,if_true]
   (rw[sz (aD rfl),kC];simp(disch:=omega)only[aA,↓aa,seval,-List.reduceReplicate,reduceCtorEq,ae,bQ,aZ,xt,Fj,aO,g1,g2',g3',Ab,h',iM,kY,xI,kv,Ez,kc,te,kn,hw,g4])
  ·simp only[g4,if_false]
   (rw[sz (aD rfl),kC];simp(disch:=omega)only[aA,↓aa,seval,-List.reduceReplicate,reduceCtorEq,ae,bQ,aZ,xt,Fj,aO,g1,g2',g3',Ab,h',iM,kY,xI,kv,Ez,kc,te,kn,hw,g4])
def FK(hs ns:List V2):List Gd→Int
 | []=>0
 |g::r=>if Mg g hs ns=0 then FK hs ns r else Mg g hs ns
theorem Ou(hs ns:List V2):∀(l:List Gd) (i:Nat),aq (S:=Unit) (T:=Int) (fun _ _ a=>if Mg a hs ns=0 then .inl ()else .inr (Mg a hs ns)) i () l=if FK hs ns l=0 then .inl ()else .inr (FK hs ns l)
 | [],i=>rfl
 |a::r,i=>by
  unfold aq FK;by_cases h:Mg a hs ns=0
  ·simp only[h,if_true];exact Ou hs ns r (i+1)
  ·simp only[h,if_false]
abbrev Rg(r:dR)(hs ns:List V2)(i:Int):List (Nat×AV):=[(1,.p (.ptr r.row 0)),(4,.p (.aM (hs.map ay))),(5,.p (.aM (ns.map ay))),(6,.p (.int .i64 i))]
theorem ahg(r:dR)(hs ns:List V2)(h:iS r)(hh:hs.length≤1000000)(hn:ns.length≤1000000):nC (fun _:Unit=>True∧al P qI (Rg r hs ns 0) [] 61 none=back P [1,4,5,6] nP 0 (exec P nP ⟨tm (Rg r hs ns r.guards.length),[],61,none⟩)) (fun e:Int=>∃q,al P qI (Rg r hs ns 0) [] 61 none=some q∧cj 2 (.int .i64 e) [] q) (if FK hs ns r.guards=0 then .inl ()else .inr (FK hs ns r.guards)):=by
 have hgl:=h.gl
 have hL:=cE (P:=P) (nt:=61) (lv:=[1,4,5,6]) (b:=nP) (rd:=none) (as:=r.guards) (fun i (_:Unit)=>Rg r hs ns i) (fun _=>[]) (fun _ _ a=>if Mg a hs ns=0 then .inl ()else .inr (Mg a hs ns)) (fun e=>cj 2 (.int .i64 e) []) (fun _ _=>True)
  (fun i g s ha hi _=>by
   refine⟨fun _ _=>trivial,?_⟩
   have hm:=h.gt g (mi ha);have hlt:((i:Int)<r.guards.length)=True:=by simpa using hi
   have hx:=fun σ=>aJ (k:=.i64) (es:=11) (σ:=σ) (ax (f:=Gd.row) ha) g.aB
   have hg:=Y0 g hs ns hm.1 hm.2.1 (by omega) (by omega) hh hn
   rcases dB (Mg g hs ns=0)with h1|h1
   ·rw[if_pos (of_eq_true h1)]
    simp only[nP];simp(disch:=omega)only[aA,↓aa,seval,-List.reduceReplicate,reduceCtorEq,ae,hlt,hx,Fj,aO,bF,aP,Lp,hg,h1,Rg,cj]
   ·rw[if_neg (of_eq_false h1)]
    simp only[nP];simp(disch:=omega)only[aA,↓aa,seval,-List.reduceReplicate,reduceCtorEq,ae,hlt,hx,Fj,aO,bF,aP,Lp,hg,h1,Rg,cj]) (fun i s=>rfl) () trivial
 rw[Ou]at hL;exact hL
def anY(r:dR):Int :=
 if iA r.name=false then 5
 else if ¬ON r=0 then ON r
 else if ¬cB r.right true=0 then cB r.right true
 else if No (dU r) (ja r) r.right=false then 12
 else if ¬t7 r=0 then t7 r
 else FK (dU r) (ja r) r.guards
theorem YZ(r:dR)(h:iS r)(hl100:r.left.length≤100):R P qg [.agg r.row]=some (.int .i64 (anY r)):=by
 have hll:=h.ll;have kn:=vY r.name;have kl:=aep r h hl100;have kc:=AF r.right true h.rt.1 (by have:=h.rt.2;omega)
 have hsc:=yn h hl100;have kN:=LD r (by omega) (by omega)
 have lh:=mA 24 (ec r.left);have ln:=mA 25 (ec r.left);have lh':(dU r).length≤80000:=by unfold dU;omega
 have ln':(ja r).length≤80000:=by unfold ja;omega
 have kb:=xr r.right (dU r) (ja r) (by omega) (by omega) (by have:=h.rt.2;omega)
 have hg:=ahg r (dU r) (ja r) h (by omega) (by omega)
 unfold anY;cases hn:iA r.name with
 |false=>
  rw[hn]at kn;simp only[if_true]
  (rw[qv (aD rfl),iP];simp(disch:=omega)only[aA,↓aa,seval,-List.reduceReplicate,reduceCtorEq,ae,aZ,MI,iC,kn])
 |true=>
 rw[hn]at kn;simp only[Nb,if_false];rcases dB (ON r=0)with c1|c1
 rotate_left
 ·rw[if_pos (of_eq_false c1)]
  (rw[qv (aD rfl),iP];simp(disch:=omega)only[aA,↓aa,seval,-List.reduceReplicate,reduceCtorEq,ae,bQ,aZ,MI,iC,kn,vO,kl,c1])
 have c1':=of_eq_true c1;rw[if_neg (not_not_intro c1')];rcases dB (cB r.right true=0)with c2|c2
 rotate_left
 ·rw[if_pos (of_eq_false c2)]
  (rw[qv (aD rfl),iP];simp(disch:=omega)only[aA,↓aa,seval,-List.reduceReplicate,reduceCtorEq,ae,bQ,aZ,MI,RX,iC,kn,vO,kl,c1,bB,kc,c2])
 rw[if_neg (not_not_intro (of_eq_true c2))];generalize dU r=hs at *;generalize ja r=ns at *;cases hb:No hs ns r.right with
 |false=>
  rw[hb]at kb;simp only[if_true]
  (rw[qv (aD rfl),iP];simp(disch:=omega)only[aA,↓aa,seval,-List.reduceReplicate,reduceCtorEq,ae,bQ,aZ,MI,RX,iC,kn,vO,kl,c1,bB,kc,c2,te,kN,dn,kb])
 |true=>
 rw[hb]at kb;simp only[Nb,if_false]
 have hne:r.left≠[]:=by
  intro e;unfold ON at c1';have:t2 r=7:=by unfold t2;exact if_pos (.inl (by rw[e];rfl))
  rw[this,if_pos (by decide)]at c1'
  cases c1'
 cases hr:r.left with
 |nil=>exact absurd hr hne
 |cons a l=>
 have hx':∀σ,jS σ 6 (.p (.aM (a.row::l.map Atom.row))) (.p (.int .i64 0))=some (.p (.ptr a.row 0)):=fun σ=>aJ (k:=.i64) (es:=6) (σ:=σ) (ax (f:=Atom.row) (l:=a::l) (i:=0) (a:=a) rfl) a.aB
 have h1:=xt r;rw[hr,sP]at h1;have ht7:t7 r=if r.right.w=a.pat.w then 0 else 3:=by unfold t7;rw[hr]
 rw[ht7];rcases dB (r.right.w=a.pat.w)with e|e
 rotate_left
 ·rw[if_neg (of_eq_false e),if_pos (by decide)]
  (rw[qv (aD rfl),iP];simp(disch:=omega)only[aA,↓aa,seval,-List.reduceReplicate,reduceCtorEq,ae,bQ,aZ,MI,RX,u_3,h1,hx',ZE,e,iC,kn,vO,kl,c1,bB,kc,c2,te,kN,dn,kb])
 rw[if_pos (of_eq_true e),if_neg (by decide)]
 rcases dB (FK hs ns r.guards=0)with c0|c0
 ·have c0':=of_eq_true c0
  rw[if_pos c0']at hg;obtain⟨_,hg⟩:=hg;have h':al P qI (Rg r hs ns 0) [] 61 none=_:=hg;simp only[Rg]at h';rw[c0']
  (rw[qv (aD rfl),iP];simp(disch:=omega)only[aA,↓aa,seval,-List.reduceReplicate,reduceCtorEq,ae,bQ,aZ,MI,RX,u_3,Fj,aO,h1,hx',ZE,e,iC,kn,vO,kl,c1,bB,kc,c2,te,kN,dn,kb,HN,h',nP,kY])
 ·have c0':=of_eq_false c0
  rw[if_neg c0']at hg;obtain⟨⟨e',τ',σ',nt',rd'⟩,k1,k2,k3,k4⟩:=hg
  simp only at k2 k3 k4
  subst k2;have h':al P qI (Rg r hs ns 0) [] 61 none=some (.ret,⟨τ',σ',nt',rd'⟩):=k1;simp only[Rg]at h'
  (rw[qv (aD rfl),iP];simp(disch:=omega)only[aA,↓aa,seval,-List.reduceReplicate,reduceCtorEq,ae,bQ,aZ,MI,RX,u_3,Fj,aO,h1,hx',ZE,e,iC,kn,vO,kl,c1,bB,kc,c2,te,kN,dn,kb,HN,h',k3])
end Go.AE.S
