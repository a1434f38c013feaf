import Derived.Test.YtpccheodgonkkaaGreatB0
import Derived.Test.YtpccheodgonkkaaGreatC0
set_option maxHeartbeats 0
set_option linter.unusedSimpArgs false
set_option linter.unusedVariables false
namespace Go.AE.S
open Go Go.AE
variable {τ:Tm} {σ:ae} {rd:Option Nat}
structure Atom where
 root:ByteArray
 pat:Term
def Atom.row(a:Atom):List PV:=.str a.root::a.pat.row
theorem Atom.aY(a:Atom):a.row=[.str a.root,.int .i64 a.pat.op,.int .i64 a.pat.w,.int .u64 a.pat.v,.str a.pat.name,.aW (a.pat.args.map Term.row)]:=by rw[Atom.row,Term.aY]
theorem Atom.aH(a:Atom):a.row.length=6:=by rw[a.aY];rfl
theorem jX(a:Atom):gM σ 6 true (.p (.ptr a.row 0))=some (.p (.agg a.row)):=CE a.aH
theorem fL(a:Atom):cellsOf 6 true (.p (.agg a.row))=some (a.row.map .p):=by simp[cellsOf,a.aH]
theorem iV(a:Atom):a.row[0]?=some (.str a.root):=by rw[a.aY];rfl
theorem a_w(a:Atom):a.row[2]?=some (.int .i64 a.pat.w):=by rw[a.aY];rfl
theorem sP(a:Atom):gM σ 5 true (.p (.ptr a.row 1))=some (.p (.agg a.pat.row)):=by
 rw[a.aY,a.pat.aY];rfl
structure Gd where
 kind:Int
 a:Term
 b:Term
def Gd.row(g:Gd):List PV:=.int .i64 g.kind::(g.a.row++g.b.row)
theorem Gd.aY(g:Gd):g.row=[.int .i64 g.kind,.int .i64 g.a.op,.int .i64 g.a.w,.int .u64 g.a.v,.str g.a.name,.aW (g.a.args.map Term.row),.int .i64 g.b.op,.int .i64 g.b.w,.int .u64 g.b.v,.str g.b.name,.aW (g.b.args.map Term.row)]:=by
 rw[Gd.row,Term.aY g.a,Term.aY g.b];rfl
theorem Gd.aH(g:Gd):g.row.length=11:=by rw[g.aY];rfl
theorem dx(g:Gd):gM σ 11 true (.p (.ptr g.row 0))=some (.p (.agg g.row)):=CE g.aH
theorem bZ(g:Gd):cellsOf 11 true (.p (.agg g.row))=some (g.row.map .p):=by simp[cellsOf,g.aH]
theorem yF(g:Gd):g.row[0]?=some (.int .i64 g.kind):=by rw[g.aY];rfl
theorem g_1(g:Gd):g.row[1]?=some (.int .i64 g.a.op):=by rw[g.aY];rfl
theorem VR(g:Gd):g.row[2]?=some (.int .i64 g.a.w):=by rw[g.aY];rfl
theorem VS(g:Gd):g.row[7]?=some (.int .i64 g.b.w):=by rw[g.aY];rfl
theorem C1(g:Gd):gM σ 5 true (.p (.ptr g.row 1))=some (.p (.agg g.a.row)):=by rw[g.aY,g.a.aY];rfl
theorem C2(g:Gd):gM σ 5 true (.p (.ptr g.row 6))=some (.p (.agg g.b.row)):=by rw[g.aY,g.b.aY];rfl
structure ed where
 name:ByteArray
 left:List Atom
 right:Term
 guards:List Gd
def ed.row(r:ed):List PV:=.str r.name::.aW (r.left.map Atom.row)::(r.right.row++[.aW (r.guards.map Gd.row)])
theorem ed.aY(r:ed):r.row=[.str r.name,.aW (r.left.map Atom.row),.int .i64 r.right.op,.int .i64 r.right.w,.int .u64 r.right.v,.str r.right.name,.aW (r.right.args.map Term.row),.aW (r.guards.map Gd.row)]:=by
 rw[ed.row,Term.aY r.right];rfl
theorem ed.aH(r:ed):r.row.length=8:=by rw[r.aY];rfl
theorem bX(r:ed):gM σ 8 true (.p (.ptr r.row 0))=some (.p (.agg r.row)):=CE r.aH
theorem bn(r:ed):cellsOf 8 true (.p (.agg r.row))=some (r.row.map .p):=by simp[cellsOf,r.aH]
theorem UF(r:ed):r.row[0]?=some (.str r.name):=by rw[r.aY];rfl
theorem Ah(r:ed):r.row[1]?=some (.aW (r.left.map Atom.row)):=by rw[r.aY];rfl
theorem u_3(r:ed):r.row[3]?=some (.int .i64 r.right.w):=by rw[r.aY];rfl
theorem D4(r:ed):r.row[7]?=some (.aW (r.guards.map Gd.row)):=by rw[r.aY];rfl
theorem Uo(r:ed):gM σ 5 true (.p (.ptr r.row 2))=some (.p (.agg r.right.row)):=by rw[r.aY,r.right.aY];rfl
def zj(a:Atom):Term:=.mk 24 a.pat.w 0 a.root []
theorem H8(a:Atom):R P mQ [.agg a.row]=some (.agg (zj a).row):=by
 (rw[TD (aO rfl),uD];simp(disch:=omega)only[aG,↓aa,seval,-List.reduceReplicate,reduceCtorEq,af,jX,fL,iV,a_w])
 rfl
def AG(a:Atom):List Term:=(if a.root=bs []then[]else[zj a])++[a.pat]
def fj(l:List Atom):List Term:=l.flatMap AG
theorem wi{α β:Type}(g:α→List β):∀(l:List α) (i:Nat) (s:List β),aq (T:=Empty) (fun _ s a=>.inl (s++g a)) i s l=.inl (s++l.flatMap g)
 | [],i,s=>by simp[aq]
 |a::l,i,s=>by
  simp only[aq];rw[wi g l (i+1) (s++g a),abG,Ux]
theorem lW{a:Term}:A2 σ 5 1 (gK (List.replicate 1 [.p (.int .i64 0),.p (.int .i64 0),.p (.int .u64 0),.p (.str (bs [])),.aF]).flatten [(0,5,.p (.agg a.row))])=some (.p (.aW [a.row]),σ):=by rw[Term.aY a];rfl
theorem vM{a:Term}:mB σ 5 (.p (.aW [a.row]))=some (.inl [a.row]):=OQ (by simp[wide,Term.aH])
theorem UR(s:List Term)(t:Term)(hs:s.length≤1000000000){r:ae}:zF (.pv (mD 5 s) (s.map Term.row) false::r) 5 64 (.sl 0 s.length) (some (.inl [t.row]))=some (.sl 0 (s.length+1),.pv (mD 5 (s++[t])) ((s++[t]).map Term.row) false::r):=by
 rw[eZ (σ:=.pv (mD 5 s) (s.map Term.row) false::r) (b:=0) (n:=s.length) (e:=mD 5 s) (rows:=s.map Term.row) rfl (by simp) (r9 _ _ _) (by simp only[oi,pN];omega)]
 simp only[kE,Ed,ue,CU,aa9,oi,pN,sQ]
abbrev sT1(s:List Term):ae:=[.pv (mD 5 s) (s.map Term.row) false]
abbrev YZ(l:List Atom)(s:List Term)(i:Int):List (Nat×AV):=[(3,.sl 0 s.length),(6,.p (.aW (l.map Atom.row))),(7,.p (.int .i64 l.length)),(8,.p (.int .i64 i))]
theorem CA(a:Atom):(AG a).length≤2:=by unfold AG;split<;>simp
theorem Ae(l:List Atom)(hl:l.length≤1000000):R P jt [.aW (l.map Atom.row)]=some (.aW ((fj l).map Term.row)):=by
 have h:=oc (P:=P) (nt:=27) (rd:=none) (lv:=[3,6,7,8]) (b:=qc) (x:=0) (as:=l) (fun i (s:List Term)=>YZ l s i) sT1 (fun i s a=>s++AG a)
  (fun s=>⟨jg (tm (YZ l s l.length)) 9 (.p (.bool false)),sT1 s,27,none⟩) (fun i s=>s.length≤2*i)
  (fun i a s ha hi hs=>by
   have h2:=CA a;refine⟨by rw[mh];omega,?_⟩
   have hlt:((i:Int)<l.length)=True:=by simpa using hi
   have hx:=fun σ=>aU (k:=.i64) (es:=6) (σ:=σ) (ax (f:=Atom.row) ha) a.aH
   have hr:=H8 a;unfold AG;rcases fC (a.root=bs [])with h1|h1
   ·have h1':=of_eq_true h1
    have a1:=fun r=>UR (r:=r) s a.pat (by omega)
    rw[if_pos h1',yK];simp only[qc];simp(disch:=omega)only[aG,↓aa,seval,-List.reduceReplicate,reduceCtorEq,af,hlt,hx,jX,fL,iV,sP,h1,lW,vM,a1,YZ,mh]
    try rfl
   ·have h1':=of_eq_false h1
    have a1:=fun r=>UR (r:=r) s (zj a) (by omega)
    have a2:=fun r=>UR (r:=r) (s++[zj a]) a.pat (by simp;omega)
    rw[if_neg h1',←Ux];simp only[mh,oi,pN,sQ]at a2;simp only[qc];simp(disch:=omega)only[aG,↓aa,seval,-List.reduceReplicate,reduceCtorEq,af,hlt,hx,jX,fL,iV,sP,h1,HX,hr,lW,vM,a1,a2,YZ,mh]
    try rfl) (fun s hs=>by
   simp only[qc];simp(disch:=omega)only[aG,↓aa,seval,-List.reduceReplicate,reduceCtorEq,af,pD]) (fun i s=>rfl) [] (by simp) _ (wi AG l 0 [])
 rw[yK]at h;have h':an P yk (YZ l [] 0) [.pv 0 [] false] 27 none=_:=h;simp only[YZ,pN]at h'
 (rw[Qx (aO rfl),rO];simp(disch:=omega)only[aG,↓aa,seval,-List.reduceReplicate,reduceCtorEq,af,M9,h',bz])
 rfl
def ny(r:ed):List V2:=varsOf 24 (fj r.left)
def sk(r:ed):List V2:=varsOf 25 (fj r.left)
theorem Ad(r:ed)(hl:r.left.length≤1000000)(hc:Term.counts (fj r.left)≤500000):R P js [.agg r.row]=some (.aW ((ny r).map au)):=by
 have h1:=Ae r.left hl;have h2:=AD (fj r.left) hc
 (rw[Qw (aO rfl),rN];simp(disch:=omega)only[aG,↓aa,seval,-List.reduceReplicate,reduceCtorEq,af,bn,Ah,su,h1,qG,h2])
 rfl
theorem Ce(r:ed)(hl:r.left.length≤1000000)(hc:Term.counts (fj r.left)≤500000):R P k6 [.agg r.row]=some (.aW ((sk r).map au)):=by
 have h1:=Ae r.left hl;have h2:=Cb (fj r.left) hc
 (rw[TC (aO rfl),uC];simp(disch:=omega)only[aG,↓aa,seval,-List.reduceReplicate,reduceCtorEq,af,bn,Ah,su,h1,xj,h2])
 rfl
theorem H9(b:Bool)(e:Int):R P gJ [.bool b,.int .i64 e]=some (.int .i64 (if b=true then e else 0)):=by
 cases b<;>(rw[TE (aO rfl),uE];simp(disch:=omega)only[aG,↓aa,seval,-List.reduceReplicate,reduceCtorEq,af])
theorem afP{a b:V2}:a=b↔a.name=b.name∧a.w=b.w:=by cases a;cases b;simp
instance:DecidableEq V2:=fun a b=>decidable_of_iff (a.name=b.name∧a.w=b.w) afP.symm
def Q4(v x:V2):Bool:=decide (v=x)
theorem amT(a b:V2):PL false [.str,.int] (.p (.agg (au a))) (.p (.agg (au b)))=some (.p (.bool (Q4 a b))):=by
 have e:dg [.str,.int] (au a) (au b)=some (Q4 a b):=by
  simp only[au,dg,A8,xu,vd,ni,if_true]
  congr 1
  rw[abP];simp[Q4,afP,tg]
 simp only[PL,e,vd,nh,if_false]
theorem Ii{v:V2}:gM σ 2 true (.p (.ptr (au v) 0))=some (.p (.agg (au v))):=rfl
theorem Ig{v:V2}:cellsOf 2 true (.p (.agg (au v)))=some ((au v).map .p):=rfl
abbrev Ki(l:List V2)(v:V2)(i:Int):List (Nat×AV):=[(0,.p (.aW (l.map au))),(3,.p (.ptr (au v) 0)),(7,.p (.int .i64 l.length)),(8,.p (.int .i64 i))]
theorem yd(l:List V2)(v:V2)(hl:l.length≤1000000):R P a6 [.aW (l.map au),.agg (au v)]=some (.bool (l.any (Q4 v))):=by
 have h:=cS (P:=P) (nt:=19) (lv:=[0,3,7,8]) (b:=du) (rd:=none) (as:=l) (fun i (_:Unit)=>Ki l v i) (fun _=>[]) (fun i _ x=>if Q4 v x=true then .inr i else .inl ()) (fun(n:Nat)=>ec 4 (.int .i64 n) []) (fun _ _=>True)
  (fun i x s hv hi hs=>by
   refine⟨fun _ _=>trivial,?_⟩
   have hlt:((i:Int)<l.length)=True:=by simpa using hi
   have hx:=fun σ=>aU (k:=.i64) (es:=2) (σ:=σ) (ax (f:=au) hv) (by simp[au])
   have he:=amT v x;cases hd:Q4 v x with
   |true=>
    rw[hd]at he;simp only[du,if_true];simp(disch:=omega)only[aG,↓aa,seval,-List.reduceReplicate,reduceCtorEq,af,hlt,hx,Ii,he,Ki,ec]
   |false=>
    rw[hd]at he;simp only[du,nh,if_false];simp(disch:=omega)only[aG,↓aa,seval,-List.reduceReplicate,reduceCtorEq,af,hlt,hx,Ii,he,Ki,ec]) (fun i s=>rfl) () trivial
 rcases yT (Q4 v) l 0 with⟨n,h1,h2⟩|⟨h1,h2⟩
 ·rw[h1]at h
  obtain⟨⟨e',τ',σ',nt',rd'⟩,g1,g2,g3,g4⟩:=h
  simp only at g2 g3 g4
  subst g2;subst g4;have h':an P eh (Ki l v 0) [] 19 none=some (.ret,⟨τ',[],nt',rd'⟩):=g1;simp only[Ki]at h'
  have hi:R P bP [.aW (l.map au),.agg (au v)]=some (.int .i64 n):=by
   (rw[mz (aO rfl),cL];simp(disch:=omega)only[aG,↓aa,seval,-List.reduceReplicate,reduceCtorEq,af,Ig,bz,lQ,h',g3])
  have hn:((n:Int) ≥ 0)=True:=by simp
  rw[h2]
  (rw[kA (aO rfl),cm];simp(disch:=omega)only[aG,↓aa,seval,-List.reduceReplicate,reduceCtorEq,af,Ig,Ii,mu,hi,hn])
 ·rw[h1]at h
  obtain⟨_,h⟩:=h;have h':an P eh (Ki l v 0) [] 19 none=_:=h;simp only[Ki]at h'
  have hi:R P bP [.aW (l.map au),.agg (au v)]=some (.int .i64 (-1)):=by
   (rw[mz (aO rfl),cL];simp(disch:=omega)only[aG,↓aa,seval,-List.reduceReplicate,reduceCtorEq,af,Ig,bz,lQ,h',du,pD])
  rw[h2]
  (rw[kA (aO rfl),cm];simp(disch:=omega)only[aG,↓aa,seval,-List.reduceReplicate,reduceCtorEq,af,Ig,Ii,mu,hi])
def EE(all:List V2)(l:List V2):Bool:=l.all fun v=>all.any (Q4 v)
theorem PR(all:List V2):∀(l:List V2) (i:Nat),aq (S:=Unit) (T:=Unit) (fun _ _ v=>if all.any (Q4 v)=true then .inl ()else .inr ()) i () l=if EE all l=true then .inl ()else .inr ()
 | [],i=>rfl
 |a::l,i=>by
  unfold aq;cases h:all.any (Q4 a)with
  |true=>
   simp only[if_true,EE,UA,h,IZ];exact PR all l (i+1)
  |false=>simp[EE,h]
structure M3 where
 name:ByteArray
 w:Int
 op:Int
theorem akq{a b:M3}:a=b↔a.name=b.name∧a.w=b.w∧a.op=b.op:=by cases a;cases b;simp
instance:DecidableEq M3:=fun a b=>decidable_of_iff (a.name=b.name∧a.w=b.w∧a.op=b.op) akq.symm
def rr(o w:Int):List PV:=[.int .i64 o,.int .i64 w]
abbrev L4(m:M3):List PV:=rr m.op m.w
def PJ(e:ByteArray×M3):PV×AV:=(.str e.1,.p (.agg (L4 e.2)))
def lkM:List (ByteArray×M3)→ByteArray→Option M3
 | [],_=>none
 |e::r,k=>if k=e.1 then some e.2 else lkM r k
def stM(u:M3):List (ByteArray×M3)→List (ByteArray×M3)
 | []=>[(u.name,u)]
 |e::r=>if u.name=e.1 then(u.name,u)::r else e::stM u r
theorem Gu(k:ByteArray):∀s:List (ByteArray×M3),findKey .str (.str k) (s.map PJ)=some ((lkM s k).map fun u=>.p (.agg (L4 u)))
 | []=>rfl
 |e::r=>by
  simp only[ue,findKey,PJ,A8,lkM];by_cases h:k=e.1
  ·simp[h]
  ·simp only[h,decide_false,if_false]
   exact Gu k r
theorem T8(u:M3):∀s:List (ByteArray×M3),sG .str (.str u.name) (.p (.agg (L4 u))) (s.map PJ)=some ((stM u s).map PJ)
 | []=>rfl
 |e::r=>by
  simp only[ue,sG,PJ,A8,stM];by_cases h:u.name=e.1
  ·simp[h,PJ]
  ·simp only[h,decide_false,if_false]
   rw[T8 u r];rfl
def okM(s:List (ByteArray×M3))(m:M3):Bool:=match lkM s m.name with
 |some o=>decide (o.op=m.op∧o.w=m.w)
 |none=>true
def bindM(s:List (ByteArray×M3))(m:M3):List (ByteArray×M3) ⊕ List (ByteArray×M3):=if okM s m=true then .inl (stM m s)else .inr (stM m s)
abbrev WV(s:List (ByteArray×M3)):ae:=[.map (s.map PJ) false]
theorem aem{s:List (ByteArray×M3)}{k:ByteArray}(h:lkM s k=none):sg (WV s) .str (.p (.agg [.int .i64 0,.int .i64 0])) (.map 0) (.p (.str k)) true=some (.p (.jO [.agg (L4 ⟨bs [],0,0⟩),.bool false])):=by
 show(if q8 .str (.str k)=true then(findKey .str (.str k) (s.map PJ)).bind fun o:Option AV=>some (w8 [o.getD (.p (.agg [.int .i64 0,.int .i64 0])),.p (.bool o.isSome)])else none)=_
 rw[Gu,h];rfl
theorem aen{s:List (ByteArray×M3)}{k:ByteArray}{o:M3}{z:AV}(h:lkM s k=some o):sg (WV s) .str z (.map 0) (.p (.str k)) true=some (.p (.jO [.agg (L4 o),.bool true])):=by
 show(if q8 .str (.str k)=true then(findKey .str (.str k) (s.map PJ)).bind fun o:Option AV=>some (w8 [o.getD z,.p (.bool o.isSome)])else none)=_
 rw[Gu,h];rfl
theorem muR(s:List (ByteArray×M3))(m:M3):K1 (WV s) .str (.map 0) (.p (.str m.name)) (.p (.agg (L4 m)))=some (.any,WV (stM m s)):=by
 simp[K1,q8,T8]
theorem amS(a b:M3):PL false [.int,.int] (.p (.agg (L4 a))) (.p (.agg (L4 b)))=some (.p (.bool (decide (a.op=b.op∧a.w=b.w)))):=by
 have e:dg [.int,.int] (L4 a) (L4 b)=some (decide (a.op=b.op∧a.w=b.w)):=by
  simp only[L4,rr,dg,xu,vd,ni,if_true]
  congr 1
  rw[abP];simp
 simp only[PL,e,vd,nh,if_false]
theorem ZU{a b:Int}:gM σ 2 true (.p (.ptr (rr a b) 0))=some (.p (.agg (rr a b))):=rfl
theorem ZT{a b:Int}:cellsOf 2 true (.p (.agg (rr a b)))=some ((rr a b).map .p):=rfl
theorem N6{a b:Int}{z0 z1:AV}:kB [z0,z1] [(0,1,.p (.int .i64 a)),(1,1,.p (.int .i64 b))]=some (.p (.agg (rr a b))):=rfl
mutual
def CX:Term→List M3
 |.mk o w v n as=>if o=24∨o=25 then[⟨n,w,o⟩]else zH as
def zH:List Term→List M3
 | []=>[]
 |a::r=>CX a++zH r
end
theorem adg(t:Term):CX t=if t.op=24∨t.op=25 then[⟨t.name,t.w,t.op⟩]else zH t.args:=by cases t;rw[CX];rfl
def foldM(l:List M3)(s:List (ByteArray×M3)):List (ByteArray×M3) ⊕ List (ByteArray×M3):=aq (fun _ s m=>bindM s m) 0 s l
theorem Kx{S T α:Type}(f:S→α→S ⊕ T):∀(l:List α) (i j:Nat) (s:S),aq (fun _ s a=>f s a) i s l=aq (fun _ s a=>f s a) j s l
 | [],_,_,_=>rfl
 |a::l,i,j,s=>by
  simp only[aq];cases f s a with
  |inl s'=>exact Kx f l (i+1) (j+1) s'
  |inr t=>rfl
theorem PQ(l m:List M3)(s:List (ByteArray×M3)):foldM (l++m) s=match foldM l s with
  |.inl s'=>foldM m s'
  |.inr t=>.inr t:=by
 unfold foldM
 induction l generalizing s with
 |nil=>rfl
 |cons a l ih=>
  simp only[Ec,aq];cases bindM s a with
  |inl s'=>
   simp only
   rw[Kx bindM (l++m) 1 0,Kx bindM l 1 0];exact ih s'
  |inr t=>rfl
abbrev VD(t:Term)(i:Int):List (Nat×AV):=[(0,.map 0),(42,.p (.aW (t.args.map Term.row))),(43,.p (.int .i64 t.args.length)),(44,.p (.int .i64 i))]
theorem Gw:∀(l:List Term) (i:Nat) (s:List (ByteArray×M3)),aq (fun _ s a=>foldM (CX a) s) i s l=foldM (zH l) s
 | [],i,s=>by rw[zH];rfl
 |a::l,i,s=>by
  rw[zH,PQ];simp only[aq];cases foldM (CX a) s with
  |inl s'=>exact Gw l (i+1) s'
  |inr t=>rfl
theorem YH(t:Term):t.count≤1000000→∀s,call P dC [.map 0,.p (.agg t.row)] (WV s)=(match foldM (CX t) s with
  |.inl s'=>some (.p (.bool true),WV s')
  |.inr s'=>some (.p (.bool false),WV s')):=by
 induction t using Term.ind with
 |h t ih=>
 intro hc s;have hlen:=Term.eo t.args;have hct:=Term.count_eq t;rw[adg];by_cases hv:t.op=24∨t.op=25
 ·rw[if_pos hv]
  have hmu:=muR s ⟨t.name,t.w,t.op⟩
  have hfm:foldM [⟨t.name,t.w,t.op⟩] s=bindM s ⟨t.name,t.w,t.op⟩:=by
   unfold foldM aq;cases bindM s ⟨t.name,t.w,t.op⟩<;>rfl
  rw[hfm];unfold bindM okM
  simp only at hmu ⊢
  have hor:(t.op=24)=True∨(t.op=24)=False∧(t.op=25)=True:=by
   by_cases h1:t.op=24
   ·exact .inl (eq_true h1)
   ·exact .inr ⟨eq_false h1,eq_true (hv.resolve_left h1)⟩
  cases hk:lkM s t.name with
  |none=>
   have hf:=aem hk;simp only[if_true];rcases hor with h1|⟨h1,h2⟩
   ·(rw[fh (aO rfl),dC];simp(disch:=omega)only[aG,↓aa,seval,-List.reduceReplicate,reduceCtorEq,af,h1,N6,ZT,ZU,hf,hmu])
   ·(rw[fh (aO rfl),dC];simp(disch:=omega)only[aG,↓aa,seval,-List.reduceReplicate,reduceCtorEq,af,h1,h2,N6,ZT,ZU,hf,hmu])
  |some o=>
   have hf:=fun z=>aen (z:=z) hk
   have he:=amS o ⟨t.name,t.w,t.op⟩
   simp only at he ⊢
   by_cases hd:o.op=t.op∧o.w=t.w
   ·rw[decide_eq_true hd]at he
    simp only[hd,decide_true,and_self,if_true];rcases hor with h1|⟨h1,h2⟩
    ·(rw[fh (aO rfl),dC];simp(disch:=omega)only[aG,↓aa,seval,-List.reduceReplicate,reduceCtorEq,af,h1,N6,ZT,ZU,hf,hmu,he])
    ·(rw[fh (aO rfl),dC];simp(disch:=omega)only[aG,↓aa,seval,-List.reduceReplicate,reduceCtorEq,af,h1,h2,N6,ZT,ZU,hf,hmu,he])
   ·rw[decide_eq_false hd]at he
    simp only[hd,decide_false,nh,if_false];rcases hor with h1|⟨h1,h2⟩
    ·(rw[fh (aO rfl),dC];simp(disch:=omega)only[aG,↓aa,seval,-List.reduceReplicate,reduceCtorEq,af,h1,N6,ZT,ZU,hf,hmu,he])
    ·(rw[fh (aO rfl),dC];simp(disch:=omega)only[aG,↓aa,seval,-List.reduceReplicate,reduceCtorEq,af,h1,h2,N6,ZT,ZU,hf,hmu,he])
 ·rw[if_neg hv]
  have h1:(t.op=24)=False:=eq_false (fun h=>hv (.inl h))
  have h2:(t.op=25)=False:=eq_false (fun h=>hv (.inr h))
  have h:=cS (P:=P) (nt:=53) (lv:=[0,42,43,44]) (b:=nC) (rd:=none) (as:=t.args) (fun i (_:List (ByteArray×M3))=>VD t i) WV (fun _ s a=>foldM (CX a) s) (fun s r=>ec 4 (.bool false) (WV s) r) (fun _ _=>True)
   (fun i a s ha hi hs=>by
    refine⟨fun _ _=>trivial,?_⟩
    have hm:=mK ha;have hac:=Term.dK hm;have hr:=ih a hm (by omega) s
    have hlt:((i:Int)<t.args.length)=True:=by simpa using hi
    have hx:=fun σ=>aU (k:=.i64) (es:=5) (σ:=σ) (ax (f:=Term.row) ha) a.aH
    cases hf:foldM (CX a) s with
    |inl s'=>
     rw[hf]at hr
     simp only at hr
     simp only[nC];simp(disch:=omega)only[aG,↓aa,seval,-List.reduceReplicate,reduceCtorEq,af,hlt,hx,ss,hr,VD]
    |inr s'=>
     rw[hf]at hr
     simp only at hr
     simp only[nC];simp(disch:=omega)only[aG,↓aa,seval,-List.reduceReplicate,reduceCtorEq,af,hlt,hx,ss,hr,VD,ec]) (fun i s=>rfl) s trivial
  rw[Gw]at h;cases hf:foldM (zH t.args) s with
  |inl s'=>
   rw[hf]at h;obtain⟨_,h⟩:=h;have h':an P qw (VD t 0) (WV s) 53 none=_:=h;simp only[VD]at h'
   (rw[fh (aO rfl),dC];simp(disch:=omega)only[aG,↓aa,seval,-List.reduceReplicate,reduceCtorEq,af,h1,h2,bz,Am,h',nC,pD])
  |inr s'=>
   rw[hf]at h;obtain⟨⟨e',τ',σ',nt',rd'⟩,k1,k2,k3,k4⟩:=h
   simp only at k2 k3 k4
   subst k2;subst k4;have h':an P qw (VD t 0) (WV s) 53 none=some (.ret,⟨τ',WV s',nt',rd'⟩):=k1;simp only[VD]at h'
   (rw[fh (aO rfl),dC];simp(disch:=omega)only[aG,↓aa,seval,-List.reduceReplicate,reduceCtorEq,af,h1,h2,bz,Am,h',k3])
abbrev VH(l:List Term)(i:Int):List (Nat×AV):=[(3,.map 0),(8,.p (.aW (l.map Term.row))),(9,.p (.int .i64 l.length)),(10,.p (.int .i64 i))]
theorem Ym{es:List (PV×AV)}{r:ae}:aek (.map es false::r) (.map 0)=some (.p (.int .i64 es.length)):=rfl
def K2(l:List Atom):Int:=match foldM (zH (fj l)) []with
 |.inl s=>if 16<(s.length:Int)then 7 else 0
 |.inr _=>12
theorem QM(l:List Atom)(hl:l.length≤1000000)(hc:∀t∈fj l,t.count≤1000000)(hsl:(fj l).length≤1000000):R P nx [.aW (l.map Atom.row)]=some (.int .i64 (K2 l)):=by
 have hs:=Ae l hl;unfold K2;generalize fj l=T at *
 have h:=cS (P:=P) (nt:=22) (lv:=[3,8,9,10]) (b:=nQ) (rd:=none) (as:=T) (fun i (_:List (ByteArray×M3))=>VH T i) WV (fun _ s a=>foldM (CX a) s) (fun s r=>ec 2 (.int .i64 12) (WV s) r) (fun _ _=>True)
  (fun i a s ha hi hs=>by
   refine⟨fun _ _=>trivial,?_⟩
   have hm:=mK ha;have hr:=YH a (hc a hm) s;have hlt:((i:Int)<T.length)=True:=by simpa using hi
   have hx:=fun σ=>aU (k:=.i64) (es:=5) (σ:=σ) (ax (f:=Term.row) ha) a.aH
   cases hf:foldM (CX a) s with
   |inl s'=>
    rw[hf]at hr
    simp only at hr
    simp only[nQ];simp(disch:=omega)only[aG,↓aa,seval,-List.reduceReplicate,reduceCtorEq,af,hlt,hx,ss,hr,VH]
   |inr s'=>
    rw[hf]at hr
    simp only at hr
    simp only[nQ];simp(disch:=omega)only[aG,↓aa,seval,-List.reduceReplicate,reduceCtorEq,af,hlt,hx,ss,hr,VH,ec]) (fun i s=>rfl) [] trivial
 rw[Gw]at h;cases hf:foldM (zH T) []with
 |inl s'=>
  rw[hf]at h;obtain⟨_,h⟩:=h;have h':an P tZ (VH T 0) [.map [] false] 22 none=_:=h;simp only[VH]at h';by_cases g:(16:Int)<s'.length
  ·simp only[g,if_true]
   (rw[z6 (aO rfl),nd];simp(disch:=omega)only[aG,↓aa,seval,-List.reduceReplicate,reduceCtorEq,af,su,hs,bz,yu,h',nQ,pD,Ym,g])
  ·simp only[g,if_false]
   (rw[z6 (aO rfl),nd];simp(disch:=omega)only[aG,↓aa,seval,-List.reduceReplicate,reduceCtorEq,af,su,hs,bz,yu,h',nQ,pD,Ym,g])
 |inr s'=>
  rw[hf]at h;obtain⟨⟨e',τ',σ',nt',rd'⟩,k1,k2,k3,k4⟩:=h
  simp only at k2 k3 k4
  subst k2;subst k4;have h':an P tZ (VH T 0) [.map [] false] 22 none=some (.ret,⟨τ',WV s',nt',rd'⟩):=k1;simp only[VH]at h'
  (rw[z6 (aO rfl),nd];simp(disch:=omega)only[aG,↓aa,seval,-List.reduceReplicate,reduceCtorEq,af,su,hs,bz,yu,h',k3])
def uL(a:Atom):Int:=if ¬lF a.pat false=0 then lF a.pat false else if ¬a.root=bs []∧pn a.root=false then 5 else 0
def J4:List Atom→Int
 | []=>0
 |a::r=>if uL a=0 then J4 r else uL a
theorem Oh:∀(l:List Atom) (i:Nat),aq (S:=Unit) (T:=Int) (fun _ _ a=>if uL a=0 then .inl ()else .inr (uL a)) i () l=if J4 l=0 then .inl ()else .inr (J4 l)
 | [],i=>rfl
 |a::r,i=>by
  unfold aq J4;by_cases h:uL a=0
  ·simp only[h,if_true];exact Oh r (i+1)
  ·simp only[h,if_false]
abbrev PI(l:List Atom)(i:Int):List (Nat×AV):=[(6,.p (.aW (l.map Atom.row))),(7,.p (.int .i64 l.length)),(8,.p (.int .i64 i))]
theorem QK(l:List Atom)(hl:l.length≤1000000)(ht:∀a∈l,iM a.pat∧a.pat.count≤1000000):R P nw [.aW (l.map Atom.row)]=some (.int .i64 (J4 l)):=by
 have h:=cS (P:=P) (nt:=28) (lv:=[6,7,8]) (b:=lx) (rd:=none) (as:=l) (fun i (_:Unit)=>PI l i) (fun _=>[]) (fun _ _ a=>if uL a=0 then .inl ()else .inr (uL a)) (fun e=>ec 2 (.int .i64 e) []) (fun _ _=>True)
  (fun i a s ha hi hs=>by
   refine⟨fun _ _=>trivial,?_⟩
   have hma:=mK ha;have hlt:((i:Int)<l.length)=True:=by simpa using hi
   have hx:=fun σ=>aU (k:=.i64) (es:=6) (σ:=σ) (ax (f:=Atom.row) ha) a.aH
   have c1:=qI a.pat false (ht a hma).1 (ht a hma).2;have c3:=jL a.root;rcases fC (lF a.pat false=0)with h1|h1
   rotate_left
   ·have h1':=of_eq_false h1
    have e:uL a=lF a.pat false:=by unfold uL;rw[if_pos h1']
    rw[e,if_neg h1'];simp only[lx];simp(disch:=omega)only[aG,↓aa,seval,-List.reduceReplicate,reduceCtorEq,af,hlt,hx,jX,fL,iV,a_w,sP,bt,c1,h1,PI,ec]
   have h1':=of_eq_true h1;have e0:uL a=if ¬a.root=bs []∧pn a.root=false then 5 else 0:=by unfold uL;rw[if_neg (not_not_intro h1')]
   rcases fC (a.root=bs [])with h2|h2
   ·have h2':=of_eq_true h2
    have e:uL a=0:=by rw[e0];exact if_neg (fun h=>h.1 h2')
    rw[e,if_pos rfl];simp only[lx];simp(disch:=omega)only[aG,↓aa,seval,-List.reduceReplicate,reduceCtorEq,af,hlt,hx,jX,fL,iV,a_w,sP,bt,c1,h1,h2,PI,ec]
   ·have h2':=of_eq_false h2
    cases hn:pn a.root with
    |true=>
     rw[hn]at c3 e0;have e:uL a=0:=by rw[e0];exact if_neg (fun h=>by cases h.2)
     rw[e,if_pos rfl];simp only[lx];simp(disch:=omega)only[aG,↓aa,seval,-List.reduceReplicate,reduceCtorEq,af,hlt,hx,jX,fL,iV,a_w,sP,bt,c1,h1,h2,gN,c3,PI,ec]
    |false=>
     rw[hn]at c3 e0;have e:uL a=5:=by rw[e0];exact if_pos ⟨h2',rfl⟩
     rw[e,if_neg (by decide)]
     simp only[lx];simp(disch:=omega)only[aG,↓aa,seval,-List.reduceReplicate,reduceCtorEq,af,hlt,hx,jX,fL,iV,a_w,sP,bt,c1,h1,h2,gN,c3,PI,ec]) (fun i s=>rfl) () trivial
 rw[Oh]at h;rcases fC (J4 l=0)with c0|c0
 ·have c0':=of_eq_true c0
  rw[if_pos c0']at h;obtain⟨_,h⟩:=h;have h':an P tX (PI l 0) [] 28 none=_:=h;simp only[PI]at h';rw[c0']
  (rw[FH (aO rfl),pG];simp(disch:=omega)only[aG,↓aa,seval,-List.reduceReplicate,reduceCtorEq,af,bz,C7,h',lx,pD])
 ·have c0':=of_eq_false c0
  rw[if_neg c0']at h;obtain⟨⟨e',τ',σ',nt',rd'⟩,k1,k2,k3,k4⟩:=h
  simp only at k2 k3 k4
  subst k2;have h':an P tX (PI l 0) [] 28 none=some (.ret,⟨τ',σ',nt',rd'⟩):=k1;simp only[PI]at h'
  (rw[FH (aO rfl),pG];simp(disch:=omega)only[aG,↓aa,seval,-List.reduceReplicate,reduceCtorEq,af,bz,C7,h',k3])
mutual
def Jy(hs ns:List V2):Term→Bool
 |.mk o w v n as=>if o=24 then hs.any (Q4 ⟨n,w⟩)else if o=25 then ns.any (Q4 ⟨n,w⟩)else Jz hs ns as
def Jz(hs ns:List V2):List Term→Bool
 | []=>true
 |a::r=>Jy hs ns a && Jz hs ns r
end
theorem agx(hs ns:List V2)(t:Term):Jy hs ns t=if t.op=24 then hs.any (Q4 ⟨t.name,t.w⟩)else if t.op=25 then ns.any (Q4 ⟨t.name,t.w⟩)else Jz hs ns t.args:=by cases t;rw[Jy];rfl
theorem KB(hs ns:List V2):∀(l:List Term) (i:Nat),aq (S:=Unit) (T:=Unit) (fun _ _ a=>if Jy hs ns a=true then .inl ()else .inr ()) i () l=if Jz hs ns l=true then .inl ()else .inr ()
 | [],i=>by rw[Jz];rfl
 |a::l,i=>by
  unfold aq;rw[Jz];cases h:Jy hs ns a with
  |true=>
   simp only[if_true,IZ];exact KB hs ns l (i+1)
  |false=>simp
theorem aiS{n:ByteArray}{w:Int}{z0 z1:AV}:kB [z0,z1] [(0,1,.p (.str n)),(1,1,.p (.int .i64 w))]=some (.p (.agg (au ⟨n,w⟩))):=rfl
abbrev VC(hs ns:List V2)(t:Term)(i:Int):List (Nat×AV):=[(1,.p (.aW (hs.map au))),(2,.p (.aW (ns.map au))),(30,.p (.aW (t.args.map Term.row))),(31,.p (.int .i64 t.args.length)),(32,.p (.int .i64 i))]
theorem QL(hs ns:List V2)(hh:hs.length≤1000000)(hn:ns.length≤1000000)(t:Term):t.count≤1000000→R P k7 [.agg t.row,.aW (hs.map au),.aW (ns.map au)]=some (.bool (Jy hs ns t)):=by
 induction t using Term.ind with
 |h t ih=>
 intro hc;have hlen:=Term.eo t.args;have hct:=Term.count_eq t;rw[agx];have ch:=yd hs ⟨t.name,t.w⟩ hh;have cn:=yd ns ⟨t.name,t.w⟩ hn;simp only[au]at ch cn;rcases fC (t.op=24)with h1|h1
 ·rw[if_pos (of_eq_true h1)]
  (rw[v8 (aO rfl),kQ];simp(disch:=omega)only[aG,↓aa,seval,-List.reduceReplicate,reduceCtorEq,af,h1,aiS,cr,ch])
 rw[if_neg (of_eq_false h1)];rcases fC (t.op=25)with h2|h2
 ·rw[if_pos (of_eq_true h2)]
  (rw[v8 (aO rfl),kQ];simp(disch:=omega)only[aG,↓aa,seval,-List.reduceReplicate,reduceCtorEq,af,h1,h2,aiS,cr,cn])
 rw[if_neg (of_eq_false h2)]
 have h:=cS (P:=P) (nt:=42) (lv:=[1,2,30,31,32]) (b:=p9) (rd:=none) (as:=t.args) (fun i (_:Unit)=>VC hs ns t i) (fun _=>[]) (fun _ _ a=>if Jy hs ns a=true then .inl ()else .inr ()) (fun(_:Unit)=>ec 6 (.bool false) []) (fun _ _=>True)
  (fun i a s ha hi _=>by
   refine⟨fun _ _=>trivial,?_⟩
   have hm:=mK ha;have hac:=Term.dK hm;have hr:=ih a hm (by omega)
   have hlt:((i:Int)<t.args.length)=True:=by simpa using hi
   have hx:=fun σ=>aU (k:=.i64) (es:=5) (σ:=σ) (ax (f:=Term.row) ha) a.aH
   cases hd:Jy hs ns a with
   |true=>
    rw[hd]at hr;simp only[p9,if_true];simp(disch:=omega)only[aG,↓aa,seval,-List.reduceReplicate,reduceCtorEq,af,hlt,hx,vW,hr,VC,ec]
   |false=>
    rw[hd]at hr;simp only[p9,nh,if_false];simp(disch:=omega)only[aG,↓aa,seval,-List.reduceReplicate,reduceCtorEq,af,hlt,hx,vW,hr,VC,ec]) (fun i s=>rfl) () trivial
 rw[KB]at h;cases hd:Jz hs ns t.args with
 |true=>
  rw[hd]at h;obtain⟨_,h⟩:=h;have h':an P tY (VC hs ns t 0) [] 42 none=_:=h;simp only[VC]at h'
  (rw[v8 (aO rfl),kQ];simp(disch:=omega)only[aG,↓aa,seval,-List.reduceReplicate,reduceCtorEq,af,h1,h2,bz,C8,h',p9,pD])
 |false=>
  rw[hd]at h;obtain⟨⟨e',τ',σ',nt',rd'⟩,k1,k2,k3,k4⟩:=h
  simp only at k2 k3 k4
  subst k2;have h':an P tY (VC hs ns t 0) [] 42 none=some (.ret,⟨τ',σ',nt',rd'⟩):=k1;simp only[VC]at h'
  (rw[v8 (aO rfl),kQ];simp(disch:=omega)only[aG,↓aa,seval,-List.reduceReplicate,reduceCtorEq,af,h1,h2,bz,C8,h',k3])
theorem QF(t:Term)(ht:iM t):R P nn [.agg t.row]=some (.bool (t.beq zT)):=by
 have h:=u7 t ht zT;have hz:zT.row=[.int .i64 0,.int .i64 0,.int .u64 0,.str (bs []),.aW []]:=by simp[zT,Term.row,Term.rows]
 rw[hz]at h
 (rw[Qu (aO rfl),rL];simp(disch:=omega)only[aG,↓aa,seval,-List.reduceReplicate,reduceCtorEq,af,jK,h])
def KG(g:Gd):Bool:=if g.kind=1 then g.b.beq zT else if g.kind=3∨g.kind=4 then decide (g.a.op=24)else decide (g.kind=2)
theorem QE(g:Gd)(hb:iM g.b):R P nk [.agg g.row]=some (.bool (KG g)):=by
 have hz:=QF g.b hb;unfold KG;rcases fC (g.kind=1)with h1|h1
 ·rw[if_pos (of_eq_true h1)]
  (rw[vY (aO rfl),kM];simp(disch:=omega)only[aG,↓aa,seval,-List.reduceReplicate,reduceCtorEq,af,bZ,yF,C2,h1,Qm,hz])
 rw[if_neg (of_eq_false h1)];rcases fC (g.kind=3)with h3|h3
 ·rw[if_pos (.inl (of_eq_true h3))]
  (rw[vY (aO rfl),kM];simp(disch:=omega)only[aG,↓aa,seval,-List.reduceReplicate,reduceCtorEq,af,bZ,yF,g_1,h1,h3])
 rcases fC (g.kind=4)with h4|h4
 ·rw[if_pos (.inr (of_eq_true h4))]
  (rw[vY (aO rfl),kM];simp(disch:=omega)only[aG,↓aa,seval,-List.reduceReplicate,reduceCtorEq,af,bZ,yF,g_1,h1,h3,h4])
 rw[if_neg (by rintro(h|h);exact of_eq_false h3 h;exact of_eq_false h4 h)]
 (rw[vY (aO rfl),kM];simp(disch:=omega)only[aG,↓aa,seval,-List.reduceReplicate,reduceCtorEq,af,bZ,yF,g_1,h1,h3,h4])
theorem ajM{a:Term}:kU σ 5 1 (gK (List.replicate 1 [.p (.int .i64 0),.p (.int .i64 0),.p (.int .u64 0),.p (.str (bs [])),.aF]).flatten [(0,5,.p (.agg a.row))])=some (.sl σ.length 1,σ++[.pv 5 [a.row] false]):=by rw[Term.aY a];rfl
abbrev Si(p:Term)(hs ns l:List V2)(i:Int):List (Nat×AV):=[(1,.p (.aW (hs.map au))),(2,.p (.aW (ns.map au))),(3,.p (.ptr p.row 0)),(13,.p (.aW (l.map au))),(14,.p (.int .i64 l.length)),(15,.p (.int .i64 i))]
abbrev Sj(ns l:List V2)(i:Int):List (Nat×AV):=[(2,.p (.aW (ns.map au))),(26,.p (.aW (l.map au))),(27,.p (.int .i64 l.length)),(28,.p (.int .i64 i))]
theorem Zs(p:Term)(hs ns l:List V2)(hh:hs.length≤1000000)(hl:l.length≤1000000):uV (fun _:Unit=>True∧an P qu (Si p hs ns l 0) σ 37 none=back P [1,2,3,13,14,15] gw σ.length (exec P gw ⟨tm (Si p hs ns l l.length),σ,37,none⟩)) (fun _:Unit=>∃r,an P qu (Si p hs ns l 0) σ 37 none=some r∧ec 6 (.bool false) σ r) (if EE hs l=true then .inl ()else .inr ()):=by
 have h:=cS (P:=P) (nt:=37) (lv:=[1,2,3,13,14,15]) (b:=gw) (rd:=none) (as:=l) (fun i (_:Unit)=>Si p hs ns l i) (fun _=>σ) (fun _ _ v=>if hs.any (Q4 v)=true then .inl ()else .inr ()) (fun(_:Unit)=>ec 6 (.bool false) σ) (fun _ _=>True)
  (fun i x s hv hi _=>by
   refine⟨fun _ _=>trivial,?_⟩
   have hlt:((i:Int)<l.length)=True:=by simpa using hi
   have hx:=fun σ=>aU (k:=.i64) (es:=2) (σ:=σ) (ax (f:=au) hv) (by simp[au])
   have hc:=yd hs x hh;cases hd:hs.any (Q4 x)with
   |true=>
    rw[hd]at hc;simp only[gw,if_true];simp(disch:=omega)only[aG,↓aa,seval,-List.reduceReplicate,reduceCtorEq,af,hlt,hx,Ii,Ig,cr,hc,Si,ec]
   |false=>
    rw[hd]at hc;simp only[gw,nh,if_false];simp(disch:=omega)only[aG,↓aa,seval,-List.reduceReplicate,reduceCtorEq,af,hlt,hx,Ii,Ig,cr,hc,Si,ec]) (fun i s=>rfl) () trivial
 rw[PR]at h;exact h
theorem Zu(ns l:List V2)(hh:ns.length≤1000000)(hl:l.length≤1000000):uV (fun _:Unit=>True∧an P qz (Sj ns l 0) σ 37 none=back P [2,26,27,28] iU σ.length (exec P iU ⟨tm (Sj ns l l.length),σ,37,none⟩)) (fun _:Unit=>∃r,an P qz (Sj ns l 0) σ 37 none=some r∧ec 6 (.bool false) σ r) (if EE ns l=true then .inl ()else .inr ()):=by
 have h:=cS (P:=P) (nt:=37) (lv:=[2,26,27,28]) (b:=iU) (rd:=none) (as:=l) (fun i (_:Unit)=>Sj ns l i) (fun _=>σ) (fun _ _ v=>if ns.any (Q4 v)=true then .inl ()else .inr ()) (fun(_:Unit)=>ec 6 (.bool false) σ) (fun _ _=>True)
  (fun i x s hv hi _=>by
   refine⟨fun _ _=>trivial,?_⟩
   have hlt:((i:Int)<l.length)=True:=by simpa using hi
   have hx:=fun σ=>aU (k:=.i64) (es:=2) (σ:=σ) (ax (f:=au) hv) (by simp[au])
   have hc:=yd ns x hh;cases hd:ns.any (Q4 x)with
   |true=>
    rw[hd]at hc;simp only[iU,if_true];simp(disch:=omega)only[aG,↓aa,seval,-List.reduceReplicate,reduceCtorEq,af,hlt,hx,Ii,Ig,cr,hc,Sj,ec]
   |false=>
    rw[hd]at hc;simp only[iU,nh,if_false];simp(disch:=omega)only[aG,↓aa,seval,-List.reduceReplicate,reduceCtorEq,af,hlt,hx,Ii,Ig,cr,hc,Sj,ec]) (fun i s=>rfl) () trivial
 rw[PR]at h;exact h
theorem aj7{x:List PV}{c:Bool}:(if c=true then[Obj.pv 5 [x] false]else bF [Obj.pv 5 [x] false] (refs [Obj.pv 5 [x] false] 12 (.sl 0 1)))=[Obj.pv 5 [x] (!c)]:=by cases c<;>rfl
theorem amY{o:Obj}{x:List PV}{c:Bool}:(if c=true then[o,Obj.pv 5 [x] false]else dD [o,Obj.pv 5 [x] false] 1)=[o,Obj.pv 5 [x] (!c)]:=by cases c<;>rfl
theorem pC(op:Int)(l:List Term):(varsOf op l).length≤Term.counts l:=by
 have:=NZ (op:=op) (l:=l) (s:=[]);simpa[varsOf]using this
def wiB(hs ns:List V2)(p:Term):Bool:=EE hs (varsOf 24 [p]) && EE ns (varsOf 25 [p])
theorem sF(p:Term)(hs ns:List V2)(hh:hs.length≤1000000)(hn:ns.length≤1000000)(hc:p.count≤400000):R P iC [.agg p.row,.aW (hs.map au),.aW (ns.map au)]=some (.bool (wiB hs ns p)):=by
 have hcc:Term.counts [p]≤500000:=by simp[Term.counts];omega
 have k1:=AD [p] hcc;have k2:=Cb [p] hcc;have la:=pC 24 [p];have lb:=pC 25 [p];simp only[ue,CU]at k1 k2;unfold wiB;generalize varsOf 24 [p]=A at *;generalize varsOf 25 [p]=B at *;have L0:=fun σ=>Zs (σ:=σ) p hs ns A hh (by omega)
 have L1:=fun σ=>Zu (σ:=σ) ns B hn (by omega)
 cases hA:EE hs A with
 |false=>
  have h0:=L0 [Obj.pv 5 [p.row] (!(PV.aW (A.map au)).flat)];rw[hA]at h0;obtain⟨⟨e',τ',σ',nt',rd'⟩,g1,g2,g3,g4⟩:=h0
  simp only at g2 g3 g4
  subst g2;simp only[Si]at g1
  (rw[xk (aO rfl),jS];simp(disch:=omega)only[aG,↓aa,seval,-List.reduceReplicate,reduceCtorEq,af,ajM,qG,k1,bz,aj7,vn,g1,g3,g4,vD])
 |true=>
  have h0:=L0 [Obj.pv 5 [p.row] (!(PV.aW (A.map au)).flat)];rw[hA]at h0;obtain⟨_,h0⟩:=h0;simp only[Si]at h0;have h1:=L1 [Obj.pv 5 [p.row] (!(PV.aW (A.map au)).flat),Obj.pv 5 [p.row] (!(PV.aW (B.map au)).flat)];cases hB:EE ns B with
  |false=>
   rw[hB]at h1;obtain⟨⟨e',τ',σ',nt',rd'⟩,g1,g2,g3,g4⟩:=h1
   simp only at g2 g3 g4
   subst g2;simp only[Sj]at g1
   (rw[xk (aO rfl),jS];simp(disch:=omega)only[aG,↓aa,seval,-List.reduceReplicate,reduceCtorEq,af,ajM,qG,k1,xj,k2,bz,aj7,amY,vn,h0,gw,pD,Ao,g1,g3,g4,UN])
  |true=>
   rw[hB]at h1;obtain⟨_,h1⟩:=h1;simp only[Sj]at h1
   (rw[xk (aO rfl),jS];simp(disch:=omega)only[aG,↓aa,seval,-List.reduceReplicate,reduceCtorEq,af,ajM,qG,k1,xj,k2,bz,aj7,amY,vn,h0,gw,pD,Ao,h1,iU,Q8])
def akd(g:Gd)(hs ns:List V2):Bool:=wiB (if g.kind=1 then[]else hs) ns g.a && (decide (g.kind=1) ||wiB (if g.kind=3∨g.kind=4 then[]else hs) ns g.b)
def DO(g:Gd)(hs ns:List V2):Int :=
 if KG g=false then 1
 else if ¬lF g.a false=0 then lF g.a false
 else if ¬g.kind=1∧¬lF g.b false=0 then lF g.b false
 else if akd g hs ns=false then 12
 else if ¬g.a.w=(if g.kind=1 then 1 else g.b.w)then 3 else 0
theorem NF(g:Gd)(hs ns:List V2)(ha:iM g.a)(hb:iM g.b)(ca:g.a.count≤400000)(cb:g.b.count≤400000)(hh:hs.length≤1000000)(hn:ns.length≤1000000):R P lI [.agg g.row,.aW (hs.map au),.aW (ns.map au)]=some (.int .i64 (DO g hs ns)):=by
 have kf:=QE g hb;have k1:=qI g.a false ha (by omega)
 have k2:=qI g.b false hb (by omega)
 have wa:=sF g.a hs ns hh hn ca;have wb:=sF g.b hs ns hh hn cb;have wa0:=sF g.a [] ns (by simp) hn ca
 have wb0:=sF g.b [] ns (by simp) hn cb
 simp only[CU]at wa0 wb0;unfold DO;cases hf:KG g with
 |false=>
  rw[hf]at kf;simp only[if_true]
  (rw[cA (aO rfl),bN];simp(disch:=omega)only[aG,↓aa,seval,-List.reduceReplicate,reduceCtorEq,af,dx,bZ,cP,kf])
 |true=>
 rw[hf]at kf;simp only[abo,if_false];rcases fC (lF g.a false=0)with h1|h1
 rotate_left
 ·rw[if_pos (of_eq_false h1)]
  (rw[cA (aO rfl),bN];simp(disch:=omega)only[aG,↓aa,seval,-List.reduceReplicate,reduceCtorEq,af,dx,bZ,cP,kf,yF,C1,C2,bt,k1,h1])
 rw[if_neg (not_not_intro (of_eq_true h1))];unfold akd;rcases fC (g.kind=1)with e1|e1
 ·have e1':=of_eq_true e1
  simp only[e1',not_true,false_and,if_false,if_true,decide_true,abI,ab0];cases hw:wiB [] ns g.a with
  |false=>
   rw[hw]at wa0
   (rw[cA (aO rfl),bN];simp(disch:=omega)only[aG,↓aa,seval,-List.reduceReplicate,reduceCtorEq,af,dx,bZ,cP,kf,yF,VR,VS,C1,C2,bt,k1,h1,e1,cN,wa0])
  |true=>
   rw[hw]at wa0;rcases fC (g.a.w=1)with w1|w1
   ·simp only[abo,if_false,of_eq_true w1,not_true]
    (rw[cA (aO rfl),bN];simp(disch:=omega)only[aG,↓aa,seval,-List.reduceReplicate,reduceCtorEq,af,dx,bZ,cP,kf,yF,VR,VS,C1,C2,bt,k1,h1,e1,cN,wa0,w1])
   ·simp only[abo,if_false,of_eq_false w1,not_false_eq_true,if_true]
    (rw[cA (aO rfl),bN];simp(disch:=omega)only[aG,↓aa,seval,-List.reduceReplicate,reduceCtorEq,af,dx,bZ,cP,kf,yF,VR,VS,C1,C2,bt,k1,h1,e1,cN,wa0,w1])
 have e1':=of_eq_false e1;simp only[e1',not_false_eq_true,true_and,if_false,decide_false,NW];rcases fC (lF g.b false=0)with h2|h2
 rotate_left
 ·rw[if_pos (of_eq_false h2)]
  (rw[cA (aO rfl),bN];simp(disch:=omega)only[aG,↓aa,seval,-List.reduceReplicate,reduceCtorEq,af,dx,bZ,cP,kf,yF,C1,C2,bt,k1,k2,h1,h2,e1])
 rw[if_neg (not_not_intro (of_eq_true h2))];have key:∀(hs':List V2),(if g.kind=3∨g.kind=4 then[]else hs)=hs'→True:=fun _ _=>trivial
 rcases fC (g.kind=3)with e3|e3
 ·have e3':(if g.kind=3∨g.kind=4 then([]:List V2)else hs)=[]:=if_pos (.inl (of_eq_true e3))
  rw[e3'];cases hw:wiB hs ns g.a with
  |false=>
   rw[hw]at wa;simp only[vD,if_true]
   (rw[cA (aO rfl),bN];simp(disch:=omega)only[aG,↓aa,seval,-List.reduceReplicate,reduceCtorEq,af,dx,bZ,cP,kf,yF,VR,VS,C1,C2,bt,k1,k2,h1,h2,e1,e3,cN,wa])
  |true=>
   rw[hw]at wa;cases hw2:wiB [] ns g.b with
   |false=>
    rw[hw2]at wb0;simp only[UN,if_true]
    (rw[cA (aO rfl),bN];simp(disch:=omega)only[aG,↓aa,seval,-List.reduceReplicate,reduceCtorEq,af,dx,bZ,cP,kf,yF,VR,VS,C1,C2,bt,k1,k2,h1,h2,e1,e3,cN,wa,wb0])
   |true=>
    rw[hw2]at wb0;simp only[Q8,abo,if_false];rcases fC (g.a.w=g.b.w)with w1|w1
    ·rw[if_neg (not_not_intro (of_eq_true w1))]
     (rw[cA (aO rfl),bN];simp(disch:=omega)only[aG,↓aa,seval,-List.reduceReplicate,reduceCtorEq,af,dx,bZ,cP,kf,yF,VR,VS,C1,C2,bt,k1,k2,h1,h2,e1,e3,cN,wa,wb0,w1])
    ·rw[if_pos (of_eq_false w1)]
     (rw[cA (aO rfl),bN];simp(disch:=omega)only[aG,↓aa,seval,-List.reduceReplicate,reduceCtorEq,af,dx,bZ,cP,kf,yF,VR,VS,C1,C2,bt,k1,k2,h1,h2,e1,e3,cN,wa,wb0,w1])
 rcases fC (g.kind=4)with e4|e4
 ·have e4':(if g.kind=3∨g.kind=4 then([]:List V2)else hs)=[]:=if_pos (.inr (of_eq_true e4))
  rw[e4'];cases hw:wiB hs ns g.a with
  |false=>
   rw[hw]at wa;simp only[vD,if_true]
   (rw[cA (aO rfl),bN];simp(disch:=omega)only[aG,↓aa,seval,-List.reduceReplicate,reduceCtorEq,af,dx,bZ,cP,kf,yF,VR,VS,C1,C2,bt,k1,k2,h1,h2,e1,e3,e4,cN,wa])
  |true=>
   rw[hw]at wa;cases hw2:wiB [] ns g.b with
   |false=>
    rw[hw2]at wb0;simp only[UN,if_true]
    (rw[cA (aO rfl),bN];simp(disch:=omega)only[aG,↓aa,seval,-List.reduceReplicate,reduceCtorEq,af,dx,bZ,cP,kf,yF,VR,VS,C1,C2,bt,k1,k2,h1,h2,e1,e3,e4,cN,wa,wb0])
   |true=>
    rw[hw2]at wb0;simp only[Q8,abo,if_false];rcases fC (g.a.w=g.b.w)with w1|w1
    ·rw[if_neg (not_not_intro (of_eq_true w1))]
     (rw[cA (aO rfl),bN];simp(disch:=omega)only[aG,↓aa,seval,-List.reduceReplicate,reduceCtorEq,af,dx,bZ,cP,kf,yF,VR,VS,C1,C2,bt,k1,k2,h1,h2,e1,e3,e4,cN,wa,wb0,w1])
    ·rw[if_pos (of_eq_false w1)]
     (rw[cA (aO rfl),bN];simp(disch:=omega)only[aG,↓aa,seval,-List.reduceReplicate,reduceCtorEq,af,dx,bZ,cP,kf,yF,VR,VS,C1,C2,bt,k1,k2,h1,h2,e1,e3,e4,cN,wa,wb0,w1])
 have e5':(if g.kind=3∨g.kind=4 then([]:List V2)else hs)=hs:=if_neg (by rintro(h|h);exact of_eq_false e3 h;exact of_eq_false e4 h)
 rw[e5'];cases hw:wiB hs ns g.a with
 |false=>
  rw[hw]at wa;simp only[vD,if_true]
  (rw[cA (aO rfl),bN];simp(disch:=omega)only[aG,↓aa,seval,-List.reduceReplicate,reduceCtorEq,af,dx,bZ,cP,kf,yF,VR,VS,C1,C2,bt,k1,k2,h1,h2,e1,e3,e4,cN,wa])
 |true=>
  rw[hw]at wa;cases hw2:wiB hs ns g.b with
  |false=>
   rw[hw2]at wb;simp only[UN,if_true]
   (rw[cA (aO rfl),bN];simp(disch:=omega)only[aG,↓aa,seval,-List.reduceReplicate,reduceCtorEq,af,dx,bZ,cP,kf,yF,VR,VS,C1,C2,bt,k1,k2,h1,h2,e1,e3,e4,cN,wa,wb])
  |true=>
   rw[hw2]at wb;simp only[Q8,abo,if_false];rcases fC (g.a.w=g.b.w)with w1|w1
   ·rw[if_neg (not_not_intro (of_eq_true w1))]
    (rw[cA (aO rfl),bN];simp(disch:=omega)only[aG,↓aa,seval,-List.reduceReplicate,reduceCtorEq,af,dx,bZ,cP,kf,yF,VR,VS,C1,C2,bt,k1,k2,h1,h2,e1,e3,e4,cN,wa,wb,w1])
   ·rw[if_pos (of_eq_false w1)]
    (rw[cA (aO rfl),bN];simp(disch:=omega)only[aG,↓aa,seval,-List.reduceReplicate,reduceCtorEq,af,dx,bZ,cP,kf,yF,VR,VS,C1,C2,bt,k1,k2,h1,h2,e1,e3,e4,cN,wa,wb,w1])
def yX(hs ns:List V2):List Gd→Int
 | []=>0
 |g::r=>if DO g hs ns=0 then yX hs ns r else DO g hs ns
theorem Oj(hs ns:List V2):∀(l:List Gd) (i:Nat),aq (S:=Unit) (T:=Int) (fun _ _ a=>if DO a hs ns=0 then .inl ()else .inr (DO a hs ns)) i () l=if yX hs ns l=0 then .inl ()else .inr (yX hs ns l)
 | [],i=>rfl
 |a::r,i=>by
  unfold aq yX;by_cases h:DO a hs ns=0
  ·simp only[h,if_true];exact Oj hs ns r (i+1)
  ·simp only[h,if_false]
structure kq (r:ed):Prop where
 ll:r.left.length≤1000
 lt:∀a∈r.left,iM a.pat∧a.pat.count≤400
 rt:iM r.right∧r.right.count≤400
 gl:r.guards.length≤1000
 gt:∀g∈r.guards,iM g.a∧iM g.b∧g.a.count≤400∧g.b.count≤400
theorem D2{r:ed}(h:kq r):∀t∈fj r.left,t.count≤400:=by
 intro t ht;obtain⟨a,ha,ht⟩:=Mz.1 ht;unfold AG at ht;rcases Gb.1 ht with h1|h1
 ·split at h1
  ·simp at h1
  ·rw[Uz.1 h1]
   show Term.count (.mk 24 a.pat.w 0 a.root [])≤400;rw[Term.count_eq];show 1+Term.counts []≤400;decide
 ·rw[Uz.1 h1]
  exact(h.lt a ha).2
theorem Oa(k:Nat):∀l:List Term,(∀t∈l,t.count≤k)→Term.counts l≤l.length*k
 | [],_=>by simp[Term.counts]
 |a::l,h=>by
  have h1:=Oa k l (fun t ht=>h t (by simp[ht]))
  have h2:=h a (by simp)
  simp only[Term.counts,oi,acd];omega
theorem OP(l:List Atom):(fj l).length≤2*l.length:=by
 induction l with
 |nil=>simp[fj]
 |cons a l ih=>
  have:=CA a;simp only[fj,abG,mh,oi]at *;omega
theorem FU{r:ed}(h:kq r)(hl:r.left.length≤100):Term.counts (fj r.left)≤80000:=by
 have h1:=Oa 400 _ (D2 h);have h2:=OP r.left;have h3:(fj r.left).length*400≤200*400:=Jn _ (by omega)
 omega
abbrev VF(hs ns:List V2)(l:List Gd)(i:Int):List (Nat×AV):=[(3,.p (.aW (hs.map au))),(4,.p (.aW (ns.map au))),(13,.p (.aW (l.map Gd.row))),(14,.p (.int .i64 l.length)),(15,.p (.int .i64 i))]
theorem NM(r:ed)(h:kq r)(hl:r.left.length≤100):R P lO [.agg r.row]=some (.int .i64 (yX (ny r) (sk r) r.guards)):=by
 have hsc:=FU h hl;have kh:=Ad r (by omega) (by omega)
 have kn:=Ce r (by omega) (by omega)
 have lh:=pC 24 (fj r.left);have ln:=pC 25 (fj r.left);have lh':(ny r).length≤1000000:=by unfold ny;omega
 have ln':(sk r).length≤1000000:=by unfold sk;omega
 have hgl:=h.gl;generalize ny r=hs at *;generalize sk r=ns at *
 have hL:=cS (P:=P) (nt:=27) (lv:=[3,4,13,14,15]) (b:=oE) (rd:=none) (as:=r.guards) (fun i (_:Unit)=>VF hs ns r.guards i) (fun _=>[]) (fun _ _ a=>if DO a hs ns=0 then .inl ()else .inr (DO a hs ns)) (fun e=>ec 2 (.int .i64 e) []) (fun _ _=>True)
  (fun i g s ha hi _=>by
   refine⟨fun _ _=>trivial,?_⟩
   have hm:=h.gt g (mK ha);have hlt:((i:Int)<r.guards.length)=True:=by simpa using hi
   have hx:=fun σ=>aU (k:=.i64) (es:=11) (σ:=σ) (ax (f:=Gd.row) ha) g.aH
   have hg:=NF g hs ns hm.1 hm.2.1 (by omega) (by omega) lh' ln'
   rcases fC (DO g hs ns=0)with h1|h1
   ·rw[if_pos (of_eq_true h1)]
    simp only[oE];simp(disch:=omega)only[aG,↓aa,seval,-List.reduceReplicate,reduceCtorEq,af,hlt,hx,dx,bZ,Ds,hg,h1,VF,ec]
   ·rw[if_neg (of_eq_false h1)]
    simp only[oE];simp(disch:=omega)only[aG,↓aa,seval,-List.reduceReplicate,reduceCtorEq,af,hlt,hx,dx,bZ,Ds,hg,h1,VF,ec]) (fun i s=>rfl) () trivial
 rw[Oj]at hL;rcases fC (yX hs ns r.guards=0)with c0|c0
 ·have c0':=of_eq_true c0
  rw[if_pos c0']at hL;obtain⟨_,hL⟩:=hL;have h':an P rX (VF hs ns r.guards 0) [] 27 none=_:=hL;simp only[VF]at h';rw[c0']
  (rw[Dz (aO rfl),nW];simp(disch:=omega)only[aG,↓aa,seval,-List.reduceReplicate,reduceCtorEq,af,bX,bn,D4,sr,kh,u0,kn,bz,Bj,h',oE,pD])
 ·have c0':=of_eq_false c0
  rw[if_neg c0']at hL;obtain⟨⟨e',τ',σ',nt',rd'⟩,k1,k2,k3,k4⟩:=hL
  simp only at k2 k3 k4
  subst k2;have h':an P rX (VF hs ns r.guards 0) [] 27 none=some (.ret,⟨τ',σ',nt',rd'⟩):=k1;simp only[VF]at h'
  (rw[Dz (aO rfl),nW];simp(disch:=omega)only[aG,↓aa,seval,-List.reduceReplicate,reduceCtorEq,af,bX,bn,D4,sr,kh,u0,kn,bz,Bj,h',k3])
theorem NS(e:Int):R P gJ [.bool true,.int .i64 e]=some (.int .i64 e):=H9 true e
theorem NR(e:Int):R P gJ [.bool false,.int .i64 e]=some (.int .i64 0):=H9 false e
def t1(r:ed):Int:=if pn r.name=true then 0 else 5
def t2(r:ed):Int:=if r.left.length=0∨4<r.left.length∨8<r.guards.length then 7 else 0
def t6(r:ed):Int:=if Jy (ny r) (sk r) r.right=true then 0 else 12
def t7(r:ed):Int:=if r.right.w=(match r.left with | []=>0|a::_=>a.pat.w)then 0 else 3
theorem ap0(r:ed):R P fU [.ptr r.row 0]=some (.int .i64 (t1 r)):=by
 have h1:=jL r.name;unfold t1;cases hn:pn r.name with
 |true=>rw[hn]at h1;(rw[B4 (aO rfl),mc];simp(disch:=omega)only[aG,↓aa,seval,-List.reduceReplicate,reduceCtorEq,af,UF,gN,h1,jJ,NS,NR])
 |false=>rw[hn]at h1;(rw[B4 (aO rfl),mc];simp(disch:=omega)only[aG,↓aa,seval,-List.reduceReplicate,reduceCtorEq,af,UF,gN,h1,jJ,NS,NR])
theorem ap1(r:ed):R P eV [.ptr r.row 0]=some (.int .i64 (t2 r)):=by
 unfold t2;by_cases g1:r.left.length=0
 ·have g1':((r.left.length:Int)=0)=True:=by simpa using g1
  rw[if_pos (.inl g1)]
  (rw[sD (aO rfl),iy];simp(disch:=omega)only[aG,↓aa,seval,-List.reduceReplicate,reduceCtorEq,af,Ah,D4,bz,g1',jJ,NS,NR])
 have g1':((r.left.length:Int)=0)=False:=by simp;simpa using g1
 by_cases g2:4<r.left.length
 ·have g2':((r.left.length:Int) > 4)=True:=by simp;omega
  rw[if_pos (.inr (.inl g2))]
  (rw[sD (aO rfl),iy];simp(disch:=omega)only[aG,↓aa,seval,-List.reduceReplicate,reduceCtorEq,af,Ah,D4,bz,g1',g2',jJ,NS,NR])
 have g2':((r.left.length:Int) > 4)=False:=by simp;omega
 by_cases g3:8<r.guards.length
 ·have g3':((r.guards.length:Int) > 8)=True:=by simp;omega
  rw[if_pos (.inr (.inr g3))]
  (rw[sD (aO rfl),iy];simp(disch:=omega)only[aG,↓aa,seval,-List.reduceReplicate,reduceCtorEq,af,Ah,D4,bz,g1',g2',g3',jJ,NS,NR])
 have g3':((r.guards.length:Int) > 8)=False:=by simp;omega
 rw[if_neg (by omega)]
 (rw[sD (aO rfl),iy];simp(disch:=omega)only[aG,↓aa,seval,-List.reduceReplicate,reduceCtorEq,af,Ah,D4,bz,g1',g2',g3',jJ,NS,NR])
theorem ap2(r:ed)(h:kq r):R P fV [.ptr r.row 0]=some (.int .i64 (J4 r.left)):=by
 have hll:=h.ll;have k:=QK r.left (by omega) (fun a ha=>⟨(h.lt a ha).1,by have:=(h.lt a ha).2;omega⟩)
 (rw[LU (aO rfl),oL];simp(disch:=omega)only[aG,↓aa,seval,-List.reduceReplicate,reduceCtorEq,af,Ah,Qq,k])
theorem ap3(r:ed)(h:kq r):R P fW [.ptr r.row 0]=some (.int .i64 (K2 r.left)):=by
 have hll:=h.ll;have hsl:=OP r.left;have k:=QM r.left (by omega) (fun t ht=>by have:=D2 h t ht;omega) (by omega)
 (rw[LV (aO rfl),oM];simp(disch:=omega)only[aG,↓aa,seval,-List.reduceReplicate,reduceCtorEq,af,Ah,Qr,k])
theorem ap4(r:ed)(h:kq r):R P fX [.ptr r.row 0]=some (.int .i64 (lF r.right true)):=by
 have k:=qI r.right true h.rt.1 (by have:=h.rt.2;omega)
 (rw[LW (aO rfl),oN];simp(disch:=omega)only[aG,↓aa,seval,-List.reduceReplicate,reduceCtorEq,af,Uo,bt,k])
theorem ap5(r:ed)(h:kq r)(hl:r.left.length≤100):R P fY [.ptr r.row 0]=some (.int .i64 (t6 r)):=by
 have hsc:=FU h hl;have kh:=Ad r (by omega) (by omega)
 have kn:=Ce r (by omega) (by omega)
 have lh:=pC 24 (fj r.left);have ln:=pC 25 (fj r.left);have kb:=QL (ny r) (sk r) (by unfold ny;omega) (by unfold sk;omega) r.right (by have:=h.rt.2;omega)
 unfold t6;cases hb:Jy (ny r) (sk r) r.right with
 |true=>rw[hb]at kb;(rw[B5 (aO rfl),me];simp(disch:=omega)only[aG,↓aa,seval,-List.reduceReplicate,reduceCtorEq,af,Uo,bX,sr,kh,u0,kn,vW,kb,jJ,NS,NR])
 |false=>rw[hb]at kb;(rw[B5 (aO rfl),me];simp(disch:=omega)only[aG,↓aa,seval,-List.reduceReplicate,reduceCtorEq,af,Uo,bX,sr,kh,u0,kn,vW,kb,jJ,NS,NR])
theorem ap6(r:ed)(hl:r.left.length≠0):R P fZ [.ptr r.row 0]=some (.int .i64 (t7 r)):=by
 cases hr:r.left with
 |nil=>rw[hr]at hl;exact absurd rfl hl
 |cons a l=>
  have hx:=fun σ=>aU (k:=.i64) (es:=6) (σ:=σ) (ax (f:=Atom.row) (l:=a::l) (i:=0) (a:=a) rfl) a.aH
  have hx':∀σ,jd σ 6 (.p (.aW (a.row::l.map Atom.row))) (.p (.int .i64 0))=some (.p (.ptr a.row 0)):=hx;have h1:=Ah r;rw[hr,ue]at h1;have ht7:t7 r=if r.right.w=a.pat.w then 0 else 3:=by unfold t7;rw[hr]
  rw[ht7];rcases fC (r.right.w=a.pat.w)with e|e
  ·rw[if_pos (of_eq_true e)]
   (rw[B6 (aO rfl),mf];simp(disch:=omega)only[aG,↓aa,seval,-List.reduceReplicate,reduceCtorEq,af,u_3,h1,hx',a_w,e,jJ,NS,NR])
  ·rw[if_neg (of_eq_false e)]
   (rw[B6 (aO rfl),mf];simp(disch:=omega)only[aG,↓aa,seval,-List.reduceReplicate,reduceCtorEq,af,u_3,h1,hx',a_w,e,jJ,NS,NR])
theorem ap7(r:ed)(h:kq r)(hl:r.left.length≤100):R P gh [.ptr r.row 0]=some (.int .i64 (yX (ny r) (sk r) r.guards)):=by
 have k:=NM r h hl
 (rw[LX (aO rfl),oO];simp(disch:=omega)only[aG,↓aa,seval,-List.reduceReplicate,reduceCtorEq,af,bX,Nq,k])
def Cp:List Int→Int
 | []=>0
 |e::r=>if e=0 then Cp r else e
theorem XL{α:Type}(g:α→Int):∀(l:List α) (i:Nat),aq (S:=Unit) (T:=Int) (fun _ _ a=>if g a=0 then .inl ()else .inr (g a)) i () l=if Cp (l.map g)=0 then .inl ()else .inr (Cp (l.map g))
 | [],i=>rfl
 |a::r,i=>by
  unfold aq;simp only[ue,Cp];by_cases h:g a=0
  ·simp only[h,if_true];exact XL g r (i+1)
  ·simp only[h,if_false]
def yi(r:ed):List (FuncId×Int):=[(fU,t1 r),(eV,t2 r),(fV,J4 r.left),(fW,K2 r.left),(fX,lF r.right true),(fY,t6 r),(fZ,t7 r),(gh,yX (ny r) (sk r) r.guards)]
def CP(r:ed):Int:=Cp ((yi r).map (·.2))
def fnr(r:ed)(x:FuncId×Int):List PV:=[.fn x.1 [.ptr r.row 0]]
theorem Xe(r:ed):∀x∈yi r,Qp P x.1:=by
 intro x hx;simp only[yi,qL,List.not_mem_nil,or_false]at hx;rcases hx with rfl|rfl|rfl|rfl|rfl|rfl|rfl|rfl
 ·exact LB
 ·exact LC
 ·exact LD
 ·exact LF
 ·exact LG
 ·exact LH
 ·exact LI
 ·exact LJ
theorem aik(r:ed)(h:kq r)(hl:r.left.length≤100)(i:Nat)(x:FuncId×Int)(hx:(yi r)[i]?=some x)(hz:∀y∈(yi r).take i,y.2=0):R P x.1 [.ptr r.row 0]=some (.int .i64 x.2):=by
 match i,hx with
 |0,hx=>cases hx;exact ap0 r
 |1,hx=>cases hx;exact ap1 r
 |2,hx=>cases hx;exact ap2 r h
 |3,hx=>cases hx;exact ap3 r h
 |4,hx=>cases hx;exact ap4 r h
 |5,hx=>cases hx;exact ap5 r h hl
 |6,hx=>
  cases hx;refine ap6 r fun e=>?_
  have:=hz (eV,t2 r) (by simp[yi])
  unfold t2 at this;rw[if_pos (.inl e)]at this;cases this
 |7,hx=>cases hx;exact ap7 r h hl
 |n+8,hx=>simp[yi]at hx
abbrev Hd(r:ed)(i:Int):List (Nat×AV):=[(14,.p (.aW ((yi r).map (fnr r)))),(15,.p (.int .i64 8)),(16,.p (.int .i64 i))]
theorem CC(r:ed):(yi r).length=8:=rfl
theorem ai5{f:FuncId}{q:PV}:gM σ 1 false (.p (.ptr [.fn f [q]] 0))=some (.p (.fn f [q])):=rfl
theorem ahe(r:ed)(h:kq r)(hl:r.left.length≤100):uV (fun _:Unit=>(∀y∈(yi r).take 8,y.2=0)∧an P tW (Hd r 0) [] 26 none=back P [14,15,16] lu 0 (exec P lu ⟨tm (Hd r 8),[],26,none⟩)) (fun e:Int=>∃q,an P tW (Hd r 0) [] 26 none=some q∧ec 2 (.int .i64 e) [] q) (if CP r=0 then .inl ()else .inr (CP r)):=by
 have hL:=cS (P:=P) (nt:=26) (lv:=[14,15,16]) (b:=lu) (rd:=none) (as:=yi r) (fun i (_:Unit)=>Hd r i) (fun _=>[]) (fun _ _ x=>if x.2=0 then .inl ()else .inr x.2) (fun e=>ec 2 (.int .i64 e) []) (fun i _=>∀y∈(yi r).take i,y.2=0)
  (fun i x s hx hi hs=>by
   have hR:=aik r h hl i x hx hs;have hq:Qp P x.1:=fun {args σ}=>Xe r x (mK hx)
   have hlt:((i:Int)<8)=True:=by rw[CC]at hi;simp;omega
   have hxi:=fun σ=>aU (k:=.i64) (es:=1) (σ:=σ) (ax (f:=fnr r) hx) rfl
   rw[CC]at hi;rcases fC (x.2=0)with h1|h1
   ·rw[if_pos (of_eq_true h1)]
    refine⟨fun s' he y hy=>?_,?_⟩
    ·rw[List.take_add_one,hx]at hy
     rcases Gb.1 hy with hy|hy
     ·exact hs y hy
     ·have:y=x:=by simpa using hy
      rw[this];exact of_eq_true h1
    ·simp only[lu]
     simp(disch:=omega)only[aG,↓aa,seval,-List.reduceReplicate,reduceCtorEq,af,hlt,hxi,fnr,ai5,I1,hq,hR,h1,Hd,ec]
   ·rw[if_neg (of_eq_false h1)]
    refine⟨fun s' he=>?_,?_⟩
    ·cases he
    ·simp only[lu]
     simp(disch:=omega)only[aG,↓aa,seval,-List.reduceReplicate,reduceCtorEq,af,hlt,hxi,fnr,ai5,I1,hq,hR,h1,Hd,ec]) (fun i s=>rfl) () (by simp)
 rw[XL (fun x:FuncId×Int=>x.2)]at hL
 exact hL
theorem FM(r:ed)(h:kq r)(hl:r.left.length≤100):R P kZ [.agg r.row]=some (.int .i64 (CP r)):=by
 have hL:=ahe r h hl;have hbl:A2 [] 1 8 (gK (List.replicate 8 [.p .w9]).flatten [(0,1,.p (.fn fU [.ptr r.row 0])),(1,1,.p (.fn eV [.ptr r.row 0])),(2,1,.p (.fn fV [.ptr r.row 0])),(3,1,.p (.fn fW [.ptr r.row 0])),(4,1,.p (.fn fX [.ptr r.row 0])),(5,1,.p (.fn fY [.ptr r.row 0])),(6,1,.p (.fn fZ [.ptr r.row 0])),(7,1,.p (.fn gh [.ptr r.row 0]))])=some (.p (.aW ((yi r).map (fnr r))),[]):=rfl;rcases fC (CP r=0)with c0|c0
 ·have c0':=of_eq_true c0
  rw[if_pos c0']at hL;obtain⟨_,hL⟩:=hL;simp only[Hd]at hL;rw[c0']
  (rw[FG (aO rfl),pF];simp(disch:=omega)only[aG,↓aa,seval,-List.reduceReplicate,reduceCtorEq,af,bn,CM,hbl,bz,CC,C6,hL,lu,pD])
 ·have c0':=of_eq_false c0
  rw[if_neg c0']at hL;obtain⟨⟨e',τ',σ',nt',rd'⟩,k1,k2,k3,k4⟩:=hL
  simp only at k2 k3 k4
  subst k2;simp only[Hd]at k1
  (rw[FG (aO rfl),pF];simp(disch:=omega)only[aG,↓aa,seval,-List.reduceReplicate,reduceCtorEq,af,bn,CM,hbl,bz,CC,C6,k1,k3])
theorem KA{α:Type}(q:α→Bool):∀(l:List α) (i:Nat),aq (S:=Unit) (T:=Unit) (fun _ _ a=>if q a=true then .inr ()else .inl ()) i () l=if l.any q=true then .inr ()else .inl ()
 | [],i=>rfl
 |a::l,i=>by
  unfold aq;cases h:q a with
  |true=>simp[h]
  |false=>
   simp only[abL,h,NW,nh,if_false];exact KA q l (i+1)
theorem Sx{α:Type}(q:α→Bool):∀(l:List α) (i:Nat),aq (S:=Unit) (T:=Unit) (fun _ _ a=>if q a=true then .inl ()else .inr ()) i () l=if l.all q=true then .inl ()else .inr ()
 | [],i=>rfl
 |a::l,i=>by
  unfold aq;cases h:q a with
  |true=>
   simp only[UA,h,IZ,if_true];exact Sx q l (i+1)
  |false=>simp[h]
theorem WZ(a:Atom):R P q6 [.agg a.row]=some (.agg (zj a).row):=by
 (rw[WI (aO rfl),wL];simp(disch:=omega)only[aG,↓aa,seval,-List.reduceReplicate,reduceCtorEq,af,jX,fL,iV,a_w])
 rfl
abbrev Ja(s:List Term):ae:=[.pv 5 (s.map Term.row) false]
theorem O3(s:List Term)(t:Term)(hs:s.length≤1000000000){r:ae}:zF (.pv 5 (s.map Term.row) false::r) 5 64 (.sl 0 s.length) (some (.inl [t.row]))=some (.sl 0 (s.length+1),.pv 5 ((s++[t]).map Term.row) false::r):=by
 rw[eZ (σ:=.pv 5 (s.map Term.row) false::r) (b:=0) (n:=s.length) (e:=5) (rows:=s.map Term.row) rfl (by simp) (.inl rfl) (by simp only[oi,pN];omega)]
 simp only[Ed,ue,CU,aa9,oi,pN,sQ]
theorem ajL{z:List AV}:kU [] 5 0 (gK (List.replicate 0 z).flatten [])=some (.sl 0 0,[.pv 5 [] false]):=rfl
theorem apm{l:List Term}{n:Nat}{c:Bool}:(if c=true then Ja l else bF (Ja l) (refs (Ja l) 12 (.sl 0 n)))=[Obj.pv 5 (l.map Term.row) (!c)]:=by cases c<;>rfl
theorem amZ{l:List Term}{n:Nat}{c f:Bool}:(if c=true then[Obj.pv 5 (l.map Term.row) f]else bF [Obj.pv 5 (l.map Term.row) f] (refs [Obj.pv 5 (l.map Term.row) f] 12 (.sl 0 n)))=[Obj.pv 5 (l.map Term.row) (f || !c)]:=by cases c<;>cases f<;>rfl
theorem am0{l:List Term}{c f:Bool}:(if c=true then[Obj.pv 5 (l.map Term.row) f]else dD [Obj.pv 5 (l.map Term.row) f] 0)=[Obj.pv 5 (l.map Term.row) (f || !c)]:=by cases c<;>cases f<;>rfl
theorem apJ{l:List Term}{f:Bool}:az [Obj.pv 5 (l.map Term.row) f] 12 (.sl 0 l.length)=some (.aW (l.map Term.row)):=by simp[az]
abbrev adn(r:ed)(s:List Term)(i:Int):List (Nat×AV):=[(1,.p (.ptr r.row 0)),(4,.sl 0 s.length),(5,.p (.int .i64 i))]
theorem T1(r:ed)(hl:r.left.length≤1000000)(hc:Term.counts (fj r.left)≤500000):R P pf [.agg r.row]=some (.jO [.aW ((ny r).map au),.aW ((sk r).map au)]):=by
 obtain⟨_,h⟩:=jj (P:=P) (nt:=43) (lv:=[1,4,5]) (b:=rF) (rd:=none) (as:=r.left) (fun i (s:List Term)=>adn r s i) Ja (fun i s a=>s++AG a) (fun i s=>s.length≤2*i)
  (fun i a s ha hi hs=>by
   have h2:=CA a;refine⟨by rw[mh];omega,?_⟩
   have hlt:((i:Int)<r.left.length)=True:=by simpa using hi
   have hx:=fun σ=>aU (k:=.i64) (es:=6) (σ:=σ) (ax (f:=Atom.row) ha) a.aH
   have hr:=WZ a;unfold AG;rcases fC (a.root=bs [])with h1|h1
   ·have h1':=of_eq_true h1
    have a1:=fun r=>O3 (r:=r) s a.pat (by omega)
    rw[if_pos h1',yK];simp only[rF];simp(disch:=omega)only[aG,↓aa,seval,-List.reduceReplicate,reduceCtorEq,af,hlt,Ah,bz,hx,jX,fL,iV,sP,h1,lW,vM,a1,adn,mh]
    try rfl
   ·have h1':=of_eq_false h1
    have a1:=fun r=>O3 (r:=r) s (zj a) (by omega)
    have a2:=fun r=>O3 (r:=r) (s++[zj a]) a.pat (by simp;omega)
    rw[if_neg h1',←Ux];simp only[mh,oi,pN,sQ]at a2;simp only[rF];simp(disch:=omega)only[aG,↓aa,seval,-List.reduceReplicate,reduceCtorEq,af,hlt,Ah,bz,hx,jX,fL,iV,sP,h1,Wv,hr,lW,vM,a1,a2,adn,mh]
    try rfl) (fun i s=>rfl) [] (by simp) _ (wi AG r.left 0 [])
 rw[yK]at h;have h':an P zu (adn r [] 0) [.pv 5 [] false] 43 none=_:=h;simp only[adn,pN]at h';have k1:=Mc 24 (fj r.left) hc;have k2:=Mc 25 (fj r.left) hc;unfold ny sk;have hd:r.left.flatMap AG=fj r.left:=rfl;rw[hd]at h'
 (rw[TB (aO rfl),uB];simp(disch:=omega)only[aG,↓aa,seval,-List.reduceReplicate,reduceCtorEq,af,bn,Ah,ajL,P2,h',rF,pD,bz,Wt,k1,k2,apm,amZ,am0,apJ])
def akC(u:Term):List Term:=if isVar u=true then[u]else[]
theorem Cq{α β:Type}(f:α→List β)(k:Nat):∀l:List α,(∀a∈l,(f a).length≤k)→(l.flatMap f).length≤l.length*k
 | [],_=>by simp
 |a::l,h=>by
  have h1:=Cq f k l (fun x hx=>h x (by simp[hx]))
  have h2:=h a (by simp)
  simp only[abG,mh,oi,acd];omega
end Go.AE.S
