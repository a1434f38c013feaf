import Derived.Test.YtpccheodgonkkaaGreatD1
import Derived.Test.YtpccheodgonkkaaGreatC0
set_option maxHeartbeats 0
set_option linter.unusedSimpArgs false
set_option linter.unusedVariables false
namespace Go.AE.S
open Go Go.AE
theorem adw(u:Term):XJ u u=false:=by
 unfold XJ;simp
theorem adu(u v:Term):XJ u v=XJ v u:=by
 unfold XJ;simp only[decide_eq_decide];constructor<;>(rintro⟨h1,h2,h3,h4⟩;exact⟨h2,h1,h3.symm,fun e=>h4 e.symm⟩)
theorem XM:∀(r p:List Term),Sm p r=true→∃u∈r,∃b∈p++r,XJ u b=true
 | [],p,h=>by simp[Sm]at h
 |u::r,p,h=>by
  simp only[Sm,RC]at h;rcases h with h|h
  ·obtain⟨b,hb,hc⟩:=abE.1 h
   exact⟨u,by simp,b,by simp[hb],hc⟩
  ·obtain⟨v,hv,b,hb,hc⟩:=XM r (p++[u]) h
   exact⟨v,by simp[hv],b,by simpa using hb,hc⟩
theorem XN:∀(r p:List Term),Sm p r=false→∀u∈r,∀b∈p++r,XJ u b=false
 | [],p,h,u,hu=>by simp at hu
 |x::r,p,h,u,hu=>by
  simp only[Sm,abK]at h;have ih:=XN r (p++[x]) h.2
  have hx:∀b∈p++x::r,XJ x b=false:=by
   intro b hb;rcases D6.1 hb with hb|hb
   ·simpa using RB.1 h.1 b hb
   ·rcases pU.1 hb with rfl|hb
    ·exact adw b
    ·rw[adu];exact ih b (by simp[hb]) x (by simp) |>.symm ▸ rfl
  rcases pU.1 hu with rfl|hu
  ·exact hx
  ·intro b hb
   exact ih u hu b (by simpa using hb)
theorem Kr:∀l:List Term,(∀a∈l,vh a=0)→zN l=0
 | [],_=>rfl
 |a::l,h=>by
  simp only[zN];rw[if_pos (h a (by simp))]
  exact Kr l fun b hb=>h b (by simp[hb])
theorem ON(t:Term):ix t=0↔(t.deep:Int)≤64∧(t.count:Int)≤4096∧NX t∧∀u∈t.post,∀b∈t.post,XJ u b=false:=by
 constructor
 ·intro h
  have ha:=Td h;unfold ix at h;split at h
  ·rename_i hb
   refine⟨hb.1,hb.2,ha,?_⟩;rw[ads,if_neg (fun h'=>h' (Kr _ ha))]at h
   split at h
   ·cases h
   ·rename_i ho
    intro u hu b hb;exact XN t.post [] (by simpa using ho) u hu b (by simpa using hb)
  ·cases h
 ·rintro⟨h1,h2,h3,h4⟩
  unfold ix;rw[if_pos ⟨h1,h2⟩,ads,if_neg (fun h'=>h' (Kr _ h3)),if_neg]
  intro hx;obtain⟨a,ha,b,hb',hc⟩:=XM t.post [] hx;rw[h4 a ha b (by simpa using hb')]at hc
  cases hc
variable {τ:Tm} {σ:ah} {rd:Option Nat}
theorem afG:∀{l:List Term} {s:List V2} {v:V2},v∈l.foldl yP s→v∈s∨∃u∈l,u.op=1∧v=⟨u.name,u.w⟩
 | [],s,v,h=>.inl h
 |u::l,s,v,h=>by
  rw[S1]at h;rcases afG h with h|⟨u',hu,q⟩
  ·rcases B1.1 h with h|⟨h1,h2,_⟩
   ·exact .inl h
   ·exact .inr ⟨u,by simp,h1,h2⟩
  ·exact .inr ⟨u',by simp[hu],q⟩
theorem agH{t:Term}{v:V2}(h:v∈nP t):∃u∈t.post,u.op=1∧v=⟨u.name,u.w⟩:=by
 rcases afG (tQ.1 h)with h|⟨u,hu,q⟩
 ·simp at h
 ·exact⟨u,(k8 t u).2 hu,q⟩
theorem Wn{t u:Term}(hu:u∈t.post)(h1:u.op=1):∃v∈nP t,v.name=u.name:=by
 obtain⟨v,hv,hn⟩:=(PS t.pre [] u.name).2 (.inr ⟨u,(k8 t u).1 hu,h1,rfl⟩);exact⟨v,tQ.2 hv,hn⟩
theorem amg{t:Term}(h:ix t=0){u:Term}(hu:u∈t.post)(h1:u.op=1){v:V2}(hv:v∈nP t)(hn:v.name=u.name):v.w=u.w:=by
 obtain⟨_,_,_,h4⟩:=(ON t).1 h;obtain⟨u',hu',h1',rfl⟩:=agH hv;have:=h4 u' hu' u hu;unfold XJ at this;have:=of_decide_eq_false this;refine abO fun hw=>this ⟨h1',h1,hn,hw⟩
theorem Rv(t:Term):(nP t).length≤t.count:=by
 rw[ame];have:=TB (l:=t.pre) (s:=[]);rw[Term.nc,nz]at this;omega
theorem agF(E E':ByteArray→Nat)(t:Term):(∀u∈t.post,u.op=1→E u.name % 2^cw u.w=E' u.name % 2^cw u.w)→t.AI E=t.AI E':=by
 induction t using Term.ind with
 |h t ih=>
 intro h;rw[Term.NW,Term.NW E' t];by_cases h1:t.op=1
 ·rw[if_pos h1,if_pos h1,h t ((k8 t t).2 (mZ.2 (.inl rfl))) h1]
 ·rw[if_neg h1,if_neg h1]
  have:Term.vT E t.args=Term.vT E' t.args:=by
   rw[Term.uh,Term.uh];exact ab6 fun a ha=>by rw[ih a ha fun u hu=>h u ((k8 t u).2 (mZ.2 (.inr ⟨a,ha,(k8 a u).1 hu⟩)))]
  rw[this]
theorem apE(k:Nat)(o:Obj)(rows:List (List PV))(e:Nat)(fr:Bool):aG [o,.pv e rows fr] (k+1) (.sl 1 rows.length)=some (.aO rows):=by simp[aG]
theorem Pk{α:Type}(q:α→Bool):∀(l:List α) (i:Nat),aq (S:=Unit) (T:=Unit) (fun _ _ a=>if q a=true then .inr ()else .inl ()) i () l=if l.any q=true then .inr ()else .inl ()
 | [],i=>rfl
 |a::l,i=>by
  cases h:q a<;>simp[aq,h,Pk q l]
def BD{α:Type}(q:α→α→Bool)(p:List α):List α→Bool
 | []=>false
 |u::r=>p.any (q u) ||BD q (p++[u]) r
def DP(u a:V2):Bool:=decide (u.name=a.name)
theorem agJ{v:V2}:(ay v)[0]?=some (.str v.name):=rfl
theorem Rx{v:V2}:(ay v)[1]?=some (.int .i64 v.w):=rfl
theorem agI{v:V2}:Pd 0 (.p (.ptr (ay v) 0))=some (.p (.ptr (ay v) 0)):=rfl
theorem Rw{v:V2}:Pd 1 (.p (.ptr (ay v) 0))=some (.p (.ptr (ay v) 1)):=rfl
theorem HL(v:V2):(ay v).length=2:=rfl
theorem DS{v:V2}:iu σ 2 true (.p (.ptr (ay v) 0))=some (.p (.agg (ay v))):=rfl
def eqV(a b:V2):Bool:=decide (a.name=b.name) && decide (a.w=b.w)
def sF(t:Term)(l:List V2):Bool:=!BD DP [] l && !(nP t).any (fun u=>!(l.any fun a=>eqV a u))
def nV(n:Int):List V2→Int
 | []=>n
 |v::r=>if n≤16 then nV (n+v.w) r else n
def uo(v:V2):Prop:=1≤v.w∧v.w≤64
def xP(l:List V2):Int:=min (nV 0 l) 17
def ML(v:V2):Bool:=decide (v.w<1) ||decide (64<v.w)
theorem amR{l:List V2}(h:l.any ML=false):∀v∈l,uo v:=by
 intro v hv;have:=RB.1 h v hv;simp only[ML,RC,decide_eq_true_eq]at this;unfold uo;omega
def Gl(t:Term)(l:List V2):Int:=if ¬ix t=0 then ix t else if sF t l=false then 12 else if l.any ML=true then 3 else if 16<xP l then 7 else 0
def gC:Nat→List V2→List Bd
 |_,[]=>[]
 |n,v::r=>⟨v.name,n % 2^cw v.w⟩::gC (n / 2^v.w.toNat) r
def asF(s:List Bd×Nat)(v:V2):List Bd×Nat:=(s.1++[⟨v.name,s.2 % 2^cw v.w⟩],s.2 / 2^v.w.toNat)
theorem afI:∀(l:List V2) (s:List Bd) (n:Nat),(l.foldl asF (s,n)).1=s++gC n l
 | [],s,n=>by simp[gC]
 |v::l,s,n=>by
  rw[S1]
  show(l.foldl asF (s++[⟨v.name,n % 2^cw v.w⟩],n / 2^v.w.toNat)).1=_
  rw[afI l];simp[gC]
abbrev sAs(s:List Bd×Nat):ah:=[.pv (mX 2 s.1) (s.1.map W4) false]
theorem ap9{n:ByteArray}{x:Int}:lr σ 2 1 (gR (List.replicate 1 [.p (.str (bs [])),.p (.int .u64 0)]).flatten [(0,2,.p (.agg [.str n,.int .u64 x]))])=some (.sl σ.length 1,σ++[.pv 2 [[.str n,.int .u64 x]] false]):=rfl
theorem arU{o:Obj}{a:List PV}{fr:Bool}:nO [o,.pv 2 [a] fr] 2 (.sl 1 1)=some (.inl [a]):=FH rfl rfl (.inl rfl)
theorem EE(n:ByteArray):∀(l:List V2) (k:Nat),(A9 n (gC k l)).isSome=l.any fun a=>decide (a.name=n)
 | [],k=>rfl
 |v::l,k=>by
  simp only[gC,A9,abt];by_cases h:v.name=n
  ·simp[h]
  ·simp only[h,if_false,decide_false,J5]
   exact EE n l _
theorem Us{t:Term}{l:List V2}(h:sF t l=true)(k:Nat):acU (gC k l) t=true:=by
 unfold sF at h;rw[vM,abi,abi,RB]at h;unfold acU;rw[CS];intro u hu;by_cases h1:u.op=1
 ·obtain⟨v,hv,hn⟩:=Wn hu h1
  have hx:=h.2 v hv;simp only[abi,Bool.not_eq_false]at hx;obtain⟨a,ha,he⟩:=abE.1 hx
  have:(A9 u.name (gC k l)).isSome=true:=by
   rw[EE];refine abE.2 ⟨a,ha,?_⟩;unfold eqV at he;rw[vM]at he;rw[←hn];exact he.1
  rw[this];simp
 ·simp[h1]
def afq(t:Term)(l:List V2)(b:Nat):List Nat:=(List.range (2^b)).map fun k=>t.AI (U7 (gC k l))
def xT(n:ByteArray):List V2→Option Nat
 | []=>none
 |v::r=>if v.name=n then some 0 else(xT n r).map (· + 1)
theorem NK(n:ByteArray):∀(l:List V2) (i:Nat),xT n l=some i→∃a,l[i]?=some a∧a.name=n
 | [],i,h=>by cases h
 |v::r,i,h=>by
  unfold xT at h;split at h
  ·rename_i hn
   cases h;exact⟨v,rfl,hn⟩
  ·rw[ib]at h
   obtain⟨j,hj,rfl⟩:=h;obtain⟨a,ha,hn⟩:=NK n r j hj;exact⟨a,by simpa using ha,hn⟩
theorem Px(n:ByteArray):∀l:List V2,(xT n l).isSome=l.any fun a=>decide (a.name=n)
 | []=>rfl
 |v::r=>by
  unfold xT;by_cases h:v.name=n
  ·simp[h]
  ·simp only[h,if_false,Option.isSome_map,Px n r,abt,decide_false,J5]
theorem af8(n:ByteArray)(v:V2):∀p:List V2,xT n (p++[v])=match xT n p with|some i=>some i|none=>if v.name=n then some p.length else none
 | []=>by simp only[y8,xT];split<;>rfl
 |a::p=>by
  simp only[F9,xT];by_cases h:a.name=n
  ·simp only[h,if_true]
  ·simp only[h,if_false,af8 n v p]
   cases xT n p with
   |some i=>rfl
   |none=>
    by_cases h2:v.name=n
    ·simp[h2]
    ·simp[h2]
def acE(p:List V2)(m:Seen):Prop:=∀n,TK m n=Option.map (fun i:Nat=>(i:Int)) (xT n p)
def plF(i:Nat)(m:Seen)(v:V2):Seen ⊕ Unit:=if(TK m v.name).isSome=true then .inr ()else .inl (stW v.name i m)
theorem af2:∀(r p:List V2) (m:Seen),acE p m→if BD DP p r=true then aq plF p.length m r=.inr ()else ∃m',aq plF p.length m r=.inl m'∧acE (p++r) m'
 | [],p,m,h=>by
  rw[if_neg (by simp[BD])]
  exact⟨m,rfl,by simpa using h⟩
 |v::r,p,m,h=>by
  have hs:(TK m v.name).isSome=p.any (DP v):=by
   rw[h v.name,Option.isSome_map,Px]
   congr 1
   funext a
   unfold DP;rw[decide_eq_decide];exact⟨Eq.symm,Eq.symm⟩
  simp only[BD,aq,plF,hs];cases ha:p.any (DP v)with
  |true=>simp
  |false=>
   simp only[lG,if_false,J5]
   have hi:acE (p++[v]) (stW v.name p.length m):=by
    intro n;rw[Vz,af8]
    have hn:xT v.name p=none:=by
     have:=hs;rw[ha,h v.name,Option.isSome_map]at this;cases hx:xT v.name p with
     |none=>rfl
     |some i=>rw[hx]at this;simp at this
    by_cases he:n=v.name
    ·subst he
     rw[if_pos rfl,hn];simp
    ·rw[if_neg he,h n]
     cases xT n p with
     |some i=>rfl
     |none=>
      have:¬v.name=n:=fun e=>he e.symm
      simp[this]
   have:=af2 r (p++[v]) _ hi;rw[jS]at this;simpa using this
def Hs(l:List V2)(v:V2):Bool:=match xT v.name l with
 |some i=>(match l[i]? with|some a=>decide (a.w=v.w)|none=>false)
 |none=>false
theorem ah2{a v:V2}{l:List V2}:Hs (a::l) v=if a.name=v.name then decide (a.w=v.w)else Hs l v:=by
 unfold Hs;simp only[xT];by_cases h:a.name=v.name
 ·simp[h]
 ·simp only[h,if_false]
  cases xT v.name l with
  |none=>rfl
  |some i=>simp
theorem XT{q:V2→V2→Bool}:∀(r p:List V2),BD q p r=false→∀a∈p,∀b∈r,q b a=false
 | [],p,_,a,_,b,hb=>by simp at hb
 |v::r,p,h,a,ha,b,hb=>by
  simp only[BD,abK]at h;rcases pU.1 hb with rfl|hb
  ·simpa using RB.1 h.1 a ha
  ·exact XT r (p++[v]) h.2 a (by simp[ha]) b hb
theorem aju{q:V2→V2→Bool}:∀(r p:List V2),BD q p r=false→BD q [] r=false
 | [],p,_=>rfl
 |v::r,p,h=>by
  simp only[BD,abK]at h;simp only[BD,List.any_nil,J5,y8]
  have key:∀(r p p':List V2),(∀a∈p',a∈p)→BD q p r=false→BD q p' r=false:=by
   intro r
   induction r with
   |nil=>intro _ _ _ _;rfl
   |cons u r ih=>
    intro p p' hs h;simp only[BD,abK]at h ⊢;refine⟨RB.2 fun a ha=>RB.1 h.1 a (hs a ha),ih (p++[u]) (p'++[u]) (fun a ha=>?_) h.2⟩
    rcases D6.1 ha with ha|ha
    ·exact D6.2 (.inl (hs a ha))
    ·exact D6.2 (.inr ha)
  exact key r (p++[v]) [v] (fun a ha=>D6.2 (.inr ha)) h.2
theorem aeh:∀(l:List V2),BD DP [] l=false→∀v,Hs l v=l.any fun a=>eqV a v
 | [],_,v=>rfl
 |a::l,h,v=>by
  have hd:=h;simp only[BD,List.any_nil,J5,y8]at hd;have ih:=aeh l (aju l [a] hd) v;rw[ah2,abt];by_cases hn:a.name=v.name
  ·rw[if_pos hn]
   have:l.any (fun b=>eqV b v)=false:=by
    refine RB.2 fun b hb=>?_
    have:=XT l [a] hd a (by simp) b hb
    unfold DP at this;have:=of_decide_eq_false this;unfold eqV;have hne:¬b.name=v.name:=fun e=>this (by rw[e,hn])
    simp[hne]
   rw[this,Bool.or_false];unfold eqV;simp[hn]
  ·rw[if_neg hn,ih]
   unfold eqV;simp[hn]
def q6(c:Nat):List V2→List Nat
 | []=>[]
 |v::r=>c::q6 (c+v.w.toNat) r
theorem F3:∀(l:List V2) (c:Nat),(q6 c l).length=l.length
 | [],c=>rfl
 |v::l,c=>by simp[q6,F3 l]
theorem agh(n:ByteArray)(K:Nat):∀(l:List V2) (c:Nat),A9 n (gC (K / 2^c) l)=match xT n l with
  |some i=>(match l[i]?,(q6 c l)[i]? with|some a,some s=>some (K / 2^s % 2^cw a.w)|_,_=>none)
  |none=>none
 | [],c=>rfl
 |v::l,c=>by
  simp only[gC,A9,xT,q6];by_cases h:v.name=n
  ·simp[h]
  ·simp only[h,if_false]
   have hd:K / 2^c / 2^v.w.toNat=K / 2^(c+v.w.toNat):=by rw[Nat.div_div_eq_div_mul,Nat.pow_add]
   rw[hd,agh n K l (c+v.w.toNat)];cases xT n l with
   |none=>rfl
   |some i=>simp
def X6(l:List V2)(K:Nat)(n:ByteArray):Nat:=match xT n l with
 |some i=>K / 2^((q6 0 l).getD i 0)
 |none=>0
theorem aql(l:List V2){K:Nat}(h:W K)(n:ByteArray):W (X6 l K n):=by
 unfold X6;split
 ·exact abr (ab4 _ _) h
 ·show 0<_;omega
theorem agG{t:Term}{l:List V2}(hk:ix t=0)(hb:sF t l=true)(K:Nat):t.AI (X6 l K)=t.AI (U7 (gC K l)):=by
 refine agF _ _ t fun u hu h1=>?_
 unfold sF at hb;rw[vM,abi,abi,RB]at hb;obtain⟨v,hv,hn⟩:=Wn hu h1;have hw:=amg hk hu h1 hv hn;have hx:=hb.2 v hv;simp only[abi,Bool.not_eq_false]at hx;rw[←aeh l hb.1 v]at hx;unfold Hs at hx;unfold U7 X6;have hl:=agh u.name K l 0;rw[Nat.pow_zero,Nat.div_one]at hl;rw[hl];rw[hn]at hx;cases hi:xT u.name l with
 |none=>rfl
 |some i=>
  rw[hi]at hx;obtain⟨a,ha,_⟩:=NK _ l i hi;simp only[ha]at hx;have hwa:=of_decide_eq_true hx;have hil:i<(q6 0 l).length:=by rw[F3];exact(gA.1 ha).1
  have hs:(q6 0 l)[i]?=some ((q6 0 l)[i]):=o8 hil;simp only[ha,hs,aaZ,Wx,hwa,hw,Nat.mod_mod]
def Rr(i:Nat)(s:Int×List Int)(v:V2):(Int×List Int) ⊕ Unit:=if 16<s.1+v.w then .inr ()else .inl (s.1+v.w,s.2.set i s.1)
theorem Tb(n:Int)(h:16<n):∀l:List V2,nV n l=n
 | []=>rfl
 |v::l=>by unfold nV;rw[if_neg (by omega)]
theorem Yn:∀(r:List V2) (p:List Int) (c:Nat),(∀v∈r,uo v)→(c:Int)≤16→if 16<nV c r then aq Rr p.length ((c:Int),p++List.replicate r.length 0) r=.inr ()else aq Rr p.length ((c:Int),p++List.replicate r.length 0) r=.inl (nV c r,p++(q6 c r).map fun(x:Nat)=>(x:Int))
 | [],p,c,_,hc=>by
  have:¬16<nV (c:Int) []:=by show ¬16<(c:Int);omega
  rw[if_neg this];simp[aq,nV,q6]
 |v::r,p,c,h,hc=>by
  have hv:=h v (by simp)
  unfold uo at hv;have hb:nV (c:Int) (v::r)=nV ((c:Int)+v.w) r:=by rw[nV,if_pos hc]
  have hcw:((c+v.w.toNat:Nat):Int)=(c:Int)+v.w:=by omega
  rw[hb];by_cases h16:16<(c:Int)+v.w
  ·rw[Tb _ h16,if_pos h16]
   simp only[aq,Rr,h16,if_true]
  ·have ih:=Yn r (p++[(c:Int)]) (c+v.w.toNat) (fun a ha=>h a (by simp[ha])) (by omega)
   rw[hcw]at ih
   have hset:(p++List.replicate (v::r).length 0).set p.length (c:Int)=(p++[(c:Int)])++List.replicate r.length 0:=by
    rw[List.set_append_right _ _ (by omega),abM,lZ,List.replicate_succ,abf]
    simp
   have e8:(p++[(c:Int)]).length=p.length+1:=by simp
   rw[e8]at ih;simp only[aq,Rr,h16,if_false,hset];split
   ·rename_i hh;rw[if_pos hh]at ih;exact ih
   ·rename_i hh
    rw[if_neg hh]at ih;rw[ih];simp[q6]
abbrev KX(m:Seen):ah:=[.map (m.map Ge) false,.av 1 [[.map 0]] false]
abbrev O5(t:Term)(l:List V2)(i:Int):List (Nat×AV):=[(1,.p (.aO (l.map ay))),(2,.p (.ptr t.row 0)),(7,.ptr 1 1 0 0),(30,.p (.aO (l.map ay))),(31,.p (.int .i64 l.length)),(32,.p (.int .i64 i))]
def YQ(r:Ex×St):Prop:=r.1=.ret∧r.2.τ.get 4=.aA∧r.2.τ.get 5=.p (.int .i64 12)
theorem amK:uX 2 (aX [.p (.str (bs [])),.p (.int .i64 0)] σ)=some (.ptr σ.length 1 0 0,σ++[.pv 2 [[.str (bs []),.int .i64 0]] false]):=rfl
theorem al0{o o1:Obj}{r:List PV}{v:V2}{fr:Bool}:eY [o,o1,.pv 2 [[.str (bs []),.int .i64 0]] false] 2 (.ptr 2 1 0 0) (.p (.agg (ay v)))=some [o,o1,.pv 2 [ay v] false]:=rfl
theorem YE{v:V2}{fr:Bool}:RF 1 0 0 1 false (some (.pv 2 [ay v] fr))=some (.p (.str v.name)):=rfl
theorem YF{v:V2}{fr:Bool}:RF 1 0 1 1 false (some (.pv 2 [ay v] fr))=some (.p (.int .i64 v.w)):=rfl
theorem akg(t:Term)(l:List V2)(hl:l.length≤40):if BD DP [] l=true then ∃r,al P mE (O5 t l 0) (KX []) 129 none=some r∧YQ r else ∃m,acE l m∧al P mE (O5 t l 0) (KX []) 129 none=back P [1,2,7,30,31,32] gp 2 (exec P gp ⟨tm (O5 t l l.length),KX m,129,none⟩):=by
 have h:=cE (P:=P) (nt:=129) (lv:=[1,2,7,30,31,32]) (b:=gp) (rd:=none) (as:=l) (fun i (_:Seen)=>O5 t l i) KX plF (fun(_:Unit)=>YQ) (fun _ _=>True)
  (fun i v m hv hi hs=>by
   refine⟨fun _ _=>trivial,?_⟩
   have hlt:((i:Int)<l.length)=True:=by simpa using hi
   have hx:=fun σ=>aH (k:=.i64) (es:=2) (σ:=σ) (aw (f:=ay) hv) (HL v)
   have hlk:=fun(r:ah) (z:AV)=>akC (fr:=false) (r:=r) (z:=z) (kl:=.str) (k:=.str v.name) rfl (FQ v.name m)
   unfold plF;cases hk:TK m v.name with
   |none=>
    rw[hk]at hlk;simp only[acs,Option.getD_none,acb]at hlk;have hm:=fun(r:ah)=>aqS (r:=r) (kl:=.str) (k:=.str v.name) rfl (Re v.name i m)
    simp only[gp,acb,lG,if_false];simp(disch:=omega)only[aB,↓aa,seval,-List.reduceReplicate,reduceCtorEq,ae,hlt,hx,aR,DS,amK,al0,YE,ldM,hlk,hm,mG,O5,KX]
   |some w=>
    rw[hk]at hlk;simp only[x6,Wx,Option.isSome_some]at hlk;simp only[gp,Option.isSome_some,if_true];simp(disch:=omega)only[aB,↓aa,seval,-List.reduceReplicate,reduceCtorEq,ae,hlt,hx,aR,DS,amK,al0,YE,ldM,hlk,mG,O5,KX,YQ]) (fun i s=>rfl) [] trivial
 have hf:=af2 l [] [] (fun n=>rfl)
 rw[nz]at hf;cases hb:BD DP [] l with
 |true=>
  rw[hb,if_pos rfl]at hf;rw[hf]at h;rw[if_pos rfl];exact h
 |false=>
  rw[hb,if_neg (by simp)]at hf
  obtain⟨m,hf,hi⟩:=hf;rw[hf]at h;rw[if_neg (by simp)]
  exact⟨m,hi,h.2⟩
abbrev X0(t:Term)(l V:List V2)(i:Int):List (Nat×AV):=[(1,.p (.aO (l.map ay))),(2,.p (.ptr t.row 0)),(7,.ptr 1 1 0 0),(51,.p (.aO (V.map ay))),(52,.p (.int .i64 V.length)),(53,.p (.int .i64 i))]
theorem MI{v:V2}:vO σ 2 true (some ((ay v).map .p))=some (.p (.ptr (ay v) 0),σ):=rfl
theorem MG{v:V2}:cellsOf 2 true (.p (.agg (ay v)))=some ((ay v).map .p):=rfl
theorem akk(t:Term)(l V:List V2)(m:Seen)(hm:acE l m)(hV:V.length≤1000000)(hl:l.length≤40):if V.any (fun v=>!Hs l v)=true then ∃r,al P w7 (X0 t l V 0) (KX m) 129 none=some r∧YQ r else al P w7 (X0 t l V 0) (KX m) 129 none=back P [1,2,7,51,52,53] gq 2 (exec P gq ⟨tm (X0 t l V V.length),KX m,129,none⟩):=by
 have h:=cE (P:=P) (nt:=129) (lv:=[1,2,7,51,52,53]) (b:=gq) (rd:=none) (as:=V) (fun i (_:Unit)=>X0 t l V i) (fun _=>KX m) (fun _ _ v=>if(fun v=>!Hs l v) v=true then .inr ()else .inl ()) (fun(_:Unit)=>YQ) (fun _ _=>True)
  (fun i v s hv hi hs=>by
   refine⟨fun _ _=>trivial,?_⟩
   have hlt:((i:Int)<V.length)=True:=by simpa using hi
   have hx:=fun σ=>aH (k:=.i64) (es:=2) (σ:=σ) (aw (f:=ay) hv) (HL v)
   have hlk:=fun(r:ah) (z:AV)=>akC (fr:=false) (r:=r) (z:=z) (kl:=.str) (k:=.str v.name) rfl (FQ v.name m)
   rw[hm v.name]at hlk;cases hk:xT v.name l with
   |none=>
    have hok:Hs l v=false:=by unfold Hs;rw[hk]
    rw[hk]at hlk;simp only[acs,Option.getD_none,acb]at hlk;simp only[gq];simp(disch:=omega)only[aB,↓aa,seval,-List.reduceReplicate,reduceCtorEq,ae,hlt,hx,aR,DS,MG,MI,agI,agJ,ldM,hlk,hok,X0,KX,YQ,ab1,if_true]
   |some j=>
    rw[hk]at hlk;simp only[x6,Wx,Option.isSome_some]at hlk;obtain⟨a,ha,hn⟩:=NK _ l j hk;have hy:=fun σ=>aH (k:=.i64) (es:=2) (σ:=σ) (aw (f:=ay) ha) (HL a)
    rcases cY (a.w=v.w)with h1|h1
    ·have hok:Hs l v=true:=by unfold Hs;rw[hk];simp only[ha,h1,decide_true]
     simp only[gq];simp(disch:=omega)only[aB,↓aa,seval,-List.reduceReplicate,reduceCtorEq,ae,hlt,hx,hy,aR,DS,MG,MI,agI,agJ,Rw,Rx,ldM,hlk,hok,h1,X0,KX,YQ,abY,lG,if_false]
    ·have hok:Hs l v=false:=by unfold Hs;rw[hk];simp only[ha,h1,decide_false]
     simp only[gq];simp(disch:=omega)only[aB,↓aa,seval,-List.reduceReplicate,reduceCtorEq,ae,hlt,hx,hy,aR,DS,MG,MI,agI,agJ,Rw,Rx,ldM,hlk,hok,h1,X0,KX,YQ,ab1,if_true]) (fun i s=>rfl) () trivial
 rw[Pk]at h;cases hb:V.any (fun v=>!Hs l v)with
 |true=>rw[hb,if_pos rfl]at h;rw[if_pos rfl];exact h
 |false=>rw[hb,if_neg (by simp)]at h;rw[if_neg (by simp)];exact h.2
abbrev X1(t:Term)(l:List V2)(i:Int):List (Nat×AV):=[(1,.p (.aO (l.map ay))),(2,.p (.ptr t.row 0)),(7,.ptr 1 1 0 0),(16,.p (.int .i64 0)),(77,.p (.aO (l.map ay))),(78,.p (.int .i64 l.length)),(79,.p (.int .i64 i))]
def LC(x:Int)(r:Ex×St):Prop:=r.1=.ret∧r.2.τ.get 4=.aA∧r.2.τ.get 5=.p (.int .i64 x)
theorem ako(t:Term)(l:List V2)(m:Seen)(hl:l.length≤40):if l.any ML=true then ∃r,al P w8 (X1 t l 0) (KX m) 129 none=some r∧LC 3 r else al P w8 (X1 t l 0) (KX m) 129 none=back P [1,2,7,16,77,78,79] iT 2 (exec P iT ⟨tm (X1 t l l.length),KX m,129,none⟩):=by
 have h:=cE (P:=P) (nt:=129) (lv:=[1,2,7,16,77,78,79]) (b:=iT) (rd:=none) (as:=l) (fun k (_:Unit)=>X1 t l k) (fun _=>KX m) (fun _ _ v=>if ML v=true then .inr ()else .inl ()) (fun(_:Unit)=>LC 3) (fun _ _=>True)
  (fun i v s hv hi hs=>by
   refine⟨fun _ _=>trivial,?_⟩
   have hlt:((i:Int)<l.length)=True:=by simpa using hi
   have hx:=fun σ=>aH (k:=.i64) (es:=2) (σ:=σ) (aw (f:=ay) hv) (HL v)
   unfold ML;rcases cY (v.w<1)with h1|h1
   ·simp only[iT,h1]
    simp(disch:=omega)only[aB,↓aa,seval,-List.reduceReplicate,reduceCtorEq,ae,hlt,hx,aR,DS,MG,MI,Rw,Rx,h1,Ul,J5,if_true,if_false,lG,X1,KX,LC]
   ·rcases cY (64<v.w)with h2|h2
    ·have h3:(v.w > 64)=True:=h2
     simp only[iT,h1,h2];simp(disch:=omega)only[aB,↓aa,seval,-List.reduceReplicate,reduceCtorEq,ae,hlt,hx,aR,DS,MG,MI,Rw,Rx,h1,h2,h3,Ul,J5,if_true,if_false,lG,X1,KX,LC]
    ·have h3:(v.w > 64)=False:=h2
     simp only[iT,h1,h2];simp(disch:=omega)only[aB,↓aa,seval,-List.reduceReplicate,reduceCtorEq,ae,hlt,hx,aR,DS,MG,MI,Rw,Rx,h1,h2,h3,Ul,J5,if_true,if_false,lG,X1,KX,LC]) (fun i s=>rfl) () trivial
 rw[Pk]at h;cases hb:l.any ML with
 |true=>rw[hb,if_pos rfl]at h;rw[if_pos rfl];exact h
 |false=>rw[hb,if_neg (by simp)]at h;rw[if_neg (by simp)];exact h.2
abbrev sT9(m:Seen)(n:Nat)(low:List Int):ah:=[.map (m.map Ge) false,.av 1 [[.map 0]] false,.pv 1 (low.map dG) false,.av 1 [[.sl 2 n]] false]
abbrev adP(t:Term)(l:List V2)(tot i:Int):List (Nat×AV):=[(2,.p (.ptr t.row 0)),(7,.ptr 1 1 0 0),(16,.p (.int .i64 tot)),(19,.ptr 3 1 0 0),(95,.p (.aO (l.map ay))),(96,.p (.int .i64 l.length)),(97,.p (.int .i64 i))]
theorem apP{o o1 o2 o3:Obj}{v:V2}:eY [o,o1,o2,o3,.pv 2 [[.str (bs []),.int .i64 0]] false] 2 (.ptr 4 1 0 0) (.p (.agg (ay v)))=some [o,o1,o2,o3,.pv 2 [ay v] false]:=rfl
theorem akv{o o1 o2 o4:Obj}{n:Nat}:iu [o,o1,o2,.av 1 [[.sl 2 n]] false,o4] 1 false (.ptr 3 1 0 0)=some (.sl 2 n):=rfl
theorem akq(t:Term)(l:List V2)(m:Seen)(hw:∀v∈l,uo v)(hl:l.length≤40):if 16<nV 0 l then ∃r,al P w9 (adP t l 0 0) (sT9 m l.length (List.replicate l.length 0)) 129 none=some r∧LC 7 r else al P w9 (adP t l 0 0) (sT9 m l.length (List.replicate l.length 0)) 129 none=back P [2,7,16,19,95,96,97] mw 4 (exec P mw ⟨tm (adP t l (nV 0 l) l.length),sT9 m l.length ((q6 0 l).map fun(x:Nat)=>(x:Int)),129,none⟩):=by
 have h:=cE (P:=P) (nt:=129) (lv:=[2,7,16,19,95,96,97]) (b:=mw) (rd:=none) (as:=l) (fun i (s:Int×List Int)=>adP t l s.1 i) (fun s=>sT9 m l.length s.2) Rr (fun(_:Unit)=>LC 7) (fun _ s=>0≤s.1∧s.1≤16∧s.2.length=l.length)
  (fun i v s hv hi hs=>by
   obtain⟨tot,low⟩:=s;obtain⟨h0,h1,h2⟩:=hs
   simp only at h0 h1 h2
   have hlt:((i:Int)<l.length)=True:=by simpa using hi
   have hx:=fun σ=>aH (k:=.i64) (es:=2) (σ:=σ) (aw (f:=ay) hv) (HL v)
   have hok:=hw v (mR hv);unfold uo at hok;have hwr:IntKind.i64.wrap (tot+v.w)=tot+v.w:=IntWalk.i64_in _ (by omega)
   have hia:gj [.map (m.map Ge) false,.av 1 [[.map 0]] false,.pv 1 (low.map dG) false,.av 1 [[.sl 2 l.length]] false,.pv 2 [ay v] false] 1 (.sl 2 l.length) (.p (.int .i64 i))=some (.ptr 2 l.length i 0):=af6 rfl (by simp[h2]) hi
   have hst:=alZ (σ:=[.map (m.map Ge) false,.av 1 [[.map 0]] false,.pv 1 (low.map dG) false,.av 1 [[.sl 2 l.length]] false,.pv 2 [ay v] false]) (b:=2) (m:=l.length) (e:=1) (j:=i) (rows:=low.map dG) (v:=.int .i64 tot) (by simp[h2]) (by simp[dG]) hi
   have hset:(low.map dG).set i [.int .i64 tot]=(low.set i tot).map dG:=by
    rw[List.map_set];rfl
   rw[hset]at hst;rcases cY (16<tot+v.w)with c|c
   ·have c2:(tot+v.w > 16)=True:=c
    refine⟨fun s' he=>?_,?_⟩
    ·simp only[Rr,c,if_true]at he;cases he
    ·simp only[mw,Rr,c,if_true]
     simp(disch:=omega)only[aB,↓aa,seval,-List.reduceReplicate,reduceCtorEq,ae,hlt,hx,aR,DS,amK,apP,akv,hia,hst,YF,hwr,c2,adP,sT9,LC]
   ·have c2:(tot+v.w > 16)=False:=c
    refine⟨fun s' he=>?_,?_⟩
    ·simp only[Rr,c,if_false,abw]at he
     subst he;have:=of_eq_false c;exact⟨by simp only;omega,by simp only;omega,by simp[h2]⟩
    ·simp only[mw,Rr,c,if_false]
     simp(disch:=omega)only[aB,↓aa,seval,-List.reduceReplicate,reduceCtorEq,ae,hlt,hx,aR,DS,amK,apP,akv,hia,hst,YF,hwr,c2,mG,adP,sT9]) (fun i s=>rfl) (0,List.replicate l.length 0) ⟨by simp,by simp,by simp⟩
 have hf:=Yn l [] 0 hw (by decide)
 rw[nz,y8,show((0:Nat):Int)=0 from rfl]at hf;split
 ·rename_i hb
  rw[if_pos hb]at hf;have hf':aq Rr 0 (0,List.replicate l.length 0) l=.inr ():=hf;rw[hf']at h;exact h
 ·rename_i hb
  rw[if_neg hb]at hf;have hf':aq Rr 0 (0,List.replicate l.length 0) l=.inl (nV 0 l,(q6 0 l).map fun(x:Nat)=>(x:Int)):=hf
  rw[hf']at h;exact h.2
def adU(e:ByteArray×Int):PV×PV:=(.str e.1,.int .i64 e.2)
theorem ajK(k:ByteArray):∀s:Seen,findKey .str (.str k) (s.map adU)=some ((TK s k).map fun w=>.int .i64 w)
 | []=>rfl
 |e::r=>by
  simp only[rK,findKey,adU,En,TK];by_cases h:k=e.1
  ·simp[h]
  ·simp only[h,decide_false,if_false]
   exact ajK k r
theorem alJ(u:Term)(l:List V2)(m:Seen)(hm:acE l m)(hw:∀v∈l,uo v)(hb:nV 0 l≤16)(K:Nat)(hK:K<65536)(hu:(xT u.name l).isSome=true):R P ft [.agg u.row,.ptr [.int .i64 K] 0,.ptr [.aO (((q6 0 l).map fun(x:Nat)=>(x:Int)).map dG)] 0,.ptr [.pmap (m.map adU)] 0]=some (.int .u64 (X6 l K u.name:Int)):=by
 cases hi:xT u.name l with
 |none=>rw[hi]at hu;cases hu
 |some i=>
  obtain⟨a,ha,_⟩:=NK _ l i hi;have hl:=fun(σ:ah) (z:AV)=>aqM (σ:=σ) (z:=z) (kl:=.str) (k:=.str u.name) rfl (ajK u.name m)
  rw[hm u.name,hi]at hl;simp only[x6,Wx]at hl;have hil:i<(q6 0 l).length:=by rw[F3];exact(gA.1 ha).1
  have hs:((q6 0 l).map fun(x:Nat)=>(x:Int))[i]?=some (((q6 0 l)[i]:Nat):Int):=by simp[hil]
  have hle:∀(r:List V2) (c:Nat),(∀v∈r,uo v)→nV c r≤16→∀x∈q6 c r,x≤16:=by
   intro r
   induction r with
   |nil=>intro c _ _ x hx;simp[q6]at hx
   |cons v r ih=>
    intro c h h16 x hx;have hv:=h v (by simp)
    unfold uo at hv;have hc:(c:Int)≤16:=Int.not_lt.1 fun hlt=>by rw[Tb _ hlt]at h16;omega
    have hb:nV (c:Int) (v::r)=nV ((c:Int)+v.w) r:=by rw[nV,if_pos hc]
    have hcw:((c+v.w.toNat:Nat):Int)=(c:Int)+v.w:=by omega
    rcases pU.1 hx with rfl|hx
    ·omega
    ·exact ih (c+v.w.toNat) (fun a ha=>h a (by simp[ha])) (by rw[hcw,←hb];exact h16) x hx
  have hx16:=hle l 0 hw hb _ (aba hil);have hix:=fun σ=>aH (k:=.i64) (es:=1) (σ:=σ) (aw (f:=dG) hs) (by simp[dG])
  have hcv:IntKind.u64.wrap (K:Int)=K:=IntWalk.u64_in _ (by omega)
  have hsh:=agl (k:=.i64) (a:=K) (n:=(q6 0 l)[i]) (by omega)
  have hE:X6 l K u.name=K / 2^(q6 0 l)[i]:=by
   unfold X6;rw[hi];simp only[aaZ,o8 hil,Wx]
  rw[hE]
  (rw[QN (aD rfl),p7];simp(disch:=omega)only[aB,↓aa,seval,-List.reduceReplicate,reduceCtorEq,ae,hl,hix,dG,hcv,hsh])
abbrev ahW(l:List V2):List Int:=(q6 0 l).map fun(x:Nat)=>(x:Int)
abbrev sTa(m:Seen)(l:List V2)(s:List Nat):ah:=[.map (m.map Ge) false,.av 1 [[.map 0]] false,.pv 1 ((ahW l).map dG) false,.av 1 [[.sl 2 l.length]] false,.pv 1 (s.map Dq) false]
abbrev ajy(t:Term)(b:Nat)(s:List Nat)(i:Int):List (Nat×AV):=[(2,.p (.ptr t.row 0)),(7,.ptr 1 1 0 0),(19,.ptr 3 1 0 0),(22,.sl 4 s.length),(117,.p (.int .i64 ((2^b:Nat):Int))),(118,.p (.int .i64 i))]
theorem ahH{t:Term}{l:List V2}(h:sF t l=true){u:Term}(hu:u∈t.post)(h1:u.op=1):(xT u.name l).isSome=true:=by
 have:=Us h 0;unfold acU at this;rw[CS]at this;have:=this u hu;simp only[h1,not_true_eq_false,decide_false,J5]at this;rw[EE]at this;rw[Px];exact this
theorem arW{o0 o1 o2 o3 o4:Obj}{r:List PV}{fr:Bool}:nO [o0,o1,o2,o3,o4,.pv 1 [r] fr] 1 (.sl 5 1)=some (.inl [r]):=FH rfl rfl (.inl rfl)
theorem atD{vs:List AV}{a b c d e f:Obj}:gc 5 vs [a,b,c,d,e,f]=if C2 5 vs [a,b,c,d,e,f]=true then[a,b,c,d,e]else[a,b,c,d,e,f]:=by unfold gc;rw[if_neg (by simp)];rfl
theorem atQ{k:Int}:vO σ 1 true (some [.p (.int .i64 k)])=some (.p (.ptr [.int .i64 k] 0),σ):=rfl
theorem akr(t:Term)(ht:iD t)(hc:t.count≤1000000)(hk:ix t=0)(l:List V2)(m:Seen)(hm:acE l m)(hb:sF t l=true)(hw:∀v∈l,uo v)(h16:nV 0 l≤16)(b:Nat)(hb8:b≤16) :
  al P xc (ajy t b [] 0) (sTa m l []) 129 none=back P [2,7,19,22,117,118] pq 5 (exec P pq ⟨tm (ajy t b (afq t l b) ((2^b:Nat):Int)),sTa m l (afq t l b),129,none⟩):=by
 have hp:(2:Nat)^b≤65536:=aa7 (show 0<2 by omega) hb8
 obtain⟨_,h⟩:=fY (P:=P) (nt:=129) (lv:=[2,7,19,22,117,118]) (b:=pq) (rd:=none) (as:=List.range (2^b)) (fun i (s:List Nat)=>ajy t b s i) (sTa m l) (fun _ s k=>s++[t.AI (U7 (gC k l))]) (fun i s=>s.length=i)
  (fun i k s hki hi hs=>by
   rw[ab3]at hi
   have hke:k=i:=by
    rw[aby hi]at hki;exact(abJ hki).symm
   subst hke;have hlt:((k:Int)<((2^b:Nat):Int))=True:=by simp only[eq_iff_iff,iff_true];exact Int.ofNat_lt.2 hi
   have hval:=SG ft [.ptr [.int .i64 k] 0,.ptr [.aO ((ahW l).map dG)] 0,.ptr [.pmap (m.map adU)] 0] (X6 l k) (aql l (by show k<_;omega)) t (fun u hu σ h1=>by
    have h9:=alJ u l m hm hw h16 k (by omega) (ahH hb hu h1)
    simp(disch:=omega)only[aB,↓aa,seval,-List.reduceReplicate,reduceCtorEq,ae,Qw,h9]) (Td hk) ht hc
   rw[agG hk hb]at hval
   have hpm:∀q,aG (sTa m l s) (q+4) (.fn ft [.p (.ptr [.int .i64 k] 0),.ptr 3 1 0 0,.ptr 1 1 0 0])=some (.fn ft [.ptr [.int .i64 k] 0,.ptr [.aO ((ahW l).map dG)] 0,.ptr [.pmap (m.map adU)] 0]):=by
    intro q
    have key:∀(f:PV×AV→Option (PV×PV)) (s:Seen),(∀b,f (Ge b)=some (adU b))→omap f (s.map Ge)=some (s.map adU):=by
     intro f s hf
     induction s with
     |nil=>rfl
     |cons b s ih=>simp only[rK,omap,hf];rw[ih]
    have hlen:((ahW l).map dG).length=l.length:=by simp[ahW,F3]
    simp only[aG,omap,sTa,S2,abc,lZ,nz,vL,if_true,Az,hlen,x6];rw[key _ _ (fun b=>rfl)]
    rfl
   have hwr:IntKind.i64.wrap ((k:Int)+1)=((k+1:Nat):Int):=IntWalk.i64_in _ (by omega)
   have hap:=dP (σ:=sTa m l s++[.pv 1 [[.int .u64 (t.AI (U7 (gC k l)):Int)]] false]) (b:=4) (n:=s.length) (e:=1) (es:=1) (bytes:=8) (rows:=s.map Dq) (new:=[[.int .u64 (t.AI (U7 (gC k l)):Int)]]) rfl (by simp) (.inl rfl) (by simp only[lZ,nz];omega)
   simp only[sTa,F9,y8]at hap hpm;refine⟨by simp[hs],?_⟩
   simp only[pq];simp(disch:=omega)only[aB,↓aa,seval,-List.reduceReplicate,reduceCtorEq,ae,hlt,atQ,Gh,hpm,Jq,hval,ath,arW,hap,hwr,atD,mG,CR,jS,Dq,ajy,sTa]) (fun i s=>rfl) [] rfl _ (zb (fun k=>t.AI (U7 (gC k l))) (List.range (2^b)) 0 [])
 rw[y8,ab3]at h;exact h
theorem akJ{n:Nat}(h:n≤40):Ch σ 1 8 [.p (.int .i64 0)] (.p (.int .i64 n)) (.p (.int .i64 n))=some (.sl σ.length n,σ++[.pv 1 ((List.replicate n (0:Int)).map dG) false]):=by
 have:=apw (σ:=σ) (k:=.i64) (es:=1) (bytes:=8) (n:=n) (zero:=[.p (.int .i64 0)]) (z:=[.int .i64 0]) rfl (by omega)
 rw[this,List.map_replicate];rfl
theorem aqR{n:Nat}(h:n≤65536):Ch σ 1 8 [.p (.int .u64 0)] (.p (.int .i64 0)) (.p (.int .i64 n))=some (.sl σ.length 0,σ++[.pv 1 [] false]):=by
 have hb:n*8≤140737488355328:=by omega
 simp[Ch,nE,ae,hb]
theorem aj4{n:Nat}:vO σ 1 true (some [.sl 2 n])=some (.ptr σ.length 1 0 0,σ++[.av 1 [[.sl 2 n]] false]):=rfl
theorem ajj{n:Nat}:cellsOf 1 false (.sl 2 n)=some [.sl 2 n]:=rfl
theorem apJ{b:Nat}(h:b≤16):cB .shl (.p (.int .i64 1)) (.p (.int .i64 (b:Int)))=some (.p (.int .i64 ((2^b:Nat):Int))):=by
 have:b=0∨b=1∨b=2∨b=3∨b=4∨b=5∨b=6∨b=7∨b=8∨b=9∨b=10∨b=11∨b=12∨b=13∨b=14∨b=15∨b=16:=by omega
 rcases this with rfl|rfl|rfl|rfl|rfl|rfl|rfl|rfl|rfl|rfl|rfl|rfl|rfl|rfl|rfl|rfl|rfl<;>rfl
def afr(t:Term)(l:List V2)(b:Nat):List PV:=if Gl t l=0 then[.aO ((afq t l b).map Dq),.int .i64 0]else[.aO [],.int .i64 (Gl t l)]
theorem aln(k:Nat){o0 o1 o2 o3:Obj}(rows:List (List PV))(e:Nat)(fr:Bool):aG [o0,o1,o2,o3,.pv e rows fr] (k+1) (.sl 4 rows.length)=some (.aO rows):=by simp[aG]
theorem anJ(t:Term)(ht:iD t)(hc:t.count≤1000000)(l:List V2)(hl:l.length≤40)(b:Nat)(hb:Gl t l=0→xP l=b∧b≤16):R P l6 [.agg t.row,.aO (l.map ay)]=some (.jY (afr t l b)):=by
 have hk:=JJ t ht hc;unfold afr;rcases cY (ix t=0)with c0|c0
 rotate_left
 ·have hE:Gl t l=ix t:=by unfold Gl;rw[if_pos (of_eq_false c0)]
  rw[hE,if_neg (of_eq_false c0)]
  (rw[rC (aD rfl),iU];simp(disch:=omega)only[aB,↓aa,seval,-List.reduceReplicate,reduceCtorEq,ae,mj,hk,c0])
 have hk0:ix t=0:=of_eq_true c0;rw[hk0]at hk;have hv:=MC t hc;have hV:=Rv t;have h0:=akg t l hl;have hE1:Gl t l=if sF t l=false then 12 else if l.any ML=true then 3 else if 16<xP l then 7 else 0:=by unfold Gl;rw[if_neg (by simpa using hk0)]
 have h0e:∀x:Ex×St,al P mE (O5 t l 0) (KX []) 129 none=some x→al P mE [(1,.p (.aO (l.map ay))),(2,.p (.ptr t.row 0)),(7,.ptr 1 1 0 0),(30,.p (.aO (l.map ay))),(31,.p (.int .i64 l.length)),(32,.p (.int .i64 0))] [.map [] false,.av 1 [[.map 0]] false] 129 none=some x:=fun _ h=>h
 cases hd:BD DP [] l with
 |true=>
  have hbd:sF t l=false:=by unfold sF;rw[hd];rfl
  have e:Gl t l=12:=by rw[hE1,if_pos hbd]
  rw[e,if_neg (by decide)]
  rw[hd,if_pos rfl]at h0;obtain⟨⟨e',τ',σ',nt',rd'⟩,g1,g2,g3,g4⟩:=h0
  simp only at g2 g3 g4
  subst g2;have g1':=h0e _ g1
  (rw[rC (aD rfl),iU];simp(disch:=omega)only[aB,↓aa,seval,-List.reduceReplicate,reduceCtorEq,ae,mj,hk,rX,g1',g3,g4,aR])
 |false=>
  rw[hd,if_neg (by simp)]at h0
  obtain⟨m,hm,h0⟩:=h0;have h0':al P mE [(1,.p (.aO (l.map ay))),(2,.p (.ptr t.row 0)),(7,.ptr 1 1 0 0),(30,.p (.aO (l.map ay))),(31,.p (.int .i64 l.length)),(32,.p (.int .i64 0))] [.map [] false,.av 1 [[.map 0]] false] 129 none=_:=h0;have h1:=akk t l (nP t) m hm (by omega) hl
  have hok:(nP t).any (fun v=>!Hs l v) = !sF t l:=by
   unfold sF;rw[hd];simp only[ab1,Uk,Bool.not_not]
   congr 1
   funext v
   rw[aeh l hd v]
  rw[hok]at h1;have h2:=ako t l m hl;simp only[X0,KX]at h1;simp only[X1,KX]at h2;cases hbd:sF t l with
  |false=>
   have e:Gl t l=12:=by rw[hE1,if_pos hbd]
   rw[e,if_neg (by decide)]
   rw[hbd,ab1,if_pos rfl]at h1;generalize nP t=V at *;obtain⟨⟨e',τ',σ',nt',rd'⟩,g1,g2,g3,g4⟩:=h1
   simp only at g2 g3 g4
   subst g2
   (rw[rC (aD rfl),iU];simp(disch:=omega)only[aB,↓aa,seval,-List.reduceReplicate,reduceCtorEq,ae,mj,hk,rX,h0',gp,lH,aR,xX,hv,xg,g1,g3,g4,O5,KX])
  |true=>
   have hE2:Gl t l=if l.any ML=true then 3 else if 16<xP l then 7 else 0:=by rw[hE1,if_neg (by rw[hbd];decide)]
   rw[hbd,abY,if_neg (by simp)]at h1
   have hvt:=agG hk0 hbd;cases hbw:l.any ML with
   |true=>
    have e:Gl t l=3:=by rw[hE2,if_pos hbw]
    rw[e,if_neg (by decide)]
    rw[hbw,if_pos rfl]at h2;generalize nP t=V at *;obtain⟨⟨e',τ',σ',nt',rd'⟩,g1,g2,g3,g4⟩:=h2
    simp only at g2 g3 g4
    subst g2
    (rw[rC (aD rfl),iU];simp(disch:=omega)only[aB,↓aa,seval,-List.reduceReplicate,reduceCtorEq,ae,mj,hk,rX,h0',gp,lH,aR,xX,hv,xg,h1,gq,BH,g1,g3,g4,O5,KX])
   |false=>
    have hE3:Gl t l=if 16<xP l then 7 else 0:=by rw[hE2,if_neg (by rw[hbw];decide)]
    rw[hbw,if_neg (by simp)]at h2
    have hw:=amR hbw;have h3:=akq t l m hw hl;simp only[adP,sT9]at h3;rcases cY (16<nV 0 l)with c3|c3
    ·have c4:16<xP l:=by have:=of_eq_true c3;unfold xP;omega
     have e:Gl t l=7:=by rw[hE3,if_pos c4]
     rw[e,if_neg (by decide)]
     rw[if_pos (of_eq_true c3)]at h3;generalize nP t=V at *;obtain⟨⟨e',τ',σ',nt',rd'⟩,g1,g2,g3,g4⟩:=h3
     simp only at g2 g3 g4
     subst g2
     (rw[rC (aD rfl),iU];simp(disch:=omega)only[aB,↓aa,seval,-List.reduceReplicate,reduceCtorEq,ae,mj,hk,rX,h0',gp,lH,aR,xX,hv,xg,h1,gq,BH,h2,iT,akJ hl,ajj,aj4,GD,g1,g3,g4,O5,KX])
    ·have c4:¬16<xP l:=by have:=of_eq_false c3;unfold xP;omega
     have hE0:Gl t l=0:=by rw[hE3,if_neg c4]
     rw[hE0,if_pos rfl];rw[if_neg (of_eq_false c3)]at h3;obtain⟨hbb,hb8⟩:=hb hE0;have hbn:nV 0 l=(b:Int):=by have:=of_eq_false c3;unfold xP at hbb;omega
     have h4:=akr t ht hc hk0 l m hm hbd hw (by omega) b hb8
     have hp:(2:Nat)^b≤65536:=aa7 (show 0<2 by omega) hb8
     have h4':al P xc [(2,.p (.ptr t.row 0)),(7,.ptr 1 1 0 0),(19,.ptr 3 1 0 0),(22,.sl 4 0),(117,.p (.int .i64 ((2^b:Nat):Int))),(118,.p (.int .i64 0))] [.map (m.map Ge) false,.av 1 [[.map 0]] false,.pv 1 ((ahW l).map dG) false,.av 1 [[.sl 2 l.length]] false,.pv 1 [] false] 129 none=_:=h4;rw[hbn]at h3;have hP:=fun k o0 o1 o2 o3=>aln k (o0:=o0) (o1:=o1) (o2:=o2) (o3:=o3) ((afq t l b).map Dq) 1 false
     rw[aR]at hP;generalize nP t=V at *;generalize afq t l b=vs at *;have hmo:=fun σ=>aqR (σ:=σ) hp
     (rw[rC (aD rfl),iU];simp(disch:=omega)only[aB,↓aa,seval,-List.reduceReplicate,reduceCtorEq,ae,mj,hk,rX,h0',gp,lH,aR,xX,hv,xg,h1,gq,BH,h2,iT,akJ hl,ajj,aj4,GD,h3,mw,apJ hb8,hmo,Sj,h4',pq,hP,O5,KX,ajy,sTa])
end Go.AE.S
