import Derived.Test.YtpccheodgonkkaaGreatD1
import Derived.Test.YtpccheodgonkkaaGreatC0
set_option maxHeartbeats 0
set_option linter.unusedSimpArgs false
set_option linter.unusedVariables false
namespace Go.AE.S
open Go Go.AE
theorem Vq(u:Term):RY u u=false:=by
 unfold RY;simp
theorem Vp(u v:Term):RY u v=RY v u:=by
 unfold RY;simp only[decide_eq_decide];constructor<;>(rintro⟨h1,h2,h3,h4⟩;exact⟨h2,h1,h3.symm,fun e=>h4 e.symm⟩)
theorem R2:∀(r p:List Term),Ng p r=true→∃u∈r,∃b∈p++r,RY u b=true
 | [],p,h=>by simp[Ng]at h
 |u::r,p,h=>by
  simp only[Ng,OZ]at h;rcases h with h|h
  ·obtain⟨b,hb,hc⟩:=abT.1 h
   exact⟨u,by simp,b,by simp[hb],hc⟩
  ·obtain⟨v,hv,b,hb,hc⟩:=R2 r (p++[u]) h
   exact⟨v,by simp[hv],b,by simpa using hb,hc⟩
theorem R4:∀(r p:List Term),Ng p r=false→∀u∈r,∀b∈p++r,RY u b=false
 | [],p,h,u,hu=>by simp at hu
 |x::r,p,h,u,hu=>by
  simp only[Ng,abB]at h;have ih:=R4 r (p++[x]) h.2
  have hx:∀b∈p++x::r,RY x b=false:=by
   intro b hb;rcases Gb.1 hb with hb|hb
   ·simpa using Uw.1 h.1 b hb
   ·rcases qL.1 hb with rfl|hb
    ·exact Vq b
    ·rw[Vp];exact ih b (by simp[hb]) x (by simp) |>.symm ▸ rfl
  rcases qL.1 hu with rfl|hu
  ·exact hx
  ·intro b hb
   exact ih u hu b (by simpa using hb)
theorem Gv:∀l:List Term,(∀a∈l,sj a=0)→wW l=0
 | [],_=>rfl
 |a::l,h=>by
  simp only[wW];rw[if_pos (h a (by simp))]
  exact Gv l fun b hb=>h b (by simp[hb])
theorem J3(t:Term):gO t=0↔(t.deep:Int)≤64∧(t.count:Int)≤4096∧Jg t∧∀u∈t.post,∀b∈t.post,RY u b=false:=by
 constructor
 ·intro h
  have ha:=N7 h;unfold gO at h;split at h
  ·rename_i hb
   refine⟨hb.1,hb.2,ha,?_⟩;rw[Vn,if_neg (fun h'=>h' (Gv _ ha))]at h
   split at h
   ·cases h
   ·rename_i ho
    intro u hu b hb;exact R4 t.post [] (by simpa using ho) u hu b (by simpa using hb)
  ·cases h
 ·rintro⟨h1,h2,h3,h4⟩
  unfold gO;rw[if_pos ⟨h1,h2⟩,Vn,if_neg (fun h'=>h' (Gv _ h3)),if_neg]
  intro hx;obtain⟨a,ha,b,hb',hc⟩:=R2 t.post [] hx;rw[h4 a ha b (by simpa using hb')]at hc
  cases hc
variable {τ:Tm} {σ:ae} {rd:Option Nat}
theorem Xt:∀{l:List Term} {s:List V2} {v:V2},v∈l.foldl vT s→v∈s∨∃u∈l,u.op=1∧v=⟨u.name,u.w⟩
 | [],s,v,h=>.inl h
 |u::l,s,v,h=>by
  rw[UM]at h;rcases Xt h with h|⟨u',hu,q⟩
  ·rcases yL.1 h with h|⟨h1,h2,_⟩
   ·exact .inl h
   ·exact .inr ⟨u,by simp,h1,h2⟩
  ·exact .inr ⟨u',by simp[hu],q⟩
theorem Yp{t:Term}{v:V2}(h:v∈mC t):∃u∈t.post,u.op=1∧v=⟨u.name,u.w⟩:=by
 rcases Xt (rp.1 h)with h|⟨u,hu,q⟩
 ·simp at h
 ·exact⟨u,(j7 t u).2 hu,q⟩
theorem QU{t u:Term}(hu:u∈t.post)(h1:u.op=1):∃v∈mC t,v.name=u.name:=by
 obtain⟨v,hv,hn⟩:=(K3 t.pre [] u.name).2 (.inr ⟨u,(j7 t u).1 hu,h1,rfl⟩);exact⟨v,rp.2 hv,hn⟩
theorem afU{t:Term}(h:gO t=0){u:Term}(hu:u∈t.post)(h1:u.op=1){v:V2}(hv:v∈mC t)(hn:v.name=u.name):v.w=u.w:=by
 obtain⟨_,_,_,h4⟩:=(J3 t).1 h;obtain⟨u',hu',h1',rfl⟩:=Yp hv;have:=h4 u' hu' u hu;unfold RY at this;have:=of_decide_eq_false this;refine Classical.byContradiction fun hw=>this ⟨h1',h1,hn,hw⟩
theorem Mt(t:Term):(mC t).length≤t.count:=by
 rw[afS];have:=Oq (l:=t.pre) (s:=[]);rw[Term.qE,pN]at this;omega
theorem Yn(E E':ByteArray→Nat)(t:Term):(∀u∈t.post,u.op=1→E u.name % 2^cw u.w=E' u.name % 2^cw u.w)→t.xB E=t.xB E':=by
 induction t using Term.ind with
 |h t ih=>
 intro h;rw[Term.Jf,Term.Jf E' t];by_cases h1:t.op=1
 ·rw[if_pos h1,if_pos h1,h t ((j7 t t).2 (lX.2 (.inl rfl))) h1]
 ·rw[if_neg h1,if_neg h1]
  have:Term.s7 E t.args=Term.s7 E' t.args:=by
   rw[Term.rz,Term.rz];exact ab2 fun a ha=>by rw[ih a ha fun u hu=>h u ((j7 t u).2 (lX.2 (.inr ⟨a,ha,(j7 a u).1 hu⟩)))]
  rw[this]
theorem aje(k:Nat)(o:Obj)(rows:List (List PV))(e:Nat)(fr:Bool):az [o,.pv e rows fr] (k+1) (.sl 1 rows.length)=some (.aW rows):=by simp[az]
theorem Kz{α:Type}(q:α→Bool):∀(l:List α) (i:Nat),aq (S:=Unit) (T:=Unit) (fun _ _ a=>if q a=true then .inr ()else .inl ()) i () l=if l.any q=true then .inr ()else .inl ()
 | [],i=>rfl
 |a::l,i=>by
  cases h:q a<;>simp[aq,h,Kz q l]
def yq{α:Type}(q:α→α→Bool)(p:List α):List α→Bool
 | []=>false
 |u::r=>p.any (q u) ||yq q (p++[u]) r
def AF(u a:V2):Bool:=decide (u.name=a.name)
theorem Yr{v:V2}:(au v)[0]?=some (.str v.name):=rfl
theorem Mv{v:V2}:(au v)[1]?=some (.int .i64 v.w):=rfl
theorem Yq{v:V2}:Kt 0 (.p (.ptr (au v) 0))=some (.p (.ptr (au v) 0)):=rfl
theorem Mu{v:V2}:Kt 1 (.p (.ptr (au v) 0))=some (.p (.ptr (au v) 1)):=rfl
theorem D6(v:V2):(au v).length=2:=rfl
theorem AI{v:V2}:gM σ 2 true (.p (.ptr (au v) 0))=some (.p (.agg (au v))):=rfl
def eqV(a b:V2):Bool:=decide (a.name=b.name) && decide (a.w=b.w)
def qM(t:Term)(l:List V2):Bool:=!yq AF [] l && !(mC t).any (fun u=>!(l.any fun a=>eqV a u))
def mL(n:Int):List V2→Int
 | []=>n
 |v::r=>if n≤16 then mL (n+v.w) r else n
def rC(v:V2):Prop:=1≤v.w∧v.w≤64
def uM(l:List V2):Int:=min (mL 0 l) 17
def Ij(v:V2):Bool:=decide (v.w<1) ||decide (64<v.w)
theorem agu{l:List V2}(h:l.any Ij=false):∀v∈l,rC v:=by
 intro v hv;have:=Uw.1 h v hv;simp only[Ij,OZ,decide_eq_true_eq]at this;unfold rC;omega
def CQ(t:Term)(l:List V2):Int:=if ¬gO t=0 then gO t else if qM t l=false then 12 else if l.any Ij=true then 3 else if 16<uM l then 7 else 0
def fN:Nat→List V2→List Bd
 |_,[]=>[]
 |n,v::r=>⟨v.name,n % 2^cw v.w⟩::fN (n / 2^v.w.toNat) r
def asF(s:List Bd×Nat)(v:V2):List Bd×Nat:=(s.1++[⟨v.name,s.2 % 2^cw v.w⟩],s.2 / 2^v.w.toNat)
theorem Xu:∀(l:List V2) (s:List Bd) (n:Nat),(l.foldl asF (s,n)).1=s++fN n l
 | [],s,n=>by simp[fN]
 |v::l,s,n=>by
  rw[UM]
  show(l.foldl asF (s++[⟨v.name,n % 2^cw v.w⟩],n / 2^v.w.toNat)).1=_
  rw[Xu l];simp[fN]
abbrev sAs(s:List Bd×Nat):ae:=[.pv (mD 2 s.1) (s.1.map Rs) false]
theorem ajN{n:ByteArray}{x:Int}:kU σ 2 1 (gK (List.replicate 1 [.p (.str (bs [])),.p (.int .u64 0)]).flatten [(0,2,.p (.agg [.str n,.int .u64 x]))])=some (.sl σ.length 1,σ++[.pv 2 [[.str n,.int .u64 x]] false]):=rfl
theorem alv{o:Obj}{a:List PV}{fr:Bool}:mB [o,.pv 2 [a] fr] 2 (.sl 1 1)=some (.inl [a]):=Cf rfl rfl (.inl rfl)
theorem Bn(n:ByteArray):∀(l:List V2) (k:Nat),(xP n (fN k l)).isSome=l.any fun a=>decide (a.name=n)
 | [],k=>rfl
 |v::l,k=>by
  simp only[fN,xP,abL];by_cases h:v.name=n
  ·simp[h]
  ·simp only[h,if_false,decide_false,NW]
   exact Bn n l _
theorem O7{t:Term}{l:List V2}(h:qM t l=true)(k:Nat):UZ (fN k l) t=true:=by
 unfold qM at h;rw[yE,abF,abF,Uw]at h;unfold UZ;rw[AS];intro u hu;by_cases h1:u.op=1
 ·obtain⟨v,hv,hn⟩:=QU hu h1
  have hx:=h.2 v hv;simp only[abF,Bool.not_eq_false]at hx;obtain⟨a,ha,he⟩:=abT.1 hx
  have:(xP u.name (fN k l)).isSome=true:=by
   rw[Bn];refine abT.2 ⟨a,ha,?_⟩;unfold eqV at he;rw[yE]at he;rw[←hn];exact he.1
  rw[this];simp
 ·simp[h1]
def Xc(t:Term)(l:List V2)(b:Nat):List Nat:=(List.range (2^b)).map fun k=>t.xB (PK (fN k l))
def uW(n:ByteArray):List V2→Option Nat
 | []=>none
 |v::r=>if v.name=n then some 0 else(uW n r).map (· + 1)
theorem I5(n:ByteArray):∀(l:List V2) (i:Nat),uW n l=some i→∃a,l[i]?=some a∧a.name=n
 | [],i,h=>by cases h
 |v::r,i,h=>by
  unfold uW at h;split at h
  ·rename_i hn
   cases h;exact⟨v,rfl,hn⟩
  ·rw[gE]at h
   obtain⟨j,hj,rfl⟩:=h;obtain⟨a,ha,hn⟩:=I5 n r j hj;exact⟨a,by simpa using ha,hn⟩
theorem KK(n:ByteArray):∀l:List V2,(uW n l).isSome=l.any fun a=>decide (a.name=n)
 | []=>rfl
 |v::r=>by
  unfold uW;by_cases h:v.name=n
  ·simp[h]
  ·simp only[h,if_false,Option.isSome_map,KK n r,abL,decide_false,NW]
theorem XS(n:ByteArray)(v:V2):∀p:List V2,uW n (p++[v])=match uW n p with|some i=>some i|none=>if v.name=n then some p.length else none
 | []=>by simp only[yK,uW];split<;>rfl
 |a::p=>by
  simp only[Ec,uW];by_cases h:a.name=n
  ·simp only[h,if_true]
  ·simp only[h,if_false,XS n v p]
   cases uW n p with
   |some i=>rfl
   |none=>
    by_cases h2:v.name=n
    ·simp[h2]
    ·simp[h2]
def UG(p:List V2)(m:Seen):Prop:=∀n,Oz m n=Option.map (fun i:Nat=>(i:Int)) (uW n p)
def plF(i:Nat)(m:Seen)(v:V2):Seen ⊕ Unit:=if(Oz m v.name).isSome=true then .inr ()else .inl (stW v.name i m)
theorem XM:∀(r p:List V2) (m:Seen),UG p m→if yq AF p r=true then aq plF p.length m r=.inr ()else ∃m',aq plF p.length m r=.inl m'∧UG (p++r) m'
 | [],p,m,h=>by
  rw[if_neg (by simp[yq])]
  exact⟨m,rfl,by simpa using h⟩
 |v::r,p,m,h=>by
  have hs:(Oz m v.name).isSome=p.any (AF v):=by
   rw[h v.name,Option.isSome_map,KK]
   congr 1
   funext a
   unfold AF;rw[decide_eq_decide];exact⟨Eq.symm,Eq.symm⟩
  simp only[yq,aq,plF,hs];cases ha:p.any (AF v)with
  |true=>simp
  |false=>
   simp only[nh,if_false,NW]
   have hi:UG (p++[v]) (stW v.name p.length m):=by
    intro n;rw[P8,XS]
    have hn:uW v.name p=none:=by
     have:=hs;rw[ha,h v.name,Option.isSome_map]at this;cases hx:uW v.name p with
     |none=>rfl
     |some i=>rw[hx]at this;simp at this
    by_cases he:n=v.name
    ·subst he
     rw[if_pos rfl,hn];simp
    ·rw[if_neg he,h n]
     cases uW n p with
     |some i=>rfl
     |none=>
      have:¬v.name=n:=fun e=>he e.symm
      simp[this]
   have:=XM r (p++[v]) _ hi;rw[mh]at this;simpa using this
def DV(l:List V2)(v:V2):Bool:=match uW v.name l with
 |some i=>(match l[i]? with|some a=>decide (a.w=v.w)|none=>false)
 |none=>false
theorem ZI{a v:V2}{l:List V2}:DV (a::l) v=if a.name=v.name then decide (a.w=v.w)else DV l v:=by
 unfold DV;simp only[uW];by_cases h:a.name=v.name
 ·simp[h]
 ·simp only[h,if_false]
  cases uW v.name l with
  |none=>rfl
  |some i=>simp
theorem Sa{q:V2→V2→Bool}:∀(r p:List V2),yq q p r=false→∀a∈p,∀b∈r,q b a=false
 | [],p,_,a,_,b,hb=>by simp at hb
 |v::r,p,h,a,ha,b,hb=>by
  simp only[yq,abB]at h;rcases qL.1 hb with rfl|hb
  ·simpa using Uw.1 h.1 a ha
  ·exact Sa r (p++[v]) h.2 a (by simp[ha]) b hb
theorem adl{q:V2→V2→Bool}:∀(r p:List V2),yq q p r=false→yq q [] r=false
 | [],p,_=>rfl
 |v::r,p,h=>by
  simp only[yq,abB]at h;simp only[yq,List.any_nil,NW,yK]
  have key:∀(r p p':List V2),(∀a∈p',a∈p)→yq q p r=false→yq q p' r=false:=by
   intro r
   induction r with
   |nil=>intro _ _ _ _;rfl
   |cons u r ih=>
    intro p p' hs h;simp only[yq,abB]at h ⊢;refine⟨Uw.2 fun a ha=>Uw.1 h.1 a (hs a ha),ih (p++[u]) (p'++[u]) (fun a ha=>?_) h.2⟩
    rcases Gb.1 ha with ha|ha
    ·exact Gb.2 (.inl (hs a ha))
    ·exact Gb.2 (.inr ha)
  exact key r (p++[v]) [v] (fun a ha=>Gb.2 (.inr ha)) h.2
theorem V8:∀(l:List V2),yq AF [] l=false→∀v,DV l v=l.any fun a=>eqV a v
 | [],_,v=>rfl
 |a::l,h,v=>by
  have hd:=h;simp only[yq,List.any_nil,NW,yK]at hd;have ih:=V8 l (adl l [a] hd) v;rw[ZI,abL];by_cases hn:a.name=v.name
  ·rw[if_pos hn]
   have:l.any (fun b=>eqV b v)=false:=by
    refine Uw.2 fun b hb=>?_
    have:=Sa l [a] hd a (by simp) b hb
    unfold AF at this;have:=of_decide_eq_false this;unfold eqV;have hne:¬b.name=v.name:=fun e=>this (by rw[e,hn])
    simp[hne]
   rw[this,Bool.or_false];unfold eqV;simp[hn]
  ·rw[if_neg hn,ih]
   unfold eqV;simp[hn]
def pB(c:Nat):List V2→List Nat
 | []=>[]
 |v::r=>c::pB (c+v.w.toNat) r
theorem CB:∀(l:List V2) (c:Nat),(pB c l).length=l.length
 | [],c=>rfl
 |v::l,c=>by simp[pB,CB l]
theorem X0(n:ByteArray)(K:Nat):∀(l:List V2) (c:Nat),xP n (fN (K / 2^c) l)=match uW n l with
  |some i=>(match l[i]?,(pB c l)[i]? with|some a,some s=>some (K / 2^s % 2^cw a.w)|_,_=>none)
  |none=>none
 | [],c=>rfl
 |v::l,c=>by
  simp only[fN,xP,uW,pB];by_cases h:v.name=n
  ·simp[h]
  ·simp only[h,if_false]
   have hd:K / 2^c / 2^v.w.toNat=K / 2^(c+v.w.toNat):=by rw[Nat.div_div_eq_div_mul,Nat.pow_add]
   rw[hd,X0 n K l (c+v.w.toNat)];cases uW n l with
   |none=>rfl
   |some i=>simp
def Sm(l:List V2)(K:Nat)(n:ByteArray):Nat:=match uW n l with
 |some i=>K / 2^((pB 0 l).getD i 0)
 |none=>0
theorem aj0(l:List V2){K:Nat}(h:W K)(n:ByteArray):W (Sm l K n):=by
 unfold Sm;split
 ·exact abk (abZ _ _) h
 ·show 0<_;omega
theorem Yo{t:Term}{l:List V2}(hk:gO t=0)(hb:qM t l=true)(K:Nat):t.xB (Sm l K)=t.xB (PK (fN K l)):=by
 refine Yn _ _ t fun u hu h1=>?_
 unfold qM at hb;rw[yE,abF,abF,Uw]at hb;obtain⟨v,hv,hn⟩:=QU hu h1;have hw:=afU hk hu h1 hv hn;have hx:=hb.2 v hv;simp only[abF,Bool.not_eq_false]at hx;rw[←V8 l hb.1 v]at hx;unfold DV at hx;unfold PK Sm;have hl:=X0 u.name K l 0;rw[Nat.pow_zero,Nat.div_one]at hl;rw[hl];rw[hn]at hx;cases hi:uW u.name l with
 |none=>rfl
 |some i=>
  rw[hi]at hx;obtain⟨a,ha,_⟩:=I5 _ l i hi;simp only[ha]at hx;have hwa:=of_decide_eq_true hx;have hil:i<(pB 0 l).length:=by rw[CB];exact(gu.1 ha).1
  have hs:(pB 0 l)[i]?=some ((pB 0 l)[i]):=oh hil;simp only[ha,hs,aaT,Q2,hwa,hw,Nat.mod_mod]
def Mo(i:Nat)(s:Int×List Int)(v:V2):(Int×List Int) ⊕ Unit:=if 16<s.1+v.w then .inr ()else .inl (s.1+v.w,s.2.set i s.1)
theorem N5(n:Int)(h:16<n):∀l:List V2,mL n l=n
 | []=>rfl
 |v::l=>by unfold mL;rw[if_neg (by omega)]
theorem SF:∀(r:List V2) (p:List Int) (c:Nat),(∀v∈r,rC v)→(c:Int)≤16→if 16<mL c r then aq Mo p.length ((c:Int),p++List.replicate r.length 0) r=.inr ()else aq Mo p.length ((c:Int),p++List.replicate r.length 0) r=.inl (mL c r,p++(pB c r).map fun(x:Nat)=>(x:Int))
 | [],p,c,_,hc=>by
  have:¬16<mL (c:Int) []:=by show ¬16<(c:Int);omega
  rw[if_neg this];simp[aq,mL,pB]
 |v::r,p,c,h,hc=>by
  have hv:=h v (by simp)
  unfold rC at hv;have hb:mL (c:Int) (v::r)=mL ((c:Int)+v.w) r:=by rw[mL,if_pos hc]
  have hcw:((c+v.w.toNat:Nat):Int)=(c:Int)+v.w:=by omega
  rw[hb];by_cases h16:16<(c:Int)+v.w
  ·rw[N5 _ h16,if_pos h16]
   simp only[aq,Mo,h16,if_true]
  ·have ih:=SF r (p++[(c:Int)]) (c+v.w.toNat) (fun a ha=>h a (by simp[ha])) (by omega)
   rw[hcw]at ih
   have hset:(p++List.replicate (v::r).length 0).set p.length (c:Int)=(p++[(c:Int)])++List.replicate r.length 0:=by
    rw[List.set_append_right _ _ (by omega),Yw,oi,List.replicate_succ,aa9]
    simp
   have e8:(p++[(c:Int)]).length=p.length+1:=by simp
   rw[e8]at ih;simp only[aq,Mo,h16,if_false,hset];split
   ·rename_i hh;rw[if_pos hh]at ih;exact ih
   ·rename_i hh
    rw[if_neg hh]at ih;rw[ih];simp[pB]
abbrev GX(m:Seen):ae:=[.map (m.map CJ) false,.av 1 [[.map 0]] false]
abbrev Kl(t:Term)(l:List V2)(i:Int):List (Nat×AV):=[(1,.p (.aW (l.map au))),(2,.p (.ptr t.row 0)),(7,.ptr 1 1 0 0),(30,.p (.aW (l.map au))),(31,.p (.int .i64 l.length)),(32,.p (.int .i64 i))]
def S9(r:Ex×St):Prop:=r.1=.ret∧r.2.τ.get 4=.aF∧r.2.τ.get 5=.p (.int .i64 12)
theorem agn:rY 2 (aT [.p (.str (bs [])),.p (.int .i64 0)] σ)=some (.ptr σ.length 1 0 0,σ++[.pv 2 [[.str (bs []),.int .i64 0]] false]):=rfl
theorem afI{o o1:Obj}{r:List PV}{v:V2}{fr:Bool}:eE [o,o1,.pv 2 [[.str (bs []),.int .i64 0]] false] 2 (.ptr 2 1 0 0) (.p (.agg (au v)))=some [o,o1,.pv 2 [au v] false]:=rfl
theorem SY{v:V2}{fr:Bool}:KS 1 0 0 1 false (some (.pv 2 [au v] fr))=some (.p (.str v.name)):=rfl
theorem SZ{v:V2}{fr:Bool}:KS 1 0 1 1 false (some (.pv 2 [au v] fr))=some (.p (.int .i64 v.w)):=rfl
theorem ad7(t:Term)(l:List V2)(hl:l.length≤40):if yq AF [] l=true then ∃r,an P lD (Kl t l 0) (GX []) 129 none=some r∧S9 r else ∃m,UG l m∧an P lD (Kl t l 0) (GX []) 129 none=back P [1,2,7,30,31,32] fE 2 (exec P fE ⟨tm (Kl t l l.length),GX m,129,none⟩):=by
 have h:=cS (P:=P) (nt:=129) (lv:=[1,2,7,30,31,32]) (b:=fE) (rd:=none) (as:=l) (fun i (_:Seen)=>Kl t l i) GX plF (fun(_:Unit)=>S9) (fun _ _=>True)
  (fun i v m hv hi hs=>by
   refine⟨fun _ _=>trivial,?_⟩
   have hlt:((i:Int)<l.length)=True:=by simpa using hi
   have hx:=fun σ=>aU (k:=.i64) (es:=2) (σ:=σ) (ax (f:=au) hv) (D6 v)
   have hlk:=fun(r:ae) (z:AV)=>aeo (fr:=false) (r:=r) (z:=z) (kl:=.str) (k:=.str v.name) rfl (Co v.name m)
   unfold plF;cases hk:Oz m v.name with
   |none=>
    rw[hk]at hlk;simp only[aco,Option.getD_none,ab8]at hlk;have hm:=fun(r:ae)=>akv (r:=r) (kl:=.str) (k:=.str v.name) rfl (Mf v.name i m)
    simp only[fE,ab8,nh,if_false];simp(disch:=omega)only[aG,↓aa,seval,-List.reduceReplicate,reduceCtorEq,af,hlt,hx,bz,AI,agn,afI,SY,ldM,hlk,hm,lE,Kl,GX]
   |some w=>
    rw[hk]at hlk;simp only[vd,Q2,Option.isSome_some]at hlk;simp only[fE,Option.isSome_some,if_true];simp(disch:=omega)only[aG,↓aa,seval,-List.reduceReplicate,reduceCtorEq,af,hlt,hx,bz,AI,agn,afI,SY,ldM,hlk,lE,Kl,GX,S9]) (fun i s=>rfl) [] trivial
 have hf:=XM l [] [] (fun n=>rfl)
 rw[pN]at hf;cases hb:yq AF [] l with
 |true=>
  rw[hb,if_pos rfl]at hf;rw[hf]at h;rw[if_pos rfl];exact h
 |false=>
  rw[hb,if_neg (by simp)]at hf
  obtain⟨m,hf,hi⟩:=hf;rw[hf]at h;rw[if_neg (by simp)]
  exact⟨m,hi,h.2⟩
abbrev Sf(t:Term)(l V:List V2)(i:Int):List (Nat×AV):=[(1,.p (.aW (l.map au))),(2,.p (.ptr t.row 0)),(7,.ptr 1 1 0 0),(51,.p (.aW (V.map au))),(52,.p (.int .i64 V.length)),(53,.p (.int .i64 i))]
theorem Ih{v:V2}:sS σ 2 true (some ((au v).map .p))=some (.p (.ptr (au v) 0),σ):=rfl
theorem Ie{v:V2}:cellsOf 2 true (.p (.agg (au v)))=some ((au v).map .p):=rfl
theorem aea(t:Term)(l V:List V2)(m:Seen)(hm:UG l m)(hV:V.length≤1000000)(hl:l.length≤40):if V.any (fun v=>!DV l v)=true then ∃r,an P ua (Sf t l V 0) (GX m) 129 none=some r∧S9 r else an P ua (Sf t l V 0) (GX m) 129 none=back P [1,2,7,51,52,53] fF 2 (exec P fF ⟨tm (Sf t l V V.length),GX m,129,none⟩):=by
 have h:=cS (P:=P) (nt:=129) (lv:=[1,2,7,51,52,53]) (b:=fF) (rd:=none) (as:=V) (fun i (_:Unit)=>Sf t l V i) (fun _=>GX m) (fun _ _ v=>if(fun v=>!DV l v) v=true then .inr ()else .inl ()) (fun(_:Unit)=>S9) (fun _ _=>True)
  (fun i v s hv hi hs=>by
   refine⟨fun _ _=>trivial,?_⟩
   have hlt:((i:Int)<V.length)=True:=by simpa using hi
   have hx:=fun σ=>aU (k:=.i64) (es:=2) (σ:=σ) (ax (f:=au) hv) (D6 v)
   have hlk:=fun(r:ae) (z:AV)=>aeo (fr:=false) (r:=r) (z:=z) (kl:=.str) (k:=.str v.name) rfl (Co v.name m)
   rw[hm v.name]at hlk;cases hk:uW v.name l with
   |none=>
    have hok:DV l v=false:=by unfold DV;rw[hk]
    rw[hk]at hlk;simp only[aco,Option.getD_none,ab8]at hlk;simp only[fF];simp(disch:=omega)only[aG,↓aa,seval,-List.reduceReplicate,reduceCtorEq,af,hlt,hx,bz,AI,Ie,Ih,Yq,Yr,ldM,hlk,hok,Sf,GX,S9,ab6,if_true]
   |some j=>
    rw[hk]at hlk;simp only[vd,Q2,Option.isSome_some]at hlk;obtain⟨a,ha,hn⟩:=I5 _ l j hk;have hy:=fun σ=>aU (k:=.i64) (es:=2) (σ:=σ) (ax (f:=au) ha) (D6 a)
    rcases fC (a.w=v.w)with h1|h1
    ·have hok:DV l v=true:=by unfold DV;rw[hk];simp only[ha,h1,decide_true]
     simp only[fF];simp(disch:=omega)only[aG,↓aa,seval,-List.reduceReplicate,reduceCtorEq,af,hlt,hx,hy,bz,AI,Ie,Ih,Yq,Yr,Mu,Mv,ldM,hlk,hok,h1,Sf,GX,S9,abU,nh,if_false]
    ·have hok:DV l v=false:=by unfold DV;rw[hk];simp only[ha,h1,decide_false]
     simp only[fF];simp(disch:=omega)only[aG,↓aa,seval,-List.reduceReplicate,reduceCtorEq,af,hlt,hx,hy,bz,AI,Ie,Ih,Yq,Yr,Mu,Mv,ldM,hlk,hok,h1,Sf,GX,S9,ab6,if_true]) (fun i s=>rfl) () trivial
 rw[Kz]at h;cases hb:V.any (fun v=>!DV l v)with
 |true=>rw[hb,if_pos rfl]at h;rw[if_pos rfl];exact h
 |false=>rw[hb,if_neg (by simp)]at h;rw[if_neg (by simp)];exact h.2
abbrev Sg(t:Term)(l:List V2)(i:Int):List (Nat×AV):=[(1,.p (.aW (l.map au))),(2,.p (.ptr t.row 0)),(7,.ptr 1 1 0 0),(16,.p (.int .i64 0)),(77,.p (.aW (l.map au))),(78,.p (.int .i64 l.length)),(79,.p (.int .i64 i))]
def Hr(x:Int)(r:Ex×St):Prop:=r.1=.ret∧r.2.τ.get 4=.aF∧r.2.τ.get 5=.p (.int .i64 x)
theorem aec(t:Term)(l:List V2)(m:Seen)(hl:l.length≤40):if l.any Ij=true then ∃r,an P ub (Sg t l 0) (GX m) 129 none=some r∧Hr 3 r else an P ub (Sg t l 0) (GX m) 129 none=back P [1,2,7,16,77,78,79] ig 2 (exec P ig ⟨tm (Sg t l l.length),GX m,129,none⟩):=by
 have h:=cS (P:=P) (nt:=129) (lv:=[1,2,7,16,77,78,79]) (b:=ig) (rd:=none) (as:=l) (fun k (_:Unit)=>Sg t l k) (fun _=>GX m) (fun _ _ v=>if Ij v=true then .inr ()else .inl ()) (fun(_:Unit)=>Hr 3) (fun _ _=>True)
  (fun i v s hv hi hs=>by
   refine⟨fun _ _=>trivial,?_⟩
   have hlt:((i:Int)<l.length)=True:=by simpa using hi
   have hx:=fun σ=>aU (k:=.i64) (es:=2) (σ:=σ) (ax (f:=au) hv) (D6 v)
   unfold Ij;rcases fC (v.w<1)with h1|h1
   ·simp only[ig,h1]
    simp(disch:=omega)only[aG,↓aa,seval,-List.reduceReplicate,reduceCtorEq,af,hlt,hx,bz,AI,Ie,Ih,Mu,Mv,h1,abI,NW,if_true,if_false,nh,Sg,GX,Hr]
   ·rcases fC (64<v.w)with h2|h2
    ·have h3:(v.w > 64)=True:=h2
     simp only[ig,h1,h2];simp(disch:=omega)only[aG,↓aa,seval,-List.reduceReplicate,reduceCtorEq,af,hlt,hx,bz,AI,Ie,Ih,Mu,Mv,h1,h2,h3,abI,NW,if_true,if_false,nh,Sg,GX,Hr]
    ·have h3:(v.w > 64)=False:=h2
     simp only[ig,h1,h2];simp(disch:=omega)only[aG,↓aa,seval,-List.reduceReplicate,reduceCtorEq,af,hlt,hx,bz,AI,Ie,Ih,Mu,Mv,h1,h2,h3,abI,NW,if_true,if_false,nh,Sg,GX,Hr]) (fun i s=>rfl) () trivial
 rw[Kz]at h;cases hb:l.any Ij with
 |true=>rw[hb,if_pos rfl]at h;rw[if_pos rfl];exact h
 |false=>rw[hb,if_neg (by simp)]at h;rw[if_neg (by simp)];exact h.2
abbrev sT9(m:Seen)(n:Nat)(low:List Int):ae:=[.map (m.map CJ) false,.av 1 [[.map 0]] false,.pv 1 (low.map iJ) false,.av 1 [[.sl 2 n]] false]
abbrev VJ(t:Term)(l:List V2)(tot i:Int):List (Nat×AV):=[(2,.p (.ptr t.row 0)),(7,.ptr 1 1 0 0),(16,.p (.int .i64 tot)),(19,.ptr 3 1 0 0),(95,.p (.aW (l.map au))),(96,.p (.int .i64 l.length)),(97,.p (.int .i64 i))]
theorem ajp{o o1 o2 o3:Obj}{v:V2}:eE [o,o1,o2,o3,.pv 2 [[.str (bs []),.int .i64 0]] false] 2 (.ptr 4 1 0 0) (.p (.agg (au v)))=some [o,o1,o2,o3,.pv 2 [au v] false]:=rfl
theorem aei{o o1 o2 o4:Obj}{n:Nat}:gM [o,o1,o2,.av 1 [[.sl 2 n]] false,o4] 1 false (.ptr 3 1 0 0)=some (.sl 2 n):=rfl
theorem aee(t:Term)(l:List V2)(m:Seen)(hw:∀v∈l,rC v)(hl:l.length≤40):if 16<mL 0 l then ∃r,an P uc (VJ t l 0 0) (sT9 m l.length (List.replicate l.length 0)) 129 none=some r∧Hr 7 r else an P uc (VJ t l 0 0) (sT9 m l.length (List.replicate l.length 0)) 129 none=back P [2,7,16,19,95,96,97] ly 4 (exec P ly ⟨tm (VJ t l (mL 0 l) l.length),sT9 m l.length ((pB 0 l).map fun(x:Nat)=>(x:Int)),129,none⟩):=by
 have h:=cS (P:=P) (nt:=129) (lv:=[2,7,16,19,95,96,97]) (b:=ly) (rd:=none) (as:=l) (fun i (s:Int×List Int)=>VJ t l s.1 i) (fun s=>sT9 m l.length s.2) Mo (fun(_:Unit)=>Hr 7) (fun _ s=>0≤s.1∧s.1≤16∧s.2.length=l.length)
  (fun i v s hv hi hs=>by
   obtain⟨tot,low⟩:=s;obtain⟨h0,h1,h2⟩:=hs
   simp only at h0 h1 h2
   have hlt:((i:Int)<l.length)=True:=by simpa using hi
   have hx:=fun σ=>aU (k:=.i64) (es:=2) (σ:=σ) (ax (f:=au) hv) (D6 v)
   have hok:=hw v (mK hv);unfold rC at hok;have hwr:IntKind.i64.wrap (tot+v.w)=tot+v.w:=IntWalk.i64_in _ (by omega)
   have hia:jd [.map (m.map CJ) false,.av 1 [[.map 0]] false,.pv 1 (low.map iJ) false,.av 1 [[.sl 2 l.length]] false,.pv 2 [au v] false] 1 (.sl 2 l.length) (.p (.int .i64 i))=some (.ptr 2 l.length i 0):=XQ rfl (by simp[h2]) hi
   have hst:=afH (σ:=[.map (m.map CJ) false,.av 1 [[.map 0]] false,.pv 1 (low.map iJ) false,.av 1 [[.sl 2 l.length]] false,.pv 2 [au v] false]) (b:=2) (m:=l.length) (e:=1) (j:=i) (rows:=low.map iJ) (v:=.int .i64 tot) (by simp[h2]) (by simp[iJ]) hi
   have hset:(low.map iJ).set i [.int .i64 tot]=(low.set i tot).map iJ:=by
    rw[List.map_set];rfl
   rw[hset]at hst;rcases fC (16<tot+v.w)with c|c
   ·have c2:(tot+v.w > 16)=True:=c
    refine⟨fun s' he=>?_,?_⟩
    ·simp only[Mo,c,if_true]at he;cases he
    ·simp only[ly,Mo,c,if_true]
     simp(disch:=omega)only[aG,↓aa,seval,-List.reduceReplicate,reduceCtorEq,af,hlt,hx,bz,AI,agn,ajp,aei,hia,hst,SZ,hwr,c2,VJ,sT9,Hr]
   ·have c2:(tot+v.w > 16)=False:=c
    refine⟨fun s' he=>?_,?_⟩
    ·simp only[Mo,c,if_false,abX]at he
     subst he;have:=of_eq_false c;exact⟨by simp only;omega,by simp only;omega,by simp[h2]⟩
    ·simp only[ly,Mo,c,if_false]
     simp(disch:=omega)only[aG,↓aa,seval,-List.reduceReplicate,reduceCtorEq,af,hlt,hx,bz,AI,agn,ajp,aei,hia,hst,SZ,hwr,c2,lE,VJ,sT9]) (fun i s=>rfl) (0,List.replicate l.length 0) ⟨by simp,by simp,by simp⟩
 have hf:=SF l [] 0 hw (by decide)
 rw[pN,yK,show((0:Nat):Int)=0 from rfl]at hf;split
 ·rename_i hb
  rw[if_pos hb]at hf;have hf':aq Mo 0 (0,List.replicate l.length 0) l=.inr ():=hf;rw[hf']at h;exact h
 ·rename_i hb
  rw[if_neg hb]at hf;have hf':aq Mo 0 (0,List.replicate l.length 0) l=.inl (mL 0 l,(pB 0 l).map fun(x:Nat)=>(x:Int)):=hf
  rw[hf']at h;exact h.2
def VN(e:ByteArray×Int):PV×PV:=(.str e.1,.int .i64 e.2)
theorem adC(k:ByteArray):∀s:Seen,findKey .str (.str k) (s.map VN)=some ((Oz s k).map fun w=>.int .i64 w)
 | []=>rfl
 |e::r=>by
  simp only[ue,findKey,VN,A8,Oz];by_cases h:k=e.1
  ·simp[h]
  ·simp only[h,decide_false,if_false]
   exact adC k r
theorem afs(u:Term)(l:List V2)(m:Seen)(hm:UG l m)(hw:∀v∈l,rC v)(hb:mL 0 l≤16)(K:Nat)(hK:K<65536)(hu:(uW u.name l).isSome=true):R P eT [.agg u.row,.ptr [.int .i64 K] 0,.ptr [.aW (((pB 0 l).map fun(x:Nat)=>(x:Int)).map iJ)] 0,.ptr [.pmap (m.map VN)] 0]=some (.int .u64 (Sm l K u.name:Int)):=by
 cases hi:uW u.name l with
 |none=>rw[hi]at hu;cases hu
 |some i=>
  obtain⟨a,ha,_⟩:=I5 _ l i hi;have hl:=fun(σ:ae) (z:AV)=>akp (σ:=σ) (z:=z) (kl:=.str) (k:=.str u.name) rfl (adC u.name m)
  rw[hm u.name,hi]at hl;simp only[vd,Q2]at hl;have hil:i<(pB 0 l).length:=by rw[CB];exact(gu.1 ha).1
  have hs:((pB 0 l).map fun(x:Nat)=>(x:Int))[i]?=some (((pB 0 l)[i]:Nat):Int):=by simp[hil]
  have hle:∀(r:List V2) (c:Nat),(∀v∈r,rC v)→mL c r≤16→∀x∈pB c r,x≤16:=by
   intro r
   induction r with
   |nil=>intro c _ _ x hx;simp[pB]at hx
   |cons v r ih=>
    intro c h h16 x hx;have hv:=h v (by simp)
    unfold rC at hv;have hc:(c:Int)≤16:=Int.not_lt.1 fun hlt=>by rw[N5 _ hlt]at h16;omega
    have hb:mL (c:Int) (v::r)=mL ((c:Int)+v.w) r:=by rw[mL,if_pos hc]
    have hcw:((c+v.w.toNat:Nat):Int)=(c:Int)+v.w:=by omega
    rcases qL.1 hx with rfl|hx
    ·omega
    ·exact ih (c+v.w.toNat) (fun a ha=>h a (by simp[ha])) (by rw[hcw,←hb];exact h16) x hx
  have hx16:=hle l 0 hw hb _ (UJ hil);have hix:=fun σ=>aU (k:=.i64) (es:=1) (σ:=σ) (ax (f:=iJ) hs) (by simp[iJ])
  have hcv:IntKind.u64.wrap (K:Int)=K:=IntWalk.u64_in _ (by omega)
  have hsh:=X3 (k:=.i64) (a:=K) (n:=(pB 0 l)[i]) (by omega)
  have hE:Sm l K u.name=K / 2^(pB 0 l)[i]:=by
   unfold Sm;rw[hi];simp only[aaT,oh hil,Q2]
  rw[hE]
  (rw[LM (aO rfl),oF];simp(disch:=omega)only[aG,↓aa,seval,-List.reduceReplicate,reduceCtorEq,af,hl,hix,iJ,hcv,hsh])
abbrev ZC(l:List V2):List Int:=(pB 0 l).map fun(x:Nat)=>(x:Int)
abbrev sTa(m:Seen)(l:List V2)(s:List Nat):ae:=[.map (m.map CJ) false,.av 1 [[.map 0]] false,.pv 1 ((ZC l).map iJ) false,.av 1 [[.sl 2 l.length]] false,.pv 1 (s.map Ai) false]
abbrev ado(t:Term)(b:Nat)(s:List Nat)(i:Int):List (Nat×AV):=[(2,.p (.ptr t.row 0)),(7,.ptr 1 1 0 0),(19,.ptr 3 1 0 0),(22,.sl 4 s.length),(117,.p (.int .i64 ((2^b:Nat):Int))),(118,.p (.int .i64 i))]
theorem Zl{t:Term}{l:List V2}(h:qM t l=true){u:Term}(hu:u∈t.post)(h1:u.op=1):(uW u.name l).isSome=true:=by
 have:=O7 h 0;unfold UZ at this;rw[AS]at this;have:=this u hu;simp only[h1,not_true_eq_false,decide_false,NW]at this;rw[Bn]at this;rw[KK];exact this
theorem alx{o0 o1 o2 o3 o4:Obj}{r:List PV}{fr:Bool}:mB [o0,o1,o2,o3,o4,.pv 1 [r] fr] 1 (.sl 5 1)=some (.inl [r]):=Cf rfl rfl (.inl rfl)
theorem am7{vs:List AV}{a b c d e f:Obj}:gc 5 vs [a,b,c,d,e,f]=if yW 5 vs [a,b,c,d,e,f]=true then[a,b,c,d,e]else[a,b,c,d,e,f]:=by unfold gc;rw[if_neg (by simp)];rfl
theorem ane{k:Int}:sS σ 1 true (some [.p (.int .i64 k)])=some (.p (.ptr [.int .i64 k] 0),σ):=rfl
theorem aef(t:Term)(ht:iM t)(hc:t.count≤1000000)(hk:gO t=0)(l:List V2)(m:Seen)(hm:UG l m)(hb:qM t l=true)(hw:∀v∈l,rC v)(h16:mL 0 l≤16)(b:Nat)(hb8:b≤16) :
  an P ud (ado t b [] 0) (sTa m l []) 129 none=back P [2,7,19,22,117,118] nR 5 (exec P nR ⟨tm (ado t b (Xc t l b) ((2^b:Nat):Int)),sTa m l (Xc t l b),129,none⟩):=by
 have hp:(2:Nat)^b≤65536:=aa4 (show 0<2 by omega) hb8
 obtain⟨_,h⟩:=jj (P:=P) (nt:=129) (lv:=[2,7,19,22,117,118]) (b:=nR) (rd:=none) (as:=List.range (2^b)) (fun i (s:List Nat)=>ado t b s i) (sTa m l) (fun _ s k=>s++[t.xB (PK (fN k l))]) (fun i s=>s.length=i)
  (fun i k s hki hi hs=>by
   rw[abY]at hi
   have hke:k=i:=by
    rw[abr hi]at hki;exact(abA hki).symm
   subst hke;have hlt:((k:Int)<((2^b:Nat):Int))=True:=by simp only[eq_iff_iff,iff_true];exact Int.ofNat_lt.2 hi
   have hval:=ND eT [.ptr [.int .i64 k] 0,.ptr [.aW ((ZC l).map iJ)] 0,.ptr [.pmap (m.map VN)] 0] (Sm l k) (aj0 l (by show k<_;omega)) t (fun u hu σ h1=>by
    have h9:=afs u l m hm hw h16 k (by omega) (Zl hb hu h1)
    simp(disch:=omega)only[aG,↓aa,seval,-List.reduceReplicate,reduceCtorEq,af,Lv,h9]) (N7 hk) ht hc
   rw[Yo hk hb]at hval
   have hpm:∀q,az (sTa m l s) (q+4) (.fn eT [.p (.ptr [.int .i64 k] 0),.ptr 3 1 0 0,.ptr 1 1 0 0])=some (.fn eT [.ptr [.int .i64 k] 0,.ptr [.aW ((ZC l).map iJ)] 0,.ptr [.pmap (m.map VN)] 0]):=by
    intro q
    have key:∀(f:PV×AV→Option (PV×PV)) (s:Seen),(∀b,f (CJ b)=some (VN b))→omap f (s.map CJ)=some (s.map VN):=by
     intro f s hf
     induction s with
     |nil=>rfl
     |cons b s ih=>simp only[ue,omap,hf];rw[ih]
    have hlen:((ZC l).map iJ).length=l.length:=by simp[ZC,CB]
    simp only[az,omap,sTa,NX,aa6,oi,pN,sQ,if_true,xu,hlen,vd];rw[key _ _ (fun b=>rfl)]
    rfl
   have hwr:IntKind.i64.wrap ((k:Int)+1)=((k+1:Nat):Int):=IntWalk.i64_in _ (by omega)
   have hap:=eZ (σ:=sTa m l s++[.pv 1 [[.int .u64 (t.xB (PK (fN k l)):Int)]] false]) (b:=4) (n:=s.length) (e:=1) (es:=1) (bytes:=8) (rows:=s.map Ai) (new:=[[.int .u64 (t.xB (PK (fN k l)):Int)]]) rfl (by simp) (.inl rfl) (by simp only[oi,pN];omega)
   simp only[sTa,Ec,yK]at hap hpm;refine⟨by simp[hs],?_⟩
   simp only[nR];simp(disch:=omega)only[aG,↓aa,seval,-List.reduceReplicate,reduceCtorEq,af,hlt,ane,CM,hpm,Fz,hval,amM,alx,hap,hwr,am7,lE,Ed,mh,Ai,ado,sTa]) (fun i s=>rfl) [] rfl _ (yV (fun k=>t.xB (PK (fN k l))) (List.range (2^b)) 0 [])
 rw[yK,abY]at h;exact h
theorem aev{n:Nat}(h:n≤40):y4 σ 1 8 [.p (.int .i64 0)] (.p (.int .i64 n)) (.p (.int .i64 n))=some (.sl σ.length n,σ++[.pv 1 ((List.replicate n (0:Int)).map iJ) false]):=by
 have:=ai8 (σ:=σ) (k:=.i64) (es:=1) (bytes:=8) (n:=n) (zero:=[.p (.int .i64 0)]) (z:=[.int .i64 0]) rfl (by omega)
 rw[this,List.map_replicate];rfl
theorem aku{n:Nat}(h:n≤65536):y4 σ 1 8 [.p (.int .u64 0)] (.p (.int .i64 0)) (.p (.int .i64 n))=some (.sl σ.length 0,σ++[.pv 1 [] false]):=by
 have hb:n*8≤140737488355328:=by omega
 simp[y4,mm,af,hb]
theorem adV{n:Nat}:sS σ 1 true (some [.sl 2 n])=some (.ptr σ.length 1 0 0,σ++[.av 1 [[.sl 2 n]] false]):=rfl
theorem ac7{n:Nat}:cellsOf 1 false (.sl 2 n)=some [.sl 2 n]:=rfl
theorem ajj{b:Nat}(h:b≤16):cu .shl (.p (.int .i64 1)) (.p (.int .i64 (b:Int)))=some (.p (.int .i64 ((2^b:Nat):Int))):=by
 have:b=0∨b=1∨b=2∨b=3∨b=4∨b=5∨b=6∨b=7∨b=8∨b=9∨b=10∨b=11∨b=12∨b=13∨b=14∨b=15∨b=16:=by omega
 rcases this with rfl|rfl|rfl|rfl|rfl|rfl|rfl|rfl|rfl|rfl|rfl|rfl|rfl|rfl|rfl|rfl|rfl<;>rfl
def Xd(t:Term)(l:List V2)(b:Nat):List PV:=if CQ t l=0 then[.aW ((Xc t l b).map Ai),.int .i64 0]else[.aW [],.int .i64 (CQ t l)]
theorem ae5(k:Nat){o0 o1 o2 o3:Obj}(rows:List (List PV))(e:Nat)(fr:Bool):az [o0,o1,o2,o3,.pv e rows fr] (k+1) (.sl 4 rows.length)=some (.aW rows):=by simp[az]
theorem ahm(t:Term)(ht:iM t)(hc:t.count≤1000000)(l:List V2)(hl:l.length≤40)(b:Nat)(hb:CQ t l=0→uM l=b∧b≤16):R P kW [.agg t.row,.aW (l.map au)]=some (.jO (Xd t l b)):=by
 have hk:=FP t ht hc;unfold Xd;rcases fC (gO t=0)with c0|c0
 rotate_left
 ·have hE:CQ t l=gO t:=by unfold CQ;rw[if_pos (of_eq_false c0)]
  rw[hE,if_neg (of_eq_false c0)]
  (rw[pT (aO rfl),ik];simp(disch:=omega)only[aG,↓aa,seval,-List.reduceReplicate,reduceCtorEq,af,lj,hk,c0])
 have hk0:gO t=0:=of_eq_true c0;rw[hk0]at hk;have hv:=Ia t hc;have hV:=Mt t;have h0:=ad7 t l hl;have hE1:CQ t l=if qM t l=false then 12 else if l.any Ij=true then 3 else if 16<uM l then 7 else 0:=by unfold CQ;rw[if_neg (by simpa using hk0)]
 have h0e:∀x:Ex×St,an P lD (Kl t l 0) (GX []) 129 none=some x→an P lD [(1,.p (.aW (l.map au))),(2,.p (.ptr t.row 0)),(7,.ptr 1 1 0 0),(30,.p (.aW (l.map au))),(31,.p (.int .i64 l.length)),(32,.p (.int .i64 0))] [.map [] false,.av 1 [[.map 0]] false] 129 none=some x:=fun _ h=>h
 cases hd:yq AF [] l with
 |true=>
  have hbd:qM t l=false:=by unfold qM;rw[hd];rfl
  have e:CQ t l=12:=by rw[hE1,if_pos hbd]
  rw[e,if_neg (by decide)]
  rw[hd,if_pos rfl]at h0;obtain⟨⟨e',τ',σ',nt',rd'⟩,g1,g2,g3,g4⟩:=h0
  simp only at g2 g3 g4
  subst g2;have g1':=h0e _ g1
  (rw[pT (aO rfl),ik];simp(disch:=omega)only[aG,↓aa,seval,-List.reduceReplicate,reduceCtorEq,af,lj,hk,ql,g1',g3,g4,bz])
 |false=>
  rw[hd,if_neg (by simp)]at h0
  obtain⟨m,hm,h0⟩:=h0;have h0':an P lD [(1,.p (.aW (l.map au))),(2,.p (.ptr t.row 0)),(7,.ptr 1 1 0 0),(30,.p (.aW (l.map au))),(31,.p (.int .i64 l.length)),(32,.p (.int .i64 0))] [.map [] false,.av 1 [[.map 0]] false] 129 none=_:=h0;have h1:=aea t l (mC t) m hm (by omega) hl
  have hok:(mC t).any (fun v=>!DV l v) = !qM t l:=by
   unfold qM;rw[hd];simp only[ab6,IZ,Bool.not_not]
   congr 1
   funext v
   rw[V8 l hd v]
  rw[hok]at h1;have h2:=aec t l m hl;simp only[Sf,GX]at h1;simp only[Sg,GX]at h2;cases hbd:qM t l with
  |false=>
   have e:CQ t l=12:=by rw[hE1,if_pos hbd]
   rw[e,if_neg (by decide)]
   rw[hbd,ab6,if_pos rfl]at h1;generalize mC t=V at *;obtain⟨⟨e',τ',σ',nt',rd'⟩,g1,g2,g3,g4⟩:=h1
   simp only at g2 g3 g4
   subst g2
   (rw[pT (aO rfl),ik];simp(disch:=omega)only[aG,↓aa,seval,-List.reduceReplicate,reduceCtorEq,af,lj,hk,ql,h0',fE,pD,bz,u5,hv,ug,g1,g3,g4,Kl,GX])
  |true=>
   have hE2:CQ t l=if l.any Ij=true then 3 else if 16<uM l then 7 else 0:=by rw[hE1,if_neg (by rw[hbd];decide)]
   rw[hbd,abU,if_neg (by simp)]at h1
   have hvt:=Yo hk0 hbd;cases hbw:l.any Ij with
   |true=>
    have e:CQ t l=3:=by rw[hE2,if_pos hbw]
    rw[e,if_neg (by decide)]
    rw[hbw,if_pos rfl]at h2;generalize mC t=V at *;obtain⟨⟨e',τ',σ',nt',rd'⟩,g1,g2,g3,g4⟩:=h2
    simp only at g2 g3 g4
    subst g2
    (rw[pT (aO rfl),ik];simp(disch:=omega)only[aG,↓aa,seval,-List.reduceReplicate,reduceCtorEq,af,lj,hk,ql,h0',fE,pD,bz,u5,hv,ug,h1,fF,yv,g1,g3,g4,Kl,GX])
   |false=>
    have hE3:CQ t l=if 16<uM l then 7 else 0:=by rw[hE2,if_neg (by rw[hbw];decide)]
    rw[hbw,if_neg (by simp)]at h2
    have hw:=agu hbw;have h3:=aee t l m hw hl;simp only[VJ,sT9]at h3;rcases fC (16<mL 0 l)with c3|c3
    ·have c4:16<uM l:=by have:=of_eq_true c3;unfold uM;omega
     have e:CQ t l=7:=by rw[hE3,if_pos c4]
     rw[e,if_neg (by decide)]
     rw[if_pos (of_eq_true c3)]at h3;generalize mC t=V at *;obtain⟨⟨e',τ',σ',nt',rd'⟩,g1,g2,g3,g4⟩:=h3
     simp only at g2 g3 g4
     subst g2
     (rw[pT (aO rfl),ik];simp(disch:=omega)only[aG,↓aa,seval,-List.reduceReplicate,reduceCtorEq,af,lj,hk,ql,h0',fE,pD,bz,u5,hv,ug,h1,fF,yv,h2,ig,aev hl,ac7,adV,C9,g1,g3,g4,Kl,GX])
    ·have c4:¬16<uM l:=by have:=of_eq_false c3;unfold uM;omega
     have hE0:CQ t l=0:=by rw[hE3,if_neg c4]
     rw[hE0,if_pos rfl];rw[if_neg (of_eq_false c3)]at h3;obtain⟨hbb,hb8⟩:=hb hE0;have hbn:mL 0 l=(b:Int):=by have:=of_eq_false c3;unfold uM at hbb;omega
     have h4:=aef t ht hc hk0 l m hm hbd hw (by omega) b hb8
     have hp:(2:Nat)^b≤65536:=aa4 (show 0<2 by omega) hb8
     have h4':an P ud [(2,.p (.ptr t.row 0)),(7,.ptr 1 1 0 0),(19,.ptr 3 1 0 0),(22,.sl 4 0),(117,.p (.int .i64 ((2^b:Nat):Int))),(118,.p (.int .i64 0))] [.map (m.map CJ) false,.av 1 [[.map 0]] false,.pv 1 ((ZC l).map iJ) false,.av 1 [[.sl 2 l.length]] false,.pv 1 [] false] 129 none=_:=h4;rw[hbn]at h3;have hP:=fun k o0 o1 o2 o3=>ae5 k (o0:=o0) (o1:=o1) (o2:=o2) (o3:=o3) ((Xc t l b).map Ai) 1 false
     rw[bz]at hP;generalize mC t=V at *;generalize Xc t l b=vs at *;have hmo:=fun σ=>aku (σ:=σ) hp
     (rw[pT (aO rfl),ik];simp(disch:=omega)only[aG,↓aa,seval,-List.reduceReplicate,reduceCtorEq,af,lj,hk,ql,h0',fE,pD,bz,u5,hv,ug,h1,fF,yv,h2,ig,aev hl,ac7,adV,C9,h3,ly,ajj hb8,hmo,Nb,h4',nR,hP,Kl,GX,ado,sTa])
end Go.AE.S
