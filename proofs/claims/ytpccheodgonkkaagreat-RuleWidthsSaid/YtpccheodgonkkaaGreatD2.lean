import Derived.Test.YtpccheodgonkkaaGreatD1
import Derived.Test.YtpccheodgonkkaaGreatC0
set_option maxHeartbeats 0
set_option linter.unusedSimpArgs false
set_option linter.unusedVariables false
namespace Go.AE.S
open Go Go.AE
theorem acJ(u:Term):WO u u=false:=by
 unfold WO;simp
theorem acI(u v:Term):WO u v=WO v u:=by
 unfold WO;simp only[decide_eq_decide];constructor<;>(rintro⟨h1,h2,h3,h4⟩;exact⟨h2,h1,h3.symm,fun e=>h4 e.symm⟩)
theorem WS:∀(r p:List Term),Rt p r=true→∃u∈r,∃b∈p++r,WO u b=true
 | [],p,h=>by simp[Rt]at h
 |u::r,p,h=>by
  simp only[Rt,QN]at h;rcases h with h|h
  ·obtain⟨b,hb,hc⟩:=abB.1 h
   exact⟨u,by simp,b,by simp[hb],hc⟩
  ·obtain⟨v,hv,b,hb,hc⟩:=WS r (p++[u]) h
   exact⟨v,by simp[hv],b,by simpa using hb,hc⟩
theorem WT:∀(r p:List Term),Rt p r=false→∀u∈r,∀b∈p++r,WO u b=false
 | [],p,h,u,hu=>by simp at hu
 |x::r,p,h,u,hu=>by
  simp only[Rt,abv]at h;have ih:=WT r (p++[x]) h.2
  have hx:∀b∈p++x::r,WO x b=false:=by
   intro b hb;rcases BZ.1 hb with hb|hb
   ·simpa using ML.1 h.1 b hb
   ·rcases pn.1 hb with rfl|hb
    ·exact acJ b
    ·rw[acI];exact ih b (by simp[hb]) x (by simp) |>.symm ▸ rfl
  rcases pn.1 hu with rfl|hu
  ·exact hx
  ·intro b hb
   exact ih u hu b (by simpa using hb)
theorem JK:∀l:List Term,(∀a∈l,ur a=0)→y3 l=0
 | [],_=>rfl
 |a::l,h=>by
  simp only[y3];rw[if_pos (h a (by simp))]
  exact JK l fun b hb=>h b (by simp[hb])
theorem NT(t:Term):gZ t=0↔(t.deep:Int)≤64∧(t.count:Int)≤4096∧M5 t∧∀u∈t.post,∀b∈t.post,WO u b=false:=by
 constructor
 ·intro h
  have ha:=Sj h;unfold gZ at h;split at h
  ·rename_i hb
   refine⟨hb.1,hb.2,ha,?_⟩;rw[acG,if_neg (fun h'=>h' (JK _ ha))]at h
   split at h
   ·cases h
   ·rename_i ho
    intro u hu b hb;exact WT t.post [] (by simpa using ho) u hu b (by simpa using hb)
  ·cases h
 ·rintro⟨h1,h2,h3,h4⟩
  unfold gZ;rw[if_pos ⟨h1,h2⟩,acG,if_neg (fun h'=>h' (JK _ h3)),if_neg]
  intro hx;obtain⟨a,ha,b,hb',hc⟩:=WS t.post [] hx;rw[h4 a ha b (by simpa using hb')]at hc
  cases hc
variable {τ:Tm} {σ:ag} {rd:Option Nat}
theorem aeT:∀{l:List Term} {s:List V2} {v:V2},v∈l.foldl yc s→v∈s∨∃u∈l,u.op=1∧v=⟨u.name,u.w⟩
 | [],s,v,h=>.inl h
 |u::l,s,v,h=>by
  rw[QL]at h;rcases aeT h with h|⟨u',hu,q⟩
  ·rcases Bf.1 h with h|⟨h1,h2,_⟩
   ·exact .inl h
   ·exact .inr ⟨u,by simp,h1,h2⟩
  ·exact .inr ⟨u',by simp[hu],q⟩
theorem af0{t:Term}{v:V2}(h:v∈nr t):∃u∈t.post,u.op=1∧v=⟨u.name,u.w⟩:=by
 rcases aeT (tc.1 h)with h|⟨u,hu,q⟩
 ·simp at h
 ·exact⟨u,(jG t u).2 hu,q⟩
theorem Vw{t u:Term}(hu:u∈t.post)(h1:u.op=1):∃v∈nr t,v.name=u.name:=by
 obtain⟨v,hv,hn⟩:=(OY t.pre [] u.name).2 (.inr ⟨u,(jG t u).1 hu,h1,rfl⟩);exact⟨v,tc.2 hv,hn⟩
theorem alP{t:Term}(h:gZ t=0){u:Term}(hu:u∈t.post)(h1:u.op=1){v:V2}(hv:v∈nr t)(hn:v.name=u.name):v.w=u.w:=by
 obtain⟨_,_,_,h4⟩:=(NT t).1 h;obtain⟨u',hu',h1',rfl⟩:=af0 hv;have:=h4 u' hu' u hu;unfold WO at this;have:=of_decide_eq_false this;refine abN fun hw=>this ⟨h1',h1,hn,hw⟩
theorem QF(t:Term):(nr t).length≤t.count:=by
 rw[alN];have:=SK (l:=t.pre) (s:=[]);rw[Term.lX,l5]at this;omega
theorem afY(E E':ByteArray→Nat)(t:Term):(∀u∈t.post,u.op=1→E u.name % 2^cw u.w=E' u.name % 2^cw u.w)→t.zJ E=t.zJ E':=by
 induction t using Term.ind with
 |h t ih=>
 intro h;rw[Term.M4,Term.M4 E' t];by_cases h1:t.op=1
 ·rw[if_pos h1,if_pos h1,h t ((jG t t).2 (lV.2 (.inl rfl))) h1]
 ·rw[if_neg h1,if_neg h1]
  have:Term.u5 E t.args=Term.u5 E' t.args:=by
   rw[Term.tl,Term.tl];exact ab6 fun a ha=>by rw[ih a ha fun u hu=>h u ((jG t u).2 (lV.2 (.inr ⟨a,ha,(jG a u).1 hu⟩)))]
  rw[this]
theorem apb(k:Nat)(o:Obj)(rows:List (List PV))(e:Nat)(fr:Bool):aG [o,.pv e rows fr] (k+1) (.sl 1 rows.length)=some (.aM rows):=by simp[aG]
theorem Om{α:Type}(q:α→Bool):∀(l:List α) (i:Nat),aq (S:=Unit) (T:=Unit) (fun _ _ a=>if q a=true then .inr ()else .inl ()) i () l=if l.any q=true then .inr ()else .inl ()
 | [],i=>rfl
 |a::l,i=>by
  cases h:q a<;>simp[aq,h,Om q l]
def AR{α:Type}(q:α→α→Bool)(p:List α):List α→Bool
 | []=>false
 |u::r=>p.any (q u) ||AR q (p++[u]) r
def C9(u a:V2):Bool:=decide (u.name=a.name)
theorem af2{v:V2}:(ay v)[0]?=some (.str v.name):=rfl
theorem QH{v:V2}:(ay v)[1]?=some (.int .i64 v.w):=rfl
theorem af1{v:V2}:Og 0 (.p (.ptr (ay v) 0))=some (.p (.ptr (ay v) 0)):=rfl
theorem QG{v:V2}:Og 1 (.p (.ptr (ay v) 0))=some (.p (.ptr (ay v) 1)):=rfl
theorem GO(v:V2):(ay v).length=2:=rfl
theorem Db{v:V2}:gU σ 2 true (.p (.ptr (ay v) 0))=some (.p (.agg (ay v))):=rfl
def eqV(a b:V2):Bool:=decide (a.name=b.name) && decide (a.w=b.w)
def rY(t:Term)(l:List V2):Bool:=!AR C9 [] l && !(nr t).any (fun u=>!(l.any fun a=>eqV a u))
def nB(n:Int):List V2→Int
 | []=>n
 |v::r=>if n≤16 then nB (n+v.w) r else n
def tq(v:V2):Prop:=1≤v.w∧v.w≤64
def xe(l:List V2):Int:=min (nB 0 l) 17
def LS(v:V2):Bool:=decide (v.w<1) ||decide (64<v.w)
theorem amn{l:List V2}(h:l.any LS=false):∀v∈l,tq v:=by
 intro v hv;have:=ML.1 h v hv;simp only[LS,QN,decide_eq_true_eq]at this;unfold tq;omega
def Fz(t:Term)(l:List V2):Int:=if ¬gZ t=0 then gZ t else if rY t l=false then 12 else if l.any LS=true then 3 else if 16<xe l then 7 else 0
def fW:Nat→List V2→List Bd
 |_,[]=>[]
 |n,v::r=>⟨v.name,n % 2^cw v.w⟩::fW (n / 2^v.w.toNat) r
def asF(s:List Bd×Nat)(v:V2):List Bd×Nat:=(s.1++[⟨v.name,s.2 % 2^cw v.w⟩],s.2 / 2^v.w.toNat)
theorem aeU:∀(l:List V2) (s:List Bd) (n:Nat),(l.foldl asF (s,n)).1=s++fW n l
 | [],s,n=>by simp[fW]
 |v::l,s,n=>by
  rw[QL]
  show(l.foldl asF (s++[⟨v.name,n % 2^cw v.w⟩],n / 2^v.w.toNat)).1=_
  rw[aeU l];simp[fW]
abbrev sAs(s:List Bd×Nat):ag:=[.pv (lK 2 s.1) (s.1.map V8) false]
theorem apC{n:ByteArray}{x:Int}:kU σ 2 1 (gz (List.replicate 1 [.p (.str (bs [])),.p (.int .u64 0)]).flatten [(0,2,.p (.agg [.str n,.int .u64 x]))])=some (.sl σ.length 1,σ++[.pv 2 [[.str n,.int .u64 x]] false]):=rfl
theorem aro{o:Obj}{a:List PV}{fr:Bool}:nn [o,.pv 2 [a] fr] 2 (.sl 1 1)=some (.inl [a]):=EN rfl rfl (.inl rfl)
theorem DS(n:ByteArray):∀(l:List V2) (k:Nat),(Ae n (fW k l)).isSome=l.any fun a=>decide (a.name=n)
 | [],k=>rfl
 |v::l,k=>by
  simp only[fW,Ae,ZH];by_cases h:v.name=n
  ·simp[h]
  ·simp only[h,if_false,decide_false,G1]
   exact DS n l _
theorem TI{t:Term}{l:List V2}(h:rY t l=true)(k:Nat):ZR (fW k l) t=true:=by
 unfold rY at h;rw[ud,abi,abi,ML]at h;unfold ZR;rw[Ca];intro u hu;by_cases h1:u.op=1
 ·obtain⟨v,hv,hn⟩:=Vw hu h1
  have hx:=h.2 v hv;simp only[abi,Bool.not_eq_false]at hx;obtain⟨a,ha,he⟩:=abB.1 hx
  have:(Ae u.name (fW k l)).isSome=true:=by
   rw[DS];refine abB.2 ⟨a,ha,?_⟩;unfold eqV at he;rw[ud]at he;rw[←hn];exact he.1
  rw[this];simp
 ·simp[h1]
def aeB(t:Term)(l:List V2)(b:Nat):List Nat:=(List.range (2^b)).map fun k=>t.zJ (Um (fW k l))
def xk(n:ByteArray):List V2→Option Nat
 | []=>none
 |v::r=>if v.name=n then some 0 else(xk n r).map (· + 1)
theorem MQ(n:ByteArray):∀(l:List V2) (i:Nat),xk n l=some i→∃a,l[i]?=some a∧a.name=n
 | [],i,h=>by cases h
 |v::r,i,h=>by
  unfold xk at h;split at h
  ·rename_i hn
   cases h;exact⟨v,rfl,hn⟩
  ·rw[gI]at h
   obtain⟨j,hj,rfl⟩:=h;obtain⟨a,ha,hn⟩:=MQ n r j hj;exact⟨a,by simpa using ha,hn⟩
theorem OD(n:ByteArray):∀l:List V2,(xk n l).isSome=l.any fun a=>decide (a.name=n)
 | []=>rfl
 |v::r=>by
  unfold xk;by_cases h:v.name=n
  ·simp[h]
  ·simp only[h,if_false,Option.isSome_map,OD n r,ZH,decide_false,G1]
theorem afl(n:ByteArray)(v:V2):∀p:List V2,xk n (p++[v])=match xk n p with|some i=>some i|none=>if v.name=n then some p.length else none
 | []=>by simp only[x9,xk];split<;>rfl
 |a::p=>by
  simp only[FD,xk];by_cases h:a.name=n
  ·simp only[h,if_true]
  ·simp only[h,if_false,afl n v p]
   cases xk n p with
   |some i=>rfl
   |none=>
    by_cases h2:v.name=n
    ·simp[h2]
    ·simp[h2]
def ZB(p:List V2)(m:Seen):Prop:=∀n,SU m n=Option.map (fun i:Nat=>(i:Int)) (xk n p)
def plF(i:Nat)(m:Seen)(v:V2):Seen ⊕ Unit:=if(SU m v.name).isSome=true then .inr ()else .inl (stW v.name i m)
theorem afe:∀(r p:List V2) (m:Seen),ZB p m→if AR C9 p r=true then aq plF p.length m r=.inr ()else ∃m',aq plF p.length m r=.inl m'∧ZB (p++r) m'
 | [],p,m,h=>by
  rw[if_neg (by simp[AR])]
  exact⟨m,rfl,by simpa using h⟩
 |v::r,p,m,h=>by
  have hs:(SU m v.name).isSome=p.any (C9 v):=by
   rw[h v.name,Option.isSome_map,OD]
   congr 1
   funext a
   unfold C9;rw[decide_eq_decide];exact⟨Eq.symm,Eq.symm⟩
  simp only[AR,aq,plF,hs];cases ha:p.any (C9 v)with
  |true=>simp
  |false=>
   simp only[kS,if_false,G1]
   have hi:ZB (p++[v]) (stW v.name p.length m):=by
    intro n;rw[UL,afl]
    have hn:xk v.name p=none:=by
     have:=hs;rw[ha,h v.name,Option.isSome_map]at this;cases hx:xk v.name p with
     |none=>rfl
     |some i=>rw[hx]at this;simp at this
    by_cases he:n=v.name
    ·subst he
     rw[if_pos rfl,hn];simp
    ·rw[if_neg he,h n]
     cases xk n p with
     |some i=>rfl
     |none=>
      have:¬v.name=n:=fun e=>he e.symm
      simp[this]
   have:=afe r (p++[v]) _ hi;rw[jE]at this;simpa using this
def GB(l:List V2)(v:V2):Bool:=match xk v.name l with
 |some i=>(match l[i]? with|some a=>decide (a.w=v.w)|none=>false)
 |none=>false
theorem ahu{a v:V2}{l:List V2}:GB (a::l) v=if a.name=v.name then decide (a.w=v.w)else GB l v:=by
 unfold GB;simp only[xk];by_cases h:a.name=v.name
 ·simp[h]
 ·simp only[h,if_false]
  cases xk v.name l with
  |none=>rfl
  |some i=>simp
theorem WZ{q:V2→V2→Bool}:∀(r p:List V2),AR q p r=false→∀a∈p,∀b∈r,q b a=false
 | [],p,_,a,_,b,hb=>by simp at hb
 |v::r,p,h,a,ha,b,hb=>by
  simp only[AR,abv]at h;rcases pn.1 hb with rfl|hb
  ·simpa using ML.1 h.1 a ha
  ·exact WZ r (p++[v]) h.2 a (by simp[ha]) b hb
theorem ai0{q:V2→V2→Bool}:∀(r p:List V2),AR q p r=false→AR q [] r=false
 | [],p,_=>rfl
 |v::r,p,h=>by
  simp only[AR,abv]at h;simp only[AR,List.any_nil,G1,x9]
  have key:∀(r p p':List V2),(∀a∈p',a∈p)→AR q p r=false→AR q p' r=false:=by
   intro r
   induction r with
   |nil=>intro _ _ _ _;rfl
   |cons u r ih=>
    intro p p' hs h;simp only[AR,abv]at h ⊢;refine⟨ML.2 fun a ha=>ML.1 h.1 a (hs a ha),ih (p++[u]) (p'++[u]) (fun a ha=>?_) h.2⟩
    rcases BZ.1 ha with ha|ha
    ·exact BZ.2 (.inl (hs a ha))
    ·exact BZ.2 (.inr ha)
  exact key r (p++[v]) [v] (fun a ha=>BZ.2 (.inr ha)) h.2
theorem adw:∀(l:List V2),AR C9 [] l=false→∀v,GB l v=l.any fun a=>eqV a v
 | [],_,v=>rfl
 |a::l,h,v=>by
  have hd:=h;simp only[AR,List.any_nil,G1,x9]at hd;have ih:=adw l (ai0 l [a] hd) v;rw[ahu,ZH];by_cases hn:a.name=v.name
  ·rw[if_pos hn]
   have:l.any (fun b=>eqV b v)=false:=by
    refine ML.2 fun b hb=>?_
    have:=WZ l [a] hd a (by simp) b hb
    unfold C9 at this;have:=of_decide_eq_false this;unfold eqV;have hne:¬b.name=v.name:=fun e=>this (by rw[e,hn])
    simp[hne]
   rw[this,Bool.or_false];unfold eqV;simp[hn]
  ·rw[if_neg hn,ih]
   unfold eqV;simp[hn]
def qx(c:Nat):List V2→List Nat
 | []=>[]
 |v::r=>c::qx (c+v.w.toNat) r
theorem Fg:∀(l:List V2) (c:Nat),(qx c l).length=l.length
 | [],c=>rfl
 |v::l,c=>by simp[qx,Fg l]
theorem afu(n:ByteArray)(K:Nat):∀(l:List V2) (c:Nat),Ae n (fW (K / 2^c) l)=match xk n l with
  |some i=>(match l[i]?,(qx c l)[i]? with|some a,some s=>some (K / 2^s % 2^cw a.w)|_,_=>none)
  |none=>none
 | [],c=>rfl
 |v::l,c=>by
  simp only[fW,Ae,xk,qx];by_cases h:v.name=n
  ·simp[h]
  ·simp only[h,if_false]
   have hd:K / 2^c / 2^v.w.toNat=K / 2^(c+v.w.toNat):=by rw[Nat.div_div_eq_div_mul,Nat.pow_add]
   rw[hd,afu n K l (c+v.w.toNat)];cases xk n l with
   |none=>rfl
   |some i=>simp
def Xf(l:List V2)(K:Nat)(n:ByteArray):Nat:=match xk n l with
 |some i=>K / 2^((qx 0 l).getD i 0)
 |none=>0
theorem apP(l:List V2){K:Nat}(h:W K)(n:ByteArray):W (Xf l K n):=by
 unfold Xf;split
 ·exact abg (abY _ _) h
 ·show 0<_;omega
theorem afZ{t:Term}{l:List V2}(hk:gZ t=0)(hb:rY t l=true)(K:Nat):t.zJ (Xf l K)=t.zJ (Um (fW K l)):=by
 refine afY _ _ t fun u hu h1=>?_
 unfold rY at hb;rw[ud,abi,abi,ML]at hb;obtain⟨v,hv,hn⟩:=Vw hu h1;have hw:=alP hk hu h1 hv hn;have hx:=hb.2 v hv;simp only[abi,Bool.not_eq_false]at hx;rw[←adw l hb.1 v]at hx;unfold GB at hx;unfold Um Xf;have hl:=afu u.name K l 0;rw[Nat.pow_zero,Nat.div_one]at hl;rw[hl];rw[hn]at hx;cases hi:xk u.name l with
 |none=>rfl
 |some i=>
  rw[hi]at hx;obtain⟨a,ha,_⟩:=MQ _ l i hi;simp only[ha]at hx;have hwa:=of_decide_eq_true hx;have hil:i<(qx 0 l).length:=by rw[Fg];exact(fU.1 ha).1
  have hs:(qx 0 l)[i]?=some ((qx 0 l)[i]):=oq hil;simp only[ha,hs,aaU,VE,hwa,hw,Nat.mod_mod]
def QA(i:Nat)(s:Int×List Int)(v:V2):(Int×List Int) ⊕ Unit:=if 16<s.1+v.w then .inr ()else .inl (s.1+v.w,s.2.set i s.1)
theorem Sg(n:Int)(h:16<n):∀l:List V2,nB n l=n
 | []=>rfl
 |v::l=>by unfold nB;rw[if_neg (by omega)]
theorem Xw:∀(r:List V2) (p:List Int) (c:Nat),(∀v∈r,tq v)→(c:Int)≤16→if 16<nB c r then aq QA p.length ((c:Int),p++List.replicate r.length 0) r=.inr ()else aq QA p.length ((c:Int),p++List.replicate r.length 0) r=.inl (nB c r,p++(qx c r).map fun(x:Nat)=>(x:Int))
 | [],p,c,_,hc=>by
  have:¬16<nB (c:Int) []:=by show ¬16<(c:Int);omega
  rw[if_neg this];simp[aq,nB,qx]
 |v::r,p,c,h,hc=>by
  have hv:=h v (by simp)
  unfold tq at hv;have hb:nB (c:Int) (v::r)=nB ((c:Int)+v.w) r:=by rw[nB,if_pos hc]
  have hcw:((c+v.w.toNat:Nat):Int)=(c:Int)+v.w:=by omega
  rw[hb];by_cases h16:16<(c:Int)+v.w
  ·rw[Sg _ h16,if_pos h16]
   simp only[aq,QA,h16,if_true]
  ·have ih:=Xw r (p++[(c:Int)]) (c+v.w.toNat) (fun a ha=>h a (by simp[ha])) (by omega)
   rw[hcw]at ih
   have hset:(p++List.replicate (v::r).length 0).set p.length (c:Int)=(p++[(c:Int)])++List.replicate r.length 0:=by
    rw[List.set_append_right _ _ (by omega),abM,lH,List.replicate_succ,abc]
    simp
   have e8:(p++[(c:Int)]).length=p.length+1:=by simp
   rw[e8]at ih;simp only[aq,QA,h16,if_false,hset];split
   ·rename_i hh;rw[if_pos hh]at ih;exact ih
   ·rename_i hh
    rw[if_neg hh]at ih;rw[ih];simp[qx]
abbrev Kd(m:Seen):ag:=[.map (m.map Ft) false,.av 1 [[.map 0]] false]
abbrev N9(t:Term)(l:List V2)(i:Int):List (Nat×AV):=[(1,.p (.aM (l.map ay))),(2,.p (.ptr t.row 0)),(7,.ptr 1 1 0 0),(30,.p (.aM (l.map ay))),(31,.p (.int .i64 l.length)),(32,.p (.int .i64 i))]
def X2(r:Ex×St):Prop:=r.1=.ret∧r.2.τ.get 4=.aC∧r.2.τ.get 5=.p (.int .i64 12)
theorem amh:vl 2 (aW [.p (.str (bs [])),.p (.int .i64 0)] σ)=some (.ptr σ.length 1 0 0,σ++[.pv 2 [[.str (bs []),.int .i64 0]] false]):=rfl
theorem aly{o o1:Obj}{r:List PV}{v:V2}{fr:Bool}:eM [o,o1,.pv 2 [[.str (bs []),.int .i64 0]] false] 2 (.ptr 2 1 0 0) (.p (.agg (ay v)))=some [o,o1,.pv 2 [ay v] false]:=rfl
theorem XO{v:V2}{fr:Bool}:Mm 1 0 0 1 false (some (.pv 2 [ay v] fr))=some (.p (.str v.name)):=rfl
theorem XP{v:V2}{fr:Bool}:Mm 1 0 1 1 false (some (.pv 2 [ay v] fr))=some (.p (.int .i64 v.w)):=rfl
theorem ajM(t:Term)(l:List V2)(hl:l.length≤40):if AR C9 [] l=true then ∃r,al P mg (N9 t l 0) (Kd []) 129 none=some r∧X2 r else ∃m,ZB l m∧al P mg (N9 t l 0) (Kd []) 129 none=back P [1,2,7,30,31,32] fO 2 (exec P fO ⟨tm (N9 t l l.length),Kd m,129,none⟩):=by
 have h:=cE (P:=P) (nt:=129) (lv:=[1,2,7,30,31,32]) (b:=fO) (rd:=none) (as:=l) (fun i (_:Seen)=>N9 t l i) Kd plF (fun(_:Unit)=>X2) (fun _ _=>True)
  (fun i v m hv hi hs=>by
   refine⟨fun _ _=>trivial,?_⟩
   have hlt:((i:Int)<l.length)=True:=by simpa using hi
   have hx:=fun σ=>aJ (k:=.i64) (es:=2) (σ:=σ) (ax (f:=ay) hv) (GO v)
   have hlk:=fun(r:ag) (z:AV)=>aj8 (fr:=false) (r:=r) (z:=z) (kl:=.str) (k:=.str v.name) rfl (E4 v.name m)
   unfold plF;cases hk:SU m v.name with
   |none=>
    rw[hk]at hlk;simp only[acr,Option.getD_none,aca]at hlk;have hm:=fun(r:ag)=>aqn (r:=r) (kl:=.str) (k:=.str v.name) rfl (Qn v.name i m)
    simp only[fO,aca,kS,if_false];simp(disch:=omega)only[aA,↓aa,seval,-List.reduceReplicate,reduceCtorEq,ae,hlt,hx,aO,Db,amh,aly,XO,ldM,hlk,hm,mj,N9,Kd]
   |some w=>
    rw[hk]at hlk;simp only[xu,VE,Option.isSome_some]at hlk;simp only[fO,Option.isSome_some,if_true];simp(disch:=omega)only[aA,↓aa,seval,-List.reduceReplicate,reduceCtorEq,ae,hlt,hx,aO,Db,amh,aly,XO,ldM,hlk,mj,N9,Kd,X2]) (fun i s=>rfl) [] trivial
 have hf:=afe l [] [] (fun n=>rfl)
 rw[l5]at hf;cases hb:AR C9 [] l with
 |true=>
  rw[hb,if_pos rfl]at hf;rw[hf]at h;rw[if_pos rfl];exact h
 |false=>
  rw[hb,if_neg (by simp)]at hf
  obtain⟨m,hf,hi⟩:=hf;rw[hf]at h;rw[if_neg (by simp)]
  exact⟨m,hi,h.2⟩
abbrev W9(t:Term)(l V:List V2)(i:Int):List (Nat×AV):=[(1,.p (.aM (l.map ay))),(2,.p (.ptr t.row 0)),(7,.ptr 1 1 0 0),(51,.p (.aM (V.map ay))),(52,.p (.int .i64 V.length)),(53,.p (.int .i64 i))]
theorem LO{v:V2}:uW σ 2 true (some ((ay v).map .p))=some (.p (.ptr (ay v) 0),σ):=rfl
theorem LL{v:V2}:cellsOf 2 true (.p (.agg (ay v)))=some ((ay v).map .p):=rfl
theorem ajQ(t:Term)(l V:List V2)(m:Seen)(hm:ZB l m)(hV:V.length≤1000000)(hl:l.length≤40):if V.any (fun v=>!GB l v)=true then ∃r,al P wk (W9 t l V 0) (Kd m) 129 none=some r∧X2 r else al P wk (W9 t l V 0) (Kd m) 129 none=back P [1,2,7,51,52,53] fP 2 (exec P fP ⟨tm (W9 t l V V.length),Kd m,129,none⟩):=by
 have h:=cE (P:=P) (nt:=129) (lv:=[1,2,7,51,52,53]) (b:=fP) (rd:=none) (as:=V) (fun i (_:Unit)=>W9 t l V i) (fun _=>Kd m) (fun _ _ v=>if(fun v=>!GB l v) v=true then .inr ()else .inl ()) (fun(_:Unit)=>X2) (fun _ _=>True)
  (fun i v s hv hi hs=>by
   refine⟨fun _ _=>trivial,?_⟩
   have hlt:((i:Int)<V.length)=True:=by simpa using hi
   have hx:=fun σ=>aJ (k:=.i64) (es:=2) (σ:=σ) (ax (f:=ay) hv) (GO v)
   have hlk:=fun(r:ag) (z:AV)=>aj8 (fr:=false) (r:=r) (z:=z) (kl:=.str) (k:=.str v.name) rfl (E4 v.name m)
   rw[hm v.name]at hlk;cases hk:xk v.name l with
   |none=>
    have hok:GB l v=false:=by unfold GB;rw[hk]
    rw[hk]at hlk;simp only[acr,Option.getD_none,aca]at hlk;simp only[fP];simp(disch:=omega)only[aA,↓aa,seval,-List.reduceReplicate,reduceCtorEq,ae,hlt,hx,aO,Db,LL,LO,af1,af2,ldM,hlk,hok,W9,Kd,X2,ab4,if_true]
   |some j=>
    rw[hk]at hlk;simp only[xu,VE,Option.isSome_some]at hlk;obtain⟨a,ha,hn⟩:=MQ _ l j hk;have hy:=fun σ=>aJ (k:=.i64) (es:=2) (σ:=σ) (ax (f:=ay) ha) (GO a)
    rcases dB (a.w=v.w)with h1|h1
    ·have hok:GB l v=true:=by unfold GB;rw[hk];simp only[ha,h1,decide_true]
     simp only[fP];simp(disch:=omega)only[aA,↓aa,seval,-List.reduceReplicate,reduceCtorEq,ae,hlt,hx,hy,aO,Db,LL,LO,af1,af2,QG,QH,ldM,hlk,hok,h1,W9,Kd,X2,ab1,kS,if_false]
    ·have hok:GB l v=false:=by unfold GB;rw[hk];simp only[ha,h1,decide_false]
     simp only[fP];simp(disch:=omega)only[aA,↓aa,seval,-List.reduceReplicate,reduceCtorEq,ae,hlt,hx,hy,aO,Db,LL,LO,af1,af2,QG,QH,ldM,hlk,hok,h1,W9,Kd,X2,ab4,if_true]) (fun i s=>rfl) () trivial
 rw[Om]at h;cases hb:V.any (fun v=>!GB l v)with
 |true=>rw[hb,if_pos rfl]at h;rw[if_pos rfl];exact h
 |false=>rw[hb,if_neg (by simp)]at h;rw[if_neg (by simp)];exact h.2
abbrev Xa(t:Term)(l:List V2)(i:Int):List (Nat×AV):=[(1,.p (.aM (l.map ay))),(2,.p (.ptr t.row 0)),(7,.ptr 1 1 0 0),(16,.p (.int .i64 0)),(77,.p (.aM (l.map ay))),(78,.p (.int .i64 l.length)),(79,.p (.int .i64 i))]
def KN(x:Int)(r:Ex×St):Prop:=r.1=.ret∧r.2.τ.get 4=.aC∧r.2.τ.get 5=.p (.int .i64 x)
theorem ajU(t:Term)(l:List V2)(m:Seen)(hl:l.length≤40):if l.any LS=true then ∃r,al P wm (Xa t l 0) (Kd m) 129 none=some r∧KN 3 r else al P wm (Xa t l 0) (Kd m) 129 none=back P [1,2,7,16,77,78,79] iG 2 (exec P iG ⟨tm (Xa t l l.length),Kd m,129,none⟩):=by
 have h:=cE (P:=P) (nt:=129) (lv:=[1,2,7,16,77,78,79]) (b:=iG) (rd:=none) (as:=l) (fun k (_:Unit)=>Xa t l k) (fun _=>Kd m) (fun _ _ v=>if LS v=true then .inr ()else .inl ()) (fun(_:Unit)=>KN 3) (fun _ _=>True)
  (fun i v s hv hi hs=>by
   refine⟨fun _ _=>trivial,?_⟩
   have hlt:((i:Int)<l.length)=True:=by simpa using hi
   have hx:=fun σ=>aJ (k:=.i64) (es:=2) (σ:=σ) (ax (f:=ay) hv) (GO v)
   unfold LS;rcases dB (v.w<1)with h1|h1
   ·simp only[iG,h1]
    simp(disch:=omega)only[aA,↓aa,seval,-List.reduceReplicate,reduceCtorEq,ae,hlt,hx,aO,Db,LL,LO,QG,QH,h1,TB,G1,if_true,if_false,kS,Xa,Kd,KN]
   ·rcases dB (64<v.w)with h2|h2
    ·have h3:(v.w > 64)=True:=h2
     simp only[iG,h1,h2];simp(disch:=omega)only[aA,↓aa,seval,-List.reduceReplicate,reduceCtorEq,ae,hlt,hx,aO,Db,LL,LO,QG,QH,h1,h2,h3,TB,G1,if_true,if_false,kS,Xa,Kd,KN]
    ·have h3:(v.w > 64)=False:=h2
     simp only[iG,h1,h2];simp(disch:=omega)only[aA,↓aa,seval,-List.reduceReplicate,reduceCtorEq,ae,hlt,hx,aO,Db,LL,LO,QG,QH,h1,h2,h3,TB,G1,if_true,if_false,kS,Xa,Kd,KN]) (fun i s=>rfl) () trivial
 rw[Om]at h;cases hb:l.any LS with
 |true=>rw[hb,if_pos rfl]at h;rw[if_pos rfl];exact h
 |false=>rw[hb,if_neg (by simp)]at h;rw[if_neg (by simp)];exact h.2
abbrev sT9(m:Seen)(n:Nat)(low:List Int):ag:=[.map (m.map Ft) false,.av 1 [[.map 0]] false,.pv 1 (low.map dE) false,.av 1 [[.sl 2 n]] false]
abbrev ac1(t:Term)(l:List V2)(tot i:Int):List (Nat×AV):=[(2,.p (.ptr t.row 0)),(7,.ptr 1 1 0 0),(16,.p (.int .i64 tot)),(19,.ptr 3 1 0 0),(95,.p (.aM (l.map ay))),(96,.p (.int .i64 l.length)),(97,.p (.int .i64 i))]
theorem apk{o o1 o2 o3:Obj}{v:V2}:eM [o,o1,o2,o3,.pv 2 [[.str (bs []),.int .i64 0]] false] 2 (.ptr 4 1 0 0) (.p (.agg (ay v)))=some [o,o1,o2,o3,.pv 2 [ay v] false]:=rfl
theorem aj1{o o1 o2 o4:Obj}{n:Nat}:gU [o,o1,o2,.av 1 [[.sl 2 n]] false,o4] 1 false (.ptr 3 1 0 0)=some (.sl 2 n):=rfl
theorem ajW(t:Term)(l:List V2)(m:Seen)(hw:∀v∈l,tq v)(hl:l.length≤40):if 16<nB 0 l then ∃r,al P wo (ac1 t l 0 0) (sT9 m l.length (List.replicate l.length 0)) 129 none=some r∧KN 7 r else al P wo (ac1 t l 0 0) (sT9 m l.length (List.replicate l.length 0)) 129 none=back P [2,7,16,19,95,96,97] l9 4 (exec P l9 ⟨tm (ac1 t l (nB 0 l) l.length),sT9 m l.length ((qx 0 l).map fun(x:Nat)=>(x:Int)),129,none⟩):=by
 have h:=cE (P:=P) (nt:=129) (lv:=[2,7,16,19,95,96,97]) (b:=l9) (rd:=none) (as:=l) (fun i (s:Int×List Int)=>ac1 t l s.1 i) (fun s=>sT9 m l.length s.2) QA (fun(_:Unit)=>KN 7) (fun _ s=>0≤s.1∧s.1≤16∧s.2.length=l.length)
  (fun i v s hv hi hs=>by
   obtain⟨tot,low⟩:=s;obtain⟨h0,h1,h2⟩:=hs
   simp only at h0 h1 h2
   have hlt:((i:Int)<l.length)=True:=by simpa using hi
   have hx:=fun σ=>aJ (k:=.i64) (es:=2) (σ:=σ) (ax (f:=ay) hv) (GO v)
   have hok:=hw v (mi hv);unfold tq at hok;have hwr:IntKind.i64.wrap (tot+v.w)=tot+v.w:=IntWalk.i64_in _ (by omega)
   have hia:jS [.map (m.map Ft) false,.av 1 [[.map 0]] false,.pv 1 (low.map dE) false,.av 1 [[.sl 2 l.length]] false,.pv 2 [ay v] false] 1 (.sl 2 l.length) (.p (.int .i64 i))=some (.ptr 2 l.length i 0):=afj rfl (by simp[h2]) hi
   have hst:=alx (σ:=[.map (m.map Ft) false,.av 1 [[.map 0]] false,.pv 1 (low.map dE) false,.av 1 [[.sl 2 l.length]] false,.pv 2 [ay v] false]) (b:=2) (m:=l.length) (e:=1) (j:=i) (rows:=low.map dE) (v:=.int .i64 tot) (by simp[h2]) (by simp[dE]) hi
   have hset:(low.map dE).set i [.int .i64 tot]=(low.set i tot).map dE:=by
    rw[List.map_set];rfl
   rw[hset]at hst;rcases dB (16<tot+v.w)with c|c
   ·have c2:(tot+v.w > 16)=True:=c
    refine⟨fun s' he=>?_,?_⟩
    ·simp only[QA,c,if_true]at he;cases he
    ·simp only[l9,QA,c,if_true]
     simp(disch:=omega)only[aA,↓aa,seval,-List.reduceReplicate,reduceCtorEq,ae,hlt,hx,aO,Db,amh,apk,aj1,hia,hst,XP,hwr,c2,ac1,sT9,KN]
   ·have c2:(tot+v.w > 16)=False:=c
    refine⟨fun s' he=>?_,?_⟩
    ·simp only[QA,c,if_false,ZI]at he
     subst he;have:=of_eq_false c;exact⟨by simp only;omega,by simp only;omega,by simp[h2]⟩
    ·simp only[l9,QA,c,if_false]
     simp(disch:=omega)only[aA,↓aa,seval,-List.reduceReplicate,reduceCtorEq,ae,hlt,hx,aO,Db,amh,apk,aj1,hia,hst,XP,hwr,c2,mj,ac1,sT9]) (fun i s=>rfl) (0,List.replicate l.length 0) ⟨by simp,by simp,by simp⟩
 have hf:=Xw l [] 0 hw (by decide)
 rw[l5,x9,show((0:Nat):Int)=0 from rfl]at hf;split
 ·rename_i hb
  rw[if_pos hb]at hf;have hf':aq QA 0 (0,List.replicate l.length 0) l=.inr ():=hf;rw[hf']at h;exact h
 ·rename_i hb
  rw[if_neg hb]at hf;have hf':aq QA 0 (0,List.replicate l.length 0) l=.inl (nB 0 l,(qx 0 l).map fun(x:Nat)=>(x:Int)):=hf
  rw[hf']at h;exact h.2
def ac5(e:ByteArray×Int):PV×PV:=(.str e.1,.int .i64 e.2)
theorem ajf(k:ByteArray):∀s:Seen,findKey .str (.str k) (s.map ac5)=some ((SU s k).map fun w=>.int .i64 w)
 | []=>rfl
 |e::r=>by
  simp only[sP,findKey,ac5,DD,SU];by_cases h:k=e.1
  ·simp[h]
  ·simp only[h,decide_false,if_false]
   exact ajf k r
theorem alb(u:Term)(l:List V2)(m:Seen)(hm:ZB l m)(hw:∀v∈l,tq v)(hb:nB 0 l≤16)(K:Nat)(hK:K<65536)(hu:(xk u.name l).isSome=true):R P fc [.agg u.row,.ptr [.int .i64 K] 0,.ptr [.aM (((qx 0 l).map fun(x:Nat)=>(x:Int)).map dE)] 0,.ptr [.pmap (m.map ac5)] 0]=some (.int .u64 (Xf l K u.name:Int)):=by
 cases hi:xk u.name l with
 |none=>rw[hi]at hu;cases hu
 |some i=>
  obtain⟨a,ha,_⟩:=MQ _ l i hi;have hl:=fun(σ:ag) (z:AV)=>aqh (σ:=σ) (z:=z) (kl:=.str) (k:=.str u.name) rfl (ajf u.name m)
  rw[hm u.name,hi]at hl;simp only[xu,VE]at hl;have hil:i<(qx 0 l).length:=by rw[Fg];exact(fU.1 ha).1
  have hs:((qx 0 l).map fun(x:Nat)=>(x:Int))[i]?=some (((qx 0 l)[i]:Nat):Int):=by simp[hil]
  have hle:∀(r:List V2) (c:Nat),(∀v∈r,tq v)→nB c r≤16→∀x∈qx c r,x≤16:=by
   intro r
   induction r with
   |nil=>intro c _ _ x hx;simp[qx]at hx
   |cons v r ih=>
    intro c h h16 x hx;have hv:=h v (by simp)
    unfold tq at hv;have hc:(c:Int)≤16:=Int.not_lt.1 fun hlt=>by rw[Sg _ hlt]at h16;omega
    have hb:nB (c:Int) (v::r)=nB ((c:Int)+v.w) r:=by rw[nB,if_pos hc]
    have hcw:((c+v.w.toNat:Nat):Int)=(c:Int)+v.w:=by omega
    rcases pn.1 hx with rfl|hx
    ·omega
    ·exact ih (c+v.w.toNat) (fun a ha=>h a (by simp[ha])) (by rw[hcw,←hb];exact h16) x hx
  have hx16:=hle l 0 hw hb _ (Zx hil);have hix:=fun σ=>aJ (k:=.i64) (es:=1) (σ:=σ) (ax (f:=dE) hs) (by simp[dE])
  have hcv:IntKind.u64.wrap (K:Int)=K:=IntWalk.u64_in _ (by omega)
  have hsh:=afy (k:=.i64) (a:=K) (n:=(qx 0 l)[i]) (by omega)
  have hE:Xf l K u.name=K / 2^(qx 0 l)[i]:=by
   unfold Xf;rw[hi];simp only[aaU,oq hil,VE]
  rw[hE]
  (rw[PU (aD rfl),px];simp(disch:=omega)only[aA,↓aa,seval,-List.reduceReplicate,reduceCtorEq,ae,hl,hix,dE,hcv,hsh])
abbrev ahn(l:List V2):List Int:=(qx 0 l).map fun(x:Nat)=>(x:Int)
abbrev sTa(m:Seen)(l:List V2)(s:List Nat):ag:=[.map (m.map Ft) false,.av 1 [[.map 0]] false,.pv 1 ((ahn l).map dE) false,.av 1 [[.sl 2 l.length]] false,.pv 1 (s.map CM) false]
abbrev ai3(t:Term)(b:Nat)(s:List Nat)(i:Int):List (Nat×AV):=[(2,.p (.ptr t.row 0)),(7,.ptr 1 1 0 0),(19,.ptr 3 1 0 0),(22,.sl 4 s.length),(117,.p (.int .i64 ((2^b:Nat):Int))),(118,.p (.int .i64 i))]
theorem ag4{t:Term}{l:List V2}(h:rY t l=true){u:Term}(hu:u∈t.post)(h1:u.op=1):(xk u.name l).isSome=true:=by
 have:=TI h 0;unfold ZR at this;rw[Ca]at this;have:=this u hu;simp only[h1,not_true_eq_false,decide_false,G1]at this;rw[DS]at this;rw[OD];exact this
theorem arq{o0 o1 o2 o3 o4:Obj}{r:List PV}{fr:Bool}:nn [o0,o1,o2,o3,o4,.pv 1 [r] fr] 1 (.sl 5 1)=some (.inl [r]):=EN rfl rfl (.inl rfl)
theorem as4{vs:List AV}{a b c d e f:Obj}:gc 5 vs [a,b,c,d,e,f]=if Cm 5 vs [a,b,c,d,e,f]=true then[a,b,c,d,e]else[a,b,c,d,e,f]:=by unfold gc;rw[if_neg (by simp)];rfl
theorem ate{k:Int}:uW σ 1 true (some [.p (.int .i64 k)])=some (.p (.ptr [.int .i64 k] 0),σ):=rfl
theorem ajX(t:Term)(ht:ia t)(hc:t.count≤1000000)(hk:gZ t=0)(l:List V2)(m:Seen)(hm:ZB l m)(hb:rY t l=true)(hw:∀v∈l,tq v)(h16:nB 0 l≤16)(b:Nat)(hb8:b≤16) :
  al P wq (ai3 t b [] 0) (sTa m l []) 129 none=back P [2,7,19,22,117,118] oL 5 (exec P oL ⟨tm (ai3 t b (aeB t l b) ((2^b:Nat):Int)),sTa m l (aeB t l b),129,none⟩):=by
 have hp:(2:Nat)^b≤65536:=aa7 (show 0<2 by omega) hb8
 obtain⟨_,h⟩:=ic (P:=P) (nt:=129) (lv:=[2,7,19,22,117,118]) (b:=oL) (rd:=none) (as:=List.range (2^b)) (fun i (s:List Nat)=>ai3 t b s i) (sTa m l) (fun _ s k=>s++[t.zJ (Um (fW k l))]) (fun i s=>s.length=i)
  (fun i k s hki hi hs=>by
   rw[abU]at hi
   have hke:k=i:=by
    rw[abA hi]at hki;exact(abK hki).symm
   subst hke;have hlt:((k:Int)<((2^b:Nat):Int))=True:=by simp only[eq_iff_iff,iff_true];exact Int.ofNat_lt.2 hi
   have hval:=RN fc [.ptr [.int .i64 k] 0,.ptr [.aM ((ahn l).map dE)] 0,.ptr [.pmap (m.map ac5)] 0] (Xf l k) (apP l (by show k<_;omega)) t (fun u hu σ h1=>by
    have h9:=alb u l m hm hw h16 k (by omega) (ag4 hb hu h1)
    simp(disch:=omega)only[aA,↓aa,seval,-List.reduceReplicate,reduceCtorEq,ae,PB,h9]) (Sj hk) ht hc
   rw[afZ hk hb]at hval
   have hpm:∀q,aG (sTa m l s) (q+4) (.fn fc [.p (.ptr [.int .i64 k] 0),.ptr 3 1 0 0,.ptr 1 1 0 0])=some (.fn fc [.ptr [.int .i64 k] 0,.ptr [.aM ((ahn l).map dE)] 0,.ptr [.pmap (m.map ac5)] 0]):=by
    intro q
    have key:∀(f:PV×AV→Option (PV×PV)) (s:Seen),(∀b,f (Ft b)=some (ac5 b))→omap f (s.map Ft)=some (s.map ac5):=by
     intro f s hf
     induction s with
     |nil=>rfl
     |cons b s ih=>simp only[sP,omap,hf];rw[ih]
    have hlen:((ahn l).map dE).length=l.length:=by simp[ahn,Fg]
    simp only[aG,omap,sTa,QS,aa9,lH,l5,tn,if_true,zy,hlen,xu];rw[key _ _ (fun b=>rfl)]
    rfl
   have hwr:IntKind.i64.wrap ((k:Int)+1)=((k+1:Nat):Int):=IntWalk.i64_in _ (by omega)
   have hap:=dA (σ:=sTa m l s++[.pv 1 [[.int .u64 (t.zJ (Um (fW k l)):Int)]] false]) (b:=4) (n:=s.length) (e:=1) (es:=1) (bytes:=8) (rows:=s.map CM) (new:=[[.int .u64 (t.zJ (Um (fW k l)):Int)]]) rfl (by simp) (.inl rfl) (by simp only[lH,l5];omega)
   simp only[sTa,FD,x9]at hap hpm;refine⟨by simp[hs],?_⟩
   simp only[oL];simp(disch:=omega)only[aA,↓aa,seval,-List.reduceReplicate,reduceCtorEq,ae,hlt,ate,Fw,hpm,IF,hval,asJ,arq,hap,hwr,as4,mj,BY,jE,CM,ai3,sTa]) (fun i s=>rfl) [] rfl _ (yt (fun k=>t.zJ (Um (fW k l))) (List.range (2^b)) 0 [])
 rw[x9,abU]at h;exact h
theorem akf{n:Nat}(h:n≤40):Bw σ 1 8 [.p (.int .i64 0)] (.p (.int .i64 n)) (.p (.int .i64 n))=some (.sl σ.length n,σ++[.pv 1 ((List.replicate n (0:Int)).map dE) false]):=by
 have:=ao6 (σ:=σ) (k:=.i64) (es:=1) (bytes:=8) (n:=n) (zero:=[.p (.int .i64 0)]) (z:=[.int .i64 0]) rfl (by omega)
 rw[this,List.map_replicate];rfl
theorem aqm{n:Nat}(h:n≤65536):Bw σ 1 8 [.p (.int .u64 0)] (.p (.int .i64 0)) (.p (.int .i64 n))=some (.sl σ.length 0,σ++[.pv 1 [] false]):=by
 have hb:n*8≤140737488355328:=by omega
 simp[Bw,nc,ae,hb]
theorem ajz{n:Nat}:uW σ 1 true (some [.sl 2 n])=some (.ptr σ.length 1 0 0,σ++[.av 1 [[.sl 2 n]] false]):=rfl
theorem aiP{n:Nat}:cellsOf 1 false (.sl 2 n)=some [.sl 2 n]:=rfl
theorem apg{b:Nat}(h:b≤16):cA .shl (.p (.int .i64 1)) (.p (.int .i64 (b:Int)))=some (.p (.int .i64 ((2^b:Nat):Int))):=by
 have:b=0∨b=1∨b=2∨b=3∨b=4∨b=5∨b=6∨b=7∨b=8∨b=9∨b=10∨b=11∨b=12∨b=13∨b=14∨b=15∨b=16:=by omega
 rcases this with rfl|rfl|rfl|rfl|rfl|rfl|rfl|rfl|rfl|rfl|rfl|rfl|rfl|rfl|rfl|rfl|rfl<;>rfl
def aeC(t:Term)(l:List V2)(b:Nat):List PV:=if Fz t l=0 then[.aM ((aeB t l b).map CM),.int .i64 0]else[.aM [],.int .i64 (Fz t l)]
theorem akQ(k:Nat){o0 o1 o2 o3:Obj}(rows:List (List PV))(e:Nat)(fr:Bool):aG [o0,o1,o2,o3,.pv e rows fr] (k+1) (.sl 4 rows.length)=some (.aM rows):=by simp[aG]
theorem anf(t:Term)(ht:ia t)(hc:t.count≤1000000)(l:List V2)(hl:l.length≤40)(b:Nat)(hb:Fz t l=0→xe l=b∧b≤16):R P lL [.agg t.row,.aM (l.map ay)]=some (.jC (aeC t l b)):=by
 have hk:=I6 t ht hc;unfold aeC;rcases dB (gZ t=0)with c0|c0
 rotate_left
 ·have hE:Fz t l=gZ t:=by unfold Fz;rw[if_pos (of_eq_false c0)]
  rw[hE,if_neg (of_eq_false c0)]
  (rw[qR (aD rfl),iH];simp(disch:=omega)only[aA,↓aa,seval,-List.reduceReplicate,reduceCtorEq,ae,lY,hk,c0])
 have hk0:gZ t=0:=of_eq_true c0;rw[hk0]at hk;have hv:=LI t hc;have hV:=QF t;have h0:=ajM t l hl;have hE1:Fz t l=if rY t l=false then 12 else if l.any LS=true then 3 else if 16<xe l then 7 else 0:=by unfold Fz;rw[if_neg (by simpa using hk0)]
 have h0e:∀x:Ex×St,al P mg (N9 t l 0) (Kd []) 129 none=some x→al P mg [(1,.p (.aM (l.map ay))),(2,.p (.ptr t.row 0)),(7,.ptr 1 1 0 0),(30,.p (.aM (l.map ay))),(31,.p (.int .i64 l.length)),(32,.p (.int .i64 0))] [.map [] false,.av 1 [[.map 0]] false] 129 none=some x:=fun _ h=>h
 cases hd:AR C9 [] l with
 |true=>
  have hbd:rY t l=false:=by unfold rY;rw[hd];rfl
  have e:Fz t l=12:=by rw[hE1,if_pos hbd]
  rw[e,if_neg (by decide)]
  rw[hd,if_pos rfl]at h0;obtain⟨⟨e',τ',σ',nt',rd'⟩,g1,g2,g3,g4⟩:=h0
  simp only at g2 g3 g4
  subst g2;have g1':=h0e _ g1
  (rw[qR (aD rfl),iH];simp(disch:=omega)only[aA,↓aa,seval,-List.reduceReplicate,reduceCtorEq,ae,lY,hk,rv,g1',g3,g4,aO])
 |false=>
  rw[hd,if_neg (by simp)]at h0
  obtain⟨m,hm,h0⟩:=h0;have h0':al P mg [(1,.p (.aM (l.map ay))),(2,.p (.ptr t.row 0)),(7,.ptr 1 1 0 0),(30,.p (.aM (l.map ay))),(31,.p (.int .i64 l.length)),(32,.p (.int .i64 0))] [.map [] false,.av 1 [[.map 0]] false] 129 none=_:=h0;have h1:=ajQ t l (nr t) m hm (by omega) hl
  have hok:(nr t).any (fun v=>!GB l v) = !rY t l:=by
   unfold rY;rw[hd];simp only[ab4,VG,Bool.not_not]
   congr 1
   funext v
   rw[adw l hd v]
  rw[hok]at h1;have h2:=ajU t l m hl;simp only[W9,Kd]at h1;simp only[Xa,Kd]at h2;cases hbd:rY t l with
  |false=>
   have e:Fz t l=12:=by rw[hE1,if_pos hbd]
   rw[e,if_neg (by decide)]
   rw[hbd,ab4,if_pos rfl]at h1;generalize nr t=V at *;obtain⟨⟨e',τ',σ',nt',rd'⟩,g1,g2,g3,g4⟩:=h1
   simp only at g2 g3 g4
   subst g2
   (rw[qR (aD rfl),iH];simp(disch:=omega)only[aA,↓aa,seval,-List.reduceReplicate,reduceCtorEq,ae,lY,hk,rv,h0',fO,kY,aO,xp,hv,wA,g1,g3,g4,N9,Kd])
  |true=>
   have hE2:Fz t l=if l.any LS=true then 3 else if 16<xe l then 7 else 0:=by rw[hE1,if_neg (by rw[hbd];decide)]
   rw[hbd,ab1,if_neg (by simp)]at h1
   have hvt:=afZ hk0 hbd;cases hbw:l.any LS with
   |true=>
    have e:Fz t l=3:=by rw[hE2,if_pos hbw]
    rw[e,if_neg (by decide)]
    rw[hbw,if_pos rfl]at h2;generalize nr t=V at *;obtain⟨⟨e',τ',σ',nt',rd'⟩,g1,g2,g3,g4⟩:=h2
    simp only at g2 g3 g4
    subst g2
    (rw[qR (aD rfl),iH];simp(disch:=omega)only[aA,↓aa,seval,-List.reduceReplicate,reduceCtorEq,ae,lY,hk,rv,h0',fO,kY,aO,xp,hv,wA,h1,fP,AW,g1,g3,g4,N9,Kd])
   |false=>
    have hE3:Fz t l=if 16<xe l then 7 else 0:=by rw[hE2,if_neg (by rw[hbw];decide)]
    rw[hbw,if_neg (by simp)]at h2
    have hw:=amn hbw;have h3:=ajW t l m hw hl;simp only[ac1,sT9]at h3;rcases dB (16<nB 0 l)with c3|c3
    ·have c4:16<xe l:=by have:=of_eq_true c3;unfold xe;omega
     have e:Fz t l=7:=by rw[hE3,if_pos c4]
     rw[e,if_neg (by decide)]
     rw[if_pos (of_eq_true c3)]at h3;generalize nr t=V at *;obtain⟨⟨e',τ',σ',nt',rd'⟩,g1,g2,g3,g4⟩:=h3
     simp only at g2 g3 g4
     subst g2
     (rw[qR (aD rfl),iH];simp(disch:=omega)only[aA,↓aa,seval,-List.reduceReplicate,reduceCtorEq,ae,lY,hk,rv,h0',fO,kY,aO,xp,hv,wA,h1,fP,AW,h2,iG,akf hl,aiP,ajz,FT,g1,g3,g4,N9,Kd])
    ·have c4:¬16<xe l:=by have:=of_eq_false c3;unfold xe;omega
     have hE0:Fz t l=0:=by rw[hE3,if_neg c4]
     rw[hE0,if_pos rfl];rw[if_neg (of_eq_false c3)]at h3;obtain⟨hbb,hb8⟩:=hb hE0;have hbn:nB 0 l=(b:Int):=by have:=of_eq_false c3;unfold xe at hbb;omega
     have h4:=ajX t ht hc hk0 l m hm hbd hw (by omega) b hb8
     have hp:(2:Nat)^b≤65536:=aa7 (show 0<2 by omega) hb8
     have h4':al P wq [(2,.p (.ptr t.row 0)),(7,.ptr 1 1 0 0),(19,.ptr 3 1 0 0),(22,.sl 4 0),(117,.p (.int .i64 ((2^b:Nat):Int))),(118,.p (.int .i64 0))] [.map (m.map Ft) false,.av 1 [[.map 0]] false,.pv 1 ((ahn l).map dE) false,.av 1 [[.sl 2 l.length]] false,.pv 1 [] false] 129 none=_:=h4;rw[hbn]at h3;have hP:=fun k o0 o1 o2 o3=>akQ k (o0:=o0) (o1:=o1) (o2:=o2) (o3:=o3) ((aeB t l b).map CM) 1 false
     rw[aO]at hP;generalize nr t=V at *;generalize aeB t l b=vs at *;have hmo:=fun σ=>aqm (σ:=σ) hp
     (rw[qR (aD rfl),iH];simp(disch:=omega)only[aA,↓aa,seval,-List.reduceReplicate,reduceCtorEq,ae,lY,hk,rv,h0',fO,kY,aO,xp,hv,wA,h1,fP,AW,h2,iG,akf hl,aiP,ajz,FT,h3,l9,apg hb8,hmo,Rq,h4',oL,hP,N9,Kd,ai3,sTa])
end Go.AE.S
