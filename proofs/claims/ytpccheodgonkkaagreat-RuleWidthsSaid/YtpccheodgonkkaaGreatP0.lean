import Derived.Test.YtpccheodgonkkaaGreatA0
import Derived.IntWalk
import Derived.Laws.Strings
set_option linter.unusedSimpArgs false
set_option linter.unusedVariables false
namespace Go.AE
variable {P:Prog} {τ:Tm} {σ σ':ag} {nt d n:Nat} {rd:Option Nat} {st:St}
abbrev az(d:Nat)(x:O):fQ:=⟨some d,.mv x false,none⟩
abbrev ak(d:Nat)(op:mI):fQ:=⟨some d,op,none⟩
abbrev kI(n:Int):O:=.c (.p (.int .i64 n))
theorem aoj{k t:Nat}{v:AV}{r:List (Nat×AV)}:(tm ((k,v)::r)).get t=if k=t then v else(tm r).get t:=rfl
theorem tmE:(∀(τ:Tm) (d t:Nat) (v:AV),(dX τ d v).get t=if d=t then v else τ.get t)∧(∀(k t:Nat) (v:AV) (r:List (Nat×AV)),(tm ((k,v)::r)).get t=if k=t then v else(tm r).get t) ∧
  (∀(τ:Tm) (n:Nat),O.val τ (.t n)=τ.get n)∧(∀(τ:Tm) (v:AV),O.val τ (.c v)=v):=⟨fun _ _ _ _=>rfl,fun _ _ _ _=>rfl,fun _ _=>rfl,fun _ _=>rfl⟩
def auo:Option St→Option (Ex×St)
 |some st=>some (.normal,st)
 |none=>none
def ae5(P:Prog)(v:AV)(a b:K)(st:St):Option (Ex×St) :=
 match v with
 |.p (.bool true)=>exec P a st
 |.p (.bool false)=>exec P b st
 |_=>none
def FV(P:Prog)(d:Option Nat)(r:List fQ)(τ:Tm)(nt:Nat)(rd:Option Nat):Option (AV×ag)→Option St
 |some (v,σ')=>(St.put ⟨τ,σ',nt,rd⟩ d v).bind (fL P r)
 |none=>none
def Cp(P:Prog)(d:Option Nat)(op:mI)(r:List fQ)(want:Bool)(τ:Tm)(σ:ag)(nt:Nat)(rd:Option Nat):AV→Option St
 |.p (.bool b)=>if b=want then FV P d r τ nt rd (cP P σ τ op)else(St.put ⟨τ,σ,nt,rd⟩ d (.p (.jC []))).bind (fL P r)
 |.p (.jC [])=>(St.put ⟨τ,σ,nt,rd⟩ d (.p (.jC []))).bind (fL P r)
 |_=>none
theorem aqC{op:mI}{d:Option Nat}{r:List fQ}:fL P (⟨d,op,none⟩::r) ⟨τ,σ,nt,rd⟩=FV P d r τ nt rd (cP P σ τ op):=by
 rw[Hp];simp only[ig,zy,if_true];cases cP P σ τ op<;>rfl
theorem aqD{op:mI}{d:Option Nat}{r:List fQ}{t:Nat}{b:Bool}:fL P (⟨d,op,some (t,b)⟩::r) ⟨τ,σ,nt,rd⟩=Cp P d op r b τ σ nt rd (τ.get t):=by
 rw[Hp];simp only[ig];split
 ·rename_i c h
  simp only[zy,h,Cp];cases c<;>cases b<;>simp<;>cases cP P σ τ op<;>rfl
 ·rename_i h
  simp[h,Cp]
 ·rename_i h1 h2
  simp only[Option.bind_none];unfold Cp;split
  ·rename_i h;exact absurd h (h1 _)
  ·rename_i h;exact absurd h h2
  ·rfl
theorem amG{c:O}{a b:K}:exec P (.cond c a b) st=ae5 P (c.val st.τ) a b st:=by
 rw[agR];unfold vn ae5;split
 ·rename_i b h
  cases b<;>simp[h]
 ·rename_i h
  split
  ·rename_i h';exact absurd h' (h _)
  ·rename_i h';exact absurd h' (h _)
  ·rfl
theorem aq8{d:Bool}{ops:List fQ}:exec P (.cu d ops) st=auo (fL P ops st):=by
 rw[ajc];cases fL P ops st<;>rfl
def ak0(ops:List fQ)(prs:List (Nat×Nat))(st0:St):Option St→Option (Ex×St)
 |some st=>if Az ops prs st.τ=true then some (.normal,st)else if CK ops prs st0 st=true then some (.normal,st)else none
 |none=>none
theorem Ay{ops:List fQ}{prs:List (Nat×Nat)}:exec P (.Fy ops prs) st=ak0 ops prs st (fL P ops st):=by
 rw[agT];cases fL P ops st with
 |none=>rfl
 |some s=>simp only[ak0,zy,QN];split<;>rename_i h;rcases h with h|h<;>simp[h];rw[not_or]at h;rw[if_neg h.1,if_neg h.2]
theorem ti{ops:List fQ}{prs:List (Nat×Nat)}{st0:St}:ak0 ops prs st0 (some st)=if Az ops prs st.τ=true then some (.normal,st)else if CK ops prs st0 st=true then some (.normal,st)else none:=rfl
theorem ann{r:List fQ}{v:AV}(h:d<nt):FV P (some d) r τ nt rd (some (v,σ'))=fL P r ⟨dX τ d v,σ',nt,rd⟩:=by simp[FV,St.put,h]
theorem aht{r:List fQ}{v:AV}:FV P none r τ nt rd (some (v,σ'))=fL P r ⟨τ,σ',nt,rd⟩:=rfl
theorem ajw{d:Option Nat}{op:mI}{r:List fQ}:Cp P d op r true τ σ nt rd (.p (.bool true))=FV P d r τ nt rd (cP P σ τ op):=rfl
theorem ajt{d:Option Nat}{op:mI}{r:List fQ}:Cp P d op r false τ σ nt rd (.p (.bool false))=FV P d r τ nt rd (cP P σ τ op):=rfl
theorem ajv{d:Option Nat}{op:mI}{r:List fQ}:Cp P d op r true τ σ nt rd (.p (.bool false))=FV P d r τ nt rd (some (.p (.jC []),σ)):=rfl
theorem aju{d:Option Nat}{op:mI}{r:List fQ}:Cp P d op r false τ σ nt rd (.p (.bool true))=FV P d r τ nt rd (some (.p (.jC []),σ)):=rfl
theorem amU{d:Option Nat}{op:mI}{r:List fQ}{b:Bool}:Cp P d op r b τ σ nt rd (.p (.jC []))=FV P d r τ nt rd (some (.p (.jC []),σ)):=rfl
theorem apJ{a b:K}:ae5 P (.p (.bool true)) a b st=exec P a st:=rfl
theorem apI{a b:K}:ae5 P (.p (.bool false)) a b st=exec P b st:=rfl
theorem ak1:auo (some st)=some (.normal,st):=rfl
theorem at6{x:O}:cP P σ τ (.mv x false)=some (x.val τ,σ):=by
 simp only[cP,plain];split
 ·rename_i h;simp[h]
 ·rfl
def mvE(σ:ag):AV→Option (AV×ag)
 |.aC=>some (.sl σ.length 0,σ++[.pv 0 [] false])
 |v=>some (v,σ)
theorem aqz{x:O}:cP P σ τ (.mv x true)=mvE σ (x.val τ):=by
 simp only[cP,plain,mvE];split
 ·rename_i h;simp[h]
 ·rename_i h;split
  ·rename_i h';exact absurd h' h
  ·rfl
def gD(σ:ag):Option AV→Option (AV×ag)
 |some v=>some (v,σ)
 |none=>none
theorem dL{op:mI}(h:plain σ τ op=(quiet σ τ op).map fun v=>(v,σ))(h':cP P σ τ op=plain σ τ op):cP P σ τ op=gD σ (quiet σ τ op):=by
 rw[h',h];cases quiet σ τ op<;>rfl
def akK:AV→AV→AV→Option AV
 |.p (.bool true),a,_=>some a
 |.p (.bool false),_,b=>some b
 |_,_,_=>none
theorem anC{c a b:O}:cP P σ τ (.pick c a b)=gD σ (akK (c.val τ) (a.val τ) (b.val τ)):=by
 rw[dL (op:=.pick c a b) rfl rfl];simp only[quiet,vn,akK];split
 ·rename_i b h
  cases b<;>simp[h]
 ·rename_i h
  split
  ·rename_i h';exact absurd h' (h _)
  ·rename_i h';exact absurd h' (h _)
  ·rfl
def cA(op:BinOp):AV→AV→Option AV
 |.p a,.p b=>(binop op a b).map .p
 |_,_=>none
theorem akv{op:BinOp}{x y:O}:cP P σ τ (.arith op x y)=gD σ (cA op (x.val τ) (y.val τ)):=by
 rw[dL (op:=.arith op x y) rfl rfl];simp only[quiet,cA];split<;>split<;>simp_all
theorem anz{size:Nat}{agg:Bool}{x:O}:cP P σ τ (.load size agg x)=gD σ (gU σ size agg (x.val τ)):=dL (op:=.load size agg x) rfl rfl
def k8(zero:List AV)(ps:List (Nat×Nat×AV)):Option AV:=(gz zero ps).map y9
theorem akx{zero:List AV}{ps:List (Nat×Nat×O)}:cP P σ τ (.build zero ps)=gD σ (k8 zero (ps.map fun x=>(x.1,x.2.1,x.2.2.val τ))):=dL (op:=.build zero ps) rfl rfl
def apR(neg:Bool)(a b:AV):Option AV:=(vn a).bind fun a=>(vn b).map fun b=>.p (.bool (if neg then !(a == b)else a == b))
theorem aqw{neg:Bool}{x y:O}:cP P σ τ (.eqB neg x y)=gD σ (apR neg (x.val τ) (y.val τ)):=dL (op:=.eqB neg x y) rfl rfl
def Xg(neg:Bool)(lv:List mX)(a b:AV):Option AV:=match a,b with
 |.p (.agg a),.p (.agg b)=>(dD lv a b).map fun t=>.p (.bool (if neg then !t else t))
 |_,_=>none
theorem aqv{neg:Bool}{lv:List mX}{x y:O}:cP P σ τ (.eqA neg lv x y)=gD σ (Xg neg lv (x.val τ) (y.val τ)):=by
 rw[dL (op:=.eqA neg lv x y) rfl rfl];simp only[quiet,Xg];split<;>split<;>simp_all
def at1(v:AV):Option AV:=(vn v).map fun t=>.p (.bool !t)
theorem aqB{x:O}:cP P σ τ (.not x)=gD σ (at1 (x.val τ)):=dL (op:=.not x) rfl rfl
def at0:AV→Option AV
 |.p (.int k n)=>some (.p (.int k (k.wrap (0-n))))
 |_=>none
theorem aqA{x:O}:cP P σ τ (.neg x)=gD σ (at0 (x.val τ)):=dL (op:=.neg x) rfl rfl
def acQ:AV→Option AV
 |.p (.int k n)=>(s9 .xor k (if k.signed then -1 else k.max) n).map .p
 |_=>none
theorem akB{x:O}:cP P σ τ (.Kt x)=gD σ (acQ (x.val τ)):=dL (op:=.Kt x) rfl rfl
def aoQ(k:IntKind):AV→Option AV
 |.p (.int _ n)=>some (.p (.int k (k.wrap n)))
 |_=>none
theorem anp{k:IntKind}{x:O}:cP P σ τ (.conv k x)=gD σ (aoQ k (x.val τ)):=dL (op:=.conv k x) rfl rfl
def aiY:AV→Option AV
 |.p (.str s)=>some (.p (.str s))
 |_=>none
theorem akC{x:O}:cP P σ τ (.NW x)=gD σ (aiY (x.val τ)):=dL (op:=.NW x) rfl rfl
def Og(off:Nat):AV→Option AV
 |.p (.ptr row o)=>some (.p (.ptr row (o+off)))
 |.ptr b n i o=>some (.ptr b n i (o+off))
 |_=>none
theorem anq{off:Nat}{x:O}:cP P σ τ (.bP off x)=gD σ (Og off (x.val τ)):=dL (op:=.bP off x) rfl rfl
def avy(off size:Nat)(agg:Bool):AV→Option AV
 |.p (.agg cs)=>((part off size cs).bind (oG agg)).map .p
 |.agg cs=>(part off size cs).bind (mJ agg)
 |_=>none
theorem aqx{off size:Nat}{agg:Bool}{x:O}:cP P σ τ (.fld off size agg x)=gD σ (avy off size agg (x.val τ)):=dL (op:=.fld off size agg x) rfl rfl
def ap4 (len es : Nat) (x i : AV) : Option AV := (nc i).bind fun n =>
    if n<len then match x with
      | .p (.ptr row o)=>some (.p (.ptr row (o+n*es)))
      | .ptr b m i o=>some (.ptr b m i (o+n*es))
      | _=>none
    else none
theorem akD{len es:Nat}{x i:O}:cP P σ τ (.OC len es x i)=gD σ (ap4 len es (x.val τ) (i.val τ)):=dL (op:=.OC len es x i) rfl rfl
def jS (σ : ag) (es : Nat) (x i : AV) : Option AV := (nc i).bind fun n =>
    match x with
    | .p (.aM rows)=>rows[n]?.bind fun r=>if r.length=es then some (.p (.ptr r 0)) else none
    | .sl b m=>if n<m∧RW σ b=some (es,m) then some (.ptr b m n 0) else none
    | _=>none
theorem akE{es:Nat}{x i:O}:cP P σ τ (.au es x i)=gD σ (jS σ es (x.val τ) (i.val τ)):=dL (op:=.au es x i) rfl rfl
def atc (len es : Nat) (agg : Bool) (x i : AV) : Option AV := (nc i).bind fun n =>
    if n<len then match x with
      | .p (.agg cs)=>((part (n*es) es cs).bind (oG agg)).map .p
      | .agg cs=>(part (n*es) es cs).bind (mJ agg)
      | _=>none
    else none
theorem anr{len es:Nat}{agg:Bool}{x i:O}:cP P σ τ (.ade len es agg x i)=gD σ (atc len es agg (x.val τ) (i.val τ)):=dL (op:=.ade len es agg x i) rfl rfl
def afk (x i : AV) : Option AV := (nc i).bind fun n =>
    match x with
    | .p (.str s)=>s[n]?.map fun b=>.p (.int .u8 b.toNat)
    | _=>none
theorem ans{x i:O}:cP P σ τ (.JP x i)=gD σ (afk (x.val τ) (i.val τ)):=dL (op:=.JP x i) rfl rfl
def ali (es : Nat) (x : AV) (lo hi mx : Option AV) : Option AV :=
    match x with
    | .p (.aM rows)=>
      if wide es rows then
        (bounds rows.length rows.length lo hi mx).bind fun b=>
          if mx.isNone then some (.p (.aM ((rows.take b.2.1).drop b.1))) else if b.2.2=0 then some .aC else none
      else none
    | .aC=>(bounds 0 0 lo hi mx).map fun _=>.aC
    | _=>none
theorem anE{es:Nat}{x:O}{lo hi mx:Option O}:cP P σ τ (.MH es x lo hi mx)=gD σ (ali es (x.val τ) (lo.map (O.val τ)) (hi.map (O.val τ)) (mx.map (O.val τ))):=by
 cases mx<;>exact dL (op:=.MH es x lo hi _) rfl rfl
def auv(x:AV)(lo hi:Option AV):Option AV:=match x with
 |.p (.str s)=>(bounds s.size s.size lo hi none).map fun b=>.p (.str (s.extract b.1 b.2.1))
 |_=>none
theorem anF{x:O}{lo hi:Option O}:cP P σ τ (.aet x lo hi)=gD σ (auv (x.val τ) (lo.map (O.val τ)) (hi.map (O.val τ))):=dL (op:=.aet x lo hi) rfl rfl
def XU(σ:ag)(kl:mX)(x:AV)(k:PV):Option (Option AV) :=
 match x with
 |.p .H8=>some none
 |.p (.pmap es)=>(findKey kl k es).map fun o=>Option.map AV.p o
 |.map b=>match σ[b]? with
  |some (.map es _)=>findKey kl k es
  |_=>none
 |_=>none
def uo(σ:ag)(kl:mX)(zero x k:AV)(ok:Bool):Option AV:=match k with
 |.p k=>if su kl k then(XU σ kl x k).bind fun o:Option AV=>some (if ok then za [o.getD zero,.p (.bool o.isSome)]else o.getD zero)else none
 |_=>none
theorem ahy{kl:mX}{zero:AV}{x k:O}{ok:Bool}:cP P σ τ (.lookup kl zero x k ok)=gD σ (uo σ kl zero (x.val τ) (k.val τ) ok):=dL (op:=.lookup kl zero x k ok) rfl rfl
def Of(x:AV)(k:Nat):Option AV:=match x with
 |.p (.jC vs)=>vs[k]?.map .p
 |.jC vs=>vs[k]?
 |_=>none
theorem adx{x:O}{k:Nat}:cP P σ τ (.extract x k)=gD σ (Of (x.val τ) k):=dL (op:=.extract x k) rfl rfl
def OO(σ:ag)(x:AV):Option AV:=(bJ σ x).map fun n=>.p (.int .i64 (Int.ofNat n))
theorem anw{x:O}:cP P σ τ (.bJ x)=gD σ (OO σ (x.val τ)):=dL (op:=.bJ x) rfl rfl
def ao4:AV→Option AV
 |.p (.str s)=>some (.p (.int .i64 (Int.ofNat s.size)))
 |_=>none
theorem anx{x:O}:cP P σ τ (.JY x)=gD σ (ao4 (x.val τ)):=dL (op:=.JY x) rfl rfl
def aj4(σ:ag)(x:AV):Option AV:=(AX σ x).map fun n=>.p (.int .i64 (Int.ofNat n))
theorem anv{x:O}:cP P σ τ (.AX x)=gD σ (aj4 σ (x.val τ)):=dL (op:=.AX x) rfl rfl
theorem anu{n:Nat}:cP P σ τ (.adl n)=some (.p (.int .i64 (Int.ofNat n)),σ):=rfl
def UN(mx:Bool):List AV→Option AV
 |.p x::r=>(E8 mx x r).map .p
 |_=>none
theorem ahz{mx:Bool}{args:List O}:cP P σ τ (.sv mx args)=gD σ (UN mx (args.map (O.val τ))):=dL (op:=.sv mx args) rfl rfl
theorem anA{f:FuncId}{caps:List O}:cP P σ τ (.zD f caps)=some (Fw f (caps.map (O.val τ)),σ):=rfl
def ano:AV→Option AV
 |.p .xF=>none
 |.p .zc=>none
 |.any=>none
 |v=>some v
theorem ahA{x:O}:cP P σ τ (.GA x)=gD σ (ano (x.val τ)):=dL (op:=.GA x) rfl rfl
def vl(es:Nat)(x:List AV×ag):Option (AV×ag):=some (.ptr x.2.length 1 0 0,x.2++[mkObj es x.1])
theorem aku{zero:List AV}{es:Nat}:cP P σ τ (.alloc zero es)=vl es (aW zero σ):=rfl
def uW(σ:ag)(size:Nat)(ro:Bool):Option (List AV)→Option (AV×ag)
 |some cs=>if ro then match ae cs with
    |some ps=>some (.p (.ptr ps 0),σ)
    |none=>some (.ptr σ.length 1 0 0,σ++[mkObj size cs])
   else vl size (aW cs σ)
 |none=>none
theorem ant{size:Nat}{agg ro:Bool}{x:O}:cP P σ τ (.init size agg x ro)=uW σ size ro (cellsOf size agg (x.val τ)):=by
 simp only[cP,plain];cases cellsOf size agg (x.val τ)<;>rfl
theorem aqu{size:Nat}{agg ro:Bool}{x:O}:cP P σ τ (.box size agg x ro)=uW σ size ro (cellsOf size agg (x.val τ)):=by
 simp only[cP,plain];cases cellsOf size agg (x.val τ)<;>rfl
def kU(σ:ag)(es len:Nat):Option (List AV)→Option (AV×ag)
 |some cs=>some (.sl σ.length len,σ++[DU es (chunk es len cs)])
 |none=>none
def Du(σ:ag)(es len:Nat):Option (List AV)→Option (AV×ag)
 |some cs=>match ae cs with
  |some ps=>some (.p (.aM (chunk es len ps)),σ)
  |none=>none
 |none=>none
theorem akw{es len:Nat}{zero:List AV}{ps:List (Nat×Nat×O)}:cP P σ τ (.iU es zero len ps)=Du σ es len (gz ((List.replicate len zero).flatten) (ps.map fun x=>(x.1*es,x.2.1,x.2.2.val τ))):=by
 simp only[cP,plain];cases gz ((List.replicate len zero).flatten) (ps.map fun x=>(x.1*es,x.2.1,x.2.2.val τ))with
 |none=>rfl
 |some cs=>simp only[zy,Du];cases ae cs<;>rfl
theorem ahx{es len:Nat}{zero:List AV}{ps:List (Nat×Nat×O)}:cP P σ τ (.dC es zero len ps)=kU σ es len (gz ((List.replicate len zero).flatten) (ps.map fun x=>(x.1*es,x.2.1,x.2.2.val τ))):=by
 simp only[cP,plain];cases gz ((List.replicate len zero).flatten) (ps.map fun x=>(x.1*es,x.2.1,x.2.2.val τ))<;>rfl
def asA:Option ag→Option (AV×ag)
 |some σ=>some (.any,σ)
 |none=>none
theorem akH{size:Nat}{a v:O}:cP P σ τ (.store size a v)=asA (eM σ size (a.val τ) (v.val τ)):=by
 simp only[cP,plain];cases eM σ size (a.val τ) (v.val τ)<;>rfl
def OX (σ : ag) (kl : mX) (x k v : AV) : Option (AV × ag) := match x, k with
    | .map b,.p k=>match σ[b]? with
      | some (.map es false)=>if su kl k then (uK kl k v es).map fun es'=>(.any,σ.set b (.map es' false)) else none
      | _=>none
    | _,_=>none
theorem anB{kl:mX}{x k v:O}:cP P σ τ (.UO kl x k v)=OX σ kl (x.val τ) (k.val τ) (v.val τ):=rfl
theorem akG:cP P σ τ .DV=some (.map σ.length,σ++[.map [] false]):=rfl
def zU(σ:ag)(es bytes:Nat)(x:AV):Option Src→Option (AV×ag)
 |some new=>Cd σ es bytes x new
 |none=>none
theorem ahw{es bytes:Nat}{x y:O}:cP P σ τ (.append es bytes x y)=zU σ es bytes (x.val τ) (nn σ es (y.val τ)):=by
 simp only[cP,plain];cases nn σ es (y.val τ)<;>rfl
theorem aky{f:FuncId}{args:List O}:cP P σ τ (.dV f args)=lJ P f (args.map (O.val τ)) σ:=rfl
def aiO(P:Prog)(args:List AV)(σ:ag):Option cL→Option (AV×ag)
 |some fn=>call P fn args σ
 |none=>none
theorem akz{f:FuncId}{args:List O}:cP P σ τ (.FF f args)=aiO P (args.map (O.val τ)) σ (P.fn f):=by
 simp only[cP,aiO];cases P.fn f<;>rfl
theorem acE{fn:cL}{args:List AV}:aiO P args σ (some fn)=call P fn args σ:=rfl
def Bw(σ:ag)(es bytes:Nat)(zero:List AV)(l c:AV):Option (AV×ag):=(nc l).bind fun l=>(nc c).bind fun c=>
   if l≤c∧c*bytes≤140737488355328 then
    match ae zero with
    |some z=>some (.sl σ.length l,σ++[.pv es (List.replicate l z) false])
    |none=>some (.sl σ.length l,σ++[.av es (List.replicate l zero) false])
   else none
theorem ady{es bytes:Nat}{zero:List AV}{l c:O}:cP P σ τ (.wB es bytes zero l c)=Bw σ es bytes zero (l.val τ) (c.val τ):=rfl
theorem ao6{k:IntKind}{es bytes n:Nat}{zero:List AV}{z:List PV}(h:ae zero=some z)(hb:n*bytes≤140737488355328):Bw σ es bytes zero (.p (.int k n)) (.p (.int k n))=some (.sl σ.length n,σ++[.pv es (List.replicate n z) false]):=by
 simp[Bw,nc,h,hb]
def ajp(σ:ag)(x:AV):Option (AV×ag):=(aG σ depth x).map fun r=>(.p r,ed σ [x] r)
theorem aqy{x:O}:cP P σ τ (.frz x)=ajp σ (x.val τ):=rfl
theorem asV{v:PV}:ajp σ (.p v)=some (.p v,σ):=by
 have h:ed σ [.p v] v=σ:=by
  unfold ed;split
  ·rfl
  ·simp[refs,depth,bL]
 simp[ajp,aG,depth,h]
theorem ajq:ajp σ .aC=some (.p (.aM []),σ):=by
 simp[ajp,aG,depth,ed,PV.flat]
def aqa (neg : Bool) (x : AV) : Option AV := match x with
    | .p .zc=>some (.p (.bool !neg))
    | .p (.fn ..) | .fn ..=>some (.p (.bool neg))
    | _=>none
theorem akF{neg:Bool}{x:O}:cP P σ τ (.KD neg x)=gD σ (aqa neg (x.val τ)):=dL (op:=.KD neg x) rfl rfl
def aph (σ : ag) (len es : Nat) (x : AV) (lo hi mx : Option AV) : Option (AV × ag) := match x with
    | .ptr b 1 0 0=>match bounds len len lo hi mx,σ[b]? with
      | some (0,h,m),some (.pv e [row] false)=>if m=len∧e=len*es∧row.length=len*es then some (.sl σ.length h,(σ.set b .gone)++[.pv es (chunk es h (row.take (h*es))) false]) else none
      | _,_=>none
    | _=>none
theorem anD{len es:Nat}{x:O}{lo hi mx:Option O}:cP P σ τ (.ahX len es x lo hi mx)=aph σ len es (x.val τ) (lo.map (O.val τ)) (hi.map (O.val τ)) (mx.map (O.val τ)):=rfl
theorem akA{x:O}{args:List O}:cP P σ τ (.qT x args)=sQ P (x.val τ) (args.map (O.val τ)) σ:=rfl
theorem dA{b e es bytes:Nat}{rows new:List (List PV)}(h:σ[b]?=some (.pv e rows false))(hn:rows.length=n)(he:e=es∨(e=0∧rows=[]))(hb:(n+new.length)*bytes≤140737488355328) :
  zU σ es bytes (.sl b n) (some (.inl new))=some (.sl b (n+new.length),σ.set b (.pv es (rows++new) false)):=by
 have he':e=es∨(e=0∧rows.isEmpty=true):=by
  rcases he with h0|⟨h0,h1⟩
  ·exact .inl h0
  ·exact .inr ⟨h0,by rw[h1];rfl⟩
 simp only[zU,Cd,h,Obj.len,hn,Src.count,hb,and_self,if_true,MR,if_pos he',xu]
theorem Qt{es:Nat}{rows:List (List PV)}(h:wide es rows=true):nn σ es (.p (.aM rows))=some (.inl rows):=by simp[nn,h]
theorem aln{es:Nat}:nn σ es .aC=some (.inl []):=rfl
theorem EN{b m es e:Nat}{rows:List (List PV)}{fr:Bool}(h:σ[b]?=some (.pv e rows fr))(hn:rows.length=m)(he:e=es∨rows=[]):nn σ es (.sl b m)=some (.inl rows):=by
 have he':e=es∨rows.isEmpty=true:=by
  rcases he with h0|h0
  ·exact .inl h0
  ·exact .inr (by rw[h0];rfl)
 simp only[nn,h,hn,he',and_self,if_true]
theorem an9{es:Nat}{o:Obj}{r:List PV}{fr:Bool}:nn [o,.pv es [r] fr] es (.sl 1 1)=some (.inl [r]):=EN rfl rfl (.inl rfl)
theorem aoa{es:Nat}{o o':Obj}{r:List PV}{fr:Bool}:nn [o,o',.pv es [r] fr] es (.sl 2 1)=some (.inl [r]):=EN rfl rfl (.inl rfl)
def afI(σ:ag)(args:List AV):Option PV→Option (AV×ag)
 |some r=>some (.p r,ed σ args r)
 |none=>none
def R(P:Prog)(f:FuncId)(ps:List PV):Option PV :=
 (P.fn f).bind fun fn=>(call P fn (ps.map .p) []).bind fun x=>aG x.2 depth x.1
def X7(P:Prog)(f:FuncId)(args:List AV)(σ:ag):Option (List PV)→Option (AV×ag)
 |some ps=>afI σ args (R P f ps)
 |none=>none
theorem ah{f:FuncId}{fn:cL}{args:List AV}(h:P.fn f=some fn)(hp:P.US f=none)(hi:fn.imp=false):lJ P f args σ=X7 P f args σ (omap (aG σ depth) args):=by
 rw[lJ.eq_def];simp only[hp,h,Na,zy,hi,kS,if_false];cases h1:omap (aG σ depth) args with
 |none=>rfl
 |some ps=>
  simp only[zy,X7,R,h,afI];cases h2:call P fn (ps.map .p) []with
  |none=>rfl
  |some x=>
   simp only[zy];cases aG x.2 depth x.1<;>rfl
theorem yr{f:FuncId}{fn:cL}{args:List AV}(h:P.fn f=some fn)(hp:P.US f=none)(hi:fn.imp=true):lJ P f args σ=call P fn args σ:=by
 rw[lJ.eq_def];simp only[hp,h,Na,zy,hi,if_true]
theorem yW{f:FuncId}{args:List AV}{g:List AV→ag→Option (AV×ag)}(hp:P.US f=some g):lJ P f args σ=g args σ:=by
 rw[lJ.eq_def];simp only[hp]
theorem akR{k:Nat}{v:PV}:aG σ (k+1) (.p v)=some v:=rfl
theorem aq7{k:Nat}{v:PV}:refs σ k (.p v)=[]:=by cases k<;>rfl
def adE(σ:ag):Option AV→Option PV
 |some v=>aG σ depth v
 |none=>none
def ahO(rs:List RV):Option (Ex×St)→Option PV
 |some (.normal,st)|some (.ret,st)=>adE st.σ (fk rs st.σ st.τ)
 |_=>none
theorem ak4{rs:List RV}:ahO rs (some (.ret,st))=adE st.σ (fk rs st.σ st.τ):=rfl
theorem YK{rs:List RV}:ahO rs (some (.normal,st))=adE st.σ (fk rs st.σ st.τ):=rfl
theorem aed:fk [] σ τ=some (.p (.jC [])):=rfl
theorem aee{r:RV}:fk [r] σ τ=GK σ τ r:=by
 simp only[fk,omap];cases GK σ τ r<;>rfl
def arF:Option (List AV)→Option AV
 |some l=>some (za l)
 |none=>none
theorem aef{a b:RV}{r:List RV}:fk (a::b::r) σ τ=arF (omap (GK σ τ) (a::b::r)):=by
 simp only[fk,omap];cases GK σ τ a with
 |none=>rfl
 |some x=>
  cases GK σ τ b with
  |none=>rfl
  |some y=>cases omap (GK σ τ) r<;>rfl
theorem E9{α β:Type}{f g:α→Option β}:∀{l:List α},(∀a∈l,f a=g a)→omap f l=omap g l
 | [],_=>rfl
 |a::l,h=>by
  simp only[omap,h a (List.mem_cons_self ..),E9 fun b hb=>h b (abp _ hb)]
theorem wC{σ σ':ag}:∀(k:Nat) (v:AV),below 0 v=true→aG σ k v=aG σ' k v
 |0,_,_=>rfl
 |k+1,v,h=>by
  cases v with
  |sl b n=>simp[below]at h
  |ptr b n i o=>simp[below]at h
  |map b=>simp[below]at h
  |fn f cap=>
   simp only[below,Ca,List.mem_attach,true_imp_iff,Subtype.forall]at h;simp only[aG];rw[E9 fun a ha=>wC k a (h a ha)]
  |agg cs=>
   simp only[below,Ca,List.mem_attach,true_imp_iff,Subtype.forall]at h;simp only[aG];rw[E9 fun a ha=>wC k a (h a ha)]
  |jC cs=>
   simp only[below,Ca,List.mem_attach,true_imp_iff,Subtype.forall]at h;simp only[aG];rw[E9 fun a ha=>wC k a (h a ha)]
  |_=>rfl
theorem adF{v:AV}{k:Nat}:aG (gc 0 [v] σ) k v=aG σ k v:=by
 unfold gc;split
 ·rfl
 ·split
  ·rename_i h
   simp only[Cm,R6,abS,abR,ud]at h;exact wC k v h.1
  ·rfl
theorem bh{f:FuncId}{fn:cL}{ps:List PV}(h:P.fn f=some fn)(hl:(ps.length≤fn.ntmps)):R P f ps=ahO fn.results (exec P fn.body ⟨wz (ps.map .p),[],fn.ntmps,none⟩):=by
 simp only[R,h,zy];rw[call.eq_def,if_pos (by simpa using hl)]
 simp only[Na];cases h1:exec P fn.body ⟨wz (ps.map .p),[],fn.ntmps,none⟩with
 |none=>rfl
 |some x=>
  obtain⟨e,st⟩:=x
  have key:((fk fn.results st.σ st.τ).bind fun v=>some (v,gc ([]:ag).length [v] st.σ)).bind (fun x=>aG x.2 depth x.1)=adE st.σ (fk fn.results st.σ st.τ):=by
   cases fk fn.results st.σ st.τ with
   |none=>rfl
   |some v=>simp only[zy,l5,adF,adE]
  cases e with
  |exit i=>rfl
  |normal=>simpa[ahO]using key
  |ret=>simpa[ahO]using key
def aeZ(n:Nat)(st:St):Option AV→Option (AV×ag)
 |some v=>some (v,gc n [v] st.σ)
 |none=>none
def ak2(n:Nat)(rs:List RV):Option (Ex×St)→Option (AV×ag)
 |some (.normal,st)|some (.ret,st)=>aeZ n st (fk rs st.σ st.τ)
 |_=>none
theorem ft{fn:cL}{args:List AV}(h:args.length≤fn.ntmps):call P fn args σ=ak2 σ.length fn.results (exec P fn.body ⟨wz args,σ,fn.ntmps,none⟩):=by
 rw[call.eq_def,if_pos h];simp only[Na];cases exec P fn.body ⟨wz args,σ,fn.ntmps,none⟩with
 |none=>rfl
 |some x=>
  obtain⟨e,st⟩:=x;cases e with
  |exit i=>rfl
  |normal=>simp only[zy,ak2];cases fk fn.results st.σ st.τ<;>rfl
  |ret=>simp only[zy,ak2];cases fk fn.results st.σ st.τ<;>rfl
theorem ak3{rs:List RV}:ak2 n rs (some (.ret,st))=aeZ n st (fk rs st.σ st.τ):=rfl
theorem YJ{rs:List RV}:ak2 n rs (some (.normal,st))=aeZ n st (fk rs st.σ st.τ):=rfl
theorem acD{v:AV}:aeZ n st (some v)=some (v,gc n [v] st.σ):=rfl
theorem amx{l:Nat}{args:List AV}:sQ P (.yield l) args σ=round P l args σ:=by rw[sQ.eq_def]
theorem ae1{f:FuncId}{cap:List PV}{args:List AV}:sQ P (.p (.fn f cap)) args σ=lJ P f (args++cap.map .p) σ:=by rw[sQ.eq_def]
theorem ag8{lv:List Nat}:(τ.keep lv).keep lv=τ.keep lv:=by
 unfold Tm.keep Tm.kept
 congr 1
 apply ab6;intro t ht
 congr 1
 have:∀l:List Nat,t∈l→(tm (l.map fun t=>(t,τ.get t))).get t=τ.get t:=by
  intro l
  induction l with
  |nil=>intro h;simp at h
  |cons a l ih=>
   intro h;simp only[sP,aoj];split
   ·rename_i e;rw[e]
   ·rename_i e;exact ih (by rcases pn.1 h with h|h;exact absurd h.symm e;exact h)
 exact this lv ht
theorem aw{lv:List Nat}{b:K}:exec P (.loop lv b) ⟨τ,σ,nt,rd⟩=exec P (.loop lv b) ⟨tm (τ.kept lv),σ,nt,rd⟩:=by
 rw[JI,JI]
 simp only
 rw[show tm (τ.kept lv)=τ.keep lv from rfl,ag8]
theorem amR(h:σ.length=n){vs:List AV}:gc n vs σ=σ:=by unfold gc;rw[if_pos (by omega)]
def back(P:Prog)(lv:List Nat)(b:K)(n:Nat):Option (Ex×St)→Option (Ex×St)
 |some (.normal,st)=>exec P (.loop lv b) ⟨tm (st.τ.kept lv),gc n (lv.map st.τ.get) st.σ,st.nt,st.rd⟩
 |some (.ret,st)=>some (.ret,st)
 |some (.exit i,st)=>some (.exit i,st)
 |none=>none
theorem H3{lv:List Nat}{b:K}:exec P (.loop lv b) ⟨τ,σ,nt,rd⟩=back P lv b σ.length (exec P b ⟨tm (τ.kept lv),σ,nt,rd⟩):=by
 rw[JI];show XV P lv b σ.length (exec P b ⟨tm (τ.kept lv),σ,nt,rd⟩)=_;cases exec P b ⟨tm (τ.kept lv),σ,nt,rd⟩with
 |none=>rfl
 |some x=>obtain⟨e,st⟩:=x;cases e<;>rfl
theorem ajK:τ.kept []=[]:=rfl
theorem ag9{t:Nat}{l:List Nat}:τ.kept (t::l)=(t,τ.get t)::τ.kept l:=rfl
def al(P:Prog)(c:K)(l:List (Nat×AV))(σ:ag)(nt:Nat)(rd:Option Nat):Option (Ex×St):=exec P c ⟨tm l,σ,nt,rd⟩
def aq{S T α:Type}(f:Nat→S→α→S ⊕ T):Nat→S→List α→S ⊕ T
 |_,s,[]=>.inl s
 |i,s,a::r=>match f i s a with
  |.inl s'=>aq f (i+1) s' r
  |.inr t=>.inr t
def xB(lv:List Nat)(n:Nat):Option (Ex×St)→Option ((List (Nat×AV)×ag×Nat×Option Nat) ⊕ (Ex×St))
 |some (.normal,st)=>some (.inl (st.τ.kept lv,gc n (lv.map st.τ.get) st.σ,st.nt,st.rd))
 |some (.ret,st)=>some (.inr (.ret,st))
 |some (.exit i,st)=>some (.inr (.exit i,st))
 |none=>none
theorem XD{lv:List Nat}:xB lv n (some (.normal,⟨τ,σ,nt,rd⟩))=some (.inl (τ.kept lv,gc n (lv.map τ.get) σ,nt,rd)):=rfl
theorem ajx{lv:List Nat}:xB lv n (some (.ret,st))=some (.inr (.ret,st)):=rfl
theorem ag3{lv:List Nat}{i:Nat}:xB lv n (some (.exit i,st))=some (.inr (.exit i,st)):=rfl
theorem eP(h:σ.length≤n){vs:List AV}:gc n vs σ=σ:=by unfold gc;rw[if_pos h]
theorem aa{vs:List AV}:gc (List.length σ) vs σ=σ:=amR rfl
theorem apX{vs:List AV}:gc n vs []=[]:=eP (by simp)
theorem apY{vs:List AV}{a:Obj}:gc 1 vs [a]=[a]:=eP (by simp)
theorem ap0{vs:List AV}{a b:Obj}:gc 2 vs [a,b]=[a,b]:=eP (by simp)
theorem ajr{vs:List AV}{a b:Obj}:gc 1 vs [a,b]=if Cm 1 vs [a,b]=true then[a]else[a,b]:=by unfold gc;rw[if_neg (by simp)];rfl
theorem asZ{vs:List AV}{a b c:Obj}:gc 1 vs [a,b,c]=if Cm 1 vs [a,b,c]=true then[a]else[a,b,c]:=by unfold gc;rw[if_neg (by simp)];rfl
theorem as0{vs:List AV}{a b c:Obj}:gc 2 vs [a,b,c]=if Cm 2 vs [a,b,c]=true then[a,b]else[a,b,c]:=by unfold gc;rw[if_neg (by simp)];rfl
theorem as1{vs:List AV}{a b c d:Obj}:gc 2 vs [a,b,c,d]=if Cm 2 vs [a,b,c,d]=true then[a,b]else[a,b,c,d]:=by unfold gc;rw[if_neg (by simp)];rfl
theorem MM{v:PV}:below n (.p v)=true:=by simp[below]
theorem agj:below n .any=true:=by simp[below]
theorem ZP:below n .aC=true:=by simp[below]
theorem VZ{b m:Nat}:below n (.sl b m)=decide (b<n):=by simp[below]
theorem agk{b m i o:Nat}:below n (.ptr b m i o)=decide (b<n):=by simp[below]
theorem Bh{b:Nat}:below n (.map b)=decide (b<n):=by simp[below]
theorem V1{b:Nat}:below n (.yield b)=decide (b<n):=by simp[below]
theorem yu{es:Nat}{rows:List (List PV)}{fr:Bool}:Obj.below n (.pv es rows fr)=true:=rfl
theorem vK{es:Nat}{rows:List (List AV)}{fr:Bool}:Obj.below n (.av es rows fr)=rows.all fun r=>r.all (AE.below n):=rfl
theorem ze{es:List (PV×AV)}{fr:Bool}:Obj.below n (.map es fr)=es.all fun e=>AE.below n e.2:=rfl
theorem Jv{lv:List Nat}{b:K}{r:Option (Ex×St)}:back P lv b n r=(xB lv n r).bind fun
  |.inl h=>al P (.loop lv b) h.1 h.2.1 h.2.2.1 h.2.2.2
  |.inr x=>some x:=by
 cases r with
 |none=>rfl
 |some x=>obtain⟨e,st⟩:=x;cases e<;>rfl
def Zc{S T:Type}(env:S→List (Nat×AV))(sto:S→ag)(nt:Nat)(rd:Option Nat)(out:T→Ex×St→Prop):S ⊕ T→Option ((List (Nat×AV)×ag×Nat×Option Nat) ⊕ (Ex×St))→Prop
 |.inl s,some (.inl h)=>h=(env s,sto s,nt,rd)
 |.inr t,some (.inr r)=>out t r
 |_,_=>False
theorem Qw{S T:Type}{env:S→List (Nat×AV)}{sto:S→ag}{out:T→Ex×St→Prop}{s:S}{h:List (Nat×AV)×ag×Nat×Option Nat}:Zc env sto nt rd out (.inl s) (some (.inl h))=(h=(env s,sto s,nt,rd)):=rfl
theorem ary{S T:Type}{env:S→List (Nat×AV)}{sto:S→ag}{out:T→Ex×St→Prop}{t:T}{r:Ex×St}:Zc env sto nt rd out (.inr t) (some (.inr r))=out t r:=rfl
def nC{S T:Type}(A:S→Prop)(B:T→Prop):S ⊕ T→Prop
 |.inl s=>A s
 |.inr t=>B t
theorem Hh{S T:Type}{A:S→Prop}{B:T→Prop}{c:Prop}[Decidable c]{s:S}{t:T}(h:nC A B (if c then .inl s else .inr t)):if c then A s else B t:=by
 split at h<;>rename_i hc
 ·rw[if_pos hc];exact h
 ·rw[if_neg hc];exact h
theorem ae7{S T:Type}{A:S→Prop}{B:T→Prop}{c:Prop}[Decidable c]{s:S}{t:T}(h:nC A B (if c then .inr t else .inl s)):if c then B t else A s:=by
 split at h<;>rename_i hc
 ·rw[if_pos hc];exact h
 ·rw[if_neg hc];exact h
theorem er{S T α:Type}{lv:List Nat}{b:K}{x:Nat}{as:List α}(env:Nat→S→List (Nat×AV))(sto:S→ag)(f:Nat→S→α→S ⊕ T)(fin:S→St)(out:T→Ex×St→Prop)(ok:Nat→S→Prop)
  (hstep:∀(i:Nat) (a:α) (s:S),as[i]?=some a→i<as.length→ok i s→(∀s',f i s a=.inl s'→ok (i+1) s') ∧
   Zc (env (i+1)) sto nt rd out (f i s a) (xB lv (sto s).length (exec P b ⟨tm (env i s),sto s,nt,rd⟩)))
  (hend:∀s,ok as.length s→exec P b ⟨tm (env as.length s),sto s,nt,rd⟩=some (.exit x,fin s))
  (hkeep:∀i s,(tm (env i s)).kept lv=env i s) (s0:S) (h0:ok 0 s0) :
  nC (fun s=>al P (.loop lv b) (env 0 s0) (sto s0) nt rd=some (.exit x,fin s)) (fun t=>∃r,al P (.loop lv b) (env 0 s0) (sto s0) nt rd=some r∧out t r) (aq f 0 s0 as):=by
 have key:∀(r:List α) (i:Nat) (s:S),as.drop i=r→i≤as.length→ok i s →
   nC (fun s'=>al P (.loop lv b) (env i s) (sto s) nt rd=some (.exit x,fin s')) (fun t=>∃r,al P (.loop lv b) (env i s) (sto s) nt rd=some r∧out t r) (aq f i s r):=by
  intro r
  induction r with
  |nil=>
   intro i s hd hi hok;have:i=as.length:=by have:=congrArg List.length hd;simp at this;omega
   subst this;show al P (.loop lv b) (env as.length s) (sto s) nt rd=some (.exit x,fin s);unfold al;rw[H3,hkeep,hend s hok];rfl
  |cons a r ih=>
   intro i s hd hi hok
   have hlt:i<as.length:=by
    have:=congrArg List.length hd;simp at this;omega
   have ha:as[i]?=some a:=by
    have:=congrArg (·[0]?) hd;simpa using this
   have hr:as.drop (i+1)=r:=by
    have:=congrArg (List.drop 1) hd;simpa using this
   obtain⟨h1,h2⟩:=hstep i a s ha hlt hok;unfold al;rw[H3,hkeep,Jv];unfold aq;revert h2;generalize xB lv (sto s).length (exec P b ⟨tm (env i s),sto s,nt,rd⟩)=h;cases hf:f i s a with
   |inl s'=>
    intro h2
    match h,h2 with
    |some (.inl h),h2=>
     rw[Qw]at h2;subst h2;exact ih (i+1) s' hr (by omega) (h1 s' hf)
   |inr t=>
    intro h2
    match h,h2 with
    |some (.inr q),h2=>exact⟨q,rfl,h2⟩
 exact key as 0 s0 rfl (Zw _) h0
theorem agi{lv:List Nat}{b:K}{i:Nat}:back P lv b n (some (.exit i,st))=some (.exit i,st):=rfl
theorem aiI{lv:List Nat}{b:K}:back P lv b n (some (.ret,st))=some (.ret,st):=rfl
theorem cE{S T α:Type}{lv:List Nat}{b:K}{as:List α}(env:Nat→S→List (Nat×AV))(sto:S→ag)(f:Nat→S→α→S ⊕ T)(out:T→Ex×St→Prop)(ok:Nat→S→Prop)
  (hstep:∀(i:Nat) (a:α) (s:S),as[i]?=some a→i<as.length→ok i s→(∀s',f i s a=.inl s'→ok (i+1) s') ∧
   Zc (env (i+1)) sto nt rd out (f i s a) (xB lv (sto s).length (exec P b ⟨tm (env i s),sto s,nt,rd⟩)))
  (hkeep:∀i s,(tm (env i s)).kept lv=env i s) (s0:S) (h0:ok 0 s0) :
  nC (fun s=>ok as.length s∧al P (.loop lv b) (env 0 s0) (sto s0) nt rd=back P lv b (sto s).length (exec P b ⟨tm (env as.length s),sto s,nt,rd⟩)) (fun t=>∃r,al P (.loop lv b) (env 0 s0) (sto s0) nt rd=some r∧out t r) (aq f 0 s0 as):=by
 have key:∀(r:List α) (i:Nat) (s:S),as.drop i=r→i≤as.length→ok i s →
   nC (fun s'=>ok as.length s'∧al P (.loop lv b) (env i s) (sto s) nt rd=back P lv b (sto s').length (exec P b ⟨tm (env as.length s'),sto s',nt,rd⟩)) (fun t=>∃r,al P (.loop lv b) (env i s) (sto s) nt rd=some r∧out t r) (aq f i s r):=by
  intro r
  induction r with
  |nil=>
   intro i s hd hi hok;have:i=as.length:=by have:=congrArg List.length hd;simp at this;omega
   subst this;refine⟨hok,?_⟩;unfold al;rw[H3,hkeep]
  |cons a r ih=>
   intro i s hd hi hok
   have hlt:i<as.length:=by
    have:=congrArg List.length hd;simp at this;omega
   have ha:as[i]?=some a:=by
    have:=congrArg (·[0]?) hd;simpa using this
   have hr:as.drop (i+1)=r:=by
    have:=congrArg (List.drop 1) hd;simpa using this
   obtain⟨h1,h2⟩:=hstep i a s ha hlt hok;unfold al;rw[H3,hkeep,Jv];unfold aq;revert h2;generalize xB lv (sto s).length (exec P b ⟨tm (env i s),sto s,nt,rd⟩)=h;cases hf:f i s a with
   |inl s'=>
    intro h2
    match h,h2 with
    |some (.inl h),h2=>
     rw[Qw]at h2;subst h2;exact ih (i+1) s' hr (by omega) (h1 s' hf)
   |inr t=>
    intro h2
    match h,h2 with
    |some (.inr q),h2=>exact⟨q,rfl,h2⟩
 exact key as 0 s0 rfl (Zw _) h0
theorem ic{S α:Type}{lv:List Nat}{b:K}{as:List α}(env:Nat→S→List (Nat×AV))(sto:S→ag)(f:Nat→S→α→S)(ok:Nat→S→Prop)
  (hstep:∀(i:Nat) (a:α) (s:S),as[i]?=some a→i<as.length→ok i s→ok (i+1) (f i s a)∧xB lv (sto s).length (exec P b ⟨tm (env i s),sto s,nt,rd⟩)=some (.inl (env (i+1) (f i s a),sto (f i s a),nt,rd)))
  (hkeep:∀i s,(tm (env i s)).kept lv=env i s) (s0:S) (h0:ok 0 s0) (r:S) (hr:aq (T:=Empty) (fun i s a=>.inl (f i s a)) 0 s0 as=.inl r) :
  ok as.length r∧al P (.loop lv b) (env 0 s0) (sto s0) nt rd=back P lv b (sto r).length (exec P b ⟨tm (env as.length r),sto r,nt,rd⟩):=by
 have h:=cE (P:=P) (nt:=nt) (rd:=rd) (T:=Empty) (as:=as) env sto (fun i s a=>.inl (f i s a)) (fun t=>nomatch t) ok (fun i a s h1 h2 h3=>⟨fun s' he=>by cases he;exact(hstep i a s h1 h2 h3).1,by rw[(hstep i a s h1 h2 h3).2];exact Qw ▸ rfl⟩) hkeep s0 h0
 rw[hr]at h;exact h
theorem SZ{S T:Type}{lv:List Nat}{b:K}(env:S→List (Nat×AV))(sto:S→ag)(f:S→S ⊕ T)(out:T→Ex×St→Prop)(ok:S→Prop)(m:S→Nat)
  (hstep:∀s,ok s→(∀s',f s=.inl s'→ok s'∧m s'<m s)∧Zc env sto nt rd out (f s) (xB lv (sto s).length (exec P b ⟨tm (env s),sto s,nt,rd⟩)))
  (hkeep:∀s,(tm (env s)).kept lv=env s):∀(n:Nat) (s0:S),m s0<n→ok s0→∃s t r,ok s∧f s=.inr t∧al P (.loop lv b) (env s0) (sto s0) nt rd=some r∧out t r
 |0,_,h,_=>by omega
 |n+1,s0,hn,h0=>by
  obtain⟨h1,h2⟩:=hstep s0 h0;unfold al;rw[H3,hkeep,Jv];revert h2;generalize xB lv (sto s0).length (exec P b ⟨tm (env s0),sto s0,nt,rd⟩)=h;cases hf:f s0 with
  |inl s'=>
   intro h2;obtain⟨k1,k2⟩:=h1 s' hf
   match h,h2 with
   |some (.inl h),h2=>
    rw[Qw]at h2;subst h2;exact SZ env sto f out ok m hstep hkeep n s' (by omega) k1
  |inr t=>
   intro h2
   match h,h2 with
   |some (.inr q),h2=>exact⟨s0,t,q,h0,hf,rfl,h2⟩
theorem lp{S α:Type}{lv:List Nat}{b:K}{x:Nat}{as:List α}(env:Nat→S→List (Nat×AV))(sto:S→ag)(f:Nat→S→α→S)(fin:S→St)(ok:Nat→S→Prop)
  (hstep:∀(i:Nat) (a:α) (s:S),as[i]?=some a→i<as.length→ok i s→ok (i+1) (f i s a)∧xB lv (sto s).length (exec P b ⟨tm (env i s),sto s,nt,rd⟩)=some (.inl (env (i+1) (f i s a),sto (f i s a),nt,rd)))
  (hend:∀s,ok as.length s→exec P b ⟨tm (env as.length s),sto s,nt,rd⟩=some (.exit x,fin s))
  (hkeep:∀i s,(tm (env i s)).kept lv=env i s) (s0:S) (h0:ok 0 s0) (r:S) (hr:aq (T:=Empty) (fun i s a=>.inl (f i s a)) 0 s0 as=.inl r) :
  al P (.loop lv b) (env 0 s0) (sto s0) nt rd=some (.exit x,fin r):=by
 have h:=er (P:=P) (nt:=nt) (rd:=rd) (T:=Empty) (x:=x) env sto (fun i s a=>.inl (f i s a)) fin (fun t=>nomatch t) ok (fun i a s h1 h2 h3=>⟨fun s' he=>by cases he;exact(hstep i a s h1 h2 h3).1,by rw[(hstep i a s h1 h2 h3).2];rfl⟩) hend hkeep s0 h0
 rw[hr]at h;exact h
abbrev Qp(P:Prog)(f:FuncId):Prop:=∀{args:List AV} {σ:ag},lJ P f args σ=X7 P f args σ (omap (aG σ depth) args)
abbrev Qi(P:Prog)(f:FuncId)(F:cL):Prop:=∀{args:List AV} {σ:ag},lJ P f args σ=call P F args σ
abbrev Rp(P:Prog)(f:FuncId)(n:Nat)(rs:List RV)(F:cL):Prop:=∀{ps:List PV},ps.length≤n→R P f ps=ahO rs (exec P F.body ⟨wz (ps.map .p),[],n,none⟩)
abbrev Kp(P:Prog)(L:K)(lv:List Nat):Prop:=∀{τ:Tm} {σ:ag} {nt:Nat} {rd:Option Nat},exec P L ⟨τ,σ,nt,rd⟩=al P L (τ.kept lv) σ nt rd
variable {P:Prog} {τ:Tm} {σ:ag} {k:IntKind} {a b:Int}
theorem auI:cA .add (.p (.int k a)) (.p (.int k b))=some (.p (.int k (k.wrap (a+b)))):=by simp[cA,binop,s9]
theorem au1:cA .sub (.p (.int k a)) (.p (.int k b))=some (.p (.int k (k.wrap (a-b)))):=by simp[cA,binop,s9]
theorem auT:cA .mul (.p (.int k a)) (.p (.int k b))=some (.p (.int k (k.wrap (a*b)))):=by simp[cA,binop,s9]
theorem auZ(h:b≠0):cA .quo (.p (.int k a)) (.p (.int k b))=some (.p (.int k (k.wrap (a.tdiv b)))):=by simp[cA,binop,s9,h]
theorem au0(h:b≠0):cA .rem (.p (.int k a)) (.p (.int k b))=some (.p (.int k (a.tmod b))):=by simp[cA,binop,s9,h]
theorem auL:cA .eql (.p (.int k a)) (.p (.int k b))=some (.p (.bool (decide (a=b)))):=by simp[cA,binop,s9];rw[abE];simp
theorem auW:cA .neq (.p (.int k a)) (.p (.int k b))=some (.p (.bool (decide (¬a=b)))):=by simp[cA,binop,s9];rw[abE];simp
theorem auQ:cA .lss (.p (.int k a)) (.p (.int k b))=some (.p (.bool (decide (a<b)))):=by simp[cA,binop,s9]
theorem auP:cA .leq (.p (.int k a)) (.p (.int k b))=some (.p (.bool (decide (a≤b)))):=by simp[cA,binop,s9]
theorem auN:cA .gtr (.p (.int k a)) (.p (.int k b))=some (.p (.bool (decide (b<a)))):=by simp[cA,binop,s9]
theorem auM:cA .geq (.p (.int k a)) (.p (.int k b))=some (.p (.bool (decide (b≤a)))):=by simp[cA,binop,s9]
theorem alI:cA .and (.p (.int k a)) (.p (.int k b))=some (.p (.int k (k.wrap (BitVec.ofInt k.bits a &&& BitVec.ofInt k.bits b).toNat))):=by simp[cA,binop,s9]
theorem auY:cA .or (.p (.int k a)) (.p (.int k b))=some (.p (.int k (k.wrap (BitVec.ofInt k.bits a |||BitVec.ofInt k.bits b).toNat))):=by simp[cA,binop,s9]
theorem au2:cA .xor (.p (.int k a)) (.p (.int k b))=some (.p (.int k (k.wrap (BitVec.ofInt k.bits a ^^^ BitVec.ofInt k.bits b).toNat))):=by simp[cA,binop,s9]
theorem afX{k':IntKind}(h:0≤b):cA .shl (.p (.int k a)) (.p (.int k' b))=some (.p (.int k (k.wrap (a*2^(min b.toNat k.bits))))):=by
 simp[cA,binop,Ja,show ¬b<0 by omega]
theorem Gb{k':IntKind}(h:0≤b):cA .shr (.p (.int k a)) (.p (.int k' b))=some (.p (.int k (a.fdiv (2^(min b.toNat k.bits))))):=by
 simp[cA,binop,Ja,show ¬b<0 by omega]
theorem vp{x y:ByteArray}:x.toList=y.toList↔x=y:=by
 rw[ByteArray.toList_eq,ByteArray.toList_eq];constructor
 ·intro h
  cases x;cases y;simp only[ByteArray.mk.injEq];exact Array.toList_inj.1 h
 ·rintro rfl;rfl
theorem arO{x y:ByteArray}:cA .eql (.p (.str x)) (.p (.str y))=some (.p (.bool (decide (x=y)))):=by
 simp only[cA,binop,Ze,xu]
 congr 3
 rw[abE];simp[vp]
theorem arQ{x y:ByteArray}:cA .neq (.p (.str x)) (.p (.str y))=some (.p (.bool (decide (¬x=y)))):=by
 simp only[cA,binop,Ze,xu]
 congr 3
 rw[abE];simp[vp]
def slt(x y:ByteArray):Bool:=Op.bytesLess x.toList y.toList
theorem arP{x y:ByteArray}:cA .lss (.p (.str x)) (.p (.str y))=some (.p (.bool (slt x y))):=rfl
theorem auX{c:Bool}:at1 (.p (.bool c))=some (.p (.bool !c)):=rfl
theorem auK{c d:Bool}:apR false (.p (.bool c)) (.p (.bool d))=some (.p (.bool (c == d))):=rfl
theorem auU{c d:Bool}:apR true (.p (.bool c)) (.p (.bool d))=some (.p (.bool !(c == d))):=rfl
theorem auV{n:Int}:at0 (.p (.int k n))=some (.p (.int k (k.wrap (0-n)))):=rfl
theorem arI{k':IntKind}{n:Int}:aoQ k (.p (.int k' n))=some (.p (.int k (k.wrap n))):=rfl
theorem aon{s:ByteArray}:aiY (.p (.str s))=some (.p (.str s)):=rfl
theorem arM{s:ByteArray}:ao4 (.p (.str s))=some (.p (.int .i64 s.size)):=rfl
theorem arL{rows:List (List PV)}:OO σ (.p (.aM rows))=some (.p (.int .i64 rows.length)):=rfl
theorem aor:OO σ .aC=some (.p (.int .i64 0)):=rfl
theorem arN{x y:AV}{c:Bool}:akK (.p (.bool c)) x y=some (if c=true then x else y):=by cases c<;>rfl
theorem auR{x y:Int}:UN true [.p (.int k x),.p (.int k y)]=some (.p (.int k (max x y))):=rfl
theorem auS{x y:Int}:UN false [.p (.int k x),.p (.int k y)]=some (.p (.int k (min x y))):=rfl
theorem atC{v:PV}:mvE σ (.p v)=some (.p v,σ):=rfl
theorem aqo{b n:Nat}:mvE σ (.sl b n)=some (.sl b n,σ):=rfl
theorem akg:mvE σ .aC=some (.sl σ.length 0,σ++[.pv 0 [] false]):=rfl
theorem aot{v:AV}:gD σ (some v)=some (v,σ):=rfl
theorem aib{vs:List PV}{i:Nat}:Of (.p (.jC vs)) i=vs[i]?.map .p:=rfl
theorem alS{i:Nat}(h:i<4611686018427387904):IntKind.i64.wrap ((i:Int)+1)=((i+1:Nat):Int):=by rw[IntWalk.i64_in _ (by omega)];rfl
theorem aoy{i n:Nat}(h:i<n)(h':n≤9223372036854775807):IntKind.i64.wrap ((i:Int)+1)=((i+1:Nat):Int):=by rw[IntWalk.i64_in _ (by omega)];rfl
theorem arV{n:Int}(h : -9223372036854775808≤n∧n≤9223372036854775807):IntKind.i64.wrap n=n:=IntWalk.i64_in n h
theorem arJ{row:List PV}{o off:Nat}:Og off (.p (.ptr row o))=some (.p (.ptr row (o+off))):=rfl
theorem aoo{b n i o off:Nat}:Og off (.ptr b n i o)=some (.ptr b n i (o+off)):=rfl
theorem aJ{rows:List (List PV)}{es:Nat}{i:Nat}{r:List PV}(h:rows[i]?=some r)(h2:r.length=es):jS σ es (.p (.aM rows)) (.p (.int k i))=some (.p (.ptr r 0)):=by
 simp[jS,nc,h,h2]
theorem LN{rows:List (List PV)}{r:List PV}{es:Nat}(h:rows[0]?=some r)(h2:r.length=es):jS σ es (.p (.aM rows)) (.p (.int k 0))=some (.p (.ptr r 0)):=by simp[jS,nc,h,h2]
theorem afV{rows:List (List PV)}{r:List PV}{es:Nat}(h:rows[1]?=some r)(h2:r.length=es):jS σ es (.p (.aM rows)) (.p (.int k 1))=some (.p (.ptr r 0)):=by simp[jS,nc,h,h2]
theorem apm{rows:List (List PV)}{r:List PV}{es:Nat}(h:rows[2]?=some r)(h2:r.length=es):jS σ es (.p (.aM rows)) (.p (.int k 2))=some (.p (.ptr r 0)):=by simp[jS,nc,h,h2]
theorem bs1{a:Int}{z:PV}:kU σ 1 1 (gz (List.replicate 1 [.p z]).flatten [(0,1,.p (.int k a))])=some (.sl σ.length 1,σ++[.pv 1 [[.int k a]] false]):=rfl
theorem bs2{a b:Int}{z:PV}:kU σ 1 2 (gz (List.replicate 2 [.p z]).flatten [(0,1,.p (.int k a)),(1,1,.p (.int k b))])=some (.sl σ.length 2,σ++[.pv 1 [[.int k a],[.int k b]] false]):=rfl
theorem bs3{a b c:Int}{z:PV}:kU σ 1 3 (gz (List.replicate 3 [.p z]).flatten [(0,1,.p (.int k a)),(1,1,.p (.int k b)),(2,1,.p (.int k c))])=some (.sl σ.length 3,σ++[.pv 1 [[.int k a],[.int k b],[.int k c]] false]):=rfl
theorem bs4{a b c d:Int}{z:PV}:kU σ 1 4 (gz (List.replicate 4 [.p z]).flatten [(0,1,.p (.int k a)),(1,1,.p (.int k b)),(2,1,.p (.int k c)),(3,1,.p (.int k d))])=some (.sl σ.length 4,σ++[.pv 1 [[.int k a],[.int k b],[.int k c],[.int k d]] false]):=rfl
theorem bs6{a b c d e f:Int}{z:PV}:kU σ 1 6 (gz (List.replicate 6 [.p z]).flatten [(0,1,.p (.int k a)),(1,1,.p (.int k b)),(2,1,.p (.int k c)),(3,1,.p (.int k d)),(4,1,.p (.int k e)),(5,1,.p (.int k f))]) =
  some (.sl σ.length 6,σ++[.pv 1 [[.int k a],[.int k b],[.int k c],[.int k d],[.int k e],[.int k f]] false]):=rfl
theorem Es{j n es:Nat}{rows:List (List PV)}{fr:Bool}{r:ag}:aG (.pv es rows fr::r) (j+1) (.sl 0 n)=if rows.length=n then some (.aM rows)else none:=by simp[aG]
theorem bs0{es:Nat}{z:List AV}:kU σ es 0 (gz (List.replicate 0 z).flatten [])=some (.sl σ.length 0,σ++[.pv es [] false]):=rfl
theorem Pz{j n es:Nat}{rows:List (List PV)}{fr:Bool}:aG [.pv es rows fr] (j+1) (.sl 0 n)=if rows.length=n then some (.aM rows)else none:=by simp[aG]
theorem Yb{j:Nat}:aG σ (j+1) .aC=some (.aM []):=rfl
theorem ajj{n:Int}:PV.flat (.int k n)=true:=by simp[PV.flat]
theorem agW{c:Bool}:PV.flat (.bool c)=true:=by simp[PV.flat]
theorem ajm{s:ByteArray}:PV.flat (.str s)=true:=by simp[PV.flat]
theorem Ds:∀(l:List PV),ae (l.map .p)=some l
 | []=>rfl
 |a::l=>by simp[ae,Ds l]
theorem auJ{row:List PV}{n:Nat}(h:row.length=n):cellsOf n true (.p (.agg row))=some (row.map .p):=by simp[cellsOf,h]
theorem arK{row:List PV}{n:Nat}:uW σ n true (some (row.map .p))=some (.p (.ptr row 0),σ):=by simp[uW,Ds]
theorem aop{v:PV}{n:Nat}:uW σ n true (some [.p v])=some (.p (.ptr [v] 0),σ):=by simp[uW,ae]
theorem Fk{row:List PV}{n:Nat}(h:row.length=n):gU σ n true (.p (.ptr row 0))=some (.p (.agg row)):=by
 simp[gU,part,oG,←h]
theorem aos{row:List PV}{o:Nat}{c:PV}(h:row[o]?=some c):gU σ 1 false (.p (.ptr row o))=some (.p c):=by
 obtain⟨ho,he⟩:=fU.1 h
 have:(row.drop o).take 1=[c]:=by
  rw[abm ho,he];rfl
 simp only[gU,part,show o+1≤row.length from ho,if_true,this];rfl
theorem av1{row:List PV}{o:Nat}:gU σ 1 false (.p (.ptr row o))=row[o]?.map .p:=by
 cases h:row[o]? with
 |some c=>exact aos h
 |none=>
  have:=List.getElem?_eq_none_iff.1 h;simp[gU,part,show ¬o+1≤row.length by omega]
theorem auO{a b:PV}:gU σ 2 true (.p (.ptr [a,b] 0))=some (.p (.agg [a,b])):=rfl
theorem alJ{v:Int}:cellsOf 1 false (.p (.int k v))=some [.p (.int k v)]:=rfl
theorem aia{v:ByteArray}:cellsOf 1 false (.p (.str v))=some [.p (.str v)]:=rfl
theorem ah9{v:List (List PV)}:cellsOf 1 false (.p (.aM v))=some [.p (.aM v)]:=rfl
theorem alK{a b:PV}:cellsOf 2 true (.p (.agg [a,b]))=some [.p a,.p b]:=rfl
inductive Term where
 |mk (op w v:Int) (name:ByteArray) (args:List Term)
 deriving Inhabited
namespace Term
def op:Term→Int|.mk o _ _ _ _=>o
def w:Term→Int|.mk _ o _ _ _=>o
def v:Term→Int|.mk _ _ o _ _=>o
def name:Term→ByteArray|.mk _ _ _ o _=>o
def args:Term→List Term|.mk _ _ _ _ o=>o
mutual
def row:Term→List PV
 |.mk o w v s as=>[.int .i64 o,.int .i64 w,.int .u64 v,.str s,.aM (rows as)]
def rows:List Term→List (List PV)
 | []=>[]
 |t::r=>row t::rows r
end
theorem ahW{t a:Term}(ha:a∈t.args):SizeOf.sizeOf a<SizeOf.sizeOf t:=by
 cases t with
 |mk o w v s as=>
  have h1:SizeOf.sizeOf a<SizeOf.sizeOf as:=List.sizeOf_lt_of_mem ha;have h2:SizeOf.sizeOf (Term.mk o w v s as)=1+SizeOf.sizeOf o+SizeOf.sizeOf w+SizeOf.sizeOf v+SizeOf.sizeOf s+SizeOf.sizeOf as:=by simp
  omega
theorem ind{p:Term→Prop}(h:∀t,(∀a∈t.args,p a)→p t)(t:Term):p t:=by
 have key:∀n,∀t:Term,SizeOf.sizeOf t<n→p t:=by
  intro n
  induction n with
  |zero=>intro t ht;omega
  |succ n ih=>intro t ht;exact h t fun a ha=>ih a (by have:=ahW ha;omega)
 exact key _ t (Nat.lt_succ_self _)
theorem CE:∀l:List Term,rows l=l.map row
 | []=>rfl
 |t::r=>by simp[rows,CE r]
theorem aR(t:Term):t.row=[.int .i64 t.op,.int .i64 t.w,.int .u64 t.v,.str t.name,.aM (t.args.map row)]:=by
 cases t;simp[row,op,w,v,name,args,CE]
theorem aB(t:Term):t.row.length=5:=by rw[aR];rfl
theorem avL(t:Term):t.row[0]?=some (.int .i64 t.op):=by rw[aR];rfl
theorem avM(t:Term):t.row[1]?=some (.int .i64 t.w):=by rw[aR];rfl
theorem avN(t:Term):t.row[2]?=some (.int .u64 t.v):=by rw[aR];rfl
theorem avP(t:Term):t.row[3]?=some (.str t.name):=by rw[aR];rfl
theorem avQ(t:Term):t.row[4]?=some (.aM (t.args.map row)):=by rw[aR];rfl
end Term
theorem alB{t:Term}:gU σ 5 true (.p (.ptr t.row 0))=some (.p (.agg t.row)):=Fk t.aB
theorem Vt{t:Term}:cellsOf 5 true (.p (.agg t.row))=some (t.row.map .p):=auJ t.aB
theorem avX{t:Term}{z0 z1 z2 z3 z4:AV}:kU σ 5 1 (gz (List.replicate 1 [z0,z1,z2,z3,z4]).flatten [(0,5,.p (.agg t.row))])=some (.sl σ.length 1,σ++[.pv 5 [t.row] false]):=by
 rw[Term.aR];rfl
theorem Tt(l:List Term):wide 5 (l.map Term.row)=true:=by
 simp[wide,Term.aB]
variable {P:Prog} {τ:Tm} {σ σ':ag} {nt n l:Nat} {rd:Option Nat}
def rounds(P:Prog)(l:Nat):List (List AV)→ag→Option (Bool×ag)
 | [],σ=>some (true,σ)
 |a::r,σ=>match round P l a σ with
  |some (.p (.bool true),σ')=>if σ'.length=σ.length then rounds P l r σ' else none
  |some (.p (.bool false),σ')=>if σ'.length=σ.length then some (false,σ')else none
  |_=>none
def P8(P:Prog)(l:Nat)(r:List (List AV)):Option (Bool×ag)→Option (Bool×ag)
 |some (true,σ)=>rounds P l r σ
 |some (false,σ)=>some (false,σ)
 |none=>none
theorem A1:∀(x y:List (List AV)) (σ:ag),rounds P l (x++y) σ=P8 P l y (rounds P l x σ)
 | [],y,σ=>rfl
 |a::x,y,σ=>by
  simp only[FD,rounds];split
  ·rename_i σ' h
   split
   ·exact A1 x y σ'
   ·rfl
  ·rename_i σ' h
   split<;>rfl
  ·rfl
theorem vV:∀(x:List (List AV)) (σ σ':ag) (b:Bool),rounds P l x σ=some (b,σ')→σ'.length=σ.length
 | [],σ,σ',b,h=>by simp only[rounds,bI,qX]at h;rw[←h.2]
 |a::x,σ,σ',b,h=>by
  simp only[rounds]at h;split at h
  ·rename_i σ1 h1
   split at h
   ·rename_i hl
    rw[vV x σ1 σ' b h,hl]
   ·cases h
  ·rename_i σ1 h1
   split at h
   ·rename_i hl
    simp only[bI,qX]at h;rw[←h.2,hl]
   ·cases h
  ·cases h
def HZ(P:Prog)(l:Nat)(b:K)(st:St):Option Obj→Option (Ex×St)
 |some (.loop τ1 nt1 ps1 asg1 b1 none)=>exec P b { st with σ:=st.σ.set l (.loop τ1 nt1 ps1 asg1 b1 (some .normal)) }
 |_=>none
def arb(P:Prog)(l:Nat)(b:K):Option (Ex×St)→Option (Ex×St)
 |some (.normal,st)=>HZ P l b st st.σ[l]?
 |_=>none
def ak6(l n:Nat)(e:Ex)(st:St):Option Obj→Option (AV×ag)
 |some (.loop τ2 nt2 ps2 asg2 b2 (some .normal))=>some (.p (.bool (e matches .normal)),gc n [] (st.σ.set l (.loop τ2 nt2 ps2 asg2 b2 (match e with|.normal=>none|e=>some e))))
 |_=>none
def aup(l n:Nat):Option (Ex×St)→Option (AV×ag)
 |some (e,st)=>ak6 l n e st st.σ[l]?
 |none=>none
theorem EI{a:List AV}{r:List (List AV)}{b:Bool}(h:rounds P l (a::r) σ=some (b,σ')) :
  ∃c σ1,round P l a σ=some (.p (.bool c),σ1)∧σ1.length=σ.length∧(c=true→rounds P l r σ1=some (b,σ'))∧(c=false→b=false∧σ'=σ1):=by
 simp only[rounds]at h;split at h
 ·rename_i σ1 h1
  split at h
  ·rename_i hl
   exact⟨true,σ1,h1,hl,fun _=>h,by simp⟩
  ·cases h
 ·rename_i σ1 h1
  split at h
  ·rename_i hl
   simp only[bI,qX]at h;exact⟨false,σ1,h1,hl,by simp,fun _=>⟨h.1.symm,h.2.symm⟩⟩
  ·cases h
 ·cases h
theorem BP{τk:List (Nat×AV)}{ps:List Nat}{hJ b:K}{args:List AV}(ho:σ[l]?=some (.loop τk nt ps hJ b none))(hc:ps.length=args.length∧nodup ps=true∧ps.all (· < nt)=true) :
  round P l args σ=aup l σ.length (arb P l b (exec P hJ ⟨tm (ps.zip args++τk),σ,nt,some l⟩)):=by
 rw[round.eq_def];simp only[ho,hc,and_self,if_true,Na];cases exec P hJ ⟨tm (ps.zip args++τk),σ,nt,some l⟩with
 |none=>rfl
 |some r=>
  obtain⟨e,st⟩:=r;cases e with
  |exit i=>rfl
  |ret=>rfl
  |normal=>
   simp only[zy,arb];cases st.σ[l]? with
   |none=>rfl
   |some o=>
    cases o with
    |loop τ1 nt1 ps1 asg1 b1 s1=>
     cases s1 with
     |none=>
      simp only[HZ];cases exec P b { st with σ:=st.σ.set l (.loop τ1 nt1 ps1 asg1 b1 (some .normal)) }with
      |none=>rfl
      |some q=>rfl
     |some e=>rfl
    |_=>rfl
theorem arc{b:K}:arb P l b (some (.normal,⟨τ,σ,nt,rd⟩))=HZ P l b ⟨τ,σ,nt,rd⟩ σ[l]? := rfl
theorem amo{b b1 asg1:K}{τ1:List (Nat×AV)}{nt1:Nat}{ps1:List Nat}:HZ P l b ⟨τ,σ,nt,rd⟩ (some (.loop τ1 nt1 ps1 asg1 b1 none))=exec P b ⟨τ,σ.set l (.loop τ1 nt1 ps1 asg1 b1 (some .normal)),nt,rd⟩:=rfl
theorem ard{e:Ex}:aup l n (some (e,⟨τ,σ,nt,rd⟩))=ak6 l n e ⟨τ,σ,nt,rd⟩ σ[l]? := rfl
theorem arf{b2 asg2:K}{τ2:List (Nat×AV)}{nt2:Nat}{ps2:List Nat}:ak6 l n .normal ⟨τ,σ,nt,rd⟩ (some (.loop τ2 nt2 ps2 asg2 b2 (some .normal)))=some (.p (.bool true),gc n [] (σ.set l (.loop τ2 nt2 ps2 asg2 b2 none))):=rfl
theorem arh{b2 asg2:K}{τ2:List (Nat×AV)}{nt2:Nat}{ps2:List Nat}:ak6 l n .ret ⟨τ,σ,nt,rd⟩ (some (.loop τ2 nt2 ps2 asg2 b2 (some .normal)))=some (.p (.bool false),gc n [] (σ.set l (.loop τ2 nt2 ps2 asg2 b2 (some .ret)))):=rfl
theorem are{i:Nat}{b2 asg2:K}{τ2:List (Nat×AV)}{nt2:Nat}{ps2:List Nat}:ak6 l n (.exit i) ⟨τ,σ,nt,rd⟩ (some (.loop τ2 nt2 ps2 asg2 b2 (some .normal)))=some (.p (.bool false),gc n [] (σ.set l (.loop τ2 nt2 ps2 asg2 b2 (some (.exit i))))):=rfl
theorem YL{S T α:Type}{τk:List (Nat×AV)}{ps:List Nat}{hJ b:K}(arg:α→List AV)(sto:S→ag)(f:Nat→S→α→S ⊕ T)(out:T→Ex×ag)(ok:Nat→S→Prop)
  (hlen:∀s,(sto s).length=n) (hout:∀t,(out t).2.length=n) (as:List α)
  (hstep:∀(i:Nat) (a:α) (s:S),as[i]?=some a→ok i s→(∀s',f i s a=.inl s'→ok (i+1) s') ∧
   round P n (arg a) (sto s++[.loop τk nt ps hJ b none])=(match f i s a with
    |.inl s'=>some (.p (.bool true),sto s'++[.loop τk nt ps hJ b none])
    |.inr t=>some (.p (.bool false),(out t).2++[.loop τk nt ps hJ b (some (out t).1)]))) :
  ∀(r:List α) (i:Nat) (s:S),as.drop i=r→ok i s→rounds P n (r.map arg) (sto s++[.loop τk nt ps hJ b none])=(match aq f i s r with
    |.inl s'=>some (true,sto s'++[.loop τk nt ps hJ b none])
    |.inr t=>some (false,(out t).2++[.loop τk nt ps hJ b (some (out t).1)])):=by
 intro r
 induction r with
 |nil=>intro i s _ _;rfl
 |cons a r ih=>
  intro i s hd hok
  have ha:as[i]?=some a:=by
   have:=congrArg (·[0]?) hd;simpa using this
  have hr:as.drop (i+1)=r:=by
   have:=congrArg (List.drop 1) hd;simpa using this
  obtain⟨h1,h2⟩:=hstep i a s ha hok;simp only[sP,rounds,aq];rw[h2];cases hf:f i s a with
  |inl s'=>
   simp only
   rw[if_pos (by simp[hlen]),ih (i+1) s' hr (h1 s' hf)]
  |inr t=>
   simp only
   rw[if_pos (by simp[hlen,hout])]
def nk(P:Prog)(ps:List Nat)(hJ b:K)(gv:AV)(kept:List (Nat×AV))(σ:ag)(nt:Nat)(rd:Option Nat):Option (Ex×ag) :=
 (Up gv).bind fun x=>(P.fn x.1).bind fun fn=>
  if ue rd σ && (nodup ps && ps.all (· < nt))then(call P fn (.yield σ.length::x.2) (σ++[.loop kept nt ps hJ b none])).bind fun y=>
   match y.2[σ.length]? with
   |some (.loop _ _ _ _ _ none)=>some (.normal,gc σ.length [] (y.2.set σ.length .gone))
   |some (.loop _ _ _ _ _ (some .normal))=>none
   |some (.loop _ _ _ _ _ (some e))=>some (e,gc σ.length [] (y.2.set σ.length .gone))
   |_=>none
  else none
def EH(τ:Tm)(nt:Nat)(rd:Option Nat):Option (Ex×ag)→Option (Ex×St)
 |some (e,σ)=>some (e,⟨τ,σ,nt,rd⟩)
 |none=>none
theorem BO{g:O}{lv ps:List Nat}{hJ b:K}:exec P (.range g ps lv hJ b) ⟨τ,σ,nt,rd⟩=EH τ nt rd (nk P ps hJ b (g.val τ) (τ.kept lv) σ nt rd):=by
 rw[exec.eq_def];simp only[nk,Na];cases Up (g.val τ)with
 |none=>rfl
 |some x=>
  obtain⟨f,cap⟩:=x;simp only[zy];cases P.fn f with
  |none=>rfl
  |some fn=>
   simp only[zy];split
   ·cases call P fn (.yield σ.length::cap) (σ++[.loop (τ.kept lv) nt ps hJ b none])with
    |none=>rfl
    |some y=>
     simp only[zy];cases y.2[σ.length]? with
     |none=>rfl
     |some o=>
      cases o with
      |loop τ1 nt1 ps1 asg1 b1 s1=>
       cases s1 with
       |none=>rfl
       |some e=>cases e<;>rfl
      |_=>rfl
   ·rfl
theorem YE{e:Ex}:EH τ nt rd (some (e,σ))=some (e,⟨τ,σ,nt,rd⟩):=rfl
theorem al1{es:Nat}{v:PV}:vl es (aW [.p v] σ)=some (.ptr σ.length 1 0 0,σ++[.pv es [[v]] false]):=rfl
theorem avV{es:Nat}{c:PV}{v:Bool}{r:ag}:eM (.pv es [[c]] false::r) 1 (.ptr 0 1 0 0) (.p (.bool v))=some (.pv es [[.bool v]] false::r):=rfl
theorem auA{es:Nat}{c:PV}{k:IntKind}{v:Int}{r:ag}:eM (.pv es [[c]] false::r) 1 (.ptr 0 1 0 0) (.p (.int k v))=some (.pv es [[.int k v]] false::r):=rfl
theorem any_some:asA (some σ)=some (.any,σ):=rfl
theorem ao2{es:Nat}{v:PV}{r:ag}:gU (.pv es [[v]] false::r) 1 false (.ptr 0 1 0 0)=some (.p v):=rfl
theorem aqe{a b:Obj}{v:AV}{es:Nat}{fr:Bool}{r:ag}:gU (a::b::.av es [[v]] fr::r) 1 false (.ptr 2 1 0 0)=some v:=rfl
theorem aoZ{vs:List AV}{a b c d e:Obj}:gc 4 vs [a,b,c,d,e]=if Cm 4 vs [a,b,c,d,e]=true then[a,b,c,d]else[a,b,c,d,e]:=by unfold gc;rw[if_neg (by simp)];rfl
theorem aoY{vs:List AV}{a b c d:Obj}:gc 4 vs [a,b,c,d]=[a,b,c,d]:=eP (by simp)
theorem as3{vs:List AV}{a b c d:Obj}:gc 3 vs [a,b,c,d]=if Cm 3 vs [a,b,c,d]=true then[a,b,c]else[a,b,c,d]:=by unfold gc;rw[if_neg (by simp)];rfl
theorem as2{vs:List AV}{a b c:Obj}:gc 3 vs [a,b,c]=[a,b,c]:=eP (by simp)
theorem adt{τ:List (Nat×AV)}{nt:Nat}{ps:List Nat}{hJ b:K}{s:Option Ex}:Obj.below n (.loop τ nt ps hJ b s)=τ.all fun x=>AE.below n x.2:=rfl
theorem ajA{b:Nat}:uW σ 1 true (some [.map b])=some (.ptr σ.length 1 0 0,σ++[.av 1 [[.map b]] false]):=rfl
theorem agu{b:Nat}:cellsOf 1 false (.map b)=some [.map b]:=rfl
theorem SX{a:Obj}{es:List (PV×AV)}{r:ag}{kl:mX}{k:PV}{z:AV}(hl:su kl k=true)(h:findKey kl k es=some none):uo (a::.map es false::r) kl z (.map 1) (.p k) true=some (za [z,.p (.bool false)]):=by
 simp only[uo,XU,aa9,QS,hl,if_true,h,zy];rfl
theorem SY{a:Obj}{es:List (PV×AV)}{r:ag}{kl:mX}{k:PV}{z v:AV}(hl:su kl k=true)(h:findKey kl k es=some (some v)):uo (a::.map es false::r) kl z (.map 1) (.p k) true=some (za [v,.p (.bool true)]):=by
 simp only[uo,XU,aa9,QS,hl,if_true,h,zy];rfl
theorem aeF{vs:List AV}{i:Nat}:Of (.jC vs) i=vs[i]? := rfl
theorem aoA{a b c d e:AV}:cellsOf 5 true (.agg [a,b,c,d,e])=some [a,b,c,d,e]:=rfl
theorem ar1{a b c d:PV}{es:Nat}:uW σ es true (some [.p a,.p b,.p c,.p d,.aC])=some (.ptr σ.length 1 0 0,σ++[.av es [[.p a,.p b,.p c,.p d,.aC]] false]):=rfl
theorem avq{a:ByteArray}{z:PV}:kU σ 1 1 (gz (List.replicate 1 [.p z]).flatten [(0,1,.p (.str a))])=some (.sl σ.length 1,σ++[.pv 1 [[.str a]] false]):=rfl
theorem adG{j:Nat}{cs:List AV}:aG σ (j+1) (.jC cs)=(omap (aG σ j) cs).map .jC:=rfl
def kQ{S T:Type}(sto:S→ag)(out:T→Ex×ag):S ⊕ T→Ex×ag
 |.inl s=>(.normal,sto s)
 |.inr t=>out t
theorem P7{S T α:Type}{gv:AV}{kept:List (Nat×AV)}{ps:List Nat}{hJ b:K}{f0:FuncId}{fn:cL}{cap:List AV}(hfn:Up gv=some (f0,cap))(hF:P.fn f0=some fn)(hps:nodup ps=true∧ps.all (· < nt)=true)
  (arg:α→List AV) (sto:S→ag) (f:Nat→S→α→S ⊕ T) (out:T→Ex×ag) (ok:Nat→S→Prop) (as:List α) (s0:S) (hrd:ue rd (sto s0)=true)
  (iter:∀(σ σ':ag) (bb:Bool),rounds P (sto s0).length (as.map arg) σ=some (bb,σ')→∃v,call P fn (.yield (sto s0).length::cap) σ=some (v,σ'))
  (hlen:∀s,(sto s).length=(sto s0).length) (hout:∀t,(out t).2.length=(sto s0).length)
  (hbel:∀s,(sto s).all (Obj.below (sto s0).length)=true) (hbelo:∀t,(out t).2.all (Obj.below (sto s0).length)=true) (hnn:∀t,(out t).1≠.normal)
  (hstep:∀(i:Nat) (a:α) (s:S),as[i]?=some a→ok i s→(∀s',f i s a=.inl s'→ok (i+1) s') ∧
   round P (sto s0).length (arg a) (sto s++[.loop kept nt ps hJ b none])=(match f i s a with
    |.inl s'=>some (.p (.bool true),sto s'++[.loop kept nt ps hJ b none])
    |.inr t=>some (.p (.bool false),(out t).2++[.loop kept nt ps hJ b (some (out t).1)])))
  (h0:ok 0 s0):nk P ps hJ b gv kept (sto s0) nt rd=some (kQ sto out (aq f 0 s0 as)):=by
 have hr:=YL (P:=P) (n:=(sto s0).length) arg sto f out ok hlen hout as hstep as 0 s0 rfl h0
 have gcs:∀x:ag,x.length=(sto s0).length→x.all (Obj.below (sto s0).length)=true→gc (sto s0).length [] (x++[.gone])=x:=by
  intro x hx hb;unfold gc;rw[if_neg (by simp[hx])]
  have ht:(x++[Obj.gone]).take (sto s0).length=x:=by rw[←hx];simp
  rw[if_pos (by simp only[Cm,ht,abS,hb,QM]),ht]
 have seta:∀(x:ag) (o o':Obj),x.length=(sto s0).length→(x++[o]).set (sto s0).length o'=x++[o']:=by
  intro x o o' hx;rw[←hx];simp
 have geta:∀(x:ag) (o:Obj),x.length=(sto s0).length→(x++[o])[(sto s0).length]?=some o:=by
  intro x o hx;rw[←hx];simp
 unfold nk;simp only[hfn,hF,zy,hrd,hps,QM,if_true];cases hf:aq f 0 s0 as with
 |inl s=>
  rw[hf]at hr;obtain⟨v,hv⟩:=iter _ _ _ hr;rw[hv];simp only[zy,geta _ _ (hlen s),seta _ _ _ (hlen s),gcs _ (hlen s) (hbel s),kQ]
 |inr t=>
  rw[hf]at hr;obtain⟨v,hv⟩:=iter _ _ _ hr;rw[hv];have hn:=hnn t;simp only[zy,geta _ _ (hout t),seta _ _ _ (hout t),gcs _ (hout t) (hbelo t),kQ]
def Fa(es bytes:Nat)(args:List AV)(σ:ag):Option (AV×ag) :=
 match args with
 | [.sl b n,.p (.int .i64 i),.sl c m]=>
  match σ[b]?,σ[c]? with
  |some (.pv e rows false),some (.pv e' new _)=>
   if rows.length=n∧new.length=m∧b≠c∧(e=es∨e=0∧rows.isEmpty=true)∧e'=es∧0<m∧0≤i∧i.toNat≤n∧(n+m)*bytes≤140737488355328 then
    some (.sl b (n+m),σ.set b (.pv es (rows.take i.toNat++new++rows.drop i.toNat) false))
   else none
  |_,_=>none
 |_=>none
def Dh{α:Type}(lt:α→α→Bool)(x:α):List α→List α
 | []=>[x]
 |y::r=>if lt y x=true then y::Dh lt x r else x::y::r
def dd{α:Type}(lt:α→α→Bool):List α→List α
 | []=>[]
 |x::r=>Dh lt x (dd lt r)
def Jt{α:Type}(lt:α→α→Bool):List α→Bool
 | []=>true
 |x::r=>(r.all fun y=>lt x y ||lt y x) && Jt lt r
def xn(es:Nat)(g:FuncId)(ok:List PV→Bool)(lt:List PV→List PV→Bool):List AV→ag→Option (AV×ag)
 | [.sl b n,.p (.fn f [])],σ=>
  if f=g then
   match σ[b]? with
   |some (.pv e rows false)=>if rows.length=n∧n<4611686018427387904∧(rows=[]∨e=es)∧rows.all ok=true∧Jt lt rows=true then some (.p (.jC []),σ.set b (.pv e (dd lt rows) false))else none
   |_=>none
  else none
 |_,_=>none
def okV:List PV→Bool
 | [.str _,.int .i64 _]=>true
 |_=>false
def XW:List PV→List PV→Bool
 | [.str a,.int _ _],[.str b,.int _ _]=>slt a b
 |_,_=>false
def UM:List PV→List PV→Bool
 | [.str a,.int _ x],[.str b,.int _ y]=>slt a b ||(a.toList == b.toList && decide (x<y))
 |_,_=>false
def BJ(es:Nat)(g:FuncId)(ok:List PV→Bool)(lt:List PV→List PV→Bool):List AV→ag→Option (AV×ag)
 | [.sl b n,.p (.fn f [])],σ=>
  if f=g then
   match σ[b]? with
   |some (.pv e rows false)=>if rows.length=n∧n<4611686018427387904∧(rows=[]∨e=es)∧rows.all ok=true then some (.p (.jC []),σ.set b (.pv e (dd lt rows) false))else none
   |_=>none
  else none
 |_,_=>none
def yw(g1 g2:FuncId)(args:List AV)(σ:ag):Option (AV×ag):=(xn 2 g1 okV XW args σ).orElse fun _=>BJ 2 g2 okV UM args σ
def pQ:List (List PV)→List (List PV)
 | []=>[]
 | [a]=>[a]
 |a::b::r=>if eqVW a b then pQ (b::r)else a::pQ (b::r)
where eqVW:List PV→List PV→Bool
 | [.str a,.int _ x],[.str b,.int _ y]=>a.toList == b.toList && decide (x=y)
 |_,_=>false
def xl(es:Nat)(ok:List PV→Bool):List AV→ag→Option (AV×ag)
 | [.sl b n],σ=>
  match σ[b]? with
  |some (.pv e rows false)=>if rows.length=n∧n<4611686018427387904∧(rows=[]∨e=es)∧rows.all ok=true then some (.sl σ.length (pQ rows).length,σ.set b .gone++[.pv e (pQ rows) false])else none
  |_=>none
 |_,_=>none
def yv:List AV→ag→Option (AV×ag)
 | [.p (.aM rows)],σ=>if rows.length*64≤140737488355328∧(rows.all fun r=>r.length == 5)=true then some (.sl σ.length rows.length,σ++[.pv 5 rows false])else none
 |_,_=>none
abbrev eqs:=
 And.intro @aje <|And.intro @Ni <|And.intro @VU <|And.intro @TE <|And.intro @ac7 <|And.intro @OE <|And.intro @XE <|
 And.intro @Uu <|And.intro @agU <|And.intro @agS <|And.intro @ajd <|And.intro @aq8 <|And.intro @ak1 <|And.intro @amG <|And.intro @apJ <|
 And.intro @apI <|And.intro @aqC <|And.intro @aqD <|And.intro @ajw <|And.intro @ajt <|And.intro @ajv <|And.intro @aju <|And.intro @amU <|And.intro @ann <|
 And.intro @aht <|And.intro @Xi <|And.intro @tmE <|And.intro @Qw <|And.intro @ary <|And.intro @XD <|And.intro @ajx <|And.intro @ag3 <|
 And.intro @apX <|And.intro @apY <|And.intro @ap0 <|And.intro @ag9 <|And.intro @ajK <|And.intro @akR <|And.intro @aq7 <|And.intro @ak4 <|And.intro @YK <|
 And.intro @ak3 <|And.intro @YJ <|And.intro @acD <|And.intro @amx <|And.intro @ae1 <|And.intro @aed <|And.intro @aee <|And.intro @aef <|
 And.intro @at6 <|And.intro @aqz <|And.intro @anC <|And.intro @akv <|And.intro @anz <|And.intro @akx <|And.intro @aqw <|And.intro @aqv <|And.intro @aqB <|
 And.intro @aqA <|And.intro @akB <|And.intro @anp <|And.intro @akC <|And.intro @anq <|And.intro @aqx <|And.intro @akD <|And.intro @akE <|And.intro @anr <|
 And.intro @ans <|And.intro @anE <|And.intro @anF <|And.intro @ahy <|And.intro @adx <|And.intro @anw <|And.intro @anx <|And.intro @anv <|
 And.intro @anu <|And.intro @ahz <|And.intro @anA <|And.intro @ahA <|And.intro @aqy <|And.intro @akF <|And.intro @anD <|And.intro @asV <|And.intro @ajq <|And.intro @aku <|And.intro @ant <|And.intro @aqu <|And.intro @ahx <|And.intro @akw <|And.intro @Ay <|And.intro @ti <|
 And.intro @akH <|And.intro @anB <|And.intro @akG <|And.intro @ahw <|And.intro @aky <|And.intro @akA <|And.intro @akz <|And.intro @ady <|And.intro @agi <|And.intro @aiI <|And.intro @acE <|And.intro @ajr <|And.intro @asZ <|And.intro @as0 <|
 And.intro @as1 <|And.intro @MM <|And.intro @agj <|And.intro @ZP <|And.intro @VZ <|And.intro @agk <|And.intro @Bh <|And.intro @V1 <|
 And.intro @yu <|And.intro @aln <|And.intro @an9 <|And.intro @aoa <|And.intro @atC <|And.intro @aqo <|And.intro @akg <|And.intro @arc <|And.intro @amo <|
 And.intro @ard <|And.intro @arf <|And.intro @arh <|And.intro @are <|And.intro @al1 <|And.intro @avV <|And.intro @auA <|And.intro @any_some <|And.intro @ao2 <|
 And.intro @YE <|And.intro @aqe <|And.intro @aoY <|And.intro @aoZ <|And.intro @as3 <|And.intro @as2 <|And.intro @adt <|And.intro @vK <|And.intro @ze <|
 And.intro @ajA <|And.intro @agu <|And.intro @aeF <|And.intro @aoA <|And.intro @ar1 <|And.intro @avq <|And.intro @adG <|And.intro @aot <|
 And.intro @auI <|And.intro @au1 <|And.intro @auT <|And.intro @auL <|And.intro @auW <|And.intro @auQ <|And.intro @auP <|And.intro @auN <|And.intro @auM <|And.intro @arO <|
 And.intro @arQ <|And.intro @arP <|And.intro @auX <|And.intro @auK <|And.intro @auU <|And.intro @auV <|And.intro @arI <|And.intro @aon <|And.intro @arM <|
 And.intro @arL <|And.intro @aor <|And.intro @arN <|And.intro @auR <|And.intro @auS <|And.intro @arJ <|And.intro @aoo <|And.intro @arK <|And.intro @aop <|
 And.intro @aib <|And.intro @alB <|And.intro @Vt <|And.intro @Term.avL <|And.intro @Term.avM <|And.intro @Term.avN <|And.intro @Term.avP <|And.intro @Term.avQ <|
 And.intro @av1 <|And.intro @auO <|And.intro @alJ <|And.intro @aia <|And.intro @ah9 <|And.intro @alK <|And.intro @bs1 <|And.intro @bs2 <|And.intro @bs3 <|
 And.intro @bs4 <|And.intro @bs6 <|And.intro @Es <|And.intro @bs0 <|And.intro @avX <|And.intro @Yb <|And.intro @ajj <|And.intro @agW <|And.intro @ajm <|
 And.intro @decide_true <|And.intro @decide_false <|And.intro @decide_not <|And.intro @and_self <|And.intro @and_true <|And.intro @true_and <|And.intro @and_false <|And.intro @false_and <|
 And.intro @or_true <|And.intro @true_or <|And.intro @or_false <|And.intro @false_or <|And.intro @not_true_eq_false <|And.intro @not_false_eq_true <|And.intro @alS <| @aoy
abbrev eqL:=
 And.intro @List.map_cons.{0,0} <|And.intro @List.map_nil.{0,0} <|And.intro @List.flatMap_cons.{0,0} <|And.intro @List.flatMap_nil.{0,0} <|And.intro @List.append_nil.{0} <|And.intro @List.nil_append.{0} <|And.intro @ite_self.{1} <|And.intro @List.all_cons.{0} <|And.intro @List.all_nil.{0} <|And.intro @List.take_succ_cons.{0} <|And.intro @List.take_zero.{0} <|And.intro @abR <|And.intro @QM <|And.intro @VG <|And.intro @List.cons_append.{0} <|And.intro @List.set_cons_zero.{0} <|And.intro @List.set_cons_succ.{0} <|And.intro @List.flatten_cons.{0} <|And.intro @List.flatten_nil.{0} <|And.intro @List.zip_cons_cons.{0,0} <|And.intro @List.zip_nil_left.{0,0} <|And.intro @List.getElem?_cons_zero.{0} <|And.intro @List.getElem?_cons_succ.{0} <|And.intro @List.length_cons.{0} <|And.intro @List.length_nil.{0} <|And.intro @Option.map_some.{0,0} <|And.intro @Option.map_none.{0,0} <|And.intro @ab1 <|And.intro @ab4 <|And.intro @Bool.not_not <|And.intro @kS <| @Nb
abbrev eqD:=
 And.intro @omap.eq_1 <|And.intro @omap.eq_2 <|And.intro @depth.eq_1 <|And.intro @X7.eq_1 <|And.intro @X7.eq_2 <|And.intro @afI.eq_1 <|And.intro @afI.eq_2 <|And.intro @ed.eq_1 <|And.intro @bL.eq_1 <|And.intro @bL.eq_2 <|And.intro @arF.eq_1 <|And.intro @arF.eq_2 <|And.intro @GK.eq_1 <|And.intro @GK.eq_2 <|And.intro @adE.eq_1 <|And.intro @adE.eq_2 <|And.intro @wz.eq_1 <|And.intro @number.eq_1 <|And.intro @number.eq_2 <|And.intro @Cm.eq_1 <|And.intro @kQ.eq_1 <|And.intro @kQ.eq_2 <| @za.eq_1
abbrev bK:=
 And.intro eqs <|And.intro eqL eqD
theorem aD{a b:Nat}(h:Nat.ble a b=true):a≤b:=Nat.le_of_ble_eq_true h
variable {P:Prog} {τ:Tm} {σ:ag} {k k0 k1 k2:IntKind} {a b c d e x y z u v:AV} {o0 o1 o2 o3:Obj} {r:ag} {es n f:Nat} {fr:Bool}
theorem anG:part 0 1 [a,b,c,d,e]=some [a]:=rfl
theorem anH:part 1 1 [a,b,c,d,e]=some [b]:=rfl
theorem anI:part 2 1 [a,b,c,d,e]=some [c]:=rfl
theorem anJ:part 3 1 [a,b,c,d,e]=some [d]:=rfl
theorem anK:part 4 1 [a,b,c,d,e]=some [e]:=rfl
theorem aqH:part 0 5 [a,b,c,d,e]=some [a,b,c,d,e]:=rfl
theorem aqK:ck 0 [x] [a,b,c,d,e]=some [x,b,c,d,e]:=rfl
theorem aqL:ck 1 [x] [a,b,c,d,e]=some [a,x,c,d,e]:=rfl
theorem aqM:ck 2 [x] [a,b,c,d,e]=some [a,b,x,d,e]:=rfl
theorem aqN:ck 3 [x] [a,b,c,d,e]=some [a,b,c,x,e]:=rfl
theorem aqO:ck 4 [x] [a,b,c,d,e]=some [a,b,c,d,x]:=rfl
theorem aui:ck 0 [x,y,z,u,v] [a,b,c,d,e]=some [x,y,z,u,v]:=rfl
def Mm(n i o size:Nat)(agg:Bool):Option Obj→Option AV
 |some (.pv _ rows _)=>if rows.length=n then((rows[i]?.bind (part o size)).bind (oG agg)).map .p else none
 |some (.av _ rows _)=>if rows.length=n then(rows[i]?.bind (part o size)).bind (mJ agg)else none
 |_=>none
theorem atj{bb n i o size:Nat}{agg:Bool}:gU σ size agg (.ptr bb n i o)=Mm n i o size agg σ[bb]? := by
 simp only[gU];cases σ[bb]? with
 |none=>rfl
 |some ob=>cases ob<;>rfl
def ofC(agg:Bool):Option (List AV)→Option AV
 |some l=>mJ agg l
 |none=>none
theorem aqd{o size:Nat}{agg:Bool}{row:List AV}:Mm 1 0 o size agg (some (.av es [row] fr))=ofC agg (part o size row):=by
 simp only[Mm,lH,l5,if_true,QS,zy];cases part o size row<;>rfl
theorem at3:ofC false (some [a])=some a:=rfl
theorem at4:ofC true (some [a,b,c,d,e])=some (y9 [a,b,c,d,e]):=rfl
theorem aj9{pa pb pc pd:PV}{bb n:Nat}:y9 [.p pa,.p pb,.p pc,.p pd,.sl bb n]=.agg [.p pa,.p pb,.p pc,.p pd,.sl bb n]:=rfl
theorem adq{pa pb pc pd:PV}:y9 [.p pa,.p pb,.p pc,.p pd,.aC]=.agg [.p pa,.p pb,.p pc,.p pd,.aC]:=rfl
theorem anb{pa pb pc pd pe:PV}:y9 [.p pa,.p pb,.p pc,.p pd,.p pe]=.p (.agg [pa,pb,pc,pd,pe]):=rfl
def RU(σ:ag)(bb n i o:Nat)(new:List AV):Option Obj→Option ag
 |some (.pv es rows false)=>if rows.length=n then
   (rows[i]?.bind fun r=>
    match ae new with
    |some ps=>(ck o ps r).map fun r'=>σ.set bb (.pv es (rows.set i r') false)
    |none=>(ck o new (r.map .p)).map fun r'=>σ.set bb (.av es ((rows.map fun r=>r.map .p).set i r') false))else none
 |some (.av es rows false)=>if rows.length=n then
   (rows[i]?.bind fun r=>(ck o new r).map fun r'=>
    σ.set bb (match(rows.set i r')with
     | [r'']=>match ae r'' with
      |some ps=>.pv es [ps] false
      |none=>.av es [r''] false
     |rows'=>.av es rows' false))else none
 |_=>none
theorem vZ{bb n i o:Nat}{new:List AV}:setRow σ bb n i o new=RU σ bb n i o new σ[bb]? := by
 simp only[setRow];cases σ[bb]? with
 |none=>rfl
 |some ob=>
  cases ob with
  |pv es rows fr=>cases fr<;>rfl
  |av es rows fr=>cases fr<;>rfl
  |_=>rfl
def stF(σ:ag)(bb es:Nat):Option (List AV)→Option ag
 |some r=>some (σ.set bb (mkObj es r))
 |none=>none
theorem art{bb o:Nat}{new row:List AV}:RU σ bb 1 0 o new (some (.av es [row] false))=stF σ bb es (ck o new row):=by
 simp only[RU,lH,l5,if_true,QS,zy,abc];cases ck o new row with
 |none=>rfl
 |some r=>simp only[xu,stF,mkObj];cases ae r<;>rfl
theorem aru{bb o s m:Nat}{row:List PV}:RU σ bb 1 0 o [.sl s m] (some (.pv es [row] false))=stF σ bb es (ck o [.sl s m] (row.map .p)):=by
 simp only[RU,lH,l5,if_true,QS,zy,ae,sP,Cb,abc];cases h:ck o [AV.sl s m] (row.map .p)with
 |none=>rfl
 |some r=>
  simp only[xu,stF,mkObj]
  have:ae r=none:=by
   unfold ck at h;split at h
   ·cases h
    have key:∀(l:List PV) (t:List AV),ae (l.map .p++.sl s m::t)=none:=by
     intro l t
     induction l with
     |nil=>rfl
     |cons q l ih=>simp[ae,ih]
    rw[TA,←acp];exact key _ _
   ·cases h
  rw[this]
theorem alq{bb:Nat}{row:List AV}:stF σ bb es (some row)=some (σ.set bb (mkObj es row)):=rfl
theorem ake{pa pb pc pd:PV}{bb n:Nat}:mkObj es [.p pa,.p pb,.p pc,.p pd,.sl bb n]=.av es [[.p pa,.p pb,.p pc,.p pd,.sl bb n]] false:=rfl
theorem anc{row:List PV}:mkObj es (row.map .p)=.pv es [row] false:=by simp[mkObj,Ds]
theorem akc{q:PV}:mkObj es [.p q]=.pv es [[q]] false:=rfl
theorem ai8{pa pb pc pd:PV}:aW [.p pa,.p pb,.p pc,.p pd,.aC] σ=([.p pa,.p pb,.p pc,.p pd,.sl σ.length 0],σ++[.pv 0 [] false]):=rfl
theorem ai9:∀(row:List PV) (σ:ag),aW (row.map .p) σ=(row.map .p,σ)
 | [],_=>rfl
 |q::row,σ=>by simp only[sP,aW,ai9 row σ]
theorem aiD{cs:List AV}:vl es (cs,σ)=some (.ptr σ.length 1 0 0,σ++[mkObj es cs]):=rfl
theorem ap5{size:Nat}{cs:List AV}:uW σ size false (some cs)=vl size (aW cs σ):=rfl
theorem arw{bb n i o:Nat}{q:Int}:eM σ 1 (.ptr bb n i o) (.p (.int k q))=RU σ bb n i o [.p (.int k q)] σ[bb]? := by rw[←vZ];rfl
theorem arx{bb n i o:Nat}{q:ByteArray}:eM σ 1 (.ptr bb n i o) (.p (.str q))=RU σ bb n i o [.p (.str q)] σ[bb]? := by rw[←vZ];rfl
theorem auB{bb n i o s m:Nat}:eM σ 1 (.ptr bb n i o) (.sl s m)=RU σ bb n i o [.sl s m] σ[bb]? := by rw[←vZ];rfl
theorem aod{bb n i o:Nat}:eM σ 1 (.ptr bb n i o) .aC=RU (σ++[.pv 0 [] false]) bb n i o [.sl σ.length 0] (σ++[.pv 0 [] false])[bb]? := by rw[←vZ];rfl
theorem arv{bb n i o s m:Nat}{pa pb pc pd:PV}:eM σ 5 (.ptr bb n i o) (.agg [.p pa,.p pb,.p pc,.p pd,.sl s m])=RU σ bb n i o [.p pa,.p pb,.p pc,.p pd,.sl s m] σ[bb]? := by rw[←vZ];rfl
theorem aof{bb n i o:Nat}{pa pb pc pd:PV}:eM σ 5 (.ptr bb n i o) (.agg [.p pa,.p pb,.p pc,.p pd,.aC])=RU (σ++[.pv 0 [] false]) bb n i o [.p pa,.p pb,.p pc,.p pd,.sl σ.length 0] (σ++[.pv 0 [] false])[bb]? := by rw[←vZ];rfl
theorem avU{bb n i o:Nat}{t:Term}:eM σ 5 (.ptr bb n i o) (.p (.agg t.row))=RU σ bb n i o (t.row.map .p) σ[bb]? := by
 rw[←vZ];simp only[eM,Vt,aO,Term.aB,if_true,ai9]
theorem aqR{t:Term}:ck 0 (t.row.map .p) [a,b,c,d,e]=some (t.row.map .p):=by rw[Term.aR];rfl
theorem aqP{t:Term}:ck 0 [x] (t.row.map .p)=some [x,.p (.int .i64 t.w),.p (.int .u64 t.v),.p (.str t.name),.p (.aM (t.args.map Term.row))]:=by rw[Term.aR];rfl
theorem aqQ{t:Term}:ck 4 [x] (t.row.map .p)=some [.p (.int .i64 t.op),.p (.int .i64 t.w),.p (.int .u64 t.v),.p (.str t.name),x]:=by rw[Term.aR];rfl
theorem ath{t:Term}:Mm 1 0 0 5 true (some (.pv es [t.row] fr))=some (.p (.agg t.row)):=by
 simp only[Mm,lH,l5,if_true,QS,zy];rw[Term.aR];rfl
theorem amq:k8 [a,b,c,d,e] []=some (y9 [a,b,c,d,e]):=rfl
theorem ams{q0 q1 q2:Int}{q3:ByteArray}:k8 [a,b,c,d,e] [(0,1,.p (.int k0 q0)),(1,1,.p (.int k1 q1)),(2,1,.p (.int k2 q2)),(3,1,.p (.str q3))]=some (y9 [.p (.int k0 q0),.p (.int k1 q1),.p (.int k2 q2),.p (.str q3),e]):=rfl
theorem amr{q0 q1:Int}{q3:ByteArray}:k8 [a,b,c,d,e] [(0,1,.p (.int k0 q0)),(1,1,.p (.int k1 q1)),(3,1,.p (.str q3))]=some (y9 [.p (.int k0 q0),.p (.int k1 q1),c,.p (.str q3),e]):=rfl
theorem anN{j:Nat}{cs:List AV}:aG σ (j+1) (.agg cs)=(omap (aG σ j) cs).map .agg:=rfl
theorem akP{j n:Nat}{rows:List (List PV)}:aG (o0::.pv es rows fr::r) (j+1) (.sl 1 n)=if rows.length=n then some (.aM rows)else none:=by simp[aG]
theorem apb{j n:Nat}{rows:List (List PV)}:aG (o0::o1::.pv es rows fr::r) (j+1) (.sl 2 n)=if rows.length=n then some (.aM rows)else none:=by simp[aG]
theorem aug{j n:Nat}{rows:List (List PV)}:aG (o0::o1::o2::.pv es rows fr::r) (j+1) (.sl 3 n)=if rows.length=n then some (.aM rows)else none:=by simp[aG]
theorem akQ{j n:Nat}{rows:List (List PV)}:aG (o0::o1::o2::o3::.pv es rows fr::r) (j+1) (.sl 4 n)=if rows.length=n then some (.aM rows)else none:=by simp[aG]
theorem aq4{j n:Nat}{rows:List (List PV)}:refs (o0::.pv es rows fr::r) (j+1) (.sl 1 n)=[1]:=rfl
theorem aq5{j n:Nat}{rows:List (List PV)}:refs (o0::o1::.pv es rows fr::r) (j+1) (.sl 2 n)=[2]:=rfl
theorem aq6{j n:Nat}{rows:List (List PV)}:refs (o0::o1::o2::.pv es rows fr::r) (j+1) (.sl 3 n)=[3]:=rfl
theorem akZ{j:Nat}{cs:List AV}:refs σ (j+1) (.agg cs)=cs.flatMap (refs σ j):=rfl
theorem asT{rows:List (List PV)}:dK (o0::o1::.pv es rows fr::r) 2=o0::o1::.pv es rows true::r:=rfl
theorem asU{rows:List (List PV)}:dK (o0::o1::o2::.pv es rows fr::r) 3=o0::o1::o2::.pv es rows true::r:=rfl
theorem alp{q:List PV}:nn [o0,o1,o2,o3,.pv es [q] fr] es (.sl 4 1)=some (.inl [q]):=EN rfl rfl (.inl rfl)
theorem alo{q:List PV}:nn [o0,o1,o2,.pv es [q] fr] es (.sl 3 1)=some (.inl [q]):=EN rfl rfl (.inl rfl)
structure V2 where
 name:ByteArray
 w:Int
def ay(v:V2):List PV:=[.str v.name,.int .i64 v.w]
theorem avs{q:ByteArray}{w:Int}{z0 z1:AV}:kU σ 2 1 (gz (List.replicate 1 [z0,z1]).flatten [(0,2,.p (.agg [.str q,.int k w]))])=some (.sl σ.length 1,σ++[.pv 2 [[.str q,.int k w]] false]):=rfl
theorem amN{q:Int}{c:Bool}:PV.flat (.jC [.int k q,.bool c])=true:=by simp[PV.flat]
theorem amO{q q':Int}:PV.flat (.jC [.int k q,.int k0 q'])=true:=by simp[PV.flat]
theorem aoq{qa qb:PV}:uW σ n true (some [.p qa,.p qb])=some (.p (.ptr [qa,qb] 0),σ):=rfl
theorem amt{q:ByteArray}{w:Int}:k8 [a,b] [(0,1,.p (.str q)),(1,1,.p (.int k w))]=some (.p (.agg [.str q,.int k w])):=rfl
theorem asP:aW [.aC] σ=([.sl σ.length 0],σ++[.pv 0 [] false]):=rfl
theorem akd{bb n:Nat}:mkObj es [.sl bb n]=.av es [[.sl bb n]] false:=rfl
theorem aqG:part 0 1 [a]=some [a]:=rfl
theorem auh:ck 0 [x] [a]=some [x]:=rfl
theorem MN{f:FuncId}{cap:List PV}{args:List AV}:sQ P (.p (.fn f cap)) args σ=lJ P f (args++cap.map .p) σ:=ae1
theorem Tg{j:Nat}:refs σ j .aC=[]:=by cases j<;>rfl
abbrev eqM:=
 And.intro @anG <|And.intro @anH <|And.intro @anI <|And.intro @anJ <|And.intro @anK <|And.intro @aqH <|And.intro @aqK <|And.intro @aqL <|And.intro @aqM <|
 And.intro @aqN <|And.intro @aqO <|And.intro @aui <|And.intro @atj <|And.intro @aqd <|And.intro @at3 <|And.intro @at4 <|And.intro @aj9 <|And.intro @adq <|
 And.intro @anb <|And.intro @art <|And.intro @aru <|And.intro @alq <|And.intro @ake <|And.intro @anc <|And.intro @akc <|And.intro @ai8 <|And.intro @ai9 <|
 And.intro @aiD <|And.intro @ap5 <|And.intro @arw <|And.intro @arx <|And.intro @auB <|And.intro @aod <|And.intro @arv <|And.intro @aof <|And.intro @avU <|
 And.intro @aqR <|And.intro @aqP <|And.intro @aqQ <|And.intro @ath <|And.intro @amq <|And.intro @ams <|And.intro @amr <|And.intro @anN <|And.intro @akP <|
 And.intro @apb <|And.intro @aug <|And.intro @akQ <|And.intro @aq4 <|And.intro @aq5 <|And.intro @aq6 <|And.intro @akZ <|And.intro @asT <|And.intro @asU <|
 And.intro @alo <|And.intro @alp <|And.intro @avs <|And.intro @amN <|And.intro @amO <|And.intro @aoq <|And.intro @amt <|And.intro @asP <|And.intro @akd <|
 And.intro @aqG <| @auh
abbrev aA:=
 And.intro bK eqM
end Go.AE
