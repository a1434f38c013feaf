import Derived.Test.YtpccheodgonkkaaGreatA0
import Derived.IntWalk
import Derived.Laws.Strings
set_option linter.unusedSimpArgs false
set_option linter.unusedVariables false
namespace Go.AE
variable {P:Prog} {τ:Tm} {σ σ':ah} {nt d n:Nat} {rd:Option Nat} {st:St}
abbrev aC(d:Nat)(x:O):gr:=⟨some d,.mv x false,none⟩
abbrev ak(d:Nat)(op:mY):gr:=⟨some d,op,none⟩
abbrev kI(n:Int):O:=.c (.p (.int .i64 n))
theorem aoJ{k t:Nat}{v:AV}{r:List (Nat×AV)}:(tm ((k,v)::r)).get t=if k=t then v else(tm r).get t:=rfl
theorem tmE:(∀(τ:Tm) (d t:Nat) (v:AV),(ef τ d v).get t=if d=t then v else τ.get t)∧(∀(k t:Nat) (v:AV) (r:List (Nat×AV)),(tm ((k,v)::r)).get t=if k=t then v else(tm r).get t) ∧
  (∀(τ:Tm) (n:Nat),O.val τ (.t n)=τ.get n)∧(∀(τ:Tm) (v:AV),O.val τ (.c v)=v):=⟨fun _ _ _ _=>rfl,fun _ _ _ _=>rfl,fun _ _=>rfl,fun _ _=>rfl⟩
def auS:Option St→Option (Ex×St)
 |some st=>some (.normal,st)
 |none=>none
def afR(P:Prog)(v:AV)(a b:K)(st:St):Option (Ex×St) :=
 match v with
 |.p (.bool true)=>exec P a st
 |.p (.bool false)=>exec P b st
 |_=>none
def GG(P:Prog)(d:Option Nat)(r:List gr)(τ:Tm)(nt:Nat)(rd:Option Nat):Option (AV×ah)→Option St
 |some (v,σ')=>(St.put ⟨τ,σ',nt,rd⟩ d v).bind (gi P r)
 |none=>none
def C4(P:Prog)(d:Option Nat)(op:mY)(r:List gr)(want:Bool)(τ:Tm)(σ:ah)(nt:Nat)(rd:Option Nat):AV→Option St
 |.p (.bool b)=>if b=want then GG P d r τ nt rd (cQ P σ τ op)else(St.put ⟨τ,σ,nt,rd⟩ d (.p (.jY []))).bind (gi P r)
 |.p (.jY [])=>(St.put ⟨τ,σ,nt,rd⟩ d (.p (.jY []))).bind (gi P r)
 |_=>none
theorem aq9{op:mY}{d:Option Nat}{r:List gr}:gi P (⟨d,op,none⟩::r) ⟨τ,σ,nt,rd⟩=GG P d r τ nt rd (cQ P σ τ op):=by
 rw[Ie];simp only[iC,Az,if_true];cases cQ P σ τ op<;>rfl
theorem ara{op:mY}{d:Option Nat}{r:List gr}{t:Nat}{b:Bool}:gi P (⟨d,op,some (t,b)⟩::r) ⟨τ,σ,nt,rd⟩=C4 P d op r b τ σ nt rd (τ.get t):=by
 rw[Ie];simp only[iC];split
 ·rename_i c h
  simp only[Az,h,C4];cases c<;>cases b<;>simp<;>cases cQ P σ τ op<;>rfl
 ·rename_i h
  simp[h,C4]
 ·rename_i h1 h2
  simp only[Option.bind_none];unfold C4;split
  ·rename_i h;exact absurd h (h1 _)
  ·rename_i h;exact absurd h h2
  ·rfl
theorem anc{c:O}{a b:K}:exec P (.cond c a b) st=afR P (c.val st.τ) a b st:=by
 rw[aht];unfold wh afR;split
 ·rename_i b h
  cases b<;>simp[h]
 ·rename_i h
  split
  ·rename_i h';exact absurd h' (h _)
  ·rename_i h';exact absurd h' (h _)
  ·rfl
theorem arI{d:Bool}{ops:List gr}:exec P (.cm d ops) st=auS (gi P ops st):=by
 rw[ajH];cases gi P ops st<;>rfl
def aly(ops:List gr)(prs:List (Nat×Nat))(st0:St):Option St→Option (Ex×St)
 |some st=>if Br ops prs st.τ=true then some (.normal,st)else if Dn ops prs st0 st=true then some (.normal,st)else none
 |none=>none
theorem Bq{ops:List gr}{prs:List (Nat×Nat)}:exec P (.Gj ops prs) st=aly ops prs st (gi P ops st):=by
 rw[ahv];cases gi P ops st with
 |none=>rfl
 |some s=>simp only[aly,Az,RC];split<;>rename_i h;rcases h with h|h<;>simp[h];rw[not_or]at h;rw[if_neg h.1,if_neg h.2]
theorem ua{ops:List gr}{prs:List (Nat×Nat)}{st0:St}:aly ops prs st0 (some st)=if Br ops prs st.τ=true then some (.normal,st)else if Dn ops prs st0 st=true then some (.normal,st)else none:=rfl
theorem anR{r:List gr}{v:AV}(h:d<nt):GG P (some d) r τ nt rd (some (v,σ'))=gi P r ⟨ef τ d v,σ',nt,rd⟩:=by simp[GG,St.put,h]
theorem ah1{r:List gr}{v:AV}:GG P none r τ nt rd (some (v,σ'))=gi P r ⟨τ,σ',nt,rd⟩:=rfl
theorem aj2{d:Option Nat}{op:mY}{r:List gr}:C4 P d op r true τ σ nt rd (.p (.bool true))=GG P d r τ nt rd (cQ P σ τ op):=rfl
theorem ajZ{d:Option Nat}{op:mY}{r:List gr}:C4 P d op r false τ σ nt rd (.p (.bool false))=GG P d r τ nt rd (cQ P σ τ op):=rfl
theorem aj1{d:Option Nat}{op:mY}{r:List gr}:C4 P d op r true τ σ nt rd (.p (.bool false))=GG P d r τ nt rd (some (.p (.jY []),σ)):=rfl
theorem aj0{d:Option Nat}{op:mY}{r:List gr}:C4 P d op r false τ σ nt rd (.p (.bool true))=GG P d r τ nt rd (some (.p (.jY []),σ)):=rfl
theorem anp{d:Option Nat}{op:mY}{r:List gr}{b:Bool}:C4 P d op r b τ σ nt rd (.p (.jY []))=GG P d r τ nt rd (some (.p (.jY []),σ)):=rfl
theorem aqf{a b:K}:afR P (.p (.bool true)) a b st=exec P a st:=rfl
theorem aqe{a b:K}:afR P (.p (.bool false)) a b st=exec P b st:=rfl
theorem alz:auS (some st)=some (.normal,st):=rfl
theorem auF{x:O}:cQ P σ τ (.mv x false)=some (x.val τ,σ):=by
 simp only[cQ,plain];split
 ·rename_i h;simp[h]
 ·rfl
def mvE(σ:ah):AV→Option (AV×ah)
 |.aA=>some (.sl σ.length 0,σ++[.pv 0 [] false])
 |v=>some (v,σ)
theorem aq6{x:O}:cQ P σ τ (.mv x true)=mvE σ (x.val τ):=by
 simp only[cQ,plain,mvE];split
 ·rename_i h;simp[h]
 ·rename_i h;split
  ·rename_i h';exact absurd h' h
  ·rfl
def gU(σ:ah):Option AV→Option (AV×ah)
 |some v=>some (v,σ)
 |none=>none
theorem dN{op:mY}(h:plain σ τ op=(quiet σ τ op).map fun v=>(v,σ))(h':cQ P σ τ op=plain σ τ op):cQ P σ τ op=gU σ (quiet σ τ op):=by
 rw[h',h];cases quiet σ τ op<;>rfl
def alg:AV→AV→AV→Option AV
 |.p (.bool true),a,_=>some a
 |.p (.bool false),_,b=>some b
 |_,_,_=>none
theorem an6{c a b:O}:cQ P σ τ (.pick c a b)=gU σ (alg (c.val τ) (a.val τ) (b.val τ)):=by
 rw[dN (op:=.pick c a b) rfl rfl];simp only[quiet,wh,alg];split
 ·rename_i b h
  cases b<;>simp[h]
 ·rename_i h
  split
  ·rename_i h';exact absurd h' (h _)
  ·rename_i h';exact absurd h' (h _)
  ·rfl
def cB(op:BinOp):AV→AV→Option AV
 |.p a,.p b=>(binop op a b).map .p
 |_,_=>none
theorem ak0{op:BinOp}{x y:O}:cQ P σ τ (.arith op x y)=gU σ (cB op (x.val τ) (y.val τ)):=by
 rw[dN (op:=.arith op x y) rfl rfl];simp only[quiet,cB];split<;>split<;>simp_all
theorem an3{size:Nat}{agg:Bool}{x:O}:cQ P σ τ (.load size agg x)=gU σ (iu σ size agg (x.val τ)):=dN (op:=.load size agg x) rfl rfl
def j7(zero:List AV)(ps:List (Nat×Nat×AV)):Option AV:=(gR zero ps).map zZ
theorem ak2{zero:List AV}{ps:List (Nat×Nat×O)}:cQ P σ τ (.build zero ps)=gU σ (j7 zero (ps.map fun x=>(x.1,x.2.1,x.2.2.val τ))):=dN (op:=.build zero ps) rfl rfl
def aqn(neg:Bool)(a b:AV):Option AV:=(wh a).bind fun a=>(wh b).map fun b=>.p (.bool (if neg then !(a == b)else a == b))
theorem aq3{neg:Bool}{x y:O}:cQ P σ τ (.eqB neg x y)=gU σ (aqn neg (x.val τ) (y.val τ)):=dN (op:=.eqB neg x y) rfl rfl
def X7(neg:Bool)(lv:List ny)(a b:AV):Option AV:=match a,b with
 |.p (.agg a),.p (.agg b)=>(dF lv a b).map fun t=>.p (.bool (if neg then !t else t))
 |_,_=>none
theorem aq2{neg:Bool}{lv:List ny}{x y:O}:cQ P σ τ (.eqA neg lv x y)=gU σ (X7 neg lv (x.val τ) (y.val τ)):=by
 rw[dN (op:=.eqA neg lv x y) rfl rfl];simp only[quiet,X7];split<;>split<;>simp_all
def auC(v:AV):Option AV:=(wh v).map fun t=>.p (.bool !t)
theorem aq8{x:O}:cQ P σ τ (.not x)=gU σ (auC (x.val τ)):=dN (op:=.not x) rfl rfl
def auB:AV→Option AV
 |.p (.int k n)=>some (.p (.int k (k.wrap (0-n))))
 |_=>none
theorem aq7{x:O}:cQ P σ τ (.neg x)=gU σ (auB (x.val τ)):=dN (op:=.neg x) rfl rfl
def adD:AV→Option AV
 |.p (.int k n)=>(tM .xor k (if k.signed then -1 else k.max) n).map .p
 |_=>none
theorem ak6{x:O}:cQ P σ τ (.Li x)=gU σ (adD (x.val τ)):=dN (op:=.Li x) rfl rfl
def apf(k:IntKind):AV→Option AV
 |.p (.int _ n)=>some (.p (.int k (k.wrap n)))
 |_=>none
theorem anU{k:IntKind}{x:O}:cQ P σ τ (.conv k x)=gU σ (apf k (x.val τ)):=dN (op:=.conv k x) rfl rfl
def ajs:AV→Option AV
 |.p (.str s)=>some (.p (.str s))
 |_=>none
theorem ak7{x:O}:cQ P σ τ (.OR x)=gU σ (ajs (x.val τ)):=dN (op:=.OR x) rfl rfl
def Pd(off:Nat):AV→Option AV
 |.p (.ptr row o)=>some (.p (.ptr row (o+off)))
 |.ptr b n i o=>some (.ptr b n i (o+off))
 |_=>none
theorem anV{off:Nat}{x:O}:cQ P σ τ (.bH off x)=gU σ (Pd off (x.val τ)):=dN (op:=.bH off x) rfl rfl
def avZ(off size:Nat)(agg:Bool):AV→Option AV
 |.p (.agg cs)=>((part off size cs).bind (pf agg)).map .p
 |.agg cs=>(part off size cs).bind (nb agg)
 |_=>none
theorem aq4{off size:Nat}{agg:Bool}{x:O}:cQ P σ τ (.fld off size agg x)=gU σ (avZ off size agg (x.val τ)):=dN (op:=.fld off size agg x) rfl rfl
def aqA (len es : Nat) (x i : AV) : Option AV := (nE i).bind fun n =>
    if n<len then match x with
      | .p (.ptr row o)=>some (.p (.ptr row (o+n*es)))
      | .ptr b m i o=>some (.ptr b m i (o+n*es))
      | _=>none
    else none
theorem ak8{len es:Nat}{x i:O}:cQ P σ τ (.Pw len es x i)=gU σ (aqA len es (x.val τ) (i.val τ)):=dN (op:=.Pw len es x i) rfl rfl
def gj (σ : ah) (es : Nat) (x i : AV) : Option AV := (nE i).bind fun n =>
    match x with
    | .p (.aO rows)=>rows[n]?.bind fun r=>if r.length=es then some (.p (.ptr r 0)) else none
    | .sl b m=>if n<m∧SP σ b=some (es,m) then some (.ptr b m n 0) else none
    | _=>none
theorem ak9{es:Nat}{x i:O}:cQ P σ τ (.au es x i)=gU σ (gj σ es (x.val τ) (i.val τ)):=dN (op:=.au es x i) rfl rfl
def atO (len es : Nat) (agg : Bool) (x i : AV) : Option AV := (nE i).bind fun n =>
    if n<len then match x with
      | .p (.agg cs)=>((part (n*es) es cs).bind (pf agg)).map .p
      | .agg cs=>(part (n*es) es cs).bind (nb agg)
      | _=>none
    else none
theorem anW{len es:Nat}{agg:Bool}{x i:O}:cQ P σ τ (.ad1 len es agg x i)=gU σ (atO len es agg (x.val τ) (i.val τ)):=dN (op:=.ad1 len es agg x i) rfl rfl
def af7 (x i : AV) : Option AV := (nE i).bind fun n =>
    match x with
    | .p (.str s)=>s[n]?.map fun b=>.p (.int .u8 b.toNat)
    | _=>none
theorem anX{x i:O}:cQ P σ τ (.Kw x i)=gU σ (af7 (x.val τ) (i.val τ)):=dN (op:=.Kw x i) rfl rfl
def alP (es : Nat) (x : AV) (lo hi mx : Option AV) : Option AV :=
    match x with
    | .p (.aO rows)=>
      if wide es rows then
        (bounds rows.length rows.length lo hi mx).bind fun b=>
          if mx.isNone then some (.p (.aO ((rows.take b.2.1).drop b.1))) else if b.2.2=0 then some .aA else none
      else none
    | .aA=>(bounds 0 0 lo hi mx).map fun _=>.aA
    | _=>none
theorem an8{es:Nat}{x:O}{lo hi mx:Option O}:cQ P σ τ (.NB es x lo hi mx)=gU σ (alP es (x.val τ) (lo.map (O.val τ)) (hi.map (O.val τ)) (mx.map (O.val τ))):=by
 cases mx<;>exact dN (op:=.NB es x lo hi _) rfl rfl
def auY(x:AV)(lo hi:Option AV):Option AV:=match x with
 |.p (.str s)=>(bounds s.size s.size lo hi none).map fun b=>.p (.str (s.extract b.1 b.2.1))
 |_=>none
theorem an9{x:O}{lo hi:Option O}:cQ P σ τ (.afh x lo hi)=gU σ (auY (x.val τ) (lo.map (O.val τ)) (hi.map (O.val τ))):=dN (op:=.afh x lo hi) rfl rfl
def YK(σ:ah)(kl:ny)(x:AV)(k:PV):Option (Option AV) :=
 match x with
 |.p .IW=>some none
 |.p (.pmap es)=>(findKey kl k es).map fun o=>Option.map AV.p o
 |.map b=>match σ[b]? with
  |some (.map es _)=>findKey kl k es
  |_=>none
 |_=>none
def vf(σ:ah)(kl:ny)(zero x k:AV)(ok:Bool):Option AV:=match k with
 |.p k=>if tj kl k then(YK σ kl x k).bind fun o:Option AV=>some (if ok then z6 [o.getD zero,.p (.bool o.isSome)]else o.getD zero)else none
 |_=>none
theorem ah6{kl:ny}{zero:AV}{x k:O}{ok:Bool}:cQ P σ τ (.lookup kl zero x k ok)=gU σ (vf σ kl zero (x.val τ) (k.val τ) ok):=dN (op:=.lookup kl zero x k ok) rfl rfl
def Pc(x:AV)(k:Nat):Option AV:=match x with
 |.p (.jY vs)=>vs[k]?.map .p
 |.jY vs=>vs[k]?
 |_=>none
theorem aei{x:O}{k:Nat}:cQ P σ τ (.extract x k)=gU σ (Pc (x.val τ) k):=dN (op:=.extract x k) rfl rfl
def PI(σ:ah)(x:AV):Option AV:=(bI σ x).map fun n=>.p (.int .i64 (Int.ofNat n))
theorem an1{x:O}:cQ P σ τ (.bI x)=gU σ (PI σ (x.val τ)):=dN (op:=.bI x) rfl rfl
def apu:AV→Option AV
 |.p (.str s)=>some (.p (.int .i64 (Int.ofNat s.size)))
 |_=>none
theorem an2{x:O}:cQ P σ τ (.KF x)=gU σ (apu (x.val τ)):=dN (op:=.KF x) rfl rfl
def aky(σ:ah)(x:AV):Option AV:=(BI σ x).map fun n=>.p (.int .i64 (Int.ofNat n))
theorem an0{x:O}:cQ P σ τ (.BI x)=gU σ (aky σ (x.val τ)):=dN (op:=.BI x) rfl rfl
theorem anZ{n:Nat}:cQ P σ τ (.ad6 n)=some (.p (.int .i64 (Int.ofNat n)),σ):=rfl
def VB(mx:Bool):List AV→Option AV
 |.p x::r=>(FU mx x r).map .p
 |_=>none
theorem ah7{mx:Bool}{args:List O}:cQ P σ τ (.wE mx args)=gU σ (VB mx (args.map (O.val τ))):=dN (op:=.wE mx args) rfl rfl
theorem an4{f:FuncId}{caps:List O}:cQ P σ τ (.AD f caps)=some (Gh f (caps.map (O.val τ)),σ):=rfl
def anS:AV→Option AV
 |.p .yl=>none
 |.p .Aa=>none
 |.any=>none
 |v=>some v
theorem ah8{x:O}:cQ P σ τ (.Hr x)=gU σ (anS (x.val τ)):=dN (op:=.Hr x) rfl rfl
def uX(es:Nat)(x:List AV×ah):Option (AV×ah):=some (.ptr x.2.length 1 0 0,x.2++[mkObj es x.1])
theorem akZ{zero:List AV}{es:Nat}:cQ P σ τ (.alloc zero es)=uX es (aX zero σ):=rfl
def vO(σ:ah)(size:Nat)(ro:Bool):Option (List AV)→Option (AV×ah)
 |some cs=>if ro then match ae cs with
    |some ps=>some (.p (.ptr ps 0),σ)
    |none=>some (.ptr σ.length 1 0 0,σ++[mkObj size cs])
   else uX size (aX cs σ)
 |none=>none
theorem anY{size:Nat}{agg ro:Bool}{x:O}:cQ P σ τ (.init size agg x ro)=vO σ size ro (cellsOf size agg (x.val τ)):=by
 simp only[cQ,plain];cases cellsOf size agg (x.val τ)<;>rfl
theorem aq1{size:Nat}{agg ro:Bool}{x:O}:cQ P σ τ (.box size agg x ro)=vO σ size ro (cellsOf size agg (x.val τ)):=by
 simp only[cQ,plain];cases cellsOf size agg (x.val τ)<;>rfl
def lr(σ:ah)(es len:Nat):Option (List AV)→Option (AV×ah)
 |some cs=>some (.sl σ.length len,σ++[EG es (chunk es len cs)])
 |none=>none
def Ee(σ:ah)(es len:Nat):Option (List AV)→Option (AV×ah)
 |some cs=>match ae cs with
  |some ps=>some (.p (.aO (chunk es len ps)),σ)
  |none=>none
 |none=>none
theorem ak1{es len:Nat}{zero:List AV}{ps:List (Nat×Nat×O)}:cQ P σ τ (.fp es zero len ps)=Ee σ es len (gR ((List.replicate len zero).flatten) (ps.map fun x=>(x.1*es,x.2.1,x.2.2.val τ))):=by
 simp only[cQ,plain];cases gR ((List.replicate len zero).flatten) (ps.map fun x=>(x.1*es,x.2.1,x.2.2.val τ))with
 |none=>rfl
 |some cs=>simp only[Az,Ee];cases ae cs<;>rfl
theorem ah5{es len:Nat}{zero:List AV}{ps:List (Nat×Nat×O)}:cQ P σ τ (.dE es zero len ps)=lr σ es len (gR ((List.replicate len zero).flatten) (ps.map fun x=>(x.1*es,x.2.1,x.2.2.val τ))):=by
 simp only[cQ,plain];cases gR ((List.replicate len zero).flatten) (ps.map fun x=>(x.1*es,x.2.1,x.2.2.val τ))<;>rfl
def as8:Option ah→Option (AV×ah)
 |some σ=>some (.any,σ)
 |none=>none
theorem alc{size:Nat}{a v:O}:cQ P σ τ (.store size a v)=as8 (eY σ size (a.val τ) (v.val τ)):=by
 simp only[cQ,plain];cases eY σ size (a.val τ) (v.val τ)<;>rfl
def PR (σ : ah) (kl : ny) (x k v : AV) : Option (AV × ah) := match x, k with
    | .map b,.p k=>match σ[b]? with
      | some (.map es false)=>if tj kl k then (vG kl k v es).map fun es'=>(.any,σ.set b (.map es' false)) else none
      | _=>none
    | _,_=>none
theorem an5{kl:ny}{x k v:O}:cQ P σ τ (.VC kl x k v)=PR σ kl (x.val τ) (k.val τ) (v.val τ):=rfl
theorem alb:cQ P σ τ .EH=some (.map σ.length,σ++[.map [] false]):=rfl
def AS(σ:ah)(es bytes:Nat)(x:AV):Option Src→Option (AV×ah)
 |some new=>CU σ es bytes x new
 |none=>none
theorem ah4{es bytes:Nat}{x y:O}:cQ P σ τ (.append es bytes x y)=AS σ es bytes (x.val τ) (nO σ es (y.val τ)):=by
 simp only[cQ,plain];cases nO σ es (y.val τ)<;>rfl
theorem ak3{f:FuncId}{args:List O}:cQ P σ τ (.cZ f args)=l5 P f (args.map (O.val τ)) σ:=rfl
def aji(P:Prog)(args:List AV)(σ:ah):Option cH→Option (AV×ah)
 |some fn=>call P fn args σ
 |none=>none
theorem ak4{f:FuncId}{args:List O}:cQ P σ τ (.Gs f args)=aji P (args.map (O.val τ)) σ (P.fn f):=by
 simp only[cQ,aji];cases P.fn f<;>rfl
theorem adq{fn:cH}{args:List AV}:aji P args σ (some fn)=call P fn args σ:=rfl
def Ch(σ:ah)(es bytes:Nat)(zero:List AV)(l c:AV):Option (AV×ah):=(nE l).bind fun l=>(nE c).bind fun c=>
   if l≤c∧c*bytes≤140737488355328 then
    match ae zero with
    |some z=>some (.sl σ.length l,σ++[.pv es (List.replicate l z) false])
    |none=>some (.sl σ.length l,σ++[.av es (List.replicate l zero) false])
   else none
theorem aej{es bytes:Nat}{zero:List AV}{l c:O}:cQ P σ τ (.xh es bytes zero l c)=Ch σ es bytes zero (l.val τ) (c.val τ):=rfl
theorem apw{k:IntKind}{es bytes n:Nat}{zero:List AV}{z:List PV}(h:ae zero=some z)(hb:n*bytes≤140737488355328):Ch σ es bytes zero (.p (.int k n)) (.p (.int k n))=some (.sl σ.length n,σ++[.pv es (List.replicate n z) false]):=by
 simp[Ch,nE,h,hb]
def ajU(σ:ah)(x:AV):Option (AV×ah):=(aG σ depth x).map fun r=>(.p r,eh σ [x] r)
theorem aq5{x:O}:cQ P σ τ (.frz x)=ajU σ (x.val τ):=rfl
theorem ats{v:PV}:ajU σ (.p v)=some (.p v,σ):=by
 have h:eh σ [.p v] v=σ:=by
  unfold eh;split
  ·rfl
  ·simp[refs,depth,bL]
 simp[ajU,aG,depth,h]
theorem ajV:ajU σ .aA=some (.p (.aO []),σ):=by
 simp[ajU,aG,depth,eh,PV.flat]
def aqG (neg : Bool) (x : AV) : Option AV := match x with
    | .p .Aa=>some (.p (.bool !neg))
    | .p (.fn ..) | .fn ..=>some (.p (.bool neg))
    | _=>none
theorem ala{neg:Bool}{x:O}:cQ P σ τ (.Lr neg x)=gU σ (aqG neg (x.val τ)):=dN (op:=.Lr neg x) rfl rfl
def apK (σ : ah) (len es : Nat) (x : AV) (lo hi mx : Option AV) : Option (AV × ah) := match x with
    | .ptr b 1 0 0=>match bounds len len lo hi mx,σ[b]? with
      | some (0,h,m),some (.pv e [row] false)=>if m=len∧e=len*es∧row.length=len*es then some (.sl σ.length h,(σ.set b .gone)++[.pv es (chunk es h (row.take (h*es))) false]) else none
      | _,_=>none
    | _=>none
theorem an7{len es:Nat}{x:O}{lo hi mx:Option O}:cQ P σ τ (.ais len es x lo hi mx)=apK σ len es (x.val τ) (lo.map (O.val τ)) (hi.map (O.val τ)) (mx.map (O.val τ)):=rfl
theorem ak5{x:O}{args:List O}:cQ P σ τ (.rE x args)=tH P (x.val τ) (args.map (O.val τ)) σ:=rfl
theorem dP{b e es bytes:Nat}{rows new:List (List PV)}(h:σ[b]?=some (.pv e rows false))(hn:rows.length=n)(he:e=es∨(e=0∧rows=[]))(hb:(n+new.length)*bytes≤140737488355328) :
  AS σ es bytes (.sl b n) (some (.inl new))=some (.sl b (n+new.length),σ.set b (.pv es (rows++new) false)):=by
 have he':e=es∨(e=0∧rows.isEmpty=true):=by
  rcases he with h0|⟨h0,h1⟩
  ·exact .inl h0
  ·exact .inr ⟨h0,by rw[h1];rfl⟩
 simp only[AS,CU,h,Obj.len,hn,Src.count,hb,and_self,if_true,NM,if_pos he',x6]
theorem Rj{es:Nat}{rows:List (List PV)}(h:wide es rows=true):nO σ es (.p (.aO rows))=some (.inl rows):=by simp[nO,h]
theorem alS{es:Nat}:nO σ es .aA=some (.inl []):=rfl
theorem FH{b m es e:Nat}{rows:List (List PV)}{fr:Bool}(h:σ[b]?=some (.pv e rows fr))(hn:rows.length=m)(he:e=es∨rows=[]):nO σ es (.sl b m)=some (.inl rows):=by
 have he':e=es∨rows.isEmpty=true:=by
  rcases he with h0|h0
  ·exact .inl h0
  ·exact .inr (by rw[h0];rfl)
 simp only[nO,h,hn,he',and_self,if_true]
theorem aoA{es:Nat}{o:Obj}{r:List PV}{fr:Bool}:nO [o,.pv es [r] fr] es (.sl 1 1)=some (.inl [r]):=FH rfl rfl (.inl rfl)
theorem aoB{es:Nat}{o o':Obj}{r:List PV}{fr:Bool}:nO [o,o',.pv es [r] fr] es (.sl 2 1)=some (.inl [r]):=FH rfl rfl (.inl rfl)
def agr(σ:ah)(args:List AV):Option PV→Option (AV×ah)
 |some r=>some (.p r,eh σ args r)
 |none=>none
def R(P:Prog)(f:FuncId)(ps:List PV):Option PV :=
 (P.fn f).bind fun fn=>(call P fn (ps.map .p) []).bind fun x=>aG x.2 depth x.1
def YS(P:Prog)(f:FuncId)(args:List AV)(σ:ah):Option (List PV)→Option (AV×ah)
 |some ps=>agr σ args (R P f ps)
 |none=>none
theorem ag{f:FuncId}{fn:cH}{args:List AV}(h:P.fn f=some fn)(hp:P.VH f=none)(hi:fn.imp=false):l5 P f args σ=YS P f args σ (omap (aG σ depth) args):=by
 rw[l5.eq_def];simp only[hp,h,N3,Az,hi,lG,if_false];cases h1:omap (aG σ depth) args with
 |none=>rfl
 |some ps=>
  simp only[Az,YS,R,h,agr];cases h2:call P fn (ps.map .p) []with
  |none=>rfl
  |some x=>
   simp only[Az];cases aG x.2 depth x.1<;>rfl
theorem y9{f:FuncId}{fn:cH}{args:List AV}(h:P.fn f=some fn)(hp:P.VH f=none)(hi:fn.imp=true):l5 P f args σ=call P fn args σ:=by
 rw[l5.eq_def];simp only[hp,h,N3,Az,hi,if_true]
theorem zJ{f:FuncId}{args:List AV}{g:List AV→ah→Option (AV×ah)}(hp:P.VH f=some g):l5 P f args σ=g args σ:=by
 rw[l5.eq_def];simp only[hp]
theorem alo{k:Nat}{v:PV}:aG σ (k+1) (.p v)=some v:=rfl
theorem arH{k:Nat}{v:PV}:refs σ k (.p v)=[]:=by cases k<;>rfl
def aeq(σ:ah):Option AV→Option PV
 |some v=>aG σ depth v
 |none=>none
def aik(rs:List RV):Option (Ex×St)→Option PV
 |some (.normal,st)|some (.ret,st)=>aeq st.σ (fE rs st.σ st.τ)
 |_=>none
theorem alC{rs:List RV}:aik rs (some (.ret,st))=aeq st.σ (fE rs st.σ st.τ):=rfl
theorem Zv{rs:List RV}:aik rs (some (.normal,st))=aeq st.σ (fE rs st.σ st.τ):=rfl
theorem aeZ:fE [] σ τ=some (.p (.jY [])):=rfl
theorem ae0{r:RV}:fE [r] σ τ=HD σ τ r:=by
 simp only[fE,omap];cases HD σ τ r<;>rfl
def asb:Option (List AV)→Option AV
 |some l=>some (z6 l)
 |none=>none
theorem ae1{a b:RV}{r:List RV}:fE (a::b::r) σ τ=asb (omap (HD σ τ) (a::b::r)):=by
 simp only[fE,omap];cases HD σ τ a with
 |none=>rfl
 |some x=>
  cases HD σ τ b with
  |none=>rfl
  |some y=>cases omap (HD σ τ) r<;>rfl
theorem FV{α β:Type}{f g:α→Option β}:∀{l:List α},(∀a∈l,f a=g a)→omap f l=omap g l
 | [],_=>rfl
 |a::l,h=>by
  simp only[omap,h a (List.mem_cons_self ..),FV fun b hb=>h b (abp _ hb)]
theorem xi{σ σ':ah}:∀(k:Nat) (v:AV),below 0 v=true→aG σ k v=aG σ' k v
 |0,_,_=>rfl
 |k+1,v,h=>by
  cases v with
  |sl b n=>simp[below]at h
  |ptr b n i o=>simp[below]at h
  |map b=>simp[below]at h
  |fn f cap=>
   simp only[below,CS,List.mem_attach,true_imp_iff,Subtype.forall]at h;simp only[aG];rw[FV fun a ha=>xi k a (h a ha)]
  |agg cs=>
   simp only[below,CS,List.mem_attach,true_imp_iff,Subtype.forall]at h;simp only[aG];rw[FV fun a ha=>xi k a (h a ha)]
  |jY cs=>
   simp only[below,CS,List.mem_attach,true_imp_iff,Subtype.forall]at h;simp only[aG];rw[FV fun a ha=>xi k a (h a ha)]
  |_=>rfl
theorem aer{v:AV}{k:Nat}:aG (gc 0 [v] σ) k v=aG σ k v:=by
 unfold gc;split
 ·rfl
 ·split
  ·rename_i h
   simp only[C2,Uj,abS,abX,vM]at h;exact xi k v h.1
  ·rfl
theorem bg{f:FuncId}{fn:cH}{ps:List PV}(h:P.fn f=some fn)(hl:(ps.length≤fn.ntmps)):R P f ps=aik fn.results (exec P fn.body ⟨xf (ps.map .p),[],fn.ntmps,none⟩):=by
 simp only[R,h,Az];rw[call.eq_def,if_pos (by simpa using hl)]
 simp only[N3];cases h1:exec P fn.body ⟨xf (ps.map .p),[],fn.ntmps,none⟩with
 |none=>rfl
 |some x=>
  obtain⟨e,st⟩:=x
  have key:((fE fn.results st.σ st.τ).bind fun v=>some (v,gc ([]:ah).length [v] st.σ)).bind (fun x=>aG x.2 depth x.1)=aeq st.σ (fE fn.results st.σ st.τ):=by
   cases fE fn.results st.σ st.τ with
   |none=>rfl
   |some v=>simp only[Az,nz,aer,aeq]
  cases e with
  |exit i=>rfl
  |normal=>simpa[aik]using key
  |ret=>simpa[aik]using key
def afM(n:Nat)(st:St):Option AV→Option (AV×ah)
 |some v=>some (v,gc n [v] st.σ)
 |none=>none
def alA(n:Nat)(rs:List RV):Option (Ex×St)→Option (AV×ah)
 |some (.normal,st)|some (.ret,st)=>afM n st (fE rs st.σ st.τ)
 |_=>none
theorem fK{fn:cH}{args:List AV}(h:args.length≤fn.ntmps):call P fn args σ=alA σ.length fn.results (exec P fn.body ⟨xf args,σ,fn.ntmps,none⟩):=by
 rw[call.eq_def,if_pos h];simp only[N3];cases exec P fn.body ⟨xf args,σ,fn.ntmps,none⟩with
 |none=>rfl
 |some x=>
  obtain⟨e,st⟩:=x;cases e with
  |exit i=>rfl
  |normal=>simp only[Az,alA];cases fE fn.results st.σ st.τ<;>rfl
  |ret=>simp only[Az,alA];cases fE fn.results st.σ st.τ<;>rfl
theorem alB{rs:List RV}:alA n rs (some (.ret,st))=afM n st (fE rs st.σ st.τ):=rfl
theorem Zu{rs:List RV}:alA n rs (some (.normal,st))=afM n st (fE rs st.σ st.τ):=rfl
theorem adp{v:AV}:afM n st (some v)=some (v,gc n [v] st.σ):=rfl
theorem am3{l:Nat}{args:List AV}:tH P (.yield l) args σ=round P l args σ:=by rw[tH.eq_def]
theorem afO{f:FuncId}{cap:List PV}{args:List AV}:tH P (.p (.fn f cap)) args σ=l5 P f (args++cap.map .p) σ:=by rw[tH.eq_def]
theorem ahL{lv:List Nat}:(τ.keep lv).keep lv=τ.keep lv:=by
 unfold Tm.keep Tm.kept
 congr 1
 apply ab6;intro t ht
 congr 1
 have:∀l:List Nat,t∈l→(tm (l.map fun t=>(t,τ.get t))).get t=τ.get t:=by
  intro l
  induction l with
  |nil=>intro h;simp at h
  |cons a l ih=>
   intro h;simp only[rK,aoJ];split
   ·rename_i e;rw[e]
   ·rename_i e;exact ih (by rcases pU.1 h with h|h;exact absurd h.symm e;exact h)
 exact this lv ht
theorem ax{lv:List Nat}{b:K}:exec P (.loop lv b) ⟨τ,σ,nt,rd⟩=exec P (.loop lv b) ⟨tm (τ.kept lv),σ,nt,rd⟩:=by
 rw[Ko,Ko]
 simp only
 rw[show tm (τ.kept lv)=τ.keep lv from rfl,ahL]
theorem ann(h:σ.length=n){vs:List AV}:gc n vs σ=σ:=by unfold gc;rw[if_pos (by omega)]
def back(P:Prog)(lv:List Nat)(b:K)(n:Nat):Option (Ex×St)→Option (Ex×St)
 |some (.normal,st)=>exec P (.loop lv b) ⟨tm (st.τ.kept lv),gc n (lv.map st.τ.get) st.σ,st.nt,st.rd⟩
 |some (.ret,st)=>some (.ret,st)
 |some (.exit i,st)=>some (.exit i,st)
 |none=>none
theorem IQ{lv:List Nat}{b:K}:exec P (.loop lv b) ⟨τ,σ,nt,rd⟩=back P lv b σ.length (exec P b ⟨tm (τ.kept lv),σ,nt,rd⟩):=by
 rw[Ko];show YL P lv b σ.length (exec P b ⟨tm (τ.kept lv),σ,nt,rd⟩)=_;cases exec P b ⟨tm (τ.kept lv),σ,nt,rd⟩with
 |none=>rfl
 |some x=>obtain⟨e,st⟩:=x;cases e<;>rfl
theorem ake:τ.kept []=[]:=rfl
theorem ahM{t:Nat}{l:List Nat}:τ.kept (t::l)=(t,τ.get t)::τ.kept l:=rfl
def al(P:Prog)(c:K)(l:List (Nat×AV))(σ:ah)(nt:Nat)(rd:Option Nat):Option (Ex×St):=exec P c ⟨tm l,σ,nt,rd⟩
def aq{S T α:Type}(f:Nat→S→α→S ⊕ T):Nat→S→List α→S ⊕ T
 |_,s,[]=>.inl s
 |i,s,a::r=>match f i s a with
  |.inl s'=>aq f (i+1) s' r
  |.inr t=>.inr t
def yh(lv:List Nat)(n:Nat):Option (Ex×St)→Option ((List (Nat×AV)×ah×Nat×Option Nat) ⊕ (Ex×St))
 |some (.normal,st)=>some (.inl (st.τ.kept lv,gc n (lv.map st.τ.get) st.σ,st.nt,st.rd))
 |some (.ret,st)=>some (.inr (.ret,st))
 |some (.exit i,st)=>some (.inr (.exit i,st))
 |none=>none
theorem Yt{lv:List Nat}:yh lv n (some (.normal,⟨τ,σ,nt,rd⟩))=some (.inl (τ.kept lv,gc n (lv.map τ.get) σ,nt,rd)):=rfl
theorem aj3{lv:List Nat}:yh lv n (some (.ret,st))=some (.inr (.ret,st)):=rfl
theorem ahG{lv:List Nat}{i:Nat}:yh lv n (some (.exit i,st))=some (.inr (.exit i,st)):=rfl
theorem eU(h:σ.length≤n){vs:List AV}:gc n vs σ=σ:=by unfold gc;rw[if_pos h]
theorem aa{vs:List AV}:gc (List.length σ) vs σ=σ:=ann rfl
theorem aqu{vs:List AV}:gc n vs []=[]:=eU (by simp)
theorem aqv{vs:List AV}{a:Obj}:gc 1 vs [a]=[a]:=eU (by simp)
theorem aqx{vs:List AV}{a b:Obj}:gc 2 vs [a,b]=[a,b]:=eU (by simp)
theorem atw{vs:List AV}{a b:Obj}:gc 1 vs [a,b]=if C2 1 vs [a,b]=true then[a]else[a,b]:=by unfold gc;rw[if_neg (by simp)];rfl
theorem atx{vs:List AV}{a b c:Obj}:gc 1 vs [a,b,c]=if C2 1 vs [a,b,c]=true then[a]else[a,b,c]:=by unfold gc;rw[if_neg (by simp)];rfl
theorem aty{vs:List AV}{a b c:Obj}:gc 2 vs [a,b,c]=if C2 2 vs [a,b,c]=true then[a,b]else[a,b,c]:=by unfold gc;rw[if_neg (by simp)];rfl
theorem atz{vs:List AV}{a b c d:Obj}:gc 2 vs [a,b,c,d]=if C2 2 vs [a,b,c,d]=true then[a,b]else[a,b,c,d]:=by unfold gc;rw[if_neg (by simp)];rfl
theorem NF{v:PV}:below n (.p v)=true:=by simp[below]
theorem agU:below n .any=true:=by simp[below]
theorem acS:below n .aA=true:=by simp[below]
theorem WT{b m:Nat}:below n (.sl b m)=decide (b<n):=by simp[below]
theorem agV{b m i o:Nat}:below n (.ptr b m i o)=decide (b<n):=by simp[below]
theorem B3{b:Nat}:below n (.map b)=decide (b<n):=by simp[below]
theorem WU{b:Nat}:below n (.yield b)=decide (b<n):=by simp[below]
theorem zd{es:Nat}{rows:List (List PV)}{fr:Bool}:Obj.below n (.pv es rows fr)=true:=rfl
theorem wG{es:Nat}{rows:List (List AV)}{fr:Bool}:Obj.below n (.av es rows fr)=rows.all fun r=>r.all (AE.below n):=rfl
theorem Ac{es:List (PV×AV)}{fr:Bool}:Obj.below n (.map es fr)=es.all fun e=>AE.below n e.2:=rfl
theorem Kb{lv:List Nat}{b:K}{r:Option (Ex×St)}:back P lv b n r=(yh lv n r).bind fun
  |.inl h=>al P (.loop lv b) h.1 h.2.1 h.2.2.1 h.2.2.2
  |.inr x=>some x:=by
 cases r with
 |none=>rfl
 |some x=>obtain⟨e,st⟩:=x;cases e<;>rfl
def ZW{S T:Type}(env:S→List (Nat×AV))(sto:S→ah)(nt:Nat)(rd:Option Nat)(out:T→Ex×St→Prop):S ⊕ T→Option ((List (Nat×AV)×ah×Nat×Option Nat) ⊕ (Ex×St))→Prop
 |.inl s,some (.inl h)=>h=(env s,sto s,nt,rd)
 |.inr t,some (.inr r)=>out t r
 |_,_=>False
theorem Rl{S T:Type}{env:S→List (Nat×AV)}{sto:S→ah}{out:T→Ex×St→Prop}{s:S}{h:List (Nat×AV)×ah×Nat×Option Nat}:ZW env sto nt rd out (.inl s) (some (.inl h))=(h=(env s,sto s,nt,rd)):=rfl
theorem ar4{S T:Type}{env:S→List (Nat×AV)}{sto:S→ah}{out:T→Ex×St→Prop}{t:T}{r:Ex×St}:ZW env sto nt rd out (.inr t) (some (.inr r))=out t r:=rfl
def pP{S T:Type}(A:S→Prop)(B:T→Prop):S ⊕ T→Prop
 |.inl s=>A s
 |.inr t=>B t
theorem H5{S T:Type}{A:S→Prop}{B:T→Prop}{c:Prop}[Decidable c]{s:S}{t:T}(h:pP A B (if c then .inl s else .inr t)):if c then A s else B t:=by
 split at h<;>rename_i hc
 ·rw[if_pos hc];exact h
 ·rw[if_neg hc];exact h
theorem afT{S T:Type}{A:S→Prop}{B:T→Prop}{c:Prop}[Decidable c]{s:S}{t:T}(h:pP A B (if c then .inr t else .inl s)):if c then B t else A s:=by
 split at h<;>rename_i hc
 ·rw[if_pos hc];exact h
 ·rw[if_neg hc];exact h
theorem eD{S T α:Type}{lv:List Nat}{b:K}{x:Nat}{as:List α}(env:Nat→S→List (Nat×AV))(sto:S→ah)(f:Nat→S→α→S ⊕ T)(fin:S→St)(out:T→Ex×St→Prop)(ok:Nat→S→Prop)
  (hstep:∀(i:Nat) (a:α) (s:S),as[i]?=some a→i<as.length→ok i s→(∀s',f i s a=.inl s'→ok (i+1) s') ∧
   ZW (env (i+1)) sto nt rd out (f i s a) (yh lv (sto s).length (exec P b ⟨tm (env i s),sto s,nt,rd⟩)))
  (hend:∀s,ok as.length s→exec P b ⟨tm (env as.length s),sto s,nt,rd⟩=some (.exit x,fin s))
  (hkeep:∀i s,(tm (env i s)).kept lv=env i s) (s0:S) (h0:ok 0 s0) :
  pP (fun s=>al P (.loop lv b) (env 0 s0) (sto s0) nt rd=some (.exit x,fin s)) (fun t=>∃r,al P (.loop lv b) (env 0 s0) (sto s0) nt rd=some r∧out t r) (aq f 0 s0 as):=by
 have key:∀(r:List α) (i:Nat) (s:S),as.drop i=r→i≤as.length→ok i s →
   pP (fun s'=>al P (.loop lv b) (env i s) (sto s) nt rd=some (.exit x,fin s')) (fun t=>∃r,al P (.loop lv b) (env i s) (sto s) nt rd=some r∧out t r) (aq f i s r):=by
  intro r
  induction r with
  |nil=>
   intro i s hd hi hok;have:i=as.length:=by have:=congrArg List.length hd;simp at this;omega
   subst this;show al P (.loop lv b) (env as.length s) (sto s) nt rd=some (.exit x,fin s);unfold al;rw[IQ,hkeep,hend s hok];rfl
  |cons a r ih=>
   intro i s hd hi hok
   have hlt:i<as.length:=by
    have:=congrArg List.length hd;simp at this;omega
   have ha:as[i]?=some a:=by
    have:=congrArg (·[0]?) hd;simpa using this
   have hr:as.drop (i+1)=r:=by
    have:=congrArg (List.drop 1) hd;simpa using this
   obtain⟨h1,h2⟩:=hstep i a s ha hlt hok;unfold al;rw[IQ,hkeep,Kb];unfold aq;revert h2;generalize yh lv (sto s).length (exec P b ⟨tm (env i s),sto s,nt,rd⟩)=h;cases hf:f i s a with
   |inl s'=>
    intro h2
    match h,h2 with
    |some (.inl h),h2=>
     rw[Rl]at h2;subst h2;exact ih (i+1) s' hr (by omega) (h1 s' hf)
   |inr t=>
    intro h2
    match h,h2 with
    |some (.inr q),h2=>exact⟨q,rfl,h2⟩
 exact key as 0 s0 rfl (abF _) h0
theorem agT{lv:List Nat}{b:K}{i:Nat}:back P lv b n (some (.exit i,st))=some (.exit i,st):=rfl
theorem ajf{lv:List Nat}{b:K}:back P lv b n (some (.ret,st))=some (.ret,st):=rfl
theorem cE{S T α:Type}{lv:List Nat}{b:K}{as:List α}(env:Nat→S→List (Nat×AV))(sto:S→ah)(f:Nat→S→α→S ⊕ T)(out:T→Ex×St→Prop)(ok:Nat→S→Prop)
  (hstep:∀(i:Nat) (a:α) (s:S),as[i]?=some a→i<as.length→ok i s→(∀s',f i s a=.inl s'→ok (i+1) s') ∧
   ZW (env (i+1)) sto nt rd out (f i s a) (yh lv (sto s).length (exec P b ⟨tm (env i s),sto s,nt,rd⟩)))
  (hkeep:∀i s,(tm (env i s)).kept lv=env i s) (s0:S) (h0:ok 0 s0) :
  pP (fun s=>ok as.length s∧al P (.loop lv b) (env 0 s0) (sto s0) nt rd=back P lv b (sto s).length (exec P b ⟨tm (env as.length s),sto s,nt,rd⟩)) (fun t=>∃r,al P (.loop lv b) (env 0 s0) (sto s0) nt rd=some r∧out t r) (aq f 0 s0 as):=by
 have key:∀(r:List α) (i:Nat) (s:S),as.drop i=r→i≤as.length→ok i s →
   pP (fun s'=>ok as.length s'∧al P (.loop lv b) (env i s) (sto s) nt rd=back P lv b (sto s').length (exec P b ⟨tm (env as.length s'),sto s',nt,rd⟩)) (fun t=>∃r,al P (.loop lv b) (env i s) (sto s) nt rd=some r∧out t r) (aq f i s r):=by
  intro r
  induction r with
  |nil=>
   intro i s hd hi hok;have:i=as.length:=by have:=congrArg List.length hd;simp at this;omega
   subst this;refine⟨hok,?_⟩;unfold al;rw[IQ,hkeep]
  |cons a r ih=>
   intro i s hd hi hok
   have hlt:i<as.length:=by
    have:=congrArg List.length hd;simp at this;omega
   have ha:as[i]?=some a:=by
    have:=congrArg (·[0]?) hd;simpa using this
   have hr:as.drop (i+1)=r:=by
    have:=congrArg (List.drop 1) hd;simpa using this
   obtain⟨h1,h2⟩:=hstep i a s ha hlt hok;unfold al;rw[IQ,hkeep,Kb];unfold aq;revert h2;generalize yh lv (sto s).length (exec P b ⟨tm (env i s),sto s,nt,rd⟩)=h;cases hf:f i s a with
   |inl s'=>
    intro h2
    match h,h2 with
    |some (.inl h),h2=>
     rw[Rl]at h2;subst h2;exact ih (i+1) s' hr (by omega) (h1 s' hf)
   |inr t=>
    intro h2
    match h,h2 with
    |some (.inr q),h2=>exact⟨q,rfl,h2⟩
 exact key as 0 s0 rfl (abF _) h0
theorem fY{S α:Type}{lv:List Nat}{b:K}{as:List α}(env:Nat→S→List (Nat×AV))(sto:S→ah)(f:Nat→S→α→S)(ok:Nat→S→Prop)
  (hstep:∀(i:Nat) (a:α) (s:S),as[i]?=some a→i<as.length→ok i s→ok (i+1) (f i s a)∧yh lv (sto s).length (exec P b ⟨tm (env i s),sto s,nt,rd⟩)=some (.inl (env (i+1) (f i s a),sto (f i s a),nt,rd)))
  (hkeep:∀i s,(tm (env i s)).kept lv=env i s) (s0:S) (h0:ok 0 s0) (r:S) (hr:aq (T:=Empty) (fun i s a=>.inl (f i s a)) 0 s0 as=.inl r) :
  ok as.length r∧al P (.loop lv b) (env 0 s0) (sto s0) nt rd=back P lv b (sto r).length (exec P b ⟨tm (env as.length r),sto r,nt,rd⟩):=by
 have h:=cE (P:=P) (nt:=nt) (rd:=rd) (T:=Empty) (as:=as) env sto (fun i s a=>.inl (f i s a)) (fun t=>nomatch t) ok (fun i a s h1 h2 h3=>⟨fun s' he=>by cases he;exact(hstep i a s h1 h2 h3).1,by rw[(hstep i a s h1 h2 h3).2];exact Rl ▸ rfl⟩) hkeep s0 h0
 rw[hr]at h;exact h
theorem TO{S T:Type}{lv:List Nat}{b:K}(env:S→List (Nat×AV))(sto:S→ah)(f:S→S ⊕ T)(out:T→Ex×St→Prop)(ok:S→Prop)(m:S→Nat)
  (hstep:∀s,ok s→(∀s',f s=.inl s'→ok s'∧m s'<m s)∧ZW env sto nt rd out (f s) (yh lv (sto s).length (exec P b ⟨tm (env s),sto s,nt,rd⟩)))
  (hkeep:∀s,(tm (env s)).kept lv=env s):∀(n:Nat) (s0:S),m s0<n→ok s0→∃s t r,ok s∧f s=.inr t∧al P (.loop lv b) (env s0) (sto s0) nt rd=some r∧out t r
 |0,_,h,_=>by omega
 |n+1,s0,hn,h0=>by
  obtain⟨h1,h2⟩:=hstep s0 h0;unfold al;rw[IQ,hkeep,Kb];revert h2;generalize yh lv (sto s0).length (exec P b ⟨tm (env s0),sto s0,nt,rd⟩)=h;cases hf:f s0 with
  |inl s'=>
   intro h2;obtain⟨k1,k2⟩:=h1 s' hf
   match h,h2 with
   |some (.inl h),h2=>
    rw[Rl]at h2;subst h2;exact TO env sto f out ok m hstep hkeep n s' (by omega) k1
  |inr t=>
   intro h2
   match h,h2 with
   |some (.inr q),h2=>exact⟨s0,t,q,h0,hf,rfl,h2⟩
theorem lJ{S α:Type}{lv:List Nat}{b:K}{x:Nat}{as:List α}(env:Nat→S→List (Nat×AV))(sto:S→ah)(f:Nat→S→α→S)(fin:S→St)(ok:Nat→S→Prop)
  (hstep:∀(i:Nat) (a:α) (s:S),as[i]?=some a→i<as.length→ok i s→ok (i+1) (f i s a)∧yh lv (sto s).length (exec P b ⟨tm (env i s),sto s,nt,rd⟩)=some (.inl (env (i+1) (f i s a),sto (f i s a),nt,rd)))
  (hend:∀s,ok as.length s→exec P b ⟨tm (env as.length s),sto s,nt,rd⟩=some (.exit x,fin s))
  (hkeep:∀i s,(tm (env i s)).kept lv=env i s) (s0:S) (h0:ok 0 s0) (r:S) (hr:aq (T:=Empty) (fun i s a=>.inl (f i s a)) 0 s0 as=.inl r) :
  al P (.loop lv b) (env 0 s0) (sto s0) nt rd=some (.exit x,fin r):=by
 have h:=eD (P:=P) (nt:=nt) (rd:=rd) (T:=Empty) (x:=x) env sto (fun i s a=>.inl (f i s a)) fin (fun t=>nomatch t) ok (fun i a s h1 h2 h3=>⟨fun s' he=>by cases he;exact(hstep i a s h1 h2 h3).1,by rw[(hstep i a s h1 h2 h3).2];rfl⟩) hend hkeep s0 h0
 rw[hr]at h;exact h
abbrev Qp(P:Prog)(f:FuncId):Prop:=∀{args:List AV} {σ:ah},l5 P f args σ=YS P f args σ (omap (aG σ depth) args)
abbrev Qi(P:Prog)(f:FuncId)(F:cH):Prop:=∀{args:List AV} {σ:ah},l5 P f args σ=call P F args σ
abbrev Rp(P:Prog)(f:FuncId)(n:Nat)(rs:List RV)(F:cH):Prop:=∀{ps:List PV},ps.length≤n→R P f ps=aik rs (exec P F.body ⟨xf (ps.map .p),[],n,none⟩)
abbrev Kp(P:Prog)(L:K)(lv:List Nat):Prop:=∀{τ:Tm} {σ:ah} {nt:Nat} {rd:Option Nat},exec P L ⟨τ,σ,nt,rd⟩=al P L (τ.kept lv) σ nt rd
variable {P:Prog} {τ:Tm} {σ:ah} {k:IntKind} {a b:Int}
theorem avb:cB .add (.p (.int k a)) (.p (.int k b))=some (.p (.int k (k.wrap (a+b)))):=by simp[cB,binop,tM]
theorem avt:cB .sub (.p (.int k a)) (.p (.int k b))=some (.p (.int k (k.wrap (a-b)))):=by simp[cB,binop,tM]
theorem avm:cB .mul (.p (.int k a)) (.p (.int k b))=some (.p (.int k (k.wrap (a*b)))):=by simp[cB,binop,tM]
theorem avr(h:b≠0):cB .quo (.p (.int k a)) (.p (.int k b))=some (.p (.int k (k.wrap (a.tdiv b)))):=by simp[cB,binop,tM,h]
theorem avs(h:b≠0):cB .rem (.p (.int k a)) (.p (.int k b))=some (.p (.int k (a.tmod b))):=by simp[cB,binop,tM,h]
theorem ave:cB .eql (.p (.int k a)) (.p (.int k b))=some (.p (.bool (decide (a=b)))):=by simp[cB,binop,tM];rw[abC];simp
theorem avp:cB .neq (.p (.int k a)) (.p (.int k b))=some (.p (.bool (decide (¬a=b)))):=by simp[cB,binop,tM];rw[abC];simp
theorem avj:cB .lss (.p (.int k a)) (.p (.int k b))=some (.p (.bool (decide (a<b)))):=by simp[cB,binop,tM]
theorem avi:cB .leq (.p (.int k a)) (.p (.int k b))=some (.p (.bool (decide (a≤b)))):=by simp[cB,binop,tM]
theorem avg:cB .gtr (.p (.int k a)) (.p (.int k b))=some (.p (.bool (decide (b<a)))):=by simp[cB,binop,tM]
theorem avf:cB .geq (.p (.int k a)) (.p (.int k b))=some (.p (.bool (decide (b≤a)))):=by simp[cB,binop,tM]
theorem apR:cB .and (.p (.int k a)) (.p (.int k b))=some (.p (.int k (k.wrap (BitVec.ofInt k.bits a &&& BitVec.ofInt k.bits b).toNat))):=by simp[cB,binop,tM]
theorem aww:cB .or (.p (.int k a)) (.p (.int k b))=some (.p (.int k (k.wrap (BitVec.ofInt k.bits a |||BitVec.ofInt k.bits b).toNat))):=by simp[cB,binop,tM]
theorem avu:cB .xor (.p (.int k a)) (.p (.int k b))=some (.p (.int k (k.wrap (BitVec.ofInt k.bits a ^^^ BitVec.ofInt k.bits b).toNat))):=by simp[cB,binop,tM]
theorem amd{k':IntKind}(h:0≤b):cB .shl (.p (.int k a)) (.p (.int k' b))=some (.p (.int k (k.wrap (a*2^(min b.toNat k.bits))))):=by
 simp[cB,binop,JN,show ¬b<0 by omega]
theorem JV{k':IntKind}(h:0≤b):cB .shr (.p (.int k a)) (.p (.int k' b))=some (.p (.int k (a.fdiv (2^(min b.toNat k.bits))))):=by
 simp[cB,binop,JN,show ¬b<0 by omega]
theorem wi{x y:ByteArray}:x.toList=y.toList↔x=y:=by
 rw[ByteArray.toList_eq,ByteArray.toList_eq];constructor
 ·intro h
  cases x;cases y;simp only[ByteArray.mk.injEq];exact Array.toList_inj.1 h
 ·rintro rfl;rfl
theorem asm{x y:ByteArray}:cB .eql (.p (.str x)) (.p (.str y))=some (.p (.bool (decide (x=y)))):=by
 simp only[cB,binop,ZY,x6]
 congr 3
 rw[abC];simp[wi]
theorem aso{x y:ByteArray}:cB .neq (.p (.str x)) (.p (.str y))=some (.p (.bool (decide (¬x=y)))):=by
 simp only[cB,binop,ZY,x6]
 congr 3
 rw[abC];simp[wi]
def slt(x y:ByteArray):Bool:=Op.bytesLess x.toList y.toList
theorem asn{x y:ByteArray}:cB .lss (.p (.str x)) (.p (.str y))=some (.p (.bool (slt x y))):=rfl
theorem avq{c:Bool}:auC (.p (.bool c))=some (.p (.bool !c)):=rfl
theorem avd{c d:Bool}:aqn false (.p (.bool c)) (.p (.bool d))=some (.p (.bool (c == d))):=rfl
theorem avn{c d:Bool}:aqn true (.p (.bool c)) (.p (.bool d))=some (.p (.bool !(c == d))):=rfl
theorem avo{n:Int}:auB (.p (.int k n))=some (.p (.int k (k.wrap (0-n)))):=rfl
theorem ase{k':IntKind}{n:Int}:apf k (.p (.int k' n))=some (.p (.int k (k.wrap n))):=rfl
theorem aoO{s:ByteArray}:ajs (.p (.str s))=some (.p (.str s)):=rfl
theorem asj{s:ByteArray}:apu (.p (.str s))=some (.p (.int .i64 s.size)):=rfl
theorem asi{rows:List (List PV)}:PI σ (.p (.aO rows))=some (.p (.int .i64 rows.length)):=rfl
theorem aoS:PI σ .aA=some (.p (.int .i64 0)):=rfl
theorem asl{x y:AV}{c:Bool}:alg (.p (.bool c)) x y=some (if c=true then x else y):=by cases c<;>rfl
theorem avk{x y:Int}:VB true [.p (.int k x),.p (.int k y)]=some (.p (.int k (max x y))):=rfl
theorem avl{x y:Int}:VB false [.p (.int k x),.p (.int k y)]=some (.p (.int k (min x y))):=rfl
theorem auh{v:PV}:mvE σ (.p v)=some (.p v,σ):=rfl
theorem aqT{b n:Nat}:mvE σ (.sl b n)=some (.sl b n,σ):=rfl
theorem akL:mvE σ .aA=some (.sl σ.length 0,σ++[.pv 0 [] false]):=rfl
theorem aoU{v:AV}:gU σ (some v)=some (v,σ):=rfl
theorem aiG{vs:List PV}{i:Nat}:Pc (.p (.jY vs)) i=vs[i]?.map .p:=rfl
theorem amj{i:Nat}(h:i<4611686018427387904):IntKind.i64.wrap ((i:Int)+1)=((i+1:Nat):Int):=by rw[IntWalk.i64_in _ (by omega)];rfl
theorem aoZ{i n:Nat}(h:i<n)(h':n≤9223372036854775807):IntKind.i64.wrap ((i:Int)+1)=((i+1:Nat):Int):=by rw[IntWalk.i64_in _ (by omega)];rfl
theorem asu{n:Int}(h : -9223372036854775808≤n∧n≤9223372036854775807):IntKind.i64.wrap n=n:=IntWalk.i64_in n h
theorem asf{row:List PV}{o off:Nat}:Pd off (.p (.ptr row o))=some (.p (.ptr row (o+off))):=rfl
theorem aoP{b n i o off:Nat}:Pd off (.ptr b n i o)=some (.ptr b n i (o+off)):=rfl
theorem aH{rows:List (List PV)}{es:Nat}{i:Nat}{r:List PV}(h:rows[i]?=some r)(h2:r.length=es):gj σ es (.p (.aO rows)) (.p (.int k i))=some (.p (.ptr r 0)):=by
 simp[gj,nE,h,h2]
theorem MH{rows:List (List PV)}{r:List PV}{es:Nat}(h:rows[0]?=some r)(h2:r.length=es):gj σ es (.p (.aO rows)) (.p (.int k 0))=some (.p (.ptr r 0)):=by simp[gj,nE,h,h2]
theorem agD{rows:List (List PV)}{r:List PV}{es:Nat}(h:rows[1]?=some r)(h2:r.length=es):gj σ es (.p (.aO rows)) (.p (.int k 1))=some (.p (.ptr r 0)):=by simp[gj,nE,h,h2]
theorem apS{rows:List (List PV)}{r:List PV}{es:Nat}(h:rows[2]?=some r)(h2:r.length=es):gj σ es (.p (.aO rows)) (.p (.int k 2))=some (.p (.ptr r 0)):=by simp[gj,nE,h,h2]
theorem bs1{a:Int}{z:PV}:lr σ 1 1 (gR (List.replicate 1 [.p z]).flatten [(0,1,.p (.int k a))])=some (.sl σ.length 1,σ++[.pv 1 [[.int k a]] false]):=rfl
theorem bs2{a b:Int}{z:PV}:lr σ 1 2 (gR (List.replicate 2 [.p z]).flatten [(0,1,.p (.int k a)),(1,1,.p (.int k b))])=some (.sl σ.length 2,σ++[.pv 1 [[.int k a],[.int k b]] false]):=rfl
theorem bs3{a b c:Int}{z:PV}:lr σ 1 3 (gR (List.replicate 3 [.p z]).flatten [(0,1,.p (.int k a)),(1,1,.p (.int k b)),(2,1,.p (.int k c))])=some (.sl σ.length 3,σ++[.pv 1 [[.int k a],[.int k b],[.int k c]] false]):=rfl
theorem bs4{a b c d:Int}{z:PV}:lr σ 1 4 (gR (List.replicate 4 [.p z]).flatten [(0,1,.p (.int k a)),(1,1,.p (.int k b)),(2,1,.p (.int k c)),(3,1,.p (.int k d))])=some (.sl σ.length 4,σ++[.pv 1 [[.int k a],[.int k b],[.int k c],[.int k d]] false]):=rfl
theorem bs6{a b c d e f:Int}{z:PV}:lr σ 1 6 (gR (List.replicate 6 [.p z]).flatten [(0,1,.p (.int k a)),(1,1,.p (.int k b)),(2,1,.p (.int k c)),(3,1,.p (.int k d)),(4,1,.p (.int k e)),(5,1,.p (.int k f))]) =
  some (.sl σ.length 6,σ++[.pv 1 [[.int k a],[.int k b],[.int k c],[.int k d],[.int k e],[.int k f]] false]):=rfl
theorem Fh{j n es:Nat}{rows:List (List PV)}{fr:Bool}{r:ah}:aG (.pv es rows fr::r) (j+1) (.sl 0 n)=if rows.length=n then some (.aO rows)else none:=by simp[aG]
theorem bs0{es:Nat}{z:List AV}:lr σ es 0 (gR (List.replicate 0 z).flatten [])=some (.sl σ.length 0,σ++[.pv es [] false]):=rfl
theorem Qu{j n es:Nat}{rows:List (List PV)}{fr:Bool}:aG [.pv es rows fr] (j+1) (.sl 0 n)=if rows.length=n then some (.aO rows)else none:=by simp[aG]
theorem YW{j:Nat}:aG σ (j+1) .aA=some (.aO []):=rfl
theorem ajO{n:Int}:PV.flat (.int k n)=true:=by simp[PV.flat]
theorem ahy{c:Bool}:PV.flat (.bool c)=true:=by simp[PV.flat]
theorem ajR{s:ByteArray}:PV.flat (.str s)=true:=by simp[PV.flat]
theorem Ec:∀(l:List PV),ae (l.map .p)=some l
 | []=>rfl
 |a::l=>by simp[ae,Ec l]
theorem avc{row:List PV}{n:Nat}(h:row.length=n):cellsOf n true (.p (.agg row))=some (row.map .p):=by simp[cellsOf,h]
theorem ash{row:List PV}{n:Nat}:vO σ n true (some (row.map .p))=some (.p (.ptr row 0),σ):=by simp[vO,Ec]
theorem aoQ{v:PV}{n:Nat}:vO σ n true (some [.p v])=some (.p (.ptr [v] 0),σ):=by simp[vO,ae]
theorem F6{row:List PV}{n:Nat}(h:row.length=n):iu σ n true (.p (.ptr row 0))=some (.p (.agg row)):=by
 simp[iu,part,pf,←h]
theorem aoT{row:List PV}{o:Nat}{c:PV}(h:row[o]?=some c):iu σ 1 false (.p (.ptr row o))=some (.p c):=by
 obtain⟨ho,he⟩:=gA.1 h
 have:(row.drop o).take 1=[c]:=by
  rw[abk ho,he];rfl
 simp only[iu,part,show o+1≤row.length from ho,if_true,this];rfl
theorem awv{row:List PV}{o:Nat}:iu σ 1 false (.p (.ptr row o))=row[o]?.map .p:=by
 cases h:row[o]? with
 |some c=>exact aoT h
 |none=>
  have:=List.getElem?_eq_none_iff.1 h;simp[iu,part,show ¬o+1≤row.length by omega]
theorem avh{a b:PV}:iu σ 2 true (.p (.ptr [a,b] 0))=some (.p (.agg [a,b])):=rfl
theorem al9{v:Int}:cellsOf 1 false (.p (.int k v))=some [.p (.int k v)]:=rfl
theorem aiF{v:ByteArray}:cellsOf 1 false (.p (.str v))=some [.p (.str v)]:=rfl
theorem aiE{v:List (List PV)}:cellsOf 1 false (.p (.aO v))=some [.p (.aO v)]:=rfl
theorem ama{a b:PV}:cellsOf 2 true (.p (.agg [a,b]))=some [.p a,.p b]:=rfl
inductive Term where
 |mk (op w v:Int) (name:ByteArray) (args:List Term)
 deriving Inhabited
namespace Term
def op:Term→Int|.mk o _ _ _ _=>o
def w:Term→Int|.mk _ o _ _ _=>o
def v:Term→Int|.mk _ _ o _ _=>o
def name:Term→ByteArray|.mk _ _ _ o _=>o
def args:Term→List Term|.mk _ _ _ _ o=>o
mutual
def row:Term→List PV
 |.mk o w v s as=>[.int .i64 o,.int .i64 w,.int .u64 v,.str s,.aO (rows as)]
def rows:List Term→List (List PV)
 | []=>[]
 |t::r=>row t::rows r
end
theorem air{t a:Term}(ha:a∈t.args):SizeOf.sizeOf a<SizeOf.sizeOf t:=by
 cases t with
 |mk o w v s as=>
  have h1:SizeOf.sizeOf a<SizeOf.sizeOf as:=List.sizeOf_lt_of_mem ha;have h2:SizeOf.sizeOf (Term.mk o w v s as)=1+SizeOf.sizeOf o+SizeOf.sizeOf w+SizeOf.sizeOf v+SizeOf.sizeOf s+SizeOf.sizeOf as:=by simp
  omega
theorem ind{p:Term→Prop}(h:∀t,(∀a∈t.args,p a)→p t)(t:Term):p t:=by
 have key:∀n,∀t:Term,SizeOf.sizeOf t<n→p t:=by
  intro n
  induction n with
  |zero=>intro t ht;omega
  |succ n ih=>intro t ht;exact h t fun a ha=>ih a (by have:=air ha;omega)
 exact key _ t (Nat.lt_succ_self _)
theorem F1:∀l:List Term,rows l=l.map row
 | []=>rfl
 |t::r=>by simp[rows,F1 r]
theorem a6(t:Term):t.row=[.int .i64 t.op,.int .i64 t.w,.int .u64 t.v,.str t.name,.aO (t.args.map row)]:=by
 cases t;simp[row,op,w,v,name,args,F1]
theorem az(t:Term):t.row.length=5:=by rw[a6];rfl
theorem awh(t:Term):t.row[0]?=some (.int .i64 t.op):=by rw[a6];rfl
theorem awi(t:Term):t.row[1]?=some (.int .i64 t.w):=by rw[a6];rfl
theorem awj(t:Term):t.row[2]?=some (.int .u64 t.v):=by rw[a6];rfl
theorem awk(t:Term):t.row[3]?=some (.str t.name):=by rw[a6];rfl
theorem awl(t:Term):t.row[4]?=some (.aO (t.args.map row)):=by rw[a6];rfl
end Term
theorem afp{t:Term}:iu σ 5 true (.p (.ptr t.row 0))=some (.p (.agg t.row)):=F6 t.az
theorem NU{t:Term}:cellsOf 5 true (.p (.agg t.row))=some (t.row.map .p):=avc t.az
theorem aws{t:Term}{z0 z1 z2 z3 z4:AV}:lr σ 5 1 (gR (List.replicate 1 [z0,z1,z2,z3,z4]).flatten [(0,5,.p (.agg t.row))])=some (.sl σ.length 1,σ++[.pv 5 [t.row] false]):=by
 rw[Term.a6];rfl
theorem Uc(l:List Term):wide 5 (l.map Term.row)=true:=by
 simp[wide,Term.az]
variable {P:Prog} {τ:Tm} {σ σ':ah} {nt n l:Nat} {rd:Option Nat}
def rounds(P:Prog)(l:Nat):List (List AV)→ah→Option (Bool×ah)
 | [],σ=>some (true,σ)
 |a::r,σ=>match round P l a σ with
  |some (.p (.bool true),σ')=>if σ'.length=σ.length then rounds P l r σ' else none
  |some (.p (.bool false),σ')=>if σ'.length=σ.length then some (false,σ')else none
  |_=>none
def Q1(P:Prog)(l:Nat)(r:List (List AV)):Option (Bool×ah)→Option (Bool×ah)
 |some (true,σ)=>rounds P l r σ
 |some (false,σ)=>some (false,σ)
 |none=>none
theorem BO:∀(x y:List (List AV)) (σ:ah),rounds P l (x++y) σ=Q1 P l y (rounds P l x σ)
 | [],y,σ=>rfl
 |a::x,y,σ=>by
  simp only[F9,rounds];split
  ·rename_i σ' h
   split
   ·exact BO x y σ'
   ·rfl
  ·rename_i σ' h
   split<;>rfl
  ·rfl
theorem wQ:∀(x:List (List AV)) (σ σ':ah) (b:Bool),rounds P l x σ=some (b,σ')→σ'.length=σ.length
 | [],σ,σ',b,h=>by simp only[rounds,bN,rI]at h;rw[←h.2]
 |a::x,σ,σ',b,h=>by
  simp only[rounds]at h;split at h
  ·rename_i σ1 h1
   split at h
   ·rename_i hl
    rw[wQ x σ1 σ' b h,hl]
   ·cases h
  ·rename_i σ1 h1
   split at h
   ·rename_i hl
    simp only[bN,rI]at h;rw[←h.2,hl]
   ·cases h
  ·cases h
def IN(P:Prog)(l:Nat)(b:K)(st:St):Option Obj→Option (Ex×St)
 |some (.loop τ1 nt1 ps1 asg1 b1 none)=>exec P b { st with σ:=st.σ.set l (.loop τ1 nt1 ps1 asg1 b1 (some .normal)) }
 |_=>none
def arL(P:Prog)(l:Nat)(b:K):Option (Ex×St)→Option (Ex×St)
 |some (.normal,st)=>IN P l b st st.σ[l]?
 |_=>none
def alE(l n:Nat)(e:Ex)(st:St):Option Obj→Option (AV×ah)
 |some (.loop τ2 nt2 ps2 asg2 b2 (some .normal))=>some (.p (.bool (e matches .normal)),gc n [] (st.σ.set l (.loop τ2 nt2 ps2 asg2 b2 (match e with|.normal=>none|e=>some e))))
 |_=>none
def auT(l n:Nat):Option (Ex×St)→Option (AV×ah)
 |some (e,st)=>alE l n e st st.σ[l]?
 |none=>none
theorem Fz{a:List AV}{r:List (List AV)}{b:Bool}(h:rounds P l (a::r) σ=some (b,σ')) :
  ∃c σ1,round P l a σ=some (.p (.bool c),σ1)∧σ1.length=σ.length∧(c=true→rounds P l r σ1=some (b,σ'))∧(c=false→b=false∧σ'=σ1):=by
 simp only[rounds]at h;split at h
 ·rename_i σ1 h1
  split at h
  ·rename_i hl
   exact⟨true,σ1,h1,hl,fun _=>h,by simp⟩
  ·cases h
 ·rename_i σ1 h1
  split at h
  ·rename_i hl
   simp only[bN,rI]at h;exact⟨false,σ1,h1,hl,by simp,fun _=>⟨h.1.symm,h.2.symm⟩⟩
  ·cases h
 ·cases h
theorem Cz{τk:List (Nat×AV)}{ps:List Nat}{iy b:K}{args:List AV}(ho:σ[l]?=some (.loop τk nt ps iy b none))(hc:ps.length=args.length∧nodup ps=true∧ps.all (· < nt)=true) :
  round P l args σ=auT l σ.length (arL P l b (exec P iy ⟨tm (ps.zip args++τk),σ,nt,some l⟩)):=by
 rw[round.eq_def];simp only[ho,hc,and_self,if_true,N3];cases exec P iy ⟨tm (ps.zip args++τk),σ,nt,some l⟩with
 |none=>rfl
 |some r=>
  obtain⟨e,st⟩:=r;cases e with
  |exit i=>rfl
  |ret=>rfl
  |normal=>
   simp only[Az,arL];cases st.σ[l]? with
   |none=>rfl
   |some o=>
    cases o with
    |loop τ1 nt1 ps1 asg1 b1 s1=>
     cases s1 with
     |none=>
      simp only[IN];cases exec P b { st with σ:=st.σ.set l (.loop τ1 nt1 ps1 asg1 b1 (some .normal)) }with
      |none=>rfl
      |some q=>rfl
     |some e=>rfl
    |_=>rfl
theorem arM{b:K}:arL P l b (some (.normal,⟨τ,σ,nt,rd⟩))=IN P l b ⟨τ,σ,nt,rd⟩ σ[l]? := rfl
theorem amU{b b1 asg1:K}{τ1:List (Nat×AV)}{nt1:Nat}{ps1:List Nat}:IN P l b ⟨τ,σ,nt,rd⟩ (some (.loop τ1 nt1 ps1 asg1 b1 none))=exec P b ⟨τ,σ.set l (.loop τ1 nt1 ps1 asg1 b1 (some .normal)),nt,rd⟩:=rfl
theorem arN{e:Ex}:auT l n (some (e,⟨τ,σ,nt,rd⟩))=alE l n e ⟨τ,σ,nt,rd⟩ σ[l]? := rfl
theorem arP{b2 asg2:K}{τ2:List (Nat×AV)}{nt2:Nat}{ps2:List Nat}:alE l n .normal ⟨τ,σ,nt,rd⟩ (some (.loop τ2 nt2 ps2 asg2 b2 (some .normal)))=some (.p (.bool true),gc n [] (σ.set l (.loop τ2 nt2 ps2 asg2 b2 none))):=rfl
theorem arQ{b2 asg2:K}{τ2:List (Nat×AV)}{nt2:Nat}{ps2:List Nat}:alE l n .ret ⟨τ,σ,nt,rd⟩ (some (.loop τ2 nt2 ps2 asg2 b2 (some .normal)))=some (.p (.bool false),gc n [] (σ.set l (.loop τ2 nt2 ps2 asg2 b2 (some .ret)))):=rfl
theorem arO{i:Nat}{b2 asg2:K}{τ2:List (Nat×AV)}{nt2:Nat}{ps2:List Nat}:alE l n (.exit i) ⟨τ,σ,nt,rd⟩ (some (.loop τ2 nt2 ps2 asg2 b2 (some .normal)))=some (.p (.bool false),gc n [] (σ.set l (.loop τ2 nt2 ps2 asg2 b2 (some (.exit i))))):=rfl
theorem Zw{S T α:Type}{τk:List (Nat×AV)}{ps:List Nat}{iy b:K}(arg:α→List AV)(sto:S→ah)(f:Nat→S→α→S ⊕ T)(out:T→Ex×ah)(ok:Nat→S→Prop)
  (hlen:∀s,(sto s).length=n) (hout:∀t,(out t).2.length=n) (as:List α)
  (hstep:∀(i:Nat) (a:α) (s:S),as[i]?=some a→ok i s→(∀s',f i s a=.inl s'→ok (i+1) s') ∧
   round P n (arg a) (sto s++[.loop τk nt ps iy b none])=(match f i s a with
    |.inl s'=>some (.p (.bool true),sto s'++[.loop τk nt ps iy b none])
    |.inr t=>some (.p (.bool false),(out t).2++[.loop τk nt ps iy b (some (out t).1)]))) :
  ∀(r:List α) (i:Nat) (s:S),as.drop i=r→ok i s→rounds P n (r.map arg) (sto s++[.loop τk nt ps iy b none])=(match aq f i s r with
    |.inl s'=>some (true,sto s'++[.loop τk nt ps iy b none])
    |.inr t=>some (false,(out t).2++[.loop τk nt ps iy b (some (out t).1)])):=by
 intro r
 induction r with
 |nil=>intro i s _ _;rfl
 |cons a r ih=>
  intro i s hd hok
  have ha:as[i]?=some a:=by
   have:=congrArg (·[0]?) hd;simpa using this
  have hr:as.drop (i+1)=r:=by
   have:=congrArg (List.drop 1) hd;simpa using this
  obtain⟨h1,h2⟩:=hstep i a s ha hok;simp only[rK,rounds,aq];rw[h2];cases hf:f i s a with
  |inl s'=>
   simp only
   rw[if_pos (by simp[hlen]),ih (i+1) s' hr (h1 s' hf)]
  |inr t=>
   simp only
   rw[if_pos (by simp[hlen,hout])]
def nN(P:Prog)(ps:List Nat)(iy b:K)(gv:AV)(kept:List (Nat×AV))(σ:ah)(nt:Nat)(rd:Option Nat):Option (Ex×ah) :=
 (Va gv).bind fun x=>(P.fn x.1).bind fun fn=>
  if uZ rd σ && (nodup ps && ps.all (· < nt))then(call P fn (.yield σ.length::x.2) (σ++[.loop kept nt ps iy b none])).bind fun y=>
   match y.2[σ.length]? with
   |some (.loop _ _ _ _ _ none)=>some (.normal,gc σ.length [] (y.2.set σ.length .gone))
   |some (.loop _ _ _ _ _ (some .normal))=>none
   |some (.loop _ _ _ _ _ (some e))=>some (e,gc σ.length [] (y.2.set σ.length .gone))
   |_=>none
  else none
def Fy(τ:Tm)(nt:Nat)(rd:Option Nat):Option (Ex×ah)→Option (Ex×St)
 |some (e,σ)=>some (e,⟨τ,σ,nt,rd⟩)
 |none=>none
theorem Cy{g:O}{lv ps:List Nat}{iy b:K}:exec P (.range g ps lv iy b) ⟨τ,σ,nt,rd⟩=Fy τ nt rd (nN P ps iy b (g.val τ) (τ.kept lv) σ nt rd):=by
 rw[exec.eq_def];simp only[nN,N3];cases Va (g.val τ)with
 |none=>rfl
 |some x=>
  obtain⟨f,cap⟩:=x;simp only[Az];cases P.fn f with
  |none=>rfl
  |some fn=>
   simp only[Az];split
   ·cases call P fn (.yield σ.length::cap) (σ++[.loop (τ.kept lv) nt ps iy b none])with
    |none=>rfl
    |some y=>
     simp only[Az];cases y.2[σ.length]? with
     |none=>rfl
     |some o=>
      cases o with
      |loop τ1 nt1 ps1 asg1 b1 s1=>
       cases s1 with
       |none=>rfl
       |some e=>cases e<;>rfl
      |_=>rfl
   ·rfl
theorem Zp{e:Ex}:Fy τ nt rd (some (e,σ))=some (e,⟨τ,σ,nt,rd⟩):=rfl
theorem al1{es:Nat}{v:PV}:uX es (aX [.p v] σ)=some (.ptr σ.length 1 0 0,σ++[.pv es [[v]] false]):=rfl
theorem awq{es:Nat}{c:PV}{v:Bool}{r:ah}:eY (.pv es [[c]] false::r) 1 (.ptr 0 1 0 0) (.p (.bool v))=some (.pv es [[.bool v]] false::r):=rfl
theorem au3{es:Nat}{c:PV}{k:IntKind}{v:Int}{r:ah}:eY (.pv es [[c]] false::r) 1 (.ptr 0 1 0 0) (.p (.int k v))=some (.pv es [[.int k v]] false::r):=rfl
theorem any_some:as8 (some σ)=some (.any,σ):=rfl
theorem aps{es:Nat}{v:PV}{r:ah}:iu (.pv es [[v]] false::r) 1 false (.ptr 0 1 0 0)=some (.p v):=rfl
theorem aqJ{a b:Obj}{v:AV}{es:Nat}{fr:Bool}{r:ah}:iu (a::b::.av es [[v]] fr::r) 1 false (.ptr 2 1 0 0)=some v:=rfl
theorem apo{vs:List AV}{a b c d e:Obj}:gc 4 vs [a,b,c,d,e]=if C2 4 vs [a,b,c,d,e]=true then[a,b,c,d]else[a,b,c,d,e]:=by unfold gc;rw[if_neg (by simp)];rfl
theorem apn{vs:List AV}{a b c d:Obj}:gc 4 vs [a,b,c,d]=[a,b,c,d]:=eU (by simp)
theorem atC{vs:List AV}{a b c d:Obj}:gc 3 vs [a,b,c,d]=if C2 3 vs [a,b,c,d]=true then[a,b,c]else[a,b,c,d]:=by unfold gc;rw[if_neg (by simp)];rfl
theorem atB{vs:List AV}{a b c:Obj}:gc 3 vs [a,b,c]=[a,b,c]:=eU (by simp)
theorem aef{τ:List (Nat×AV)}{nt:Nat}{ps:List Nat}{iy b:K}{s:Option Ex}:Obj.below n (.loop τ nt ps iy b s)=τ.all fun x=>AE.below n x.2:=rfl
theorem aj5{b:Nat}:vO σ 1 true (some [.map b])=some (.ptr σ.length 1 0 0,σ++[.av 1 [[.map b]] false]):=rfl
theorem ag4{b:Nat}:cellsOf 1 false (.map b)=some [.map b]:=rfl
theorem TM{a:Obj}{es:List (PV×AV)}{r:ah}{kl:ny}{k:PV}{z:AV}(hl:tj kl k=true)(h:findKey kl k es=some none):vf (a::.map es false::r) kl z (.map 1) (.p k) true=some (z6 [z,.p (.bool false)]):=by
 simp only[vf,YK,abc,S2,hl,if_true,h,Az];rfl
theorem TN{a:Obj}{es:List (PV×AV)}{r:ah}{kl:ny}{k:PV}{z v:AV}(hl:tj kl k=true)(h:findKey kl k es=some (some v)):vf (a::.map es false::r) kl z (.map 1) (.p k) true=some (z6 [v,.p (.bool true)]):=by
 simp only[vf,YK,abc,S2,hl,if_true,h,Az];rfl
theorem afu{vs:List AV}{i:Nat}:Pc (.jY vs) i=vs[i]? := rfl
theorem ao1{a b c d e:AV}:cellsOf 5 true (.agg [a,b,c,d,e])=some [a,b,c,d,e]:=rfl
theorem asA{a b c d:PV}{es:Nat}:vO σ es true (some [.p a,.p b,.p c,.p d,.aA])=some (.ptr σ.length 1 0 0,σ++[.av es [[.p a,.p b,.p c,.p d,.aA]] false]):=rfl
theorem avQ{a:ByteArray}{z:PV}:lr σ 1 1 (gR (List.replicate 1 [.p z]).flatten [(0,1,.p (.str a))])=some (.sl σ.length 1,σ++[.pv 1 [[.str a]] false]):=rfl
theorem aes{j:Nat}{cs:List AV}:aG σ (j+1) (.jY cs)=(omap (aG σ j) cs).map .jY:=rfl
def lp{S T:Type}(sto:S→ah)(out:T→Ex×ah):S ⊕ T→Ex×ah
 |.inl s=>(.normal,sto s)
 |.inr t=>out t
theorem Q0{S T α:Type}{gv:AV}{kept:List (Nat×AV)}{ps:List Nat}{iy b:K}{f0:FuncId}{fn:cH}{cap:List AV}(hfn:Va gv=some (f0,cap))(hF:P.fn f0=some fn)(hps:nodup ps=true∧ps.all (· < nt)=true)
  (arg:α→List AV) (sto:S→ah) (f:Nat→S→α→S ⊕ T) (out:T→Ex×ah) (ok:Nat→S→Prop) (as:List α) (s0:S) (hrd:uZ rd (sto s0)=true)
  (iter:∀(σ σ':ah) (bb:Bool),rounds P (sto s0).length (as.map arg) σ=some (bb,σ')→∃v,call P fn (.yield (sto s0).length::cap) σ=some (v,σ'))
  (hlen:∀s,(sto s).length=(sto s0).length) (hout:∀t,(out t).2.length=(sto s0).length)
  (hbel:∀s,(sto s).all (Obj.below (sto s0).length)=true) (hbelo:∀t,(out t).2.all (Obj.below (sto s0).length)=true) (hnn:∀t,(out t).1≠.normal)
  (hstep:∀(i:Nat) (a:α) (s:S),as[i]?=some a→ok i s→(∀s',f i s a=.inl s'→ok (i+1) s') ∧
   round P (sto s0).length (arg a) (sto s++[.loop kept nt ps iy b none])=(match f i s a with
    |.inl s'=>some (.p (.bool true),sto s'++[.loop kept nt ps iy b none])
    |.inr t=>some (.p (.bool false),(out t).2++[.loop kept nt ps iy b (some (out t).1)])))
  (h0:ok 0 s0):nN P ps iy b gv kept (sto s0) nt rd=some (lp sto out (aq f 0 s0 as)):=by
 have hr:=Zw (P:=P) (n:=(sto s0).length) arg sto f out ok hlen hout as hstep as 0 s0 rfl h0
 have gcs:∀x:ah,x.length=(sto s0).length→x.all (Obj.below (sto s0).length)=true→gc (sto s0).length [] (x++[.gone])=x:=by
  intro x hx hb;unfold gc;rw[if_neg (by simp[hx])]
  have ht:(x++[Obj.gone]).take (sto s0).length=x:=by rw[←hx];simp
  rw[if_pos (by simp only[C2,ht,abS,hb,RA]),ht]
 have seta:∀(x:ah) (o o':Obj),x.length=(sto s0).length→(x++[o]).set (sto s0).length o'=x++[o']:=by
  intro x o o' hx;rw[←hx];simp
 have geta:∀(x:ah) (o:Obj),x.length=(sto s0).length→(x++[o])[(sto s0).length]?=some o:=by
  intro x o hx;rw[←hx];simp
 unfold nN;simp only[hfn,hF,Az,hrd,hps,RA,if_true];cases hf:aq f 0 s0 as with
 |inl s=>
  rw[hf]at hr;obtain⟨v,hv⟩:=iter _ _ _ hr;rw[hv];simp only[Az,geta _ _ (hlen s),seta _ _ _ (hlen s),gcs _ (hlen s) (hbel s),lp]
 |inr t=>
  rw[hf]at hr;obtain⟨v,hv⟩:=iter _ _ _ hr;rw[hv];have hn:=hnn t;simp only[Az,geta _ _ (hout t),seta _ _ _ (hout t),gcs _ (hout t) (hbelo t),lp]
def FW(es bytes:Nat)(args:List AV)(σ:ah):Option (AV×ah) :=
 match args with
 | [.sl b n,.p (.int .i64 i),.sl c m]=>
  match σ[b]?,σ[c]? with
  |some (.pv e rows false),some (.pv e' new _)=>
   if rows.length=n∧new.length=m∧b≠c∧(e=es∨e=0∧rows.isEmpty=true)∧e'=es∧0<m∧0≤i∧i.toNat≤n∧(n+m)*bytes≤140737488355328 then
    some (.sl b (n+m),σ.set b (.pv es (rows.take i.toNat++new++rows.drop i.toNat) false))
   else none
  |_,_=>none
 |_=>none
def D0{α:Type}(lt:α→α→Bool)(x:α):List α→List α
 | []=>[x]
 |y::r=>if lt y x=true then y::D0 lt x r else x::y::r
def dg{α:Type}(lt:α→α→Bool):List α→List α
 | []=>[]
 |x::r=>D0 lt x (dg lt r)
def Ka{α:Type}(lt:α→α→Bool):List α→Bool
 | []=>true
 |x::r=>(r.all fun y=>lt x y ||lt y x) && Ka lt r
def xW(es:Nat)(g:FuncId)(ok:List PV→Bool)(lt:List PV→List PV→Bool):List AV→ah→Option (AV×ah)
 | [.sl b n,.p (.fn f [])],σ=>
  if f=g then
   match σ[b]? with
   |some (.pv e rows false)=>if rows.length=n∧n<4611686018427387904∧(rows=[]∨e=es)∧rows.all ok=true∧Ka lt rows=true then some (.p (.jY []),σ.set b (.pv e (dg lt rows) false))else none
   |_=>none
  else none
 |_,_=>none
def okV:List PV→Bool
 | [.str _,.int .i64 _]=>true
 |_=>false
def YM:List PV→List PV→Bool
 | [.str a,.int _ _],[.str b,.int _ _]=>slt a b
 |_,_=>false
def VA:List PV→List PV→Bool
 | [.str a,.int _ x],[.str b,.int _ y]=>slt a b ||(a.toList == b.toList && decide (x<y))
 |_,_=>false
def Cu(es:Nat)(g:FuncId)(ok:List PV→Bool)(lt:List PV→List PV→Bool):List AV→ah→Option (AV×ah)
 | [.sl b n,.p (.fn f [])],σ=>
  if f=g then
   match σ[b]? with
   |some (.pv e rows false)=>if rows.length=n∧n<4611686018427387904∧(rows=[]∨e=es)∧rows.all ok=true then some (.p (.jY []),σ.set b (.pv e (dg lt rows) false))else none
   |_=>none
  else none
 |_,_=>none
def zf(g1 g2:FuncId)(args:List AV)(σ:ah):Option (AV×ah):=(xW 2 g1 okV YM args σ).orElse fun _=>Cu 2 g2 okV VA args σ
def qu:List (List PV)→List (List PV)
 | []=>[]
 | [a]=>[a]
 |a::b::r=>if eqVW a b then qu (b::r)else a::qu (b::r)
where eqVW:List PV→List PV→Bool
 | [.str a,.int _ x],[.str b,.int _ y]=>a.toList == b.toList && decide (x=y)
 |_,_=>false
def xU(es:Nat)(ok:List PV→Bool):List AV→ah→Option (AV×ah)
 | [.sl b n],σ=>
  match σ[b]? with
  |some (.pv e rows false)=>if rows.length=n∧n<4611686018427387904∧(rows=[]∨e=es)∧rows.all ok=true then some (.sl σ.length (qu rows).length,σ.set b .gone++[.pv e (qu rows) false])else none
  |_=>none
 |_,_=>none
def ze:List AV→ah→Option (AV×ah)
 | [.p (.aO rows)],σ=>if rows.length*64≤140737488355328∧(rows.all fun r=>r.length == 5)=true then some (.sl σ.length rows.length,σ++[.pv 5 rows false])else none
 |_,_=>none
abbrev eqs:=
 And.intro @ajJ <|And.intro @N9 <|And.intro @WN <|And.intro @Un <|And.intro @adW <|And.intro @Py <|And.intro @Yv <|
 And.intro @Vf <|And.intro @ahw <|And.intro @ahu <|And.intro @ajI <|And.intro @arI <|And.intro @alz <|And.intro @anc <|And.intro @aqf <|
 And.intro @aqe <|And.intro @aq9 <|And.intro @ara <|And.intro @aj2 <|And.intro @ajZ <|And.intro @aj1 <|And.intro @aj0 <|And.intro @anp <|And.intro @anR <|
 And.intro @ah1 <|And.intro @X9 <|And.intro @tmE <|And.intro @Rl <|And.intro @ar4 <|And.intro @Yt <|And.intro @aj3 <|And.intro @ahG <|
 And.intro @aqu <|And.intro @aqv <|And.intro @aqx <|And.intro @ahM <|And.intro @ake <|And.intro @alo <|And.intro @arH <|And.intro @alC <|And.intro @Zv <|
 And.intro @alB <|And.intro @Zu <|And.intro @adp <|And.intro @am3 <|And.intro @afO <|And.intro @aeZ <|And.intro @ae0 <|And.intro @ae1 <|
 And.intro @auF <|And.intro @aq6 <|And.intro @an6 <|And.intro @ak0 <|And.intro @an3 <|And.intro @ak2 <|And.intro @aq3 <|And.intro @aq2 <|And.intro @aq8 <|
 And.intro @aq7 <|And.intro @ak6 <|And.intro @anU <|And.intro @ak7 <|And.intro @anV <|And.intro @aq4 <|And.intro @ak8 <|And.intro @ak9 <|And.intro @anW <|
 And.intro @anX <|And.intro @an8 <|And.intro @an9 <|And.intro @ah6 <|And.intro @aei <|And.intro @an1 <|And.intro @an2 <|And.intro @an0 <|
 And.intro @anZ <|And.intro @ah7 <|And.intro @an4 <|And.intro @ah8 <|And.intro @aq5 <|And.intro @ala <|And.intro @an7 <|And.intro @ats <|And.intro @ajV <|And.intro @akZ <|And.intro @anY <|And.intro @aq1 <|And.intro @ah5 <|And.intro @ak1 <|And.intro @Bq <|And.intro @ua <|
 And.intro @alc <|And.intro @an5 <|And.intro @alb <|And.intro @ah4 <|And.intro @ak3 <|And.intro @ak5 <|And.intro @ak4 <|And.intro @aej <|And.intro @agT <|And.intro @ajf <|And.intro @adq <|And.intro @atw <|And.intro @atx <|And.intro @aty <|
 And.intro @atz <|And.intro @NF <|And.intro @agU <|And.intro @acS <|And.intro @WT <|And.intro @agV <|And.intro @B3 <|And.intro @WU <|
 And.intro @zd <|And.intro @alS <|And.intro @aoA <|And.intro @aoB <|And.intro @auh <|And.intro @aqT <|And.intro @akL <|And.intro @arM <|And.intro @amU <|
 And.intro @arN <|And.intro @arP <|And.intro @arQ <|And.intro @arO <|And.intro @al1 <|And.intro @awq <|And.intro @au3 <|And.intro @any_some <|And.intro @aps <|
 And.intro @Zp <|And.intro @aqJ <|And.intro @apn <|And.intro @apo <|And.intro @atC <|And.intro @atB <|And.intro @aef <|And.intro @wG <|And.intro @Ac <|
 And.intro @aj5 <|And.intro @ag4 <|And.intro @afu <|And.intro @ao1 <|And.intro @asA <|And.intro @avQ <|And.intro @aes <|And.intro @aoU <|
 And.intro @avb <|And.intro @avt <|And.intro @avm <|And.intro @ave <|And.intro @avp <|And.intro @avj <|And.intro @avi <|And.intro @avg <|And.intro @avf <|And.intro @asm <|
 And.intro @aso <|And.intro @asn <|And.intro @avq <|And.intro @avd <|And.intro @avn <|And.intro @avo <|And.intro @ase <|And.intro @aoO <|And.intro @asj <|
 And.intro @asi <|And.intro @aoS <|And.intro @asl <|And.intro @avk <|And.intro @avl <|And.intro @asf <|And.intro @aoP <|And.intro @ash <|And.intro @aoQ <|
 And.intro @aiG <|And.intro @afp <|And.intro @NU <|And.intro @Term.awh <|And.intro @Term.awi <|And.intro @Term.awj <|And.intro @Term.awk <|And.intro @Term.awl <|
 And.intro @awv <|And.intro @avh <|And.intro @al9 <|And.intro @aiF <|And.intro @aiE <|And.intro @ama <|And.intro @bs1 <|And.intro @bs2 <|And.intro @bs3 <|
 And.intro @bs4 <|And.intro @bs6 <|And.intro @Fh <|And.intro @bs0 <|And.intro @aws <|And.intro @YW <|And.intro @ajO <|And.intro @ahy <|And.intro @ajR <|
 And.intro @decide_true <|And.intro @decide_false <|And.intro @decide_not <|And.intro @and_self <|And.intro @and_true <|And.intro @true_and <|And.intro @and_false <|And.intro @false_and <|
 And.intro @or_true <|And.intro @true_or <|And.intro @or_false <|And.intro @false_or <|And.intro @not_true_eq_false <|And.intro @not_false_eq_true <|And.intro @amj <| @aoZ
abbrev eqL:=
 And.intro @List.map_cons.{0,0} <|And.intro @List.map_nil.{0,0} <|And.intro @List.flatMap_cons.{0,0} <|And.intro @List.flatMap_nil.{0,0} <|And.intro @List.append_nil.{0} <|And.intro @List.nil_append.{0} <|And.intro @ite_self.{1} <|And.intro @List.all_cons.{0} <|And.intro @List.all_nil.{0} <|And.intro @List.take_succ_cons.{0} <|And.intro @List.take_zero.{0} <|And.intro @abX <|And.intro @RA <|And.intro @Uk <|And.intro @List.cons_append.{0} <|And.intro @List.set_cons_zero.{0} <|And.intro @List.set_cons_succ.{0} <|And.intro @List.flatten_cons.{0} <|And.intro @List.flatten_nil.{0} <|And.intro @List.zip_cons_cons.{0,0} <|And.intro @List.zip_nil_left.{0,0} <|And.intro @List.getElem?_cons_zero.{0} <|And.intro @List.getElem?_cons_succ.{0} <|And.intro @List.length_cons.{0} <|And.intro @List.length_nil.{0} <|And.intro @Option.map_some.{0,0} <|And.intro @Option.map_none.{0,0} <|And.intro @abY <|And.intro @ab1 <|And.intro @Bool.not_not <|And.intro @lG <| @N4
abbrev eqD:=
 And.intro @omap.eq_1 <|And.intro @omap.eq_2 <|And.intro @depth.eq_1 <|And.intro @YS.eq_1 <|And.intro @YS.eq_2 <|And.intro @agr.eq_1 <|And.intro @agr.eq_2 <|And.intro @eh.eq_1 <|And.intro @bL.eq_1 <|And.intro @bL.eq_2 <|And.intro @asb.eq_1 <|And.intro @asb.eq_2 <|And.intro @HD.eq_1 <|And.intro @HD.eq_2 <|And.intro @aeq.eq_1 <|And.intro @aeq.eq_2 <|And.intro @xf.eq_1 <|And.intro @number.eq_1 <|And.intro @number.eq_2 <|And.intro @C2.eq_1 <|And.intro @lp.eq_1 <|And.intro @lp.eq_2 <| @z6.eq_1
abbrev bR:=
 And.intro eqs <|And.intro eqL eqD
theorem aD{a b:Nat}(h:Nat.ble a b=true):a≤b:=Nat.le_of_ble_eq_true h
variable {P:Prog} {τ:Tm} {σ:ah} {k k0 k1 k2:IntKind} {a b c d e x y z u v:AV} {o0 o1 o2 o3:Obj} {r:ah} {es n f:Nat} {fr:Bool}
theorem aoa:part 0 1 [a,b,c,d,e]=some [a]:=rfl
theorem aob:part 1 1 [a,b,c,d,e]=some [b]:=rfl
theorem aoc:part 2 1 [a,b,c,d,e]=some [c]:=rfl
theorem aod:part 3 1 [a,b,c,d,e]=some [d]:=rfl
theorem aoe:part 4 1 [a,b,c,d,e]=some [e]:=rfl
theorem are:part 0 5 [a,b,c,d,e]=some [a,b,c,d,e]:=rfl
theorem ari:cr 0 [x] [a,b,c,d,e]=some [x,b,c,d,e]:=rfl
theorem arj:cr 1 [x] [a,b,c,d,e]=some [a,x,c,d,e]:=rfl
theorem ark:cr 2 [x] [a,b,c,d,e]=some [a,b,x,d,e]:=rfl
theorem arl:cr 3 [x] [a,b,c,d,e]=some [a,b,c,x,e]:=rfl
theorem arn:cr 4 [x] [a,b,c,d,e]=some [a,b,c,d,x]:=rfl
theorem auM:cr 0 [x,y,z,u,v] [a,b,c,d,e]=some [x,y,z,u,v]:=rfl
def RF(n i o size:Nat)(agg:Bool):Option Obj→Option AV
 |some (.pv _ rows _)=>if rows.length=n then((rows[i]?.bind (part o size)).bind (pf agg)).map .p else none
 |some (.av _ rows _)=>if rows.length=n then(rows[i]?.bind (part o size)).bind (nb agg)else none
 |_=>none
theorem atY{bb n i o size:Nat}{agg:Bool}:iu σ size agg (.ptr bb n i o)=RF n i o size agg σ[bb]? := by
 simp only[iu];cases σ[bb]? with
 |none=>rfl
 |some ob=>cases ob<;>rfl
def ofC(agg:Bool):Option (List AV)→Option AV
 |some l=>nb agg l
 |none=>none
theorem aqI{o size:Nat}{agg:Bool}{row:List AV}:RF 1 0 o size agg (some (.av es [row] fr))=ofC agg (part o size row):=by
 simp only[RF,lZ,nz,if_true,S2,Az];cases part o size row<;>rfl
theorem auD:ofC false (some [a])=some a:=rfl
theorem auE:ofC true (some [a,b,c,d,e])=some (zZ [a,b,c,d,e]):=rfl
theorem akD{pa pb pc pd:PV}{bb n:Nat}:zZ [.p pa,.p pb,.p pc,.p pd,.sl bb n]=.agg [.p pa,.p pb,.p pc,.p pd,.sl bb n]:=rfl
theorem aeb{pa pb pc pd:PV}:zZ [.p pa,.p pb,.p pc,.p pd,.aA]=.agg [.p pa,.p pb,.p pc,.p pd,.aA]:=rfl
theorem anH{pa pb pc pd pe:PV}:zZ [.p pa,.p pb,.p pc,.p pd,.p pe]=.p (.agg [pa,pb,pc,pd,pe]):=rfl
def Wj(σ:ah)(bb n i o:Nat)(new:List AV):Option Obj→Option ah
 |some (.pv es rows false)=>if rows.length=n then
   (rows[i]?.bind fun r=>
    match ae new with
    |some ps=>(cr o ps r).map fun r'=>σ.set bb (.pv es (rows.set i r') false)
    |none=>(cr o new (r.map .p)).map fun r'=>σ.set bb (.av es ((rows.map fun r=>r.map .p).set i r') false))else none
 |some (.av es rows false)=>if rows.length=n then
   (rows[i]?.bind fun r=>(cr o new r).map fun r'=>
    σ.set bb (match(rows.set i r')with
     | [r'']=>match ae r'' with
      |some ps=>.pv es [ps] false
      |none=>.av es [r''] false
     |rows'=>.av es rows' false))else none
 |_=>none
theorem wT{bb n i o:Nat}{new:List AV}:setRow σ bb n i o new=Wj σ bb n i o new σ[bb]? := by
 simp only[setRow];cases σ[bb]? with
 |none=>rfl
 |some ob=>
  cases ob with
  |pv es rows fr=>cases fr<;>rfl
  |av es rows fr=>cases fr<;>rfl
  |_=>rfl
def stF(σ:ah)(bb es:Nat):Option (List AV)→Option ah
 |some r=>some (σ.set bb (mkObj es r))
 |none=>none
theorem arY{bb o:Nat}{new row:List AV}:Wj σ bb 1 0 o new (some (.av es [row] false))=stF σ bb es (cr o new row):=by
 simp only[Wj,lZ,nz,if_true,S2,Az,abf];cases cr o new row with
 |none=>rfl
 |some r=>simp only[x6,stF,mkObj];cases ae r<;>rfl
theorem arZ{bb o s m:Nat}{row:List PV}:Wj σ bb 1 0 o [.sl s m] (some (.pv es [row] false))=stF σ bb es (cr o [.sl s m] (row.map .p)):=by
 simp only[Wj,lZ,nz,if_true,S2,Az,ae,rK,B0,abf];cases h:cr o [AV.sl s m] (row.map .p)with
 |none=>rfl
 |some r=>
  simp only[x6,stF,mkObj]
  have:ae r=none:=by
   unfold cr at h;split at h
   ·cases h
    have key:∀(l:List PV) (t:List AV),ae (l.map .p++.sl s m::t)=none:=by
     intro l t
     induction l with
     |nil=>rfl
     |cons q l ih=>simp[ae,ih]
    rw[Ui,←acq];exact key _ _
   ·cases h
  rw[this]
theorem alV{bb:Nat}{row:List AV}:stF σ bb es (some row)=some (σ.set bb (mkObj es row)):=rfl
theorem akI{pa pb pc pd:PV}{bb n:Nat}:mkObj es [.p pa,.p pb,.p pc,.p pd,.sl bb n]=.av es [[.p pa,.p pb,.p pc,.p pd,.sl bb n]] false:=rfl
theorem anI{row:List PV}:mkObj es (row.map .p)=.pv es [row] false:=by simp[mkObj,Ec]
theorem akG{q:PV}:mkObj es [.p q]=.pv es [[q]] false:=rfl
theorem ajD{pa pb pc pd:PV}:aX [.p pa,.p pb,.p pc,.p pd,.aA] σ=([.p pa,.p pb,.p pc,.p pd,.sl σ.length 0],σ++[.pv 0 [] false]):=rfl
theorem ajE:∀(row:List PV) (σ:ah),aX (row.map .p) σ=(row.map .p,σ)
 | [],_=>rfl
 |q::row,σ=>by simp only[rK,aX,ajE row σ]
theorem ai9{cs:List AV}:uX es (cs,σ)=some (.ptr σ.length 1 0 0,σ++[mkObj es cs]):=rfl
theorem aqB{size:Nat}{cs:List AV}:vO σ size false (some cs)=uX size (aX cs σ):=rfl
theorem ar2{bb n i o:Nat}{q:Int}:eY σ 1 (.ptr bb n i o) (.p (.int k q))=Wj σ bb n i o [.p (.int k q)] σ[bb]? := by rw[←wT];rfl
theorem ar3{bb n i o:Nat}{q:ByteArray}:eY σ 1 (.ptr bb n i o) (.p (.str q))=Wj σ bb n i o [.p (.str q)] σ[bb]? := by rw[←wT];rfl
theorem au4{bb n i o s m:Nat}:eY σ 1 (.ptr bb n i o) (.sl s m)=Wj σ bb n i o [.sl s m] σ[bb]? := by rw[←wT];rfl
theorem aoD{bb n i o:Nat}:eY σ 1 (.ptr bb n i o) .aA=Wj (σ++[.pv 0 [] false]) bb n i o [.sl σ.length 0] (σ++[.pv 0 [] false])[bb]? := by rw[←wT];rfl
theorem ar1{bb n i o s m:Nat}{pa pb pc pd:PV}:eY σ 5 (.ptr bb n i o) (.agg [.p pa,.p pb,.p pc,.p pd,.sl s m])=Wj σ bb n i o [.p pa,.p pb,.p pc,.p pd,.sl s m] σ[bb]? := by rw[←wT];rfl
theorem aoF{bb n i o:Nat}{pa pb pc pd:PV}:eY σ 5 (.ptr bb n i o) (.agg [.p pa,.p pb,.p pc,.p pd,.aA])=Wj (σ++[.pv 0 [] false]) bb n i o [.p pa,.p pb,.p pc,.p pd,.sl σ.length 0] (σ++[.pv 0 [] false])[bb]? := by rw[←wT];rfl
theorem awp{bb n i o:Nat}{t:Term}:eY σ 5 (.ptr bb n i o) (.p (.agg t.row))=Wj σ bb n i o (t.row.map .p) σ[bb]? := by
 rw[←wT];simp only[eY,NU,aR,Term.az,if_true,ajE]
theorem arq{t:Term}:cr 0 (t.row.map .p) [a,b,c,d,e]=some (t.row.map .p):=by rw[Term.a6];rfl
theorem aro{t:Term}:cr 0 [x] (t.row.map .p)=some [x,.p (.int .i64 t.w),.p (.int .u64 t.v),.p (.str t.name),.p (.aO (t.args.map Term.row))]:=by rw[Term.a6];rfl
theorem arp{t:Term}:cr 4 [x] (t.row.map .p)=some [.p (.int .i64 t.op),.p (.int .i64 t.w),.p (.int .u64 t.v),.p (.str t.name),x]:=by rw[Term.a6];rfl
theorem atV{t:Term}:RF 1 0 0 5 true (some (.pv es [t.row] fr))=some (.p (.agg t.row)):=by
 simp only[RF,lZ,nz,if_true,S2,Az];rw[Term.a6];rfl
theorem amX:j7 [a,b,c,d,e] []=some (zZ [a,b,c,d,e]):=rfl
theorem amZ{q0 q1 q2:Int}{q3:ByteArray}:j7 [a,b,c,d,e] [(0,1,.p (.int k0 q0)),(1,1,.p (.int k1 q1)),(2,1,.p (.int k2 q2)),(3,1,.p (.str q3))]=some (zZ [.p (.int k0 q0),.p (.int k1 q1),.p (.int k2 q2),.p (.str q3),e]):=rfl
theorem amY{q0 q1:Int}{q3:ByteArray}:j7 [a,b,c,d,e] [(0,1,.p (.int k0 q0)),(1,1,.p (.int k1 q1)),(3,1,.p (.str q3))]=some (zZ [.p (.int k0 q0),.p (.int k1 q1),c,.p (.str q3),e]):=rfl
theorem aoh{j:Nat}{cs:List AV}:aG σ (j+1) (.agg cs)=(omap (aG σ j) cs).map .agg:=rfl
theorem alm{j n:Nat}{rows:List (List PV)}:aG (o0::.pv es rows fr::r) (j+1) (.sl 1 n)=if rows.length=n then some (.aO rows)else none:=by simp[aG]
theorem apE{j n:Nat}{rows:List (List PV)}:aG (o0::o1::.pv es rows fr::r) (j+1) (.sl 2 n)=if rows.length=n then some (.aO rows)else none:=by simp[aG]
theorem auK{j n:Nat}{rows:List (List PV)}:aG (o0::o1::o2::.pv es rows fr::r) (j+1) (.sl 3 n)=if rows.length=n then some (.aO rows)else none:=by simp[aG]
theorem aln{j n:Nat}{rows:List (List PV)}:aG (o0::o1::o2::o3::.pv es rows fr::r) (j+1) (.sl 4 n)=if rows.length=n then some (.aO rows)else none:=by simp[aG]
theorem arE{j n:Nat}{rows:List (List PV)}:refs (o0::.pv es rows fr::r) (j+1) (.sl 1 n)=[1]:=rfl
theorem arF{j n:Nat}{rows:List (List PV)}:refs (o0::o1::.pv es rows fr::r) (j+1) (.sl 2 n)=[2]:=rfl
theorem arG{j n:Nat}{rows:List (List PV)}:refs (o0::o1::o2::.pv es rows fr::r) (j+1) (.sl 3 n)=[3]:=rfl
theorem alx{j:Nat}{cs:List AV}:refs σ (j+1) (.agg cs)=cs.flatMap (refs σ j):=rfl
theorem atq{rows:List (List PV)}:dM (o0::o1::.pv es rows fr::r) 2=o0::o1::.pv es rows true::r:=rfl
theorem atr{rows:List (List PV)}:dM (o0::o1::o2::.pv es rows fr::r) 3=o0::o1::o2::.pv es rows true::r:=rfl
theorem alU{q:List PV}:nO [o0,o1,o2,o3,.pv es [q] fr] es (.sl 4 1)=some (.inl [q]):=FH rfl rfl (.inl rfl)
theorem alT{q:List PV}:nO [o0,o1,o2,.pv es [q] fr] es (.sl 3 1)=some (.inl [q]):=FH rfl rfl (.inl rfl)
structure V2 where
 name:ByteArray
 w:Int
def ay(v:V2):List PV:=[.str v.name,.int .i64 v.w]
theorem avS{q:ByteArray}{w:Int}{z0 z1:AV}:lr σ 2 1 (gR (List.replicate 1 [z0,z1]).flatten [(0,2,.p (.agg [.str q,.int k w]))])=some (.sl σ.length 1,σ++[.pv 2 [[.str q,.int k w]] false]):=rfl
theorem anj{q:Int}{c:Bool}:PV.flat (.jY [.int k q,.bool c])=true:=by simp[PV.flat]
theorem ank{q q':Int}:PV.flat (.jY [.int k q,.int k0 q'])=true:=by simp[PV.flat]
theorem aoR{qa qb:PV}:vO σ n true (some [.p qa,.p qb])=some (.p (.ptr [qa,qb] 0),σ):=rfl
theorem am0{q:ByteArray}{w:Int}:j7 [a,b] [(0,1,.p (.str q)),(1,1,.p (.int k w))]=some (.p (.agg [.str q,.int k w])):=rfl
theorem atm:aX [.aA] σ=([.sl σ.length 0],σ++[.pv 0 [] false]):=rfl
theorem akH{bb n:Nat}:mkObj es [.sl bb n]=.av es [[.sl bb n]] false:=rfl
theorem ard:part 0 1 [a]=some [a]:=rfl
theorem auL:cr 0 [x] [a]=some [x]:=rfl
theorem NG{f:FuncId}{cap:List PV}{args:List AV}:tH P (.p (.fn f cap)) args σ=l5 P f (args++cap.map .p) σ:=afO
theorem KV{j:Nat}:refs σ j .aA=[]:=by cases j<;>rfl
abbrev eqM:=
 And.intro @aoa <|And.intro @aob <|And.intro @aoc <|And.intro @aod <|And.intro @aoe <|And.intro @are <|And.intro @ari <|And.intro @arj <|And.intro @ark <|
 And.intro @arl <|And.intro @arn <|And.intro @auM <|And.intro @atY <|And.intro @aqI <|And.intro @auD <|And.intro @auE <|And.intro @akD <|And.intro @aeb <|
 And.intro @anH <|And.intro @arY <|And.intro @arZ <|And.intro @alV <|And.intro @akI <|And.intro @anI <|And.intro @akG <|And.intro @ajD <|And.intro @ajE <|
 And.intro @ai9 <|And.intro @aqB <|And.intro @ar2 <|And.intro @ar3 <|And.intro @au4 <|And.intro @aoD <|And.intro @ar1 <|And.intro @aoF <|And.intro @awp <|
 And.intro @arq <|And.intro @aro <|And.intro @arp <|And.intro @atV <|And.intro @amX <|And.intro @amZ <|And.intro @amY <|And.intro @aoh <|And.intro @alm <|
 And.intro @apE <|And.intro @auK <|And.intro @aln <|And.intro @arE <|And.intro @arF <|And.intro @arG <|And.intro @alx <|And.intro @atq <|And.intro @atr <|
 And.intro @alT <|And.intro @alU <|And.intro @avS <|And.intro @anj <|And.intro @ank <|And.intro @aoR <|And.intro @am0 <|And.intro @atm <|And.intro @akH <|
 And.intro @ard <| @auL
abbrev aB:=
 And.intro bR eqM
end Go.AE
