import Derived.Test.YtpccheodgonkkaaGreatA0
import Derived.IntWalk
import Derived.Laws.Strings
set_option linter.unusedSimpArgs false
set_option linter.unusedVariables false
namespace Go.AE
variable {P:Prog} {τ:Tm} {σ σ':ae} {nt d n:Nat} {rd:Option Nat} {st:St}
abbrev aM(d:Nat)(x:O):fG:=⟨some d,.mv x false,none⟩
abbrev ak(d:Nat)(op:lV):fG:=⟨some d,op,none⟩
abbrev kI(n:Int):O:=.c (.p (.int .i64 n))
theorem ail{k t:Nat}{v:AV}{r:List (Nat×AV)}:(tm ((k,v)::r)).get t=if k=t then v else(tm r).get t:=rfl
theorem tmE:(∀(τ:Tm) (d t:Nat) (v:AV),(jg τ d v).get t=if d=t then v else τ.get t)∧(∀(k t:Nat) (v:AV) (r:List (Nat×AV)),(tm ((k,v)::r)).get t=if k=t then v else(tm r).get t) ∧
  (∀(τ:Tm) (n:Nat),O.val τ (.t n)=τ.get n)∧(∀(τ:Tm) (v:AV),O.val τ (.c v)=v):=⟨fun _ _ _ _=>rfl,fun _ _ _ _=>rfl,fun _ _=>rfl,fun _ _=>rfl⟩
def aod:Option St→Option (Ex×St)
 |some st=>some (.normal,st)
 |none=>none
def XC(P:Prog)(v:AV)(a b:K)(st:St):Option (Ex×St) :=
 match v with
 |.p (.bool true)=>exec P a st
 |.p (.bool false)=>exec P b st
 |_=>none
def Db(P:Prog)(d:Option Nat)(r:List fG)(τ:Tm)(nt:Nat)(rd:Option Nat):Option (AV×ae)→Option St
 |some (v,σ')=>(St.put ⟨τ,σ',nt,rd⟩ d v).bind (fA P r)
 |none=>none
def zN(P:Prog)(d:Option Nat)(op:lV)(r:List fG)(want:Bool)(τ:Tm)(σ:ae)(nt:Nat)(rd:Option Nat):AV→Option St
 |.p (.bool b)=>if b=want then Db P d r τ nt rd (cK P σ τ op)else(St.put ⟨τ,σ,nt,rd⟩ d (.p (.jO []))).bind (fA P r)
 |.p (.jO [])=>(St.put ⟨τ,σ,nt,rd⟩ d (.p (.jO []))).bind (fA P r)
 |_=>none
theorem akK{op:lV}{d:Option Nat}{r:List fG}:fA P (⟨d,op,none⟩::r) ⟨τ,σ,nt,rd⟩=Db P d r τ nt rd (cK P σ τ op):=by
 rw[Et];simp only[gS,xu,if_true];cases cK P σ τ op<;>rfl
theorem akL{op:lV}{d:Option Nat}{r:List fG}{t:Nat}{b:Bool}:fA P (⟨d,op,some (t,b)⟩::r) ⟨τ,σ,nt,rd⟩=zN P d op r b τ σ nt rd (τ.get t):=by
 rw[Et];simp only[gS];split
 ·rename_i c h
  simp only[xu,h,zN];cases c<;>cases b<;>simp<;>cases cK P σ τ op<;>rfl
 ·rename_i h
  simp[h,zN]
 ·rename_i h1 h2
  simp only[Option.bind_none];unfold zN;split
  ·rename_i h;exact absurd h (h1 _)
  ·rename_i h;exact absurd h h2
  ·rfl
theorem agQ{c:O}{a b:K}:exec P (.cond c a b) st=XC P (c.val st.τ) a b st:=by
 rw[Y7];unfold tf XC;split
 ·rename_i b h
  cases b<;>simp[h]
 ·rename_i h
  split
  ·rename_i h';exact absurd h' (h _)
  ·rename_i h';exact absurd h' (h _)
  ·rfl
theorem alg{d:Bool}{ops:List fG}:exec P (.cX d ops) st=aod (fA P ops st):=by
 rw[adz];cases fA P ops st<;>rfl
def aff(ops:List fG)(prs:List (Nat×Nat))(st0:St):Option St→Option (Ex×St)
 |some st=>if x9 ops prs st.τ=true then some (.normal,st)else if Af ops prs st0 st=true then some (.normal,st)else none
 |none=>none
theorem x8{ops:List fG}{prs:List (Nat×Nat)}:exec P (.CO ops prs) st=aff ops prs st (fA P ops st):=by
 rw[Y9];cases fA P ops st with
 |none=>rfl
 |some s=>simp only[aff,xu,OZ];split<;>rename_i h;rcases h with h|h<;>simp[h];rw[not_or]at h;rw[if_neg h.1,if_neg h.2]
theorem rv{ops:List fG}{prs:List (Nat×Nat)}{st0:St}:aff ops prs st0 (some st)=if x9 ops prs st.τ=true then some (.normal,st)else if Af ops prs st0 st=true then some (.normal,st)else none:=rfl
theorem ahu{r:List fG}{v:AV}(h:d<nt):Db P (some d) r τ nt rd (some (v,σ'))=fA P r ⟨jg τ d v,σ',nt,rd⟩:=by simp[Db,St.put,h]
theorem ZH{r:List fG}{v:AV}:Db P none r τ nt rd (some (v,σ'))=fA P r ⟨τ,σ',nt,rd⟩:=rfl
theorem adS{d:Option Nat}{op:lV}{r:List fG}:zN P d op r true τ σ nt rd (.p (.bool true))=Db P d r τ nt rd (cK P σ τ op):=rfl
theorem adP{d:Option Nat}{op:lV}{r:List fG}:zN P d op r false τ σ nt rd (.p (.bool false))=Db P d r τ nt rd (cK P σ τ op):=rfl
theorem adR{d:Option Nat}{op:lV}{r:List fG}:zN P d op r true τ σ nt rd (.p (.bool false))=Db P d r τ nt rd (some (.p (.jO []),σ)):=rfl
theorem adQ{d:Option Nat}{op:lV}{r:List fG}:zN P d op r false τ σ nt rd (.p (.bool true))=Db P d r τ nt rd (some (.p (.jO []),σ)):=rfl
theorem ag5{d:Option Nat}{op:lV}{r:List fG}{b:Bool}:zN P d op r b τ σ nt rd (.p (.jO []))=Db P d r τ nt rd (some (.p (.jO []),σ)):=rfl
theorem ajU{a b:K}:XC P (.p (.bool true)) a b st=exec P a st:=rfl
theorem ajT{a b:K}:XC P (.p (.bool false)) a b st=exec P b st:=rfl
theorem afg:aod (some st)=some (.normal,st):=rfl
theorem an1{x:O}:cK P σ τ (.mv x false)=some (x.val τ,σ):=by
 simp only[cK,plain];split
 ·rename_i h;simp[h]
 ·rfl
def mvE(σ:ae):AV→Option (AV×ae)
 |.aF=>some (.sl σ.length 0,σ++[.pv 0 [] false])
 |v=>some (v,σ)
theorem akH{x:O}:cK P σ τ (.mv x true)=mvE σ (x.val τ):=by
 simp only[cK,plain,mvE];split
 ·rename_i h;simp[h]
 ·rename_i h;split
  ·rename_i h';exact absurd h' h
  ·rfl
def gm(σ:ae):Option AV→Option (AV×ae)
 |some v=>some (v,σ)
 |none=>none
theorem dE{op:lV}(h:plain σ τ op=(quiet σ τ op).map fun v=>(v,σ))(h':cK P σ τ op=plain σ τ op):cK P σ τ op=gm σ (quiet σ τ op):=by
 rw[h',h];cases quiet σ τ op<;>rfl
def ae0:AV→AV→AV→Option AV
 |.p (.bool true),a,_=>some a
 |.p (.bool false),_,b=>some b
 |_,_,_=>none
theorem ahJ{c a b:O}:cK P σ τ (.pick c a b)=gm σ (ae0 (c.val τ) (a.val τ) (b.val τ)):=by
 rw[dE (op:=.pick c a b) rfl rfl];simp only[quiet,tf,ae0];split
 ·rename_i b h
  cases b<;>simp[h]
 ·rename_i h
  split
  ·rename_i h';exact absurd h' (h _)
  ·rename_i h';exact absurd h' (h _)
  ·rfl
def cu(op:BinOp):AV→AV→Option AV
 |.p a,.p b=>(binop op a b).map .p
 |_,_=>none
theorem aeK{op:BinOp}{x y:O}:cK P σ τ (.arith op x y)=gm σ (cu op (x.val τ) (y.val τ)):=by
 rw[dE (op:=.arith op x y) rfl rfl];simp only[quiet,cu];split<;>split<;>simp_all
theorem ahG{size:Nat}{agg:Bool}{x:O}:cK P σ τ (.load size agg x)=gm σ (gM σ size agg (x.val τ)):=dE (op:=.load size agg x) rfl rfl
def kB(zero:List AV)(ps:List (Nat×Nat×AV)):Option AV:=(gK zero ps).map w7
theorem aeM{zero:List AV}{ps:List (Nat×Nat×O)}:cK P σ τ (.build zero ps)=gm σ (kB zero (ps.map fun x=>(x.1,x.2.1,x.2.2.val τ))):=dE (op:=.build zero ps) rfl rfl
def aj2(neg:Bool)(a b:AV):Option AV:=(tf a).bind fun a=>(tf b).map fun b=>.p (.bool (if neg then !(a == b)else a == b))
theorem akE{neg:Bool}{x y:O}:cK P σ τ (.eqB neg x y)=gm σ (aj2 neg (x.val τ) (y.val τ)):=dE (op:=.eqB neg x y) rfl rfl
def PL(neg:Bool)(lv:List mg)(a b:AV):Option AV:=match a,b with
 |.p (.agg a),.p (.agg b)=>(dg lv a b).map fun t=>.p (.bool (if neg then !t else t))
 |_,_=>none
theorem aeS{neg:Bool}{lv:List mg}{x y:O}:cK P σ τ (.UD neg lv x y)=gm σ (PL neg lv (x.val τ) (y.val τ)):=by
 rw[dE (op:=.UD neg lv x y) rfl rfl];simp only[quiet,PL];split<;>split<;>simp_all
def anY(v:AV):Option AV:=(tf v).map fun t=>.p (.bool !t)
theorem akJ{x:O}:cK P σ τ (.not x)=gm σ (anY (x.val τ)):=dE (op:=.not x) rfl rfl
def anX:AV→Option AV
 |.p (.int k n)=>some (.p (.int k (k.wrap (0-n))))
 |_=>none
theorem akI{x:O}:cK P σ τ (.neg x)=gm σ (anX (x.val τ)):=dE (op:=.neg x) rfl rfl
def Vx:AV→Option AV
 |.p (.int k n)=>(rm .xor k (if k.signed then -1 else k.max) n).map .p
 |_=>none
theorem aeQ{x:O}:cK P σ τ (.Hb x)=gm σ (Vx (x.val τ)):=dE (op:=.Hb x) rfl rfl
def aiU(k:IntKind):AV→Option AV
 |.p (.int _ n)=>some (.p (.int k (k.wrap n)))
 |_=>none
theorem ahx{k:IntKind}{x:O}:cK P σ τ (.conv k x)=gm σ (aiU k (x.val τ)):=dE (op:=.conv k x) rfl rfl
def adj:AV→Option AV
 |.p (.str s)=>some (.p (.str s))
 |_=>none
theorem aeR{x:O}:cK P σ τ (.J5 x)=gm σ (adj (x.val τ)):=dE (op:=.J5 x) rfl rfl
def Kt(off:Nat):AV→Option AV
 |.p (.ptr row o)=>some (.p (.ptr row (o+off)))
 |.ptr b n i o=>some (.ptr b n i (o+off))
 |_=>none
theorem ahy{off:Nat}{x:O}:cK P σ τ (.cQ off x)=gm σ (Kt off (x.val τ)):=dE (op:=.cQ off x) rfl rfl
def apl(off size:Nat)(agg:Bool):AV→Option AV
 |.p (.agg cs)=>((part off size cs).bind (nM agg)).map .p
 |.agg cs=>(part off size cs).bind (lY agg)
 |_=>none
theorem akF{off size:Nat}{agg:Bool}{x:O}:cK P σ τ (.fld off size agg x)=gm σ (apl off size agg (x.val τ)):=dE (op:=.fld off size agg x) rfl rfl
def akf (len es : Nat) (x i : AV) : Option AV := (mm i).bind fun n =>
    if n<len then match x with
      | .p (.ptr row o)=>some (.p (.ptr row (o+n*es)))
      | .ptr b m i o=>some (.ptr b m i (o+n*es))
      | _=>none
    else none
theorem aeT{len es:Nat}{x i:O}:cK P σ τ (.KJ len es x i)=gm σ (akf len es (x.val τ) (i.val τ)):=dE (op:=.KJ len es x i) rfl rfl
def jd (σ : ae) (es : Nat) (x i : AV) : Option AV := (mm i).bind fun n =>
    match x with
    | .p (.aW rows)=>rows[n]?.bind fun r=>if r.length=es then some (.p (.ptr r 0)) else none
    | .sl b m=>if n<m∧NO σ b=some (es,m) then some (.ptr b m n 0) else none
    | _=>none
theorem aeU{es:Nat}{x i:O}:cK P σ τ (.aA es x i)=gm σ (jd σ es (x.val τ) (i.val τ)):=dE (op:=.aA es x i) rfl rfl
def anb (len es : Nat) (agg : Bool) (x i : AV) : Option AV := (mm i).bind fun n =>
    if n<len then match x with
      | .p (.agg cs)=>((part (n*es) es cs).bind (nM agg)).map .p
      | .agg cs=>(part (n*es) es cs).bind (lY agg)
      | _=>none
    else none
theorem ahz{len es:Nat}{agg:Bool}{x i:O}:cK P σ τ (.VV len es agg x i)=gm σ (anb len es agg (x.val τ) (i.val τ)):=dE (op:=.VV len es agg x i) rfl rfl
def XR (x i : AV) : Option AV := (mm i).bind fun n =>
    match x with
    | .p (.str s)=>s[n]?.map fun b=>.p (.int .u8 b.toNat)
    | _=>none
theorem ahA{x i:O}:cK P σ τ (.M6 x i)=gm σ (XR (x.val τ) (i.val τ)):=dE (op:=.M6 x i) rfl rfl
def afy (es : Nat) (x : AV) (lo hi mx : Option AV) : Option AV :=
    match x with
    | .p (.aW rows)=>
      if wide es rows then
        (bounds rows.length rows.length lo hi mx).bind fun b=>
          if mx.isNone then some (.p (.aW ((rows.take b.2.1).drop b.1))) else if b.2.2=0 then some .aF else none
      else none
    | .aF=>(bounds 0 0 lo hi mx).map fun _=>.aF
    | _=>none
theorem ahL{es:Nat}{x:O}{lo hi mx:Option O}:cK P σ τ (.IW es x lo hi mx)=gm σ (afy es (x.val τ) (lo.map (O.val τ)) (hi.map (O.val τ)) (mx.map (O.val τ))):=by
 cases mx<;>exact dE (op:=.IW es x lo hi _) rfl rfl
def aoj(x:AV)(lo hi:Option AV):Option AV:=match x with
 |.p (.str s)=>(bounds s.size s.size lo hi none).map fun b=>.p (.str (s.extract b.1 b.2.1))
 |_=>none
theorem ahM{x:O}{lo hi:Option O}:cK P σ τ (.W4 x lo hi)=gm σ (aoj (x.val τ) (lo.map (O.val τ)) (hi.map (O.val τ))):=dE (op:=.W4 x lo hi) rfl rfl
def S3(σ:ae)(kl:mg)(x:AV)(k:PV):Option (Option AV) :=
 match x with
 |.p .E4=>some none
 |.p (.pmap es)=>(findKey kl k es).map fun o=>Option.map AV.p o
 |.map b=>match σ[b]? with
  |some (.map es _)=>findKey kl k es
  |_=>none
 |_=>none
def sg(σ:ae)(kl:mg)(zero x k:AV)(ok:Bool):Option AV:=match k with
 |.p k=>if q8 kl k then(S3 σ kl x k).bind fun o:Option AV=>some (if ok then w8 [o.getD zero,.p (.bool o.isSome)]else o.getD zero)else none
 |_=>none
theorem ZM{kl:mg}{zero:AV}{x k:O}{ok:Bool}:cK P σ τ (.lookup kl zero x k ok)=gm σ (sg σ kl zero (x.val τ) (k.val τ) ok):=dE (op:=.lookup kl zero x k ok) rfl rfl
def Ks(x:AV)(k:Nat):Option AV:=match x with
 |.p (.jO vs)=>vs[k]?.map .p
 |.jO vs=>vs[k]?
 |_=>none
theorem V9{x:O}{k:Nat}:cK P σ τ (.extract x k)=gm σ (Ks (x.val τ) k):=dE (op:=.extract x k) rfl rfl
def KU(σ:ae)(x:AV):Option AV:=(bV σ x).map fun n=>.p (.int .i64 (Int.ofNat n))
theorem ahE{x:O}:cK P σ τ (.bV x)=gm σ (KU σ (x.val τ)):=dE (op:=.bV x) rfl rfl
def ai7:AV→Option AV
 |.p (.str s)=>some (.p (.int .i64 (Int.ofNat s.size)))
 |_=>none
theorem ahF{x:O}:cK P σ τ (.Nd x)=gm σ (ai7 (x.val τ)):=dE (op:=.Nd x) rfl rfl
def aek(σ:ae)(x:AV):Option AV:=(yw σ x).map fun n=>.p (.int .i64 (Int.ofNat n))
theorem ahD{x:O}:cK P σ τ (.yw x)=gm σ (aek σ (x.val τ)):=dE (op:=.yw x) rfl rfl
theorem ahC{n:Nat}:cK P σ τ (.VY n)=some (.p (.int .i64 (Int.ofNat n)),σ):=rfl
def Qa(mx:Bool):List AV→Option AV
 |.p x::r=>(Ct mx x r).map .p
 |_=>none
theorem ZN{mx:Bool}{args:List O}:cK P σ τ (.tv mx args)=gm σ (Qa mx (args.map (O.val τ))):=dE (op:=.tv mx args) rfl rfl
theorem ahH{f:FuncId}{caps:List O}:cK P σ τ (.xx f caps)=some (CM f (caps.map (O.val τ)),σ):=rfl
def ahv:AV→Option AV
 |.p .vu=>none
 |.p .w9=>none
 |.any=>none
 |v=>some v
theorem ZO{x:O}:cK P σ τ (.DU x)=gm σ (ahv (x.val τ)):=dE (op:=.DU x) rfl rfl
def rY(es:Nat)(x:List AV×ae):Option (AV×ae):=some (.ptr x.2.length 1 0 0,x.2++[mkObj es x.1])
theorem aeJ{zero:List AV}{es:Nat}:cK P σ τ (.alloc zero es)=rY es (aT zero σ):=rfl
def sS(σ:ae)(size:Nat)(ro:Bool):Option (List AV)→Option (AV×ae)
 |some cs=>if ro then match af cs with
    |some ps=>some (.p (.ptr ps 0),σ)
    |none=>some (.ptr σ.length 1 0 0,σ++[mkObj size cs])
   else rY size (aT cs σ)
 |none=>none
theorem ahB{size:Nat}{agg ro:Bool}{x:O}:cK P σ τ (.init size agg x ro)=sS σ size ro (cellsOf size agg (x.val τ)):=by
 simp only[cK,plain];cases cellsOf size agg (x.val τ)<;>rfl
theorem akD{size:Nat}{agg ro:Bool}{x:O}:cK P σ τ (.box size agg x ro)=sS σ size ro (cellsOf size agg (x.val τ)):=by
 simp only[cK,plain];cases cellsOf size agg (x.val τ)<;>rfl
def kU(σ:ae)(es len:Nat):Option (List AV)→Option (AV×ae)
 |some cs=>some (.sl σ.length len,σ++[Bp es (chunk es len cs)])
 |none=>none
def A2(σ:ae)(es len:Nat):Option (List AV)→Option (AV×ae)
 |some cs=>match af cs with
  |some ps=>some (.p (.aW (chunk es len ps)),σ)
  |none=>none
 |none=>none
theorem aeL{es len:Nat}{zero:List AV}{ps:List (Nat×Nat×O)}:cK P σ τ (.jY es zero len ps)=A2 σ es len (gK ((List.replicate len zero).flatten) (ps.map fun x=>(x.1*es,x.2.1,x.2.2.val τ))):=by
 simp only[cK,plain];cases gK ((List.replicate len zero).flatten) (ps.map fun x=>(x.1*es,x.2.1,x.2.2.val τ))with
 |none=>rfl
 |some cs=>simp only[xu,A2];cases af cs<;>rfl
theorem ZL{es len:Nat}{zero:List AV}{ps:List (Nat×Nat×O)}:cK P σ τ (.fB es zero len ps)=kU σ es len (gK ((List.replicate len zero).flatten) (ps.map fun x=>(x.1*es,x.2.1,x.2.2.val τ))):=by
 simp only[cK,plain];cases gK ((List.replicate len zero).flatten) (ps.map fun x=>(x.1*es,x.2.1,x.2.2.val τ))<;>rfl
def amF:Option ae→Option (AV×ae)
 |some σ=>some (.any,σ)
 |none=>none
theorem aeX{size:Nat}{a v:O}:cK P σ τ (.store size a v)=amF (eE σ size (a.val τ) (v.val τ)):=by
 simp only[cK,plain];cases eE σ size (a.val τ) (v.val τ)<;>rfl
def K1 (σ : ae) (kl : mg) (x k v : AV) : Option (AV × ae) := match x, k with
    | .map b,.p k=>match σ[b]? with
      | some (.map es false)=>if q8 kl k then (sG kl k v es).map fun es'=>(.any,σ.set b (.map es' false)) else none
      | _=>none
    | _,_=>none
theorem ahI{kl:mg}{x k v:O}:cK P σ τ (.Qb kl x k v)=K1 σ kl (x.val τ) (k.val τ) (v.val τ):=rfl
theorem aeW:cK P σ τ .Bq=some (.map σ.length,σ++[.map [] false]):=rfl
def zF(σ:ae)(es bytes:Nat)(x:AV):Option Src→Option (AV×ae)
 |some new=>zE σ es bytes x new
 |none=>none
theorem ZK{es bytes:Nat}{x y:O}:cK P σ τ (.append es bytes x y)=zF σ es bytes (x.val τ) (mB σ es (y.val τ)):=by
 simp only[cK,plain];cases mB σ es (y.val τ)<;>rfl
theorem aeN{f:FuncId}{args:List O}:cK P σ τ (.dW f args)=kV P f (args.map (O.val τ)) σ:=rfl
def ac6(P:Prog)(args:List AV)(σ:ae):Option cZ→Option (AV×ae)
 |some fn=>call P fn args σ
 |none=>none
theorem aeO{f:FuncId}{args:List O}:cK P σ τ (.CW f args)=ac6 P (args.map (O.val τ)) σ (P.fn f):=by
 simp only[cK,ac6];cases P.fn f<;>rfl
theorem Vm{fn:cZ}{args:List AV}:ac6 P args σ (some fn)=call P fn args σ:=rfl
def y4(σ:ae)(es bytes:Nat)(zero:List AV)(l c:AV):Option (AV×ae):=(mm l).bind fun l=>(mm c).bind fun c=>
   if l≤c∧c*bytes≤140737488355328 then
    match af zero with
    |some z=>some (.sl σ.length l,σ++[.pv es (List.replicate l z) false])
    |none=>some (.sl σ.length l,σ++[.av es (List.replicate l zero) false])
   else none
theorem Wa{es bytes:Nat}{zero:List AV}{l c:O}:cK P σ τ (.uh es bytes zero l c)=y4 σ es bytes zero (l.val τ) (c.val τ):=rfl
theorem ai8{k:IntKind}{es bytes n:Nat}{zero:List AV}{z:List PV}(h:af zero=some z)(hb:n*bytes≤140737488355328):y4 σ es bytes zero (.p (.int k n)) (.p (.int k n))=some (.sl σ.length n,σ++[.pv es (List.replicate n z) false]):=by
 simp[y4,mm,h,hb]
def adL(σ:ae)(x:AV):Option (AV×ae):=(az σ depth x).map fun r=>(.p r,dR σ [x] r)
theorem akG{x:O}:cK P σ τ (.Zg x)=adL σ (x.val τ):=rfl
theorem amX{v:PV}:adL σ (.p v)=some (.p v,σ):=by
 have h:dR σ [.p v] v=σ:=by
  unfold dR;split
  ·rfl
  ·simp[refs,depth,bF]
 simp[adL,az,depth,h]
theorem adM:adL σ .aF=some (.p (.aW []),σ):=by
 simp[adL,az,depth,dR,PV.flat]
def akk (neg : Bool) (x : AV) : Option AV := match x with
    | .p .w9=>some (.p (.bool !neg))
    | .p (.fn ..) | .fn ..=>some (.p (.bool neg))
    | _=>none
theorem aeV{neg:Bool}{x:O}:cK P σ τ (.Hk neg x)=gm σ (akk neg (x.val τ)):=dE (op:=.Hk neg x) rfl rfl
def ajk (σ : ae) (len es : Nat) (x : AV) (lo hi mx : Option AV) : Option (AV × ae) := match x with
    | .ptr b 1 0 0=>match bounds len len lo hi mx,σ[b]? with
      | some (0,h,m),some (.pv e [row] false)=>if m=len∧e=len*es∧row.length=len*es then some (.sl σ.length h,(σ.set b .gone)++[.pv es (chunk es h (row.take (h*es))) false]) else none
      | _,_=>none
    | _=>none
theorem ahK{len es:Nat}{x:O}{lo hi mx:Option O}:cK P σ τ (.Z2 len es x lo hi mx)=ajk σ len es (x.val τ) (lo.map (O.val τ)) (hi.map (O.val τ)) (mx.map (O.val τ)):=rfl
theorem aeP{x:O}{args:List O}:cK P σ τ (.ox x args)=rk P (x.val τ) (args.map (O.val τ)) σ:=rfl
theorem eZ{b e es bytes:Nat}{rows new:List (List PV)}(h:σ[b]?=some (.pv e rows false))(hn:rows.length=n)(he:e=es∨(e=0∧rows=[]))(hb:(n+new.length)*bytes≤140737488355328) :
  zF σ es bytes (.sl b n) (some (.inl new))=some (.sl b (n+new.length),σ.set b (.pv es (rows++new) false)):=by
 have he':e=es∨(e=0∧rows.isEmpty=true):=by
  rcases he with h0|⟨h0,h1⟩
  ·exact .inl h0
  ·exact .inr ⟨h0,by rw[h1];rfl⟩
 simp only[zF,zE,h,Obj.len,hn,Src.count,hb,and_self,if_true,I7,if_pos he',vd]
theorem OQ{es:Nat}{rows:List (List PV)}(h:wide es rows=true):mB σ es (.p (.aW rows))=some (.inl rows):=by simp[mB,h]
theorem afB{es:Nat}:mB σ es .aF=some (.inl []):=rfl
theorem Cf{b m es e:Nat}{rows:List (List PV)}{fr:Bool}(h:σ[b]?=some (.pv e rows fr))(hn:rows.length=m)(he:e=es∨rows=[]):mB σ es (.sl b m)=some (.inl rows):=by
 have he':e=es∨rows.isEmpty=true:=by
  rcases he with h0|h0
  ·exact .inl h0
  ·exact .inr (by rw[h0];rfl)
 simp only[mB,h,hn,he',and_self,if_true]
theorem aic{es:Nat}{o:Obj}{r:List PV}{fr:Bool}:mB [o,.pv es [r] fr] es (.sl 1 1)=some (.inl [r]):=Cf rfl rfl (.inl rfl)
theorem aid{es:Nat}{o o':Obj}{r:List PV}{fr:Bool}:mB [o,o',.pv es [r] fr] es (.sl 2 1)=some (.inl [r]):=Cf rfl rfl (.inl rfl)
def X9(σ:ae)(args:List AV):Option PV→Option (AV×ae)
 |some r=>some (.p r,dR σ args r)
 |none=>none
def R(P:Prog)(f:FuncId)(ps:List PV):Option PV :=
 (P.fn f).bind fun fn=>(call P fn (ps.map .p) []).bind fun x=>az x.2 depth x.1
def Tc(P:Prog)(f:FuncId)(args:List AV)(σ:ae):Option (List PV)→Option (AV×ae)
 |some ps=>X9 σ args (R P f ps)
 |none=>none
theorem ah{f:FuncId}{fn:cZ}{args:List AV}(h:P.fn f=some fn)(hp:P.Qg f=none)(hi:fn.imp=false):kV P f args σ=Tc P f args σ (omap (az σ depth) args):=by
 rw[kV.eq_def];simp only[hp,h,Jo,xu,hi,nh,if_false];cases h1:omap (az σ depth) args with
 |none=>rfl
 |some ps=>
  simp only[xu,Tc,R,h,X9];cases h2:call P fn (ps.map .p) []with
  |none=>rfl
  |some x=>
   simp only[xu];cases az x.2 depth x.1<;>rfl
theorem wh{f:FuncId}{fn:cZ}{args:List AV}(h:P.fn f=some fn)(hp:P.Qg f=none)(hi:fn.imp=true):kV P f args σ=call P fn args σ:=by
 rw[kV.eq_def];simp only[hp,h,Jo,xu,hi,if_true]
theorem wS{f:FuncId}{args:List AV}{g:List AV→ae→Option (AV×ae)}(hp:P.Qg f=some g):kV P f args σ=g args σ:=by
 rw[kV.eq_def];simp only[hp]
theorem ae6{k:Nat}{v:PV}:az σ (k+1) (.p v)=some v:=rfl
theorem alf{k:Nat}{v:PV}:refs σ k (.p v)=[]:=by cases k<;>rfl
def Wg(σ:ae):Option AV→Option PV
 |some v=>az σ depth v
 |none=>none
def ZW(rs:List RV):Option (Ex×St)→Option PV
 |some (.normal,st)|some (.ret,st)=>Wg st.σ (eY rs st.σ st.τ)
 |_=>none
theorem afj{rs:List RV}:ZW rs (some (.ret,st))=Wg st.σ (eY rs st.σ st.τ):=rfl
theorem TP{rs:List RV}:ZW rs (some (.normal,st))=Wg st.σ (eY rs st.σ st.τ):=rfl
theorem WQ:eY [] σ τ=some (.p (.jO [])):=rfl
theorem WR{r:RV}:eY [r] σ τ=D0 σ τ r:=by
 simp only[eY,omap];cases D0 σ τ r<;>rfl
def alN:Option (List AV)→Option AV
 |some l=>some (w8 l)
 |none=>none
theorem WS{a b:RV}{r:List RV}:eY (a::b::r) σ τ=alN (omap (D0 σ τ) (a::b::r)):=by
 simp only[eY,omap];cases D0 σ τ a with
 |none=>rfl
 |some x=>
  cases D0 σ τ b with
  |none=>rfl
  |some y=>cases omap (D0 σ τ) r<;>rfl
theorem Cu{α β:Type}{f g:α→Option β}:∀{l:List α},(∀a∈l,f a=g a)→omap f l=omap g l
 | [],_=>rfl
 |a::l,h=>by
  simp only[omap,h a (List.mem_cons_self ..),Cu fun b hb=>h b (abn _ hb)]
theorem ui{σ σ':ae}:∀(k:Nat) (v:AV),below 0 v=true→az σ k v=az σ' k v
 |0,_,_=>rfl
 |k+1,v,h=>by
  cases v with
  |sl b n=>simp[below]at h
  |ptr b n i o=>simp[below]at h
  |map b=>simp[below]at h
  |fn f cap=>
   simp only[below,AS,List.mem_attach,true_imp_iff,Subtype.forall]at h;simp only[az];rw[Cu fun a ha=>ui k a (h a ha)]
  |agg cs=>
   simp only[below,AS,List.mem_attach,true_imp_iff,Subtype.forall]at h;simp only[az];rw[Cu fun a ha=>ui k a (h a ha)]
  |jO cs=>
   simp only[below,AS,List.mem_attach,true_imp_iff,Subtype.forall]at h;simp only[az];rw[Cu fun a ha=>ui k a (h a ha)]
  |_=>rfl
theorem Wh{v:AV}{k:Nat}:az (gc 0 [v] σ) k v=az σ k v:=by
 unfold gc;split
 ·rfl
 ·split
  ·rename_i h
   simp only[yW,UA,abM,ab0,yE]at h;exact ui k v h.1
  ·rfl
theorem bC{f:FuncId}{fn:cZ}{ps:List PV}(h:P.fn f=some fn)(hl:(ps.length≤fn.ntmps)):R P f ps=ZW fn.results (exec P fn.body ⟨uf (ps.map .p),[],fn.ntmps,none⟩):=by
 simp only[R,h,xu];rw[call.eq_def,if_pos (by simpa using hl)]
 simp only[Jo];cases h1:exec P fn.body ⟨uf (ps.map .p),[],fn.ntmps,none⟩with
 |none=>rfl
 |some x=>
  obtain⟨e,st⟩:=x
  have key:((eY fn.results st.σ st.τ).bind fun v=>some (v,gc ([]:ae).length [v] st.σ)).bind (fun x=>az x.2 depth x.1)=Wg st.σ (eY fn.results st.σ st.τ):=by
   cases eY fn.results st.σ st.τ with
   |none=>rfl
   |some v=>simp only[xu,pN,Wh,Wg]
  cases e with
  |exit i=>rfl
  |normal=>simpa[ZW]using key
  |ret=>simpa[ZW]using key
def Xx(n:Nat)(st:St):Option AV→Option (AV×ae)
 |some v=>some (v,gc n [v] st.σ)
 |none=>none
def afh(n:Nat)(rs:List RV):Option (Ex×St)→Option (AV×ae)
 |some (.normal,st)|some (.ret,st)=>Xx n st (eY rs st.σ st.τ)
 |_=>none
theorem fh{fn:cZ}{args:List AV}(h:args.length≤fn.ntmps):call P fn args σ=afh σ.length fn.results (exec P fn.body ⟨uf args,σ,fn.ntmps,none⟩):=by
 rw[call.eq_def,if_pos h];simp only[Jo];cases exec P fn.body ⟨uf args,σ,fn.ntmps,none⟩with
 |none=>rfl
 |some x=>
  obtain⟨e,st⟩:=x;cases e with
  |exit i=>rfl
  |normal=>simp only[xu,afh];cases eY fn.results st.σ st.τ<;>rfl
  |ret=>simp only[xu,afh];cases eY fn.results st.σ st.τ<;>rfl
theorem afi{rs:List RV}:afh n rs (some (.ret,st))=Xx n st (eY rs st.σ st.τ):=rfl
theorem TO{rs:List RV}:afh n rs (some (.normal,st))=Xx n st (eY rs st.σ st.τ):=rfl
theorem Vl{v:AV}:Xx n st (some v)=some (v,gc n [v] st.σ):=rfl
theorem agH{l:Nat}{args:List AV}:rk P (.yield l) args σ=round P l args σ:=by rw[rk.eq_def]
theorem Xz{f:FuncId}{cap:List PV}{args:List AV}:rk P (.p (.fn f cap)) args σ=kV P f (args++cap.map .p) σ:=by rw[rk.eq_def]
theorem Zp{lv:List Nat}:(τ.keep lv).keep lv=τ.keep lv:=by
 unfold Tm.keep Tm.kept
 congr 1
 apply ab2;intro t ht
 congr 1
 have:∀l:List Nat,t∈l→(tm (l.map fun t=>(t,τ.get t))).get t=τ.get t:=by
  intro l
  induction l with
  |nil=>intro h;simp at h
  |cons a l ih=>
   intro h;simp only[ue,ail];split
   ·rename_i e;rw[e]
   ·rename_i e;exact ih (by rcases qL.1 h with h|h;exact absurd h.symm e;exact h)
 exact this lv ht
theorem aw{lv:List Nat}{b:K}:exec P (.loop lv b) ⟨τ,σ,nt,rd⟩=exec P (.loop lv b) ⟨tm (τ.kept lv),σ,nt,rd⟩:=by
 rw[Gt,Gt]
 simp only
 rw[show tm (τ.kept lv)=τ.keep lv from rfl,Zp]
theorem ag2(h:σ.length=n){vs:List AV}:gc n vs σ=σ:=by unfold gc;rw[if_pos (by omega)]
def back(P:Prog)(lv:List Nat)(b:K)(n:Nat):Option (Ex×St)→Option (Ex×St)
 |some (.normal,st)=>exec P (.loop lv b) ⟨tm (st.τ.kept lv),gc n (lv.map st.τ.get) st.σ,st.nt,st.rd⟩
 |some (.ret,st)=>some (.ret,st)
 |some (.exit i,st)=>some (.exit i,st)
 |none=>none
theorem EZ{lv:List Nat}{b:K}:exec P (.loop lv b) ⟨τ,σ,nt,rd⟩=back P lv b σ.length (exec P b ⟨tm (τ.kept lv),σ,nt,rd⟩):=by
 rw[Gt];show S4 P lv b σ.length (exec P b ⟨tm (τ.kept lv),σ,nt,rd⟩)=_;cases exec P b ⟨tm (τ.kept lv),σ,nt,rd⟩with
 |none=>rfl
 |some x=>obtain⟨e,st⟩:=x;cases e<;>rfl
theorem ad5:τ.kept []=[]:=rfl
theorem Zq{t:Nat}{l:List Nat}:τ.kept (t::l)=(t,τ.get t)::τ.kept l:=rfl
def an(P:Prog)(c:K)(l:List (Nat×AV))(σ:ae)(nt:Nat)(rd:Option Nat):Option (Ex×St):=exec P c ⟨tm l,σ,nt,rd⟩
def aq{S T α:Type}(f:Nat→S→α→S ⊕ T):Nat→S→List α→S ⊕ T
 |_,s,[]=>.inl s
 |i,s,a::r=>match f i s a with
  |.inl s'=>aq f (i+1) s' r
  |.inr t=>.inr t
def vm(lv:List Nat)(n:Nat):Option (Ex×St)→Option ((List (Nat×AV)×ae×Nat×Option Nat) ⊕ (Ex×St))
 |some (.normal,st)=>some (.inl (st.τ.kept lv,gc n (lv.map st.τ.get) st.σ,st.nt,st.rd))
 |some (.ret,st)=>some (.inr (.ret,st))
 |some (.exit i,st)=>some (.inr (.exit i,st))
 |none=>none
theorem SM{lv:List Nat}:vm lv n (some (.normal,⟨τ,σ,nt,rd⟩))=some (.inl (τ.kept lv,gc n (lv.map τ.get) σ,nt,rd)):=rfl
theorem adT{lv:List Nat}:vm lv n (some (.ret,st))=some (.inr (.ret,st)):=rfl
theorem Zk{lv:List Nat}{i:Nat}:vm lv n (some (.exit i,st))=some (.inr (.exit i,st)):=rfl
theorem eH(h:σ.length≤n){vs:List AV}:gc n vs σ=σ:=by unfold gc;rw[if_pos h]
theorem aa{vs:List AV}:gc (List.length σ) vs σ=σ:=ag2 rfl
theorem aj9{vs:List AV}:gc n vs []=[]:=eH (by simp)
theorem aka{vs:List AV}{a:Obj}:gc 1 vs [a]=[a]:=eH (by simp)
theorem akc{vs:List AV}{a b:Obj}:gc 2 vs [a,b]=[a,b]:=eH (by simp)
theorem am1{vs:List AV}{a b:Obj}:gc 1 vs [a,b]=if yW 1 vs [a,b]=true then[a]else[a,b]:=by unfold gc;rw[if_neg (by simp)];rfl
theorem am2{vs:List AV}{a b c:Obj}:gc 1 vs [a,b,c]=if yW 1 vs [a,b,c]=true then[a]else[a,b,c]:=by unfold gc;rw[if_neg (by simp)];rfl
theorem am3{vs:List AV}{a b c:Obj}:gc 2 vs [a,b,c]=if yW 2 vs [a,b,c]=true then[a,b]else[a,b,c]:=by unfold gc;rw[if_neg (by simp)];rfl
theorem am4{vs:List AV}{a b c d:Obj}:gc 2 vs [a,b,c,d]=if yW 2 vs [a,b,c,d]=true then[a,b]else[a,b,c,d]:=by unfold gc;rw[if_neg (by simp)];rfl
theorem I0{v:PV}:below n (.p v)=true:=by simp[below]
theorem YB:below n .any=true:=by simp[below]
theorem UX:below n .aF=true:=by simp[below]
theorem Rk{b m:Nat}:below n (.sl b m)=decide (b<n):=by simp[below]
theorem YC{b m i o:Nat}:below n (.ptr b m i o)=decide (b<n):=by simp[below]
theorem yN{b:Nat}:below n (.map b)=decide (b<n):=by simp[below]
theorem Rl{b:Nat}:below n (.yield b)=decide (b<n):=by simp[below]
theorem wj{es:Nat}{rows:List (List PV)}{fr:Bool}:Obj.below n (.pv es rows fr)=true:=rfl
theorem tz{es:Nat}{rows:List (List AV)}{fr:Bool}:Obj.below n (.av es rows fr)=rows.all fun r=>r.all (AE.below n):=rfl
theorem xd{es:List (PV×AV)}{fr:Bool}:Obj.below n (.map es fr)=es.all fun e=>AE.below n e.2:=rfl
theorem Gf{lv:List Nat}{b:K}{r:Option (Ex×St)}:back P lv b n r=(vm lv n r).bind fun
  |.inl h=>an P (.loop lv b) h.1 h.2.1 h.2.2.1 h.2.2.2
  |.inr x=>some x:=by
 cases r with
 |none=>rfl
 |some x=>obtain⟨e,st⟩:=x;cases e<;>rfl
def Ud{S T:Type}(env:S→List (Nat×AV))(sto:S→ae)(nt:Nat)(rd:Option Nat)(out:T→Ex×St→Prop):S ⊕ T→Option ((List (Nat×AV)×ae×Nat×Option Nat) ⊕ (Ex×St))→Prop
 |.inl s,some (.inl h)=>h=(env s,sto s,nt,rd)
 |.inr t,some (.inr r)=>out t r
 |_,_=>False
theorem Mk{S T:Type}{env:S→List (Nat×AV)}{sto:S→ae}{out:T→Ex×St→Prop}{s:S}{h:List (Nat×AV)×ae×Nat×Option Nat}:Ud env sto nt rd out (.inl s) (some (.inl h))=(h=(env s,sto s,nt,rd)):=rfl
theorem alF{S T:Type}{env:S→List (Nat×AV)}{sto:S→ae}{out:T→Ex×St→Prop}{t:T}{r:Ex×St}:Ud env sto nt rd out (.inr t) (some (.inr r))=out t r:=rfl
def uV{S T:Type}(A:S→Prop)(B:T→Prop):S ⊕ T→Prop
 |.inl s=>A s
 |.inr t=>B t
theorem XE{S T:Type}{A:S→Prop}{B:T→Prop}{c:Prop}[Decidable c]{s:S}{t:T}(h:uV A B (if c then .inl s else .inr t)):if c then A s else B t:=by
 split at h<;>rename_i hc
 ·rw[if_pos hc];exact h
 ·rw[if_neg hc];exact h
theorem agT{S T:Type}{A:S→Prop}{B:T→Prop}{c:Prop}[Decidable c]{s:S}{t:T}(h:uV A B (if c then .inr t else .inl s)):if c then B t else A s:=by
 split at h<;>rename_i hc
 ·rw[if_pos hc];exact h
 ·rw[if_neg hc];exact h
theorem nz{S T α:Type}{lv:List Nat}{b:K}{x:Nat}{as:List α}(env:Nat→S→List (Nat×AV))(sto:S→ae)(f:Nat→S→α→S ⊕ T)(fin:S→St)(out:T→Ex×St→Prop)(ok:Nat→S→Prop)
  (hstep:∀(i:Nat) (a:α) (s:S),as[i]?=some a→i<as.length→ok i s→(∀s',f i s a=.inl s'→ok (i+1) s') ∧
   Ud (env (i+1)) sto nt rd out (f i s a) (vm lv (sto s).length (exec P b ⟨tm (env i s),sto s,nt,rd⟩)))
  (hend:∀s,ok as.length s→exec P b ⟨tm (env as.length s),sto s,nt,rd⟩=some (.exit x,fin s))
  (hkeep:∀i s,(tm (env i s)).kept lv=env i s) (s0:S) (h0:ok 0 s0) :
  uV (fun s=>an P (.loop lv b) (env 0 s0) (sto s0) nt rd=some (.exit x,fin s)) (fun t=>∃r,an P (.loop lv b) (env 0 s0) (sto s0) nt rd=some r∧out t r) (aq f 0 s0 as):=by
 have key:∀(r:List α) (i:Nat) (s:S),as.drop i=r→i≤as.length→ok i s →
   uV (fun s'=>an P (.loop lv b) (env i s) (sto s) nt rd=some (.exit x,fin s')) (fun t=>∃r,an P (.loop lv b) (env i s) (sto s) nt rd=some r∧out t r) (aq f i s r):=by
  intro r
  induction r with
  |nil=>
   intro i s hd hi hok;have:i=as.length:=by have:=congrArg List.length hd;simp at this;omega
   subst this;show an P (.loop lv b) (env as.length s) (sto s) nt rd=some (.exit x,fin s);unfold an;rw[EZ,hkeep,hend s hok];rfl
  |cons a r ih=>
   intro i s hd hi hok
   have hlt:i<as.length:=by
    have:=congrArg List.length hd;simp at this;omega
   have ha:as[i]?=some a:=by
    have:=congrArg (·[0]?) hd;simpa using this
   have hr:as.drop (i+1)=r:=by
    have:=congrArg (List.drop 1) hd;simpa using this
   obtain⟨h1,h2⟩:=hstep i a s ha hlt hok;unfold an;rw[EZ,hkeep,Gf];unfold aq;revert h2;generalize vm lv (sto s).length (exec P b ⟨tm (env i s),sto s,nt,rd⟩)=h;cases hf:f i s a with
   |inl s'=>
    intro h2
    match h,h2 with
    |some (.inl h),h2=>
     rw[Mk]at h2;subst h2;exact ih (i+1) s' hr (by omega) (h1 s' hf)
   |inr t=>
    intro h2
    match h,h2 with
    |some (.inr q),h2=>exact⟨q,rfl,h2⟩
 exact key as 0 s0 rfl (UC _) h0
theorem YA{lv:List Nat}{b:K}{i:Nat}:back P lv b n (some (.exit i,st))=some (.exit i,st):=rfl
theorem ac5{lv:List Nat}{b:K}:back P lv b n (some (.ret,st))=some (.ret,st):=rfl
theorem cS{S T α:Type}{lv:List Nat}{b:K}{as:List α}(env:Nat→S→List (Nat×AV))(sto:S→ae)(f:Nat→S→α→S ⊕ T)(out:T→Ex×St→Prop)(ok:Nat→S→Prop)
  (hstep:∀(i:Nat) (a:α) (s:S),as[i]?=some a→i<as.length→ok i s→(∀s',f i s a=.inl s'→ok (i+1) s') ∧
   Ud (env (i+1)) sto nt rd out (f i s a) (vm lv (sto s).length (exec P b ⟨tm (env i s),sto s,nt,rd⟩)))
  (hkeep:∀i s,(tm (env i s)).kept lv=env i s) (s0:S) (h0:ok 0 s0) :
  uV (fun s=>ok as.length s∧an P (.loop lv b) (env 0 s0) (sto s0) nt rd=back P lv b (sto s).length (exec P b ⟨tm (env as.length s),sto s,nt,rd⟩)) (fun t=>∃r,an P (.loop lv b) (env 0 s0) (sto s0) nt rd=some r∧out t r) (aq f 0 s0 as):=by
 have key:∀(r:List α) (i:Nat) (s:S),as.drop i=r→i≤as.length→ok i s →
   uV (fun s'=>ok as.length s'∧an P (.loop lv b) (env i s) (sto s) nt rd=back P lv b (sto s').length (exec P b ⟨tm (env as.length s'),sto s',nt,rd⟩)) (fun t=>∃r,an P (.loop lv b) (env i s) (sto s) nt rd=some r∧out t r) (aq f i s r):=by
  intro r
  induction r with
  |nil=>
   intro i s hd hi hok;have:i=as.length:=by have:=congrArg List.length hd;simp at this;omega
   subst this;refine⟨hok,?_⟩;unfold an;rw[EZ,hkeep]
  |cons a r ih=>
   intro i s hd hi hok
   have hlt:i<as.length:=by
    have:=congrArg List.length hd;simp at this;omega
   have ha:as[i]?=some a:=by
    have:=congrArg (·[0]?) hd;simpa using this
   have hr:as.drop (i+1)=r:=by
    have:=congrArg (List.drop 1) hd;simpa using this
   obtain⟨h1,h2⟩:=hstep i a s ha hlt hok;unfold an;rw[EZ,hkeep,Gf];unfold aq;revert h2;generalize vm lv (sto s).length (exec P b ⟨tm (env i s),sto s,nt,rd⟩)=h;cases hf:f i s a with
   |inl s'=>
    intro h2
    match h,h2 with
    |some (.inl h),h2=>
     rw[Mk]at h2;subst h2;exact ih (i+1) s' hr (by omega) (h1 s' hf)
   |inr t=>
    intro h2
    match h,h2 with
    |some (.inr q),h2=>exact⟨q,rfl,h2⟩
 exact key as 0 s0 rfl (UC _) h0
theorem jj{S α:Type}{lv:List Nat}{b:K}{as:List α}(env:Nat→S→List (Nat×AV))(sto:S→ae)(f:Nat→S→α→S)(ok:Nat→S→Prop)
  (hstep:∀(i:Nat) (a:α) (s:S),as[i]?=some a→i<as.length→ok i s→ok (i+1) (f i s a)∧vm lv (sto s).length (exec P b ⟨tm (env i s),sto s,nt,rd⟩)=some (.inl (env (i+1) (f i s a),sto (f i s a),nt,rd)))
  (hkeep:∀i s,(tm (env i s)).kept lv=env i s) (s0:S) (h0:ok 0 s0) (r:S) (hr:aq (T:=Empty) (fun i s a=>.inl (f i s a)) 0 s0 as=.inl r) :
  ok as.length r∧an P (.loop lv b) (env 0 s0) (sto s0) nt rd=back P lv b (sto r).length (exec P b ⟨tm (env as.length r),sto r,nt,rd⟩):=by
 have h:=cS (P:=P) (nt:=nt) (rd:=rd) (T:=Empty) (as:=as) env sto (fun i s a=>.inl (f i s a)) (fun t=>nomatch t) ok (fun i a s h1 h2 h3=>⟨fun s' he=>by cases he;exact(hstep i a s h1 h2 h3).1,by rw[(hstep i a s h1 h2 h3).2];exact Mk ▸ rfl⟩) hkeep s0 h0
 rw[hr]at h;exact h
theorem OD{S T:Type}{lv:List Nat}{b:K}(env:S→List (Nat×AV))(sto:S→ae)(f:S→S ⊕ T)(out:T→Ex×St→Prop)(ok:S→Prop)(m:S→Nat)
  (hstep:∀s,ok s→(∀s',f s=.inl s'→ok s'∧m s'<m s)∧Ud env sto nt rd out (f s) (vm lv (sto s).length (exec P b ⟨tm (env s),sto s,nt,rd⟩)))
  (hkeep:∀s,(tm (env s)).kept lv=env s):∀(n:Nat) (s0:S),m s0<n→ok s0→∃s t r,ok s∧f s=.inr t∧an P (.loop lv b) (env s0) (sto s0) nt rd=some r∧out t r
 |0,_,h,_=>by omega
 |n+1,s0,hn,h0=>by
  obtain⟨h1,h2⟩:=hstep s0 h0;unfold an;rw[EZ,hkeep,Gf];revert h2;generalize vm lv (sto s0).length (exec P b ⟨tm (env s0),sto s0,nt,rd⟩)=h;cases hf:f s0 with
  |inl s'=>
   intro h2;obtain⟨k1,k2⟩:=h1 s' hf
   match h,h2 with
   |some (.inl h),h2=>
    rw[Mk]at h2;subst h2;exact OD env sto f out ok m hstep hkeep n s' (by omega) k1
  |inr t=>
   intro h2
   match h,h2 with
   |some (.inr q),h2=>exact⟨s0,t,q,h0,hf,rfl,h2⟩
theorem oc{S α:Type}{lv:List Nat}{b:K}{x:Nat}{as:List α}(env:Nat→S→List (Nat×AV))(sto:S→ae)(f:Nat→S→α→S)(fin:S→St)(ok:Nat→S→Prop)
  (hstep:∀(i:Nat) (a:α) (s:S),as[i]?=some a→i<as.length→ok i s→ok (i+1) (f i s a)∧vm lv (sto s).length (exec P b ⟨tm (env i s),sto s,nt,rd⟩)=some (.inl (env (i+1) (f i s a),sto (f i s a),nt,rd)))
  (hend:∀s,ok as.length s→exec P b ⟨tm (env as.length s),sto s,nt,rd⟩=some (.exit x,fin s))
  (hkeep:∀i s,(tm (env i s)).kept lv=env i s) (s0:S) (h0:ok 0 s0) (r:S) (hr:aq (T:=Empty) (fun i s a=>.inl (f i s a)) 0 s0 as=.inl r) :
  an P (.loop lv b) (env 0 s0) (sto s0) nt rd=some (.exit x,fin r):=by
 have h:=nz (P:=P) (nt:=nt) (rd:=rd) (T:=Empty) (x:=x) env sto (fun i s a=>.inl (f i s a)) fin (fun t=>nomatch t) ok (fun i a s h1 h2 h3=>⟨fun s' he=>by cases he;exact(hstep i a s h1 h2 h3).1,by rw[(hstep i a s h1 h2 h3).2];rfl⟩) hend hkeep s0 h0
 rw[hr]at h;exact h
abbrev Qp(P:Prog)(f:FuncId):Prop:=∀{args:List AV} {σ:ae},kV P f args σ=Tc P f args σ (omap (az σ depth) args)
abbrev Qi(P:Prog)(f:FuncId)(F:cZ):Prop:=∀{args:List AV} {σ:ae},kV P f args σ=call P F args σ
abbrev Rp(P:Prog)(f:FuncId)(n:Nat)(rs:List RV)(F:cZ):Prop:=∀{ps:List PV},ps.length≤n→R P f ps=ZW rs (exec P F.body ⟨uf (ps.map .p),[],n,none⟩)
abbrev Kp(P:Prog)(L:K)(lv:List Nat):Prop:=∀{τ:Tm} {σ:ae} {nt:Nat} {rd:Option Nat},exec P L ⟨τ,σ,nt,rd⟩=an P L (τ.kept lv) σ nt rd
variable {P:Prog} {τ:Tm} {σ:ae} {k:IntKind} {a b:Int}
theorem aox:cu .add (.p (.int k a)) (.p (.int k b))=some (.p (.int k (k.wrap (a+b)))):=by simp[cu,binop,rm]
theorem aoR:cu .sub (.p (.int k a)) (.p (.int k b))=some (.p (.int k (k.wrap (a-b)))):=by simp[cu,binop,rm]
theorem aoJ:cu .mul (.p (.int k a)) (.p (.int k b))=some (.p (.int k (k.wrap (a*b)))):=by simp[cu,binop,rm]
theorem aoO(h:b≠0):cu .quo (.p (.int k a)) (.p (.int k b))=some (.p (.int k (k.wrap (a.tdiv b)))):=by simp[cu,binop,rm,h]
theorem aoP(h:b≠0):cu .rem (.p (.int k a)) (.p (.int k b))=some (.p (.int k (a.tmod b))):=by simp[cu,binop,rm,h]
theorem aoA:cu .eql (.p (.int k a)) (.p (.int k b))=some (.p (.bool (decide (a=b)))):=by simp[cu,binop,rm];rw[abP];simp
theorem aoM:cu .neq (.p (.int k a)) (.p (.int k b))=some (.p (.bool (decide (¬a=b)))):=by simp[cu,binop,rm];rw[abP];simp
theorem aoG:cu .lss (.p (.int k a)) (.p (.int k b))=some (.p (.bool (decide (a<b)))):=by simp[cu,binop,rm]
theorem aoF:cu .leq (.p (.int k a)) (.p (.int k b))=some (.p (.bool (decide (a≤b)))):=by simp[cu,binop,rm]
theorem aoC:cu .gtr (.p (.int k a)) (.p (.int k b))=some (.p (.bool (decide (b<a)))):=by simp[cu,binop,rm]
theorem aoB:cu .geq (.p (.int k a)) (.p (.int k b))=some (.p (.bool (decide (b≤a)))):=by simp[cu,binop,rm]
theorem ajr:cu .and (.p (.int k a)) (.p (.int k b))=some (.p (.int k (k.wrap (BitVec.ofInt k.bits a &&& BitVec.ofInt k.bits b).toNat))):=by simp[cu,binop,rm]
theorem apY:cu .or (.p (.int k a)) (.p (.int k b))=some (.p (.int k (k.wrap (BitVec.ofInt k.bits a |||BitVec.ofInt k.bits b).toNat))):=by simp[cu,binop,rm]
theorem aoS:cu .xor (.p (.int k a)) (.p (.int k b))=some (.p (.int k (k.wrap (BitVec.ofInt k.bits a ^^^ BitVec.ofInt k.bits b).toNat))):=by simp[cu,binop,rm]
theorem aoQ{k':IntKind}(h:0≤b):cu .shl (.p (.int k a)) (.p (.int k' b))=some (.p (.int k (k.wrap (a*2^(min b.toNat k.bits))))):=by
 simp[cu,binop,FT,show ¬b<0 by omega]
theorem F2{k':IntKind}(h:0≤b):cu .shr (.p (.int k a)) (.p (.int k' b))=some (.p (.int k (a.fdiv (2^(min b.toNat k.bits))))):=by
 simp[cu,binop,FT,show ¬b<0 by omega]
theorem tg{x y:ByteArray}:x.toList=y.toList↔x=y:=by
 rw[ByteArray.toList_eq,ByteArray.toList_eq];constructor
 ·intro h
  cases x;cases y;simp only[ByteArray.mk.injEq];exact Array.toList_inj.1 h
 ·rintro rfl;rfl
theorem alW{x y:ByteArray}:cu .eql (.p (.str x)) (.p (.str y))=some (.p (.bool (decide (x=y)))):=by
 simp only[cu,binop,Uf,vd]
 congr 3
 rw[abP];simp[tg]
theorem alY{x y:ByteArray}:cu .neq (.p (.str x)) (.p (.str y))=some (.p (.bool (decide (¬x=y)))):=by
 simp only[cu,binop,Uf,vd]
 congr 3
 rw[abP];simp[tg]
def slt(x y:ByteArray):Bool:=Op.bytesLess x.toList y.toList
theorem alX{x y:ByteArray}:cu .lss (.p (.str x)) (.p (.str y))=some (.p (.bool (slt x y))):=rfl
theorem aoN{c:Bool}:anY (.p (.bool c))=some (.p (.bool !c)):=rfl
theorem aoz{c d:Bool}:aj2 false (.p (.bool c)) (.p (.bool d))=some (.p (.bool (c == d))):=rfl
theorem aoK{c d:Bool}:aj2 true (.p (.bool c)) (.p (.bool d))=some (.p (.bool !(c == d))):=rfl
theorem aoL{n:Int}:anX (.p (.int k n))=some (.p (.int k (k.wrap (0-n)))):=rfl
theorem alP{k':IntKind}{n:Int}:aiU k (.p (.int k' n))=some (.p (.int k (k.wrap n))):=rfl
theorem aiq{s:ByteArray}:adj (.p (.str s))=some (.p (.str s)):=rfl
theorem alU{s:ByteArray}:ai7 (.p (.str s))=some (.p (.int .i64 s.size)):=rfl
theorem alT{rows:List (List PV)}:KU σ (.p (.aW rows))=some (.p (.int .i64 rows.length)):=rfl
theorem aiu:KU σ .aF=some (.p (.int .i64 0)):=rfl
theorem alV{x y:AV}{c:Bool}:ae0 (.p (.bool c)) x y=some (if c=true then x else y):=by cases c<;>rfl
theorem aoH{x y:Int}:Qa true [.p (.int k x),.p (.int k y)]=some (.p (.int k (max x y))):=rfl
theorem aoI{x y:Int}:Qa false [.p (.int k x),.p (.int k y)]=some (.p (.int k (min x y))):=rfl
theorem anE{v:PV}:mvE σ (.p v)=some (.p v,σ):=rfl
theorem akw{b n:Nat}:mvE σ (.sl b n)=some (.sl b n,σ):=rfl
theorem aew:mvE σ .aF=some (.sl σ.length 0,σ++[.pv 0 [] false]):=rfl
theorem aiw{v:AV}:gm σ (some v)=some (v,σ):=rfl
theorem acw{vs:List PV}{i:Nat}:Ks (.p (.jO vs)) i=vs[i]?.map .p:=rfl
theorem afX{i:Nat}(h:i<4611686018427387904):IntKind.i64.wrap ((i:Int)+1)=((i+1:Nat):Int):=by rw[IntWalk.i64_in _ (by omega)];rfl
theorem aiC{i n:Nat}(h:i<n)(h':n≤9223372036854775807):IntKind.i64.wrap ((i:Int)+1)=((i+1:Nat):Int):=by rw[IntWalk.i64_in _ (by omega)];rfl
theorem apZ{n:Int}(h : -9223372036854775808≤n∧n≤9223372036854775807):IntKind.i64.wrap n=n:=IntWalk.i64_in n h
theorem alQ{row:List PV}{o off:Nat}:Kt off (.p (.ptr row o))=some (.p (.ptr row (o+off))):=rfl
theorem air{b n i o off:Nat}:Kt off (.ptr b n i o)=some (.ptr b n i (o+off)):=rfl
theorem aU{rows:List (List PV)}{es:Nat}{i:Nat}{r:List PV}(h:rows[i]?=some r)(h2:r.length=es):jd σ es (.p (.aW rows)) (.p (.int k i))=some (.p (.ptr r 0)):=by
 simp[jd,mm,h,h2]
theorem Yl{rows:List (List PV)}{r:List PV}{es:Nat}(h:rows[0]?=some r)(h2:r.length=es):jd σ es (.p (.aW rows)) (.p (.int k 0))=some (.p (.ptr r 0)):=by simp[jd,mm,h,h2]
theorem ajs{rows:List (List PV)}{r:List PV}{es:Nat}(h:rows[1]?=some r)(h2:r.length=es):jd σ es (.p (.aW rows)) (.p (.int k 1))=some (.p (.ptr r 0)):=by simp[jd,mm,h,h2]
theorem aoD{rows:List (List PV)}{r:List PV}{es:Nat}(h:rows[2]?=some r)(h2:r.length=es):jd σ es (.p (.aW rows)) (.p (.int k 2))=some (.p (.ptr r 0)):=by simp[jd,mm,h,h2]
theorem bs1{a:Int}{z:PV}:kU σ 1 1 (gK (List.replicate 1 [.p z]).flatten [(0,1,.p (.int k a))])=some (.sl σ.length 1,σ++[.pv 1 [[.int k a]] false]):=rfl
theorem bs2{a b:Int}{z:PV}:kU σ 1 2 (gK (List.replicate 2 [.p z]).flatten [(0,1,.p (.int k a)),(1,1,.p (.int k b))])=some (.sl σ.length 2,σ++[.pv 1 [[.int k a],[.int k b]] false]):=rfl
theorem bs3{a b c:Int}{z:PV}:kU σ 1 3 (gK (List.replicate 3 [.p z]).flatten [(0,1,.p (.int k a)),(1,1,.p (.int k b)),(2,1,.p (.int k c))])=some (.sl σ.length 3,σ++[.pv 1 [[.int k a],[.int k b],[.int k c]] false]):=rfl
theorem bs4{a b c d:Int}{z:PV}:kU σ 1 4 (gK (List.replicate 4 [.p z]).flatten [(0,1,.p (.int k a)),(1,1,.p (.int k b)),(2,1,.p (.int k c)),(3,1,.p (.int k d))])=some (.sl σ.length 4,σ++[.pv 1 [[.int k a],[.int k b],[.int k c],[.int k d]] false]):=rfl
theorem bs6{a b c d e f:Int}{z:PV}:kU σ 1 6 (gK (List.replicate 6 [.p z]).flatten [(0,1,.p (.int k a)),(1,1,.p (.int k b)),(2,1,.p (.int k c)),(3,1,.p (.int k d)),(4,1,.p (.int k e)),(5,1,.p (.int k f))]) =
  some (.sl σ.length 6,σ++[.pv 1 [[.int k a],[.int k b],[.int k c],[.int k d],[.int k e],[.int k f]] false]):=rfl
theorem BV{j n es:Nat}{rows:List (List PV)}{fr:Bool}{r:ae}:az (.pv es rows fr::r) (j+1) (.sl 0 n)=if rows.length=n then some (.aW rows)else none:=by simp[az]
theorem bs0{es:Nat}{z:List AV}:kU σ es 0 (gK (List.replicate 0 z).flatten [])=some (.sl σ.length 0,σ++[.pv es [] false]):=rfl
theorem Lt{j n es:Nat}{rows:List (List PV)}{fr:Bool}:az [.pv es rows fr] (j+1) (.sl 0 n)=if rows.length=n then some (.aW rows)else none:=by simp[az]
theorem Th{j:Nat}:az σ (j+1) .aF=some (.aW []):=rfl
theorem adF{n:Int}:PV.flat (.int k n)=true:=by simp[PV.flat]
theorem Zc{c:Bool}:PV.flat (.bool c)=true:=by simp[PV.flat]
theorem adI{s:ByteArray}:PV.flat (.str s)=true:=by simp[PV.flat]
theorem A0:∀(l:List PV),af (l.map .p)=some l
 | []=>rfl
 |a::l=>by simp[af,A0 l]
theorem aoy{row:List PV}{n:Nat}(h:row.length=n):cellsOf n true (.p (.agg row))=some (row.map .p):=by simp[cellsOf,h]
theorem alS{row:List PV}{n:Nat}:sS σ n true (some (row.map .p))=some (.p (.ptr row 0),σ):=by simp[sS,A0]
theorem ais{v:PV}{n:Nat}:sS σ n true (some [.p v])=some (.p (.ptr [v] 0),σ):=by simp[sS,af]
theorem CE{row:List PV}{n:Nat}(h:row.length=n):gM σ n true (.p (.ptr row 0))=some (.p (.agg row)):=by
 simp[gM,part,nM,←h]
theorem aiv{row:List PV}{o:Nat}{c:PV}(h:row[o]?=some c):gM σ 1 false (.p (.ptr row o))=some (.p c):=by
 obtain⟨ho,he⟩:=gu.1 h
 have:(row.drop o).take 1=[c]:=by
  rw[abc ho,he];rfl
 simp only[gM,part,show o+1≤row.length from ho,if_true,this];rfl
theorem apX{row:List PV}{o:Nat}:gM σ 1 false (.p (.ptr row o))=row[o]?.map .p:=by
 cases h:row[o]? with
 |some c=>exact aiv h
 |none=>
  have:=List.getElem?_eq_none_iff.1 h;simp[gM,part,show ¬o+1≤row.length by omega]
theorem aoE{a b:PV}:gM σ 2 true (.p (.ptr [a,b] 0))=some (.p (.agg [a,b])):=rfl
theorem afQ{v:Int}:cellsOf 1 false (.p (.int k v))=some [.p (.int k v)]:=rfl
theorem acv{v:ByteArray}:cellsOf 1 false (.p (.str v))=some [.p (.str v)]:=rfl
theorem acu{v:List (List PV)}:cellsOf 1 false (.p (.aW v))=some [.p (.aW v)]:=rfl
theorem afR{a b:PV}:cellsOf 2 true (.p (.agg [a,b]))=some [.p a,.p b]:=rfl
inductive Term where
 |mk (op w v:Int) (name:ByteArray) (args:List Term)
 deriving Inhabited
namespace Term
def op:Term→Int|.mk o _ _ _ _=>o
def w:Term→Int|.mk _ o _ _ _=>o
def v:Term→Int|.mk _ _ o _ _=>o
def name:Term→ByteArray|.mk _ _ _ o _=>o
def args:Term→List Term|.mk _ _ _ _ o=>o
mutual
def row:Term→List PV
 |.mk o w v s as=>[.int .i64 o,.int .i64 w,.int .u64 v,.str s,.aW (rows as)]
def rows:List Term→List (List PV)
 | []=>[]
 |t::r=>row t::rows r
end
theorem Z1{t a:Term}(ha:a∈t.args):SizeOf.sizeOf a<SizeOf.sizeOf t:=by
 cases t with
 |mk o w v s as=>
  have h1:SizeOf.sizeOf a<SizeOf.sizeOf as:=List.sizeOf_lt_of_mem ha;have h2:SizeOf.sizeOf (Term.mk o w v s as)=1+SizeOf.sizeOf o+SizeOf.sizeOf w+SizeOf.sizeOf v+SizeOf.sizeOf s+SizeOf.sizeOf as:=by simp
  omega
theorem ind{p:Term→Prop}(h:∀t,(∀a∈t.args,p a)→p t)(t:Term):p t:=by
 have key:∀n,∀t:Term,SizeOf.sizeOf t<n→p t:=by
  intro n
  induction n with
  |zero=>intro t ht;omega
  |succ n ih=>intro t ht;exact h t fun a ha=>ih a (by have:=Z1 ha;omega)
 exact key _ t (Nat.lt_succ_self _)
theorem FJ:∀l:List Term,rows l=l.map row
 | []=>rfl
 |t::r=>by simp[rows,FJ r]
theorem aY(t:Term):t.row=[.int .i64 t.op,.int .i64 t.w,.int .u64 t.v,.str t.name,.aW (t.args.map row)]:=by
 cases t;simp[row,op,w,v,name,args,FJ]
theorem aH(t:Term):t.row.length=5:=by rw[aY];rfl
theorem apK(t:Term):t.row[0]?=some (.int .i64 t.op):=by rw[aY];rfl
theorem apL(t:Term):t.row[1]?=some (.int .i64 t.w):=by rw[aY];rfl
theorem apM(t:Term):t.row[2]?=some (.int .u64 t.v):=by rw[aY];rfl
theorem apN(t:Term):t.row[3]?=some (.str t.name):=by rw[aY];rfl
theorem apO(t:Term):t.row[4]?=some (.aW (t.args.map row)):=by rw[aY];rfl
end Term
theorem afL{t:Term}:gM σ 5 true (.p (.ptr t.row 0))=some (.p (.agg t.row)):=CE t.aH
theorem QS{t:Term}:cellsOf 5 true (.p (.agg t.row))=some (t.row.map .p):=aoy t.aH
theorem apU{t:Term}{z0 z1 z2 z3 z4:AV}:kU σ 5 1 (gK (List.replicate 1 [z0,z1,z2,z3,z4]).flatten [(0,5,.p (.agg t.row))])=some (.sl σ.length 1,σ++[.pv 5 [t.row] false]):=by
 rw[Term.aY];rfl
theorem acA(l:List Term):wide 5 (l.map Term.row)=true:=by
 simp[wide,Term.aH]
variable {P:Prog} {τ:Tm} {σ σ':ae} {nt n l:Nat} {rd:Option Nat}
def rounds(P:Prog)(l:Nat):List (List AV)→ae→Option (Bool×ae)
 | [],σ=>some (true,σ)
 |a::r,σ=>match round P l a σ with
  |some (.p (.bool true),σ')=>if σ'.length=σ.length then rounds P l r σ' else none
  |some (.p (.bool false),σ')=>if σ'.length=σ.length then some (false,σ')else none
  |_=>none
def L2(P:Prog)(l:Nat)(r:List (List AV)):Option (Bool×ae)→Option (Bool×ae)
 |some (true,σ)=>rounds P l r σ
 |some (false,σ)=>some (false,σ)
 |none=>none
theorem yC:∀(x y:List (List AV)) (σ:ae),rounds P l (x++y) σ=L2 P l y (rounds P l x σ)
 | [],y,σ=>rfl
 |a::x,y,σ=>by
  simp only[Ec,rounds];split
  ·rename_i σ' h
   split
   ·exact yC x y σ'
   ·rfl
  ·rename_i σ' h
   split<;>rfl
  ·rfl
theorem tJ:∀(x:List (List AV)) (σ σ':ae) (b:Bool),rounds P l x σ=some (b,σ')→σ'.length=σ.length
 | [],σ,σ',b,h=>by simp only[rounds,bL,pY]at h;rw[←h.2]
 |a::x,σ,σ',b,h=>by
  simp only[rounds]at h;split at h
  ·rename_i σ1 h1
   split at h
   ·rename_i hl
    rw[tJ x σ1 σ' b h,hl]
   ·cases h
  ·rename_i σ1 h1
   split at h
   ·rename_i hl
    simp only[bL,pY]at h;rw[←h.2,hl]
   ·cases h
  ·cases h
def EX(P:Prog)(l:Nat)(b:K)(st:St):Option Obj→Option (Ex×St)
 |some (.loop τ1 nt1 ps1 asg1 b1 none)=>exec P b { st with σ:=st.σ.set l (.loop τ1 nt1 ps1 asg1 b1 (some .normal)) }
 |_=>none
def alk(P:Prog)(l:Nat)(b:K):Option (Ex×St)→Option (Ex×St)
 |some (.normal,st)=>EX P l b st st.σ[l]?
 |_=>none
def afl(l n:Nat)(e:Ex)(st:St):Option Obj→Option (AV×ae)
 |some (.loop τ2 nt2 ps2 asg2 b2 (some .normal))=>some (.p (.bool (e matches .normal)),gc n [] (st.σ.set l (.loop τ2 nt2 ps2 asg2 b2 (match e with|.normal=>none|e=>some e))))
 |_=>none
def aoe(l n:Nat):Option (Ex×St)→Option (AV×ae)
 |some (e,st)=>afl l n e st st.σ[l]?
 |none=>none
theorem B8{a:List AV}{r:List (List AV)}{b:Bool}(h:rounds P l (a::r) σ=some (b,σ')) :
  ∃c σ1,round P l a σ=some (.p (.bool c),σ1)∧σ1.length=σ.length∧(c=true→rounds P l r σ1=some (b,σ'))∧(c=false→b=false∧σ'=σ1):=by
 simp only[rounds]at h;split at h
 ·rename_i σ1 h1
  split at h
  ·rename_i hl
   exact⟨true,σ1,h1,hl,fun _=>h,by simp⟩
  ·cases h
 ·rename_i σ1 h1
  split at h
  ·rename_i hl
   simp only[bL,pY]at h;exact⟨false,σ1,h1,hl,by simp,fun _=>⟨h.1.symm,h.2.symm⟩⟩
  ·cases h
 ·cases h
theorem zk{τk:List (Nat×AV)}{ps:List Nat}{gP b:K}{args:List AV}(ho:σ[l]?=some (.loop τk nt ps gP b none))(hc:ps.length=args.length∧nodup ps=true∧ps.all (· < nt)=true) :
  round P l args σ=aoe l σ.length (alk P l b (exec P gP ⟨tm (ps.zip args++τk),σ,nt,some l⟩)):=by
 rw[round.eq_def];simp only[ho,hc,and_self,if_true,Jo];cases exec P gP ⟨tm (ps.zip args++τk),σ,nt,some l⟩with
 |none=>rfl
 |some r=>
  obtain⟨e,st⟩:=r;cases e with
  |exit i=>rfl
  |ret=>rfl
  |normal=>
   simp only[xu,alk];cases st.σ[l]? with
   |none=>rfl
   |some o=>
    cases o with
    |loop τ1 nt1 ps1 asg1 b1 s1=>
     cases s1 with
     |none=>
      simp only[EX];cases exec P b { st with σ:=st.σ.set l (.loop τ1 nt1 ps1 asg1 b1 (some .normal)) }with
      |none=>rfl
      |some q=>rfl
     |some e=>rfl
    |_=>rfl
theorem alm{b:K}:alk P l b (some (.normal,⟨τ,σ,nt,rd⟩))=EX P l b ⟨τ,σ,nt,rd⟩ σ[l]? := rfl
theorem agy{b b1 asg1:K}{τ1:List (Nat×AV)}{nt1:Nat}{ps1:List Nat}:EX P l b ⟨τ,σ,nt,rd⟩ (some (.loop τ1 nt1 ps1 asg1 b1 none))=exec P b ⟨τ,σ.set l (.loop τ1 nt1 ps1 asg1 b1 (some .normal)),nt,rd⟩:=rfl
theorem aln{e:Ex}:aoe l n (some (e,⟨τ,σ,nt,rd⟩))=afl l n e ⟨τ,σ,nt,rd⟩ σ[l]? := rfl
theorem alp{b2 asg2:K}{τ2:List (Nat×AV)}{nt2:Nat}{ps2:List Nat}:afl l n .normal ⟨τ,σ,nt,rd⟩ (some (.loop τ2 nt2 ps2 asg2 b2 (some .normal)))=some (.p (.bool true),gc n [] (σ.set l (.loop τ2 nt2 ps2 asg2 b2 none))):=rfl
theorem alq{b2 asg2:K}{τ2:List (Nat×AV)}{nt2:Nat}{ps2:List Nat}:afl l n .ret ⟨τ,σ,nt,rd⟩ (some (.loop τ2 nt2 ps2 asg2 b2 (some .normal)))=some (.p (.bool false),gc n [] (σ.set l (.loop τ2 nt2 ps2 asg2 b2 (some .ret)))):=rfl
theorem alo{i:Nat}{b2 asg2:K}{τ2:List (Nat×AV)}{nt2:Nat}{ps2:List Nat}:afl l n (.exit i) ⟨τ,σ,nt,rd⟩ (some (.loop τ2 nt2 ps2 asg2 b2 (some .normal)))=some (.p (.bool false),gc n [] (σ.set l (.loop τ2 nt2 ps2 asg2 b2 (some (.exit i))))):=rfl
theorem TQ{S T α:Type}{τk:List (Nat×AV)}{ps:List Nat}{gP b:K}(arg:α→List AV)(sto:S→ae)(f:Nat→S→α→S ⊕ T)(out:T→Ex×ae)(ok:Nat→S→Prop)
  (hlen:∀s,(sto s).length=n) (hout:∀t,(out t).2.length=n) (as:List α)
  (hstep:∀(i:Nat) (a:α) (s:S),as[i]?=some a→ok i s→(∀s',f i s a=.inl s'→ok (i+1) s') ∧
   round P n (arg a) (sto s++[.loop τk nt ps gP b none])=(match f i s a with
    |.inl s'=>some (.p (.bool true),sto s'++[.loop τk nt ps gP b none])
    |.inr t=>some (.p (.bool false),(out t).2++[.loop τk nt ps gP b (some (out t).1)]))) :
  ∀(r:List α) (i:Nat) (s:S),as.drop i=r→ok i s→rounds P n (r.map arg) (sto s++[.loop τk nt ps gP b none])=(match aq f i s r with
    |.inl s'=>some (true,sto s'++[.loop τk nt ps gP b none])
    |.inr t=>some (false,(out t).2++[.loop τk nt ps gP b (some (out t).1)])):=by
 intro r
 induction r with
 |nil=>intro i s _ _;rfl
 |cons a r ih=>
  intro i s hd hok
  have ha:as[i]?=some a:=by
   have:=congrArg (·[0]?) hd;simpa using this
  have hr:as.drop (i+1)=r:=by
   have:=congrArg (List.drop 1) hd;simpa using this
  obtain⟨h1,h2⟩:=hstep i a s ha hok;simp only[ue,rounds,aq];rw[h2];cases hf:f i s a with
  |inl s'=>
   simp only
   rw[if_pos (by simp[hlen]),ih (i+1) s' hr (h1 s' hf)]
  |inr t=>
   simp only
   rw[if_pos (by simp[hlen,hout])]
def mA(P:Prog)(ps:List Nat)(gP b:K)(gv:AV)(kept:List (Nat×AV))(σ:ae)(nt:Nat)(rd:Option Nat):Option (Ex×ae) :=
 (PO gv).bind fun x=>(P.fn x.1).bind fun fn=>
  if rZ rd σ && (nodup ps && ps.all (· < nt))then(call P fn (.yield σ.length::x.2) (σ++[.loop kept nt ps gP b none])).bind fun y=>
   match y.2[σ.length]? with
   |some (.loop _ _ _ _ _ none)=>some (.normal,gc σ.length [] (y.2.set σ.length .gone))
   |some (.loop _ _ _ _ _ (some .normal))=>none
   |some (.loop _ _ _ _ _ (some e))=>some (e,gc σ.length [] (y.2.set σ.length .gone))
   |_=>none
  else none
def B7(τ:Tm)(nt:Nat)(rd:Option Nat):Option (Ex×ae)→Option (Ex×St)
 |some (e,σ)=>some (e,⟨τ,σ,nt,rd⟩)
 |none=>none
theorem zi{g:O}{lv ps:List Nat}{gP b:K}:exec P (.range g ps lv gP b) ⟨τ,σ,nt,rd⟩=B7 τ nt rd (mA P ps gP b (g.val τ) (τ.kept lv) σ nt rd):=by
 rw[exec.eq_def];simp only[mA,Jo];cases PO (g.val τ)with
 |none=>rfl
 |some x=>
  obtain⟨f,cap⟩:=x;simp only[xu];cases P.fn f with
  |none=>rfl
  |some fn=>
   simp only[xu];split
   ·cases call P fn (.yield σ.length::cap) (σ++[.loop (τ.kept lv) nt ps gP b none])with
    |none=>rfl
    |some y=>
     simp only[xu];cases y.2[σ.length]? with
     |none=>rfl
     |some o=>
      cases o with
      |loop τ1 nt1 ps1 asg1 b1 s1=>
       cases s1 with
       |none=>rfl
       |some e=>cases e<;>rfl
      |_=>rfl
   ·rfl
theorem TJ{e:Ex}:B7 τ nt rd (some (e,σ))=some (e,⟨τ,σ,nt,rd⟩):=rfl
theorem al1{es:Nat}{v:PV}:rY es (aT [.p v] σ)=some (.ptr σ.length 1 0 0,σ++[.pv es [[v]] false]):=rfl
theorem apS{es:Nat}{c:PV}{v:Bool}{r:ae}:eE (.pv es [[c]] false::r) 1 (.ptr 0 1 0 0) (.p (.bool v))=some (.pv es [[.bool v]] false::r):=rfl
theorem aoq{es:Nat}{c:PV}{k:IntKind}{v:Int}{r:ae}:eE (.pv es [[c]] false::r) 1 (.ptr 0 1 0 0) (.p (.int k v))=some (.pv es [[.int k v]] false::r):=rfl
theorem any_some:amF (some σ)=some (.any,σ):=rfl
theorem ai4{es:Nat}{v:PV}{r:ae}:gM (.pv es [[v]] false::r) 1 false (.ptr 0 1 0 0)=some (.p v):=rfl
theorem akm{a b:Obj}{v:AV}{es:Nat}{fr:Bool}{r:ae}:gM (a::b::.av es [[v]] fr::r) 1 false (.ptr 2 1 0 0)=some v:=rfl
theorem ai2{vs:List AV}{a b c d e:Obj}:gc 4 vs [a,b,c,d,e]=if yW 4 vs [a,b,c,d,e]=true then[a,b,c,d]else[a,b,c,d,e]:=by unfold gc;rw[if_neg (by simp)];rfl
theorem ai1{vs:List AV}{a b c d:Obj}:gc 4 vs [a,b,c,d]=[a,b,c,d]:=eH (by simp)
theorem am6{vs:List AV}{a b c d:Obj}:gc 3 vs [a,b,c,d]=if yW 3 vs [a,b,c,d]=true then[a,b,c]else[a,b,c,d]:=by unfold gc;rw[if_neg (by simp)];rfl
theorem am5{vs:List AV}{a b c:Obj}:gc 3 vs [a,b,c]=[a,b,c]:=eH (by simp)
theorem V6{τ:List (Nat×AV)}{nt:Nat}{ps:List Nat}{gP b:K}{s:Option Ex}:Obj.below n (.loop τ nt ps gP b s)=τ.all fun x=>AE.below n x.2:=rfl
theorem adW{b:Nat}:sS σ 1 true (some [.map b])=some (.ptr σ.length 1 0 0,σ++[.av 1 [[.map b]] false]):=rfl
theorem YJ{b:Nat}:cellsOf 1 false (.map b)=some [.map b]:=rfl
theorem OB{a:Obj}{es:List (PV×AV)}{r:ae}{kl:mg}{k:PV}{z:AV}(hl:q8 kl k=true)(h:findKey kl k es=some none):sg (a::.map es false::r) kl z (.map 1) (.p k) true=some (w8 [z,.p (.bool false)]):=by
 simp only[sg,S3,aa6,NX,hl,if_true,h,xu];rfl
theorem OC{a:Obj}{es:List (PV×AV)}{r:ae}{kl:mg}{k:PV}{z v:AV}(hl:q8 kl k=true)(h:findKey kl k es=some (some v)):sg (a::.map es false::r) kl z (.map 1) (.p k) true=some (w8 [v,.p (.bool true)]):=by
 simp only[sg,S3,aa6,NX,hl,if_true,h,xu];rfl
theorem Xg{vs:List AV}{i:Nat}:Ks (.jO vs) i=vs[i]? := rfl
theorem aiG{a b c d e:AV}:cellsOf 5 true (.agg [a,b,c,d,e])=some [a,b,c,d,e]:=rfl
theorem al7{a b c d:PV}{es:Nat}:sS σ es true (some [.p a,.p b,.p c,.p d,.aF])=some (.ptr σ.length 1 0 0,σ++[.av es [[.p a,.p b,.p c,.p d,.aF]] false]):=rfl
theorem apc{a:ByteArray}{z:PV}:kU σ 1 1 (gK (List.replicate 1 [.p z]).flatten [(0,1,.p (.str a))])=some (.sl σ.length 1,σ++[.pv 1 [[.str a]] false]):=rfl
theorem Wi{j:Nat}{cs:List AV}:az σ (j+1) (.jO cs)=(omap (az σ j) cs).map .jO:=rfl
def ki{S T:Type}(sto:S→ae)(out:T→Ex×ae):S ⊕ T→Ex×ae
 |.inl s=>(.normal,sto s)
 |.inr t=>out t
theorem LZ{S T α:Type}{gv:AV}{kept:List (Nat×AV)}{ps:List Nat}{gP b:K}{f0:FuncId}{fn:cZ}{cap:List AV}(hfn:PO gv=some (f0,cap))(hF:P.fn f0=some fn)(hps:nodup ps=true∧ps.all (· < nt)=true)
  (arg:α→List AV) (sto:S→ae) (f:Nat→S→α→S ⊕ T) (out:T→Ex×ae) (ok:Nat→S→Prop) (as:List α) (s0:S) (hrd:rZ rd (sto s0)=true)
  (iter:∀(σ σ':ae) (bb:Bool),rounds P (sto s0).length (as.map arg) σ=some (bb,σ')→∃v,call P fn (.yield (sto s0).length::cap) σ=some (v,σ'))
  (hlen:∀s,(sto s).length=(sto s0).length) (hout:∀t,(out t).2.length=(sto s0).length)
  (hbel:∀s,(sto s).all (Obj.below (sto s0).length)=true) (hbelo:∀t,(out t).2.all (Obj.below (sto s0).length)=true) (hnn:∀t,(out t).1≠.normal)
  (hstep:∀(i:Nat) (a:α) (s:S),as[i]?=some a→ok i s→(∀s',f i s a=.inl s'→ok (i+1) s') ∧
   round P (sto s0).length (arg a) (sto s++[.loop kept nt ps gP b none])=(match f i s a with
    |.inl s'=>some (.p (.bool true),sto s'++[.loop kept nt ps gP b none])
    |.inr t=>some (.p (.bool false),(out t).2++[.loop kept nt ps gP b (some (out t).1)])))
  (h0:ok 0 s0):mA P ps gP b gv kept (sto s0) nt rd=some (ki sto out (aq f 0 s0 as)):=by
 have hr:=TQ (P:=P) (n:=(sto s0).length) arg sto f out ok hlen hout as hstep as 0 s0 rfl h0
 have gcs:∀x:ae,x.length=(sto s0).length→x.all (Obj.below (sto s0).length)=true→gc (sto s0).length [] (x++[.gone])=x:=by
  intro x hx hb;unfold gc;rw[if_neg (by simp[hx])]
  have ht:(x++[Obj.gone]).take (sto s0).length=x:=by rw[←hx];simp
  rw[if_pos (by simp only[yW,ht,abM,hb,Q8]),ht]
 have seta:∀(x:ae) (o o':Obj),x.length=(sto s0).length→(x++[o]).set (sto s0).length o'=x++[o']:=by
  intro x o o' hx;rw[←hx];simp
 have geta:∀(x:ae) (o:Obj),x.length=(sto s0).length→(x++[o])[(sto s0).length]?=some o:=by
  intro x o hx;rw[←hx];simp
 unfold mA;simp only[hfn,hF,xu,hrd,hps,Q8,if_true];cases hf:aq f 0 s0 as with
 |inl s=>
  rw[hf]at hr;obtain⟨v,hv⟩:=iter _ _ _ hr;rw[hv];simp only[xu,geta _ _ (hlen s),seta _ _ _ (hlen s),gcs _ (hlen s) (hbel s),ki]
 |inr t=>
  rw[hf]at hr;obtain⟨v,hv⟩:=iter _ _ _ hr;rw[hv];have hn:=hnn t;simp only[xu,geta _ _ (hout t),seta _ _ _ (hout t),gcs _ (hout t) (hbelo t),ki]
def Cv(es bytes:Nat)(args:List AV)(σ:ae):Option (AV×ae) :=
 match args with
 | [.sl b n,.p (.int .i64 i),.sl c m]=>
  match σ[b]?,σ[c]? with
  |some (.pv e rows false),some (.pv e' new _)=>
   if rows.length=n∧new.length=m∧b≠c∧(e=es∨e=0∧rows.isEmpty=true)∧e'=es∧0<m∧0≤i∧i.toNat≤n∧(n+m)*bytes≤140737488355328 then
    some (.sl b (n+m),σ.set b (.pv es (rows.take i.toNat++new++rows.drop i.toNat) false))
   else none
  |_,_=>none
 |_=>none
def AO{α:Type}(lt:α→α→Bool)(x:α):List α→List α
 | []=>[x]
 |y::r=>if lt y x=true then y::AO lt x r else x::y::r
def cW{α:Type}(lt:α→α→Bool):List α→List α
 | []=>[]
 |x::r=>AO lt x (cW lt r)
def Ge{α:Type}(lt:α→α→Bool):List α→Bool
 | []=>true
 |x::r=>(r.all fun y=>lt x y ||lt y x) && Ge lt r
def uZ(es:Nat)(g:FuncId)(ok:List PV→Bool)(lt:List PV→List PV→Bool):List AV→ae→Option (AV×ae)
 | [.sl b n,.p (.fn f [])],σ=>
  if f=g then
   match σ[b]? with
   |some (.pv e rows false)=>if rows.length=n∧n<4611686018427387904∧(rows=[]∨e=es)∧rows.all ok=true∧Ge lt rows=true then some (.p (.jO []),σ.set b (.pv e (cW lt rows) false))else none
   |_=>none
  else none
 |_,_=>none
def V7:List PV→Bool
 | [.str _,.int .i64 _]=>true
 |_=>false
def S5:List PV→List PV→Bool
 | [.str a,.int _ _],[.str b,.int _ _]=>slt a b
 |_,_=>false
def P9:List PV→List PV→Bool
 | [.str a,.int _ x],[.str b,.int _ y]=>slt a b ||(a.toList == b.toList && decide (x<y))
 |_,_=>false
def zf(es:Nat)(g:FuncId)(ok:List PV→Bool)(lt:List PV→List PV→Bool):List AV→ae→Option (AV×ae)
 | [.sl b n,.p (.fn f [])],σ=>
  if f=g then
   match σ[b]? with
   |some (.pv e rows false)=>if rows.length=n∧n<4611686018427387904∧(rows=[]∨e=es)∧rows.all ok=true then some (.p (.jO []),σ.set b (.pv e (cW lt rows) false))else none
   |_=>none
  else none
 |_,_=>none
def wm(g1 g2:FuncId)(args:List AV)(σ:ae):Option (AV×ae):=(uZ 2 g1 V7 S5 args σ).orElse fun _=>zf 2 g2 V7 P9 args σ
def oV:List (List PV)→List (List PV)
 | []=>[]
 | [a]=>[a]
 |a::b::r=>if eqVW a b then oV (b::r)else a::oV (b::r)
where eqVW:List PV→List PV→Bool
 | [.str a,.int _ x],[.str b,.int _ y]=>a.toList == b.toList && decide (x=y)
 |_,_=>false
def uX(es:Nat)(ok:List PV→Bool):List AV→ae→Option (AV×ae)
 | [.sl b n],σ=>
  match σ[b]? with
  |some (.pv e rows false)=>if rows.length=n∧n<4611686018427387904∧(rows=[]∨e=es)∧rows.all ok=true then some (.sl σ.length (oV rows).length,σ.set b .gone++[.pv e (oV rows) false])else none
  |_=>none
 |_,_=>none
def wk:List AV→ae→Option (AV×ae)
 | [.p (.aW rows)],σ=>if rows.length*64≤140737488355328∧(rows.all fun r=>r.length == 5)=true then some (.sl σ.length rows.length,σ++[.pv 5 rows false])else none
 |_,_=>none
abbrev eqs:=
 And.intro @adB <|And.intro @Jt <|And.intro @Rf <|And.intro @O2 <|And.intro @VO <|And.intro @KL <|And.intro @SN <|
 And.intro @PT <|And.intro @Za <|And.intro @Y8 <|And.intro @adA <|And.intro @alg <|And.intro @afg <|And.intro @agQ <|And.intro @ajU <|
 And.intro @ajT <|And.intro @akK <|And.intro @akL <|And.intro @adS <|And.intro @adP <|And.intro @adR <|And.intro @adQ <|And.intro @ag5 <|And.intro @ahu <|
 And.intro @ZH <|And.intro @Sp <|And.intro @tmE <|And.intro @Mk <|And.intro @alF <|And.intro @SM <|And.intro @adT <|And.intro @Zk <|
 And.intro @aj9 <|And.intro @aka <|And.intro @akc <|And.intro @Zq <|And.intro @ad5 <|And.intro @ae6 <|And.intro @alf <|And.intro @afj <|And.intro @TP <|
 And.intro @afi <|And.intro @TO <|And.intro @Vl <|And.intro @agH <|And.intro @Xz <|And.intro @WQ <|And.intro @WR <|And.intro @WS <|
 And.intro @an1 <|And.intro @akH <|And.intro @ahJ <|And.intro @aeK <|And.intro @ahG <|And.intro @aeM <|And.intro @akE <|And.intro @aeS <|And.intro @akJ <|
 And.intro @akI <|And.intro @aeQ <|And.intro @ahx <|And.intro @aeR <|And.intro @ahy <|And.intro @akF <|And.intro @aeT <|And.intro @aeU <|And.intro @ahz <|
 And.intro @ahA <|And.intro @ahL <|And.intro @ahM <|And.intro @ZM <|And.intro @V9 <|And.intro @ahE <|And.intro @ahF <|And.intro @ahD <|
 And.intro @ahC <|And.intro @ZN <|And.intro @ahH <|And.intro @ZO <|And.intro @akG <|And.intro @aeV <|And.intro @ahK <|And.intro @amX <|And.intro @adM <|And.intro @aeJ <|And.intro @ahB <|And.intro @akD <|And.intro @ZL <|And.intro @aeL <|And.intro @x8 <|And.intro @rv <|
 And.intro @aeX <|And.intro @ahI <|And.intro @aeW <|And.intro @ZK <|And.intro @aeN <|And.intro @aeP <|And.intro @aeO <|And.intro @Wa <|And.intro @YA <|And.intro @ac5 <|And.intro @Vm <|And.intro @am1 <|And.intro @am2 <|And.intro @am3 <|
 And.intro @am4 <|And.intro @I0 <|And.intro @YB <|And.intro @UX <|And.intro @Rk <|And.intro @YC <|And.intro @yN <|And.intro @Rl <|
 And.intro @wj <|And.intro @afB <|And.intro @aic <|And.intro @aid <|And.intro @anE <|And.intro @akw <|And.intro @aew <|And.intro @alm <|And.intro @agy <|
 And.intro @aln <|And.intro @alp <|And.intro @alq <|And.intro @alo <|And.intro @al1 <|And.intro @apS <|And.intro @aoq <|And.intro @any_some <|And.intro @ai4 <|
 And.intro @TJ <|And.intro @akm <|And.intro @ai1 <|And.intro @ai2 <|And.intro @am6 <|And.intro @am5 <|And.intro @V6 <|And.intro @tz <|And.intro @xd <|
 And.intro @adW <|And.intro @YJ <|And.intro @Xg <|And.intro @aiG <|And.intro @al7 <|And.intro @apc <|And.intro @Wi <|And.intro @aiw <|
 And.intro @aox <|And.intro @aoR <|And.intro @aoJ <|And.intro @aoA <|And.intro @aoM <|And.intro @aoG <|And.intro @aoF <|And.intro @aoC <|And.intro @aoB <|And.intro @alW <|
 And.intro @alY <|And.intro @alX <|And.intro @aoN <|And.intro @aoz <|And.intro @aoK <|And.intro @aoL <|And.intro @alP <|And.intro @aiq <|And.intro @alU <|
 And.intro @alT <|And.intro @aiu <|And.intro @alV <|And.intro @aoH <|And.intro @aoI <|And.intro @alQ <|And.intro @air <|And.intro @alS <|And.intro @ais <|
 And.intro @acw <|And.intro @afL <|And.intro @QS <|And.intro @Term.apK <|And.intro @Term.apL <|And.intro @Term.apM <|And.intro @Term.apN <|And.intro @Term.apO <|
 And.intro @apX <|And.intro @aoE <|And.intro @afQ <|And.intro @acv <|And.intro @acu <|And.intro @afR <|And.intro @bs1 <|And.intro @bs2 <|And.intro @bs3 <|
 And.intro @bs4 <|And.intro @bs6 <|And.intro @BV <|And.intro @bs0 <|And.intro @apU <|And.intro @Th <|And.intro @adF <|And.intro @Zc <|And.intro @adI <|
 And.intro @decide_true <|And.intro @decide_false <|And.intro @decide_not <|And.intro @and_self <|And.intro @and_true <|And.intro @true_and <|And.intro @and_false <|And.intro @false_and <|
 And.intro @or_true <|And.intro @true_or <|And.intro @or_false <|And.intro @false_or <|And.intro @not_true_eq_false <|And.intro @not_false_eq_true <|And.intro @afX <| @aiC
abbrev eqL:=
 And.intro @List.map_cons.{0,0} <|And.intro @List.map_nil.{0,0} <|And.intro @List.flatMap_cons.{0,0} <|And.intro @List.flatMap_nil.{0,0} <|And.intro @List.append_nil.{0} <|And.intro @List.nil_append.{0} <|And.intro @ite_self.{1} <|And.intro @List.all_cons.{0} <|And.intro @List.all_nil.{0} <|And.intro @List.take_succ_cons.{0} <|And.intro @List.take_zero.{0} <|And.intro @ab0 <|And.intro @Q8 <|And.intro @IZ <|And.intro @List.cons_append.{0} <|And.intro @List.set_cons_zero.{0} <|And.intro @List.set_cons_succ.{0} <|And.intro @List.flatten_cons.{0} <|And.intro @List.flatten_nil.{0} <|And.intro @List.zip_cons_cons.{0,0} <|And.intro @List.zip_nil_left.{0,0} <|And.intro @List.getElem?_cons_zero.{0} <|And.intro @List.getElem?_cons_succ.{0} <|And.intro @List.length_cons.{0} <|And.intro @List.length_nil.{0} <|And.intro @Option.map_some.{0,0} <|And.intro @Option.map_none.{0,0} <|And.intro @abU <|And.intro @ab6 <|And.intro @Bool.not_not <|And.intro @nh <| @abo
abbrev eqD:=
 And.intro @omap.eq_1 <|And.intro @omap.eq_2 <|And.intro @depth.eq_1 <|And.intro @Tc.eq_1 <|And.intro @Tc.eq_2 <|And.intro @X9.eq_1 <|And.intro @X9.eq_2 <|And.intro @dR.eq_1 <|And.intro @bF.eq_1 <|And.intro @bF.eq_2 <|And.intro @alN.eq_1 <|And.intro @alN.eq_2 <|And.intro @D0.eq_1 <|And.intro @D0.eq_2 <|And.intro @Wg.eq_1 <|And.intro @Wg.eq_2 <|And.intro @uf.eq_1 <|And.intro @number.eq_1 <|And.intro @number.eq_2 <|And.intro @yW.eq_1 <|And.intro @ki.eq_1 <|And.intro @ki.eq_2 <| @w8.eq_1
abbrev dZ:=
 And.intro eqs <|And.intro eqL eqD
theorem aO{a b:Nat}(h:Nat.ble a b=true):a≤b:=Nat.le_of_ble_eq_true h
variable {P:Prog} {τ:Tm} {σ:ae} {k k0 k1 k2:IntKind} {a b c d e x y z u v:AV} {o0 o1 o2 o3:Obj} {r:ae} {es n f:Nat} {fr:Bool}
theorem ahN:part 0 1 [a,b,c,d,e]=some [a]:=rfl
theorem ahO:part 1 1 [a,b,c,d,e]=some [b]:=rfl
theorem ahP:part 2 1 [a,b,c,d,e]=some [c]:=rfl
theorem ahQ:part 3 1 [a,b,c,d,e]=some [d]:=rfl
theorem ahR:part 4 1 [a,b,c,d,e]=some [e]:=rfl
theorem akP:part 0 5 [a,b,c,d,e]=some [a,b,c,d,e]:=rfl
theorem akS:b9 0 [x] [a,b,c,d,e]=some [x,b,c,d,e]:=rfl
theorem akT:b9 1 [x] [a,b,c,d,e]=some [a,x,c,d,e]:=rfl
theorem akU:b9 2 [x] [a,b,c,d,e]=some [a,b,x,d,e]:=rfl
theorem akV:b9 3 [x] [a,b,c,d,e]=some [a,b,c,x,e]:=rfl
theorem akW:b9 4 [x] [a,b,c,d,e]=some [a,b,c,d,x]:=rfl
theorem an7:b9 0 [x,y,z,u,v] [a,b,c,d,e]=some [x,y,z,u,v]:=rfl
def KS(n i o size:Nat)(agg:Bool):Option Obj→Option AV
 |some (.pv _ rows _)=>if rows.length=n then((rows[i]?.bind (part o size)).bind (nM agg)).map .p else none
 |some (.av _ rows _)=>if rows.length=n then(rows[i]?.bind (part o size)).bind (lY agg)else none
 |_=>none
theorem ank{bb n i o size:Nat}{agg:Bool}:gM σ size agg (.ptr bb n i o)=KS n i o size agg σ[bb]? := by
 simp only[gM];cases σ[bb]? with
 |none=>rfl
 |some ob=>cases ob<;>rfl
def ofC(agg:Bool):Option (List AV)→Option AV
 |some l=>lY agg l
 |none=>none
theorem akl{o size:Nat}{agg:Bool}{row:List AV}:KS 1 0 o size agg (some (.av es [row] fr))=ofC agg (part o size row):=by
 simp only[KS,oi,pN,if_true,NX,xu];cases part o size row<;>rfl
theorem anZ:ofC false (some [a])=some a:=rfl
theorem an0:ofC true (some [a,b,c,d,e])=some (w7 [a,b,c,d,e]):=rfl
theorem aep{pa pb pc pd:PV}{bb n:Nat}:w7 [.p pa,.p pb,.p pc,.p pd,.sl bb n]=.agg [.p pa,.p pb,.p pc,.p pd,.sl bb n]:=rfl
theorem V4{pa pb pc pd:PV}:w7 [.p pa,.p pb,.p pc,.p pd,.aF]=.agg [.p pa,.p pb,.p pc,.p pd,.aF]:=rfl
theorem ahk{pa pb pc pd pe:PV}:w7 [.p pa,.p pb,.p pc,.p pd,.p pe]=.p (.agg [pa,pb,pc,pd,pe]):=rfl
def QQ(σ:ae)(bb n i o:Nat)(new:List AV):Option Obj→Option ae
 |some (.pv es rows false)=>if rows.length=n then
   (rows[i]?.bind fun r=>
    match af new with
    |some ps=>(b9 o ps r).map fun r'=>σ.set bb (.pv es (rows.set i r') false)
    |none=>(b9 o new (r.map .p)).map fun r'=>σ.set bb (.av es ((rows.map fun r=>r.map .p).set i r') false))else none
 |some (.av es rows false)=>if rows.length=n then
   (rows[i]?.bind fun r=>(b9 o new r).map fun r'=>
    σ.set bb (match(rows.set i r')with
     | [r'']=>match af r'' with
      |some ps=>.pv es [ps] false
      |none=>.av es [r''] false
     |rows'=>.av es rows' false))else none
 |_=>none
theorem tM{bb n i o:Nat}{new:List AV}:setRow σ bb n i o new=QQ σ bb n i o new σ[bb]? := by
 simp only[setRow];cases σ[bb]? with
 |none=>rfl
 |some ob=>
  cases ob with
  |pv es rows fr=>cases fr<;>rfl
  |av es rows fr=>cases fr<;>rfl
  |_=>rfl
def stF(σ:ae)(bb es:Nat):Option (List AV)→Option ae
 |some r=>some (σ.set bb (mkObj es r))
 |none=>none
theorem alz{bb o:Nat}{new row:List AV}:QQ σ bb 1 0 o new (some (.av es [row] false))=stF σ bb es (b9 o new row):=by
 simp only[QQ,oi,pN,if_true,NX,xu,aa9];cases b9 o new row with
 |none=>rfl
 |some r=>simp only[vd,stF,mkObj];cases af r<;>rfl
theorem alA{bb o s m:Nat}{row:List PV}:QQ σ bb 1 0 o [.sl s m] (some (.pv es [row] false))=stF σ bb es (b9 o [.sl s m] (row.map .p)):=by
 simp only[QQ,oi,pN,if_true,NX,xu,af,ue,CU,aa9];cases h:b9 o [AV.sl s m] (row.map .p)with
 |none=>rfl
 |some r=>
  simp only[vd,stF,mkObj]
  have:af r=none:=by
   unfold b9 at h;split at h
   ·cases h
    have key:∀(l:List PV) (t:List AV),af (l.map .p++.sl s m::t)=none:=by
     intro l t
     induction l with
     |nil=>rfl
     |cons q l ih=>simp[af,ih]
    rw[Ux,←acm];exact key _ _
   ·cases h
  rw[this]
theorem afE{bb:Nat}{row:List AV}:stF σ bb es (some row)=some (σ.set bb (mkObj es row)):=rfl
theorem aeu{pa pb pc pd:PV}{bb n:Nat}:mkObj es [.p pa,.p pb,.p pc,.p pd,.sl bb n]=.av es [[.p pa,.p pb,.p pc,.p pd,.sl bb n]] false:=rfl
theorem ahl{row:List PV}:mkObj es (row.map .p)=.pv es [row] false:=by simp[mkObj,A0]
theorem aes{q:PV}:mkObj es [.p q]=.pv es [[q]] false:=rfl
theorem adt{pa pb pc pd:PV}:aT [.p pa,.p pb,.p pc,.p pd,.aF] σ=([.p pa,.p pb,.p pc,.p pd,.sl σ.length 0],σ++[.pv 0 [] false]):=rfl
theorem adu:∀(row:List PV) (σ:ae),aT (row.map .p) σ=(row.map .p,σ)
 | [],_=>rfl
 |q::row,σ=>by simp only[ue,aT,adu row σ]
theorem ac0{cs:List AV}:rY es (cs,σ)=some (.ptr σ.length 1 0 0,σ++[mkObj es cs]):=rfl
theorem akg{size:Nat}{cs:List AV}:sS σ size false (some cs)=rY size (aT cs σ):=rfl
theorem alD{bb n i o:Nat}{q:Int}:eE σ 1 (.ptr bb n i o) (.p (.int k q))=QQ σ bb n i o [.p (.int k q)] σ[bb]? := by rw[←tM];rfl
theorem alE{bb n i o:Nat}{q:ByteArray}:eE σ 1 (.ptr bb n i o) (.p (.str q))=QQ σ bb n i o [.p (.str q)] σ[bb]? := by rw[←tM];rfl
theorem aor{bb n i o s m:Nat}:eE σ 1 (.ptr bb n i o) (.sl s m)=QQ σ bb n i o [.sl s m] σ[bb]? := by rw[←tM];rfl
theorem aif{bb n i o:Nat}:eE σ 1 (.ptr bb n i o) .aF=QQ (σ++[.pv 0 [] false]) bb n i o [.sl σ.length 0] (σ++[.pv 0 [] false])[bb]? := by rw[←tM];rfl
theorem alC{bb n i o s m:Nat}{pa pb pc pd:PV}:eE σ 5 (.ptr bb n i o) (.agg [.p pa,.p pb,.p pc,.p pd,.sl s m])=QQ σ bb n i o [.p pa,.p pb,.p pc,.p pd,.sl s m] σ[bb]? := by rw[←tM];rfl
theorem aih{bb n i o:Nat}{pa pb pc pd:PV}:eE σ 5 (.ptr bb n i o) (.agg [.p pa,.p pb,.p pc,.p pd,.aF])=QQ (σ++[.pv 0 [] false]) bb n i o [.p pa,.p pb,.p pc,.p pd,.sl σ.length 0] (σ++[.pv 0 [] false])[bb]? := by rw[←tM];rfl
theorem apR{bb n i o:Nat}{t:Term}:eE σ 5 (.ptr bb n i o) (.p (.agg t.row))=QQ σ bb n i o (t.row.map .p) σ[bb]? := by
 rw[←tM];simp only[eE,QS,bz,Term.aH,if_true,adu]
theorem akZ{t:Term}:b9 0 (t.row.map .p) [a,b,c,d,e]=some (t.row.map .p):=by rw[Term.aY];rfl
theorem akX{t:Term}:b9 0 [x] (t.row.map .p)=some [x,.p (.int .i64 t.w),.p (.int .u64 t.v),.p (.str t.name),.p (.aW (t.args.map Term.row))]:=by rw[Term.aY];rfl
theorem akY{t:Term}:b9 4 [x] (t.row.map .p)=some [.p (.int .i64 t.op),.p (.int .i64 t.w),.p (.int .u64 t.v),.p (.str t.name),x]:=by rw[Term.aY];rfl
theorem anh{t:Term}:KS 1 0 0 5 true (some (.pv es [t.row] fr))=some (.p (.agg t.row)):=by
 simp only[KS,oi,pN,if_true,NX,xu];rw[Term.aY];rfl
theorem agB:kB [a,b,c,d,e] []=some (w7 [a,b,c,d,e]):=rfl
theorem agD{q0 q1 q2:Int}{q3:ByteArray}:kB [a,b,c,d,e] [(0,1,.p (.int k0 q0)),(1,1,.p (.int k1 q1)),(2,1,.p (.int k2 q2)),(3,1,.p (.str q3))]=some (w7 [.p (.int k0 q0),.p (.int k1 q1),.p (.int k2 q2),.p (.str q3),e]):=rfl
theorem agC{q0 q1:Int}{q3:ByteArray}:kB [a,b,c,d,e] [(0,1,.p (.int k0 q0)),(1,1,.p (.int k1 q1)),(3,1,.p (.str q3))]=some (w7 [.p (.int k0 q0),.p (.int k1 q1),c,.p (.str q3),e]):=rfl
theorem ahU{j:Nat}{cs:List AV}:az σ (j+1) (.agg cs)=(omap (az σ j) cs).map .agg:=rfl
theorem ae4{j n:Nat}{rows:List (List PV)}:az (o0::.pv es rows fr::r) (j+1) (.sl 1 n)=if rows.length=n then some (.aW rows)else none:=by simp[az]
theorem aje{j n:Nat}{rows:List (List PV)}:az (o0::o1::.pv es rows fr::r) (j+1) (.sl 2 n)=if rows.length=n then some (.aW rows)else none:=by simp[az]
theorem an5{j n:Nat}{rows:List (List PV)}:az (o0::o1::o2::.pv es rows fr::r) (j+1) (.sl 3 n)=if rows.length=n then some (.aW rows)else none:=by simp[az]
theorem ae5{j n:Nat}{rows:List (List PV)}:az (o0::o1::o2::o3::.pv es rows fr::r) (j+1) (.sl 4 n)=if rows.length=n then some (.aW rows)else none:=by simp[az]
theorem alc{j n:Nat}{rows:List (List PV)}:refs (o0::.pv es rows fr::r) (j+1) (.sl 1 n)=[1]:=rfl
theorem ald{j n:Nat}{rows:List (List PV)}:refs (o0::o1::.pv es rows fr::r) (j+1) (.sl 2 n)=[2]:=rfl
theorem ale{j n:Nat}{rows:List (List PV)}:refs (o0::o1::o2::.pv es rows fr::r) (j+1) (.sl 3 n)=[3]:=rfl
theorem afe{j:Nat}{cs:List AV}:refs σ (j+1) (.agg cs)=cs.flatMap (refs σ j):=rfl
theorem amV{rows:List (List PV)}:dD (o0::o1::.pv es rows fr::r) 2=o0::o1::.pv es rows true::r:=rfl
theorem amW{rows:List (List PV)}:dD (o0::o1::o2::.pv es rows fr::r) 3=o0::o1::o2::.pv es rows true::r:=rfl
theorem afD{q:List PV}:mB [o0,o1,o2,o3,.pv es [q] fr] es (.sl 4 1)=some (.inl [q]):=Cf rfl rfl (.inl rfl)
theorem afC{q:List PV}:mB [o0,o1,o2,.pv es [q] fr] es (.sl 3 1)=some (.inl [q]):=Cf rfl rfl (.inl rfl)
structure V2 where
 name:ByteArray
 w:Int
def au(v:V2):List PV:=[.str v.name,.int .i64 v.w]
theorem ape{q:ByteArray}{w:Int}{z0 z1:AV}:kU σ 2 1 (gK (List.replicate 1 [z0,z1]).flatten [(0,2,.p (.agg [.str q,.int k w]))])=some (.sl σ.length 1,σ++[.pv 2 [[.str q,.int k w]] false]):=rfl
theorem agY{q:Int}{c:Bool}:PV.flat (.jO [.int k q,.bool c])=true:=by simp[PV.flat]
theorem agZ{q q':Int}:PV.flat (.jO [.int k q,.int k0 q'])=true:=by simp[PV.flat]
theorem ait{qa qb:PV}:sS σ n true (some [.p qa,.p qb])=some (.p (.ptr [qa,qb] 0),σ):=rfl
theorem agE{q:ByteArray}{w:Int}:kB [a,b] [(0,1,.p (.str q)),(1,1,.p (.int k w))]=some (.p (.agg [.str q,.int k w])):=rfl
theorem amR:aT [.aF] σ=([.sl σ.length 0],σ++[.pv 0 [] false]):=rfl
theorem aet{bb n:Nat}:mkObj es [.sl bb n]=.av es [[.sl bb n]] false:=rfl
theorem akO:part 0 1 [a]=some [a]:=rfl
theorem an6:b9 0 [x] [a]=some [x]:=rfl
theorem I1{f:FuncId}{cap:List PV}{args:List AV}:rk P (.p (.fn f cap)) args σ=kV P f (args++cap.map .p) σ:=Xz
theorem OM{j:Nat}:refs σ j .aF=[]:=by cases j<;>rfl
abbrev eqM:=
 And.intro @ahN <|And.intro @ahO <|And.intro @ahP <|And.intro @ahQ <|And.intro @ahR <|And.intro @akP <|And.intro @akS <|And.intro @akT <|And.intro @akU <|
 And.intro @akV <|And.intro @akW <|And.intro @an7 <|And.intro @ank <|And.intro @akl <|And.intro @anZ <|And.intro @an0 <|And.intro @aep <|And.intro @V4 <|
 And.intro @ahk <|And.intro @alz <|And.intro @alA <|And.intro @afE <|And.intro @aeu <|And.intro @ahl <|And.intro @aes <|And.intro @adt <|And.intro @adu <|
 And.intro @ac0 <|And.intro @akg <|And.intro @alD <|And.intro @alE <|And.intro @aor <|And.intro @aif <|And.intro @alC <|And.intro @aih <|And.intro @apR <|
 And.intro @akZ <|And.intro @akX <|And.intro @akY <|And.intro @anh <|And.intro @agB <|And.intro @agD <|And.intro @agC <|And.intro @ahU <|And.intro @ae4 <|
 And.intro @aje <|And.intro @an5 <|And.intro @ae5 <|And.intro @alc <|And.intro @ald <|And.intro @ale <|And.intro @afe <|And.intro @amV <|And.intro @amW <|
 And.intro @afC <|And.intro @afD <|And.intro @ape <|And.intro @agY <|And.intro @agZ <|And.intro @ait <|And.intro @agE <|And.intro @amR <|And.intro @aet <|
 And.intro @akO <| @an6
abbrev aG:=
 And.intro dZ eqM
end Go.AE
