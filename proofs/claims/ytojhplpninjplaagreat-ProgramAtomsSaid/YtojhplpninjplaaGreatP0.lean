import Derived.Test.YtojhplpninjplaaGreatA0
import Derived.IntWalk
import Derived.Laws.Strings
namespace Go.AE
variable {P:Prog} {τ:Tm} {σ σ':Store} {nt d n:Nat} {rd:Option Nat} {st:St}
abbrev mvI (d:Nat) (x:O):IOp:=⟨some d,.mv x false,none⟩
abbrev opI (d:Nat) (op:XOp):IOp:=⟨some d,op,none⟩
abbrev kI (n:Int):O:=.c (.p (.int .i64 n))
theorem tm_cons {k t:Nat} {v:AV} {r:List (Nat×AV)}:(tm ((k,v) :: r)).get t=if k=t then v else (tm r).get t:=rfl
theorem tmE:(∀ (τ:Tm) (d t:Nat) (v:AV),(upd τ d v).get t=if d=t then v else τ.get t)∧(∀ (k t:Nat) (v:AV) (r:List (Nat×AV)),(tm ((k,v) :: r)).get t=if k=t then v else (tm r).get t) ∧
    (∀ (τ:Tm) (n:Nat),O.val τ (.t n)=τ.get n)∧(∀ (τ:Tm) (v:AV),O.val τ (.c v)=v):=⟨fun _ _ _ _=>rfl,fun _ _ _ _=>rfl,fun _ _=>rfl,fun _ _=>rfl⟩
def regK:Option St→Option (Ex×St)
  | some st=>some (.normal,st)
  | none=>none
def condP (P:Prog) (v:AV) (a b:K) (st:St):Option (Ex×St) :=
  match v with
  | .p (.bool true)=>exec P a st
  | .p (.bool false)=>exec P b st
  | _=>none
def nextO (P:Prog) (d:Option Nat) (r:List IOp) (τ:Tm) (nt:Nat) (rd:Option Nat):Option (AV×Store)→Option St
  | some (v,σ')=>(St.put ⟨τ,σ',nt,rd⟩ d v).bind (execOps P r)
  | none=>none
def guardO (P:Prog) (d:Option Nat) (op:XOp) (r:List IOp) (want:Bool) (τ:Tm) (σ:Store) (nt:Nat) (rd:Option Nat):AV→Option St
  | .p (.bool b)=>if b=want then nextO P d r τ nt rd (opRes P σ τ op) else (St.put ⟨τ,σ,nt,rd⟩ d (.p (.tup []))).bind (execOps P r)
  | .p (.tup [])=>(St.put ⟨τ,σ,nt,rd⟩ d (.p (.tup []))).bind (execOps P r)
  | _=>none
theorem ops_go {op:XOp} {d:Option Nat} {r:List IOp}:execOps P (⟨d,op,none⟩ :: r) ⟨τ,σ,nt,rd⟩=nextO P d r τ nt rd (opRes P σ τ op):=by
  rw [execOps_cons]
  simp only [wantedOp,Option.bind_some,if_true]
  cases opRes P σ τ op<;>rfl
theorem ops_if {op:XOp} {d:Option Nat} {r:List IOp} {t:Nat} {b:Bool}:execOps P (⟨d,op,some (t,b)⟩ :: r) ⟨τ,σ,nt,rd⟩=guardO P d op r b τ σ nt rd (τ.get t):=by
  rw [execOps_cons]
  simp only [wantedOp]
  split
  · rename_i c h
    simp only [Option.bind_some,h,guardO]
    cases c<;>cases b<;>simp<;>cases opRes P σ τ op<;>rfl
  · rename_i h
    simp [h,guardO]
  · rename_i h1 h2
    simp only [Option.bind_none]
    unfold guardO
    split
    · rename_i h;exact absurd h (h1 _)
    · rename_i h;exact absurd h h2
    · rfl
theorem cond_go {c:O} {a b:K}:exec P (.cond c a b) st=condP P (c.val st.τ) a b st:=by
  rw [exec_cond]
  unfold boolOf condP
  split
  · rename_i b h
    cases b<;>simp [h]
  · rename_i h
    split
    · rename_i h';exact absurd h' (h _)
    · rename_i h';exact absurd h' (h _)
    · rfl
theorem reg_go {d:Bool} {ops:List IOp}:exec P (.reg d ops) st=regK (execOps P ops st):=by
  rw [exec_reg];cases execOps P ops st<;>rfl
def regKD (ops:List IOp) (prs:List (Nat×Nat)):Option St→Option (Ex×St)
  | some st=>if regOk ops prs st.τ=true then some (.normal,st) else none
  | none=>none
theorem regD_go {ops:List IOp} {prs:List (Nat×Nat)}:exec P (.regD ops prs) st=regKD ops prs (execOps P ops st):=by
  rw [exec_regD];cases execOps P ops st<;>rfl
theorem regD_some {ops:List IOp} {prs:List (Nat×Nat)}:regKD ops prs (some st)=if regOk ops prs st.τ=true then some (.normal,st) else none:=rfl
theorem next_go {r:List IOp} {v:AV} (h:d<nt):nextO P (some d) r τ nt rd (some (v,σ'))=execOps P r ⟨upd τ d v,σ',nt,rd⟩:=by simp [nextO,St.put,h]
theorem next_none {r:List IOp} {v:AV}:nextO P none r τ nt rd (some (v,σ'))=execOps P r ⟨τ,σ',nt,rd⟩:=rfl
theorem guard_tt {d:Option Nat} {op:XOp} {r:List IOp}:guardO P d op r true τ σ nt rd (.p (.bool true))=nextO P d r τ nt rd (opRes P σ τ op):=rfl
theorem guard_ff {d:Option Nat} {op:XOp} {r:List IOp}:guardO P d op r false τ σ nt rd (.p (.bool false))=nextO P d r τ nt rd (opRes P σ τ op):=rfl
theorem guard_tf {d:Option Nat} {op:XOp} {r:List IOp}:guardO P d op r true τ σ nt rd (.p (.bool false))=nextO P d r τ nt rd (some (.p (.tup []),σ)):=rfl
theorem guard_ft {d:Option Nat} {op:XOp} {r:List IOp}:guardO P d op r false τ σ nt rd (.p (.bool true))=nextO P d r τ nt rd (some (.p (.tup []),σ)):=rfl
theorem guard_0 {d:Option Nat} {op:XOp} {r:List IOp} {b:Bool}:guardO P d op r b τ σ nt rd (.p (.tup []))=nextO P d r τ nt rd (some (.p (.tup []),σ)):=rfl
theorem cond_t {a b:K}:condP P (.p (.bool true)) a b st=exec P a st:=rfl
theorem cond_f {a b:K}:condP P (.p (.bool false)) a b st=exec P b st:=rfl
theorem reg_some:regK (some st)=some (.normal,st):=rfl
theorem op_mv {x:O}:opRes P σ τ (.mv x false)=some (x.val τ,σ):=by
  simp only [opRes,plain]
  split
  · rename_i h;simp [h]
  · rfl
def mvE (σ:Store):AV→Option (AV×Store)
  | .nils=>some (.sl σ.length 0,σ++[.pv 0 [] false])
  | v=>some (v,σ)
theorem op_mvE {x:O}:opRes P σ τ (.mv x true)=mvE σ (x.val τ):=by
  simp only [opRes,plain,mvE]
  split
  · rename_i h;simp [h]
  · rename_i h;split
    · rename_i h';exact absurd h' h
    · rfl
def quietR (σ:Store):Option AV→Option (AV×Store)
  | some v=>some (v,σ)
  | none=>none
theorem op_quiet {op:XOp} (h:plain σ τ op=(quiet σ τ op).map fun v=>(v,σ)) (h':opRes P σ τ op=plain σ τ op):opRes P σ τ op=quietR σ (quiet σ τ op):=by
  rw [h',h];cases quiet σ τ op<;>rfl
def pickV:AV→AV→AV→Option AV
  | .p (.bool true),a,_=>some a
  | .p (.bool false),_,b=>some b
  | _,_,_=>none
theorem op_pick {c a b:O}:opRes P σ τ (.pick c a b)=quietR σ (pickV (c.val τ) (a.val τ) (b.val τ)):=by
  rw [op_quiet (op:=.pick c a b) rfl rfl]
  simp only [quiet,boolOf,pickV]
  split
  · rename_i b h
    cases b<;>simp [h]
  · rename_i h
    split
    · rename_i h';exact absurd h' (h _)
    · rename_i h';exact absurd h' (h _)
    · rfl
def arithV (op:BinOp):AV→AV→Option AV
  | .p a,.p b=>(binop op a b).map .p
  | _,_=>none
theorem op_arith {op:BinOp} {x y:O}:opRes P σ τ (.arith op x y)=quietR σ (arithV op (x.val τ) (y.val τ)):=by
  rw [op_quiet (op:=.arith op x y) rfl rfl]
  simp only [quiet,arithV]
  split<;>split<;>simp_all
theorem op_load {size:Nat} {agg:Bool} {x:O}:opRes P σ τ (.load size agg x)=quietR σ (loadV σ size agg (x.val τ)):=op_quiet (op:=.load size agg x) rfl rfl
def buildV (zero:List AV) (ps:List (Nat×Nat×AV)):Option AV:=(fillP zero ps).map mkAgg
theorem op_build {zero:List AV} {ps:List (Nat×Nat×O)}:opRes P σ τ (.build zero ps)=quietR σ (buildV zero (ps.map fun x=>(x.1,x.2.1,x.2.2.val τ))):=op_quiet (op:=.build zero ps) rfl rfl
def eqBV (neg:Bool) (a b:AV):Option AV:=(boolOf a).bind fun a=>(boolOf b).map fun b=>.p (.bool (if neg then !(a == b) else a == b))
theorem op_eqB {neg:Bool} {x y:O}:opRes P σ τ (.eqB neg x y)=quietR σ (eqBV neg (x.val τ) (y.val τ)):=op_quiet (op:=.eqB neg x y) rfl rfl
def eqAV (neg:Bool) (lv:List Leaf) (a b:AV):Option AV:=match a,b with
  | .p (.agg a),.p (.agg b)=>(eqCells lv a b).map fun t=>.p (.bool (if neg then !t else t))
  | _,_=>none
theorem op_eqA {neg:Bool} {lv:List Leaf} {x y:O}:opRes P σ τ (.eqA neg lv x y)=quietR σ (eqAV neg lv (x.val τ) (y.val τ)):=by
  rw [op_quiet (op:=.eqA neg lv x y) rfl rfl]
  simp only [quiet,eqAV]
  split<;>split<;>simp_all
def notV (v:AV):Option AV:=(boolOf v).map fun t=>.p (.bool !t)
theorem op_not {x:O}:opRes P σ τ (.not x)=quietR σ (notV (x.val τ)):=op_quiet (op:=.not x) rfl rfl
def negV:AV→Option AV
  | .p (.int k n)=>some (.p (.int k (k.wrap (0-n))))
  | _=>none
theorem op_neg {x:O}:opRes P σ τ (.neg x)=quietR σ (negV (x.val τ)):=op_quiet (op:=.neg x) rfl rfl
def complV:AV→Option AV
  | .p (.int k n)=>(intOp .xor k (if k.signed then -1 else k.max) n).map .p
  | _=>none
theorem op_compl {x:O}:opRes P σ τ (.compl x)=quietR σ (complV (x.val τ)):=op_quiet (op:=.compl x) rfl rfl
def convV (k:IntKind):AV→Option AV
  | .p (.int _ n)=>some (.p (.int k (k.wrap n)))
  | _=>none
theorem op_conv {k:IntKind} {x:O}:opRes P σ τ (.conv k x)=quietR σ (convV k (x.val τ)):=op_quiet (op:=.conv k x) rfl rfl
def convSV:AV→Option AV
  | .p (.str s)=>some (.p (.str s))
  | _=>none
theorem op_convS {x:O}:opRes P σ τ (.convS x)=quietR σ (convSV (x.val τ)):=op_quiet (op:=.convS x) rfl rfl
def fadrV (off:Nat):AV→Option AV
  | .p (.ptr row o)=>some (.p (.ptr row (o+off)))
  | .ptr b n i o=>some (.ptr b n i (o+off))
  | _=>none
theorem op_fadr {off:Nat} {x:O}:opRes P σ τ (.fadr off x)=quietR σ (fadrV off (x.val τ)):=op_quiet (op:=.fadr off x) rfl rfl
def fldV (off size:Nat) (agg:Bool):AV→Option AV
  | .p (.agg cs)=>((part off size cs).bind (ofCellsP agg)).map .p
  | .agg cs=>(part off size cs).bind (ofCells agg)
  | _=>none
theorem op_fld {off size:Nat} {agg:Bool} {x:O}:opRes P σ τ (.fld off size agg x)=quietR σ (fldV off size agg (x.val τ)):=op_quiet (op:=.fld off size agg x) rfl rfl
def iadrAV (len es : Nat) (x i : AV) : Option AV := (natOf i).bind fun n =>
    if n<len then match x with
      | .p (.ptr row o)=>some (.p (.ptr row (o+n*es)))
      | .ptr b m i o=>some (.ptr b m i (o+n*es))
      | _=>none
    else none
theorem op_iadrA {len es:Nat} {x i:O}:opRes P σ τ (.iadrA len es x i)=quietR σ (iadrAV len es (x.val τ) (i.val τ)):=op_quiet (op:=.iadrA len es x i) rfl rfl
def iadrSV (σ : Store) (es : Nat) (x i : AV) : Option AV := (natOf i).bind fun n =>
    match x with
    | .p (.lst rows)=>rows[n]?.bind fun r=>if r.length=es then some (.p (.ptr r 0)) else none
    | .sl b m=>if n<m∧svec σ b=some (es,m) then some (.ptr b m n 0) else none
    | _=>none
theorem op_iadrS {es:Nat} {x i:O}:opRes P σ τ (.iadrS es x i)=quietR σ (iadrSV σ es (x.val τ) (i.val τ)):=op_quiet (op:=.iadrS es x i) rfl rfl
def idxAV (len es : Nat) (agg : Bool) (x i : AV) : Option AV := (natOf i).bind fun n =>
    if n<len then match x with
      | .p (.agg cs)=>((part (n*es) es cs).bind (ofCellsP agg)).map .p
      | .agg cs=>(part (n*es) es cs).bind (ofCells agg)
      | _=>none
    else none
theorem op_idxA {len es:Nat} {agg:Bool} {x i:O}:opRes P σ τ (.idxA len es agg x i)=quietR σ (idxAV len es agg (x.val τ) (i.val τ)):=op_quiet (op:=.idxA len es agg x i) rfl rfl
def idxSV (x i : AV) : Option AV := (natOf i).bind fun n =>
    match x with
    | .p (.str s)=>s[n]?.map fun b=>.p (.int .u8 b.toNat)
    | _=>none
theorem op_idxS {x i:O}:opRes P σ τ (.idxS x i)=quietR σ (idxSV (x.val τ) (i.val τ)):=op_quiet (op:=.idxS x i) rfl rfl
def slcSV (es : Nat) (x : AV) (lo hi mx : Option AV) : Option AV :=
    match x with
    | .p (.lst rows)=>
      if wide es rows then
        (bounds rows.length rows.length lo hi mx).bind fun b=>
          if mx.isNone then some (.p (.lst ((rows.take b.2.1).drop b.1))) else if b.2.2=0 then some .nils else none
      else none
    | .nils=>(bounds 0 0 lo hi mx).map fun _=>.nils
    | _=>none
theorem op_slcS {es:Nat} {x:O} {lo hi mx:Option O}:opRes P σ τ (.slcS es x lo hi mx)=quietR σ (slcSV es (x.val τ) (lo.map (O.val τ)) (hi.map (O.val τ)) (mx.map (O.val τ))):=by
  cases mx<;>exact op_quiet (op:=.slcS es x lo hi _) rfl rfl
def slcTV (x:AV) (lo hi:Option AV):Option AV:=match x with
  | .p (.str s)=>(bounds s.size s.size lo hi none).map fun b=>.p (.str (s.extract b.1 b.2.1))
  | _=>none
theorem op_slcT {x:O} {lo hi:Option O}:opRes P σ τ (.slcT x lo hi)=quietR σ (slcTV (x.val τ) (lo.map (O.val τ)) (hi.map (O.val τ))):=op_quiet (op:=.slcT x lo hi) rfl rfl
def lookV (σ:Store) (kl:Leaf) (x:AV) (k:PV):Option (Option AV) :=
  match x with
  | .p .nilm=>some none
  | .p (.pmap es)=>(findKey kl k es).map fun o=>Option.map AV.p o
  | .map b=>match σ[b]? with
    | some (.map es _)=>findKey kl k es
    | _=>none
  | _=>none
def lookupV (σ:Store) (kl:Leaf) (zero x k:AV) (ok:Bool):Option AV:=match k with
  | .p k=>if isLeaf kl k then (lookV σ kl x k).bind fun o:Option AV=>some (if ok then mkTup [o.getD zero,.p (.bool o.isSome)] else o.getD zero) else none
  | _=>none
theorem op_lookup {kl:Leaf} {zero:AV} {x k:O} {ok:Bool}:opRes P σ τ (.lookup kl zero x k ok)=quietR σ (lookupV σ kl zero (x.val τ) (k.val τ) ok):=op_quiet (op:=.lookup kl zero x k ok) rfl rfl
def extractV (x:AV) (k:Nat):Option AV:=match x with
  | .p (.tup vs)=>vs[k]?.map .p
  | .tup vs=>vs[k]?
  | _=>none
theorem op_extract {x:O} {k:Nat}:opRes P σ τ (.extract x k)=quietR σ (extractV (x.val τ) k):=op_quiet (op:=.extract x k) rfl rfl
def lenSV (σ:Store) (x:AV):Option AV:=(lenS σ x).map fun n=>.p (.int .i64 (Int.ofNat n))
theorem op_lenS {x:O}:opRes P σ τ (.lenS x)=quietR σ (lenSV σ (x.val τ)):=op_quiet (op:=.lenS x) rfl rfl
def lenTV:AV→Option AV
  | .p (.str s)=>some (.p (.int .i64 (Int.ofNat s.size)))
  | _=>none
theorem op_lenT {x:O}:opRes P σ τ (.lenT x)=quietR σ (lenTV (x.val τ)):=op_quiet (op:=.lenT x) rfl rfl
def lenMV (σ:Store) (x:AV):Option AV:=(lenM σ x).map fun n=>.p (.int .i64 (Int.ofNat n))
theorem op_lenM {x:O}:opRes P σ τ (.lenM x)=quietR σ (lenMV σ (x.val τ)):=op_quiet (op:=.lenM x) rfl rfl
theorem op_lenA {n:Nat}:opRes P σ τ (.lenA n)=some (.p (.int .i64 (Int.ofNat n)),σ):=rfl
def minmaxV (mx:Bool):List AV→Option AV
  | .p x :: r=>(minmaxL mx x r).map .p
  | _=>none
theorem op_minmax {mx:Bool} {args:List O}:opRes P σ τ (.minmax mx args)=quietR σ (minmaxV mx (args.map (O.val τ))):=op_quiet (op:=.minmax mx args) rfl rfl
theorem op_mkfn {f:FuncId} {caps:List O}:opRes P σ τ (.mkfn f caps)=some (mkFn f (caps.map (O.val τ)),σ):=rfl
def nilchkV:AV→Option AV
  | .p .nilp=>none
  | .p .nilf=>none
  | .any=>none
  | v=>some v
theorem op_nilchk {x:O}:opRes P σ τ (.nilchk x)=quietR σ (nilchkV (x.val τ)):=op_quiet (op:=.nilchk x) rfl rfl
def allocV (es:Nat) (x:List AV×Store):Option (AV×Store):=some (.ptr x.2.length 1 0 0,x.2++[mkObj es x.1])
theorem op_alloc {zero:List AV} {es:Nat}:opRes P σ τ (.alloc zero es)=allocV es (eagers zero σ):=rfl
def initV (σ:Store) (size:Nat) (ro:Bool):Option (List AV)→Option (AV×Store)
  | some cs=>if ro then match allP cs with
        | some ps=>some (.p (.ptr ps 0),σ)
        | none=>some (.ptr σ.length 1 0 0,σ++[mkObj size cs])
      else allocV size (eagers cs σ)
  | none=>none
theorem op_init {size:Nat} {agg ro:Bool} {x:O}:opRes P σ τ (.init size agg x ro)=initV σ size ro (cellsOf size agg (x.val τ)):=by
  simp only [opRes,plain];cases cellsOf size agg (x.val τ)<;>rfl
theorem op_box {size:Nat} {agg ro:Bool} {x:O}:opRes P σ τ (.box size agg x ro)=initV σ size ro (cellsOf size agg (x.val τ)):=by
  simp only [opRes,plain];cases cellsOf size agg (x.val τ)<;>rfl
def bsliceV (σ:Store) (es len:Nat):Option (List AV)→Option (AV×Store)
  | some cs=>some (.sl σ.length len,σ++[mkRows es (chunk es len cs)])
  | none=>none
def blistV (σ:Store) (es len:Nat):Option (List AV)→Option (AV×Store)
  | some cs=>match allP cs with
    | some ps=>some (.p (.lst (chunk es len ps)),σ)
    | none=>none
  | none=>none
theorem op_blist {es len:Nat} {zero:List AV} {ps:List (Nat×Nat×O)}:opRes P σ τ (.blist es zero len ps)=blistV σ es len (fillP ((List.replicate len zero).flatten) (ps.map fun x=>(x.1*es,x.2.1,x.2.2.val τ))):=by
  simp only [opRes,plain]
  cases fillP ((List.replicate len zero).flatten) (ps.map fun x=>(x.1*es,x.2.1,x.2.2.val τ)) with
  | none=>rfl
  | some cs=>simp only [Option.bind_some,blistV];cases allP cs<;>rfl
theorem op_bslice {es len:Nat} {zero:List AV} {ps:List (Nat×Nat×O)}:opRes P σ τ (.bslice es zero len ps)=bsliceV σ es len (fillP ((List.replicate len zero).flatten) (ps.map fun x=>(x.1*es,x.2.1,x.2.2.val τ))):=by
  simp only [opRes,plain];cases fillP ((List.replicate len zero).flatten) (ps.map fun x=>(x.1*es,x.2.1,x.2.2.val τ))<;>rfl
def anyR:Option Store→Option (AV×Store)
  | some σ=>some (.any,σ)
  | none=>none
theorem op_store {size:Nat} {a v:O}:opRes P σ τ (.store size a v)=anyR (storeV σ size (a.val τ) (v.val τ)):=by
  simp only [opRes,plain];cases storeV σ size (a.val τ) (v.val τ)<;>rfl
def mupdV (σ : Store) (kl : Leaf) (x k v : AV) : Option (AV × Store) := match x, k with
    | .map b,.p k=>match σ[b]? with
      | some (.map es false)=>if isLeaf kl k then (setKey kl k v es).map fun es'=>(.any,σ.set b (.map es' false)) else none
      | _=>none
    | _,_=>none
theorem op_mupd {kl:Leaf} {x k v:O}:opRes P σ τ (.mupd kl x k v)=mupdV σ kl (x.val τ) (k.val τ) (v.val τ):=rfl
theorem op_mkmap:opRes P σ τ .mkmap=some (.map σ.length,σ++[.map [] false]):=rfl
def appendV (σ:Store) (es bytes:Nat) (x:AV):Option Src→Option (AV×Store)
  | some new=>appendRows σ es bytes x new
  | none=>none
theorem op_append {es bytes:Nat} {x y:O}:opRes P σ τ (.append es bytes x y)=appendV σ es bytes (x.val τ) (srcOf σ es (y.val τ)):=by
  simp only [opRes,plain];cases srcOf σ es (y.val τ)<;>rfl
theorem op_callf {f:FuncId} {args:List O}:opRes P σ τ (.callf f args)=callF P f (args.map (O.val τ)) σ:=rfl
def callI (P:Prog) (args:List AV) (σ:Store):Option AFn→Option (AV×Store)
  | some fn=>call P fn args σ
  | none=>none
theorem op_calli {f:FuncId} {args:List O}:opRes P σ τ (.calli f args)=callI P (args.map (O.val τ)) σ (P.fn f):=by
  simp only [opRes,callI];cases P.fn f<;>rfl
theorem calli_some {fn:AFn} {args:List AV}:callI P args σ (some fn)=call P fn args σ:=rfl
def mksliceV (σ:Store) (es bytes:Nat) (zero:List AV) (l c:AV):Option (AV×Store):=(natOf l).bind fun l=>(natOf c).bind fun c=>
      if l≤c∧c*bytes≤140737488355328 then
        match allP zero with
        | some z=>some (.sl σ.length l,σ++[.pv es (List.replicate l z) false])
        | none=>some (.sl σ.length l,σ++[.av es (List.replicate l zero) false])
      else none
theorem op_mkslice {es bytes:Nat} {zero:List AV} {l c:O}:opRes P σ τ (.mkslice es bytes zero l c)=mksliceV σ es bytes zero (l.val τ) (c.val τ):=rfl
def frzV (σ:Store) (x:AV):Option (AV×Store):=(purify σ depth x).map fun r=>(.p r,freezeFor σ [x] r)
theorem op_frz {x:O}:opRes P σ τ (.frz x)=frzV σ (x.val τ):=rfl
theorem frz_p {v:PV}:frzV σ (.p v)=some (.p v,σ):=by
  have h:freezeFor σ [.p v] v=σ:=by
    unfold freezeFor
    split
    · rfl
    · simp [refs,depth,freezeAll]
  simp [frzV,purify,depth,h]
theorem frz_nils:frzV σ .nils=some (.p (.lst []),σ):=by
  simp [frzV,purify,depth,freezeFor,PV.flat]
theorem frz_sl {b n e:Nat} {rows:List (List PV)} {fr:Bool} (h:σ[b]? = some (.pv e rows fr)) (hn:rows.length=n):frzV σ (.sl b n)=some (.p (.lst rows),if rows.isEmpty then σ else σ.set b (.pv e rows true)):=by
  simp only [frzV,purify,depth,h,hn,if_true,Option.map_some,freezeFor,PV.flat,List.flatMap_cons,List.flatMap_nil,List.append_nil,refs,freezeAll,freezeAt]
def isnilV (neg : Bool) (x : AV) : Option AV := match x with
    | .p .nilf=>some (.p (.bool !neg))
    | .p (.fn ..) | .fn ..=>some (.p (.bool neg))
    | _=>none
theorem op_isnil {neg:Bool} {x:O}:opRes P σ τ (.isnil neg x)=quietR σ (isnilV neg (x.val τ)):=op_quiet (op:=.isnil neg x) rfl rfl
def slcAV (σ : Store) (len es : Nat) (x : AV) (lo hi mx : Option AV) : Option (AV × Store) := match x with
    | .ptr b 1 0 0=>match bounds len len lo hi mx,σ[b]? with
      | some (0,h,m),some (.pv e [row] false)=>if m=len∧e=len*es∧row.length=len*es then some (.sl σ.length h,(σ.set b .gone)++[.pv es (chunk es h (row.take (h*es))) false]) else none
      | _,_=>none
    | _=>none
theorem op_slcA {len es:Nat} {x:O} {lo hi mx:Option O}:opRes P σ τ (.slcA len es x lo hi mx)=slcAV σ len es (x.val τ) (lo.map (O.val τ)) (hi.map (O.val τ)) (mx.map (O.val τ)):=rfl
theorem op_callv {x:O} {args:List O}:opRes P σ τ (.callv x args)=callV P (x.val τ) (args.map (O.val τ)) σ:=rfl
theorem v_append {b e es bytes:Nat} {rows new:List (List PV)} (h:σ[b]? = some (.pv e rows false)) (hn:rows.length=n) (he:e=es∨(e=0∧rows=[])) (hb:(n+new.length)*bytes≤140737488355328) :
    appendV σ es bytes (.sl b n) (some (.inl new))=some (.sl b (n+new.length),σ.set b (.pv es (rows++new) false)):=by
  have he':e=es∨(e=0∧rows.isEmpty=true):=by
    rcases he with h0 | ⟨h0,h1⟩
    · exact .inl h0
    · exact .inr ⟨h0,by rw [h1];rfl⟩
  simp only [appendV,appendRows,h,Obj.len,hn,Src.count,hb,and_self,if_true,joinObj,if_pos he',Option.map_some]
theorem src_p {es:Nat} {rows:List (List PV)} (h:wide es rows=true):srcOf σ es (.p (.lst rows))=some (.inl rows):=by simp [srcOf,h]
theorem src_nils {es:Nat}:srcOf σ es .nils=some (.inl []):=rfl
theorem src_sl {b m es e:Nat} {rows:List (List PV)} {fr:Bool} (h:σ[b]? = some (.pv e rows fr)) (hn:rows.length=m) (he:e=es∨rows=[]):srcOf σ es (.sl b m)=some (.inl rows):=by
  have he':e=es∨rows.isEmpty=true:=by
    rcases he with h0 | h0
    · exact .inl h0
    · exact .inr (by rw [h0];rfl)
  simp only [srcOf,h,hn,he',and_self,if_true]
theorem src_one {es:Nat} {o:Obj} {r:List PV} {fr:Bool}:srcOf [o,.pv es [r] fr] es (.sl 1 1)=some (.inl [r]):=src_sl rfl rfl (.inl rfl)
theorem src_two {es:Nat} {o o':Obj} {r:List PV} {fr:Bool}:srcOf [o,o',.pv es [r] fr] es (.sl 2 1)=some (.inl [r]):=src_sl rfl rfl (.inl rfl)
def pureR (σ:Store) (args:List AV):Option PV→Option (AV×Store)
  | some r=>some (.p r,freezeFor σ args r)
  | none=>none
def R (P:Prog) (f:FuncId) (ps:List PV):Option PV :=
  (P.fn f).bind fun fn=>(call P fn (ps.map .p) []).bind fun x=>purify x.2 depth x.1
def pcall (P:Prog) (f:FuncId) (args:List AV) (σ:Store):Option (List PV)→Option (AV×Store)
  | some ps=>pureR σ args (R P f ps)
  | none=>none
theorem callF_pure {f:FuncId} {fn:AFn} {args:List AV} (h:P.fn f=some fn) (hp:P.prim f=none) (hi:fn.imp=false):callF P f args σ=pcall P f args σ (omap (purify σ depth) args):=by
  rw [callF.eq_def]
  simp only [hp,h,Option.bind_eq_bind,Option.bind_some,hi,Bool.false_eq_true,if_false]
  cases h1:omap (purify σ depth) args with
  | none=>rfl
  | some ps=>
    simp only [Option.bind_some,pcall,R,h,pureR]
    cases h2:call P fn (ps.map .p) [] with
    | none=>rfl
    | some x=>
      simp only [Option.bind_some]
      cases purify x.2 depth x.1<;>rfl
theorem callF_imp {f:FuncId} {fn:AFn} {args:List AV} (h:P.fn f=some fn) (hp:P.prim f=none) (hi:fn.imp=true):callF P f args σ=call P fn args σ:=by
  rw [callF.eq_def]
  simp only [hp,h,Option.bind_eq_bind,Option.bind_some,hi,if_true]
theorem callF_prim {f:FuncId} {args:List AV} {g:List AV→Store→Option (AV×Store)} (hp:P.prim f=some g):callF P f args σ=g args σ:=by
  rw [callF.eq_def]
  simp only [hp]
theorem purify_p {k:Nat} {v:PV}:purify σ (k+1) (.p v)=some v:=rfl
theorem refs_p {k:Nat} {v:PV}:refs σ k (.p v)=[]:=by cases k<;>rfl
def purR (σ:Store):Option AV→Option PV
  | some v=>purify σ depth v
  | none=>none
def retR (rs:List RV):Option (Ex×St)→Option PV
  | some (.normal,st) | some (.ret,st)=>purR st.σ (resultOf rs st.σ st.τ)
  | _=>none
theorem retR_ret {rs:List RV}:retR rs (some (.ret,st))=purR st.σ (resultOf rs st.σ st.τ):=rfl
theorem retR_normal {rs:List RV}:retR rs (some (.normal,st))=purR st.σ (resultOf rs st.σ st.τ):=rfl
theorem resultOf_0:resultOf [] σ τ=some (.p (.tup [])):=rfl
theorem resultOf_1 {r:RV}:resultOf [r] σ τ=resV σ τ r:=by
  simp only [resultOf,omap];cases resV σ τ r<;>rfl
def tupR:Option (List AV)→Option AV
  | some l=>some (mkTup l)
  | none=>none
theorem resultOf_n {a b:RV} {r:List RV}:resultOf (a :: b :: r) σ τ=tupR (omap (resV σ τ) (a :: b :: r)):=by
  simp only [resultOf,omap]
  cases resV σ τ a with
  | none=>rfl
  | some x=>
    cases resV σ τ b with
    | none=>rfl
    | some y=>cases omap (resV σ τ) r<;>rfl
theorem omap_same {α β:Type} {f g:α→Option β}:∀ {l:List α},(∀ a∈l,f a=g a)→omap f l=omap g l
  | [],_=>rfl
  | a :: l,h=>by
    simp only [omap,h a (List.mem_cons_self ..),omap_same fun b hb=>h b (List.mem_cons_of_mem _ hb)]
theorem purify_below0 {σ σ':Store}:∀ (k:Nat) (v:AV),below 0 v=true→purify σ k v=purify σ' k v
  | 0,_,_=>rfl
  | k+1,v,h=>by
    cases v with
    | sl b n=>simp [below] at h
    | ptr b n i o=>simp [below] at h
    | map b=>simp [below] at h
    | fn f cap=>
      simp only [below,List.all_eq_true,List.mem_attach,true_imp_iff,Subtype.forall] at h
      simp only [purify]
      rw [omap_same fun a ha=>purify_below0 k a (h a ha)]
    | agg cs=>
      simp only [below,List.all_eq_true,List.mem_attach,true_imp_iff,Subtype.forall] at h
      simp only [purify]
      rw [omap_same fun a ha=>purify_below0 k a (h a ha)]
    | tup cs=>
      simp only [below,List.all_eq_true,List.mem_attach,true_imp_iff,Subtype.forall] at h
      simp only [purify]
      rw [omap_same fun a ha=>purify_below0 k a (h a ha)]
    | _=>rfl
theorem purify_gc0 {v:AV} {k:Nat}:purify (gc 0 [v] σ) k v=purify σ k v:=by
  unfold gc
  split
  · rfl
  · split
    · rename_i h
      simp only [gcOk,List.all_cons,List.all_nil,Bool.and_true,Bool.and_eq_true] at h
      exact purify_below0 k v h.1
    · rfl
theorem R_go {f:FuncId} {fn:AFn} {ps:List PV} (h:P.fn f=some fn) (hl:(ps.length≤fn.ntmps)):R P f ps=retR fn.results (exec P fn.body ⟨enterTm (ps.map .p),[],fn.ntmps,none⟩):=by
  simp only [R,h,Option.bind_some]
  rw [call.eq_def,if_pos (by simpa using hl)]
  simp only [Option.bind_eq_bind]
  cases h1:exec P fn.body ⟨enterTm (ps.map .p),[],fn.ntmps,none⟩ with
  | none=>rfl
  | some x=>
    obtain ⟨e,st⟩:=x
    have key:((resultOf fn.results st.σ st.τ).bind fun v=>some (v,gc ([]:Store).length [v] st.σ)).bind (fun x=>purify x.2 depth x.1)=purR st.σ (resultOf fn.results st.σ st.τ):=by
      cases resultOf fn.results st.σ st.τ with
      | none=>rfl
      | some v=>simp only [Option.bind_some,List.length_nil,purify_gc0,purR]
    cases e with
    | exit i=>rfl
    | normal=>simpa [retR] using key
    | ret=>simpa [retR] using key
def callR (n:Nat) (st:St):Option AV→Option (AV×Store)
  | some v=>some (v,gc n [v] st.σ)
  | none=>none
def retC (n:Nat) (rs:List RV):Option (Ex×St)→Option (AV×Store)
  | some (.normal,st) | some (.ret,st)=>callR n st (resultOf rs st.σ st.τ)
  | _=>none
theorem call_go {fn:AFn} {args:List AV} (h:args.length≤fn.ntmps):call P fn args σ=retC σ.length fn.results (exec P fn.body ⟨enterTm args,σ,fn.ntmps,none⟩):=by
  rw [call.eq_def,if_pos h]
  simp only [Option.bind_eq_bind]
  cases exec P fn.body ⟨enterTm args,σ,fn.ntmps,none⟩ with
  | none=>rfl
  | some x=>
    obtain ⟨e,st⟩:=x
    cases e with
    | exit i=>rfl
    | normal=>simp only [Option.bind_some,retC];cases resultOf fn.results st.σ st.τ<;>rfl
    | ret=>simp only [Option.bind_some,retC];cases resultOf fn.results st.σ st.τ<;>rfl
theorem retC_ret {rs:List RV}:retC n rs (some (.ret,st))=callR n st (resultOf rs st.σ st.τ):=rfl
theorem retC_normal {rs:List RV}:retC n rs (some (.normal,st))=callR n st (resultOf rs st.σ st.τ):=rfl
theorem callR_some {v:AV}:callR n st (some v)=some (v,gc n [v] st.σ):=rfl
theorem callV_y {l:Nat} {args:List AV}:callV P (.yield l) args σ=round P l args σ:=by rw [callV.eq_def]
theorem callV_f {f:FuncId} {cap:List PV} {args:List AV}:callV P (.p (.fn f cap)) args σ=callF P f (args++cap.map .p) σ:=by rw [callV.eq_def]
theorem keep_keep {lv:List Nat}:(τ.keep lv).keep lv=τ.keep lv:=by
  unfold Tm.keep Tm.kept
  congr 1
  apply List.map_congr_left
  intro t ht
  congr 1
  have:∀ l:List Nat,t∈l→(tm (l.map fun t=>(t,τ.get t))).get t=τ.get t:=by
    intro l
    induction l with
    | nil=>intro h;simp at h
    | cons a l ih=>
      intro h
      simp only [List.map_cons,tm_cons]
      split
      · rename_i e;rw [e]
      · rename_i e;exact ih (by rcases List.mem_cons.1 h with h | h;exact absurd h.symm e;exact h)
  exact this lv ht
theorem loop_kept {lv:List Nat} {b:K}:exec P (.loop lv b) ⟨τ,σ,nt,rd⟩=exec P (.loop lv b) ⟨tm (τ.kept lv),σ,nt,rd⟩:=by
  rw [exec_loop,exec_loop]
  simp only
  rw [show tm (τ.kept lv)=τ.keep lv from rfl,keep_keep]
theorem gc_same (h:σ.length=n) {vs:List AV}:gc n vs σ=σ:=by unfold gc;rw [if_pos (by omega)]
def back (P:Prog) (lv:List Nat) (b:K) (n:Nat):Option (Ex×St)→Option (Ex×St)
  | some (.normal,st)=>exec P (.loop lv b) ⟨tm (st.τ.kept lv),gc n (lv.map st.τ.get) st.σ,st.nt,st.rd⟩
  | some (.ret,st)=>some (.ret,st)
  | some (.exit i,st)=>some (.exit i,st)
  | none=>none
theorem loop_go {lv:List Nat} {b:K}:exec P (.loop lv b) ⟨τ,σ,nt,rd⟩=back P lv b σ.length (exec P b ⟨tm (τ.kept lv),σ,nt,rd⟩):=by
  rw [exec_loop]
  show loopBack P lv b σ.length (exec P b ⟨tm (τ.kept lv),σ,nt,rd⟩)=_
  cases exec P b ⟨tm (τ.kept lv),σ,nt,rd⟩ with
  | none=>rfl
  | some x=>obtain ⟨e,st⟩:=x;cases e<;>rfl
theorem kept_nil:τ.kept []=[]:=rfl
theorem kept_cons {t:Nat} {l:List Nat}:τ.kept (t :: l)=(t,τ.get t) :: τ.kept l:=rfl
def loopAt (P:Prog) (c:K) (l:List (Nat×AV)) (σ:Store) (nt:Nat) (rd:Option Nat):Option (Ex×St):=exec P c ⟨tm l,σ,nt,rd⟩
def foldE {S T α:Type} (f:Nat→S→α→S ⊕ T):Nat→S→List α→S ⊕ T
  | _,s,[]=>.inl s
  | i,s,a :: r=>match f i s a with
    | .inl s'=>foldE f (i+1) s' r
    | .inr t=>.inr t
def headOf (lv:List Nat) (n:Nat):Option (Ex×St)→Option ((List (Nat×AV)×Store×Nat×Option Nat) ⊕ (Ex×St))
  | some (.normal,st)=>some (.inl (st.τ.kept lv,gc n (lv.map st.τ.get) st.σ,st.nt,st.rd))
  | some (.ret,st)=>some (.inr (.ret,st))
  | some (.exit i,st)=>some (.inr (.exit i,st))
  | none=>none
theorem head_normal {lv:List Nat}:headOf lv n (some (.normal,⟨τ,σ,nt,rd⟩))=some (.inl (τ.kept lv,gc n (lv.map τ.get) σ,nt,rd)):=rfl
theorem head_ret {lv:List Nat}:headOf lv n (some (.ret,st))=some (.inr (.ret,st)):=rfl
theorem head_exit {lv:List Nat} {i:Nat}:headOf lv n (some (.exit i,st))=some (.inr (.exit i,st)):=rfl
theorem gc_same' (h:σ.length≤n) {vs:List AV}:gc n vs σ=σ:=by unfold gc;rw [if_pos h]
theorem gc_len {vs:List AV}:gc (List.length σ) vs σ=σ:=gc_same rfl
theorem gc_nil {vs:List AV}:gc n vs []=[]:=gc_same' (by simp)
theorem gc_one {vs:List AV} {a:Obj}:gc 1 vs [a]=[a]:=gc_same' (by simp)
theorem gc_two {vs:List AV} {a b:Obj}:gc 2 vs [a,b]=[a,b]:=gc_same' (by simp)
theorem gc_12 {vs:List AV} {a b:Obj}:gc 1 vs [a,b]=if gcOk 1 vs [a,b]=true then [a] else [a,b]:=by unfold gc;rw [if_neg (by simp)];rfl
theorem gc_13 {vs:List AV} {a b c:Obj}:gc 1 vs [a,b,c]=if gcOk 1 vs [a,b,c]=true then [a] else [a,b,c]:=by unfold gc;rw [if_neg (by simp)];rfl
theorem gc_23 {vs:List AV} {a b c:Obj}:gc 2 vs [a,b,c]=if gcOk 2 vs [a,b,c]=true then [a,b] else [a,b,c]:=by unfold gc;rw [if_neg (by simp)];rfl
theorem gc_24 {vs:List AV} {a b c d:Obj}:gc 2 vs [a,b,c,d]=if gcOk 2 vs [a,b,c,d]=true then [a,b] else [a,b,c,d]:=by unfold gc;rw [if_neg (by simp)];rfl
theorem below_p {v:PV}:below n (.p v)=true:=by simp [below]
theorem below_any:below n .any=true:=by simp [below]
theorem below_nils:below n .nils=true:=by simp [below]
theorem below_sl {b m:Nat}:below n (.sl b m)=decide (b<n):=by simp [below]
theorem below_ptr {b m i o:Nat}:below n (.ptr b m i o)=decide (b<n):=by simp [below]
theorem below_map {b:Nat}:below n (.map b)=decide (b<n):=by simp [below]
theorem below_yield {b:Nat}:below n (.yield b)=decide (b<n):=by simp [below]
theorem obj_below {es:Nat} {rows:List (List PV)} {fr:Bool}:Obj.below n (.pv es rows fr)=true:=rfl
theorem obj_belowA {es:Nat} {rows:List (List AV)} {fr:Bool}:Obj.below n (.av es rows fr)=rows.all fun r=>r.all (AE.below n):=rfl
theorem obj_belowM {es:List (PV×AV)} {fr:Bool}:Obj.below n (.map es fr)=es.all fun e=>AE.below n e.2:=rfl
theorem back_head {lv:List Nat} {b:K} {r:Option (Ex×St)}:back P lv b n r=(headOf lv n r).bind fun
    | .inl h=>loopAt P (.loop lv b) h.1 h.2.1 h.2.2.1 h.2.2.2
    | .inr x=>some x:=by
  cases r with
  | none=>rfl
  | some x=>obtain ⟨e,st⟩:=x;cases e<;>rfl
def stepP {S T:Type} (env:S→List (Nat×AV)) (sto:S→Store) (nt:Nat) (rd:Option Nat) (out:T→Ex×St→Prop):S ⊕ T→Option ((List (Nat×AV)×Store×Nat×Option Nat) ⊕ (Ex×St))→Prop
  | .inl s,some (.inl h)=>h=(env s,sto s,nt,rd)
  | .inr t,some (.inr r)=>out t r
  | _,_=>False
theorem step_l {S T:Type} {env:S→List (Nat×AV)} {sto:S→Store} {out:T→Ex×St→Prop} {s:S} {h:List (Nat×AV)×Store×Nat×Option Nat}:stepP env sto nt rd out (.inl s) (some (.inl h))=(h=(env s,sto s,nt,rd)):=rfl
theorem step_r {S T:Type} {env:S→List (Nat×AV)} {sto:S→Store} {out:T→Ex×St→Prop} {t:T} {r:Ex×St}:stepP env sto nt rd out (.inr t) (some (.inr r))=out t r:=rfl
def doneP {S T:Type} (A:S→Prop) (B:T→Prop):S ⊕ T→Prop
  | .inl s=>A s
  | .inr t=>B t
theorem done_if {S T:Type} {A:S→Prop} {B:T→Prop} {c:Prop} [Decidable c] {s:S} {t:T} (h:doneP A B (if c then .inl s else .inr t)):if c then A s else B t:=by
  split at h<;>rename_i hc
  · rw [if_pos hc];exact h
  · rw [if_neg hc];exact h
theorem done_fi {S T:Type} {A:S→Prop} {B:T→Prop} {c:Prop} [Decidable c] {s:S} {t:T} (h:doneP A B (if c then .inr t else .inl s)):if c then B t else A s:=by
  split at h<;>rename_i hc
  · rw [if_pos hc];exact h
  · rw [if_neg hc];exact h
theorem loop_foldE {S T α:Type} {lv:List Nat} {b:K} {x:Nat} {as:List α} (env:Nat→S→List (Nat×AV)) (sto:S→Store) (f:Nat→S→α→S ⊕ T) (fin:S→St) (out:T→Ex×St→Prop) (ok:Nat→S→Prop)
    (hstep:∀ (i:Nat) (a:α) (s:S),as[i]? = some a→i<as.length→ok i s→(∀ s',f i s a=.inl s'→ok (i+1) s') ∧
      stepP (env (i+1)) sto nt rd out (f i s a) (headOf lv (sto s).length (exec P b ⟨tm (env i s),sto s,nt,rd⟩)))
    (hend:∀ s,ok as.length s→exec P b ⟨tm (env as.length s),sto s,nt,rd⟩=some (.exit x,fin s))
    (hkeep:∀ i s,(tm (env i s)).kept lv=env i s) (s0:S) (h0:ok 0 s0) :
    doneP (fun s=>loopAt P (.loop lv b) (env 0 s0) (sto s0) nt rd=some (.exit x,fin s)) (fun t=>∃ r,loopAt P (.loop lv b) (env 0 s0) (sto s0) nt rd=some r∧out t r) (foldE f 0 s0 as):=by
  have key:∀ (r:List α) (i:Nat) (s:S),as.drop i=r→i≤as.length→ok i s →
      doneP (fun s'=>loopAt P (.loop lv b) (env i s) (sto s) nt rd=some (.exit x,fin s')) (fun t=>∃ r,loopAt P (.loop lv b) (env i s) (sto s) nt rd=some r∧out t r) (foldE f i s r):=by
    intro r
    induction r with
    | nil=>
      intro i s hd hi hok
      have:i=as.length:=by have:=congrArg List.length hd;simp at this;omega
      subst this
      show loopAt P (.loop lv b) (env as.length s) (sto s) nt rd=some (.exit x,fin s)
      unfold loopAt
      rw [loop_go,hkeep,hend s hok]
      rfl
    | cons a r ih=>
      intro i s hd hi hok
      have hlt:i<as.length:=by
        have:=congrArg List.length hd
        simp at this
        omega
      have ha:as[i]? = some a:=by
        have:=congrArg (·[0]?) hd
        simpa using this
      have hr:as.drop (i+1)=r:=by
        have:=congrArg (List.drop 1) hd
        simpa using this
      obtain ⟨h1,h2⟩:=hstep i a s ha hlt hok
      unfold loopAt
      rw [loop_go,hkeep,back_head]
      unfold foldE
      revert h2
      generalize headOf lv (sto s).length (exec P b ⟨tm (env i s),sto s,nt,rd⟩)=h
      cases hf:f i s a with
      | inl s'=>
        intro h2
        match h,h2 with
        | some (.inl h),h2=>
          rw [step_l] at h2
          subst h2
          exact ih (i+1) s' hr (by omega) (h1 s' hf)
      | inr t=>
        intro h2
        match h,h2 with
        | some (.inr q),h2=>exact ⟨q,rfl,h2⟩
  exact key as 0 s0 rfl (Nat.zero_le _) h0
theorem back_exit {lv:List Nat} {b:K} {i:Nat}:back P lv b n (some (.exit i,st))=some (.exit i,st):=rfl
theorem back_ret {lv:List Nat} {b:K}:back P lv b n (some (.ret,st))=some (.ret,st):=rfl
theorem loop_to {S T α:Type} {lv:List Nat} {b:K} {as:List α} (env:Nat→S→List (Nat×AV)) (sto:S→Store) (f:Nat→S→α→S ⊕ T) (out:T→Ex×St→Prop) (ok:Nat→S→Prop)
    (hstep:∀ (i:Nat) (a:α) (s:S),as[i]? = some a→i<as.length→ok i s→(∀ s',f i s a=.inl s'→ok (i+1) s') ∧
      stepP (env (i+1)) sto nt rd out (f i s a) (headOf lv (sto s).length (exec P b ⟨tm (env i s),sto s,nt,rd⟩)))
    (hkeep:∀ i s,(tm (env i s)).kept lv=env i s) (s0:S) (h0:ok 0 s0) :
    doneP (fun s=>ok as.length s∧loopAt P (.loop lv b) (env 0 s0) (sto s0) nt rd=back P lv b (sto s).length (exec P b ⟨tm (env as.length s),sto s,nt,rd⟩)) (fun t=>∃ r,loopAt P (.loop lv b) (env 0 s0) (sto s0) nt rd=some r∧out t r) (foldE f 0 s0 as):=by
  have key:∀ (r:List α) (i:Nat) (s:S),as.drop i=r→i≤as.length→ok i s →
      doneP (fun s'=>ok as.length s'∧loopAt P (.loop lv b) (env i s) (sto s) nt rd=back P lv b (sto s').length (exec P b ⟨tm (env as.length s'),sto s',nt,rd⟩)) (fun t=>∃ r,loopAt P (.loop lv b) (env i s) (sto s) nt rd=some r∧out t r) (foldE f i s r):=by
    intro r
    induction r with
    | nil=>
      intro i s hd hi hok
      have:i=as.length:=by have:=congrArg List.length hd;simp at this;omega
      subst this
      refine ⟨hok,?_⟩
      unfold loopAt
      rw [loop_go,hkeep]
    | cons a r ih=>
      intro i s hd hi hok
      have hlt:i<as.length:=by
        have:=congrArg List.length hd
        simp at this
        omega
      have ha:as[i]? = some a:=by
        have:=congrArg (·[0]?) hd
        simpa using this
      have hr:as.drop (i+1)=r:=by
        have:=congrArg (List.drop 1) hd
        simpa using this
      obtain ⟨h1,h2⟩:=hstep i a s ha hlt hok
      unfold loopAt
      rw [loop_go,hkeep,back_head]
      unfold foldE
      revert h2
      generalize headOf lv (sto s).length (exec P b ⟨tm (env i s),sto s,nt,rd⟩)=h
      cases hf:f i s a with
      | inl s'=>
        intro h2
        match h,h2 with
        | some (.inl h),h2=>
          rw [step_l] at h2
          subst h2
          exact ih (i+1) s' hr (by omega) (h1 s' hf)
      | inr t=>
        intro h2
        match h,h2 with
        | some (.inr q),h2=>exact ⟨q,rfl,h2⟩
  exact key as 0 s0 rfl (Nat.zero_le _) h0
theorem loop_rel {α:Type} {lv:List Nat} {b:K} {as:List α} (I:Nat→List (Nat×AV)→Store→Prop)
    (hstep:∀ (i:Nat) (a:α) (e:List (Nat×AV)) (σ:Store),as[i]? = some a→i<as.length→I i e σ→∃ e' σ',headOf lv σ.length (exec P b ⟨tm e,σ,nt,rd⟩)=some (.inl (e',σ',nt,rd))∧I (i+1) e' σ')
    (hkeep:∀ i e σ,I i e σ→(tm e).kept lv=e) (e0:List (Nat×AV)) (σ0:Store) (h0:I 0 e0 σ0) :
    ∃ e σ,I as.length e σ∧loopAt P (.loop lv b) e0 σ0 nt rd=back P lv b σ.length (exec P b ⟨tm e,σ,nt,rd⟩):=by
  have key:∀ (r:List α) (i:Nat) (e:List (Nat×AV)) (σ:Store),as.drop i=r→i≤as.length→I i e σ →
      ∃ e' σ',I as.length e' σ'∧loopAt P (.loop lv b) e σ nt rd=back P lv b σ'.length (exec P b ⟨tm e',σ',nt,rd⟩):=by
    intro r
    induction r with
    | nil=>
      intro i e σ hd hi hI
      have:i=as.length:=by have:=congrArg List.length hd;simp at this;omega
      subst this
      refine ⟨e,σ,hI,?_⟩
      unfold loopAt
      rw [loop_go,hkeep _ _ _ hI]
    | cons a r ih=>
      intro i e σ hd hi hI
      have hlt:i<as.length:=by
        have:=congrArg List.length hd
        simp at this
        omega
      have ha:as[i]? = some a:=by
        have:=congrArg (·[0]?) hd
        simpa using this
      have hr:as.drop (i+1)=r:=by
        have:=congrArg (List.drop 1) hd
        simpa using this
      obtain ⟨e1,σ1,h1,h2⟩:=hstep i a e σ ha hlt hI
      obtain ⟨e2,σ2,k1,k2⟩:=ih (i+1) e1 σ1 hr (by omega) h2
      refine ⟨e2,σ2,k1,?_⟩
      unfold loopAt
      rw [loop_go,hkeep _ _ _ hI,back_head,h1]
      exact k2
  exact key as 0 e0 σ0 rfl (Nat.zero_le _) h0
theorem loop_run {S α:Type} {lv:List Nat} {b:K} {as:List α} (env:Nat→S→List (Nat×AV)) (sto:S→Store) (f:Nat→S→α→S) (ok:Nat→S→Prop)
    (hstep:∀ (i:Nat) (a:α) (s:S),as[i]? = some a→i<as.length→ok i s→ok (i+1) (f i s a)∧headOf lv (sto s).length (exec P b ⟨tm (env i s),sto s,nt,rd⟩)=some (.inl (env (i+1) (f i s a),sto (f i s a),nt,rd)))
    (hkeep:∀ i s,(tm (env i s)).kept lv=env i s) (s0:S) (h0:ok 0 s0) (r:S) (hr:foldE (T:=Empty) (fun i s a=>.inl (f i s a)) 0 s0 as=.inl r) :
    ok as.length r∧loopAt P (.loop lv b) (env 0 s0) (sto s0) nt rd=back P lv b (sto r).length (exec P b ⟨tm (env as.length r),sto r,nt,rd⟩):=by
  have h:=loop_to (P:=P) (nt:=nt) (rd:=rd) (T:=Empty) (as:=as) env sto (fun i s a=>.inl (f i s a)) (fun t=>nomatch t) ok (fun i a s h1 h2 h3=>⟨fun s' he=>by cases he;exact (hstep i a s h1 h2 h3).1,by rw [(hstep i a s h1 h2 h3).2];exact step_l ▸ rfl⟩) hkeep s0 h0
  rw [hr] at h
  exact h
theorem loop_fold {S α:Type} {lv:List Nat} {b:K} {x:Nat} {as:List α} (env:Nat→S→List (Nat×AV)) (sto:S→Store) (f:Nat→S→α→S) (fin:S→St) (ok:Nat→S→Prop)
    (hstep:∀ (i:Nat) (a:α) (s:S),as[i]? = some a→i<as.length→ok i s→ok (i+1) (f i s a)∧headOf lv (sto s).length (exec P b ⟨tm (env i s),sto s,nt,rd⟩)=some (.inl (env (i+1) (f i s a),sto (f i s a),nt,rd)))
    (hend:∀ s,ok as.length s→exec P b ⟨tm (env as.length s),sto s,nt,rd⟩=some (.exit x,fin s))
    (hkeep:∀ i s,(tm (env i s)).kept lv=env i s) (s0:S) (h0:ok 0 s0) (r:S) (hr:foldE (T:=Empty) (fun i s a=>.inl (f i s a)) 0 s0 as=.inl r) :
    loopAt P (.loop lv b) (env 0 s0) (sto s0) nt rd=some (.exit x,fin r):=by
  have h:=loop_foldE (P:=P) (nt:=nt) (rd:=rd) (T:=Empty) (x:=x) env sto (fun i s a=>.inl (f i s a)) fin (fun t=>nomatch t) ok (fun i a s h1 h2 h3=>⟨fun s' he=>by cases he;exact (hstep i a s h1 h2 h3).1,by rw [(hstep i a s h1 h2 h3).2];rfl⟩) hend hkeep s0 h0
  rw [hr] at h
  exact h
abbrev Qp (P:Prog) (f:FuncId):Prop:=∀ {args:List AV} {σ:Store},callF P f args σ=pcall P f args σ (omap (purify σ depth) args)
abbrev Qi (P:Prog) (f:FuncId) (F:AFn):Prop:=∀ {args:List AV} {σ:Store},callF P f args σ=call P F args σ
abbrev Rp (P:Prog) (f:FuncId) (n:Nat) (rs:List RV) (F:AFn):Prop:=∀ {ps:List PV},ps.length≤n→R P f ps=retR rs (exec P F.body ⟨enterTm (ps.map .p),[],n,none⟩)
abbrev Kp (P:Prog) (L:K) (lv:List Nat):Prop:=∀ {τ:Tm} {σ:Store} {nt:Nat} {rd:Option Nat},exec P L ⟨τ,σ,nt,rd⟩=loopAt P L (τ.kept lv) σ nt rd
variable {P:Prog} {τ:Tm} {σ:Store} {k:IntKind} {a b:Int}
theorem v_add:arithV .add (.p (.int k a)) (.p (.int k b))=some (.p (.int k (k.wrap (a+b)))):=by simp [arithV,binop,intOp]
theorem v_sub:arithV .sub (.p (.int k a)) (.p (.int k b))=some (.p (.int k (k.wrap (a-b)))):=by simp [arithV,binop,intOp]
theorem v_mul:arithV .mul (.p (.int k a)) (.p (.int k b))=some (.p (.int k (k.wrap (a*b)))):=by simp [arithV,binop,intOp]
theorem v_eql:arithV .eql (.p (.int k a)) (.p (.int k b))=some (.p (.bool (decide (a=b)))):=by simp [arithV,binop,intOp];rw [Bool.eq_iff_iff];simp
theorem v_neq:arithV .neq (.p (.int k a)) (.p (.int k b))=some (.p (.bool (decide (¬ a=b)))):=by simp [arithV,binop,intOp];rw [Bool.eq_iff_iff];simp
theorem v_lss:arithV .lss (.p (.int k a)) (.p (.int k b))=some (.p (.bool (decide (a<b)))):=by simp [arithV,binop,intOp]
theorem v_leq:arithV .leq (.p (.int k a)) (.p (.int k b))=some (.p (.bool (decide (a≤b)))):=by simp [arithV,binop,intOp]
theorem v_gtr:arithV .gtr (.p (.int k a)) (.p (.int k b))=some (.p (.bool (decide (b<a)))):=by simp [arithV,binop,intOp]
theorem v_geq:arithV .geq (.p (.int k a)) (.p (.int k b))=some (.p (.bool (decide (b≤a)))):=by simp [arithV,binop,intOp]
theorem v_shl {k':IntKind} (h:0≤b):arithV .shl (.p (.int k a)) (.p (.int k' b))=some (.p (.int k (k.wrap (a*2^(min b.toNat k.bits))))):=by
  simp [arithV,binop,shiftOp,show ¬ b<0 by omega]
theorem v_shr {k':IntKind} (h:0≤b):arithV .shr (.p (.int k a)) (.p (.int k' b))=some (.p (.int k (a.fdiv (2^(min b.toNat k.bits))))):=by
  simp [arithV,binop,shiftOp,show ¬ b<0 by omega]
theorem bytes_ext {x y:ByteArray}:x.toList=y.toList↔x=y:=by
  rw [ByteArray.toList_eq,ByteArray.toList_eq]
  constructor
  · intro h
    cases x;cases y
    simp only [ByteArray.mk.injEq]
    exact Array.toList_inj.1 h
  · rintro rfl;rfl
theorem v_seql {x y:ByteArray}:arithV .eql (.p (.str x)) (.p (.str y))=some (.p (.bool (decide (x=y)))):=by
  simp only [arithV,binop,strOp,Option.map_some]
  congr 3
  rw [Bool.eq_iff_iff]
  simp [bytes_ext]
theorem v_sneq {x y:ByteArray}:arithV .neq (.p (.str x)) (.p (.str y))=some (.p (.bool (decide (¬ x=y)))):=by
  simp only [arithV,binop,strOp,Option.map_some]
  congr 3
  rw [Bool.eq_iff_iff]
  simp [bytes_ext]
def slt (x y:ByteArray):Bool:=Op.bytesLess x.toList y.toList
theorem v_slss {x y:ByteArray}:arithV .lss (.p (.str x)) (.p (.str y))=some (.p (.bool (slt x y))):=rfl
theorem v_not {c:Bool}:notV (.p (.bool c))=some (.p (.bool !c)):=rfl
theorem v_eqB {c d:Bool}:eqBV false (.p (.bool c)) (.p (.bool d))=some (.p (.bool (c == d))):=rfl
theorem v_neB {c d:Bool}:eqBV true (.p (.bool c)) (.p (.bool d))=some (.p (.bool !(c == d))):=rfl
theorem v_neg {n:Int}:negV (.p (.int k n))=some (.p (.int k (k.wrap (0-n)))):=rfl
theorem v_conv {k':IntKind} {n:Int}:convV k (.p (.int k' n))=some (.p (.int k (k.wrap n))):=rfl
theorem v_convS {s:ByteArray}:convSV (.p (.str s))=some (.p (.str s)):=rfl
theorem v_lenT {s:ByteArray}:lenTV (.p (.str s))=some (.p (.int .i64 s.size)):=rfl
theorem v_lenS {rows:List (List PV)}:lenSV σ (.p (.lst rows))=some (.p (.int .i64 rows.length)):=rfl
theorem v_lenS0:lenSV σ .nils=some (.p (.int .i64 0)):=rfl
theorem v_pick {x y:AV} {c:Bool}:pickV (.p (.bool c)) x y=some (if c=true then x else y):=by cases c<;>rfl
theorem v_max {x y:Int}:minmaxV true [.p (.int k x),.p (.int k y)]=some (.p (.int k (max x y))):=rfl
theorem v_min {x y:Int}:minmaxV false [.p (.int k x),.p (.int k y)]=some (.p (.int k (min x y))):=rfl
theorem mvE_p {v:PV}:mvE σ (.p v)=some (.p v,σ):=rfl
theorem mvE_sl {b n:Nat}:mvE σ (.sl b n)=some (.sl b n,σ):=rfl
theorem mvE_nils:mvE σ .nils=some (.sl σ.length 0,σ++[.pv 0 [] false]):=rfl
theorem v_quiet {v:AV}:quietR σ (some v)=some (v,σ):=rfl
theorem v_extract {vs:List PV} {i:Nat}:extractV (.p (.tup vs)) i=vs[i]?.map .p:=rfl
theorem w_succ {i:Nat} (h:i<4611686018427387904):IntKind.i64.wrap ((i:Int)+1)=((i+1:Nat):Int):=by rw [IntWalk.i64_in _ (by omega)];rfl
theorem w_succ' {i n:Nat} (h:i<n) (h':n≤9223372036854775807):IntKind.i64.wrap ((i:Int)+1)=((i+1:Nat):Int):=by rw [IntWalk.i64_in _ (by omega)];rfl
theorem w_id {n:Int} (h : -9223372036854775808≤n∧n≤9223372036854775807):IntKind.i64.wrap n=n:=IntWalk.i64_in n h
theorem v_fadr {row:List PV} {o off:Nat}:fadrV off (.p (.ptr row o))=some (.p (.ptr row (o+off))):=rfl
theorem v_fadrA {b n i o off:Nat}:fadrV off (.ptr b n i o)=some (.ptr b n i (o+off)):=rfl
theorem v_iadr {rows:List (List PV)} {es:Nat} {i:Nat} {r:List PV} (h:rows[i]? = some r) (h2:r.length=es):iadrSV σ es (.p (.lst rows)) (.p (.int k i))=some (.p (.ptr r 0)):=by
  simp [iadrSV,natOf,h,h2]
theorem v_ia0 {rows:List (List PV)} {r:List PV} {es:Nat} (h:rows[0]? = some r) (h2:r.length=es):iadrSV σ es (.p (.lst rows)) (.p (.int k 0))=some (.p (.ptr r 0)):=by simp [iadrSV,natOf,h,h2]
theorem v_ia1 {rows:List (List PV)} {r:List PV} {es:Nat} (h:rows[1]? = some r) (h2:r.length=es):iadrSV σ es (.p (.lst rows)) (.p (.int k 1))=some (.p (.ptr r 0)):=by simp [iadrSV,natOf,h,h2]
theorem v_ia2 {rows:List (List PV)} {r:List PV} {es:Nat} (h:rows[2]? = some r) (h2:r.length=es):iadrSV σ es (.p (.lst rows)) (.p (.int k 2))=some (.p (.ptr r 0)):=by simp [iadrSV,natOf,h,h2]
theorem bs1 {a:Int} {z:PV}:bsliceV σ 1 1 (fillP (List.replicate 1 [.p z]).flatten [(0,1,.p (.int k a))])=some (.sl σ.length 1,σ++[.pv 1 [[.int k a]] false]):=rfl
theorem bs2 {a b:Int} {z:PV}:bsliceV σ 1 2 (fillP (List.replicate 2 [.p z]).flatten [(0,1,.p (.int k a)),(1,1,.p (.int k b))])=some (.sl σ.length 2,σ++[.pv 1 [[.int k a],[.int k b]] false]):=rfl
theorem bs3 {a b c:Int} {z:PV}:bsliceV σ 1 3 (fillP (List.replicate 3 [.p z]).flatten [(0,1,.p (.int k a)),(1,1,.p (.int k b)),(2,1,.p (.int k c))])=some (.sl σ.length 3,σ++[.pv 1 [[.int k a],[.int k b],[.int k c]] false]):=rfl
theorem bs4 {a b c d:Int} {z:PV}:bsliceV σ 1 4 (fillP (List.replicate 4 [.p z]).flatten [(0,1,.p (.int k a)),(1,1,.p (.int k b)),(2,1,.p (.int k c)),(3,1,.p (.int k d))])=some (.sl σ.length 4,σ++[.pv 1 [[.int k a],[.int k b],[.int k c],[.int k d]] false]):=rfl
theorem bs6 {a b c d e f:Int} {z:PV}:bsliceV σ 1 6 (fillP (List.replicate 6 [.p z]).flatten [(0,1,.p (.int k a)),(1,1,.p (.int k b)),(2,1,.p (.int k c)),(3,1,.p (.int k d)),(4,1,.p (.int k e)),(5,1,.p (.int k f))]) =
    some (.sl σ.length 6,σ++[.pv 1 [[.int k a],[.int k b],[.int k c],[.int k d],[.int k e],[.int k f]] false]):=rfl
theorem purify_zero {j n es:Nat} {rows:List (List PV)} {fr:Bool} {r:Store}:purify (.pv es rows fr :: r) (j+1) (.sl 0 n)=if rows.length=n then some (.lst rows) else none:=by simp [purify]
theorem bs0 {es:Nat} {z:List AV}:bsliceV σ es 0 (fillP (List.replicate 0 z).flatten [])=some (.sl σ.length 0,σ++[.pv es [] false]):=rfl
theorem purify_nils {j:Nat}:purify σ (j+1) .nils=some (.lst []):=rfl
theorem flat_int {n:Int}:PV.flat (.int k n)=true:=by simp [PV.flat]
theorem flat_bool {c:Bool}:PV.flat (.bool c)=true:=by simp [PV.flat]
theorem flat_str {s:ByteArray}:PV.flat (.str s)=true:=by simp [PV.flat]
theorem allP_map:∀ (l:List PV),allP (l.map .p)=some l
  | []=>rfl
  | a :: l=>by simp [allP,allP_map l]
theorem v_agg {row:List PV} {n:Nat} (h:row.length=n):cellsOf n true (.p (.agg row))=some (row.map .p):=by simp [cellsOf,h]
theorem v_init {row:List PV} {n:Nat}:initV σ n true (some (row.map .p))=some (.p (.ptr row 0),σ):=by simp [initV,allP_map]
theorem v_init1 {v:PV} {n:Nat}:initV σ n true (some [.p v])=some (.p (.ptr [v] 0),σ):=by simp [initV,allP]
theorem v_loadrow {row:List PV} {n:Nat} (h:row.length=n):loadV σ n true (.p (.ptr row 0))=some (.p (.agg row)):=by
  simp [loadV,part,ofCellsP,← h]
theorem v_load1 {row:List PV} {o:Nat} {c:PV} (h:row[o]? = some c):loadV σ 1 false (.p (.ptr row o))=some (.p c):=by
  obtain ⟨ho,he⟩:=List.getElem?_eq_some_iff.1 h
  have:(row.drop o).take 1=[c]:=by
    rw [List.drop_eq_getElem_cons ho,he];rfl
  simp only [loadV,part,show o+1≤row.length from ho,if_true,this]
  rfl
theorem v_ld {row:List PV} {o:Nat}:loadV σ 1 false (.p (.ptr row o))=row[o]?.map .p:=by
  cases h:row[o]? with
  | some c=>exact v_load1 h
  | none=>
    have:=List.getElem?_eq_none_iff.1 h
    simp [loadV,part,show ¬ o+1≤row.length by omega]
theorem v_ld2 {a b:PV}:loadV σ 2 true (.p (.ptr [a,b] 0))=some (.p (.agg [a,b])):=rfl
theorem v_cells1 {v:Int}:cellsOf 1 false (.p (.int k v))=some [.p (.int k v)]:=rfl
theorem v_cells1s {v:ByteArray}:cellsOf 1 false (.p (.str v))=some [.p (.str v)]:=rfl
theorem v_cells1l {v:List (List PV)}:cellsOf 1 false (.p (.lst v))=some [.p (.lst v)]:=rfl
theorem v_cells2 {a b:PV}:cellsOf 2 true (.p (.agg [a,b]))=some [.p a,.p b]:=rfl
inductive Term where
  | mk (op w v:Int) (name:ByteArray) (args:List Term)
  deriving Inhabited
namespace Term
def op:Term→Int | .mk o _ _ _ _=>o
def w:Term→Int | .mk _ o _ _ _=>o
def v:Term→Int | .mk _ _ o _ _=>o
def name:Term→ByteArray | .mk _ _ _ o _=>o
def args:Term→List Term | .mk _ _ _ _ o=>o
mutual
def row:Term→List PV
  | .mk o w v s as=>[.int .i64 o,.int .i64 w,.int .u64 v,.str s,.lst (rows as)]
def rows:List Term→List (List PV)
  | []=>[]
  | t :: r=>row t :: rows r
end
theorem size_args {t a:Term} (ha:a∈t.args):SizeOf.sizeOf a<SizeOf.sizeOf t:=by
  cases t with
  | mk o w v s as=>
    have h1:SizeOf.sizeOf a<SizeOf.sizeOf as:=List.sizeOf_lt_of_mem ha
    have h2:SizeOf.sizeOf (Term.mk o w v s as)=1+SizeOf.sizeOf o+SizeOf.sizeOf w+SizeOf.sizeOf v+SizeOf.sizeOf s+SizeOf.sizeOf as:=by simp
    omega
theorem ind {p:Term→Prop} (h:∀ t,(∀ a∈t.args,p a)→p t) (t:Term):p t:=by
  have key:∀ n,∀ t:Term,SizeOf.sizeOf t<n→p t:=by
    intro n
    induction n with
    | zero=>intro t ht;omega
    | succ n ih=>intro t ht;exact h t fun a ha=>ih a (by have:=size_args ha;omega)
  exact key _ t (Nat.lt_succ_self _)
theorem rows_eq:∀ l:List Term,rows l=l.map row
  | []=>rfl
  | t :: r=>by simp [rows,rows_eq r]
theorem row_eq (t:Term):t.row=[.int .i64 t.op,.int .i64 t.w,.int .u64 t.v,.str t.name,.lst (t.args.map row)]:=by
  cases t;simp [row,op,w,v,name,args,rows_eq]
theorem row_len (t:Term):t.row.length=5:=by rw [row_eq];rfl
theorem row0 (t:Term):t.row[0]? = some (.int .i64 t.op):=by rw [row_eq];rfl
theorem row1 (t:Term):t.row[1]? = some (.int .i64 t.w):=by rw [row_eq];rfl
theorem row2 (t:Term):t.row[2]? = some (.int .u64 t.v):=by rw [row_eq];rfl
theorem row3 (t:Term):t.row[3]? = some (.str t.name):=by rw [row_eq];rfl
theorem row4 (t:Term):t.row[4]? = some (.lst (t.args.map row)):=by rw [row_eq];rfl
end Term
theorem t_load {t:Term}:loadV σ 5 true (.p (.ptr t.row 0))=some (.p (.agg t.row)):=v_loadrow t.row_len
theorem t_cells {t:Term}:cellsOf 5 true (.p (.agg t.row))=some (t.row.map .p):=v_agg t.row_len
theorem t_bs {t:Term} {z0 z1 z2 z3 z4:AV}:bsliceV σ 5 1 (fillP (List.replicate 1 [z0,z1,z2,z3,z4]).flatten [(0,5,.p (.agg t.row))])=some (.sl σ.length 1,σ++[.pv 5 [t.row] false]):=by
  rw [Term.row_eq];rfl
theorem wide_rows (l:List Term):wide 5 (l.map Term.row)=true:=by
  simp [wide,Term.row_len]
variable {P:Prog} {τ:Tm} {σ σ':Store} {nt n l:Nat} {rd:Option Nat}
def rounds (P:Prog) (l:Nat):List (List AV)→Store→Option (Bool×Store)
  | [],σ=>some (true,σ)
  | a :: r,σ=>match round P l a σ with
    | some (.p (.bool true),σ')=>if σ'.length=σ.length then rounds P l r σ' else none
    | some (.p (.bool false),σ')=>if σ'.length=σ.length then some (false,σ') else none
    | _=>none
def roundsThen (P:Prog) (l:Nat) (r:List (List AV)):Option (Bool×Store)→Option (Bool×Store)
  | some (true,σ)=>rounds P l r σ
  | some (false,σ)=>some (false,σ)
  | none=>none
theorem rounds_append:∀ (x y:List (List AV)) (σ:Store),rounds P l (x++y) σ=roundsThen P l y (rounds P l x σ)
  | [],y,σ=>rfl
  | a :: x,y,σ=>by
    simp only [List.cons_append,rounds]
    split
    · rename_i σ' h
      split
      · exact rounds_append x y σ'
      · rfl
    · rename_i σ' h
      split<;>rfl
    · rfl
theorem rounds_len:∀ (x:List (List AV)) (σ σ':Store) (b:Bool),rounds P l x σ=some (b,σ')→σ'.length=σ.length
  | [],σ,σ',b,h=>by simp only [rounds,Option.some.injEq,Prod.mk.injEq] at h;rw [← h.2]
  | a :: x,σ,σ',b,h=>by
    simp only [rounds] at h
    split at h
    · rename_i σ1 h1
      split at h
      · rename_i hl
        rw [rounds_len x σ1 σ' b h,hl]
      · cases h
    · rename_i σ1 h1
      split at h
      · rename_i hl
        simp only [Option.some.injEq,Prod.mk.injEq] at h
        rw [← h.2,hl]
      · cases h
    · cases h
def loopBody (P:Prog) (l:Nat) (b:K) (st:St):Option Obj→Option (Ex×St)
  | some (.loop τ1 nt1 ps1 asg1 b1 none)=>exec P b { st with σ:=st.σ.set l (.loop τ1 nt1 ps1 asg1 b1 (some .normal)) }
  | _=>none
def rndA (P:Prog) (l:Nat) (b:K):Option (Ex×St)→Option (Ex×St)
  | some (.normal,st)=>loopBody P l b st st.σ[l]?
  | _=>none
def rndC (l n:Nat) (e:Ex) (st:St):Option Obj→Option (AV×Store)
  | some (.loop τ2 nt2 ps2 asg2 b2 (some .normal))=>some (.p (.bool (e matches .normal)),gc n [] (st.σ.set l (.loop τ2 nt2 ps2 asg2 b2 (match e with | .normal=>none | e=>some e))))
  | _=>none
def rndB (l n:Nat):Option (Ex×St)→Option (AV×Store)
  | some (e,st)=>rndC l n e st st.σ[l]?
  | none=>none
theorem rounds_cons {a:List AV} {r:List (List AV)} {b:Bool} (h:rounds P l (a :: r) σ=some (b,σ')) :
    ∃ c σ1,round P l a σ=some (.p (.bool c),σ1)∧σ1.length=σ.length∧(c=true→rounds P l r σ1=some (b,σ'))∧(c=false→b=false∧σ'=σ1):=by
  simp only [rounds] at h
  split at h
  · rename_i σ1 h1
    split at h
    · rename_i hl
      exact ⟨true,σ1,h1,hl,fun _=>h,by simp⟩
    · cases h
  · rename_i σ1 h1
    split at h
    · rename_i hl
      simp only [Option.some.injEq,Prod.mk.injEq] at h
      exact ⟨false,σ1,h1,hl,by simp,fun _=>⟨h.1.symm,h.2.symm⟩⟩
    · cases h
  · cases h
theorem round_go {τk:List (Nat×AV)} {ps:List Nat} {asg b:K} {args:List AV} (ho:σ[l]? = some (.loop τk nt ps asg b none)) (hc:ps.length=args.length∧nodup ps=true∧ps.all (· < nt)=true) :
    round P l args σ=rndB l σ.length (rndA P l b (exec P asg ⟨tm (ps.zip args++τk),σ,nt,some l⟩)):=by
  rw [round.eq_def]
  simp only [ho,hc,and_self,if_true,Option.bind_eq_bind]
  cases exec P asg ⟨tm (ps.zip args++τk),σ,nt,some l⟩ with
  | none=>rfl
  | some r=>
    obtain ⟨e,st⟩:=r
    cases e with
    | exit i=>rfl
    | ret=>rfl
    | normal=>
      simp only [Option.bind_some,rndA]
      cases st.σ[l]? with
      | none=>rfl
      | some o=>
        cases o with
        | loop τ1 nt1 ps1 asg1 b1 s1=>
          cases s1 with
          | none=>
            simp only [loopBody]
            cases exec P b { st with σ:=st.σ.set l (.loop τ1 nt1 ps1 asg1 b1 (some .normal)) } with
            | none=>rfl
            | some q=>rfl
          | some e=>rfl
        | _=>rfl
theorem rndA_n {b:K}:rndA P l b (some (.normal,⟨τ,σ,nt,rd⟩))=loopBody P l b ⟨τ,σ,nt,rd⟩ σ[l]? := rfl
theorem body_go {b b1 asg1:K} {τ1:List (Nat×AV)} {nt1:Nat} {ps1:List Nat}:loopBody P l b ⟨τ,σ,nt,rd⟩ (some (.loop τ1 nt1 ps1 asg1 b1 none))=exec P b ⟨τ,σ.set l (.loop τ1 nt1 ps1 asg1 b1 (some .normal)),nt,rd⟩:=rfl
theorem rndB_s {e:Ex}:rndB l n (some (e,⟨τ,σ,nt,rd⟩))=rndC l n e ⟨τ,σ,nt,rd⟩ σ[l]? := rfl
theorem rndC_n {b2 asg2:K} {τ2:List (Nat×AV)} {nt2:Nat} {ps2:List Nat}:rndC l n .normal ⟨τ,σ,nt,rd⟩ (some (.loop τ2 nt2 ps2 asg2 b2 (some .normal)))=some (.p (.bool true),gc n [] (σ.set l (.loop τ2 nt2 ps2 asg2 b2 none))):=rfl
theorem rndC_r {b2 asg2:K} {τ2:List (Nat×AV)} {nt2:Nat} {ps2:List Nat}:rndC l n .ret ⟨τ,σ,nt,rd⟩ (some (.loop τ2 nt2 ps2 asg2 b2 (some .normal)))=some (.p (.bool false),gc n [] (σ.set l (.loop τ2 nt2 ps2 asg2 b2 (some .ret)))):=rfl
theorem rndC_e {i:Nat} {b2 asg2:K} {τ2:List (Nat×AV)} {nt2:Nat} {ps2:List Nat}:rndC l n (.exit i) ⟨τ,σ,nt,rd⟩ (some (.loop τ2 nt2 ps2 asg2 b2 (some .normal)))=some (.p (.bool false),gc n [] (σ.set l (.loop τ2 nt2 ps2 asg2 b2 (some (.exit i))))):=rfl
theorem rounds_fold {S T α:Type} {τk:List (Nat×AV)} {ps:List Nat} {asg b:K} (arg:α→List AV) (sto:S→Store) (f:Nat→S→α→S ⊕ T) (out:T→Ex×Store) (ok:Nat→S→Prop)
    (hlen:∀ s,(sto s).length=n) (hout:∀ t,(out t).2.length=n) (as:List α)
    (hstep:∀ (i:Nat) (a:α) (s:S),as[i]? = some a→ok i s→(∀ s',f i s a=.inl s'→ok (i+1) s') ∧
      round P n (arg a) (sto s++[.loop τk nt ps asg b none])=(match f i s a with
        | .inl s'=>some (.p (.bool true),sto s'++[.loop τk nt ps asg b none])
        | .inr t=>some (.p (.bool false),(out t).2++[.loop τk nt ps asg b (some (out t).1)]))) :
    ∀ (r:List α) (i:Nat) (s:S),as.drop i=r→ok i s→rounds P n (r.map arg) (sto s++[.loop τk nt ps asg b none])=(match foldE f i s r with
        | .inl s'=>some (true,sto s'++[.loop τk nt ps asg b none])
        | .inr t=>some (false,(out t).2++[.loop τk nt ps asg b (some (out t).1)])):=by
  intro r
  induction r with
  | nil=>intro i s _ _;rfl
  | cons a r ih=>
    intro i s hd hok
    have ha:as[i]? = some a:=by
      have:=congrArg (·[0]?) hd
      simpa using this
    have hr:as.drop (i+1)=r:=by
      have:=congrArg (List.drop 1) hd
      simpa using this
    obtain ⟨h1,h2⟩:=hstep i a s ha hok
    simp only [List.map_cons,rounds,foldE]
    rw [h2]
    cases hf:f i s a with
    | inl s'=>
      simp only
      rw [if_pos (by simp [hlen]),ih (i+1) s' hr (h1 s' hf)]
    | inr t=>
      simp only
      rw [if_pos (by simp [hlen,hout])]
def rangeR (P:Prog) (ps:List Nat) (asg b:K) (gv:AV) (kept:List (Nat×AV)) (σ:Store) (nt:Nat) (rd:Option Nat):Option (Ex×Store) :=
  (fnOf gv).bind fun x=>(P.fn x.1).bind fun fn=>
    if aroundOk rd σ && (nodup ps && ps.all (· < nt)) then (call P fn (.yield σ.length :: x.2) (σ++[.loop kept nt ps asg b none])).bind fun y=>
      match y.2[σ.length]? with
      | some (.loop _ _ _ _ _ none)=>some (.normal,gc σ.length [] (y.2.set σ.length .gone))
      | some (.loop _ _ _ _ _ (some .normal))=>none
      | some (.loop _ _ _ _ _ (some e))=>some (e,gc σ.length [] (y.2.set σ.length .gone))
      | _=>none
    else none
def rangeK (τ:Tm) (nt:Nat) (rd:Option Nat):Option (Ex×Store)→Option (Ex×St)
  | some (e,σ)=>some (e,⟨τ,σ,nt,rd⟩)
  | none=>none
theorem range_go {g:O} {lv ps:List Nat} {asg b:K}:exec P (.range g ps lv asg b) ⟨τ,σ,nt,rd⟩=rangeK τ nt rd (rangeR P ps asg b (g.val τ) (τ.kept lv) σ nt rd):=by
  rw [exec.eq_def]
  simp only [rangeR,Option.bind_eq_bind]
  cases fnOf (g.val τ) with
  | none=>rfl
  | some x=>
    obtain ⟨f,cap⟩:=x
    simp only [Option.bind_some]
    cases P.fn f with
    | none=>rfl
    | some fn=>
      simp only [Option.bind_some]
      split
      · cases call P fn (.yield σ.length :: cap) (σ++[.loop (τ.kept lv) nt ps asg b none]) with
        | none=>rfl
        | some y=>
          simp only [Option.bind_some]
          cases y.2[σ.length]? with
          | none=>rfl
          | some o=>
            cases o with
            | loop τ1 nt1 ps1 asg1 b1 s1=>
              cases s1 with
              | none=>rfl
              | some e=>cases e<;>rfl
            | _=>rfl
      · rfl
theorem rangeK_some {e:Ex}:rangeK τ nt rd (some (e,σ))=some (e,⟨τ,σ,nt,rd⟩):=rfl
theorem al1 {es:Nat} {v:PV}:allocV es (eagers [.p v] σ)=some (.ptr σ.length 1 0 0,σ++[.pv es [[v]] false]):=rfl
theorem st_b {es:Nat} {c:PV} {v:Bool} {r:Store}:storeV (.pv es [[c]] false :: r) 1 (.ptr 0 1 0 0) (.p (.bool v))=some (.pv es [[.bool v]] false :: r):=rfl
theorem st_i {es:Nat} {c:PV} {k:IntKind} {v:Int} {r:Store}:storeV (.pv es [[c]] false :: r) 1 (.ptr 0 1 0 0) (.p (.int k v))=some (.pv es [[.int k v]] false :: r):=rfl
theorem any_some:anyR (some σ)=some (.any,σ):=rfl
theorem ld_b1 {es:Nat} {v:PV} {r:Store}:loadV (.pv es [[v]] false :: r) 1 false (.ptr 0 1 0 0)=some (.p v):=rfl
theorem ld_av2 {a b:Obj} {v:AV} {es:Nat} {fr:Bool} {r:Store}:loadV (a :: b :: .av es [[v]] fr :: r) 1 false (.ptr 2 1 0 0)=some v:=rfl
theorem gc_45 {vs:List AV} {a b c d e:Obj}:gc 4 vs [a,b,c,d,e]=if gcOk 4 vs [a,b,c,d,e]=true then [a,b,c,d] else [a,b,c,d,e]:=by unfold gc;rw [if_neg (by simp)];rfl
theorem gc_44 {vs:List AV} {a b c d:Obj}:gc 4 vs [a,b,c,d]=[a,b,c,d]:=gc_same' (by simp)
theorem gc_34 {vs:List AV} {a b c d:Obj}:gc 3 vs [a,b,c,d]=if gcOk 3 vs [a,b,c,d]=true then [a,b,c] else [a,b,c,d]:=by unfold gc;rw [if_neg (by simp)];rfl
theorem gc_33 {vs:List AV} {a b c:Obj}:gc 3 vs [a,b,c]=[a,b,c]:=gc_same' (by simp)
theorem obj_belowL {τ:List (Nat×AV)} {nt:Nat} {ps:List Nat} {asg b:K} {s:Option Ex}:Obj.below n (.loop τ nt ps asg b s)=τ.all fun x=>AE.below n x.2:=rfl
theorem init_map {b:Nat}:initV σ 1 true (some [.map b])=some (.ptr σ.length 1 0 0,σ++[.av 1 [[.map b]] false]):=rfl
theorem cells_map {b:Nat}:cellsOf 1 false (.map b)=some [.map b]:=rfl
theorem look_none {a:Obj} {es:List (PV×AV)} {r:Store} {kl:Leaf} {k:PV} {z:AV} (hl:isLeaf kl k=true) (h:findKey kl k es=some none):lookupV (a :: .map es false :: r) kl z (.map 1) (.p k) true=some (mkTup [z,.p (.bool false)]):=by
  simp only [lookupV,lookV,List.getElem?_cons_succ,List.getElem?_cons_zero,hl,if_true,h,Option.bind_some];rfl
theorem look_some {a:Obj} {es:List (PV×AV)} {r:Store} {kl:Leaf} {k:PV} {z v:AV} (hl:isLeaf kl k=true) (h:findKey kl k es=some (some v)):lookupV (a :: .map es false :: r) kl z (.map 1) (.p k) true=some (mkTup [v,.p (.bool true)]):=by
  simp only [lookupV,lookV,List.getElem?_cons_succ,List.getElem?_cons_zero,hl,if_true,h,Option.bind_some];rfl
theorem v_extractA {vs:List AV} {i:Nat}:extractV (.tup vs) i=vs[i]? := rfl
theorem z_cells {a b c d e:AV}:cellsOf 5 true (.agg [a,b,c,d,e])=some [a,b,c,d,e]:=rfl
theorem z_init {a b c d:PV} {es:Nat}:initV σ es true (some [.p a,.p b,.p c,.p d,.nils])=some (.ptr σ.length 1 0 0,σ++[.av es [[.p a,.p b,.p c,.p d,.nils]] false]):=rfl
theorem bs1s {a:ByteArray} {z:PV}:bsliceV σ 1 1 (fillP (List.replicate 1 [.p z]).flatten [(0,1,.p (.str a))])=some (.sl σ.length 1,σ++[.pv 1 [[.str a]] false]):=rfl
theorem purify_tup {j:Nat} {cs:List AV}:purify σ (j+1) (.tup cs)=(omap (purify σ j) cs).map .tup:=rfl
def rangeEnd {S T:Type} (sto:S→Store) (out:T→Ex×Store):S ⊕ T→Ex×Store
  | .inl s=>(.normal,sto s)
  | .inr t=>out t
theorem range_fold {S T α:Type} {gv:AV} {kept:List (Nat×AV)} {ps:List Nat} {asg b:K} {f0:FuncId} {fn:AFn} {cap:List AV} (hfn:fnOf gv=some (f0,cap)) (hF:P.fn f0=some fn) (hps:nodup ps=true∧ps.all (· < nt)=true)
    (arg:α→List AV) (sto:S→Store) (f:Nat→S→α→S ⊕ T) (out:T→Ex×Store) (ok:Nat→S→Prop) (as:List α) (s0:S) (hrd:aroundOk rd (sto s0)=true)
    (iter:∀ (σ σ':Store) (bb:Bool),rounds P (sto s0).length (as.map arg) σ=some (bb,σ')→∃ v,call P fn (.yield (sto s0).length :: cap) σ=some (v,σ'))
    (hlen:∀ s,(sto s).length=(sto s0).length) (hout:∀ t,(out t).2.length=(sto s0).length)
    (hbel:∀ s,(sto s).all (Obj.below (sto s0).length)=true) (hbelo:∀ t,(out t).2.all (Obj.below (sto s0).length)=true) (hnn:∀ t,(out t).1≠.normal)
    (hstep:∀ (i:Nat) (a:α) (s:S),as[i]? = some a→ok i s→(∀ s',f i s a=.inl s'→ok (i+1) s') ∧
      round P (sto s0).length (arg a) (sto s++[.loop kept nt ps asg b none])=(match f i s a with
        | .inl s'=>some (.p (.bool true),sto s'++[.loop kept nt ps asg b none])
        | .inr t=>some (.p (.bool false),(out t).2++[.loop kept nt ps asg b (some (out t).1)])))
    (h0:ok 0 s0):rangeR P ps asg b gv kept (sto s0) nt rd=some (rangeEnd sto out (foldE f 0 s0 as)):=by
  have hr:=rounds_fold (P:=P) (n:=(sto s0).length) arg sto f out ok hlen hout as hstep as 0 s0 rfl h0
  have gcs:∀ x:Store,x.length=(sto s0).length→x.all (Obj.below (sto s0).length)=true→gc (sto s0).length [] (x++[.gone])=x:=by
    intro x hx hb
    unfold gc
    rw [if_neg (by simp [hx])]
    have ht:(x++[Obj.gone]).take (sto s0).length=x:=by rw [← hx];simp
    rw [if_pos (by simp only [gcOk,ht,List.all_nil,hb,Bool.and_self]),ht]
  have seta:∀ (x:Store) (o o':Obj),x.length=(sto s0).length→(x++[o]).set (sto s0).length o'=x++[o']:=by
    intro x o o' hx
    rw [← hx];simp
  have geta:∀ (x:Store) (o:Obj),x.length=(sto s0).length→(x++[o])[(sto s0).length]? = some o:=by
    intro x o hx
    rw [← hx];simp
  unfold rangeR
  simp only [hfn,hF,Option.bind_some,hrd,hps,Bool.and_self,if_true]
  cases hf:foldE f 0 s0 as with
  | inl s=>
    rw [hf] at hr
    obtain ⟨v,hv⟩:=iter _ _ _ hr
    rw [hv]
    simp only [Option.bind_some,geta _ _ (hlen s),seta _ _ _ (hlen s),gcs _ (hlen s) (hbel s),rangeEnd]
  | inr t=>
    rw [hf] at hr
    obtain ⟨v,hv⟩:=iter _ _ _ hr
    rw [hv]
    have hn:=hnn t
    simp only [Option.bind_some,geta _ _ (hout t),seta _ _ _ (hout t),gcs _ (hout t) (hbelo t),rangeEnd]
def insR {α:Type} (lt:α→α→Bool) (x:α):List α→List α
  | []=>[x]
  | y :: r=>if lt y x=true then y :: insR lt x r else x :: y :: r
def isort {α:Type} (lt:α→α→Bool):List α→List α
  | []=>[]
  | x :: r=>insR lt x (isort lt r)
def aparts {α:Type} (lt:α→α→Bool):List α→Bool
  | []=>true
  | x :: r=>(r.all fun y=>lt x y || lt y x) && aparts lt r
def primSort (es:Nat) (g:FuncId) (ok:List PV→Bool) (lt:List PV→List PV→Bool):List AV→Store→Option (AV×Store)
  | [.sl b n,.p (.fn f [])],σ=>
    if f=g then
      match σ[b]? with
      | some (.pv e rows false)=>if rows.length=n∧n<4611686018427387904∧(rows=[]∨e=es)∧rows.all ok=true∧aparts lt rows=true then some (.p (.tup []),σ.set b (.pv e (isort lt rows) false)) else none
      | _=>none
    else none
  | _,_=>none
def okV:List PV→Bool
  | [.str _,.int .i64 _]=>true
  | _=>false
def ltV:List PV→List PV→Bool
  | [.str a,.int _ _],[.str b,.int _ _]=>slt a b
  | _,_=>false
theorem eqs:type_of% (
  And.intro @exec_seq <| And.intro @andThen_normal <| And.intro @andThen_ret <| And.intro @andThen_exit <| And.intro @exec_block <| And.intro @inBlock_normal <| And.intro @inBlock_ret <|
  And.intro @inBlock_exit <| And.intro @exec_skip <| And.intro @exec_exit <| And.intro @exec_ret <| And.intro @reg_go <| And.intro @reg_some <| And.intro @cond_go <| And.intro @cond_t <|
  And.intro @cond_f <| And.intro @ops_go <| And.intro @ops_if <| And.intro @guard_tt <| And.intro @guard_ff <| And.intro @guard_tf <| And.intro @guard_ft <| And.intro @guard_0 <| And.intro @next_go <|
  And.intro @next_none <| And.intro @execOps_nil <| And.intro @tmE <| And.intro @step_l <| And.intro @step_r <| And.intro @head_normal <| And.intro @head_ret <| And.intro @head_exit <|
  And.intro @gc_nil <| And.intro @gc_one <| And.intro @gc_two <| And.intro @kept_cons <| And.intro @kept_nil <| And.intro @purify_p <| And.intro @refs_p <| And.intro @retR_ret <| And.intro @retR_normal <|
  And.intro @retC_ret <| And.intro @retC_normal <| And.intro @callR_some <| And.intro @callV_y <| And.intro @callV_f <| And.intro @resultOf_0 <| And.intro @resultOf_1 <| And.intro @resultOf_n <|
  And.intro @op_mv <| And.intro @op_mvE <| And.intro @op_pick <| And.intro @op_arith <| And.intro @op_load <| And.intro @op_build <| And.intro @op_eqB <| And.intro @op_eqA <| And.intro @op_not <|
  And.intro @op_neg <| And.intro @op_compl <| And.intro @op_conv <| And.intro @op_convS <| And.intro @op_fadr <| And.intro @op_fld <| And.intro @op_iadrA <| And.intro @op_iadrS <| And.intro @op_idxA <|
  And.intro @op_idxS <| And.intro @op_slcS <| And.intro @op_slcT <| And.intro @op_lookup <| And.intro @op_extract <| And.intro @op_lenS <| And.intro @op_lenT <| And.intro @op_lenM <|
  And.intro @op_lenA <| And.intro @op_minmax <| And.intro @op_mkfn <| And.intro @op_nilchk <| And.intro @op_frz <| And.intro @op_isnil <| And.intro @op_slcA <| And.intro @frz_p <| And.intro @frz_nils <| And.intro @op_alloc <| And.intro @op_init <| And.intro @op_box <| And.intro @op_bslice <| And.intro @op_blist <| And.intro @regD_go <| And.intro @regD_some <|
  And.intro @op_store <| And.intro @op_mupd <| And.intro @op_mkmap <| And.intro @op_append <| And.intro @op_callf <| And.intro @op_callv <| And.intro @op_calli <| And.intro @op_mkslice <| And.intro @back_exit <| And.intro @back_ret <| And.intro @calli_some <| And.intro @gc_12 <| And.intro @gc_13 <| And.intro @gc_23 <|
  And.intro @gc_24 <| And.intro @below_p <| And.intro @below_any <| And.intro @below_nils <| And.intro @below_sl <| And.intro @below_ptr <| And.intro @below_map <| And.intro @below_yield <|
  And.intro @obj_below <| And.intro @src_nils <| And.intro @src_one <| And.intro @src_two <| And.intro @mvE_p <| And.intro @mvE_sl <| And.intro @mvE_nils <| And.intro @rndA_n <| And.intro @body_go <|
  And.intro @rndB_s <| And.intro @rndC_n <| And.intro @rndC_r <| And.intro @rndC_e <| And.intro @al1 <| And.intro @st_b <| And.intro @st_i <| And.intro @any_some <| And.intro @ld_b1 <|
  And.intro @rangeK_some <| And.intro @ld_av2 <| And.intro @gc_44 <| And.intro @gc_45 <| And.intro @gc_34 <| And.intro @gc_33 <| And.intro @obj_belowL <| And.intro @obj_belowA <| And.intro @obj_belowM <|
  And.intro @init_map <| And.intro @cells_map <| And.intro @v_extractA <| And.intro @z_cells <| And.intro @z_init <| And.intro @bs1s <| And.intro @purify_tup <| And.intro @v_quiet <|
  And.intro @v_add <| And.intro @v_sub <| And.intro @v_mul <| And.intro @v_eql <| And.intro @v_neq <| And.intro @v_lss <| And.intro @v_leq <| And.intro @v_gtr <| And.intro @v_geq <| And.intro @v_seql <|
  And.intro @v_sneq <| And.intro @v_slss <| And.intro @v_not <| And.intro @v_eqB <| And.intro @v_neB <| And.intro @v_neg <| And.intro @v_conv <| And.intro @v_convS <| And.intro @v_lenT <|
  And.intro @v_lenS <| And.intro @v_lenS0 <| And.intro @v_pick <| And.intro @v_max <| And.intro @v_min <| And.intro @v_fadr <| And.intro @v_fadrA <| And.intro @v_init <| And.intro @v_init1 <|
  And.intro @v_extract <| And.intro @t_load <| And.intro @t_cells <| And.intro @Term.row0 <| And.intro @Term.row1 <| And.intro @Term.row2 <| And.intro @Term.row3 <| And.intro @Term.row4 <|
  And.intro @v_ld <| And.intro @v_ld2 <| And.intro @v_cells1 <| And.intro @v_cells1s <| And.intro @v_cells1l <| And.intro @v_cells2 <| And.intro @bs1 <| And.intro @bs2 <| And.intro @bs3 <|
  And.intro @bs4 <| And.intro @bs6 <| And.intro @purify_zero <| And.intro @bs0 <| And.intro @t_bs <| And.intro @purify_nils <| And.intro @flat_int <| And.intro @flat_bool <| And.intro @flat_str <|
  And.intro @decide_true <| And.intro @decide_false <| And.intro @decide_not <| And.intro @and_self <| And.intro @and_true <| And.intro @true_and <| And.intro @and_false <| And.intro @false_and <|
  And.intro @or_true <| And.intro @true_or <| And.intro @or_false <| And.intro @false_or <| And.intro @not_true_eq_false <| And.intro @not_false_eq_true <| And.intro @w_succ <| @w_succ') :=
  And.intro @exec_seq <| And.intro @andThen_normal <| And.intro @andThen_ret <| And.intro @andThen_exit <| And.intro @exec_block <| And.intro @inBlock_normal <| And.intro @inBlock_ret <|
  And.intro @inBlock_exit <| And.intro @exec_skip <| And.intro @exec_exit <| And.intro @exec_ret <| And.intro @reg_go <| And.intro @reg_some <| And.intro @cond_go <| And.intro @cond_t <|
  And.intro @cond_f <| And.intro @ops_go <| And.intro @ops_if <| And.intro @guard_tt <| And.intro @guard_ff <| And.intro @guard_tf <| And.intro @guard_ft <| And.intro @guard_0 <| And.intro @next_go <|
  And.intro @next_none <| And.intro @execOps_nil <| And.intro @tmE <| And.intro @step_l <| And.intro @step_r <| And.intro @head_normal <| And.intro @head_ret <| And.intro @head_exit <|
  And.intro @gc_nil <| And.intro @gc_one <| And.intro @gc_two <| And.intro @kept_cons <| And.intro @kept_nil <| And.intro @purify_p <| And.intro @refs_p <| And.intro @retR_ret <| And.intro @retR_normal <|
  And.intro @retC_ret <| And.intro @retC_normal <| And.intro @callR_some <| And.intro @callV_y <| And.intro @callV_f <| And.intro @resultOf_0 <| And.intro @resultOf_1 <| And.intro @resultOf_n <|
  And.intro @op_mv <| And.intro @op_mvE <| And.intro @op_pick <| And.intro @op_arith <| And.intro @op_load <| And.intro @op_build <| And.intro @op_eqB <| And.intro @op_eqA <| And.intro @op_not <|
  And.intro @op_neg <| And.intro @op_compl <| And.intro @op_conv <| And.intro @op_convS <| And.intro @op_fadr <| And.intro @op_fld <| And.intro @op_iadrA <| And.intro @op_iadrS <| And.intro @op_idxA <|
  And.intro @op_idxS <| And.intro @op_slcS <| And.intro @op_slcT <| And.intro @op_lookup <| And.intro @op_extract <| And.intro @op_lenS <| And.intro @op_lenT <| And.intro @op_lenM <|
  And.intro @op_lenA <| And.intro @op_minmax <| And.intro @op_mkfn <| And.intro @op_nilchk <| And.intro @op_frz <| And.intro @op_isnil <| And.intro @op_slcA <| And.intro @frz_p <| And.intro @frz_nils <| And.intro @op_alloc <| And.intro @op_init <| And.intro @op_box <| And.intro @op_bslice <| And.intro @op_blist <| And.intro @regD_go <| And.intro @regD_some <|
  And.intro @op_store <| And.intro @op_mupd <| And.intro @op_mkmap <| And.intro @op_append <| And.intro @op_callf <| And.intro @op_callv <| And.intro @op_calli <| And.intro @op_mkslice <| And.intro @back_exit <| And.intro @back_ret <| And.intro @calli_some <| And.intro @gc_12 <| And.intro @gc_13 <| And.intro @gc_23 <|
  And.intro @gc_24 <| And.intro @below_p <| And.intro @below_any <| And.intro @below_nils <| And.intro @below_sl <| And.intro @below_ptr <| And.intro @below_map <| And.intro @below_yield <|
  And.intro @obj_below <| And.intro @src_nils <| And.intro @src_one <| And.intro @src_two <| And.intro @mvE_p <| And.intro @mvE_sl <| And.intro @mvE_nils <| And.intro @rndA_n <| And.intro @body_go <|
  And.intro @rndB_s <| And.intro @rndC_n <| And.intro @rndC_r <| And.intro @rndC_e <| And.intro @al1 <| And.intro @st_b <| And.intro @st_i <| And.intro @any_some <| And.intro @ld_b1 <|
  And.intro @rangeK_some <| And.intro @ld_av2 <| And.intro @gc_44 <| And.intro @gc_45 <| And.intro @gc_34 <| And.intro @gc_33 <| And.intro @obj_belowL <| And.intro @obj_belowA <| And.intro @obj_belowM <|
  And.intro @init_map <| And.intro @cells_map <| And.intro @v_extractA <| And.intro @z_cells <| And.intro @z_init <| And.intro @bs1s <| And.intro @purify_tup <| And.intro @v_quiet <|
  And.intro @v_add <| And.intro @v_sub <| And.intro @v_mul <| And.intro @v_eql <| And.intro @v_neq <| And.intro @v_lss <| And.intro @v_leq <| And.intro @v_gtr <| And.intro @v_geq <| And.intro @v_seql <|
  And.intro @v_sneq <| And.intro @v_slss <| And.intro @v_not <| And.intro @v_eqB <| And.intro @v_neB <| And.intro @v_neg <| And.intro @v_conv <| And.intro @v_convS <| And.intro @v_lenT <|
  And.intro @v_lenS <| And.intro @v_lenS0 <| And.intro @v_pick <| And.intro @v_max <| And.intro @v_min <| And.intro @v_fadr <| And.intro @v_fadrA <| And.intro @v_init <| And.intro @v_init1 <|
  And.intro @v_extract <| And.intro @t_load <| And.intro @t_cells <| And.intro @Term.row0 <| And.intro @Term.row1 <| And.intro @Term.row2 <| And.intro @Term.row3 <| And.intro @Term.row4 <|
  And.intro @v_ld <| And.intro @v_ld2 <| And.intro @v_cells1 <| And.intro @v_cells1s <| And.intro @v_cells1l <| And.intro @v_cells2 <| And.intro @bs1 <| And.intro @bs2 <| And.intro @bs3 <|
  And.intro @bs4 <| And.intro @bs6 <| And.intro @purify_zero <| And.intro @bs0 <| And.intro @t_bs <| And.intro @purify_nils <| And.intro @flat_int <| And.intro @flat_bool <| And.intro @flat_str <|
  And.intro @decide_true <| And.intro @decide_false <| And.intro @decide_not <| And.intro @and_self <| And.intro @and_true <| And.intro @true_and <| And.intro @and_false <| And.intro @false_and <|
  And.intro @or_true <| And.intro @true_or <| And.intro @or_false <| And.intro @false_or <| And.intro @not_true_eq_false <| And.intro @not_false_eq_true <| And.intro @w_succ <| @w_succ'
theorem eqL:type_of% (And.intro @List.map_cons.{0,0} <| And.intro @List.map_nil.{0,0} <| And.intro @List.flatMap_cons.{0,0} <| And.intro @List.flatMap_nil.{0,0} <| And.intro @List.append_nil.{0} <| And.intro @List.nil_append.{0} <| And.intro @ite_self.{1} <| And.intro @List.all_cons.{0} <| And.intro @List.all_nil.{0} <| And.intro @List.take_succ_cons.{0} <| And.intro @List.take_zero.{0} <| And.intro @Bool.and_true <| And.intro @Bool.and_self <| And.intro @Bool.true_and <| And.intro @List.cons_append.{0} <| And.intro @List.set_cons_zero.{0} <| And.intro @List.set_cons_succ.{0} <| And.intro @List.flatten_cons.{0} <| And.intro @List.flatten_nil.{0} <| And.intro @List.zip_cons_cons.{0,0} <| And.intro @List.zip_nil_left.{0,0} <| And.intro @List.getElem?_cons_zero.{0} <| And.intro @List.getElem?_cons_succ.{0} <| And.intro @List.length_cons.{0} <| And.intro @List.length_nil.{0} <| And.intro @Option.map_some.{0,0} <| And.intro @Option.map_none.{0,0} <| And.intro @Bool.not_true <| And.intro @Bool.not_false <| And.intro @Bool.not_not <| And.intro @Bool.false_eq_true <| @Bool.true_eq_false) :=
  ⟨@List.map_cons.{0,0},@List.map_nil.{0,0},@List.flatMap_cons.{0,0},@List.flatMap_nil.{0,0},@List.append_nil.{0},@List.nil_append.{0},@ite_self.{1},@List.all_cons.{0},@List.all_nil.{0},@List.take_succ_cons.{0},@List.take_zero.{0},@Bool.and_true,@Bool.and_self,@Bool.true_and,@List.cons_append.{0},@List.set_cons_zero.{0},@List.set_cons_succ.{0},@List.flatten_cons.{0},@List.flatten_nil.{0},@List.zip_cons_cons.{0,0},@List.zip_nil_left.{0,0},@List.getElem?_cons_zero.{0},@List.getElem?_cons_succ.{0},@List.length_cons.{0},@List.length_nil.{0},@Option.map_some.{0,0},@Option.map_none.{0,0},@Bool.not_true,@Bool.not_false,@Bool.not_not,@Bool.false_eq_true,@Bool.true_eq_false⟩
theorem eqD:type_of% (And.intro @omap.eq_1 <| And.intro @omap.eq_2 <| And.intro @depth.eq_1 <| And.intro @pcall.eq_1 <| And.intro @pcall.eq_2 <| And.intro @pureR.eq_1 <| And.intro @pureR.eq_2 <| And.intro @freezeFor.eq_1 <| And.intro @freezeAll.eq_1 <| And.intro @freezeAll.eq_2 <| And.intro @tupR.eq_1 <| And.intro @tupR.eq_2 <| And.intro @resV.eq_1 <| And.intro @resV.eq_2 <| And.intro @purR.eq_1 <| And.intro @purR.eq_2 <| And.intro @enterTm.eq_1 <| And.intro @number.eq_1 <| And.intro @number.eq_2 <| And.intro @gcOk.eq_1 <| And.intro @rangeEnd.eq_1 <| And.intro @rangeEnd.eq_2 <| @mkTup.eq_1) :=
  ⟨@omap.eq_1,@omap.eq_2,@depth.eq_1,@pcall.eq_1,@pcall.eq_2,@pureR.eq_1,@pureR.eq_2,@freezeFor.eq_1,@freezeAll.eq_1,@freezeAll.eq_2,@tupR.eq_1,@tupR.eq_2,@resV.eq_1,@resV.eq_2,@purR.eq_1,@purR.eq_2,@enterTm.eq_1,@number.eq_1,@number.eq_2,@gcOk.eq_1,@rangeEnd.eq_1,@rangeEnd.eq_2,@mkTup.eq_1⟩
theorem eqY:type_of% (And.intro eqs <| And.intro eqL eqD):=⟨eqs,eqL,eqD⟩
theorem lbY {a b:Nat} (h:Nat.ble a b=true):a≤b:=Nat.le_of_ble_eq_true h
variable {P:Prog} {τ:Tm} {σ:Store} {k k0 k1 k2:IntKind} {a b c d e x y z u v:AV} {o0 o1 o2 o3:Obj} {r:Store} {es n f:Nat} {fr:Bool}
theorem part_50:part 0 1 [a,b,c,d,e]=some [a]:=rfl
theorem part_51:part 1 1 [a,b,c,d,e]=some [b]:=rfl
theorem part_52:part 2 1 [a,b,c,d,e]=some [c]:=rfl
theorem part_53:part 3 1 [a,b,c,d,e]=some [d]:=rfl
theorem part_54:part 4 1 [a,b,c,d,e]=some [e]:=rfl
theorem part_5:part 0 5 [a,b,c,d,e]=some [a,b,c,d,e]:=rfl
theorem put_50:putPart 0 [x] [a,b,c,d,e]=some [x,b,c,d,e]:=rfl
theorem put_51:putPart 1 [x] [a,b,c,d,e]=some [a,x,c,d,e]:=rfl
theorem put_52:putPart 2 [x] [a,b,c,d,e]=some [a,b,x,d,e]:=rfl
theorem put_53:putPart 3 [x] [a,b,c,d,e]=some [a,b,c,x,e]:=rfl
theorem put_54:putPart 4 [x] [a,b,c,d,e]=some [a,b,c,d,x]:=rfl
theorem put_5:putPart 0 [x,y,z,u,v] [a,b,c,d,e]=some [x,y,z,u,v]:=rfl
def ldO (n i o size:Nat) (agg:Bool):Option Obj→Option AV
  | some (.pv _ rows _)=>if rows.length=n then ((rows[i]?.bind (part o size)).bind (ofCellsP agg)).map .p else none
  | some (.av _ rows _)=>if rows.length=n then (rows[i]?.bind (part o size)).bind (ofCells agg) else none
  | _=>none
theorem ld_go {bb n i o size:Nat} {agg:Bool}:loadV σ size agg (.ptr bb n i o)=ldO n i o size agg σ[bb]? := by
  simp only [loadV]
  cases σ[bb]? with
  | none=>rfl
  | some ob=>cases ob<;>rfl
def ofC (agg:Bool):Option (List AV)→Option AV
  | some l=>ofCells agg l
  | none=>none
theorem ldO_av {o size:Nat} {agg:Bool} {row:List AV}:ldO 1 0 o size agg (some (.av es [row] fr))=ofC agg (part o size row):=by
  simp only [ldO,List.length_cons,List.length_nil,if_true,List.getElem?_cons_zero,Option.bind_some]
  cases part o size row<;>rfl
theorem ofC_1:ofC false (some [a])=some a:=rfl
theorem ofC_5:ofC true (some [a,b,c,d,e])=some (mkAgg [a,b,c,d,e]):=rfl
theorem mkAgg_sl {pa pb pc pd:PV} {bb n:Nat}:mkAgg [.p pa,.p pb,.p pc,.p pd,.sl bb n]=.agg [.p pa,.p pb,.p pc,.p pd,.sl bb n]:=rfl
theorem mkAgg_nils {pa pb pc pd:PV}:mkAgg [.p pa,.p pb,.p pc,.p pd,.nils]=.agg [.p pa,.p pb,.p pc,.p pd,.nils]:=rfl
theorem mkAgg_p {pa pb pc pd pe:PV}:mkAgg [.p pa,.p pb,.p pc,.p pd,.p pe]=.p (.agg [pa,pb,pc,pd,pe]):=rfl
def stO (σ:Store) (bb n i o:Nat) (new:List AV):Option Obj→Option Store
  | some (.pv es rows false)=>if rows.length=n then
      (rows[i]?.bind fun r=>
        match allP new with
        | some ps=>(putPart o ps r).map fun r'=>σ.set bb (.pv es (rows.set i r') false)
        | none=>(putPart o new (r.map .p)).map fun r'=>σ.set bb (.av es ((rows.map fun r=>r.map .p).set i r') false)) else none
  | some (.av es rows false)=>if rows.length=n then
      (rows[i]?.bind fun r=>(putPart o new r).map fun r'=>
        σ.set bb (match (rows.set i r') with
          | [r'']=>match allP r'' with
            | some ps=>.pv es [ps] false
            | none=>.av es [r''] false
          | rows'=>.av es rows' false)) else none
  | _=>none
theorem setRow_go {bb n i o:Nat} {new:List AV}:setRow σ bb n i o new=stO σ bb n i o new σ[bb]? := by
  simp only [setRow]
  cases σ[bb]? with
  | none=>rfl
  | some ob=>
    cases ob with
    | pv es rows fr=>cases fr<;>rfl
    | av es rows fr=>cases fr<;>rfl
    | _=>rfl
def stF (σ:Store) (bb es:Nat):Option (List AV)→Option Store
  | some r=>some (σ.set bb (mkObj es r))
  | none=>none
theorem stO_av {bb o:Nat} {new row:List AV}:stO σ bb 1 0 o new (some (.av es [row] false))=stF σ bb es (putPart o new row):=by
  simp only [stO,List.length_cons,List.length_nil,if_true,List.getElem?_cons_zero,Option.bind_some,List.set_cons_zero]
  cases putPart o new row with
  | none=>rfl
  | some r=>simp only [Option.map_some,stF,mkObj];cases allP r<;>rfl
theorem stO_pv {bb o s m:Nat} {row:List PV}:stO σ bb 1 0 o [.sl s m] (some (.pv es [row] false))=stF σ bb es (putPart o [.sl s m] (row.map .p)):=by
  simp only [stO,List.length_cons,List.length_nil,if_true,List.getElem?_cons_zero,Option.bind_some,allP,List.map_cons,List.map_nil,List.set_cons_zero]
  cases h:putPart o [AV.sl s m] (row.map .p) with
  | none=>rfl
  | some r=>
    simp only [Option.map_some,stF,mkObj]
    have:allP r=none:=by
      unfold putPart at h
      split at h
      · cases h
        have key:∀ (l:List PV) (t:List AV),allP (l.map .p++.sl s m :: t)=none:=by
          intro l t
          induction l with
          | nil=>rfl
          | cons q l ih=>simp [allP,ih]
        rw [List.append_assoc,← List.map_take]
        exact key _ _
      · cases h
    rw [this]
theorem stF_some {bb:Nat} {row:List AV}:stF σ bb es (some row)=some (σ.set bb (mkObj es row)):=rfl
theorem mkObj_sl {pa pb pc pd:PV} {bb n:Nat}:mkObj es [.p pa,.p pb,.p pc,.p pd,.sl bb n]=.av es [[.p pa,.p pb,.p pc,.p pd,.sl bb n]] false:=rfl
theorem mkObj_p {row:List PV}:mkObj es (row.map .p)=.pv es [row] false:=by simp [mkObj,allP_map]
theorem mkObj_p1 {q:PV}:mkObj es [.p q]=.pv es [[q]] false:=rfl
theorem eag_nils {pa pb pc pd:PV}:eagers [.p pa,.p pb,.p pc,.p pd,.nils] σ=([.p pa,.p pb,.p pc,.p pd,.sl σ.length 0],σ++[.pv 0 [] false]):=rfl
theorem eag_p:∀ (row:List PV) (σ:Store),eagers (row.map .p) σ=(row.map .p,σ)
  | [],_=>rfl
  | q :: row,σ=>by simp only [List.map_cons,eagers,eag_p row σ]
theorem alloc_go {cs:List AV}:allocV es (cs,σ)=some (.ptr σ.length 1 0 0,σ++[mkObj es cs]):=rfl
theorem init_w {size:Nat} {cs:List AV}:initV σ size false (some cs)=allocV size (eagers cs σ):=rfl
theorem st_int {bb n i o:Nat} {q:Int}:storeV σ 1 (.ptr bb n i o) (.p (.int k q))=stO σ bb n i o [.p (.int k q)] σ[bb]? := by rw [← setRow_go];rfl
theorem st_str {bb n i o:Nat} {q:ByteArray}:storeV σ 1 (.ptr bb n i o) (.p (.str q))=stO σ bb n i o [.p (.str q)] σ[bb]? := by rw [← setRow_go];rfl
theorem st_sl {bb n i o s m:Nat}:storeV σ 1 (.ptr bb n i o) (.sl s m)=stO σ bb n i o [.sl s m] σ[bb]? := by rw [← setRow_go];rfl
theorem st_nils {bb n i o:Nat}:storeV σ 1 (.ptr bb n i o) .nils=stO (σ++[.pv 0 [] false]) bb n i o [.sl σ.length 0] (σ++[.pv 0 [] false])[bb]? := by rw [← setRow_go];rfl
theorem st_agg {bb n i o s m:Nat} {pa pb pc pd:PV}:storeV σ 5 (.ptr bb n i o) (.agg [.p pa,.p pb,.p pc,.p pd,.sl s m])=stO σ bb n i o [.p pa,.p pb,.p pc,.p pd,.sl s m] σ[bb]? := by rw [← setRow_go];rfl
theorem st_zero {bb n i o:Nat} {pa pb pc pd:PV}:storeV σ 5 (.ptr bb n i o) (.agg [.p pa,.p pb,.p pc,.p pd,.nils])=stO (σ++[.pv 0 [] false]) bb n i o [.p pa,.p pb,.p pc,.p pd,.sl σ.length 0] (σ++[.pv 0 [] false])[bb]? := by rw [← setRow_go];rfl
theorem st_T {bb n i o:Nat} {t:Term}:storeV σ 5 (.ptr bb n i o) (.p (.agg t.row))=stO σ bb n i o (t.row.map .p) σ[bb]? := by
  rw [← setRow_go]
  simp only [storeV,t_cells,List.length_map,Term.row_len,if_true,eag_p]
theorem put_T5 {t:Term}:putPart 0 (t.row.map .p) [a,b,c,d,e]=some (t.row.map .p):=by rw [Term.row_eq];rfl
theorem put_T0 {t:Term}:putPart 0 [x] (t.row.map .p)=some [x,.p (.int .i64 t.w),.p (.int .u64 t.v),.p (.str t.name),.p (.lst (t.args.map Term.row))]:=by rw [Term.row_eq];rfl
theorem put_T4 {t:Term}:putPart 4 [x] (t.row.map .p)=some [.p (.int .i64 t.op),.p (.int .i64 t.w),.p (.int .u64 t.v),.p (.str t.name),x]:=by rw [Term.row_eq];rfl
theorem ldO_T {t:Term}:ldO 1 0 0 5 true (some (.pv es [t.row] fr))=some (.p (.agg t.row)):=by
  simp only [ldO,List.length_cons,List.length_nil,if_true,List.getElem?_cons_zero,Option.bind_some]
  rw [Term.row_eq];rfl
theorem build_0:buildV [a,b,c,d,e] []=some (mkAgg [a,b,c,d,e]):=rfl
theorem build_4 {q0 q1 q2:Int} {q3:ByteArray}:buildV [a,b,c,d,e] [(0,1,.p (.int k0 q0)),(1,1,.p (.int k1 q1)),(2,1,.p (.int k2 q2)),(3,1,.p (.str q3))]=some (mkAgg [.p (.int k0 q0),.p (.int k1 q1),.p (.int k2 q2),.p (.str q3),e]):=rfl
theorem build_3 {q0 q1:Int} {q3:ByteArray}:buildV [a,b,c,d,e] [(0,1,.p (.int k0 q0)),(1,1,.p (.int k1 q1)),(3,1,.p (.str q3))]=some (mkAgg [.p (.int k0 q0),.p (.int k1 q1),c,.p (.str q3),e]):=rfl
theorem pur_agg {j:Nat} {cs:List AV}:purify σ (j+1) (.agg cs)=(omap (purify σ j) cs).map .agg:=rfl
theorem pur_1 {j n:Nat} {rows:List (List PV)}:purify (o0 :: .pv es rows fr :: r) (j+1) (.sl 1 n)=if rows.length=n then some (.lst rows) else none:=by simp [purify]
theorem pur_2 {j n:Nat} {rows:List (List PV)}:purify (o0 :: o1 :: .pv es rows fr :: r) (j+1) (.sl 2 n)=if rows.length=n then some (.lst rows) else none:=by simp [purify]
theorem pur_3 {j n:Nat} {rows:List (List PV)}:purify (o0 :: o1 :: o2 :: .pv es rows fr :: r) (j+1) (.sl 3 n)=if rows.length=n then some (.lst rows) else none:=by simp [purify]
theorem pur_4 {j n:Nat} {rows:List (List PV)}:purify (o0 :: o1 :: o2 :: o3 :: .pv es rows fr :: r) (j+1) (.sl 4 n)=if rows.length=n then some (.lst rows) else none:=by simp [purify]
theorem refs_1 {j n:Nat} {rows:List (List PV)}:refs (o0 :: .pv es rows fr :: r) (j+1) (.sl 1 n)=[1]:=rfl
theorem refs_2 {j n:Nat} {rows:List (List PV)}:refs (o0 :: o1 :: .pv es rows fr :: r) (j+1) (.sl 2 n)=[2]:=rfl
theorem refs_3 {j n:Nat} {rows:List (List PV)}:refs (o0 :: o1 :: o2 :: .pv es rows fr :: r) (j+1) (.sl 3 n)=[3]:=rfl
theorem refs_agg {j:Nat} {cs:List AV}:refs σ (j+1) (.agg cs)=cs.flatMap (refs σ j):=rfl
theorem frz_2 {rows:List (List PV)}:freezeAt (o0 :: o1 :: .pv es rows fr :: r) 2=o0 :: o1 :: .pv es rows true :: r:=rfl
theorem frz_3 {rows:List (List PV)}:freezeAt (o0 :: o1 :: o2 :: .pv es rows fr :: r) 3=o0 :: o1 :: o2 :: .pv es rows true :: r:=rfl
theorem src_top4 {q:List PV}:srcOf [o0,o1,o2,o3,.pv es [q] fr] es (.sl 4 1)=some (.inl [q]):=src_sl rfl rfl (.inl rfl)
theorem src_top3 {q:List PV}:srcOf [o0,o1,o2,.pv es [q] fr] es (.sl 3 1)=some (.inl [q]):=src_sl rfl rfl (.inl rfl)
structure V2 where
  name:ByteArray
  w:Int
def vrow (v:V2):List PV:=[.str v.name,.int .i64 v.w]
theorem bs_v {q:ByteArray} {w:Int} {z0 z1:AV}:bsliceV σ 2 1 (fillP (List.replicate 1 [z0,z1]).flatten [(0,2,.p (.agg [.str q,.int k w]))])=some (.sl σ.length 1,σ++[.pv 2 [[.str q,.int k w]] false]):=rfl
theorem flat_ib {q:Int} {c:Bool}:PV.flat (.tup [.int k q,.bool c])=true:=by simp [PV.flat]
theorem flat_ii {q q':Int}:PV.flat (.tup [.int k q,.int k0 q'])=true:=by simp [PV.flat]
theorem v_init2 {qa qb:PV}:initV σ n true (some [.p qa,.p qb])=some (.p (.ptr [qa,qb] 0),σ):=rfl
theorem build_v {q:ByteArray} {w:Int}:buildV [a,b] [(0,1,.p (.str q)),(1,1,.p (.int k w))]=some (.p (.agg [.str q,.int k w])):=rfl
theorem eag_1:eagers [.nils] σ=([.sl σ.length 0],σ++[.pv 0 [] false]):=rfl
theorem mkObj_s1 {bb n:Nat}:mkObj es [.sl bb n]=.av es [[.sl bb n]] false:=rfl
theorem part_1:part 0 1 [a]=some [a]:=rfl
theorem put_1:putPart 0 [x] [a]=some [x]:=rfl
theorem eqM:type_of% (
  And.intro @part_50 <| And.intro @part_51 <| And.intro @part_52 <| And.intro @part_53 <| And.intro @part_54 <| And.intro @part_5 <| And.intro @put_50 <| And.intro @put_51 <| And.intro @put_52 <|
  And.intro @put_53 <| And.intro @put_54 <| And.intro @put_5 <| And.intro @ld_go <| And.intro @ldO_av <| And.intro @ofC_1 <| And.intro @ofC_5 <| And.intro @mkAgg_sl <| And.intro @mkAgg_nils <|
  And.intro @mkAgg_p <| And.intro @stO_av <| And.intro @stO_pv <| And.intro @stF_some <| And.intro @mkObj_sl <| And.intro @mkObj_p <| And.intro @mkObj_p1 <| And.intro @eag_nils <| And.intro @eag_p <|
  And.intro @alloc_go <| And.intro @init_w <| And.intro @st_int <| And.intro @st_str <| And.intro @st_sl <| And.intro @st_nils <| And.intro @st_agg <| And.intro @st_zero <| And.intro @st_T <|
  And.intro @put_T5 <| And.intro @put_T0 <| And.intro @put_T4 <| And.intro @ldO_T <| And.intro @build_0 <| And.intro @build_4 <| And.intro @build_3 <| And.intro @pur_agg <| And.intro @pur_1 <|
  And.intro @pur_2 <| And.intro @pur_3 <| And.intro @pur_4 <| And.intro @refs_1 <| And.intro @refs_2 <| And.intro @refs_3 <| And.intro @refs_agg <| And.intro @frz_2 <| And.intro @frz_3 <|
  And.intro @src_top3 <| And.intro @src_top4 <| And.intro @bs_v <| And.intro @flat_ib <| And.intro @flat_ii <| And.intro @v_init2 <| And.intro @build_v <| And.intro @eag_1 <| And.intro @mkObj_s1 <|
  And.intro @part_1 <| @put_1) :=
  And.intro @part_50 <| And.intro @part_51 <| And.intro @part_52 <| And.intro @part_53 <| And.intro @part_54 <| And.intro @part_5 <| And.intro @put_50 <| And.intro @put_51 <| And.intro @put_52 <|
  And.intro @put_53 <| And.intro @put_54 <| And.intro @put_5 <| And.intro @ld_go <| And.intro @ldO_av <| And.intro @ofC_1 <| And.intro @ofC_5 <| And.intro @mkAgg_sl <| And.intro @mkAgg_nils <|
  And.intro @mkAgg_p <| And.intro @stO_av <| And.intro @stO_pv <| And.intro @stF_some <| And.intro @mkObj_sl <| And.intro @mkObj_p <| And.intro @mkObj_p1 <| And.intro @eag_nils <| And.intro @eag_p <|
  And.intro @alloc_go <| And.intro @init_w <| And.intro @st_int <| And.intro @st_str <| And.intro @st_sl <| And.intro @st_nils <| And.intro @st_agg <| And.intro @st_zero <| And.intro @st_T <|
  And.intro @put_T5 <| And.intro @put_T0 <| And.intro @put_T4 <| And.intro @ldO_T <| And.intro @build_0 <| And.intro @build_4 <| And.intro @build_3 <| And.intro @pur_agg <| And.intro @pur_1 <|
  And.intro @pur_2 <| And.intro @pur_3 <| And.intro @pur_4 <| And.intro @refs_1 <| And.intro @refs_2 <| And.intro @refs_3 <| And.intro @refs_agg <| And.intro @frz_2 <| And.intro @frz_3 <|
  And.intro @src_top3 <| And.intro @src_top4 <| And.intro @bs_v <| And.intro @flat_ib <| And.intro @flat_ii <| And.intro @v_init2 <| And.intro @build_v <| And.intro @eag_1 <| And.intro @mkObj_s1 <|
  And.intro @part_1 <| @put_1
theorem eqZ:type_of% (And.intro eqY eqM):=⟨eqY,eqM⟩
end Go.AE
