import GoSem.Claims
import Derived.Laws.World
import Derived.Laws.Rows
import Derived.Laws.Tables
import Derived.Laws.Append
import Derived.Laws.Cells
namespace Go.AE
inductive PV where
  | int (k:IntKind) (n:Int)
  | bool (b:Bool)
  | str (s:ByteArray)
  | agg (cs:List PV)
  | tup (vs:List PV)
  | lst (rows:List (List PV))
  | ptr (row:List PV) (o:Nat)
  | nilp
  | fn (f:FuncId) (cap:List PV)
  | nilf
  | nilm
  | pmap (es:List (PV×PV))
  deriving Inhabited
inductive AV where
  | any
  | p (v:PV)
  | nils
  | sl (b n:Nat)
  | ptr (b n i o:Nat)
  | fn (f:FuncId) (cap:List AV)
  | yield (l:Nat)
  | agg (cs:List AV)
  | tup (vs:List AV)
  | map (b:Nat)
  deriving Inhabited
inductive Leaf where
  | int | str | bool
  deriving DecidableEq,Inhabited
inductive O where
  | t (n:Nat)
  | c (v:AV)
  deriving Inhabited
inductive XOp where
  | mv (x:O) (eager:Bool)
  | pick (c a b:O)
  | alloc (zero:List AV) (es:Nat)
  | init (size:Nat) (agg:Bool) (x:O) (ro:Bool)
  | box (size:Nat) (agg:Bool) (x:O) (ro:Bool)
  | build (zero:List AV) (parts:List (Nat×Nat×O))
  | bslice (es:Nat) (zero:List AV) (len:Nat) (parts:List (Nat×Nat×O))
  | blist (es:Nat) (zero:List AV) (len:Nat) (parts:List (Nat×Nat×O))
  | load (size:Nat) (agg:Bool) (x:O)
  | store (size:Nat) (a v:O)
  | arith (op:BinOp) (x y:O)
  | eqB (neg:Bool) (x y:O)
  | eqA (neg:Bool) (lv:List Leaf) (x y:O)
  | not (x:O)
  | neg (x:O)
  | compl (x:O)
  | conv (k:IntKind) (x:O)
  | convS (x:O)
  | b2s (x:O)
  | fadr (off:Nat) (x:O)
  | fld (off size:Nat) (agg:Bool) (x:O)
  | iadrA (len es:Nat) (x i:O)
  | iadrS (es:Nat) (x i:O)
  | idxA (len es:Nat) (agg:Bool) (x i:O)
  | idxS (x i:O)
  | slcS (es:Nat) (x:O) (lo hi mx:Option O)
  | slcT (x:O) (lo hi:Option O)
  | slcA (len es:Nat) (x:O) (lo hi mx:Option O)
  | lookup (kl:Leaf) (zero:AV) (x k:O) (ok:Bool)
  | mupd (kl:Leaf) (x k v:O)
  | mkmap
  | mkslice (es:Nat) (bytes:Nat) (zero:List AV) (len cap:O)
  | extract (x:O) (k:Nat)
  | callf (f:FuncId) (args:List O)
  | calli (f:FuncId) (args:List O)
  | callv (x:O) (args:List O)
  | lenS (x:O)
  | lenT (x:O)
  | lenM (x:O)
  | lenA (n:Nat)
  | append (es bytes:Nat) (x y:O)
  | copy (es:Nat) (x y:O)
  | minmax (mx:Bool) (args:List O)
  | mkfn (f:FuncId) (caps:List O)
  | nilchk (x:O)
  | frz (x:O)
  | isnil (neg:Bool) (x:O)
  | bad (why:String)
  deriving Inhabited
structure IOp where
  dst:Option Nat
  op:XOp
  guard:Option (Nat×Bool)
  deriving Inhabited
inductive K where
  | skip
  | reg (draw:Bool) (ops:List IOp)
  | regD (ops:List IOp) (prs:List (Nat×Nat))
  | seq (a b:K)
  | cond (c:O) (a b:K)
  | block (id:Nat) (b:K)
  | loop (lv:List Nat) (b:K)
  | range (g:O) (ps lv:List Nat) (asg b:K)
  | exit (id:Nat)
  | ret
  | bad (why:String)
  deriving Inhabited
inductive RV where
  | tmp (t:Nat)
  | cell (t size:Nat) (agg:Bool)
  deriving Inhabited
structure AFn where
  ntmps:Nat
  results:List RV
  body:K
  imp:Bool
  deriving Inhabited
inductive Ex where
  | normal
  | exit (id:Nat)
  | ret
  deriving Inhabited,DecidableEq
@[ext] structure Tm where
  get:Nat→AV
instance:Inhabited Tm:=⟨⟨fun _=>.any⟩⟩
def lk:List (Nat×AV)→Nat→AV
  | [],_=>.any
  | (k,v) :: r,t=>if k=t then v else lk r t
def tm (l:List (Nat×AV)):Tm:=⟨lk l⟩
def upd (τ:Tm) (d:Nat) (v:AV):Tm:=⟨fun t=>if d=t then v else τ.get t⟩
inductive Obj where
  | pv (es:Nat) (rows:List (List PV)) (fr:Bool)
  | av (es:Nat) (rows:List (List AV)) (fr:Bool)
  | map (es:List (PV×AV)) (fr:Bool)
  | loop (τ:List (Nat×AV)) (nt:Nat) (ps:List Nat) (asg body:K) (state:Option Ex)
  | gone
  deriving Inhabited
abbrev Store:=List Obj
structure St where
  τ:Tm
  σ:Store
  nt:Nat
  rd:Option Nat:=none
  deriving Inhabited
def Tm.kept (τ:Tm) (lv:List Nat):List (Nat×AV):=lv.map fun t=>(t,τ.get t)
def Tm.keep (τ:Tm) (lv:List Nat):Tm:=tm (τ.kept lv)
def O.val (τ:Tm):O→AV
  | .t n=>τ.get n
  | .c v=>v
def omap {α β:Type} (f:α→Option β):List α→Option (List β)
  | []=>some []
  | a :: r=>match f a with
    | some b=>match omap f r with
      | some bs=>some (b :: bs)
      | none=>none
    | none=>none
def allP:List AV→Option (List PV)
  | []=>some []
  | .p v :: r=>(allP r).map (v :: ·)
  | _ :: _=>none
def mkAgg (cs:List AV):AV :=
  match allP cs with
  | some ps=>.p (.agg ps)
  | none=>.agg cs
def mkTup (cs:List AV):AV :=
  match allP cs with
  | some ps=>.p (.tup ps)
  | none=>.tup cs
def mkFn (f:FuncId) (cs:List AV):AV :=
  match allP cs with
  | some ps=>.p (.fn f ps)
  | none=>.fn f cs
def cellsOf (size:Nat) (agg:Bool) (v:AV):Option (List AV) :=
  if agg then
    match v with
    | .p (.agg ps)=>if ps.length=size then some (ps.map .p) else none
    | .agg cs=>if cs.length=size then some cs else none
    | _=>none
  else
    match v with
    | .any | .agg _ | .tup _ | .p (.agg _) | .p (.tup _)=>none
    | v=>some [v]
def ofCells (agg:Bool) (cs:List AV):Option AV :=
  if agg then some (mkAgg cs) else
  match cs with
  | [v]=>some v
  | _=>none
def ofCellsP (agg:Bool) (cs:List PV):Option PV :=
  if agg then some (.agg cs) else
  match cs with
  | [v]=>some v
  | _=>none
def mkObj (es:Nat) (row:List AV):Obj :=
  match allP row with
  | some ps=>.pv es [ps] false
  | none=>.av es [row] false
def Obj.len:Obj→Option Nat
  | .pv _ rows _=>some rows.length
  | .av _ rows _=>some rows.length
  | _=>none
def slen (σ:Store) (b:Nat):Option Nat:=σ[b]?.bind Obj.len
def Obj.dims:Obj→Option (Nat×Nat)
  | .pv es rows _=>some (es,rows.length)
  | .av es rows _=>some (es,rows.length)
  | _=>none
def svec (σ:Store) (b:Nat):Option (Nat×Nat):=σ[b]?.bind Obj.dims
def part {α:Type} (off size:Nat) (row:List α):Option (List α):=if off+size≤row.length then some ((row.drop off).take size) else none
def putPart {α:Type} (off:Nat) (new row:List α):Option (List α):=if off+new.length≤row.length then some (row.take off++new++row.drop (off+new.length)) else none
def eagers:List AV→Store→List AV×Store
  | [],σ=>([],σ)
  | .nils :: r,σ=>let (r',σ'):=eagers r (σ++[.pv 0 [] false]);(.sl σ.length 0 :: r',σ')
  | v :: r,σ=>let (r',σ'):=eagers r σ;(v :: r',σ')
def purify (σ:Store):Nat→AV→Option PV
  | 0,_=>none
  | k+1,v=>
    match v with
    | .p v=>some v
    | .nils=>some (.lst [])
    | .sl b n=>match σ[b]? with
      | some (.pv _ rows _)=>if rows.length=n then some (.lst rows) else none
      | some (.av _ rows _)=>if rows.length=n then (omap (omap (purify σ k)) rows).map .lst else none
      | _=>none
    | .ptr b n i o=>match σ[b]? with
      | some (.pv _ rows _)=>if rows.length=n then rows[i]?.map (.ptr · o) else none
      | some (.av _ rows _)=>if rows.length=n then rows[i]?.bind fun r=>(omap (purify σ k) r).map (.ptr · o) else none
      | _=>none
    | .fn f cap=>(omap (purify σ k) cap).map (.fn f)
    | .agg cs=>(omap (purify σ k) cs).map .agg
    | .tup cs=>(omap (purify σ k) cs).map .tup
    | .map b=>match σ[b]? with
      | some (.map es _)=>(omap (fun e:PV×AV=>(purify σ k e.2).map fun r=>(e.1,r)) es).map .pmap
      | _=>none
    | _=>none
def depth:Nat:=12
def PV.flat:PV→Bool
  | .int .. | .bool _ | .str _ | .nilp | .nilf | .nilm=>true
  | .agg cs=>cs.attach.all fun ⟨c,_⟩=>PV.flat c
  | .tup cs=>cs.attach.all fun ⟨c,_⟩=>PV.flat c
  | .lst rows=>rows.isEmpty
  | _=>false
def refs (σ:Store):Nat→AV→List Nat
  | 0,_=>[]
  | k+1,v=>
    match v with
    | .sl b _=>b :: (match σ[b]? with | some (.av _ rows _)=>rows.flatMap fun r=>r.flatMap (refs σ k) | _=>[])
    | .ptr b _ i _=>b :: (match σ[b]? with | some (.av _ rows _)=>(rows[i]?.getD []).flatMap (refs σ k) | _=>[])
    | .map b=>b :: (match σ[b]? with | some (.map es _)=>es.flatMap fun e=>refs σ k e.2 | _=>[])
    | .fn _ cap=>cap.flatMap (refs σ k)
    | .agg cs | .tup cs=>cs.flatMap (refs σ k)
    | _=>[]
def freezeAt (σ:Store) (b:Nat):Store :=
  match σ[b]? with
  | some (.pv es rows _)=>σ.set b (.pv es rows true)
  | some (.av es rows _)=>σ.set b (.av es rows true)
  | some (.map es _)=>σ.set b (.map es true)
  | _=>σ
def freezeAll (σ:Store):List Nat→Store
  | []=>σ
  | b :: r=>freezeAll (freezeAt σ b) r
def below (n:Nat):AV→Bool
  | .sl b _ | .ptr b _ _ _ | .map b | .yield b=>b<n
  | .fn _ cap=>cap.attach.all fun ⟨c,_⟩=>below n c
  | .agg cs=>cs.attach.all fun ⟨c,_⟩=>below n c
  | .tup cs=>cs.attach.all fun ⟨c,_⟩=>below n c
  | _=>true
def Obj.below (n:Nat):Obj→Bool
  | .av _ rows _=>rows.all fun r=>r.all (AE.below n)
  | .map es _=>es.all fun e=>AE.below n e.2
  | .loop τ _ _ _ _ _=>τ.all fun x=>AE.below n x.2
  | _=>true
def gcOk (n:Nat) (vs:List AV) (σ:Store):Bool:=vs.all (below n) && (σ.take n).all (Obj.below n)
def gc (n:Nat) (vs:List AV) (σ:Store):Store:=if σ.length≤n then σ else if gcOk n vs σ then σ.take n else σ
def intOp (op:BinOp) (k:IntKind) (a b:Int):Option PV :=
  match op with
  | .add=>some (.int k (k.wrap (a+b)))
  | .sub=>some (.int k (k.wrap (a-b)))
  | .mul=>some (.int k (k.wrap (a*b)))
  | .quo=>if b=0 then none else some (.int k (k.wrap (a.tdiv b)))
  | .rem=>if b=0 then none else some (.int k (a.tmod b))
  | .and=>some (.int k (k.wrap (BitVec.ofInt k.bits a &&& BitVec.ofInt k.bits b).toNat))
  | .or=>some (.int k (k.wrap (BitVec.ofInt k.bits a ||| BitVec.ofInt k.bits b).toNat))
  | .xor=>some (.int k (k.wrap (BitVec.ofInt k.bits a ^^^ BitVec.ofInt k.bits b).toNat))
  | .andNot=>some (.int k (k.wrap (BitVec.ofInt k.bits a &&& ~~~ BitVec.ofInt k.bits b).toNat))
  | .eql=>some (.bool (a == b))
  | .neq=>some (.bool (a != b))
  | .lss=>some (.bool (decide (a<b)))
  | .leq=>some (.bool (decide (a≤b)))
  | .gtr=>some (.bool (decide (a > b)))
  | .geq=>some (.bool (decide (a ≥ b)))
  | _=>none
def shiftOp (op:BinOp) (k:IntKind) (a b:Int):Option PV :=
  if b<0 then none else
  match op with
  | .shl=>some (.int k (k.wrap (a*2^(min b.toNat k.bits))))
  | .shr=>some (.int k (a.fdiv (2^(min b.toNat k.bits))))
  | _=>none
def strOp (op:BinOp) (a b:ByteArray):Option PV :=
  match op with
  | .add=>if ((a.size+b.size:Nat):Int) > IntKind.i64.max then none else some (.str (a++b))
  | .eql=>some (.bool (a.toList == b.toList))
  | .neq=>some (.bool !(a.toList == b.toList))
  | .lss=>some (.bool (Op.bytesLess a.toList b.toList))
  | .leq=>some (.bool (Op.bytesLess a.toList b.toList || a.toList == b.toList))
  | .gtr=>some (.bool !(Op.bytesLess a.toList b.toList || a.toList == b.toList))
  | .geq=>some (.bool !(Op.bytesLess a.toList b.toList))
  | _=>none
def eqLeaf:Leaf→PV→PV→Option Bool
  | .int,.int k a,.int k' b=>if k=k' then some (a == b) else none
  | .str,.str a,.str b=>some (a.toList == b.toList)
  | .bool,.bool a,.bool b=>some (a == b)
  | _,_,_=>none
def eqCells:List Leaf→List PV→List PV→Option Bool
  | [],[],[]=>some true
  | l :: ls,a :: r,b :: s=>(eqLeaf l a b).bind fun t=>(eqCells ls r s).map (t && ·)
  | _,_,_=>none
def binop (op:BinOp) (x y:PV):Option PV :=
  match x,y with
  | .int k a,.int k' b=>
    match op with
    | .shl | .shr=>shiftOp op k a b
    | _=>if k=k' then intOp op k a b else none
  | .str a,.str b=>strOp op a b
  | _,_=>none
def rowsP (σ:Store):AV→Option (List (List PV))
  | .p (.lst rows)=>some rows
  | .nils=>some []
  | .sl b n=>match σ[b]? with
    | some (.pv _ rows _)=>if rows.length=n then some rows else none
    | _=>none
  | _=>none
def lenS (σ:Store):AV→Option Nat
  | .p (.lst rows)=>some rows.length
  | .nils=>some 0
  | .sl b n=>if slen σ b=some n then some n else none
  | _=>none
def lenM (σ:Store):AV→Option Nat
  | .p .nilm=>some 0
  | .p (.pmap es)=>some es.length
  | .map b=>match σ[b]? with
    | some (.map es _)=>some es.length
    | _=>none
  | _=>none
def natOf:AV→Option Nat
  | .p (.int _ n)=>if 0≤n then some n.toNat else none
  | _=>none
def boolOf:AV→Option Bool
  | .p (.bool b)=>some b
  | _=>none
def loadV (σ:Store) (size:Nat) (agg:Bool):AV→Option AV
  | .p (.ptr row o)=>((part o size row).bind (ofCellsP agg)).map .p
  | .ptr b n i o=>match σ[b]? with
    | some (.pv _ rows _)=>if rows.length=n then ((rows[i]?.bind (part o size)).bind (ofCellsP agg)).map .p else none
    | some (.av _ rows _)=>if rows.length=n then (rows[i]?.bind (part o size)).bind (ofCells agg) else none
    | _=>none
  | _=>none
def setRow (σ:Store) (b n i o:Nat) (new:List AV):Option Store :=
  match σ[b]? with
  | some (.pv es rows false)=>if rows.length=n then
      (rows[i]?.bind fun r=>
        match allP new with
        | some ps=>(putPart o ps r).map fun r'=>σ.set b (.pv es (rows.set i r') false)
        | none=>(putPart o new (r.map .p)).map fun r'=>σ.set b (.av es ((rows.map fun r=>r.map .p).set i r') false)) else none
  | some (.av es rows false)=>if rows.length=n then
      (rows[i]?.bind fun r=>(putPart o new r).map fun r'=>
        σ.set b (match (rows.set i r') with
          | [r'']=>match allP r'' with
            | some ps=>.pv es [ps] false
            | none=>.av es [r''] false
          | rows'=>.av es rows' false)) else none
  | _=>none
def storeV (σ:Store) (size:Nat) (a v:AV):Option Store :=
  match a with
  | .ptr b n i o=>
    match cellsOf size (match v with | .agg _ | .p (.agg _)=>true | _=>false) v with
    | some cs=>if cs.length=size then (let (cs',σ'):=eagers cs σ;setRow σ' b n i o cs') else none
    | none=>none
  | _=>none
def fillP (cells:List AV):List (Nat×Nat×AV)→Option (List AV)
  | []=>some cells
  | (off,size,v) :: r=>
    match cellsOf size (match v with | .agg _ | .p (.agg _)=>true | _=>false) v with
    | some cs=>if cs.length=size then (putPart off cs cells).bind fun c=>fillP c r else none
    | none=>none
def chunk {α:Type} (es:Nat):Nat→List α→List (List α)
  | 0,_=>[]
  | n+1,l=>l.take es :: chunk es n (l.drop es)
def allRowsP:List (List AV)→Option (List (List PV))
  | []=>some []
  | r :: rs=>(allP r).bind fun p=>(allRowsP rs).map (p :: ·)
def mkRows (es:Nat) (rows:List (List AV)):Obj :=
  match allRowsP rows with
  | some ps=>.pv es ps false
  | none=>.av es rows false
abbrev Src:=List (List PV) ⊕ List (List AV)
def Src.count:Src→Nat
  | .inl ps=>ps.length
  | .inr vs=>vs.length
def wide (es:Nat) (rows:List (List PV)):Bool:=rows.all fun r=>r.length == es
def srcOf (σ:Store) (es:Nat):AV→Option Src
  | .p (.lst rows)=>if wide es rows then some (.inl rows) else none
  | .nils=>some (.inl [])
  | .p (.str s)=>if es=1 then some (.inl (s.data.toList.map fun b=>[.int .u8 b.toNat])) else none
  | .sl b n=>match σ[b]? with
    | some (.pv e rows _)=>if rows.length=n∧(e=es∨rows.isEmpty=true) then some (.inl rows) else none
    | some (.av e rows _)=>if rows.length=n∧e=es then some (.inr rows) else none
    | _=>none
  | _=>none
def joinObj (es:Nat) (o:Obj) (new:Src):Option Obj :=
  match o,new with
  | .pv e rows false,.inl ps=>if e=es∨(e=0∧rows.isEmpty=true) then some (.pv es (rows++ps) false) else none
  | .pv e rows false,.inr vs=>if e=es∨(e=0∧rows.isEmpty=true) then some (.av es ((rows.map fun r=>r.map .p)++vs) false) else none
  | .av e rows false,.inl ps=>if e=es then some (.av es (rows++ps.map fun r=>r.map .p) false) else none
  | .av e rows false,.inr vs=>if e=es then some (.av es (rows++vs) false) else none
  | _,_=>none
def appendRows (σ:Store) (es bytes:Nat) (x:AV) (new:Src):Option (AV×Store) :=
  match x with
  | .nils=>if new.count*bytes≤140737488355328 then some (.sl σ.length new.count,σ++[match new with | .inl ps=>.pv es ps false | .inr vs=>.av es vs false]) else none
  | .sl b n=>match σ[b]? with
    | some o=>if o.len=some n∧(n+new.count)*bytes≤140737488355328 then (joinObj es o new).map fun o'=>(.sl b (n+new.count),σ.set b o') else none
    | none=>none
  | _=>none
def findKey {α:Type} (kl:Leaf) (k:PV):List (PV×α)→Option (Option α)
  | []=>some none
  | e :: r=>match eqLeaf kl k e.1 with
    | some true=>some (some e.2)
    | some false=>findKey kl k r
    | none=>none
def setKey {α:Type} (kl:Leaf) (k:PV) (v:α):List (PV×α)→Option (List (PV×α))
  | []=>some [(k,v)]
  | e :: r=>match eqLeaf kl k e.1 with
    | some true=>some ((k,v) :: r)
    | some false=>(setKey kl k v r).map (e :: ·)
    | none=>none
def isLeaf:Leaf→PV→Bool
  | .int,.int .. | .str,.str _ | .bool,.bool _=>true
  | _,_=>false
def boundAt (d:Nat):Option AV→Option Nat
  | none=>some d
  | some v=>natOf v
def bounds (len cap:Nat) (lo hi mx:Option AV):Option (Nat×Nat×Nat) :=
  (boundAt cap mx).bind fun m=>(if mx.isSome && hi.isNone then none else boundAt len hi).bind fun h=>(boundAt 0 lo).bind fun l=>
    if m≤cap∧h≤m∧l≤h then some (l,h,m) else none
def minmax2 (mx:Bool):PV→PV→Option PV
  | .int k a,.int _ b=>some (.int k (if mx then max a b else min a b))
  | _,_=>none
def minmaxL (mx:Bool) (x:PV):List AV→Option PV
  | []=>some x
  | .p y :: r=>(minmax2 mx x y).bind fun z=>minmaxL mx z r
  | _=>none
def quiet (σ:Store) (τ:Tm):XOp→Option AV
  | .pick c a b=>(boolOf (c.val τ)).map fun t=>if t then a.val τ else b.val τ
  | .build zero parts=>(fillP zero (parts.map fun x=>(x.1,x.2.1,x.2.2.val τ))).map mkAgg
  | .load size agg x=>loadV σ size agg (x.val τ)
  | .arith op x y=>match x.val τ,y.val τ with
    | .p a,.p b=>(binop op a b).map .p
    | _,_=>none
  | .eqB neg x y=>(boolOf (x.val τ)).bind fun a=>(boolOf (y.val τ)).map fun b=>.p (.bool (if neg then !(a == b) else a == b))
  | .eqA neg lv x y=>match x.val τ,y.val τ with
    | .p (.agg a),.p (.agg b)=>(eqCells lv a b).map fun t=>.p (.bool (if neg then !t else t))
    | _,_=>none
  | .not x=>(boolOf (x.val τ)).map fun t=>.p (.bool !t)
  | .neg x=>match x.val τ with
    | .p (.int k n)=>some (.p (.int k (k.wrap (0-n))))
    | _=>none
  | .compl x=>match x.val τ with
    | .p (.int k n)=>(intOp .xor k (if k.signed then -1 else k.max) n).map .p
    | _=>none
  | .conv k x=>match x.val τ with
    | .p (.int _ n)=>some (.p (.int k (k.wrap n)))
    | _=>none
  | .convS x=>match x.val τ with
    | .p (.str s)=>some (.p (.str s))
    | _=>none
  | .fadr off x=>match x.val τ with
    | .p (.ptr row o)=>some (.p (.ptr row (o+off)))
    | .ptr b n i o=>some (.ptr b n i (o+off))
    | _=>none
  | .fld off size agg x=>match x.val τ with
    | .p (.agg cs)=>((part off size cs).bind (ofCellsP agg)).map .p
    | .agg cs=>(part off size cs).bind (ofCells agg)
    | _=>none
  | .iadrA len es x i=>(natOf (i.val τ)).bind fun n=>
    if n<len then match x.val τ with
      | .p (.ptr row o)=>some (.p (.ptr row (o+n*es)))
      | .ptr b m i o=>some (.ptr b m i (o+n*es))
      | _=>none
    else none
  | .iadrS es x i=>(natOf (i.val τ)).bind fun n=>
    match x.val τ with
    | .p (.lst rows)=>rows[n]?.bind fun r=>if r.length=es then some (.p (.ptr r 0)) else none
    | .sl b m=>if n<m∧svec σ b=some (es,m) then some (.ptr b m n 0) else none
    | _=>none
  | .idxA len es agg x i=>(natOf (i.val τ)).bind fun n=>
    if n<len then match x.val τ with
      | .p (.agg cs)=>((part (n*es) es cs).bind (ofCellsP agg)).map .p
      | .agg cs=>(part (n*es) es cs).bind (ofCells agg)
      | _=>none
    else none
  | .idxS x i=>(natOf (i.val τ)).bind fun n=>
    match x.val τ with
    | .p (.str s)=>s[n]?.map fun b=>.p (.int .u8 b.toNat)
    | _=>none
  | .slcS es x lo hi mx=>
    match x.val τ with
    | .p (.lst rows)=>
      if wide es rows then
        (bounds rows.length rows.length (lo.map (O.val τ)) (hi.map (O.val τ)) (mx.map (O.val τ))).bind fun b=>
          if mx.isNone then some (.p (.lst ((rows.take b.2.1).drop b.1))) else if b.2.2=0 then some .nils else none
      else none
    | .nils=>(bounds 0 0 (lo.map (O.val τ)) (hi.map (O.val τ)) (mx.map (O.val τ))).map fun _=>.nils
    | _=>none
  | .slcT x lo hi=>match x.val τ with
    | .p (.str s)=>(bounds s.size s.size (lo.map (O.val τ)) (hi.map (O.val τ)) none).map fun b=>.p (.str (s.extract b.1 b.2.1))
    | _=>none
  | .lookup kl zero x k ok=>match k.val τ with
    | .p k=>
      if isLeaf kl k then
        (match x.val τ with
          | .p .nilm=>some none
          | .p (.pmap es)=>(findKey kl k es).map fun o=>Option.map AV.p o
          | .map b=>match σ[b]? with
            | some (.map es _)=>findKey kl k es
            | _=>none
          | _=>none).bind fun o:Option AV=>some (if ok then mkTup [o.getD zero,.p (.bool o.isSome)] else o.getD zero)
      else none
    | _=>none
  | .extract x k=>match x.val τ with
    | .p (.tup vs)=>vs[k]?.map .p
    | .tup vs=>vs[k]?
    | _=>none
  | .lenS x=>(lenS σ (x.val τ)).map fun n=>.p (.int .i64 (Int.ofNat n))
  | .lenT x=>match x.val τ with
    | .p (.str s)=>some (.p (.int .i64 (Int.ofNat s.size)))
    | _=>none
  | .lenM x=>(lenM σ (x.val τ)).map fun n=>.p (.int .i64 (Int.ofNat n))
  | .lenA n=>some (.p (.int .i64 (Int.ofNat n)))
  | .minmax mx args=>match args.map (O.val τ) with
    | .p x :: r=>(minmaxL mx x r).map .p
    | _=>none
  | .mkfn f caps=>some (mkFn f (caps.map (·.val τ)))
  | .nilchk x=>match x.val τ with
    | .p .nilp=>none
    | .p .nilf=>none
    | .any=>none
    | v=>some v
  | .isnil neg x=>match x.val τ with
    | .p .nilf=>some (.p (.bool !neg))
    | .p (.fn ..) | .fn ..=>some (.p (.bool neg))
    | _=>none
  | .b2s x=>(rowsP σ (x.val τ)).bind fun rows=>
      (omap (fun r:List PV=>match r with | [.int .u8 n]=>some (UInt8.ofNat n.toNat) | _=>none) rows).map fun bs=>.p (.str ⟨bs.toArray⟩)
  | _=>none
def freezeFor (σ:Store) (args:List AV) (r:PV):Store:=if r.flat then σ else freezeAll σ (args.flatMap (refs σ depth))
def plain (σ:Store) (τ:Tm):XOp→Option (AV×Store)
  | .mv x eager=>match x.val τ with
    | .nils=>if eager then some (.sl σ.length 0,σ++[.pv 0 [] false]) else some (.nils,σ)
    | v=>some (v,σ)
  | .alloc zero es=>let (cs,σ'):=eagers zero σ;some (.ptr σ'.length 1 0 0,σ'++[mkObj es cs])
  | .init size agg x ro=>(cellsOf size agg (x.val τ)).bind fun cs=>
      if ro then match allP cs with
        | some ps=>some (.p (.ptr ps 0),σ)
        | none=>some (.ptr σ.length 1 0 0,σ++[mkObj size cs])
      else let (cs',σ'):=eagers cs σ;some (.ptr σ'.length 1 0 0,σ'++[mkObj size cs'])
  | .box size agg x ro=>(cellsOf size agg (x.val τ)).bind fun cs=>
      if ro then match allP cs with
        | some ps=>some (.p (.ptr ps 0),σ)
        | none=>some (.ptr σ.length 1 0 0,σ++[mkObj size cs])
      else let (cs',σ'):=eagers cs σ;some (.ptr σ'.length 1 0 0,σ'++[mkObj size cs'])
  | .bslice es zero len parts=>
      (fillP ((List.replicate len zero).flatten) (parts.map fun x=>(x.1*es,x.2.1,x.2.2.val τ))).map fun cs=>
        (.sl σ.length len,σ++[mkRows es (chunk es len cs)])
  | .blist es zero len parts=>
      ((fillP ((List.replicate len zero).flatten) (parts.map fun x=>(x.1*es,x.2.1,x.2.2.val τ))).bind allP).map fun ps=>
        (.p (.lst (chunk es len ps)),σ)
  | .store size a v=>(storeV σ size (a.val τ) (v.val τ)).map fun σ'=>(.any,σ')
  | .slcA len es x lo hi mx=>match x.val τ with
    | .ptr b 1 0 0=>match bounds len len (lo.map (O.val τ)) (hi.map (O.val τ)) (mx.map (O.val τ)),σ[b]? with
      | some (0,h,m),some (.pv e [row] false)=>if m=len∧e=len*es∧row.length=len*es then some (.sl σ.length h,(σ.set b .gone)++[.pv es (chunk es h (row.take (h*es))) false]) else none
      | _,_=>none
    | _=>none
  | .mupd kl x k v=>match x.val τ,k.val τ with
    | .map b,.p k=>match σ[b]? with
      | some (.map es false)=>if isLeaf kl k then (setKey kl k (v.val τ) es).map fun es'=>(.any,σ.set b (.map es' false)) else none
      | _=>none
    | _,_=>none
  | .mkmap=>some (.map σ.length,σ++[.map [] false])
  | .frz x=>(purify σ depth (x.val τ)).map fun r=>(.p r,freezeFor σ [x.val τ] r)
  | .mkslice es bytes zero l c=>(natOf (l.val τ)).bind fun l=>(natOf (c.val τ)).bind fun c=>
      if l≤c∧c*bytes≤140737488355328 then
        match allP zero with
        | some z=>some (.sl σ.length l,σ++[.pv es (List.replicate l z) false])
        | none=>some (.sl σ.length l,σ++[.av es (List.replicate l zero) false])
      else none
  | .append es bytes x y=>(srcOf σ es (y.val τ)).bind fun new=>appendRows σ es bytes (x.val τ) new
  | op=>(quiet σ τ op).map fun v=>(v,σ)
def St.put (st:St) (d:Option Nat) (v:AV):Option St :=
  match d with
  | none=>some st
  | some d=>if d<st.nt then some { st with τ:=upd st.τ d v } else none
structure Prog where
  fn:FuncId→Option AFn
  prim:FuncId→Option (List AV→Store→Option (AV×Store)):=fun _=>none
def resV (σ:Store) (τ:Tm):RV→Option AV
  | .tmp t=>some (τ.get t)
  | .cell t size agg=>loadV σ size agg (τ.get t)
def resultOf (rs:List RV) (σ:Store) (τ:Tm):Option AV :=
  (omap (resV σ τ) rs).map fun vs=>match vs with
    | [v]=>v
    | vs=>mkTup vs
def number {α:Type}:Nat→List α→List (Nat×α)
  | _,[]=>[]
  | n,a :: r=>(n,a) :: number (n+1) r
def enterTm (args:List AV):Tm:=tm (number 0 args)
def wantedOp (τ:Tm):Option (Nat×Bool)→Option Bool
  | none=>some true
  | some (t,want)=>match τ.get t with
    | .p (.bool b)=>some (b == want)
    | .p (.tup [])=>some false
    | _=>none
def purePrim (g:List PV→Option PV) (args:List AV) (σ:Store):Option (AV×Store) :=
  (omap (purify σ depth) args).bind fun ps=>(g ps).map fun r=>(.p r,freezeFor σ args r)
def cmpStr (a b:ByteArray):Int:=if a.toList=b.toList then 0 else if Op.bytesLess a.toList b.toList then -1 else 1
def primCompare:List PV→Option PV
  | [.str a,.str b]=>some (.int .i64 (cmpStr a b))
  | _=>none
def fnOf:AV→Option (FuncId×List AV)
  | .p (.fn f cap)=>some (f,cap.map .p)
  | .fn f cap=>some (f,cap)
  | _=>none
def aroundOk (rd:Option Nat) (σ:Store):Bool :=
  match rd with
  | none=>true
  | some l=>match σ[l]? with
    | some (.loop ..)=>true
    | _=>false
def nodup:List Nat→Bool
  | []=>true
  | a :: r=>!r.contains a && nodup r
def pureRead (τ:Tm) (o:IOp):Bool :=
  let c (x:O):Bool:=match x.val τ with | .p _=>true | _=>false
  match o.op with
  | .load _ _ x | .iadrS _ x _ | .lenS x | .lenM x | .b2s x | .lookup _ _ x _ _ | .slcS _ x _ _ _=>c x
  | _=>false
def noNils:AV→Bool
  | .nils=>false
  | .agg cs=>cs.all fun c=>match c with | .nils=>false | _=>true
  | _=>true
def blkOf (τ:Tm) (o:IOp):Option Nat :=
  match o.op with
  | .store _ a v=>match a.val τ with
    | .ptr b _ _ _=>if noNils (v.val τ) then some b else none
    | _=>none
  | .iadrS _ x _=>match x.val τ with
    | .sl b _=>some b
    | _=>none
  | _=>none
def apartOk (τ:Tm) (x y:IOp):Bool :=
  pureRead τ x || pureRead τ y || match blkOf τ x,blkOf τ y with
    | some b,some b'=>b != b'
    | _,_=>false
def regOk (ops:List IOp) (prs:List (Nat×Nat)) (τ:Tm):Bool :=
  prs.all fun ij=>match ops[ij.1]?,ops[ij.2]? with
    | some x,some y=>apartOk τ x y
    | _,_=>false
mutual
def exec (P:Prog) (c:K) (st:St):Option (Ex×St) :=
  match c with
  | .skip=>some (.normal,st)
  | .regD ops prs=>do
    let st' ← execOps P ops st
    if regOk ops prs st'.τ then some (.normal,st') else none
  | .reg _ ops=>do
    let st' ← execOps P ops st
    some (.normal,st')
  | .seq a b=>do
    let (e,st') ← exec P a st
    match e with
    | .normal=>exec P b st'
    | e=>some (e,st')
  | .cond c a b=>do
    let t ← boolOf (c.val st.τ)
    if t then exec P a st else exec P b st
  | .block id b=>do
    let (e,st') ← exec P b st
    match e with
    | .exit i=>if i=id then some (.normal,st') else some (.exit i,st')
    | e=>some (e,st')
  | .loop lv b=>do
    let (e,st') ← exec P b { st with τ:=st.τ.keep lv }
    match e with
    | .normal=>exec P (.loop lv b) { st' with τ:=st'.τ.keep lv,σ:=gc st.σ.length (lv.map st'.τ.get) st'.σ }
    | e=>some (e,st')
  | .range g ps lv asg b=>do
    let (f,cap) ← fnOf (g.val st.τ)
    let fn ← P.fn f
    if aroundOk st.rd st.σ && (nodup ps && ps.all (· < st.nt)) then do
      let (_,σ') ← call P fn (.yield st.σ.length :: cap) (st.σ++[.loop (st.τ.kept lv) st.nt ps asg b none])
      match σ'[st.σ.length]? with
      | some (.loop _ _ _ _ _ none)=>some (.normal,{ st with σ:=gc st.σ.length [] (σ'.set st.σ.length .gone) })
      | some (.loop _ _ _ _ _ (some .normal))=>none
      | some (.loop _ _ _ _ _ (some e))=>some (e,{ st with σ:=gc st.σ.length [] (σ'.set st.σ.length .gone) })
      | _=>none
    else none
  | .exit id=>some (.exit id,st)
  | .ret=>some (.ret,st)
  | .bad _=>none
  partial_fixpoint
def execOps (P:Prog) (ops:List IOp) (st:St):Option St :=
  match ops with
  | []=>some st
  | o :: r=>do
    let w ← wantedOp st.τ o.guard
    if w then do
      let (v,σ') ← match o.op with
        | .callf f args=>callF P f (args.map (·.val st.τ)) st.σ
        | .callv x args=>callV P (x.val st.τ) (args.map (·.val st.τ)) st.σ
        | .calli f args=>do
          let fn ← P.fn f
          call P fn (args.map (·.val st.τ)) st.σ
        | op=>plain st.σ st.τ op
      let st' ← St.put { st with σ:=σ' } o.dst v
      execOps P r st'
    else do
      let st' ← st.put o.dst (.p (.tup []))
      execOps P r st'
  partial_fixpoint
def callF (P:Prog) (f:FuncId) (args:List AV) (σ:Store):Option (AV×Store) :=
  match P.prim f with
  | some g=>g args σ
  | none=>do
    let fn ← P.fn f
    if fn.imp then call P fn args σ
    else do
      let ps ← omap (purify σ depth) args
      let (v,σ') ← call P fn (ps.map .p) []
      let r ← purify σ' depth v
      some (.p r,freezeFor σ args r)
  partial_fixpoint
def callV (P:Prog) (g:AV) (args:List AV) (σ:Store):Option (AV×Store) :=
  match g with
  | .p (.fn f cap)=>callF P f (args++cap.map .p) σ
  | .fn f cap=>callF P f (args++cap) σ
  | .yield l=>round P l args σ
  | _=>none
  partial_fixpoint
def call (P:Prog) (fn:AFn) (args:List AV) (σ:Store):Option (AV×Store) :=
  if args.length≤fn.ntmps then do
    let (e,st) ← exec P fn.body { τ:=enterTm args,σ:=σ,nt:=fn.ntmps }
    match e with
    | .exit _=>none
    | _=>do
      let v ← resultOf fn.results st.σ st.τ
      some (v,gc σ.length [v] st.σ)
  else none
  partial_fixpoint
def round (P:Prog) (l:Nat) (args:List AV) (σ:Store):Option (AV×Store) :=
  match σ[l]? with
  | some (.loop τ nt ps asg b none)=>
    if ps.length=args.length∧nodup ps=true∧ps.all (· < nt)=true then do
      let (e,st) ← exec P asg { τ:=tm (ps.zip args++τ),σ:=σ,nt:=nt,rd:=some l }
      match e with
      | .normal=>
        match st.σ[l]? with
        | some (.loop τ1 nt1 ps1 asg1 b1 none)=>do
          let (e,st) ← exec P b { st with σ:=st.σ.set l (.loop τ1 nt1 ps1 asg1 b1 (some .normal)) }
          match st.σ[l]? with
          | some (.loop τ2 nt2 ps2 asg2 b2 (some .normal))=>
            some (.p (.bool (e matches .normal)),gc σ.length [] (st.σ.set l (.loop τ2 nt2 ps2 asg2 b2 (match e with | .normal=>none | e=>some e))))
          | _=>none
        | _=>none
      | _=>none
    else none
  | _=>none
  partial_fixpoint
end
def tySize (p:Program) (t:TypeId):Option Nat:=(p.info? t).map (·.size)
def tyBytes (p:Program) (t:TypeId):Option Nat:=(p.info? t).map (·.bytes)
def tyAgg (p:Program) (t:TypeId):Option Bool:=(p.underlying t).map fun d=>match d with | .struct _ | .array _ _=>true | _=>false
def tyElem (p:Program) (t:TypeId):Option TypeId:=match p.underlying t with | some (.slice e)=>some e | _=>none
def absP:Value→Option PV
  | .bool b=>some (.bool b)
  | .int k n=>some (.int k n)
  | .string s=>some (.str s)
  | .pointer none=>some .nilp
  | .map none=>some .nilm
  | .nilFunc=>some .nilf
  | _=>none
def absCell (v:Value):Option AV :=
  match v with
  | .slice none 0 0=>some .nils
  | v=>(absP v).map .p
def absV (v:Value):Option AV :=
  match v with
  | .agg cs=>(omap absCell cs.toList).map mkAgg
  | v=>absCell v
def opd:Operand→Option O
  | .tmp t=>some (.t t)
  | .const v=>(absV v).map .c
  | .func f=>some (.c (.p (.fn f [])))
  | .global _=>none
def zeroCells (p:Program) (t:TypeId):Option (List AV):=(p.info? t).bind fun i=>i.zero.bind fun z=>omap absCell z.cells.toList
structure Adv where
  wr:List Nat:=[]
  eager:List Nat:=[]
  lst:List Nat:=[]
  im:List Nat:=[]
  fz:List Nat:=[]
  l0:List Nat:=[]
  deriving Inhabited
def field? (p:Program) (t:TypeId) (f:Nat):Option Field:=match p.underlying t with | some (.struct fs)=>fs[f]? | _=>none
def partsOf (p:Program) (t:TypeId) (parts:Array (Nat×Operand)):Option (List (Nat×Nat×O)) :=
  match p.underlying t with
  | some (.struct fs)=>(fs.toList.mapM fun f=>(p.info? f.type).map fun i=>(f.offset,i.size)).bind fun places=>omap (fun x:Nat×Operand=>(places[x.1]?).bind fun y=>(opd x.2).map fun o=>(y.1,y.2,o)) parts.toList
  | some (.array _ e)=>(tySize p e).bind fun s=>omap (fun x:Nat×Operand=>(opd x.2).map fun o=>(x.1*s,s,o)) parts.toList
  | _=>none
def optO:Option Operand→Option (Option O)
  | none=>some none
  | some x=>(opd x).map some
def leafOf (p:Program) (t:TypeId):Option Leaf :=
  match p.underlying t with
  | some (.int _)=>some .int
  | some .string=>some .str
  | some .bool=>some .bool
  | _=>none
def leavesFs (rec:TypeId→Option (List Leaf)) (p:Program):List Field→Nat→Option (List Leaf)
  | [],_=>some []
  | f :: r,off=>
    if f.name ≠ "_" ∧ f.offset=off then
      match rec f.type with
      | some l=>if tySize p f.type=some l.length then (leavesFs rec p r (off+l.length)).map (l ++ ·) else none
      | none=>none
    else none
def leavesOf (p:Program):Nat→TypeId→Option (List Leaf)
  | 0,_=>none
  | d+1,t=>
    match p.underlying t with
    | some (.struct fs)=>if p.stoodInHeld t then none else leavesFs (leavesOf p d) p fs.toList 0
    | _=>(leafOf p t).map fun l=>[l]
def compOp (p:Program) (adv:Adv) (o:Oper):Option XOp :=
  match o.op with
  | .move x | .assign x=>(opd x).map fun x=>if (o.dst.any fun d=>adv.fz.contains d)=true then .frz x else .mv x (o.dst.any fun d=>adv.eager.contains d)
  | .pick c a b=>do some (.pick (← opd c) (← opd a) (← opd b))
  | .alloc e=>do
      let z ← zeroCells p e
      let s ← tySize p e
      if z.length=s then some (.alloc z s) else none
  | .box e x=>do
      let s ← tySize p e
      let g ← tyAgg p e
      let x ← opd x
      if g=true∨s=1 then some (.box s g x !(o.dst.any fun d=>adv.wr.contains d)) else none
  | .build t parts=>do some (.build (← zeroCells p t) (← partsOf p t parts))
  | .buildSlice t n parts=>do
      let e ← tyElem p t
      let s ← tySize p e
      let z ← zeroCells p e
      let ps ← omap (fun x:Nat×Operand=>(opd x.2).map fun o=>(x.1,s,o)) parts.toList
      if z.length=s∧0<s∧n*s≤2^24 then some (if (o.dst.any fun d=>adv.lst.contains d)=true then .blist s z n ps else .bslice s z n ps) else none
  | .load t a=>do some (.load (← tySize p t) (← tyAgg p t) (← opd a))
  | .store t a v=>do some (.store (← tySize p t) (← opd a) (← opd v))
  | .nilCheck x=>do some (.nilchk (← opd x))
  | .binOp op t x y _=>do
      let x ← opd x
      let y ← opd y
      match op with
      | .eql=>match p.underlying t with
        | some (.int _) | some .string=>some (.arith op x y)
        | some .bool=>some (.eqB false x y)
        | some (.func ..)=>match y with
          | .c (.p .nilf)=>some (.isnil false x)
          | _=>none
        | some (.struct _)=>if p.eqGuardType p.depth t then none else (leavesOf p 8 t).bind fun lv=>if tySize p t=some lv.length then some (.eqA false lv x y) else none
        | _=>none
      | .neq=>match p.underlying t with
        | some (.int _) | some .string=>some (.arith op x y)
        | some .bool=>some (.eqB true x y)
        | some (.func ..)=>match y with
          | .c (.p .nilf)=>some (.isnil true x)
          | _=>none
        | some (.struct _)=>if p.eqGuardType p.depth t then none else (leavesOf p 8 t).bind fun lv=>if tySize p t=some lv.length then some (.eqA true lv x y) else none
        | _=>none
      | _=>some (.arith op x y)
  | .unOp op _ x=>do
      let x ← opd x
      match op with
      | .not=>some (.not x)
      | .neg=>some (.neg x)
      | .xor=>some (.compl x)
      | .plus=>none
  | .convert s d x=>do
      let x ← opd x
      match p.underlying s,p.underlying d with
      | some (.int _),some (.int k)=>some (.conv k x)
      | some .string,some .string=>some (.convS x)
      | some (.slice e),some .string=>(match p.underlying e with | some (.int .u8)=>some (.b2s x) | _=>none)
      | _,_=>none
  | .makeFunc (.func f) first caps=>do
      if first.isEmpty then some (.mkfn f (← omap opd caps.toList)) else none
  | .makeMap _ none=>some .mkmap
  | .makeSlice t l c=>do
      let e ← tyElem p t
      let s ← tySize p e
      let z ← zeroCells p e
      let b ← tyBytes p e
      let l ← opd l
      let c ← opd c
      if z.length=s∧0<s∧0<b then some (.mkslice s b z l c) else none
  | .slice t x lo hi mx=>do
      let x ← opd x
      let lo ← optO lo
      let hi ← optO hi
      let mx ← optO mx
      match p.underlying t with
      | some .string=>if mx.isSome then none else some (.slcT x lo hi)
      | some (.slice e)=>some (.slcS (← tySize p e) x lo hi mx)
      | some (.array n e)=>do
        let s ← tySize p e
        if 0<s then some (.slcA n s x lo hi mx) else none
      | _=>none
  | .fieldAddr t x f=>do
      let f ← field? p t f
      if (← tySize p f.type)=0 then none else some (.fadr f.offset (← opd x))
  | .field t x f=>do
      let f ← field? p t f
      some (.fld f.offset (← tySize p f.type) (← tyAgg p f.type) (← opd x))
  | .indexAddr t x i=>do
      match p.underlying t with
      | some (.array n e)=>some (.iadrA n (← tySize p e) (← opd x) (← opd i))
      | some (.slice e)=>some (.iadrS (← tySize p e) (← opd x) (← opd i))
      | _=>none
  | .index t x i=>do
      match p.underlying t with
      | some (.array n e)=>some (.idxA n (← tySize p e) (← tyAgg p e) (← opd x) (← opd i))
      | some .string=>some (.idxS (← opd x) (← opd i))
      | _=>none
  | .lookup t x i ok=>do
      match p.underlying t with
      | some (.map k e)=>some (.lookup (← leafOf p k) (← (p.info? e).bind fun i=>i.zero.bind absV) (← opd x) (← opd i) ok)
      | _=>none
  | .mapUpdate t m k v=>do
      match p.underlying t with
      | some (.map kt _)=>some (.mupd (← leafOf p kt) (← opd m) (← opd k) (← opd v))
      | _=>none
  | .extract x k=>do some (.extract (← opd x) k)
  | .call c=>
    match c.callee with
    | .value (.func f)=>do
      let as ← omap opd c.args.toList
      some (if (o.dst.any fun d=>adv.im.contains d)=true then .calli f as else .callf f as)
    | .value x=>do some (.callv (← opd x) (← omap opd c.args.toList))
    | .builtin .len=>match c.argTypes[0]?.bind p.underlying,c.args[0]? with
      | some (.array n _),some _=>some (.lenA n)
      | some (.pointer a),some _=>match p.underlying a with
        | some (.array n _)=>some (.lenA n)
        | _=>none
      | some .string,some x=>(opd x).map .lenT
      | some (.slice _),some x=>(opd x).map .lenS
      | some (.map _ _),some x=>(opd x).map .lenM
      | _,_=>none
    | .builtin .append=>match c.argTypes[0]?.bind (tyElem p),c.args[0]?,c.args[1]?,c.argTypes[1]?.bind p.underlying with
      | some e,some x,some y,some d=>match d with
        | .int _=>none
        | _=>do
          let s ← tySize p e
          let b ← tyBytes p e
          let z ← zeroCells p e
          let x ← opd x
          let y ← opd y
          if z.length=s∧0<s∧0<b then some (.append s b x y) else none
      | _,_,_,_=>none
    | .builtin .min=>do some (.minmax false (← omap opd c.args.toList))
    | .builtin .max=>do some (.minmax true (← omap opd c.args.toList))
    | _=>none
  | _=>none
def O.reads:O→List Nat
  | .t n=>[n]
  | _=>[]
def optReads:Option O→List Nat
  | some o=>o.reads
  | none=>[]
def XOp.reads:XOp→List Nat
  | .mv x _ | .init _ _ x _ | .box _ _ x _ | .load _ _ x | .not x | .neg x | .compl x | .conv _ x | .convS x | .b2s x | .fadr _ x | .fld _ _ _ x | .extract x _ | .lenS x | .lenT x | .lenM x | .nilchk x | .frz x | .isnil _ x=>x.reads
  | .pick a b c=>a.reads++b.reads++c.reads
  | .build _ ps | .bslice _ _ _ ps | .blist _ _ _ ps=>ps.flatMap fun x=>x.2.2.reads
  | .store _ a v | .arith _ a v | .eqB _ a v | .eqA _ _ a v | .iadrA _ _ a v | .iadrS _ a v | .idxA _ _ _ a v | .idxS a v | .lookup _ _ a v _ | .append _ _ a v | .copy _ a v | .mkslice _ _ _ a v=>a.reads++v.reads
  | .slcS _ x l h m | .slcA _ _ x l h m=>x.reads++optReads l++optReads h++optReads m
  | .slcT x l h=>x.reads++optReads l++optReads h
  | .mupd _ a b c=>a.reads++b.reads++c.reads
  | .callf _ as | .calli _ as | .minmax _ as | .mkfn _ as=>as.flatMap O.reads
  | .callv x as=>x.reads++as.flatMap O.reads
  | .alloc .. | .mkmap | .lenA _ | .bad _=>[]
def IOp.looks (o:IOp):List Nat:=(match o.guard with | some (t,_)=>[t] | none=>[])++o.op.reads
inductive Kind where
  | q0 | q | c | a | w
  deriving DecidableEq
def XOp.kind (cq:FuncId→Bool):XOp→Kind
  | .mv _ false | .pick .. | .arith .. | .eqB .. | .eqA .. | .convS _ | .lenT _ | .not _ | .neg _ | .compl _ | .conv .. | .fadr .. | .fld .. | .iadrA .. | .idxA .. | .idxS .. | .slcT .. | .extract .. | .lenA _ | .minmax .. | .mkfn .. | .nilchk _ | .isnil .. | .build .. | .blist ..=>.q0
  | .load .. | .iadrS .. | .slcS .. | .lookup .. | .lenS _ | .lenM _ | .b2s _=>.q
  | .callf f _=>if cq f then .c else .w
  | .mv _ true | .alloc .. | .init .. | .box .. | .bslice .. | .mkmap | .mkslice ..=>.a
  | _=>.w
def kindsOk:Kind→Kind→Bool
  | .q0,_ | _,.q0=>true
  | .q,.q | .q,.c | .c,.q | .c,.c | .q,.a | .c,.a=>true
  | _,_=>false
def indep (cq:FuncId→Bool) (x y:IOp):Bool :=
  x.dst.all (fun d=>!y.looks.contains d) && y.dst.all (fun d=>!x.looks.contains d && x.dst != some d) && kindsOk (x.op.kind cq) (y.op.kind cq)
def befores:List Oper→List (List Nat)→List (List Nat)
  | [],acc=>acc
  | o :: r,acc=>
    let d:=o.after.toList.filterMap fun e=>if Region.binds .any e then some e.on else none
    befores r (acc++[(d++d.flatMap fun j=>acc.getD j []).eraseDups])
def drawOk (cq:FuncId→Bool) (ops:List Oper) (is:List IOp):Bool :=
  let b:=befores ops []
  (ops.zipIdx.all fun (o,i)=>o.after.all fun e=>!Region.binds .any e || e.on<i) &&
  is.zipIdx.all fun (y,j)=>is.zipIdx.all fun (x,i)=>!(i<j) || (b.getD j []).contains i || indep cq x y
def indepD (x y:IOp):Bool:=x.dst.all (fun d=>!y.looks.contains d) && y.dst.all (fun d=>!x.looks.contains d && x.dst != some d)
def drawPairs (cq:FuncId→Bool) (ops:List Oper) (is:List IOp):List (Nat×Nat) :=
  let b:=befores ops []
  is.zipIdx.flatMap fun (y,j)=>is.zipIdx.filterMap fun (x,i)=>if !(i<j) || (b.getD j []).contains i || indep cq x y then none else some (i,j)
def drawDyn (cq:FuncId→Bool) (ops:List Oper) (is:List IOp) (prs:List (Nat×Nat)):Bool :=
  let b:=befores ops []
  (ops.zipIdx.all fun (o,i)=>o.after.all fun e=>!Region.binds .any e || e.on<i) &&
  (is.zipIdx.all fun (y,j)=>is.zipIdx.all fun (x,i)=>j<i || (match x.op.kind cq with | .q0=>true | _=>false) || y.dst.all fun d=>!x.looks.contains d) &&
  is.zipIdx.all fun (y,j)=>is.zipIdx.all fun (x,i)=>!(i<j) || (b.getD j []).contains i || indep cq x y || (indepD x y && prs.contains (i,j))
def compI (p:Program) (adv:Adv) (ops:Array Oper) (o:Oper):IOp :=
  { dst:=o.dst
    op:=(compOp p adv o).getD (.bad "")
    guard:=o.guard.map fun (j,w)=>(((ops[j]?).bind (·.dst)).getD 1000000,w) }
def isTmp:Operand→Nat→Bool
  | .tmp t,d=>t == d
  | _,_=>false
def fuse (p:Program) (adv:Adv) (ops:Array Oper):List Oper→List IOp
  | []=>[]
  | [o]=>[compI p adv ops o]
  | o :: o' :: r=>
    match o.op,o.dst,o.guard,o'.op,o'.dst,o'.guard with
    | .alloc e,some d,none,.store e' (.tmp d') v,none,none=>
      if e == e' && d == d' then
        match tySize p e,tyAgg p e,opd v,zeroCells p e with
        | some s,some g,some x,some z=>if ((g=true∨s=1)∧z.length=s)∧isTmp v d=false then { dst:=some d,op:=.init s g x !(adv.wr.contains d),guard:=none } :: fuse p adv ops r else compI p adv ops o :: fuse p adv ops (o' :: r)
        | _,_,_,_=>compI p adv ops o :: fuse p adv ops (o' :: r)
      else compI p adv ops o :: fuse p adv ops (o' :: r)
    | _,_,_,_,_,_=>compI p adv ops o :: fuse p adv ops (o' :: r)
def uni (a b:List Nat):List Nat:=a++b.filter fun x=>!a.contains x
def liveOps:List IOp→List Nat→List Nat
  | [],out=>out
  | o :: r,out=>
    let l:=liveOps r out
    let l:=match o.dst with | some d=>l.filter (· != d) | none=>l
    uni ((match o.guard with | some (t,_)=>[t] | none=>[])++o.op.reads).eraseDups l
def liveIn (res:List Nat):K→(out:List Nat)→(ex:List (Nat×List Nat))→List Nat
  | .skip,out,_=>out
  | .reg _ ops,out,_=>liveOps ops out
  | .regD ops _,out,_=>liveOps ops out
  | .seq a b,out,ex=>liveIn res a (liveIn res b out ex) ex
  | .cond c a b,out,ex=>uni c.reads (uni (liveIn res a out ex) (liveIn res b out ex))
  | .block id b,out,ex=>liveIn res b out ((id,out) :: ex)
  | .loop _ b,_,ex=>liveIn res b [] ex
  | .range g ps _ asg b,out,ex=>uni g.reads (uni out ((liveIn res asg (liveIn res b [] ex) ex).filter fun t=>!ps.contains t))
  | .exit id,_,ex=>(ex.lookup id).getD []
  | .ret,_,_=>res
  | .bad _,_,_=>[]
def insN (a:Nat):List Nat→List Nat
  | []=>[a]
  | b :: r=>if a≤b then a :: b :: r else b :: insN a r
def sortN:List Nat→List Nat
  | []=>[]
  | a :: r=>insN a (sortN r)
def fillLive (res:List Nat):K→(out:List Nat)→(ex:List (Nat×List Nat))→K
  | .seq a b,out,ex=>.seq (fillLive res a (liveIn res b out ex) ex) (fillLive res b out ex)
  | .cond c a b,out,ex=>.cond c (fillLive res a out ex) (fillLive res b out ex)
  | .block id b,out,ex=>.block id (fillLive res b out ((id,out) :: ex))
  | .loop _ b,_,ex=>
    let l:=sortN (liveIn res b [] ex)
    .loop l (fillLive res b l ex)
  | .range g ps _ asg b,_,ex=>
    let l:=(liveIn res asg (liveIn res b [] ex) ex).filter fun t=>!ps.contains t
    .range g ps (sortN l) (fillLive res asg (liveIn res b [] ex) ex) (fillLive res b [] ex)
  | k,_,_=>k
def compK (p:Program) (cq:FuncId→Bool) (adv:Adv):Code→K
  | .skip=>.skip
  | .region _ ops draw=>
    if draw then
      let adv':Adv:=⟨adv.wr,adv.eager,[],adv.im,adv.fz,[]⟩
      if drawOk cq ops.toList (ops.toList.map (compI p adv' ops)) then .reg true (ops.toList.map (compI p adv' ops))
      else if drawOk cq ops.toList (ops.toList.map (compI p adv ops)) then .reg true (ops.toList.map (compI p adv ops))
      else if drawDyn cq ops.toList (ops.toList.map (compI p adv ops)) (drawPairs cq ops.toList (ops.toList.map (compI p adv ops))) then .regD (ops.toList.map (compI p adv ops)) (drawPairs cq ops.toList (ops.toList.map (compI p adv ops)))
      else .bad "order"
    else .reg false (fuse p ⟨adv.wr,adv.eager,adv.l0,adv.im,adv.fz,[]⟩ ops ops.toList)
  | .seq a b=>.seq (compK p cq adv a) (compK p cq adv b)
  | .cond c a b=>match opd c with
    | some c=>.cond c (compK p cq adv a) (compK p cq adv b)
    | none=>.bad "cond"
  | .block id b=>.block id (compK p cq adv b)
  | .loop b=>.loop [] (compK p cq adv b)
  | .rangeFunc g ps asg b=>match opd g with
    | some g=>.range g ps.toList [] (compK p cq adv asg) (compK p cq adv b)
    | none=>.bad "range"
  | .exit id=>.exit id
  | .scope c=>.seq .skip (compK p cq adv c)
  | .label _=>.skip
  | .goto _=>.bad "goto"
  | .ret=>.ret
  | .refuse why=>.bad why
def resTmps (r:List RV):List Nat:=r.map fun | .tmp t=>t | .cell t _ _=>t
def compFn (p:Program) (cq:FuncId→Bool) (adv:Adv) (imp:Bool) (f:FuncId):Option AFn:=do
  let fn ← p.funcs[f]?
  let c ← fn.body
  let rs ← omap (fun r:ResultVar=>match r with
    | .tmp t=>some (RV.tmp t)
    | .cell a t=>do some (RV.cell a (← tySize p t) (← tyAgg p t))) fn.results.toList
  let k:=compK p cq adv c
  let res:=resTmps rs
  if fn.ntmps≤1000000 then some { ntmps:=fn.ntmps,results:=rs,body:=fillLive res k res [],imp:=imp } else none
variable {P:Prog} {st:St}
theorem exec_skip:exec P .skip st=some (.normal,st):=by rw [exec.eq_def]
theorem exec_regD {ops:List IOp} {prs:List (Nat×Nat)}:exec P (.regD ops prs) st=(execOps P ops st).bind fun st'=>if regOk ops prs st'.τ then some (.normal,st') else none:=by rw [exec.eq_def];rfl
theorem exec_reg {d:Bool} {ops:List IOp}:exec P (.reg d ops) st=(execOps P ops st).bind fun st'=>some (.normal,st'):=by rw [exec.eq_def];rfl
def andThen (P:Prog) (b:K):Option (Ex×St)→Option (Ex×St)
  | some (.normal,st)=>exec P b st
  | some (.ret,st)=>some (.ret,st)
  | some (.exit i,st)=>some (.exit i,st)
  | none=>none
theorem exec_seq {a b:K}:exec P (.seq a b) st=andThen P b (exec P a st):=by
  rw [exec.eq_def]
  dsimp only
  cases h:exec P a st with
  | none=>rfl
  | some x=>obtain ⟨e,st'⟩:=x;cases e<;>rfl
theorem andThen_normal {b:K}:andThen P b (some (.normal,st))=exec P b st:=rfl
theorem andThen_ret {b:K}:andThen P b (some (.ret,st))=some (.ret,st):=rfl
theorem andThen_exit {b:K} {i:Nat}:andThen P b (some (.exit i,st))=some (.exit i,st):=rfl
theorem exec_cond {c:O} {a b:K}:exec P (.cond c a b) st=(boolOf (c.val st.τ)).bind fun t=>if t then exec P a st else exec P b st:=by rw [exec.eq_def];rfl
def inBlock (id:Nat):Option (Ex×St)→Option (Ex×St)
  | some (.exit i,st)=>if i=id then some (.normal,st) else some (.exit i,st)
  | r=>r
theorem exec_block {id:Nat} {b:K}:exec P (.block id b) st=inBlock id (exec P b st):=by
  rw [exec.eq_def]
  dsimp only
  cases h:exec P b st with
  | none=>rfl
  | some x=>obtain ⟨e,st'⟩:=x;cases e<;>rfl
theorem inBlock_normal {id:Nat}:inBlock id (some (.normal,st))=some (.normal,st):=rfl
theorem inBlock_ret {id:Nat}:inBlock id (some (.ret,st))=some (.ret,st):=rfl
theorem inBlock_exit {id i:Nat}:inBlock id (some (.exit i,st))=if i=id then some (.normal,st) else some (.exit i,st):=rfl
def loopBack (P:Prog) (lv:List Nat) (b:K) (n:Nat):Option (Ex×St)→Option (Ex×St)
  | some (.normal,st)=>exec P (.loop lv b) { st with τ:=st.τ.keep lv,σ:=gc n (lv.map st.τ.get) st.σ }
  | some (.ret,st)=>some (.ret,st)
  | some (.exit i,st)=>some (.exit i,st)
  | none=>none
theorem exec_loop {lv:List Nat} {b:K}:exec P (.loop lv b) st=loopBack P lv b st.σ.length (exec P b { st with τ:=st.τ.keep lv }):=by
  rw [exec.eq_def]
  dsimp only
  cases h:exec P b { st with τ:=st.τ.keep lv } with
  | none=>rfl
  | some x=>obtain ⟨e,st'⟩:=x;cases e<;>rfl
theorem exec_exit {id:Nat}:exec P (.exit id) st=some (.exit id,st):=by rw [exec.eq_def]
theorem exec_ret:exec P .ret st=some (.ret,st):=by rw [exec.eq_def]
def opRes (P:Prog) (σ:Store) (τ:Tm):XOp→Option (AV×Store)
  | .callf f args=>callF P f (args.map (·.val τ)) σ
  | .callv x args=>callV P (x.val τ) (args.map (·.val τ)) σ
  | .calli f args=>(P.fn f).bind fun fn=>call P fn (args.map (·.val τ)) σ
  | op=>plain σ τ op
theorem execOps_nil:execOps P [] st=some st:=by rw [execOps.eq_def]
theorem execOps_cons {o:IOp} {r:List IOp}:execOps P (o :: r) st=(wantedOp st.τ o.guard).bind fun w=>
    if w then (opRes P st.σ st.τ o.op).bind fun x=>(St.put { st with σ:=x.2 } o.dst x.1).bind (execOps P r)
    else (st.put o.dst (.p (.tup []))).bind (execOps P r):=by
  rw [execOps.eq_def]
  dsimp only
  cases hw:wantedOp st.τ o.guard with
  | none=>rfl
  | some w=>
    cases w with
    | false=>rfl
    | true=>
      simp only [Option.bind_eq_bind,Option.bind_some,if_true,opRes]
      cases o.op<;>first
        | rfl
        | (rename_i f args
           dsimp only
           cases P.fn f<;>rfl)
inductive PRel (w:World) (ok:Nat→Prop):PV→Value→Prop
  | int (k:IntKind) (n:Int):PRel w ok (.int k n) (.int k n)
  | bool (b:Bool):PRel w ok (.bool b) (.bool b)
  | str (s:ByteArray):PRel w ok (.str s) (.string s)
  | nilp:PRel w ok .nilp (.pointer none)
  | nilf:PRel w ok .nilf .nilFunc
  | nilm:PRel w ok .nilm (.map none)
  | agg (cs:List PV) (vs:List Value) (hl:cs.length=vs.length) (h1:∀ v∈vs,v.oneCell'=true) (h:∀ (i:Nat) (p:PV) (v:Value),cs[i]? = some p→vs[i]? = some v→PRel w ok p v):PRel w ok (.agg cs) (.agg vs.toArray)
  | tup (cs:List PV) (vs:List Value) (hl:cs.length=vs.length) (h:∀ (i:Nat) (p:PV) (v:Value),cs[i]? = some p→vs[i]? = some v→PRel w ok p v):PRel w ok (.tup cs) (.tuple vs.toArray)
  | lst0 (a:Option Addr) (c:Nat):PRel w ok (.lst []) (.slice a 0 c)
  | lst (rows:List (List PV)) (r off c es:Nat) (cv:Nat→Value) (hr:rows≠[]) (hok:ok r) (hc:rows.length≤c) (hes:∀ x∈rows,x.length=es)
      (hcell:∀ k,k<rows.length*es→w.cell? ⟨r,off+k,none⟩=some (cv k)) (hone:∀ k,k<rows.length*es→(cv k).oneCell'=true) (h:∀ (k:Nat) (p:PV),rows.flatten[k]? = some p→PRel w ok p (cv k)):PRel w ok (.lst rows) (.slice (some ⟨r,off,none⟩) rows.length c)
  | ptr (row:List PV) (o r off:Nat) (cv:Nat→Value) (hok:ok r)
      (hcell:∀ k,k<row.length→w.cell? ⟨r,off+k,none⟩=some (cv k)) (hone:∀ k,k<row.length→(cv k).oneCell'=true) (h:∀ (k:Nat) (p:PV),row[k]? = some p→PRel w ok p (cv k)):PRel w ok (.ptr row o) (.pointer (some ⟨r,off+o,none⟩))
  | fn (f:FuncId) (cs:List PV) (vs:List Value) (hl:cs.length=vs.length) (h:∀ (i:Nat) (p:PV) (v:Value),cs[i]? = some p→vs[i]? = some v→PRel w ok p v):PRel w ok (.fn f cs) (.func (.func f) #[] vs.toArray)
  | pmap (es:List (PV×PV)) (r:Nat) (en:Array MapEntry) (clock:Nat) (hok:ok r) (hm:w.heap[r]? = some (.map en clock)) (hl:es.length=en.size)
      (hk:∀ (i:Nat) (p:PV×PV) (e:MapEntry),es[i]? = some p→en[i]? = some e→PRel w ok p.1 e.key)
      (h:∀ (i:Nat) (p:PV×PV) (e:MapEntry),es[i]? = some p→en[i]? = some e→PRel w ok p.2 e.val):PRel w ok (.pmap es) (.map (some r))
theorem cell_congr {w w':World} {a:Addr} (h:w'.heap[a.block]? = w.heap[a.block]?):w'.cell? a=w.cell? a:=by
  unfold World.cell?;rw [h]
theorem PRel.mono {w w':World} {ok ok':Nat→Prop} (h1:∀ b,ok b→ok' b) (h2:∀ b,ok b→w'.heap[b]? = w.heap[b]?) {p:PV} {v:Value} (h:PRel w ok p v):PRel w' ok' p v:=by
  induction h with
  | int k n=>exact .int k n
  | bool b=>exact .bool b
  | str s=>exact .str s
  | nilp=>exact .nilp
  | nilf=>exact .nilf
  | nilm=>exact .nilm
  | agg cs vs hl h1 _ ih=>exact .agg cs vs hl h1 ih
  | tup cs vs hl _ ih=>exact .tup cs vs hl ih
  | lst0 a c=>exact .lst0 a c
  | lst rows r off c es cv hr hok hc hes hcell hone _ ih=>exact .lst rows r off c es cv hr (h1 _ hok) hc hes (fun k hk=>by rw [cell_congr (h2 _ hok)];exact hcell k hk) hone ih
  | ptr row o r off cv hok hcell hone _ ih=>exact .ptr row o r off cv (h1 _ hok) (fun k hk=>by rw [cell_congr (h2 _ hok)];exact hcell k hk) hone ih
  | fn f cs vs hl _ ih=>exact .fn f cs vs hl ih
  | pmap es r en clock hok hm hl _ _ ihk ihv=>exact .pmap es r en clock (h1 _ hok) (by rw [h2 _ hok];exact hm) hl ihk ihv
theorem PRel.flat {w w':World} {ok ok':Nat→Prop} {p:PV} {v:Value} (h:PRel w ok p v) (hf:p.flat=true):PRel w' ok' p v:=by
  induction h with
  | int k n=>exact .int k n
  | bool b=>exact .bool b
  | str s=>exact .str s
  | nilp=>exact .nilp
  | nilf=>exact .nilf
  | nilm=>exact .nilm
  | agg cs vs hl h1 _ ih=>
    refine .agg cs vs hl h1 fun i p v hp hv=>ih i p v hp hv ?_
    simp only [PV.flat,List.all_eq_true] at hf
    exact hf ⟨p,List.mem_of_getElem? hp⟩ (by simp)
  | tup cs vs hl _ ih=>
    refine .tup cs vs hl fun i p v hp hv=>ih i p v hp hv ?_
    simp only [PV.flat,List.all_eq_true] at hf
    exact hf ⟨p,List.mem_of_getElem? hp⟩ (by simp)
  | lst0 a c=>exact .lst0 a c
  | lst rows r off c es cv hr=>simp [PV.flat,hr] at hf
  | ptr=>simp [PV.flat] at hf
  | fn=>simp [PV.flat] at hf
  | pmap=>simp [PV.flat] at hf
structure Loc where
  blk:Option Nat
  cap:Nat
  deriving Inhabited
def Loc.addr (l:Loc):Option Addr:=l.blk.map fun r=>⟨r,0,none⟩
inductive Sh where
  | vec (es n:Nat)
  | map
  | loop
  | gone
def Obj.sh:Obj→Sh
  | .pv es rows _=>.vec es rows.length
  | .av es rows _=>.vec es rows.length
  | .map _ _=>.map
  | .loop ..=>.loop
  | .gone=>.gone
structure View where
  own:List Loc
  σ:Store
  ok:Nat→Prop
  w:World
def View.sh (V:View) (b:Nat):Option Sh:=V.σ[b]?.map Obj.sh
inductive VRel (V:View):AV→Value→Prop
  | any (v:Value):VRel V .any v
  | p {p:PV} {v:Value} (h:PRel V.w V.ok p v):VRel V (.p p) v
  | nils (a:Option Addr):VRel V .nils (.slice a 0 0)
  | sl (b n:Nat) (a:Option Addr) (c:Nat) (s:Sh) (hs:V.sh b=some s) (hn:∀ es m,s=.vec es m→n≤m)
      (h:∀ es l,s=.vec es n→V.own[b]? = some l→(l.cap≠0→a=l.addr)∧c=l.cap):VRel V (.sl b n) (.slice a n c)
  | ptr (b n i o:Nat) (a:Addr) (s:Sh) (hs:V.sh b=some s) (hn:∀ es m,s=.vec es m→n≤m)
      (h:∀ es l,s=.vec es n→V.own[b]? = some l→i<n→∃ r,l.blk=some r∧a=⟨r,i*es+o,none⟩):VRel V (.ptr b n i o) (.pointer (some a))
  | fn (f:FuncId) (cs:List AV) (vs:List Value) (hl:cs.length=vs.length) (h:∀ (i:Nat) (p:AV) (v:Value),cs[i]? = some p→vs[i]? = some v→VRel V p v):VRel V (.fn f cs) (.func (.func f) #[] vs.toArray)
  | yield (l r:Nat) (s:Sh) (hs:V.sh l=some s) (h:s=.loop→∀ x,V.own[l]? = some x→x.blk=some r):VRel V (.yield l) (.func (.yield r) #[] #[])
  | agg (cs:List AV) (vs:List Value) (hl:cs.length=vs.length) (h1:∀ v∈vs,v.oneCell'=true) (h:∀ (i:Nat) (p:AV) (v:Value),cs[i]? = some p→vs[i]? = some v→VRel V p v):VRel V (.agg cs) (.agg vs.toArray)
  | tup (cs:List AV) (vs:List Value) (hl:cs.length=vs.length) (h:∀ (i:Nat) (p:AV) (v:Value),cs[i]? = some p→vs[i]? = some v→VRel V p v):VRel V (.tup cs) (.tuple vs.toArray)
  | map (b r:Nat) (s:Sh) (hs:V.sh b=some s) (h:s=.map→∀ x,V.own[b]? = some x→x.blk=some r):VRel V (.map b) (.map (some r))
def Sh.le (s s':Sh) (same:Prop):Prop :=
  match s,s' with
  | _,.gone=>True
  | .vec es n,.vec es' n'=>(n=n'∧(n=0∨es=es')∧same)∨n<n'
  | .map,.map=>same
  | .loop,.loop=>same
  | _,_=>False
structure Ext (V V':View):Prop where
  ok:∀ b,V.ok b→V'.ok b
  keep:∀ b,V.ok b→V'.w.heap[b]? = V.w.heap[b]?
  sh:∀ b s,V.sh b=some s→∃ s',V'.sh b=some s'∧s.le s' (V'.own[b]? = V.own[b]?)
theorem Sh.le_refl (s:Sh) {P:Prop} (h:P):s.le s P:=by cases s<;>simp [Sh.le,h]
theorem Ext.refl (V:View):Ext V V:=⟨fun _ h=>h,fun _ _=>rfl,fun _ s h=>⟨s,h,s.le_refl rfl⟩⟩
theorem Sh.le_trans {s t u:Sh} {P Q R:Prop} (h:s.le t P) (h':t.le u Q) (hr:P→Q→R):s.le u R:=by
  cases s<;>cases t<;>cases u<;>simp only [Sh.le] at h h' ⊢<;>first
    | trivial
    | exact h.elim
    | exact h'.elim
    | exact hr h h'
    | skip
  rcases h with ⟨rfl,hes,hp⟩ | h
  · rcases h' with ⟨rfl,hes',hq⟩ | h'
    · left
      refine ⟨rfl,?_,hr hp hq⟩
      rcases hes with h | rfl
      · exact .inl h
      · exact hes'
    · exact .inr h'
  · rcases h' with ⟨rfl,_,_⟩ | h'
    · exact .inr h
    · exact .inr (Nat.lt_trans h h')
theorem Ext.trans {V V' V'':View} (h:Ext V V') (h':Ext V' V''):Ext V V'' where
  ok b hb:=h'.ok b (h.ok b hb)
  keep b hb:=(h'.keep b (h.ok b hb)).trans (h.keep b hb)
  sh b s hs:=by
    obtain ⟨t,ht,l1⟩:=h.sh b s hs
    obtain ⟨u,hu,l2⟩:=h'.sh b t ht
    exact ⟨u,hu,Sh.le_trans l1 l2 fun a b=>b.trans a⟩
theorem Sh.le_vec {es n:Nat} {s:Sh} {P:Prop} (h:(Sh.vec es n).le s P):(∃ es',s=.vec es' n∧(n=0∨es=es')∧P)∨(∃ es' n',s=.vec es' n'∧n<n')∨s=.gone:=by
  cases s<;>simp [Sh.le] at h<;>first
    | (rcases h with ⟨rfl,a,b⟩ | h
       · exact .inl ⟨_,rfl,a,b⟩
       · exact .inr (.inl ⟨_,_,rfl,h⟩))
    | exact .inr (.inr rfl)
theorem VRel.mono {V V':View} (e:Ext V V') {a:AV} {v:Value} (h:VRel V a v):VRel V' a v:=by
  induction h with
  | any v=>exact .any v
  | p h=>exact .p (h.mono e.ok e.keep)
  | nils a=>exact .nils a
  | sl b n a c s hs hn h=>
    obtain ⟨s',hs',hle⟩:=e.sh b s hs
    refine .sl b n a c s' hs' ?_ ?_
    · intro es m hm
      subst hm
      cases s with
      | vec es0 m0=>
        have h0:=hn es0 m0 rfl
        rcases Sh.le_vec hle with ⟨es',he,_⟩ | ⟨es',n',he,hlt⟩ | he
        · cases he;exact h0
        · cases he;omega
        · cases he
      | map=>simp [Sh.le] at hle
      | loop=>simp [Sh.le] at hle
      | gone=>simp [Sh.le] at hle
    · intro es l hm hl
      subst hm
      cases s with
      | vec es0 m0=>
        have h0:=hn es0 m0 rfl
        rcases Sh.le_vec hle with ⟨es',he,_,hsame⟩ | ⟨es',n',he,hlt⟩ | he
        · cases he
          exact h es0 l rfl (by rw [← hsame];exact hl)
        · cases he;omega
        · cases he
      | map=>simp [Sh.le] at hle
      | loop=>simp [Sh.le] at hle
      | gone=>simp [Sh.le] at hle
  | ptr b n i o a s hs hn h=>
    obtain ⟨s',hs',hle⟩:=e.sh b s hs
    refine .ptr b n i o a s' hs' ?_ ?_
    · intro es m hm
      subst hm
      cases s with
      | vec es0 m0=>
        have h0:=hn es0 m0 rfl
        rcases Sh.le_vec hle with ⟨es',he,_⟩ | ⟨es',n',he,hlt⟩ | he
        · cases he;exact h0
        · cases he;omega
        · cases he
      | map=>simp [Sh.le] at hle
      | loop=>simp [Sh.le] at hle
      | gone=>simp [Sh.le] at hle
    · intro es l hm hl hi
      subst hm
      cases s with
      | vec es0 m0=>
        have h0:=hn es0 m0 rfl
        rcases Sh.le_vec hle with ⟨es',he,hes,hsame⟩ | ⟨es',n',he,hlt⟩ | he
        · cases he
          rcases hes with hz | rfl
          · omega
          · exact h es0 l rfl (by rw [← hsame];exact hl) hi
        · cases he;omega
        · cases he
      | map=>simp [Sh.le] at hle
      | loop=>simp [Sh.le] at hle
      | gone=>simp [Sh.le] at hle
  | fn f cs vs hl _ ih=>exact .fn f cs vs hl ih
  | yield l r s hs h=>
    obtain ⟨s',hs',hle⟩:=e.sh l s hs
    refine .yield l r s' hs' ?_
    intro hm x hx
    subst hm
    cases s with
    | loop=>exact h rfl x (by have:V'.own[l]? = V.own[l]? := hle;rw [← this];exact hx)
    | vec=>simp [Sh.le] at hle
    | map=>simp [Sh.le] at hle
    | gone=>simp [Sh.le] at hle
  | agg cs vs hl h1 _ ih=>exact .agg cs vs hl h1 ih
  | tup cs vs hl _ ih=>exact .tup cs vs hl ih
  | map b r s hs h=>
    obtain ⟨s',hs',hle⟩:=e.sh b s hs
    refine .map b r s' hs' ?_
    intro hm x hx
    subst hm
    cases s with
    | map=>exact h rfl x (by have:V'.own[b]? = V.own[b]? := hle;rw [← this];exact hx)
    | vec=>simp [Sh.le] at hle
    | loop=>simp [Sh.le] at hle
    | gone=>simp [Sh.le] at hle
structure IOk (p:Program) (ops:Array Oper) (o:Oper) (i:IOp):Prop where
  dst:i.dst=o.dst
  guard:i.guard=o.guard.map fun (j,w)=>(((ops[j]?).bind (·.dst)).getD 1000000,w)
  op:(∃ s,i.op=.bad s)∨∃ adv,compOp p adv o=some i.op
inductive OpsOk (p:Program) (ops:Array Oper):List Oper→List IOp→Prop
  | nil:OpsOk p ops [] []
  | one (o:Oper) (r:List Oper) (i:IOp) (is:List IOp) (h:IOk p ops o i) (hr:OpsOk p ops r is):OpsOk p ops (o :: r) (i :: is)
  | two (o o':Oper) (r:List Oper) (is:List IOp) (d:Nat) (e:TypeId) (s:Nat) (g:Bool) (v:Operand) (x:O) (ro:Bool) (h1:o.op=.alloc e) (h2:o.dst=some d) (h3:o.guard=none)
      (h4:o'.op=.store e (.tmp d) v) (h5:o'.dst=none) (h6:o'.guard=none) (h7:tySize p e=some s) (h8:tyAgg p e=some g) (h9:opd v=some x) (z:List AV) (h10:zeroCells p e=some z) (h11:(g=true∨s=1)∧z.length=s) (h12:v≠.tmp d) (hr:OpsOk p ops r is) :
      OpsOk p ops (o :: o' :: r) ({ dst:=some d,op:=.init s g x ro,guard:=none } :: is)
inductive KOk (p:Program) (cq:FuncId→Bool):K→Code→Prop
  | skip:KOk p cq .skip .skip
  | reg (id:Nat) (ops:Array Oper) (is:List IOp) (h:OpsOk p ops ops.toList is):KOk p cq (.reg false is) (.region id ops false)
  | regD (id:Nat) (ops:Array Oper) (is:List IOp) (hl:is.length=ops.size) (h:∀ (j:Nat) (o:Oper) (i:IOp),ops[j]? = some o→is[j]? = some i→IOk p ops o i) (hd:drawOk cq ops.toList is=true):KOk p cq (.reg true is) (.region id ops true)
  | regX (id:Nat) (ops:Array Oper) (is:List IOp) (prs:List (Nat×Nat)) (hl:is.length=ops.size) (h:∀ (j:Nat) (o:Oper) (i:IOp),ops[j]? = some o→is[j]? = some i→IOk p ops o i) (hd:drawDyn cq ops.toList is prs=true):KOk p cq (.regD is prs) (.region id ops true)
  | seq (a b:K) (c d:Code) (h:KOk p cq a c) (h':KOk p cq b d):KOk p cq (.seq a b) (.seq c d)
  | cond (x:Operand) (x':O) (a b:K) (c d:Code) (hx:opd x=some x') (h:KOk p cq a c) (h':KOk p cq b d):KOk p cq (.cond x' a b) (.cond x c d)
  | block (id:Nat) (a:K) (c:Code) (h:KOk p cq a c):KOk p cq (.block id a) (.block id c)
  | loop (lv:List Nat) (a:K) (c:Code) (h:KOk p cq a c):KOk p cq (.loop lv a) (.loop c)
  | range (g:Operand) (g':O) (ps:Array Tmp) (lv:List Nat) (a b:K) (c d:Code) (hg:opd g=some g') (h:KOk p cq a c) (h':KOk p cq b d):KOk p cq (.range g' ps.toList lv a b) (.rangeFunc g ps c d)
  | exit (id:Nat):KOk p cq (.exit id) (.exit id)
  | ret:KOk p cq .ret .ret
  | scope (a:K) (c:Code) (h:KOk p cq a c):KOk p cq (.seq .skip a) (.scope c)
  | label (l:Nat):KOk p cq .skip (.label l)
  | bad (w:String) (c:Code):KOk p cq (.bad w) c
theorem iok_compI (p:Program) (adv:Adv) (ops:Array Oper) (o:Oper):IOk p ops o (compI p adv ops o):=by
  refine ⟨rfl,rfl,?_⟩
  unfold compI
  cases h:compOp p adv o with
  | none=>exact .inl ⟨_,rfl⟩
  | some x=>exact .inr ⟨adv,h⟩
theorem opsOk_fuse (p:Program) (adv:Adv) (ops:Array Oper):∀ l:List Oper,OpsOk p ops l (fuse p adv ops l)
  | []=>.nil
  | [o]=>.one o [] _ _ (iok_compI p adv ops o) .nil
  | o :: o' :: r=>by
    have one:=OpsOk.one (ops:=ops) o (o' :: r) _ _ (iok_compI p adv ops o) (opsOk_fuse p adv ops (o' :: r))
    unfold fuse
    split
    · rename_i e d e' d' v h1 h2 h3 h4 h5 h6
      split
      · rename_i hc
        simp only [Bool.and_eq_true,beq_iff_eq] at hc
        obtain ⟨rfl,rfl⟩:=hc
        split
        · rename_i s g x z h7 h8 h9 h10
          split
          · rename_i h11
            exact .two o o' r _ d e s g v x _ h1 h2 h3 h4 h5 h6 h7 h8 h9 z h10 h11.1 (by rintro rfl;simp [isTmp] at h11) (opsOk_fuse p adv ops r)
          · exact one
        · exact one
      · exact one
    · exact one
theorem kok_compK (p:Program) (cq:FuncId→Bool) (adv:Adv):∀ c:Code,KOk p cq (compK p cq adv c) c
  | .skip=>.skip
  | .region id ops draw=>by
    have all:∀ adv:Adv,∀ (j:Nat) (o:Oper) (i:IOp),ops[j]? = some o→(ops.toList.map (compI p adv ops))[j]? = some i→IOk p ops o i:=by
      intro adv j o i ho hi
      have:i=compI p adv ops o:=by
        simp only [List.getElem?_map,Array.getElem?_toList,ho] at hi
        simpa using hi.symm
      subst this
      exact iok_compI p adv ops o
    unfold compK
    cases draw with
    | false=>exact .reg id ops _ (opsOk_fuse p _ ops _)
    | true=>
      simp only [if_true]
      split
      · rename_i hd
        exact .regD id ops _ (by simp) (all _) hd
      · split
        · rename_i hd
          exact .regD id ops _ (by simp) (all _) hd
        · split
          · rename_i hd
            exact .regX id ops _ _ (by simp) (all _) hd
          · exact .bad _ _
  | .seq a b=>.seq _ _ _ _ (kok_compK p cq adv a) (kok_compK p cq adv b)
  | .cond c a b=>by
    unfold compK
    cases h:opd c with
    | none=>exact .bad _ _
    | some x=>exact .cond c x _ _ _ _ h (kok_compK p cq adv a) (kok_compK p cq adv b)
  | .block id b=>.block id _ _ (kok_compK p cq adv b)
  | .loop b=>.loop _ _ _ (kok_compK p cq adv b)
  | .rangeFunc g ps a b=>by
    unfold compK
    cases h:opd g with
    | none=>exact .bad _ _
    | some x=>exact .range g x ps _ _ _ _ _ h (kok_compK p cq adv a) (kok_compK p cq adv b)
  | .exit id=>.exit id
  | .scope c=>.scope _ _ (kok_compK p cq adv c)
  | .label l=>.label l
  | .goto _=>.bad _ _
  | .ret=>.ret
  | .refuse _=>.bad _ _
theorem kok_fillLive (p:Program) (cq:FuncId→Bool) (res:List Nat) {k:K} {c:Code} (h:KOk p cq k c):∀ out ex,KOk p cq (fillLive res k out ex) c:=by
  induction h with
  | seq a b c d _ _ ih1 ih2=>intro out ex;exact .seq _ _ _ _ (ih1 _ _) (ih2 _ _)
  | cond x x' a b c d hx _ _ ih1 ih2=>intro out ex;exact .cond x x' _ _ _ _ hx (ih1 _ _) (ih2 _ _)
  | block id a c _ ih=>intro out ex;exact .block id _ _ (ih _ _)
  | loop lv a c _ ih=>intro out ex;exact .loop _ _ _ (ih _ _)
  | range g g' ps lv a b c d hg _ _ ih1 ih2=>intro out ex;exact .range g g' ps _ _ _ _ _ hg (ih1 _ _) (ih2 _ _)
  | skip=>intro out ex;exact .skip
  | reg id ops is h=>intro out ex;exact .reg id ops is h
  | regD id ops is hl h hd=>intro out ex;exact .regD id ops is hl h hd
  | regX id ops is prs hl h hd=>intro out ex;exact .regX id ops is prs hl h hd
  | exit id=>intro out ex;exact .exit id
  | ret=>intro out ex;exact .ret
  | scope a c _ ih=>intro out ex;exact .scope _ _ (ih _ _)
  | label l=>intro out ex;exact .label l
  | bad w c=>intro out ex;exact .bad w c
def rowsAV (rows:List (List PV)):List (List AV):=rows.map fun r=>r.map .p
structure VecOk (V:View) (l:Loc) (es:Nat) (rows:List (List AV)):Prop where
  wide:∀ x∈rows,x.length=es
  cap:rows.length≤l.cap
  nil:l.blk=none→l.cap=0
  hole:es=0→rows=[]→l.cap=0
  cells:∀ r,l.blk=some r→∃ c t,V.w.heap[r]? = some (.cells c t (0,0))∧l.cap*es≤c.size∧∀ (k:Nat) (a:AV),rows.flatten[k]? = some a→∃ v,c[k]? = some v∧v.oneCell'=true∧VRel V a v
def StateOk (s:Option Ex) (L:Loop):Prop :=
  match s with
  | none=>L.state=.ready∧L.pending=none
  | some .normal=>L.state=.busy
  | some .ret=>L.state=.done∧L.pending=some .ret
  | some (.exit i)=>L.state=.done∧L.pending=some (.exit i)
structure LoopOk (p:Program) (cq:FuncId→Bool) (V:View) (r:Nat) (τ:List (Nat×AV)) (nt:Nat) (ps:List Nat) (asg body:K) (state:Option Ex) (L:Loop):Prop where
  heap:V.w.heap[r]? = some (.loop L)
  state:StateOk state L
  asg:KOk p cq asg L.assign
  body:KOk p cq body L.body
  ps:L.params.toList=ps
  size:L.tmps.size=nt
  small:nt≤1000000
  tmps:∀ t,VRel V (lk τ t) (L.tmps.getD t undef)
structure MapOk (V:View) (r:Nat) (es:List (PV×AV)) (en:Array MapEntry) (clock:Nat):Prop where
  heap:V.w.heap[r]? = some (.map en clock)
  len:es.length=en.size
  key:∀ (i:Nat) (p:PV×AV) (e:MapEntry),es[i]? = some p→en[i]? = some e→PRel V.w V.ok p.1 e.key
  val:∀ (i:Nat) (p:PV×AV) (e:MapEntry),es[i]? = some p→en[i]? = some e→VRel V p.2 e.val
def ORel (p:Program) (cq:FuncId→Bool) (V:View) (l:Loc):Obj→Prop
  | .pv es rows _=>VecOk V l es (rowsAV rows)
  | .av es rows _=>VecOk V l es rows
  | .map es _=>∃ r en clock,l.blk=some r∧MapOk V r es en clock
  | .loop τ nt ps asg body state=>∃ r L,l.blk=some r∧LoopOk p cq V r τ nt ps asg body state L
  | .gone=>True
def Obj.live:Obj→Bool
  | .gone=>false
  | _=>true
def Obj.frozen:Obj→Bool
  | .pv _ _ f | .av _ _ f | .map _ f=>f
  | .loop ..=>false
  | .gone=>true
def View.at (V:View) (b r:Nat):Prop:=∃ l o,V.own[b]? = some l∧V.σ[b]? = some o∧o.live=true∧l.blk=some r
def View.owned (V:View) (r:Nat):Prop:=∃ b,V.at b r
structure SRel (p:Program) (cq:FuncId→Bool) (V:View):Prop where
  len:V.own.length=V.σ.length
  obj:∀ (b:Nat) (l:Loc) (o:Obj),V.own[b]? = some l→V.σ[b]? = some o→ORel p cq V l o
  one:∀ b b' r,V.at b r→V.at b' r→b=b'
  apart:∀ b r (o:Obj),V.at b r→V.σ[b]? = some o→o.frozen=false→¬ V.ok r
  lt:∀ r,V.owned r→r<V.w.heap.size
  okLt:∀ r,V.ok r→r<V.w.heap.size
def env (w:World):Os×Array (Nat×ByteArray)×(Nat→Question→Nat):=(w.os,w.output,w.tape)
structure Step (V V':View):Prop where
  ext:Ext V V'
  size:V.w.heap.size≤V'.w.heap.size
  keep:∀ r,r<V.w.heap.size→¬ V.owned r→V'.w.heap[r]? = V.w.heap[r]?
  okNew:∀ r,V'.ok r→V.ok r∨V.w.heap.size≤r∨V.owned r
  ownNew:∀ r,V'.owned r→V.owned r∨V.w.heap.size≤r
  env:env V'.w=env V.w
theorem Step.refl (V:View):Step V V:=⟨Ext.refl V,Nat.le_refl _,fun _ _ _=>rfl,fun _ h=>.inl h,fun _ h=>.inl h,rfl⟩
theorem Step.trans {V V' V'':View} (h:Step V V') (h':Step V' V''):Step V V'' where
  ext:=h.ext.trans h'.ext
  size:=Nat.le_trans h.size h'.size
  keep r hr ho:=by
    rw [h'.keep r (Nat.lt_of_lt_of_le hr h.size) (fun hx=>by rcases h.ownNew r hx with h1 | h1;exact ho h1;omega)]
    exact h.keep r hr ho
  okNew r hr:=by
    rcases h'.okNew r hr with h1 | h1 | h1
    · exact h.okNew r h1
    · exact .inr (.inl (Nat.le_trans h.size h1))
    · rcases h.ownNew r h1 with h2 | h2
      · exact .inr (.inr h2)
      · exact .inr (.inl h2)
  ownNew r hr:=by
    rcases h'.ownNew r hr with h1 | h1
    · exact h.ownNew r h1
    · exact .inr (Nat.le_trans h.size h1)
  env:=h'.env.trans h.env
structure TRel (V:View) (τ:Tm) (nt:Nat) (a:Array Value):Prop where
  size:a.size=nt
  small:nt≤1000000
  get:∀ t,VRel V (τ.get t) (a.getD t undef)
theorem TRel.mono {V V':View} (e:Ext V V') {τ:Tm} {nt:Nat} {a:Array Value} (h:TRel V τ nt a):TRel V' τ nt a:=⟨h.size,h.small,fun t=>(h.get t).mono e⟩
theorem TRel.put {V:View} {τ:Tm} {nt:Nat} {a:Array Value} (h:TRel V τ nt a) {d:Nat} (hd:d<nt) {x:AV} {v:Value} (hv:VRel V x v):TRel V (upd τ d x) nt (a.setIfInBounds d v):=by
  refine ⟨by simp [h.size],h.small,fun t=>?_⟩
  by_cases e:d=t
  · subst e
    have:d<a.size:=by rw [h.size];exact hd
    simp [upd,Array.getD,this,hv]
  · have:(a.setIfInBounds d v).getD t undef=a.getD t undef:=by simp [Array.getD_eq_getD_getElem?,e]
    rw [this]
    simp only [upd,e,if_false]
    exact h.get t
theorem TRel.keep {V:View} {τ:Tm} {nt:Nat} {a:Array Value} (h:TRel V τ nt a) (lv:List Nat):TRel V (τ.keep lv) nt a:=by
  refine ⟨h.size,h.small,fun t=>?_⟩
  have:(τ.keep lv).get t=τ.get t∨(τ.keep lv).get t=.any:=by
    unfold Tm.keep Tm.kept tm
    dsimp only
    induction lv with
    | nil=>exact .inr rfl
    | cons x r ih=>
      simp only [List.map_cons,lk]
      by_cases e:x=t
      · simp [e]
      · simpa [e] using ih
  rcases this with e | e<;>rw [e]
  · exact h.get t
  · exact .any _
variable {p:Program} {cq:FuncId→Bool}
theorem VecOk.mono {V V':View} (e:Ext V V') {l:Loc} {es:Nat} {rows:List (List AV)} (hb:∀ r,l.blk=some r→V'.w.heap[r]? = V.w.heap[r]?) (h:VecOk V l es rows):VecOk V' l es rows where
  wide:=h.wide
  cap:=h.cap
  nil:=h.nil
  hole:=h.hole
  cells r hr:=by
    obtain ⟨c,t,hc,hs,hv⟩:=h.cells r hr
    exact ⟨c,t,by rw [hb r hr];exact hc,hs,fun k a ha=>let ⟨v,h1,h2,h3⟩:=hv k a ha;⟨v,h1,h2,h3.mono e⟩⟩
theorem ORel.mono {V V':View} (e:Ext V V') {l:Loc} {o:Obj} (hb:∀ r,l.blk=some r→V'.w.heap[r]? = V.w.heap[r]?) (h:ORel p cq V l o):ORel p cq V' l o:=by
  cases o with
  | pv es rows f=>exact VecOk.mono e hb h
  | av es rows f=>exact VecOk.mono e hb h
  | map es f=>
    obtain ⟨r,en,clock,hl,hm⟩:=h
    exact ⟨r,en,clock,hl,by rw [hb r hl];exact hm.heap,hm.len,fun i a b h1 h2=>(hm.key i a b h1 h2).mono e.ok e.keep,fun i a b h1 h2=>(hm.val i a b h1 h2).mono e⟩
  | loop τ nt ps asg body s=>
    obtain ⟨r,L,hl,hm⟩:=h
    exact ⟨r,L,hl,by rw [hb r hl];exact hm.heap,hm.state,hm.asg,hm.body,hm.ps,hm.size,hm.small,fun t=>(hm.tmps t).mono e⟩
  | gone=>trivial
theorem View.sh_append {V:View} {l:Loc} {o:Obj} {b:Nat} {s:Sh} {ok:Nat→Prop} {w:World} (h:V.sh b=some s) :
    (View.mk (V.own++[l]) (V.σ++[o]) ok w).sh b=some s:=by
  unfold View.sh at *
  have hb:b<V.σ.length:=by
    rcases Nat.lt_or_ge b V.σ.length with h1 | h1
    · exact h1
    · simp [List.getElem?_eq_none h1] at h
  simp only [List.getElem?_append_left hb]
  exact h
theorem View.at_lt {V:View} {b r:Nat} (hb:V.at b r):b<V.σ.length:=by
  obtain ⟨l,o,_,ho,_⟩:=hb
  exact (List.getElem?_eq_some_iff.1 ho).1
theorem SRel.push {V:View} (h:SRel p cq V) (l:Loc) (o:Obj) (w':World) (henv:env w'=env V.w) (hsz:V.w.heap.size≤w'.heap.size) (hkeep:∀ r,r<V.w.heap.size→w'.heap[r]? = V.w.heap[r]?)
    (hl:∀ r,l.blk=some r→V.w.heap.size≤r∧r<w'.heap.size) (ho:Ext V ⟨V.own++[l],V.σ++[o],V.ok,w'⟩→ORel p cq ⟨V.own++[l],V.σ++[o],V.ok,w'⟩ l o) :
    SRel p cq ⟨V.own++[l],V.σ++[o],V.ok,w'⟩∧Step V ⟨V.own++[l],V.σ++[o],V.ok,w'⟩:=by
  have e:Ext V ⟨V.own++[l],V.σ++[o],V.ok,w'⟩:=by
    refine ⟨fun _ h=>h,fun b hb=>hkeep b (h.okLt b hb),fun b s hs=>⟨s,View.sh_append hs,s.le_refl ?_⟩⟩
    have hb:b<V.σ.length:=by
      unfold View.sh at hs
      rcases Nat.lt_or_ge b V.σ.length with h1 | h1
      · exact h1
      · simp [List.getElem?_eq_none h1] at hs
    simp only [List.getElem?_append_left (by rw [h.len];exact hb:b<V.own.length)]
  have hat:∀ b r,(View.mk (V.own++[l]) (V.σ++[o]) V.ok w').at b r→V.at b r∨(b=V.σ.length∧l.blk=some r):=by
    rintro b r ⟨l1,o1,h1,h2,h3,h4⟩
    rcases Nat.lt_or_ge b V.σ.length with hb | hb
    · left
      refine ⟨l1,o1,?_,?_,h3,h4⟩
      · simpa [List.getElem?_append_left (by rw [h.len];exact hb:b<V.own.length)] using h1
      · simpa [List.getElem?_append_left hb] using h2
    · right
      have hlt:=(List.getElem?_eq_some_iff.1 h2).1
      simp only [List.length_append,List.length_singleton] at hlt
      have hbe:b=V.σ.length:=by omega
      subst hbe
      have:l1=l:=by
        have:=h1
        rw [show V.σ.length=V.own.length from h.len.symm] at this
        simpa using this.symm
      subst this
      exact ⟨rfl,h4⟩
  refine ⟨⟨?_,?_,?_,?_,?_,?_⟩,e,hsz,?_,?_,?_,henv⟩
  · simp [h.len]
  · intro b l1 o1 h1 h2
    rcases Nat.lt_or_ge b V.σ.length with hb | hb
    · have h1':V.own[b]? = some l1:=by simpa [List.getElem?_append_left (by rw [h.len];exact hb:b<V.own.length)] using h1
      have h2':V.σ[b]? = some o1:=by simpa [List.getElem?_append_left hb] using h2
      cases hlive:o1.live with
      | false=>cases o1<;>first | trivial | (simp [Obj.live] at hlive)
      | true=>exact ORel.mono e (fun r hr=>hkeep r (h.lt r ⟨b,l1,o1,h1',h2',hlive,hr⟩)) (h.obj b l1 o1 h1' h2')
    · have hlt:=(List.getElem?_eq_some_iff.1 h2).1
      simp only [List.length_append,List.length_singleton] at hlt
      have hbe:b=V.σ.length:=by omega
      subst hbe
      have hle:l1=l:=by
        have:=h1
        rw [show V.σ.length=V.own.length from h.len.symm] at this
        simpa using this.symm
      have hoe:o1=o:=by simpa using h2.symm
      subst hle;subst hoe
      exact ho e
  · intro b b' r hb hb'
    rcases hat b r hb with h1 | ⟨h1,h1'⟩<;>rcases hat b' r hb' with h2 | ⟨h2,h2'⟩
    · exact h.one b b' r h1 h2
    · have:=h.lt r ⟨b,h1⟩;have:=(hl r h2').1;omega
    · have:=h.lt r ⟨b',h2⟩;have:=(hl r h1').1;omega
    · rw [h1,h2]
  · intro b r o1 hb ho1 hf hk
    rcases hat b r hb with h1 | ⟨h1,h1'⟩
    · have hb':=View.at_lt h1
      exact h.apart b r o1 h1 (by simpa [List.getElem?_append_left hb'] using ho1) hf hk
    · have:=h.okLt r hk;have:=(hl r h1').1;omega
  · rintro r ⟨b,hb⟩
    rcases hat b r hb with h1 | ⟨h1,h1'⟩
    · exact Nat.lt_of_lt_of_le (h.lt r ⟨b,h1⟩) hsz
    · exact (hl r h1').2
  · intro r hr
    exact Nat.lt_of_lt_of_le (h.okLt r hr) hsz
  · intro r hr _
    exact hkeep r hr
  · intro r hr
    exact .inl hr
  · rintro r ⟨b,hb⟩
    rcases hat b r hb with h1 | ⟨h1,h1'⟩
    · exact .inl ⟨b,h1⟩
    · exact .inr (hl r h1').1
theorem SRel.turn {V:View} (h:SRel p cq V) {b:Nat} {l l':Loc} {o o':Obj} {w':World} (hl:V.own[b]? = some l) (ho:V.σ[b]? = some o) (hf:o.frozen=false)
    (hsh:o.sh.le o'.sh (l'=l)) (henv:env w'=env V.w) (hsz:V.w.heap.size≤w'.heap.size) (hkeep:∀ r,r<V.w.heap.size→l.blk≠some r→w'.heap[r]? = V.w.heap[r]?)
    (hblk:∀ r,o'.live=true→l'.blk=some r→l.blk=some r∨(V.w.heap.size≤r∧r<w'.heap.size))
    (hrel:Ext V ⟨V.own.set b l',V.σ.set b o',V.ok,w'⟩→ORel p cq ⟨V.own.set b l',V.σ.set b o',V.ok,w'⟩ l' o') :
    SRel p cq ⟨V.own.set b l',V.σ.set b o',V.ok,w'⟩∧Step V ⟨V.own.set b l',V.σ.set b o',V.ok,w'⟩:=by
  have hbσ:b<V.σ.length:=(List.getElem?_eq_some_iff.1 ho).1
  have hbo:b<V.own.length:=(List.getElem?_eq_some_iff.1 hl).1
  have hlive:o.live=true:=by cases o<;>simp [Obj.live,Obj.frozen] at hf ⊢
  have hat0:∀ r,l.blk=some r→V.at b r:=fun r hr=>⟨l,o,hl,ho,hlive,hr⟩
  have hok:∀ r,V.ok r→l.blk≠some r:=fun r hr hx=>h.apart b r o (hat0 r hx) ho hf hr
  have e:Ext V ⟨V.own.set b l',V.σ.set b o',V.ok,w'⟩:=by
    refine ⟨fun _ h=>h,fun r hr=>hkeep r (h.okLt r hr) (hok r hr),fun c s hs=>?_⟩
    by_cases hc:c=b
    · subst hc
      refine ⟨o'.sh,by simp [View.sh,hbσ],?_⟩
      have:s=o.sh:=by simp [View.sh,ho] at hs;exact hs.symm
      subst this
      have he:((View.mk (V.own.set c l') (V.σ.set c o') V.ok w').own[c]? = V.own[c]?)=(l'=l):=by rw [hl];simp [hbo]
      rw [he]
      exact hsh
    · refine ⟨s,?_,s.le_refl ?_⟩
      · simp only [View.sh] at hs ⊢
        rw [List.getElem?_set_ne (fun hx=>hc hx.symm)]
        exact hs
      · simp only []
        rw [List.getElem?_set_ne (fun hx=>hc hx.symm)]
  have hat:∀ c r,(View.mk (V.own.set b l') (V.σ.set b o') V.ok w').at c r→(c≠b∧V.at c r)∨(c=b∧o'.live=true∧l'.blk=some r):=by
    rintro c r ⟨l1,o1,h1,h2,h3,h4⟩
    by_cases hc:c=b
    · subst hc
      have h1':l1=l':=by simpa [hbo] using h1.symm
      have h2':o1=o':=by simpa [hbσ] using h2.symm
      subst h1';subst h2'
      exact .inr ⟨rfl,h3,h4⟩
    · left
      refine ⟨hc,l1,o1,?_,?_,h3,h4⟩
      · simpa [List.getElem?_set_ne (fun hx=>hc hx.symm)] using h1
      · simpa [List.getElem?_set_ne (fun hx=>hc hx.symm)] using h2
  refine ⟨⟨?_,?_,?_,?_,?_,?_⟩,e,hsz,?_,?_,?_,henv⟩
  · simp [h.len]
  · intro c l1 o1 h1 h2
    by_cases hc:c=b
    · subst hc
      have h1':l1=l':=by simpa [hbo] using h1.symm
      have h2':o1=o':=by simpa [hbσ] using h2.symm
      subst h1';subst h2'
      exact hrel e
    · have h1':V.own[c]? = some l1:=by simpa [List.getElem?_set_ne (fun hx=>hc hx.symm)] using h1
      have h2':V.σ[c]? = some o1:=by simpa [List.getElem?_set_ne (fun hx=>hc hx.symm)] using h2
      cases hlive1:o1.live with
      | false=>cases o1<;>first | trivial | (simp [Obj.live] at hlive1)
      | true=>
        refine ORel.mono e (fun r hr=>?_) (h.obj c l1 o1 h1' h2')
        have hat1:V.at c r:=⟨l1,o1,h1',h2',hlive1,hr⟩
        exact hkeep r (h.lt r ⟨c,hat1⟩) (fun hx=>hc (h.one c b r hat1 (hat0 r hx)))
  · intro c c' r hc hc'
    rcases hat c r hc with ⟨n1,h1⟩ | ⟨h1,h1',h1''⟩<;>rcases hat c' r hc' with ⟨n2,h2⟩ | ⟨h2,h2',h2''⟩
    · exact h.one c c' r h1 h2
    · rcases hblk r h2' h2'' with hx | hx
      · exact absurd (h.one c b r h1 (hat0 r hx)) n1
      · have:=h.lt r ⟨c,h1⟩;omega
    · rcases hblk r h1' h1'' with hx | hx
      · exact absurd (h.one c' b r h2 (hat0 r hx)) n2
      · have:=h.lt r ⟨c',h2⟩;omega
    · rw [h1,h2]
  · intro c r o1 hc ho1 hf1 hk
    rcases hat c r hc with ⟨n1,h1⟩ | ⟨h1,h1',h1''⟩
    · exact h.apart c r o1 h1 (by simpa [List.getElem?_set_ne (fun hx=>n1 hx.symm)] using ho1) hf1 hk
    · rcases hblk r h1' h1'' with hx | hx
      · exact hok r hk hx
      · have:=h.okLt r hk;omega
  · rintro r ⟨c,hc⟩
    rcases hat c r hc with ⟨n1,h1⟩ | ⟨h1,h1',h1''⟩
    · exact Nat.lt_of_lt_of_le (h.lt r ⟨c,h1⟩) hsz
    · rcases hblk r h1' h1'' with hx | hx
      · exact Nat.lt_of_lt_of_le (h.lt r ⟨b,hat0 r hx⟩) hsz
      · exact hx.2
  · intro r hr
    exact Nat.lt_of_lt_of_le (h.okLt r hr) hsz
  · intro r hr hno
    exact hkeep r hr (fun hx=>hno ⟨b,hat0 r hx⟩)
  · intro r hr
    exact .inl hr
  · rintro r ⟨c,hc⟩
    rcases hat c r hc with ⟨n1,h1⟩ | ⟨h1,h1',h1''⟩
    · exact .inl ⟨c,h1⟩
    · rcases hblk r h1' h1'' with hx | hx
      · exact .inl ⟨b,hat0 r hx⟩
      · exact .inr hx.1
theorem omap_some {α β:Type} {f:α→Option β}:∀ {l:List α} {r:List β},omap f l=some r→r.length=l.length∧∀ (i:Nat) (a:α),l[i]? = some a→∃ b,r[i]? = some b∧f a=some b
  | [],r,h=>by
    simp only [omap,Option.some.injEq] at h
    subst h
    simp
  | a :: l,r,h=>by
    simp only [omap] at h
    cases ha:f a with
    | none=>simp [ha] at h
    | some b=>
      cases hl:omap f l with
      | none=>simp [ha,hl] at h
      | some bs=>
        simp only [ha,hl,Option.some.injEq] at h
        subst h
        obtain ⟨h1,h2⟩:=omap_some hl
        refine ⟨by simp [h1],fun i x hx=>?_⟩
        cases i with
        | zero=>simp only [List.getElem?_cons_zero,Option.some.injEq] at hx;subst hx;exact ⟨b,rfl,ha⟩
        | succ i=>simpa using h2 i x (by simpa using hx)
def Obj.data:Obj→Bool
  | .pv .. | .av .. | .map ..=>true
  | _=>false
def View.blocks (V:View) (L:List Nat) (r:Nat):Prop:=∃ b∈L,V.at b r∧∃ o,V.σ[b]? = some o∧o.data=true
theorem View.blocks_mono {V:View} {L L':List Nat} (h:∀ b∈L,b∈L') {r:Nat} (hr:V.blocks L r):V.blocks L' r :=
  let ⟨b,hb,x⟩:=hr;⟨b,h b hb,x⟩
theorem SRel.own_of {V:View} (h:SRel p cq V) {b:Nat} {o:Obj} (ho:V.σ[b]? = some o):∃ l,V.own[b]? = some l:=by
  have:=(List.getElem?_eq_some_iff.1 ho).1
  exact ⟨_,List.getElem?_eq_getElem (by rw [h.len];exact this)⟩
theorem flatten_get {α:Type}:∀ {rows:List (List α)} {es:Nat},(∀ x∈rows,x.length=es)→∀ {i j:Nat} {row:List α} {a:α},rows[i]? = some row→row[j]? = some a→rows.flatten[i*es+j]? = some a
  | [],_,_,i,_,_,_,h,_=>by simp at h
  | x :: rows,es,hes,i,j,row,a,h,hj=>by
    have hx:=hes x (by simp)
    cases i with
    | zero=>
      simp only [List.getElem?_cons_zero,Option.some.injEq] at h
      subst h
      have:=(List.getElem?_eq_some_iff.1 hj).1
      simp only [Nat.zero_mul,Nat.zero_add,List.flatten_cons,List.getElem?_append_left this]
      exact hj
    | succ i=>
      have:=flatten_get (rows:=rows) (es:=es) (fun y hy=>hes y (by simp [hy])) (by simpa using h) hj
      rw [List.flatten_cons,List.getElem?_append_right (by rw [hx,Nat.succ_mul];omega),hx,show (i+1)*es+j-es=i*es+j by rw [Nat.succ_mul];omega]
      exact this
theorem flatten_length {α:Type}:∀ {rows:List (List α)} {es:Nat},(∀ x∈rows,x.length=es)→rows.flatten.length=rows.length*es
  | [],_,_=>by simp
  | x :: rows,es,h=>by
    rw [List.flatten_cons,List.length_append,flatten_length (rows:=rows) (es:=es) (fun y hy=>h y (by simp [hy])),h x (by simp),List.length_cons,Nat.succ_mul]
    omega
theorem flatten_at {α:Type}:∀ {rows:List (List α)} {es:Nat},(∀ x∈rows,x.length=es)→∀ {k:Nat} {a:α},rows.flatten[k]? = some a→∃ (i j:Nat) (row:List α),k=i*es+j∧rows[i]? = some row∧row[j]? = some a
  | [],_,_,_,_,h=>by simp at h
  | x :: rows,es,hes,k,a,h=>by
    have hx:=hes x (by simp)
    rw [List.flatten_cons] at h
    rcases Nat.lt_or_ge k x.length with hk | hk
    · exact ⟨0,k,x,by simp,by simp,by rw [← List.getElem?_append_left hk];exact h⟩
    · rw [List.getElem?_append_right hk] at h
      obtain ⟨i,j,row,h1,h2,h3⟩:=flatten_at (rows:=rows) (es:=es) (fun y hy=>hes y (by simp [hy])) h
      exact ⟨i+1,j,row,by rw [Nat.succ_mul];omega,by simpa using h2,h3⟩
theorem rowsAV_get {rows:List (List PV)} {i:Nat} {row:List PV} (h:rows[i]? = some row):(rowsAV rows)[i]? = some (row.map .p):=by simp [rowsAV,h]
theorem rowsAV_flatten {rows:List (List PV)}:(rowsAV rows).flatten=rows.flatten.map .p:=by simp [rowsAV,List.map_flatten]
theorem rowsAV_length {rows:List (List PV)}:(rowsAV rows).length=rows.length:=by simp [rowsAV]
theorem cell_row {w:World} {r:Nat} {c:Array Value} {t:TypeId} {f:Nat×Nat} (h:w.heap[r]? = some (.cells c t f)) (k:Nat):w.cell? ⟨r,k,none⟩=c[k]? := by
  simp [World.cell?,h]
theorem VRel.p_inv {V:View} {q:PV} {v:Value} (h:VRel V (.p q) v):PRel V.w V.ok q v:=by cases h;assumption
theorem purify_ok {V:View} (hS:SRel p cq V):∀ (k:Nat) (a:AV) (q:PV) (v:Value),purify V.σ k a=some q→VRel V a v→PRel V.w (fun r=>V.ok r∨V.blocks (refs V.σ k a) r) q v:=by
  intro k
  induction k with
  | zero=>intro a q v h;simp [purify] at h
  | succ k ih=>
    intro a q v h hv
    have list:∀ (cs:List AV) (qs:List PV) (vs:List Value) (L:Nat→Prop),omap (purify V.σ k) cs=some qs→cs.length=vs.length→(∀ (i:Nat) (c:AV) (v:Value),cs[i]? = some c→vs[i]? = some v→VRel V c v) →
        (∀ c∈cs,∀ r,V.blocks (refs V.σ k c) r→L r)→qs.length=vs.length∧∀ (i:Nat) (q:PV) (v:Value),qs[i]? = some q→vs[i]? = some v→PRel V.w (fun r=>V.ok r∨L r) q v:=by
      intro cs qs vs L ho hl hr hL
      obtain ⟨h1,h2⟩:=omap_some ho
      refine ⟨by omega,fun i q v hq hv=>?_⟩
      have hi:i<cs.length:=by have:=(List.getElem?_eq_some_iff.1 hv).1;omega
      obtain ⟨b,hb,hp⟩:=h2 i cs[i] (List.getElem?_eq_getElem hi)
      rw [hq,Option.some.injEq] at hb
      subst hb
      refine (ih _ _ _ hp (hr i _ v (List.getElem?_eq_getElem hi) hv)).mono (fun r hr=>?_) (fun _ _=>rfl)
      rcases hr with h | h
      · exact .inl h
      · exact .inr (hL _ (List.getElem_mem hi) r h)
    cases hv with
    | any v=>simp [purify] at h
    | p h'=>
      simp only [purify,Option.some.injEq] at h
      subst h
      exact h'.mono (fun _ h=>.inl h) (fun _ _=>rfl)
    | nils a=>
      simp only [purify,Option.some.injEq] at h
      subst h
      exact .lst0 a 0
    | fn f cs vs hl hr=>
      simp only [purify,Option.map_eq_some_iff] at h
      obtain ⟨qs,ho,rfl⟩:=h
      obtain ⟨h1,h2⟩:=list cs qs vs _ ho hl hr (fun c hc r hr=>hr.imp fun b hb=>⟨List.mem_flatMap.2 ⟨c,hc,hb.1⟩,hb.2⟩:∀ c∈cs,∀ r,V.blocks (refs V.σ k c) r→V.blocks (refs V.σ (k+1) (.fn f cs)) r)
      exact .fn f qs vs h1 h2
    | agg cs vs hl hone hr=>
      simp only [purify,Option.map_eq_some_iff] at h
      obtain ⟨qs,ho,rfl⟩:=h
      obtain ⟨h1,h2⟩:=list cs qs vs _ ho hl hr (fun c hc r hr=>hr.imp fun b hb=>⟨List.mem_flatMap.2 ⟨c,hc,hb.1⟩,hb.2⟩:∀ c∈cs,∀ r,V.blocks (refs V.σ k c) r→V.blocks (refs V.σ (k+1) (.agg cs)) r)
      exact .agg qs vs h1 hone h2
    | tup cs vs hl hr=>
      simp only [purify,Option.map_eq_some_iff] at h
      obtain ⟨qs,ho,rfl⟩:=h
      obtain ⟨h1,h2⟩:=list cs qs vs _ ho hl hr (fun c hc r hr=>hr.imp fun b hb=>⟨List.mem_flatMap.2 ⟨c,hc,hb.1⟩,hb.2⟩:∀ c∈cs,∀ r,V.blocks (refs V.σ k c) r→V.blocks (refs V.σ (k+1) (.tup cs)) r)
      exact .tup qs vs h1 h2
    | yield=>simp [purify] at h
    | sl b n a c s hs hn hp=>
      simp only [purify] at h
      have main:∀ (o:Obj) (es:Nat) (rows:List (List AV)) (ps:List (List PV)) (l:Loc),V.σ[b]? = some o→o.sh=.vec es rows.length→o.data=true→o.live=true→V.own[b]? = some l→VecOk V l es rows→rows.length=n →
          ps.length=rows.length→(∀ (i:Nat) (row:List AV),rows[i]? = some row→∃ pr,ps[i]? = some pr∧pr.length=row.length∧∀ (j:Nat) (q:PV) (x:AV) (v:Value),pr[j]? = some q→row[j]? = some x→VRel V x v→PRel V.w (fun r=>V.ok r∨V.blocks (refs V.σ (k+1) (.sl b n)) r) q v) →
          PRel V.w (fun r=>V.ok r∨V.blocks (refs V.σ (k+1) (.sl b n)) r) (.lst ps) (.slice a n c):=by
        intro o es rows ps l ho hsh hdata hlive hl hvec hlen hpl hrow
        have hs':s=.vec es n:=by
          rw [← hlen,← hsh]
          simpa [View.sh,ho] using hs.symm
        obtain ⟨ha,hc⟩:=hp es l hs' hl
        subst hc
        cases hb:l.blk with
        | none=>
          have hcap:=hvec.nil hb
          have hle:=hvec.cap
          have hz:ps=[]:=List.length_eq_zero_iff.1 (by omega)
          have hn0:n=0:=by omega
          subst hz;subst hn0
          exact .lst0 _ _
        | some r=>
          by_cases hz:ps=[]
          · subst hz
            have hn0:n=0:=by simp at hpl;omega
            subst hn0
            exact .lst0 _ _
          · have hcap0:l.cap≠0:=by
              have:=hvec.cap
              have:=List.length_pos_iff.2 hz
              omega
            have ha:=ha hcap0
            subst ha
            obtain ⟨cc,t,hheap,hsize,hcells⟩:=hvec.cells r hb
            have hwide:∀ x∈ps,x.length=es:=by
              intro x hx
              obtain ⟨i,hi⟩:=List.getElem?_of_mem hx
              have hil:i<rows.length:=by have:=(List.getElem?_eq_some_iff.1 hi).1;omega
              obtain ⟨pr,hpr,hprl,_⟩:=hrow i rows[i] (List.getElem?_eq_getElem hil)
              rw [hi,Option.some.injEq] at hpr
              subst hpr
              rw [hprl]
              exact hvec.wide _ (List.getElem_mem hil)
            have hfl:=flatten_length hvec.wide
            have key:=PRel.lst (w:=V.w) (ok:=fun r=>V.ok r∨V.blocks (refs V.σ (k+1) (.sl b n)) r) ps r 0 l.cap es (fun k=>cc.getD k undef) hz
              (.inr ⟨b,by simp [refs],⟨l,o,hl,ho,hlive,hb⟩,o,ho,hdata⟩) (by rw [hpl];exact hvec.cap) hwide
              (fun j hj=>by
                obtain ⟨v,hv1,_⟩:=hcells j (rows.flatten[j]'(by rw [hfl];rw [← hpl];exact hj)) (List.getElem?_eq_getElem _)
                rw [cell_row hheap,Nat.zero_add,hv1]
                simp [Array.getD_eq_getD_getElem?,hv1])
              (fun j hj=>by
                obtain ⟨v,hv1,hv2,_⟩:=hcells j (rows.flatten[j]'(by rw [hfl];rw [← hpl];exact hj)) (List.getElem?_eq_getElem _)
                simp only [Array.getD_eq_getD_getElem?,hv1,Option.getD_some]
                exact hv2)
              (fun j q hq=>by
                obtain ⟨i,j',pr,rfl,hi,hj'⟩:=flatten_at hwide hq
                have hil:i<rows.length:=by have:=(List.getElem?_eq_some_iff.1 hi).1;omega
                obtain ⟨pr',hpr,hprl,hrel⟩:=hrow i rows[i] (List.getElem?_eq_getElem hil)
                rw [hi,Option.some.injEq] at hpr
                subst hpr
                have hjl:j'<rows[i].length:=by have:=(List.getElem?_eq_some_iff.1 hj').1;omega
                have hfx:=flatten_get hvec.wide (List.getElem?_eq_getElem hil) (List.getElem?_eq_getElem hjl)
                obtain ⟨v,hv1,_,hv3⟩:=hcells _ _ hfx
                simp only [Array.getD_eq_getD_getElem?,hv1,Option.getD_some]
                exact hrel j' q _ v hj' (List.getElem?_eq_getElem hjl) hv3)
            rw [hpl,hlen] at key
            simpa [Loc.addr,hb] using key
      cases ho:V.σ[b]? with
      | none=>simp [ho] at h
      | some o=>
        obtain ⟨l,hl⟩:=hS.own_of ho
        have hor:=hS.obj b l o hl ho
        cases o with
        | pv es rows f=>
          simp only [ho] at h
          split at h
          · rename_i hlen
            simp only [Option.some.injEq] at h
            subst h
            refine main _ es (rowsAV rows) rows l ho (by simp [Obj.sh,rowsAV]) rfl rfl hl hor (by simp [rowsAV,hlen]) (by simp [rowsAV]) ?_
            intro i row hrow
            have hil:i<rows.length:=by have:=(List.getElem?_eq_some_iff.1 hrow).1;simpa [rowsAV] using this
            have:row=rows[i].map .p:=by
              have:=rowsAV_get (List.getElem?_eq_getElem hil)
              rw [this,Option.some.injEq] at hrow
              exact hrow.symm
            subst this
            refine ⟨rows[i],List.getElem?_eq_getElem hil,by simp,fun j q x v hq hx hv=>?_⟩
            rw [List.getElem?_map,hq] at hx
            simp only [Option.map_some,Option.some.injEq] at hx
            subst hx
            exact hv.p_inv.mono (fun _ h=>.inl h) (fun _ _=>rfl)
          · simp at h
        | av es rows f=>
          simp only [ho] at h
          split at h
          · rename_i hlen
            simp only [Option.map_eq_some_iff] at h
            obtain ⟨ps,hps,rfl⟩:=h
            obtain ⟨h1,h2⟩:=omap_some hps
            refine main _ es rows ps l ho rfl rfl rfl hl hor hlen h1 ?_
            intro i row hrow
            obtain ⟨pr,hpr,hpo⟩:=h2 i row hrow
            obtain ⟨h3,h4⟩:=omap_some hpo
            refine ⟨pr,hpr,h3,fun j q x v hq hx hv=>?_⟩
            obtain ⟨q',hq',hpq⟩:=h4 j x hx
            rw [hq,Option.some.injEq] at hq'
            subst hq'
            refine (ih x q v hpq hv).mono (fun r hr=>?_) (fun _ _=>rfl)
            rcases hr with h | h
            · exact .inl h
            · refine .inr (View.blocks_mono (fun b' hb'=>?_) h)
              simp only [refs,ho,List.mem_cons,List.mem_flatMap]
              exact .inr ⟨row,List.mem_of_getElem? hrow,x,List.mem_of_getElem? hx,hb'⟩
          · simp at h
        | map=>simp [ho] at h
        | loop=>simp [ho] at h
        | gone=>simp [ho] at h
    | ptr b n i o a s hs hn hp=>
      simp only [purify] at h
      have main:∀ (ob:Obj) (es:Nat) (rows:List (List AV)) (row:List AV) (pr:List PV) (l:Loc),V.σ[b]? = some ob→ob.sh=.vec es rows.length→ob.data=true→ob.live=true→V.own[b]? = some l→VecOk V l es rows→rows.length=n →
          rows[i]? = some row→pr.length=row.length→(∀ (j:Nat) (q:PV) (x:AV) (v:Value),pr[j]? = some q→row[j]? = some x→VRel V x v→PRel V.w (fun r=>V.ok r∨V.blocks (refs V.σ (k+1) (.ptr b n i o)) r) q v) →
          PRel V.w (fun r=>V.ok r∨V.blocks (refs V.σ (k+1) (.ptr b n i o)) r) (.ptr pr o) (.pointer (some a)):=by
        intro ob es rows row pr l ho hsh hdata hlive hl hvec hlen hrow hprl hrel
        have hs':s=.vec es n:=by
          rw [← hlen,← hsh]
          simpa [View.sh,ho] using hs.symm
        have hil:i<rows.length:=(List.getElem?_eq_some_iff.1 hrow).1
        obtain ⟨r,hb,ha⟩:=hp es l hs' hl (by omega)
        subst ha
        obtain ⟨cc,t,hheap,hsize,hcells⟩:=hvec.cells r hb
        have key:=PRel.ptr (w:=V.w) (ok:=fun r=>V.ok r∨V.blocks (refs V.σ (k+1) (.ptr b n i o)) r) pr o r (i*es) (fun k=>cc.getD (i*es+k) undef)
          (.inr ⟨b,by simp [refs],⟨l,ob,hl,ho,hlive,hb⟩,ob,ho,hdata⟩)
          (fun j hj=>by
            have hjl:j<row.length:=by omega
            have hfx:=flatten_get hvec.wide hrow (List.getElem?_eq_getElem hjl)
            obtain ⟨v,hv1,_⟩:=hcells _ _ hfx
            rw [cell_row hheap,hv1]
            simp [Array.getD_eq_getD_getElem?,hv1])
          (fun j hj=>by
            have hjl:j<row.length:=by omega
            have hfx:=flatten_get hvec.wide hrow (List.getElem?_eq_getElem hjl)
            obtain ⟨v,hv1,hv2,_⟩:=hcells _ _ hfx
            simp only [Array.getD_eq_getD_getElem?,hv1,Option.getD_some]
            exact hv2)
          (fun j q hq=>by
            have hjl:j<row.length:=by have:=(List.getElem?_eq_some_iff.1 hq).1;omega
            have hfx:=flatten_get hvec.wide hrow (List.getElem?_eq_getElem hjl)
            obtain ⟨v,hv1,_,hv3⟩:=hcells _ _ hfx
            simp only [Array.getD_eq_getD_getElem?,hv1,Option.getD_some]
            exact hrel j q _ v hq (List.getElem?_eq_getElem hjl) hv3)
        exact key
      cases ho:V.σ[b]? with
      | none=>simp [ho] at h
      | some ob=>
        obtain ⟨l,hl⟩:=hS.own_of ho
        have hor:=hS.obj b l ob hl ho
        cases ob with
        | pv es rows f=>
          simp only [ho] at h
          split at h
          · rename_i hlen
            simp only [Option.map_eq_some_iff] at h
            obtain ⟨row,hrow,rfl⟩:=h
            refine main _ es (rowsAV rows) (row.map .p) row l ho (by simp [Obj.sh,rowsAV]) rfl rfl hl hor (by simp [rowsAV,hlen]) (rowsAV_get hrow) (by simp) ?_
            intro j q x v hq hx hv
            rw [List.getElem?_map,hq] at hx
            simp only [Option.map_some,Option.some.injEq] at hx
            subst hx
            exact hv.p_inv.mono (fun _ h=>.inl h) (fun _ _=>rfl)
          · simp at h
        | av es rows f=>
          simp only [ho] at h
          split at h
          · rename_i hlen
            simp only [Option.bind_eq_some_iff,Option.map_eq_some_iff] at h
            obtain ⟨row,hrow,pr,hpr,rfl⟩:=h
            obtain ⟨h3,h4⟩:=omap_some hpr
            refine main _ es rows row pr l ho rfl rfl rfl hl hor hlen hrow h3 ?_
            intro j q x v hq hx hv
            obtain ⟨q',hq',hpq⟩:=h4 j x hx
            rw [hq,Option.some.injEq] at hq'
            subst hq'
            refine (ih x q v hpq hv).mono (fun r hr=>?_) (fun _ _=>rfl)
            rcases hr with h | h
            · exact .inl h
            · refine .inr (View.blocks_mono (fun b' hb'=>?_) h)
              simp only [refs,ho,hrow,Option.getD_some,List.mem_cons,List.mem_flatMap]
              exact .inr ⟨x,List.mem_of_getElem? hx,hb'⟩
          · simp at h
        | map=>simp [ho] at h
        | loop=>simp [ho] at h
        | gone=>simp [ho] at h
    | map b r s hs hp=>
      simp only [purify] at h
      cases ho:V.σ[b]? with
      | none=>simp [ho] at h
      | some ob=>
        obtain ⟨l,hl⟩:=hS.own_of ho
        have hor:=hS.obj b l ob hl ho
        cases ob with
        | map es f=>
          simp only [ho,Option.map_eq_some_iff] at h
          obtain ⟨qs,hqs,rfl⟩:=h
          obtain ⟨h1,h2⟩:=omap_some hqs
          obtain ⟨r',en,clock,hlb,hm⟩:=hor
          have hs':s=.map:=by simpa [View.sh,ho,Obj.sh] using hs.symm
          have:r'=r:=by
            have:=hp hs' l hl
            rw [hlb,Option.some.injEq] at this
            exact this
          subst this
          have hget:∀ (i:Nat) (q:PV×PV) (e:MapEntry),qs[i]? = some q→en[i]? = some e→∃ x,es[i]? = some x∧q.1=x.1∧purify V.σ k x.2=some q.2:=by
            intro i q e hq he
            have hi:i<es.length:=by have:=(List.getElem?_eq_some_iff.1 hq).1;omega
            obtain ⟨q',hq',hpq⟩:=h2 i es[i] (List.getElem?_eq_getElem hi)
            rw [hq,Option.some.injEq] at hq'
            subst hq'
            simp only [Option.map_eq_some_iff] at hpq
            obtain ⟨rr,hrr,rfl⟩:=hpq
            exact ⟨es[i],List.getElem?_eq_getElem hi,rfl,hrr⟩
          refine .pmap qs r' en clock (.inr ⟨b,by simp [refs],⟨l,_,hl,ho,rfl,hlb⟩,_,ho,rfl⟩) hm.heap (by rw [h1];exact hm.len) ?_ ?_
          · intro i q e hq he
            obtain ⟨x,hx,h3,_⟩:=hget i q e hq he
            rw [h3]
            exact (hm.key i x e hx he).mono (fun _ h=>.inl h) (fun _ _=>rfl)
          · intro i q e hq he
            obtain ⟨x,hx,_,h4⟩:=hget i q e hq he
            refine (ih _ _ _ h4 (hm.val i x e hx he)).mono (fun r hr=>?_) (fun _ _=>rfl)
            rcases hr with h | h
            · exact .inl h
            · refine .inr (View.blocks_mono (fun b' hb'=>?_) h)
              simp only [refs,ho,List.mem_cons,List.mem_flatMap]
              exact .inr ⟨x,List.mem_of_getElem? hx,hb'⟩
        | pv=>simp [ho] at h
        | av=>simp [ho] at h
        | loop=>simp [ho] at h
        | gone=>simp [ho] at h
theorem freezeAt_get (σ:Store) (b c:Nat):∃ f:Obj→Obj,(∀ o,(f o).sh=o.sh∧(f o).live=o.live∧(f o).data=o.data∧((f o).frozen=false→o.frozen=false)) ∧
    (∀ V l,∀ o,ORel p cq V l o→ORel p cq V l (f o))∧(freezeAt σ b)[c]? = σ[c]?.map f∧(c≠b→∀ o,f o=o)∧(c=b→∀ o,σ[c]? = some o→o.data=true→(f o).frozen=true):=by
  by_cases hc:c=b
  · subst hc
    cases ho:σ[c]? with
    | none=>exact ⟨id,by simp,fun _ _ _ h=>h,by simp [freezeAt,ho],by simp,by simp⟩
    | some o=>
      have hlt:c<σ.length:=(List.getElem?_eq_some_iff.1 ho).1
      cases o with
      | pv es rows f=>
        refine ⟨fun o=>match o with | .pv es rows _=>.pv es rows true | o=>o,?_,?_,by unfold freezeAt;rw [ho];simp [hlt],by simp,by simp [Obj.frozen]⟩
        · intro o;cases o<;>simp [Obj.sh,Obj.live,Obj.data,Obj.frozen]
        · intro V l o h;cases o<;>exact h
      | av es rows f=>
        refine ⟨fun o=>match o with | .av es rows _=>.av es rows true | o=>o,?_,?_,by unfold freezeAt;rw [ho];simp [hlt],by simp,by simp [Obj.frozen]⟩
        · intro o;cases o<;>simp [Obj.sh,Obj.live,Obj.data,Obj.frozen]
        · intro V l o h;cases o<;>exact h
      | map es f=>
        refine ⟨fun o=>match o with | .map es _=>.map es true | o=>o,?_,?_,by unfold freezeAt;rw [ho];simp [hlt],by simp,by simp [Obj.frozen]⟩
        · intro o;cases o<;>simp [Obj.sh,Obj.live,Obj.data,Obj.frozen]
        · intro V l o h;cases o<;>exact h
      | loop=>exact ⟨id,by simp,fun _ _ _ h=>h,by simp [freezeAt,ho],by simp,by simp [Obj.data]⟩
      | gone=>exact ⟨id,by simp,fun _ _ _ h=>h,by simp [freezeAt,ho],by simp,by simp [Obj.data]⟩
  · refine ⟨id,by simp,fun _ _ _ h=>h,?_,by simp,by simp [hc]⟩
    simp only [Option.map_id_fun,id]
    unfold freezeAt
    split<;>first | rfl | (rw [List.getElem?_set_ne (fun hx=>hc hx.symm)])
theorem freezeAt_length (σ:Store) (b:Nat):(freezeAt σ b).length=σ.length:=by
  unfold freezeAt;split<;>simp
theorem SRel.freeze1 {V:View} (h:SRel p cq V) (b:Nat) :
    SRel p cq ⟨V.own,freezeAt V.σ b,fun r=>V.ok r∨V.blocks [b] r,V.w⟩∧Step V ⟨V.own,freezeAt V.σ b,fun r=>V.ok r∨V.blocks [b] r,V.w⟩:=by
  have e:Ext V ⟨V.own,freezeAt V.σ b,fun r=>V.ok r∨V.blocks [b] r,V.w⟩:=by
    refine ⟨fun _ h=>.inl h,fun _ _=>rfl,fun c s hs=>?_⟩
    obtain ⟨f,hf,_,hg,_⟩:=freezeAt_get (p:=p) (cq:=cq) V.σ b c
    refine ⟨s,?_,s.le_refl rfl⟩
    simp only [View.sh] at hs ⊢
    rw [hg]
    cases ho:V.σ[c]? with
    | none=>simp [ho] at hs
    | some o=>
      simp only [ho,Option.map_some,Option.some.injEq] at hs ⊢
      rw [(hf o).1];exact hs
  have hat:∀ c r,(View.mk V.own (freezeAt V.σ b) (fun r=>V.ok r∨V.blocks [b] r) V.w).at c r→V.at c r:=by
    rintro c r ⟨l,o,h1,h2,h3,h4⟩
    obtain ⟨f,hf,_,hg,_⟩:=freezeAt_get (p:=p) (cq:=cq) V.σ b c
    simp only [] at h2
    rw [hg] at h2
    cases ho:V.σ[c]? with
    | none=>simp [ho] at h2
    | some o'=>
      simp only [ho,Option.map_some,Option.some.injEq] at h2
      subst h2
      exact ⟨l,o',h1,ho,by rw [← (hf o').2.1];exact h3,h4⟩
  refine ⟨⟨?_,?_,?_,?_,?_,?_⟩,e,Nat.le_refl _,fun _ _ _=>rfl,?_,?_,rfl⟩
  · simp [freezeAt_length,h.len]
  · intro c l o h1 h2
    obtain ⟨f,hf,hr,hg,_⟩:=freezeAt_get (p:=p) (cq:=cq) V.σ b c
    simp only [] at h2
    rw [hg] at h2
    cases ho:V.σ[c]? with
    | none=>simp [ho] at h2
    | some o'=>
      simp only [ho,Option.map_some,Option.some.injEq] at h2
      subst h2
      exact hr _ _ _ (ORel.mono e (fun _ _=>rfl) (h.obj c l o' h1 ho))
  · intro c c' r hc hc'
    exact h.one c c' r (hat c r hc) (hat c' r hc')
  · intro c r o hc ho hf hk
    obtain ⟨f,hf',_,hg,hne,heq⟩:=freezeAt_get (p:=p) (cq:=cq) V.σ b c
    simp only [] at ho
    rw [hg] at ho
    cases ho':V.σ[c]? with
    | none=>simp [ho'] at ho
    | some o'=>
      simp only [ho',Option.map_some,Option.some.injEq] at ho
      subst ho
      rcases hk with hk | ⟨b',hb',hat',o2,ho2,hd⟩
      · exact h.apart c r o' (hat c r hc) ho' ((hf' o').2.2.2 hf) hk
      · simp only [List.mem_singleton] at hb'
        subst hb'
        have hcb:=h.one c b' r (hat c r hc) hat'
        subst hcb
        rw [ho',Option.some.injEq] at ho2
        subst ho2
        rw [heq rfl o' ho' hd] at hf
        cases hf
  · rintro r ⟨c,hc⟩
    exact h.lt r ⟨c,hat c r hc⟩
  · rintro r (hr | ⟨b',_,hat',_⟩)
    · exact h.okLt r hr
    · exact h.lt r ⟨b',hat'⟩
  · rintro r (hr | ⟨b',_,hat',_⟩)
    · exact .inl hr
    · exact .inr (.inr ⟨b',hat'⟩)
  · rintro r ⟨c,hc⟩
    exact .inl ⟨c,hat c r hc⟩
theorem SRel.freeze:∀ (L:List Nat) {V:View},SRel p cq V→∃ ok',SRel p cq ⟨V.own,freezeAll V.σ L,ok',V.w⟩∧Step V ⟨V.own,freezeAll V.σ L,ok',V.w⟩∧∀ r,(V.ok r∨V.blocks L r)→ok' r
  | [],V,h=>⟨V.ok,h,Step.refl V,by rintro r (h | ⟨b,hb,_⟩);exact h;simp at hb⟩
  | b :: L,V,h=>by
    obtain ⟨h1,s1⟩:=h.freeze1 b
    obtain ⟨ok',h2,s2,h3⟩:=SRel.freeze L h1
    refine ⟨ok',h2,s1.trans s2,?_⟩
    rintro r (hr | ⟨b',hb',hat,o,ho,hd⟩)
    · exact h3 r (.inl (.inl hr))
    · rcases List.mem_cons.1 hb' with rfl | hb'
      · exact h3 r (.inl (.inr ⟨b',by simp,hat,o,ho,hd⟩))
      · refine h3 r (.inr ⟨b',hb',?_⟩)
        obtain ⟨f,hf,_,hg,_⟩:=freezeAt_get (p:=p) (cq:=cq) V.σ b b'
        obtain ⟨l,o',h4,h5,h6,h7⟩:=hat
        rw [ho,Option.some.injEq] at h5
        subst h5
        exact ⟨⟨l,f o,h4,by simp only [];rw [hg,ho];rfl,by rw [(hf o).2.1];exact h6,h7⟩,f o,by simp only [];rw [hg,ho];rfl,by rw [(hf o).2.2.1];exact hd⟩
theorem below_list {n:Nat} {cs:List AV}:(cs.attach.all fun ⟨c,_⟩=>below n c)=true↔∀ c∈cs,below n c=true:=by
  simp [List.all_eq_true]
theorem VRel.under {V:View} {n:Nat} {own':List Loc} {σ':Store} (hsh:∀ b,b<n→σ'[b]? = V.σ[b]?) (hown:∀ b,b<n→own'[b]? = V.own[b]?) {a:AV} {v:Value} (h:VRel V a v):AE.below n a=true→VRel ⟨own',σ',V.ok,V.w⟩ a v:=by
  have sh':∀ b,b<n→(View.mk own' σ' V.ok V.w).sh b=V.sh b:=fun b hb=>by simp [View.sh,hsh b hb]
  induction h with
  | any v=>intro _;exact .any v
  | p h=>intro _;exact .p h
  | nils a=>intro _;exact .nils a
  | sl b n' a c s hs hn h=>
    intro hb
    simp only [AE.below,decide_eq_true_eq] at hb
    exact .sl b n' a c s (by rw [sh' b hb];exact hs) hn (fun es l h1 h2=>h es l h1 (by rw [← hown b hb];exact h2))
  | ptr b n' i o a s hs hn h=>
    intro hb
    simp only [AE.below,decide_eq_true_eq] at hb
    exact .ptr b n' i o a s (by rw [sh' b hb];exact hs) hn (fun es l h1 h2=>h es l h1 (by rw [← hown b hb];exact h2))
  | fn f cs vs hl _ ih=>
    intro hb
    rw [AE.below,below_list] at hb
    exact .fn f cs vs hl fun i q v h1 h2=>ih i q v h1 h2 (hb q (List.mem_of_getElem? h1))
  | yield l r s hs h=>
    intro hb
    simp only [AE.below,decide_eq_true_eq] at hb
    exact .yield l r s (by rw [sh' l hb];exact hs) (fun h1 x h2=>h h1 x (by rw [← hown l hb];exact h2))
  | agg cs vs hl h1 _ ih=>
    intro hb
    rw [AE.below,below_list] at hb
    exact .agg cs vs hl h1 fun i q v h1 h2=>ih i q v h1 h2 (hb q (List.mem_of_getElem? h1))
  | tup cs vs hl _ ih=>
    intro hb
    rw [AE.below,below_list] at hb
    exact .tup cs vs hl fun i q v h1 h2=>ih i q v h1 h2 (hb q (List.mem_of_getElem? h1))
  | map b r s hs h=>
    intro hb
    simp only [AE.below,decide_eq_true_eq] at hb
    exact .map b r s (by rw [sh' b hb];exact hs) (fun h1 x h2=>h h1 x (by rw [← hown b hb];exact h2))
theorem lk_below {n:Nat}:∀ (τ:List (Nat×AV)) (t:Nat),(τ.all fun x=>below n x.2)=true→below n (lk τ t)=true
  | [],t,_=>by simp [lk,below]
  | (k,v) :: r,t,h=>by
    simp only [List.all_cons,Bool.and_eq_true] at h
    simp only [lk]
    split
    · exact h.1
    · exact lk_below r t h.2
theorem SRel.drop {V:View} (h:SRel p cq V) {n:Nat} (hb:(V.σ.take n).all (Obj.below n)=true):SRel p cq ⟨V.own.take n,V.σ.take n,V.ok,V.w⟩:=by
  have hsh:∀ b,b<n→(V.σ.take n)[b]? = V.σ[b]? := fun b hb=>List.getElem?_take_of_lt hb
  have hown:∀ b,b<n→(V.own.take n)[b]? = V.own[b]? := fun b hb=>List.getElem?_take_of_lt hb
  have lt:∀ {b:Nat} {o:Obj},(V.σ.take n)[b]? = some o→b<n:=fun ho=>by
    have:=(List.getElem?_eq_some_iff.1 ho).1
    simp at this
    omega
  have hat:∀ c r,(View.mk (V.own.take n) (V.σ.take n) V.ok V.w).at c r→V.at c r:=by
    rintro c r ⟨l,o,h1,h2,h3,h4⟩
    have hc:=lt h2
    exact ⟨l,o,by rw [← hown c hc];exact h1,by rw [← hsh c hc];exact h2,h3,h4⟩
  refine ⟨by simp [h.len],?_,fun c c' r hc hc'=>h.one c c' r (hat c r hc) (hat c' r hc'),?_,fun r ⟨c,hc⟩=>h.lt r ⟨c,hat c r hc⟩,h.okLt⟩
  · intro c l o h1 h2
    have hc:=lt h2
    have hor:=h.obj c l o (by rw [← hown c hc];exact h1) (by rw [← hsh c hc];exact h2)
    have hbo:o.below n=true:=by
      rw [List.all_eq_true] at hb
      exact hb o (List.mem_of_getElem? h2)
    cases o with
    | pv es rows f=>
      refine ⟨hor.wide,hor.cap,hor.nil,hor.hole,fun r hr=>?_⟩
      obtain ⟨cc,t,h3,h4,h5⟩:=hor.cells r hr
      refine ⟨cc,t,h3,h4,fun k a ha=>?_⟩
      obtain ⟨v,h6,h7,h8⟩:=h5 k a ha
      refine ⟨v,h6,h7,?_⟩
      rw [rowsAV_flatten,List.getElem?_map,Option.map_eq_some_iff] at ha
      obtain ⟨q,_,rfl⟩:=ha
      exact .p h8.p_inv
    | av es rows f=>
      refine ⟨hor.wide,hor.cap,hor.nil,hor.hole,fun r hr=>?_⟩
      obtain ⟨cc,t,h3,h4,h5⟩:=hor.cells r hr
      refine ⟨cc,t,h3,h4,fun k a ha=>?_⟩
      obtain ⟨v,h6,h7,h8⟩:=h5 k a ha
      refine ⟨v,h6,h7,h8.under hsh hown ?_⟩
      simp only [Obj.below,List.all_eq_true] at hbo
      obtain ⟨x,hx,hax⟩:=List.mem_flatten.1 (List.mem_of_getElem? ha)
      exact hbo x hx a hax
    | map es f=>
      obtain ⟨r,en,clock,hl,hm⟩:=hor
      refine ⟨r,en,clock,hl,hm.heap,hm.len,hm.key,fun i a b h1 h2=>(hm.val i a b h1 h2).under hsh hown ?_⟩
      simp only [Obj.below,List.all_eq_true] at hbo
      exact hbo a (List.mem_of_getElem? h1)
    | loop τ nt ps asg body s=>
      obtain ⟨r,L,hl,hm⟩:=hor
      refine ⟨r,L,hl,hm.heap,hm.state,hm.asg,hm.body,hm.ps,hm.size,hm.small,fun t=>(hm.tmps t).under hsh hown ?_⟩
      exact lk_below τ t hbo
    | gone=>trivial
  · intro c r o hc ho hf hk
    exact h.apart c r o (hat c r hc) (by rw [← hsh c (lt ho)];exact ho) hf hk
theorem Step.drop {V V':View} (h:Step V V') {n:Nat} (hn:V.σ.length≤n):Step V ⟨V'.own.take n,V'.σ.take n,V'.ok,V'.w⟩ where
  ext:=by
    refine ⟨h.ext.ok,h.ext.keep,fun b s hs=>?_⟩
    obtain ⟨s',hs',hle⟩:=h.ext.sh b s hs
    have hb:b<n:=by
      unfold View.sh at hs
      rcases Nat.lt_or_ge b V.σ.length with h1 | h1
      · omega
      · simp [List.getElem?_eq_none h1] at hs
    refine ⟨s',by simpa [View.sh,List.getElem?_take_of_lt hb] using hs',?_⟩
    simpa [List.getElem?_take_of_lt hb] using hle
  size:=h.size
  env:=h.env
  keep:=h.keep
  okNew:=h.okNew
  ownNew:=by
    rintro r ⟨c,l,o,h1,h2,h3,h4⟩
    refine h.ownNew r ⟨c,l,o,?_,?_,h3,h4⟩
    · have:c<n:=by have:=(List.getElem?_eq_some_iff.1 h1).1;simp at this;omega
      simpa [List.getElem?_take_of_lt this] using h1
    · have:c<n:=by have:=(List.getElem?_eq_some_iff.1 h2).1;simp at this;omega
      simpa [List.getElem?_take_of_lt this] using h2
theorem SRel.gc {V:View} (h:SRel p cq V) (n:Nat) (vs:List AV):∃ own',SRel p cq ⟨own',AE.gc n vs V.σ,V.ok,V.w⟩∧(∀ a∈vs,∀ v,VRel V a v→VRel ⟨own',AE.gc n vs V.σ,V.ok,V.w⟩ a v) ∧
    (∀ V0:View,V0.σ.length≤n→Step V0 V→Step V0 ⟨own',AE.gc n vs V.σ,V.ok,V.w⟩)∧∀ r,View.owned ⟨own',AE.gc n vs V.σ,V.ok,V.w⟩ r→V.owned r:=by
  unfold AE.gc
  split
  · exact ⟨V.own,h,fun _ _ _ h=>h,fun _ _ h=>h,fun _ h=>h⟩
  · split
    · rename_i _ hg
      simp only [gcOk,Bool.and_eq_true] at hg
      refine ⟨V.own.take n,h.drop hg.2,fun a ha v hv=>hv.under (fun b hb=>List.getElem?_take_of_lt hb) (fun b hb=>List.getElem?_take_of_lt hb) ?_,fun V0 hn hs=>hs.drop hn,?_⟩
      · rw [List.all_eq_true] at hg
        exact hg.1 a ha
      · rintro r ⟨c,l,o,h1,h2,h3,h4⟩
        refine ⟨c,l,o,?_,?_,h3,h4⟩
        · have:c<n:=by have:=(List.getElem?_eq_some_iff.1 h1).1;simp at this;omega
          simpa [List.getElem?_take_of_lt this] using h1
        · have:c<n:=by have:=(List.getElem?_eq_some_iff.1 h2).1;simp at this;omega
          simpa [List.getElem?_take_of_lt this] using h2
    · exact ⟨V.own,h,fun _ _ _ h=>h,fun _ _ h=>h,fun _ h=>h⟩
theorem SRel.empty (ok:Nat→Prop) (w:World) (h:∀ r,ok r→r<w.heap.size):SRel p cq ⟨[],[],ok,w⟩ where
  len:=rfl
  obj:=by simp
  one:=by rintro b b' r ⟨l,o,h1,_⟩;simp at h1
  apart:=by rintro b r o ⟨l,o',h1,_⟩;simp at h1
  lt:=by rintro r ⟨b,l,o,h1,_⟩;simp at h1
  okLt:=h
theorem SRel.across {V:View} (h:SRel p cq V) {ok1 ok2:Nat→Prop} {Vc:View} (hs:Step ⟨[],[],ok1,V.w⟩ Vc) (h1:∀ r,V.ok r→ok2 r) (h2:∀ r,ok2 r→V.ok r∨V.w.heap.size≤r) (h3:∀ r,ok2 r→r<Vc.w.heap.size) :
    SRel p cq ⟨V.own,V.σ,ok2,Vc.w⟩∧Step V ⟨V.own,V.σ,ok2,Vc.w⟩:=by
  have hno:∀ r,¬ (View.mk [] [] ok1 V.w).owned r:=by rintro r ⟨b,l,o,h1,_⟩;simp at h1
  have keep:∀ r,r<V.w.heap.size→Vc.w.heap[r]? = V.w.heap[r]? := fun r hr=>hs.keep r hr (hno r)
  have e:Ext V ⟨V.own,V.σ,ok2,Vc.w⟩:=⟨h1,fun b hb=>keep b (h.okLt b hb),fun b s hs=>⟨s,hs,s.le_refl rfl⟩⟩
  refine ⟨⟨h.len,?_,h.one,?_,?_,h3⟩,e,hs.size,fun r hr _=>keep r hr,fun r hr=>(h2 r hr).imp id .inl,fun r hr=>.inl hr,hs.env⟩
  · intro b l o hl ho
    cases hlive:o.live with
    | false=>cases o<;>first | trivial | (simp [Obj.live] at hlive)
    | true=>exact ORel.mono e (fun r hr=>keep r (h.lt r ⟨b,l,o,hl,ho,hlive,hr⟩)) (h.obj b l o hl ho)
  · intro b r o hb ho hf hk
    rcases h2 r hk with hx | hx
    · exact h.apart b r o hb ho hf hx
    · have:=h.lt r ⟨b,hb⟩;omega
  · rintro r hr
    exact Nat.lt_of_lt_of_le (h.lt r hr) hs.size
end Go.AE
