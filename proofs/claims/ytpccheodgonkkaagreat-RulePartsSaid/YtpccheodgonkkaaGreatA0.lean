import GoSem.Claims
import Derived.Laws.World
import Derived.Laws.Rows
import Derived.Laws.Tables
import Derived.Laws.Append
import Derived.Laws.Cells
set_option linter.unusedSimpArgs false
set_option linter.unusedVariables false
namespace Go.AE
theorem bL:type_of% @Option.some.injEq:=@Option.some.injEq
theorem bz:type_of% @List.length_map:=@List.length_map
theorem gu:type_of% @List.getElem?_eq_some_iff:=@List.getElem?_eq_some_iff
theorem fM:type_of% @Option.bind_eq_some_iff:=@Option.bind_eq_some_iff
theorem fC:type_of% @Classical.propComplete:=@Classical.propComplete
theorem gE:type_of% @Option.map_eq_some_iff:=@Option.map_eq_some_iff
theorem oh:type_of% @List.getElem?_eq_getElem:=@List.getElem?_eq_getElem
theorem mK:type_of% @List.mem_of_getElem?:=@List.mem_of_getElem?
theorem mh:type_of% @List.length_append:=@List.length_append
theorem nh:type_of% @Bool.false_eq_true:=@Bool.false_eq_true
theorem oi:type_of% @List.length_cons:=@List.length_cons
theorem ym:type_of% @List.getElem?_append_left:=@List.getElem?_append_left
theorem pN:type_of% @List.length_nil:=@List.length_nil
theorem CG:type_of% @List.getElem?_append_right:=@List.getElem?_append_right
theorem pD:type_of% @Int.lt_irrefl:=@Int.lt_irrefl
theorem pY:type_of% @Prod.mk.injEq:=@Prod.mk.injEq
theorem vd:type_of% @Option.map_some:=@Option.map_some
theorem qL:type_of% @List.mem_cons:=@List.mem_cons
theorem xF:type_of% @List.getElem?_map:=@List.getElem?_map
theorem xu:type_of% @Option.bind_some:=@Option.bind_some
theorem vD:type_of% @Bool.false_and:=@Bool.false_and
theorem ue:type_of% @List.map_cons:=@List.map_cons
theorem yE:type_of% @Bool.and_eq_true:=@Bool.and_eq_true
theorem qj:type_of% @Nat.le_refl:=@Nat.le_refl
theorem yK:type_of% @List.nil_append:=@List.nil_append
theorem sQ:type_of% @Nat.zero_add:=@Nat.zero_add
theorem F9:type_of% @List.mem_append_left:=@List.mem_append_left
theorem AS:type_of% @List.all_eq_true:=@List.all_eq_true
theorem Jm:type_of% @List.length_eq_zero_iff:=@List.length_eq_zero_iff
theorem NX:type_of% @List.getElem?_cons_zero:=@List.getElem?_cons_zero
theorem Q6:type_of% @Array.getElem?_eq_some_iff:=@Array.getElem?_eq_some_iff
theorem Jn:type_of% @Nat.mul_le_mul_right:=@Nat.mul_le_mul_right
theorem Ec:type_of% @List.cons_append:=@List.cons_append
theorem Jo:type_of% @Option.bind_eq_bind:=@Option.bind_eq_bind
theorem UK:type_of% @Array.getD_eq_getD_getElem?:=@Array.getD_eq_getD_getElem?
theorem IY:type_of% @List.pairwise_cons:=@List.pairwise_cons
theorem Ed:type_of% @List.map_append:=@List.map_append
theorem Gb:type_of% @List.mem_append:=@List.mem_append
theorem O0:type_of% @List.getElem?_set_ne:=@List.getElem?_set_ne
theorem UL:type_of% @List.getElem?_take_of_lt:=@List.getElem?_take_of_lt
theorem CU:type_of% @List.map_nil:=@List.map_nil
theorem CV:type_of% @List.mem_map:=@List.mem_map
theorem Mz:type_of% @List.mem_flatMap:=@List.mem_flatMap
theorem Xp:type_of% @List.getElem?_set_self:=@List.getElem?_set_self
theorem Q7:type_of% @Nat.lt_of_lt_of_le:=@Nat.lt_of_lt_of_le
theorem aaT:type_of% @List.getD_eq_getElem?_getD:=@List.getD_eq_getElem?_getD
theorem Xq:type_of% @List.mem_append_right:=@List.mem_append_right
theorem IZ:type_of% @Bool.true_and:=@Bool.true_and
theorem Uy:type_of% @List.getElem?_take:=@List.getElem?_take
theorem Uz:type_of% @List.mem_singleton:=@List.mem_singleton
theorem Xr:type_of% @List.getElem?_of_mem:=@List.getElem?_of_mem
theorem Q2:type_of% @Option.getD_some:=@Option.getD_some
theorem OZ:type_of% @Bool.or_eq_true:=@Bool.or_eq_true
theorem Uw:type_of% @List.any_eq_false:=@List.any_eq_false
theorem Ux:type_of% @List.append_assoc:=@List.append_assoc
theorem aa3:type_of% @List.getElem?_eq_none:=@List.getElem?_eq_none
theorem aa4:type_of% @Nat.pow_le_pow_right:=@Nat.pow_le_pow_right
theorem NW:type_of% @Bool.false_or:=@Bool.false_or
theorem aa6:type_of% @List.getElem?_cons_succ:=@List.getElem?_cons_succ
theorem aa7:type_of% @List.pairwise_iff_getElem:=@List.pairwise_iff_getElem
theorem UJ:type_of% @List.getElem_mem:=@List.getElem_mem
theorem aa9:type_of% @List.set_cons_zero:=@List.set_cons_zero
theorem UM:type_of% @List.foldl_cons:=@List.foldl_cons
theorem abb:type_of% @List.getElem?_drop:=@List.getElem?_drop
theorem abc:type_of% @List.drop_eq_getElem_cons:=@List.drop_eq_getElem_cons
theorem MA:type_of% @Nat.pow_pos:=@Nat.pow_pos
theorem abe:type_of% @List.mem_zipIdx_iff_getElem?:=@List.mem_zipIdx_iff_getElem?
theorem Q8:type_of% @Bool.and_self:=@Bool.and_self
theorem UA:type_of% @List.all_cons:=@List.all_cons
theorem abh:type_of% @Classical.not_not:=@Classical.not_not
theorem abi:type_of% @List.flatten_cons:=@List.flatten_cons
theorem UN:type_of% @Bool.and_false:=@Bool.and_false
theorem abk:type_of% @Nat.lt_of_le_of_lt:=@Nat.lt_of_le_of_lt
theorem abm:type_of% @Array.getElem?_eq_getElem:=@Array.getElem?_eq_getElem
theorem abn:type_of% @List.mem_cons_of_mem:=@List.mem_cons_of_mem
theorem abo:type_of% @Bool.true_eq_false:=@Bool.true_eq_false
theorem abp:type_of% @Array.getElem?_modify:=@Array.getElem?_modify
theorem abq:type_of% @List.append_nil:=@List.append_nil
theorem abr:type_of% @List.getElem?_range:=@List.getElem?_range
theorem UB:type_of% @Nat.lt_or_ge:=@Nat.lt_or_ge
theorem NY:type_of% @Nat.mod_lt:=@Nat.mod_lt
theorem UO:type_of% @Nat.le_trans:=@Nat.le_trans
theorem abw:type_of% @List.mem_range:=@List.mem_range
theorem UC:type_of% @Nat.zero_le:=@Nat.zero_le
theorem aby:type_of% @List.filterMap_append:=@List.filterMap_append
theorem Xs:type_of% @Nat.succ_mul:=@Nat.succ_mul
theorem abA:type_of% @Option.some.inj:=@Option.some.inj
theorem abB:type_of% @Bool.or_eq_false_iff:=@Bool.or_eq_false_iff
theorem abC:type_of% @List.mem_of_mem_drop:=@List.mem_of_mem_drop
theorem abD:type_of% @List.length_take:=@List.length_take
theorem Yw:type_of% @Nat.sub_self:=@Nat.sub_self
theorem abF:type_of% @Bool.not_eq_true':=@Bool.not_eq_true'
theorem abG:type_of% @List.flatMap_cons:=@List.flatMap_cons
theorem abH:type_of% @List.exists_mem_of_ne_nil:=@List.exists_mem_of_ne_nil
theorem abI:type_of% @Bool.true_or:=@Bool.true_or
theorem abJ:type_of% @Array.toList_map:=@Array.toList_map
theorem abK:type_of% @List.mem_of_mem_take:=@List.mem_of_mem_take
theorem abL:type_of% @List.any_cons:=@List.any_cons
theorem abM:type_of% @List.all_nil:=@List.all_nil
theorem abN:type_of% @Bool.eq_false_iff:=@Bool.eq_false_iff
theorem abO:type_of% @Array.length_toList:=@Array.length_toList
theorem abP:type_of% @Bool.eq_iff_iff:=@Bool.eq_iff_iff
theorem abQ:type_of% @List.filterMap_cons:=@List.filterMap_cons
theorem abR:type_of% @List.take_succ_cons:=@List.take_succ_cons
theorem abS:type_of% @List.length_eq_one_iff:=@List.length_eq_one_iff
theorem abT:type_of% @List.any_eq_true:=@List.any_eq_true
theorem abU:type_of% @Bool.not_true:=@Bool.not_true
theorem abV:type_of% @List.length_singleton:=@List.length_singleton
theorem abW:type_of% @List.map_map:=@List.map_map
theorem abX:type_of% @Sum.inl.injEq:=@Sum.inl.injEq
theorem abY:type_of% @List.length_range:=@List.length_range
theorem abZ:type_of% @Nat.div_le_self:=@Nat.div_le_self
theorem ab0:type_of% @Bool.and_true:=@Bool.and_true
theorem ab1:type_of% @List.length_pos_iff:=@List.length_pos_iff
theorem ab2:type_of% @List.map_congr_left:=@List.map_congr_left
theorem ab3:type_of% @List.filter_cons:=@List.filter_cons
theorem ab4:type_of% @List.length_drop:=@List.length_drop
theorem ab5:type_of% @List.range'_succ:=@List.range'_succ
theorem ab6:type_of% @Bool.not_false:=@Bool.not_false
theorem ab7:type_of% @List.drop_of_length_le:=@List.drop_of_length_le
theorem ab8:type_of% @Option.isSome_none:=@Option.isSome_none
theorem ab9:type_of% @List.getElem?_toArray:=@List.getElem?_toArray
theorem aca:type_of% @List.length_replicate:=@List.length_replicate
theorem acb:type_of% @List.length_zip:=@List.length_zip
theorem acd:type_of% @Nat.add_mul:=@Nat.add_mul
theorem ace:type_of% @Nat.add_zero:=@Nat.add_zero
theorem acf:type_of% @Nat.div_lt_iff_lt_mul:=@Nat.div_lt_iff_lt_mul
theorem acg:type_of% @UInt8.not_lt:=@UInt8.not_lt
theorem ach:type_of% @Function.comp_def:=@Function.comp_def
theorem aci:type_of% @Int.toNat_natCast:=@Int.toNat_natCast
theorem acj:type_of% @Nat.mod_eq_of_lt:=@Nat.mod_eq_of_lt
theorem ack:type_of% @Int.natCast_mul:=@Int.natCast_mul
theorem acm:type_of% @List.map_take:=@List.map_take
theorem acn:type_of% @Nat.add_assoc:=@Nat.add_assoc
theorem aco:type_of% @Option.map_none:=@Option.map_none
theorem acp:type_of% @Bool.or_true:=@Bool.or_true
inductive PV where
 |int (k:IntKind) (n:Int)
 |bool (b:Bool)
 |str (s:ByteArray)
 |agg (cs:List PV)
 |jO (vs:List PV)
 |aW (rows:List (List PV))
 |ptr (row:List PV) (o:Nat)
 |vu
 |fn (f:FuncId) (cap:List PV)
 |w9
 |E4
 |pmap (es:List (PV×PV))
 deriving Inhabited
inductive AV where
 |any
 |p (v:PV)
 |aF
 |sl (b n:Nat)
 |ptr (b n i o:Nat)
 |fn (f:FuncId) (cap:List AV)
 |yield (l:Nat)
 |agg (cs:List AV)
 |jO (vs:List AV)
 |map (b:Nat)
 deriving Inhabited
inductive mg where
 |int|str|bool
 deriving DecidableEq,Inhabited
inductive O where
 |t (n:Nat)
 |c (v:AV)
 deriving Inhabited
inductive lV where
 |mv (x:O) (eager:Bool)
 |pick (c a b:O)
 |alloc (zero:List AV) (es:Nat)
 |init (size:Nat) (agg:Bool) (x:O) (ro:Bool)
 |box (size:Nat) (agg:Bool) (x:O) (ro:Bool)
 |build (zero:List AV) (parts:List (Nat×Nat×O))
 |fB (es:Nat) (zero:List AV) (len:Nat) (parts:List (Nat×Nat×O))
 |jY (es:Nat) (zero:List AV) (len:Nat) (parts:List (Nat×Nat×O))
 |load (size:Nat) (agg:Bool) (x:O)
 |store (size:Nat) (a v:O)
 |arith (op:BinOp) (x y:O)
 |eqB (neg:Bool) (x y:O)
 |UD (neg:Bool) (lv:List mg) (x y:O)
 |not (x:O)
 |neg (x:O)
 |Hb (x:O)
 |conv (k:IntKind) (x:O)
 |J5 (x:O)
 |b2s (x:O)
 |cQ (off:Nat) (x:O)
 |fld (off size:Nat) (agg:Bool) (x:O)
 |KJ (len es:Nat) (x i:O)
 |aA (es:Nat) (x i:O)
 |VV (len es:Nat) (agg:Bool) (x i:O)
 |M6 (x i:O)
 |IW (es:Nat) (x:O) (lo hi mx:Option O)
 |W4 (x:O) (lo hi:Option O)
 |Z2 (len es:Nat) (x:O) (lo hi mx:Option O)
 |lookup (kl:mg) (zero:AV) (x k:O) (ok:Bool)
 |Qb (kl:mg) (x k v:O)
 |Bq
 |uh (es:Nat) (bytes:Nat) (zero:List AV) (len cap:O)
 |extract (x:O) (k:Nat)
 |dW (f:FuncId) (args:List O)
 |CW (f:FuncId) (args:List O)
 |ox (x:O) (args:List O)
 |bV (x:O)
 |Nd (x:O)
 |yw (x:O)
 |VY (n:Nat)
 |append (es bytes:Nat) (x y:O)
 |copy (es:Nat) (x y:O)
 |tv (mx:Bool) (args:List O)
 |xx (f:FuncId) (caps:List O)
 |DU (x:O)
 |Zg (x:O)
 |Hk (neg:Bool) (x:O)
 |bad (why:String)
 deriving Inhabited
structure fG where
 dst:Option Nat
 op:lV
 guard:Option (Nat×Bool)
 deriving Inhabited
inductive K where
 |skip
 |cX (draw:Bool) (ops:List fG)
 |CO (ops:List fG) (prs:List (Nat×Nat))
 |seq (a b:K)
 |cond (c:O) (a b:K)
 |block (id:Nat) (b:K)
 |loop (lv:List Nat) (b:K)
 |range (g:O) (ps lv:List Nat) (gP b:K)
 |exit (id:Nat)
 |ret
 |bad (why:String)
 deriving Inhabited
inductive RV where
 |tmp (t:Nat)
 |cell (t size:Nat) (agg:Bool)
 deriving Inhabited
structure cZ where
 ntmps:Nat
 results:List RV
 body:K
 imp:Bool
 deriving Inhabited
inductive Ex where
 |normal
 |exit (id:Nat)
 |ret
 deriving Inhabited,DecidableEq
@[ext] structure Tm where
  get:Nat→AV
instance:Inhabited Tm:=⟨⟨fun _=>.any⟩⟩
def lk:List (Nat×AV)→Nat→AV
 | [],_=>.any
 |(k,v)::r,t=>if k=t then v else lk r t
def tm(l:List (Nat×AV)):Tm:=⟨lk l⟩
def jg(τ:Tm)(d:Nat)(v:AV):Tm:=⟨fun t=>if d=t then v else τ.get t⟩
inductive Obj where
 |pv (es:Nat) (rows:List (List PV)) (fr:Bool)
 |av (es:Nat) (rows:List (List AV)) (fr:Bool)
 |map (es:List (PV×AV)) (fr:Bool)
 |loop (τ:List (Nat×AV)) (nt:Nat) (ps:List Nat) (gP body:K) (state:Option Ex)
 |gone
 deriving Inhabited
abbrev ae:=List Obj
structure St where
 τ:Tm
 σ:ae
 nt:Nat
 rd:Option Nat:=none
 deriving Inhabited
def Tm.kept(τ:Tm)(lv:List Nat):List (Nat×AV):=lv.map fun t=>(t,τ.get t)
def Tm.keep(τ:Tm)(lv:List Nat):Tm:=tm (τ.kept lv)
def O.val(τ:Tm):O→AV
 |.t n=>τ.get n
 |.c v=>v
def omap{α β:Type}(f:α→Option β):List α→Option (List β)
 | []=>some []
 |a::r=>match f a with
  |some b=>match omap f r with
   |some bs=>some (b::bs)
   |none=>none
  |none=>none
def af:List AV→Option (List PV)
 | []=>some []
 |.p v::r=>(af r).map (v::·)
 |_::_=>none
def w7(cs:List AV):AV :=
 match af cs with
 |some ps=>.p (.agg ps)
 |none=>.agg cs
def w8(cs:List AV):AV :=
 match af cs with
 |some ps=>.p (.jO ps)
 |none=>.jO cs
def CM(f:FuncId)(cs:List AV):AV :=
 match af cs with
 |some ps=>.p (.fn f ps)
 |none=>.fn f cs
def cellsOf(size:Nat)(agg:Bool)(v:AV):Option (List AV) :=
 if agg then
  match v with
  |.p (.agg ps)=>if ps.length=size then some (ps.map .p)else none
  |.agg cs=>if cs.length=size then some cs else none
  |_=>none
 else
  match v with
  |.any|.agg _|.jO _|.p (.agg _)|.p (.jO _)=>none
  |v=>some [v]
def lY(agg:Bool)(cs:List AV):Option AV :=
 if agg then some (w7 cs)else
 match cs with
 | [v]=>some v
 |_=>none
def nM(agg:Bool)(cs:List PV):Option PV :=
 if agg then some (.agg cs)else
 match cs with
 | [v]=>some v
 |_=>none
def mkObj(es:Nat)(row:List AV):Obj :=
 match af row with
 |some ps=>.pv es [ps] false
 |none=>.av es [row] false
def Obj.len:Obj→Option Nat
 |.pv _ rows _=>some rows.length
 |.av _ rows _=>some rows.length
 |_=>none
def W5(σ:ae)(b:Nat):Option Nat:=σ[b]?.bind Obj.len
def Obj.M4:Obj→Option (Nat×Nat)
 |.pv es rows _=>some (es,rows.length)
 |.av es rows _=>some (es,rows.length)
 |_=>none
def NO(σ:ae)(b:Nat):Option (Nat×Nat):=σ[b]?.bind Obj.M4
def part{α:Type}(off size:Nat)(row:List α):Option (List α):=if off+size≤row.length then some ((row.drop off).take size)else none
def b9{α:Type}(off:Nat)(new row:List α):Option (List α):=if off+new.length≤row.length then some (row.take off++new++row.drop (off+new.length))else none
def aT:List AV→ae→List AV×ae
 | [],σ=>([],σ)
 |.aF::r,σ=>let (r',σ'):=aT r (σ++[.pv 0 [] false]);(.sl σ.length 0::r',σ')
 |v::r,σ=>let (r',σ'):=aT r σ;(v::r',σ')
def az(σ:ae):Nat→AV→Option PV
 |0,_=>none
 |k+1,v=>
  match v with
  |.p v=>some v
  |.aF=>some (.aW [])
  |.sl b n=>match σ[b]? with
   |some (.pv _ rows _)=>if rows.length=n then some (.aW rows)else none
   |some (.av _ rows _)=>if rows.length=n then(omap (omap (az σ k)) rows).map .aW else none
   |_=>none
  |.ptr b n i o=>match σ[b]? with
   |some (.pv _ rows _)=>if rows.length=n then rows[i]?.map (.ptr · o)else none
   |some (.av _ rows _)=>if rows.length=n then rows[i]?.bind fun r=>(omap (az σ k) r).map (.ptr · o)else none
   |_=>none
  |.fn f cap=>(omap (az σ k) cap).map (.fn f)
  |.agg cs=>(omap (az σ k) cs).map .agg
  |.jO cs=>(omap (az σ k) cs).map .jO
  |.map b=>match σ[b]? with
   |some (.map es _)=>(omap (fun e:PV×AV=>(az σ k e.2).map fun r=>(e.1,r)) es).map .pmap
   |_=>none
  |_=>none
def depth:Nat:=12
def PV.flat:PV→Bool
 |.int .. |.bool _|.str _|.vu|.w9|.E4=>true
 |.agg cs=>cs.attach.all fun⟨c,_⟩=>PV.flat c
 |.jO cs=>cs.attach.all fun⟨c,_⟩=>PV.flat c
 |.aW rows=>rows.isEmpty
 |_=>false
def refs(σ:ae):Nat→AV→List Nat
 |0,_=>[]
 |k+1,v=>
  match v with
  |.sl b _=>b::(match σ[b]? with|some (.av _ rows _)=>rows.flatMap fun r=>r.flatMap (refs σ k)|_=>[])
  |.ptr b _ i _=>b::(match σ[b]? with|some (.av _ rows _)=>(rows[i]?.getD []).flatMap (refs σ k)|_=>[])
  |.map b=>b::(match σ[b]? with|some (.map es _)=>es.flatMap fun e=>refs σ k e.2|_=>[])
  |.fn _ cap=>cap.flatMap (refs σ k)
  |.agg cs|.jO cs=>cs.flatMap (refs σ k)
  |_=>[]
def dD(σ:ae)(b:Nat):ae :=
 match σ[b]? with
 |some (.pv es rows _)=>σ.set b (.pv es rows true)
 |some (.av es rows _)=>σ.set b (.av es rows true)
 |some (.map es _)=>σ.set b (.map es true)
 |_=>σ
def bF(σ:ae):List Nat→ae
 | []=>σ
 |b::r=>bF (dD σ b) r
def below(n:Nat):AV→Bool
 |.sl b _|.ptr b _ _ _|.map b|.yield b=>b<n
 |.fn _ cap=>cap.attach.all fun⟨c,_⟩=>below n c
 |.agg cs=>cs.attach.all fun⟨c,_⟩=>below n c
 |.jO cs=>cs.attach.all fun⟨c,_⟩=>below n c
 |_=>true
def Obj.below(n:Nat):Obj→Bool
 |.av _ rows _=>rows.all fun r=>r.all (AE.below n)
 |.map es _=>es.all fun e=>AE.below n e.2
 |.loop τ _ _ _ _ _=>τ.all fun x=>AE.below n x.2
 |_=>true
def yW(n:Nat)(vs:List AV)(σ:ae):Bool:=vs.all (below n) && (σ.take n).all (Obj.below n)
def gc(n:Nat)(vs:List AV)(σ:ae):ae:=if σ.length≤n then σ else if yW n vs σ then σ.take n else σ
def rm(op:BinOp)(k:IntKind)(a b:Int):Option PV :=
 match op with
 |.add=>some (.int k (k.wrap (a+b)))
 |.sub=>some (.int k (k.wrap (a-b)))
 |.mul=>some (.int k (k.wrap (a*b)))
 |.quo=>if b=0 then none else some (.int k (k.wrap (a.tdiv b)))
 |.rem=>if b=0 then none else some (.int k (a.tmod b))
 |.and=>some (.int k (k.wrap (BitVec.ofInt k.bits a &&& BitVec.ofInt k.bits b).toNat))
 |.or=>some (.int k (k.wrap (BitVec.ofInt k.bits a |||BitVec.ofInt k.bits b).toNat))
 |.xor=>some (.int k (k.wrap (BitVec.ofInt k.bits a ^^^ BitVec.ofInt k.bits b).toNat))
 |.andNot=>some (.int k (k.wrap (BitVec.ofInt k.bits a &&& ~~~ BitVec.ofInt k.bits b).toNat))
 |.eql=>some (.bool (a == b))
 |.neq=>some (.bool (a != b))
 |.lss=>some (.bool (decide (a<b)))
 |.leq=>some (.bool (decide (a≤b)))
 |.gtr=>some (.bool (decide (a > b)))
 |.geq=>some (.bool (decide (a ≥ b)))
 |_=>none
def FT(op:BinOp)(k:IntKind)(a b:Int):Option PV :=
 if b<0 then none else
 match op with
 |.shl=>some (.int k (k.wrap (a*2^(min b.toNat k.bits))))
 |.shr=>some (.int k (a.fdiv (2^(min b.toNat k.bits))))
 |_=>none
def Uf(op:BinOp)(a b:ByteArray):Option PV :=
 match op with
 |.add=>if((a.size+b.size:Nat):Int) > IntKind.i64.max then none else some (.str (a++b))
 |.eql=>some (.bool (a.toList == b.toList))
 |.neq=>some (.bool !(a.toList == b.toList))
 |.lss=>some (.bool (Op.bytesLess a.toList b.toList))
 |.leq=>some (.bool (Op.bytesLess a.toList b.toList ||a.toList == b.toList))
 |.gtr=>some (.bool !(Op.bytesLess a.toList b.toList ||a.toList == b.toList))
 |.geq=>some (.bool !(Op.bytesLess a.toList b.toList))
 |_=>none
def ni:mg→PV→PV→Option Bool
 |.int,.int k a,.int k' b=>if k=k' then some (a == b)else none
 |.str,.str a,.str b=>some (a.toList == b.toList)
 |.bool,.bool a,.bool b=>some (a == b)
 |_,_,_=>none
def dg:List mg→List PV→List PV→Option Bool
 | [],[],[]=>some true
 |l::ls,a::r,b::s=>(ni l a b).bind fun t=>(dg ls r s).map (t && ·)
 |_,_,_=>none
def binop(op:BinOp)(x y:PV):Option PV :=
 match x,y with
 |.int k a,.int k' b=>
  match op with
  |.shl|.shr=>FT op k a b
  |_=>if k=k' then rm op k a b else none
 |.str a,.str b=>Uf op a b
 |_,_=>none
def OO(σ:ae):AV→Option (List (List PV))
 |.p (.aW rows)=>some rows
 |.aF=>some []
 |.sl b n=>match σ[b]? with
  |some (.pv _ rows _)=>if rows.length=n then some rows else none
  |_=>none
 |_=>none
def bV(σ:ae):AV→Option Nat
 |.p (.aW rows)=>some rows.length
 |.aF=>some 0
 |.sl b n=>if W5 σ b=some n then some n else none
 |_=>none
def yw(σ:ae):AV→Option Nat
 |.p .E4=>some 0
 |.p (.pmap es)=>some es.length
 |.map b=>match σ[b]? with
  |some (.map es _)=>some es.length
  |_=>none
 |_=>none
def mm:AV→Option Nat
 |.p (.int _ n)=>if 0≤n then some n.toNat else none
 |_=>none
def tf:AV→Option Bool
 |.p (.bool b)=>some b
 |_=>none
def gM(σ:ae)(size:Nat)(agg:Bool):AV→Option AV
 |.p (.ptr row o)=>((part o size row).bind (nM agg)).map .p
 |.ptr b n i o=>match σ[b]? with
  |some (.pv _ rows _)=>if rows.length=n then((rows[i]?.bind (part o size)).bind (nM agg)).map .p else none
  |some (.av _ rows _)=>if rows.length=n then(rows[i]?.bind (part o size)).bind (lY agg)else none
  |_=>none
 |_=>none
def setRow(σ:ae)(b n i o:Nat)(new:List AV):Option ae :=
 match σ[b]? with
 |some (.pv es rows false)=>if rows.length=n then
   (rows[i]?.bind fun r=>
    match af new with
    |some ps=>(b9 o ps r).map fun r'=>σ.set b (.pv es (rows.set i r') false)
    |none=>(b9 o new (r.map .p)).map fun r'=>σ.set b (.av es ((rows.map fun r=>r.map .p).set i r') false))else none
 |some (.av es rows false)=>if rows.length=n then
   (rows[i]?.bind fun r=>(b9 o new r).map fun r'=>
    σ.set b (match(rows.set i r')with
     | [r'']=>match af r'' with
      |some ps=>.pv es [ps] false
      |none=>.av es [r''] false
     |rows'=>.av es rows' false))else none
 |_=>none
def eE(σ:ae)(size:Nat)(a v:AV):Option ae :=
 match a with
 |.ptr b n i o=>
  match cellsOf size (match v with|.agg _|.p (.agg _)=>true|_=>false) v with
  |some cs=>if cs.length=size then(let (cs',σ'):=aT cs σ;setRow σ' b n i o cs')else none
  |none=>none
 |_=>none
def gK(cells:List AV):List (Nat×Nat×AV)→Option (List AV)
 | []=>some cells
 |(off,size,v)::r=>
  match cellsOf size (match v with|.agg _|.p (.agg _)=>true|_=>false) v with
  |some cs=>if cs.length=size then(b9 off cs cells).bind fun c=>gK c r else none
  |none=>none
def chunk{α:Type}(es:Nat):Nat→List α→List (List α)
 |0,_=>[]
 |n+1,l=>l.take es::chunk es n (l.drop es)
def wP:List (List AV)→Option (List (List PV))
 | []=>some []
 |r::rs=>(af r).bind fun p=>(wP rs).map (p::·)
def Bp(es:Nat)(rows:List (List AV)):Obj :=
 match wP rows with
 |some ps=>.pv es ps false
 |none=>.av es rows false
abbrev Src:=List (List PV) ⊕ List (List AV)
def Src.count:Src→Nat
 |.inl ps=>ps.length
 |.inr vs=>vs.length
def wide(es:Nat)(rows:List (List PV)):Bool:=rows.all fun r=>r.length == es
def mB(σ:ae)(es:Nat):AV→Option Src
 |.p (.aW rows)=>if wide es rows then some (.inl rows)else none
 |.aF=>some (.inl [])
 |.p (.str s)=>if es=1 then some (.inl (s.data.toList.map fun b=>[.int .u8 b.toNat]))else none
 |.sl b n=>match σ[b]? with
  |some (.pv e rows _)=>if rows.length=n∧(e=es∨rows.isEmpty=true)then some (.inl rows)else none
  |some (.av e rows _)=>if rows.length=n∧e=es then some (.inr rows)else none
  |_=>none
 |_=>none
def I7(es:Nat)(o:Obj)(new:Src):Option Obj :=
 match o,new with
 |.pv e rows false,.inl ps=>if e=es∨(e=0∧rows.isEmpty=true)then some (.pv es (rows++ps) false)else none
 |.pv e rows false,.inr vs=>if e=es∨(e=0∧rows.isEmpty=true)then some (.av es ((rows.map fun r=>r.map .p)++vs) false)else none
 |.av e rows false,.inl ps=>if e=es then some (.av es (rows++ps.map fun r=>r.map .p) false)else none
 |.av e rows false,.inr vs=>if e=es then some (.av es (rows++vs) false)else none
 |_,_=>none
def zE(σ:ae)(es bytes:Nat)(x:AV)(new:Src):Option (AV×ae) :=
 match x with
 |.aF=>if new.count*bytes≤140737488355328 then some (.sl σ.length new.count,σ++[match new with|.inl ps=>.pv es ps false|.inr vs=>.av es vs false])else none
 |.sl b n=>match σ[b]? with
  |some o=>if o.len=some n∧(n+new.count)*bytes≤140737488355328 then(I7 es o new).map fun o'=>(.sl b (n+new.count),σ.set b o')else none
  |none=>none
 |_=>none
def findKey{α:Type}(kl:mg)(k:PV):List (PV×α)→Option (Option α)
 | []=>some none
 |e::r=>match ni kl k e.1 with
  |some true=>some (some e.2)
  |some false=>findKey kl k r
  |none=>none
def sG{α:Type}(kl:mg)(k:PV)(v:α):List (PV×α)→Option (List (PV×α))
 | []=>some [(k,v)]
 |e::r=>match ni kl k e.1 with
  |some true=>some ((k,v)::r)
  |some false=>(sG kl k v r).map (e::·)
  |none=>none
def q8:mg→PV→Bool
 |.int,.int .. |.str,.str _|.bool,.bool _=>true
 |_,_=>false
def kT(d:Nat):Option AV→Option Nat
 |none=>some d
 |some v=>mm v
def bounds(len cap:Nat)(lo hi mx:Option AV):Option (Nat×Nat×Nat) :=
 (kT cap mx).bind fun m=>(if mx.isSome && hi.isNone then none else kT len hi).bind fun h=>(kT 0 lo).bind fun l=>
  if m≤cap∧h≤m∧l≤h then some (l,h,m)else none
def X1(mx:Bool):PV→PV→Option PV
 |.int k a,.int _ b=>some (.int k (if mx then max a b else min a b))
 |_,_=>none
def Ct(mx:Bool)(x:PV):List AV→Option PV
 | []=>some x
 |.p y::r=>(X1 mx x y).bind fun z=>Ct mx z r
 |_=>none
def quiet(σ:ae)(τ:Tm):lV→Option AV
 |.pick c a b=>(tf (c.val τ)).map fun t=>if t then a.val τ else b.val τ
 |.build zero parts=>(gK zero (parts.map fun x=>(x.1,x.2.1,x.2.2.val τ))).map w7
 |.load size agg x=>gM σ size agg (x.val τ)
 |.arith op x y=>match x.val τ,y.val τ with
  |.p a,.p b=>(binop op a b).map .p
  |_,_=>none
 |.eqB neg x y=>(tf (x.val τ)).bind fun a=>(tf (y.val τ)).map fun b=>.p (.bool (if neg then !(a == b)else a == b))
 |.UD neg lv x y=>match x.val τ,y.val τ with
  |.p (.agg a),.p (.agg b)=>(dg lv a b).map fun t=>.p (.bool (if neg then !t else t))
  |_,_=>none
 |.not x=>(tf (x.val τ)).map fun t=>.p (.bool !t)
 |.neg x=>match x.val τ with
  |.p (.int k n)=>some (.p (.int k (k.wrap (0-n))))
  |_=>none
 |.Hb x=>match x.val τ with
  |.p (.int k n)=>(rm .xor k (if k.signed then -1 else k.max) n).map .p
  |_=>none
 |.conv k x=>match x.val τ with
  |.p (.int _ n)=>some (.p (.int k (k.wrap n)))
  |_=>none
 |.J5 x=>match x.val τ with
  |.p (.str s)=>some (.p (.str s))
  |_=>none
 |.cQ off x=>match x.val τ with
  |.p (.ptr row o)=>some (.p (.ptr row (o+off)))
  |.ptr b n i o=>some (.ptr b n i (o+off))
  |_=>none
 |.fld off size agg x=>match x.val τ with
  |.p (.agg cs)=>((part off size cs).bind (nM agg)).map .p
  |.agg cs=>(part off size cs).bind (lY agg)
  |_=>none
 |.KJ len es x i=>(mm (i.val τ)).bind fun n=>
  if n<len then match x.val τ with
   |.p (.ptr row o)=>some (.p (.ptr row (o+n*es)))
   |.ptr b m i o=>some (.ptr b m i (o+n*es))
   |_=>none
  else none
 |.aA es x i=>(mm (i.val τ)).bind fun n=>
  match x.val τ with
  |.p (.aW rows)=>rows[n]?.bind fun r=>if r.length=es then some (.p (.ptr r 0))else none
  |.sl b m=>if n<m∧NO σ b=some (es,m)then some (.ptr b m n 0)else none
  |_=>none
 |.VV len es agg x i=>(mm (i.val τ)).bind fun n=>
  if n<len then match x.val τ with
   |.p (.agg cs)=>((part (n*es) es cs).bind (nM agg)).map .p
   |.agg cs=>(part (n*es) es cs).bind (lY agg)
   |_=>none
  else none
 |.M6 x i=>(mm (i.val τ)).bind fun n=>
  match x.val τ with
  |.p (.str s)=>s[n]?.map fun b=>.p (.int .u8 b.toNat)
  |_=>none
 |.IW es x lo hi mx=>
  match x.val τ with
  |.p (.aW rows)=>
   if wide es rows then
    (bounds rows.length rows.length (lo.map (O.val τ)) (hi.map (O.val τ)) (mx.map (O.val τ))).bind fun b=>
     if mx.isNone then some (.p (.aW ((rows.take b.2.1).drop b.1)))else if b.2.2=0 then some .aF else none
   else none
  |.aF=>(bounds 0 0 (lo.map (O.val τ)) (hi.map (O.val τ)) (mx.map (O.val τ))).map fun _=>.aF
  |_=>none
 |.W4 x lo hi=>match x.val τ with
  |.p (.str s)=>(bounds s.size s.size (lo.map (O.val τ)) (hi.map (O.val τ)) none).map fun b=>.p (.str (s.extract b.1 b.2.1))
  |_=>none
 |.lookup kl zero x k ok=>match k.val τ with
  |.p k=>
   if q8 kl k then
    (match x.val τ with
     |.p .E4=>some none
     |.p (.pmap es)=>(findKey kl k es).map fun o=>Option.map AV.p o
     |.map b=>match σ[b]? with
      |some (.map es _)=>findKey kl k es
      |_=>none
     |_=>none).bind fun o:Option AV=>some (if ok then w8 [o.getD zero,.p (.bool o.isSome)]else o.getD zero)
   else none
  |_=>none
 |.extract x k=>match x.val τ with
  |.p (.jO vs)=>vs[k]?.map .p
  |.jO vs=>vs[k]?
  |_=>none
 |.bV x=>(bV σ (x.val τ)).map fun n=>.p (.int .i64 (Int.ofNat n))
 |.Nd x=>match x.val τ with
  |.p (.str s)=>some (.p (.int .i64 (Int.ofNat s.size)))
  |_=>none
 |.yw x=>(yw σ (x.val τ)).map fun n=>.p (.int .i64 (Int.ofNat n))
 |.VY n=>some (.p (.int .i64 (Int.ofNat n)))
 |.tv mx args=>match args.map (O.val τ)with
  |.p x::r=>(Ct mx x r).map .p
  |_=>none
 |.xx f caps=>some (CM f (caps.map (·.val τ)))
 |.DU x=>match x.val τ with
  |.p .vu=>none
  |.p .w9=>none
  |.any=>none
  |v=>some v
 |.Hk neg x=>match x.val τ with
  |.p .w9=>some (.p (.bool !neg))
  |.p (.fn ..)|.fn ..=>some (.p (.bool neg))
  |_=>none
 |.b2s x=>(OO σ (x.val τ)).bind fun rows=>
   (omap (fun r:List PV=>match r with | [.int .u8 n]=>some (UInt8.ofNat n.toNat)|_=>none) rows).map fun bs=>.p (.str ⟨bs.toArray⟩)
 |_=>none
def dR(σ:ae)(args:List AV)(r:PV):ae:=if r.flat then σ else bF σ (args.flatMap (refs σ depth))
def plain (σ:ae) (τ:Tm):lV→Option (AV×ae)
  | .mv x eager=>match x.val τ with
    | .aF=>if eager then some (.sl σ.length 0,σ++[.pv 0 [] false]) else some (.aF,σ)
    | v=>some (v,σ)
  | .alloc zero es=>let (cs,σ'):=aT zero σ;some (.ptr σ'.length 1 0 0,σ'++[mkObj es cs])
  | .init size agg x ro=>(cellsOf size agg (x.val τ)).bind fun cs=>
      if ro then match af cs with
        | some ps=>some (.p (.ptr ps 0),σ)
        | none=>some (.ptr σ.length 1 0 0,σ++[mkObj size cs])
      else let (cs',σ'):=aT cs σ;some (.ptr σ'.length 1 0 0,σ'++[mkObj size cs'])
  | .box size agg x ro=>(cellsOf size agg (x.val τ)).bind fun cs=>
      if ro then match af cs with
        | some ps=>some (.p (.ptr ps 0),σ)
        | none=>some (.ptr σ.length 1 0 0,σ++[mkObj size cs])
      else let (cs',σ'):=aT cs σ;some (.ptr σ'.length 1 0 0,σ'++[mkObj size cs'])
  | .fB es zero len parts=>
      (gK ((List.replicate len zero).flatten) (parts.map fun x=>(x.1*es,x.2.1,x.2.2.val τ))).map fun cs=>
        (.sl σ.length len,σ++[Bp es (chunk es len cs)])
  | .jY es zero len parts=>
      ((gK ((List.replicate len zero).flatten) (parts.map fun x=>(x.1*es,x.2.1,x.2.2.val τ))).bind af).map fun ps=>
        (.p (.aW (chunk es len ps)),σ)
  | .store size a v=>(eE σ size (a.val τ) (v.val τ)).map fun σ'=>(.any,σ')
  | .Z2 len es x lo hi mx=>match x.val τ with
    | .ptr b 1 0 0=>match bounds len len (lo.map (O.val τ)) (hi.map (O.val τ)) (mx.map (O.val τ)),σ[b]? with
      | some (0,h,m),some (.pv e [row] false)=>if m=len∧e=len*es∧row.length=len*es then some (.sl σ.length h,(σ.set b .gone)++[.pv es (chunk es h (row.take (h*es))) false]) else none
      | _,_=>none
    | _=>none
  | .Qb kl x k v=>match x.val τ,k.val τ with
    | .map b,.p k=>match σ[b]? with
      | some (.map es false)=>if q8 kl k then (sG kl k (v.val τ) es).map fun es'=>(.any,σ.set b (.map es' false)) else none
      | _=>none
    | _,_=>none
  | .Bq=>some (.map σ.length,σ++[.map [] false])
  | .Zg x=>(az σ depth (x.val τ)).map fun r=>(.p r,dR σ [x.val τ] r)
  | .uh es bytes zero l c=>(mm (l.val τ)).bind fun l=>(mm (c.val τ)).bind fun c=>
      if l≤c∧c*bytes≤140737488355328 then
        match af zero with
        | some z=>some (.sl σ.length l,σ++[.pv es (List.replicate l z) false])
        | none=>some (.sl σ.length l,σ++[.av es (List.replicate l zero) false])
      else none
  | .append es bytes x y=>(mB σ es (y.val τ)).bind fun new=>zE σ es bytes (x.val τ) new
  | op=>(quiet σ τ op).map fun v=>(v,σ)
def St.put(st:St)(d:Option Nat)(v:AV):Option St :=
 match d with
 |none=>some st
 |some d=>if d<st.nt then some { st with τ:=jg st.τ d v }else none
structure Prog where
 fn:FuncId→Option cZ
 Qg:FuncId→Option (List AV→ae→Option (AV×ae)):=fun _=>none
def D0(σ:ae)(τ:Tm):RV→Option AV
 |.tmp t=>some (τ.get t)
 |.cell t size agg=>gM σ size agg (τ.get t)
def eY(rs:List RV)(σ:ae)(τ:Tm):Option AV :=
 (omap (D0 σ τ) rs).map fun vs=>match vs with
  | [v]=>v
  |vs=>w8 vs
def number{α:Type}:Nat→List α→List (Nat×α)
 |_,[]=>[]
 |n,a::r=>(n,a)::number (n+1) r
def uf(args:List AV):Tm:=tm (number 0 args)
def gS(τ:Tm):Option (Nat×Bool)→Option Bool
 |none=>some true
 |some (t,want)=>match τ.get t with
  |.p (.bool b)=>some (b == want)
  |.p (.jO [])=>some false
  |_=>none
def BT(g:List PV→Option PV)(args:List AV)(σ:ae):Option (AV×ae) :=
 (omap (az σ depth) args).bind fun ps=>(g ps).map fun r=>(.p r,dR σ args r)
def ti(a b:ByteArray):Int:=if a.toList=b.toList then 0 else if Op.bytesLess a.toList b.toList then -1 else 1
def uY:List PV→Option PV
 | [.str a,.str b]=>some (.int .i64 (ti a b))
 |_=>none
def PO:AV→Option (FuncId×List AV)
 |.p (.fn f cap)=>some (f,cap.map .p)
 |.fn f cap=>some (f,cap)
 |_=>none
def rZ(rd:Option Nat)(σ:ae):Bool :=
 match rd with
 |none=>true
 |some l=>match σ[l]? with
  |some (.loop ..)=>true
  |_=>false
def nodup:List Nat→Bool
 | []=>true
 |a::r=>!r.contains a && nodup r
def eJ(τ:Tm)(o:fG):Bool :=
 let c (x:O):Bool:=match x.val τ with|.p _=>true|_=>false
 match o.op with
 |.load _ _ x|.aA _ x _|.bV x|.yw x|.b2s x|.lookup _ _ x _ _|.IW _ x _ _ _=>c x
 |_=>false
def xc:AV→Bool
 |.aF=>false
 |.agg cs=>cs.all fun c=>match c with|.aF=>false|_=>true
 |_=>true
def uP(τ:Tm)(o:fG):Option Nat :=
 match o.op with
 |.store _ a v=>match a.val τ with
  |.ptr b _ _ _=>if xc (v.val τ)then some b else none
  |_=>none
 |.aA _ x _=>match x.val τ with
  |.sl b _=>some b
  |_=>none
 |_=>none
def jr(τ:Tm)(x y:fG):Bool :=
 eJ τ x ||eJ τ y ||match uP τ x,uP τ y with
  |some b,some b'=>b != b'
  |_,_=>false
def x9(ops:List fG)(prs:List (Nat×Nat))(τ:Tm):Bool :=
 prs.all fun ij=>match ops[ij.1]?,ops[ij.2]? with
  |some x,some y=>jr τ x y
  |_,_=>false
def mn:List AV→Nat
 | []=>0
 |.aF::r=>mn r+1
 |_::r=>mn r
def Je(d1 d2:Nat):O→Bool
 |.t n=>n != d1 && n != d2
 |.c _=>true
def isP:AV→Bool
 |.p _=>true
 |_=>false
def Ag:List fG→Option (Nat×Nat×Nat)
 | [⟨some d1,.alloc z1 s1,none⟩,⟨some d2,.alloc z2 s2,none⟩,⟨none,.store s3 (.t e1) v1,none⟩,⟨none,.store s4 (.t e2) v2,none⟩]=>
  if d1 != d2 && e1 == d1 && e2 == d2 && s3 == s1 && s4 == s2 && z1.length == s1 && z2.length == s2 && mn z1 == mn z2 && Je d1 d2 v1 && Je d1 d2 v2 then some (d1,d2,mn z1)else none
 |_=>none
def Ch(τ:Tm):List fG→Bool
 | [_,_,⟨_,.store _ _ v1,_⟩,⟨_,.store _ _ v2,_⟩]=>isP (v1.val τ) && isP (v2.val τ)
 |_=>false
def Af(ops:List fG)(prs:List (Nat×Nat))(st st':St):Bool :=
 match prs with
 | [(i,j)]=>match Ag (ops.drop i)with
  |some (d1,d2,k)=>j == i+1 && Ch st'.τ (ops.drop i) && (match st'.τ.get d1 with
   |.ptr b _ _ _=>decide (st.σ.length+k≤b) && st'.σ.all (Obj.below (b-k)) && (List.range st'.nt).all fun t=>t == d1 ||t == d2 ||below (b-k) (st'.τ.get t)
   |_=>false)
  |none=>false
 |_=>false
mutual
def exec(P:Prog)(c:K)(st:St):Option (Ex×St) :=
 match c with
 |.skip=>some (.normal,st)
 |.CO ops prs=>do
  let st' ←fA P ops st
  if x9 ops prs st'.τ ||Af ops prs st st' then some (.normal,st')else none
 |.cX _ ops=>do
  let st' ←fA P ops st
  some (.normal,st')
 |.seq a b=>do
  let (e,st') ←exec P a st
  match e with
  |.normal=>exec P b st'
  |e=>some (e,st')
 |.cond c a b=>do
  let t ←tf (c.val st.τ)
  if t then exec P a st else exec P b st
 |.block id b=>do
  let (e,st') ←exec P b st
  match e with
  |.exit i=>if i=id then some (.normal,st')else some (.exit i,st')
  |e=>some (e,st')
 |.loop lv b=>do
  let (e,st') ←exec P b { st with τ:=st.τ.keep lv }
  match e with
  |.normal=>exec P (.loop lv b) { st' with τ:=st'.τ.keep lv,σ:=gc st.σ.length (lv.map st'.τ.get) st'.σ }
  |e=>some (e,st')
 |.range g ps lv gP b=>do
  let (f,cap) ←PO (g.val st.τ)
  let fn ←P.fn f
  if rZ st.rd st.σ && (nodup ps && ps.all (· < st.nt))then do
   let (_,σ') ←call P fn (.yield st.σ.length::cap) (st.σ++[.loop (st.τ.kept lv) st.nt ps gP b none])
   match σ'[st.σ.length]? with
   |some (.loop _ _ _ _ _ none)=>some (.normal,{ st with σ:=gc st.σ.length [] (σ'.set st.σ.length .gone) })
   |some (.loop _ _ _ _ _ (some .normal))=>none
   |some (.loop _ _ _ _ _ (some e))=>some (e,{ st with σ:=gc st.σ.length [] (σ'.set st.σ.length .gone) })
   |_=>none
  else none
 |.exit id=>some (.exit id,st)
 |.ret=>some (.ret,st)
 |.bad _=>none
 partial_fixpoint
def fA(P:Prog)(ops:List fG)(st:St):Option St :=
 match ops with
 | []=>some st
 |o::r=>do
  let w ←gS st.τ o.guard
  if w then do
   let (v,σ') ←match o.op with
    |.dW f args=>kV P f (args.map (·.val st.τ)) st.σ
    |.ox x args=>rk P (x.val st.τ) (args.map (·.val st.τ)) st.σ
    |.CW f args=>do
     let fn ←P.fn f
     call P fn (args.map (·.val st.τ)) st.σ
    |op=>plain st.σ st.τ op
   let st' ←St.put { st with σ:=σ' } o.dst v
   fA P r st'
  else do
   let st' ←st.put o.dst (.p (.jO []))
   fA P r st'
 partial_fixpoint
def kV(P:Prog)(f:FuncId)(args:List AV)(σ:ae):Option (AV×ae) :=
 match P.Qg f with
 |some g=>g args σ
 |none=>do
  let fn ←P.fn f
  if fn.imp then call P fn args σ
  else do
   let ps ←omap (az σ depth) args
   let (v,σ') ←call P fn (ps.map .p) []
   let r ←az σ' depth v
   some (.p r,dR σ args r)
 partial_fixpoint
def rk(P:Prog)(g:AV)(args:List AV)(σ:ae):Option (AV×ae) :=
 match g with
 |.p (.fn f cap)=>kV P f (args++cap.map .p) σ
 |.fn f cap=>kV P f (args++cap) σ
 |.yield l=>round P l args σ
 |_=>none
 partial_fixpoint
def call(P:Prog)(fn:cZ)(args:List AV)(σ:ae):Option (AV×ae) :=
 if args.length≤fn.ntmps then do
  let (e,st) ←exec P fn.body { τ:=uf args,σ:=σ,nt:=fn.ntmps }
  match e with
  |.exit _=>none
  |_=>do
   let v ←eY fn.results st.σ st.τ
   some (v,gc σ.length [v] st.σ)
 else none
 partial_fixpoint
def round(P:Prog)(l:Nat)(args:List AV)(σ:ae):Option (AV×ae) :=
 match σ[l]? with
 |some (.loop τ nt ps gP b none)=>
  if ps.length=args.length∧nodup ps=true∧ps.all (· < nt)=true then do
   let (e,st) ←exec P gP { τ:=tm (ps.zip args++τ),σ:=σ,nt:=nt,rd:=some l }
   match e with
   |.normal=>
    match st.σ[l]? with
    |some (.loop τ1 nt1 ps1 asg1 b1 none)=>do
     let (e,st) ←exec P b { st with σ:=st.σ.set l (.loop τ1 nt1 ps1 asg1 b1 (some .normal)) }
     match st.σ[l]? with
     |some (.loop τ2 nt2 ps2 asg2 b2 (some .normal))=>
      some (.p (.bool (e matches .normal)),gc σ.length [] (st.σ.set l (.loop τ2 nt2 ps2 asg2 b2 (match e with|.normal=>none|e=>some e))))
     |_=>none
    |_=>none
   |_=>none
  else none
 |_=>none
 partial_fixpoint
end
def cI(p:Program)(t:TypeId):Option Nat:=(p.info? t).map (·.size)
def CD(p:Program)(t:TypeId):Option Nat:=(p.info? t).map (·.bytes)
def mV(p:Program)(t:TypeId):Option Bool:=(p.underlying t).map fun d=>match d with|.struct _|.array _ _=>true|_=>false
def G3(p:Program)(t:TypeId):Option TypeId:=match p.underlying t with|some (.slice e)=>some e|_=>none
def acV:Value→Option PV
 |.bool b=>some (.bool b)
 |.int k n=>some (.int k n)
 |.string s=>some (.str s)
 |.pointer none=>some .vu
 |.map none=>some .E4
 |.nilFunc=>some .w9
 |_=>none
def Ee(v:Value):Option AV :=
 match v with
 |.slice none 0 0=>some .aF
 |v=>(acV v).map .p
def acY(v:Value):Option AV :=
 match v with
 |.agg cs=>(omap Ee cs.toList).map w7
 |v=>Ee v
def fD:Operand→Option O
 |.tmp t=>some (.t t)
 |.const v=>(acY v).map .c
 |.func f=>some (.c (.p (.fn f [])))
 |.global _=>none
def zeroCells(p:Program)(t:TypeId):Option (List AV):=(p.info? t).bind fun i=>i.zero.bind fun z=>omap Ee z.cells.toList
structure Xm where
 wr:List Nat:=[]
 eager:List Nat:=[]
 aW:List Nat:=[]
 im:List Nat:=[]
 fz:List Nat:=[]
 l0:List Nat:=[]
 deriving Inhabited
def yr(p:Program)(t:TypeId)(f:Nat):Option Field:=match p.underlying t with|some (.struct fs)=>fs[f]? |_=>none
def partsOf(p:Program)(t:TypeId)(parts:Array (Nat×Operand)):Option (List (Nat×Nat×O)) :=
 match p.underlying t with
 |some (.struct fs)=>(fs.toList.mapM fun f=>(p.info? f.type).map fun i=>(f.offset,i.size)).bind fun places=>omap (fun x:Nat×Operand=>(places[x.1]?).bind fun y=>(fD x.2).map fun o=>(y.1,y.2,o)) parts.toList
 |some (.array _ e)=>(cI p e).bind fun s=>omap (fun x:Nat×Operand=>(fD x.2).map fun o=>(x.1*s,s,o)) parts.toList
 |_=>none
def Bt:Option Operand→Option (Option O)
 |none=>some none
 |some x=>(fD x).map some
def mi(p:Program)(t:TypeId):Option mg :=
 match p.underlying t with
 |some (.int _)=>some .int
 |some .string=>some .str
 |some .bool=>some .bool
 |_=>none
def y3(rec:TypeId→Option (List mg))(p:Program):List Field→Nat→Option (List mg)
 | [],_=>some []
 |f::r,off=>
  if f.name ≠ "_" ∧ f.offset=off then
   match rec f.type with
   |some l=>if cI p f.type=some l.length then(y3 rec p r (off+l.length)).map (l ++ ·)else none
   |none=>none
  else none
def mj(p:Program):Nat→TypeId→Option (List mg)
 |0,_=>none
 |d+1,t=>
  match p.underlying t with
  |some (.struct fs)=>if p.stoodInHeld t then none else y3 (mj p d) p fs.toList 0
  |_=>(mi p t).map fun l=>[l]
def yp(p:Program)(adv:Xm)(o:Oper):Option lV :=
 match o.op with
 |.move x|.assign x=>(fD x).map fun x=>if(o.dst.any fun d=>adv.fz.contains d)=true then .Zg x else .mv x (o.dst.any fun d=>adv.eager.contains d)
 |.pick c a b=>do some (.pick (←fD c) (←fD a) (←fD b))
 |.alloc e=>do
   let z ←zeroCells p e
   let s ←cI p e
   if z.length=s then some (.alloc z s)else none
 |.box e x=>do
   let s ←cI p e
   let g ←mV p e
   let x ←fD x
   if g=true∨s=1 then some (.box s g x !(o.dst.any fun d=>adv.wr.contains d))else none
 |.build t parts=>do some (.build (←zeroCells p t) (←partsOf p t parts))
 |.buildSlice t n parts=>do
   let e ←G3 p t
   let s ←cI p e
   let z ←zeroCells p e
   let ps ←omap (fun x:Nat×Operand=>(fD x.2).map fun o=>(x.1,s,o)) parts.toList
   if z.length=s∧0<s∧n*s≤2^24 then some (if(o.dst.any fun d=>adv.aW.contains d)=true then .jY s z n ps else .fB s z n ps)else none
 |.load t a=>do some (.load (←cI p t) (←mV p t) (←fD a))
 |.store t a v=>do some (.store (←cI p t) (←fD a) (←fD v))
 |.nilCheck x=>do some (.DU (←fD x))
 |.binOp op t x y _=>do
   let x ←fD x
   let y ←fD y
   match op with
   |.eql=>match p.underlying t with
    |some (.int _)|some .string=>some (.arith op x y)
    |some .bool=>some (.eqB false x y)
    |some (.func ..)=>match y with
     |.c (.p .w9)=>some (.Hk false x)
     |_=>none
    |some (.struct _)=>if p.eqGuardType p.depth t then none else(mj p 8 t).bind fun lv=>if cI p t=some lv.length then some (.UD false lv x y)else none
    |_=>none
   |.neq=>match p.underlying t with
    |some (.int _)|some .string=>some (.arith op x y)
    |some .bool=>some (.eqB true x y)
    |some (.func ..)=>match y with
     |.c (.p .w9)=>some (.Hk true x)
     |_=>none
    |some (.struct _)=>if p.eqGuardType p.depth t then none else(mj p 8 t).bind fun lv=>if cI p t=some lv.length then some (.UD true lv x y)else none
    |_=>none
   |_=>some (.arith op x y)
 |.unOp op _ x=>do
   let x ←fD x
   match op with
   |.not=>some (.not x)
   |.neg=>some (.neg x)
   |.xor=>some (.Hb x)
   |.plus=>none
 |.convert s d x=>do
   let x ←fD x
   match p.underlying s,p.underlying d with
   |some (.int _),some (.int k)=>some (.conv k x)
   |some .string,some .string=>some (.J5 x)
   |some (.slice e),some .string=>(match p.underlying e with|some (.int .u8)=>some (.b2s x)|_=>none)
   |_,_=>none
 |.makeFunc (.func f) first caps=>do
   if first.isEmpty then some (.xx f (←omap fD caps.toList))else none
 |.makeMap _ none=>some .Bq
 |.makeSlice t l c=>do
   let e ←G3 p t
   let s ←cI p e
   let z ←zeroCells p e
   let b ←CD p e
   let l ←fD l
   let c ←fD c
   if z.length=s∧0<s∧0<b then some (.uh s b z l c)else none
 |.slice t x lo hi mx=>do
   let x ←fD x
   let lo ←Bt lo
   let hi ←Bt hi
   let mx ←Bt mx
   match p.underlying t with
   |some .string=>if mx.isSome then none else some (.W4 x lo hi)
   |some (.slice e)=>some (.IW (←cI p e) x lo hi mx)
   |some (.array n e)=>do
    let s ←cI p e
    if 0<s then some (.Z2 n s x lo hi mx)else none
   |_=>none
 |.fieldAddr t x f=>do
   let f ←yr p t f
   if(←cI p f.type)=0 then none else some (.cQ f.offset (←fD x))
 |.field t x f=>do
   let f ←yr p t f
   some (.fld f.offset (←cI p f.type) (←mV p f.type) (←fD x))
 |.indexAddr t x i=>do
   match p.underlying t with
   |some (.array n e)=>some (.KJ n (←cI p e) (←fD x) (←fD i))
   |some (.slice e)=>some (.aA (←cI p e) (←fD x) (←fD i))
   |_=>none
 |.index t x i=>do
   match p.underlying t with
   |some (.array n e)=>some (.VV n (←cI p e) (←mV p e) (←fD x) (←fD i))
   |some .string=>some (.M6 (←fD x) (←fD i))
   |_=>none
 |.lookup t x i ok=>do
   match p.underlying t with
   |some (.map k e)=>some (.lookup (←mi p k) (←(p.info? e).bind fun i=>i.zero.bind acY) (←fD x) (←fD i) ok)
   |_=>none
 |.mapUpdate t m k v=>do
   match p.underlying t with
   |some (.map kt _)=>some (.Qb (←mi p kt) (←fD m) (←fD k) (←fD v))
   |_=>none
 |.extract x k=>do some (.extract (←fD x) k)
 |.call c=>
  match c.callee with
  |.value (.func f)=>do
   let as ←omap fD c.args.toList
   some (if(o.dst.any fun d=>adv.im.contains d)=true then .CW f as else .dW f as)
  |.value x=>do some (.ox (←fD x) (←omap fD c.args.toList))
  |.builtin .len=>match c.argTypes[0]?.bind p.underlying,c.args[0]? with
   |some (.array n _),some _=>some (.VY n)
   |some (.pointer a),some _=>match p.underlying a with
    |some (.array n _)=>some (.VY n)
    |_=>none
   |some .string,some x=>(fD x).map .Nd
   |some (.slice _),some x=>(fD x).map .bV
   |some (.map _ _),some x=>(fD x).map .yw
   |_,_=>none
  |.builtin .append=>match c.argTypes[0]?.bind (G3 p),c.args[0]?,c.args[1]?,c.argTypes[1]?.bind p.underlying with
   |some e,some x,some y,some d=>match d with
    |.int _=>none
    |_=>do
     let s ←cI p e
     let b ←CD p e
     let z ←zeroCells p e
     let x ←fD x
     let y ←fD y
     if z.length=s∧0<s∧0<b then some (.append s b x y)else none
   |_,_,_,_=>none
  |.builtin .min=>do some (.tv false (←omap fD c.args.toList))
  |.builtin .max=>do some (.tv true (←omap fD c.args.toList))
  |_=>none
 |_=>none
def O.reads:O→List Nat
 |.t n=>[n]
 |_=>[]
def y5:Option O→List Nat
 |some o=>o.reads
 |none=>[]
def lV.reads:lV→List Nat
 |.mv x _|.init _ _ x _|.box _ _ x _|.load _ _ x|.not x|.neg x|.Hb x|.conv _ x|.J5 x|.b2s x|.cQ _ x|.fld _ _ _ x|.extract x _|.bV x|.Nd x|.yw x|.DU x|.Zg x|.Hk _ x=>x.reads
 |.pick a b c=>a.reads++b.reads++c.reads
 |.build _ ps|.fB _ _ _ ps|.jY _ _ _ ps=>ps.flatMap fun x=>x.2.2.reads
 |.store _ a v|.arith _ a v|.eqB _ a v|.UD _ _ a v|.KJ _ _ a v|.aA _ a v|.VV _ _ _ a v|.M6 a v|.lookup _ _ a v _|.append _ _ a v|.copy _ a v|.uh _ _ _ a v=>a.reads++v.reads
 |.IW _ x l h m|.Z2 _ _ x l h m=>x.reads++y5 l++y5 h++y5 m
 |.W4 x l h=>x.reads++y5 l++y5 h
 |.Qb _ a b c=>a.reads++b.reads++c.reads
 |.dW _ as|.CW _ as|.tv _ as|.xx _ as=>as.flatMap O.reads
 |.ox x as=>x.reads++as.flatMap O.reads
 |.alloc .. |.Bq|.VY _|.bad _=>[]
def fG.looks(o:fG):List Nat:=(match o.guard with|some (t,_)=>[t]|none=>[])++o.op.reads
inductive Kind where
 |q0|q|c|a|w
 deriving DecidableEq
def lV.kind(cq:FuncId→Bool):lV→Kind
 |.mv _ false|.pick .. |.arith .. |.eqB .. |.UD .. |.J5 _|.Nd _|.not _|.neg _|.Hb _|.conv .. |.cQ .. |.fld .. |.KJ .. |.VV .. |.M6 .. |.W4 .. |.extract .. |.VY _|.tv .. |.xx .. |.DU _|.Hk .. |.build .. |.jY ..=>.q0
 |.load .. |.aA .. |.IW .. |.lookup .. |.bV _|.yw _|.b2s _=>.q
 |.dW f _=>if cq f then .c else .w
 |.mv _ true|.alloc .. |.init .. |.box .. |.fB .. |.Bq|.uh ..=>.a
 |_=>.w
def ER:Kind→Kind→Bool
 |.q0,_|_,.q0=>true
 |.q,.q|.q,.c|.c,.q|.c,.c|.q,.a|.c,.a=>true
 |_,_=>false
def indep(cq:FuncId→Bool)(x y:fG):Bool :=
 x.dst.all (fun d=>!y.looks.contains d) && y.dst.all (fun d=>!x.looks.contains d && x.dst != some d) && ER (x.op.kind cq) (y.op.kind cq)
def fO:List Oper→List (List Nat)→List (List Nat)
 | [],acc=>acc
 |o::r,acc=>
  let d:=o.after.toList.filterMap fun e=>if Region.binds .any e then some e.on else none
  fO r (acc++[(d++d.flatMap fun j=>acc.getD j []).eraseDups])
def DN(cq:FuncId→Bool)(ops:List Oper)(is:List fG):Bool :=
 let b:=fO ops []
 (ops.zipIdx.all fun(o,i)=>o.after.all fun e=>!Region.binds .any e ||e.on<i) &&
 is.zipIdx.all fun(y,j)=>is.zipIdx.all fun(x,i)=>!(i<j) ||(b.getD j []).contains i ||indep cq x y
def zO(x y:fG):Bool:=x.dst.all (fun d=>!y.looks.contains d) && y.dst.all (fun d=>!x.looks.contains d && x.dst != some d)
def Ob(cq:FuncId→Bool)(ops:List Oper)(is:List fG):List (Nat×Nat) :=
 let b:=fO ops []
 is.zipIdx.flatMap fun(y,j)=>is.zipIdx.filterMap fun(x,i)=>if !(i<j) ||(b.getD j []).contains i ||indep cq x y then none else some (i,j)
def xL(cq:FuncId→Bool)(ops:List Oper)(is:List fG)(prs:List (Nat×Nat)):Bool :=
 let b:=fO ops []
 (ops.zipIdx.all fun(o,i)=>o.after.all fun e=>!Region.binds .any e ||e.on<i) &&
 (is.zipIdx.all fun(y,j)=>is.zipIdx.all fun(x,i)=>j<i ||(match x.op.kind cq with|.q0=>true|_=>false) ||y.dst.all fun d=>!x.looks.contains d) &&
 is.zipIdx.all fun(y,j)=>is.zipIdx.all fun(x,i)=>!(i<j) ||(b.getD j []).contains i ||indep cq x y ||(zO x y && prs.contains (i,j))
def uQ(p:Program)(adv:Xm)(ops:Array Oper)(o:Oper):fG :=
 {dst:=o.dst
  op:=(yp p adv o).getD (.bad "")
  guard:=o.guard.map fun(j,w)=>(((ops[j]?).bind (·.dst)).getD 1000000,w) }
def ai3:Operand→Nat→Bool
 |.tmp t,d=>t == d
 |_,_=>false
def SJ(p:Program)(adv:Xm)(ops:Array Oper):List Oper→List fG
 | []=>[]
 | [o]=>[uQ p adv ops o]
 |o::o'::r=>
  match o.op,o.dst,o.guard,o'.op,o'.dst,o'.guard with
  |.alloc e,some d,none,.store e' (.tmp d') v,none,none=>
   if e == e' && d == d' then
    match cI p e,mV p e,fD v,zeroCells p e with
    |some s,some g,some x,some z=>if((g=true∨s=1)∧z.length=s)∧ai3 v d=false then { dst:=some d,op:=.init s g x !(adv.wr.contains d),guard:=none }::SJ p adv ops r else uQ p adv ops o::SJ p adv ops (o'::r)
    |_,_,_,_=>uQ p adv ops o::SJ p adv ops (o'::r)
   else uQ p adv ops o::SJ p adv ops (o'::r)
  |_,_,_,_,_,_=>uQ p adv ops o::SJ p adv ops (o'::r)
def uni(a b:List Nat):List Nat:=a++b.filter fun x=>!a.contains x
def P7:List fG→List Nat→List Nat
 | [],out=>out
 |o::r,out=>
  let l:=P7 r out
  let l:=match o.dst with|some d=>l.filter (· != d)|none=>l
  uni ((match o.guard with|some (t,_)=>[t]|none=>[])++o.op.reads).eraseDups l
def tu(res:List Nat):K→(out:List Nat)→(ex:List (Nat×List Nat))→List Nat
 |.skip,out,_=>out
 |.cX _ ops,out,_=>P7 ops out
 |.CO ops _,out,_=>P7 ops out
 |.seq a b,out,ex=>tu res a (tu res b out ex) ex
 |.cond c a b,out,ex=>uni c.reads (uni (tu res a out ex) (tu res b out ex))
 |.block id b,out,ex=>tu res b out ((id,out)::ex)
 |.loop _ b,_,ex=>tu res b [] ex
 |.range g ps _ gP b,out,ex=>uni g.reads (uni out ((tu res gP (tu res b [] ex) ex).filter fun t=>!ps.contains t))
 |.exit id,_,ex=>(ex.lookup id).getD []
 |.ret,_,_=>res
 |.bad _,_,_=>[]
def anf(a:Nat):List Nat→List Nat
 | []=>[a]
 |b::r=>if a≤b then a::b::r else b::anf a r
def afA:List Nat→List Nat
 | []=>[]
 |a::r=>anf a (afA r)
def qk(res:List Nat):K→(out:List Nat)→(ex:List (Nat×List Nat))→K
 |.seq a b,out,ex=>.seq (qk res a (tu res b out ex) ex) (qk res b out ex)
 |.cond c a b,out,ex=>.cond c (qk res a out ex) (qk res b out ex)
 |.block id b,out,ex=>.block id (qk res b out ((id,out)::ex))
 |.loop _ b,_,ex=>
  let l:=afA (tu res b [] ex)
  .loop l (qk res b l ex)
 |.range g ps _ gP b,_,ex=>
  let l:=(tu res gP (tu res b [] ex) ex).filter fun t=>!ps.contains t
  .range g ps (afA l) (qk res gP (tu res b [] ex) ex) (qk res b [] ex)
 |k,_,_=>k
def xK(p:Program)(cq:FuncId→Bool)(adv:Xm):Code→K
 |.skip=>.skip
 |.region _ ops draw=>
  if draw then
   let adv':Xm:=⟨adv.wr,adv.eager,adv.l0,adv.im,adv.fz,[]⟩
   if DN cq ops.toList (ops.toList.map (uQ p adv' ops))then .cX true (ops.toList.map (uQ p adv' ops))
   else if DN cq ops.toList (ops.toList.map (uQ p adv ops))then .cX true (ops.toList.map (uQ p adv ops))
   else if xL cq ops.toList (ops.toList.map (uQ p adv ops)) (Ob cq ops.toList (ops.toList.map (uQ p adv ops)))then .CO (ops.toList.map (uQ p adv ops)) (Ob cq ops.toList (ops.toList.map (uQ p adv ops)))
   else .bad "order"
  else .cX false (SJ p ⟨adv.wr,adv.eager,adv.l0,adv.im,adv.fz,[]⟩ ops ops.toList)
 |.seq a b=>.seq (xK p cq adv a) (xK p cq adv b)
 |.cond c a b=>match fD c with
  |some c=>.cond c (xK p cq adv a) (xK p cq adv b)
  |none=>.bad "cond"
 |.block id b=>.block id (xK p cq adv b)
 |.loop b=>.loop [] (xK p cq adv b)
 |.rangeFunc g ps gP b=>match fD g with
  |some g=>.range g ps.toList [] (xK p cq adv gP) (xK p cq adv b)
  |none=>.bad "range"
 |.exit id=>.exit id
 |.scope c=>.seq .skip (xK p cq adv c)
 |.label _=>.skip
 |.goto _=>.bad "goto"
 |.ret=>.ret
 |.refuse why=>.bad why
def ah5(r:List RV):List Nat:=r.map fun|.tmp t=>t|.cell t _ _=>t
def al(p:Program)(cq:FuncId→Bool)(adv:Xm)(imp:Bool)(f:FuncId):Option cZ:=do
 let fn ←p.funcs[f]?
 let c ←fn.body
 let rs ←omap (fun r:ResultVar=>match r with
  |.tmp t=>some (RV.tmp t)
  |.cell a t=>do some (RV.cell a (←cI p t) (←mV p t))) fn.results.toList
 let k:=xK p cq adv c
 let res:=ah5 rs
 if fn.ntmps≤1000000 then some { ntmps:=fn.ntmps,results:=rs,body:=qk res k res [],imp:=imp }else none
variable {P:Prog} {st:St}
theorem Za:exec P .skip st=some (.normal,st):=by rw[exec.eq_def]
theorem Y9{ops:List fG}{prs:List (Nat×Nat)}:exec P (.CO ops prs) st=(fA P ops st).bind fun st'=>if x9 ops prs st'.τ ||Af ops prs st st' then some (.normal,st')else none:=by rw[exec.eq_def];rfl
theorem adz{d:Bool}{ops:List fG}:exec P (.cX d ops) st=(fA P ops st).bind fun st'=>some (.normal,st'):=by rw[exec.eq_def];rfl
def andThen(P:Prog)(b:K):Option (Ex×St)→Option (Ex×St)
 |some (.normal,st)=>exec P b st
 |some (.ret,st)=>some (.ret,st)
 |some (.exit i,st)=>some (.exit i,st)
 |none=>none
theorem adB{a b:K}:exec P (.seq a b) st=andThen P b (exec P a st):=by
 rw[exec.eq_def];dsimp only;cases h:exec P a st with
 |none=>rfl
 |some x=>obtain⟨e,st'⟩:=x;cases e<;>rfl
theorem Jt{b:K}:andThen P b (some (.normal,st))=exec P b st:=rfl
theorem Rf{b:K}:andThen P b (some (.ret,st))=some (.ret,st):=rfl
theorem O2{b:K}{i:Nat}:andThen P b (some (.exit i,st))=some (.exit i,st):=rfl
theorem Y7{c:O}{a b:K}:exec P (.cond c a b) st=(tf (c.val st.τ)).bind fun t=>if t then exec P a st else exec P b st:=by rw[exec.eq_def];rfl
def inBlock(id:Nat):Option (Ex×St)→Option (Ex×St)
 |some (.exit i,st)=>if i=id then some (.normal,st)else some (.exit i,st)
 |r=>r
theorem VO{id:Nat}{b:K}:exec P (.block id b) st=inBlock id (exec P b st):=by
 rw[exec.eq_def];dsimp only;cases h:exec P b st with
 |none=>rfl
 |some x=>obtain⟨e,st'⟩:=x;cases e<;>rfl
theorem KL{id:Nat}:inBlock id (some (.normal,st))=some (.normal,st):=rfl
theorem SN{id:Nat}:inBlock id (some (.ret,st))=some (.ret,st):=rfl
theorem PT{id i:Nat}:inBlock id (some (.exit i,st))=if i=id then some (.normal,st)else some (.exit i,st):=rfl
def S4(P:Prog)(lv:List Nat)(b:K)(n:Nat):Option (Ex×St)→Option (Ex×St)
 |some (.normal,st)=>exec P (.loop lv b) { st with τ:=st.τ.keep lv,σ:=gc n (lv.map st.τ.get) st.σ }
 |some (.ret,st)=>some (.ret,st)
 |some (.exit i,st)=>some (.exit i,st)
 |none=>none
theorem Gt{lv:List Nat}{b:K}:exec P (.loop lv b) st=S4 P lv b st.σ.length (exec P b { st with τ:=st.τ.keep lv }):=by
 rw[exec.eq_def];dsimp only;cases h:exec P b { st with τ:=st.τ.keep lv }with
 |none=>rfl
 |some x=>obtain⟨e,st'⟩:=x;cases e<;>rfl
theorem Y8{id:Nat}:exec P (.exit id) st=some (.exit id,st):=by rw[exec.eq_def]
theorem adA:exec P .ret st=some (.ret,st):=by rw[exec.eq_def]
def cK(P:Prog)(σ:ae)(τ:Tm):lV→Option (AV×ae)
 |.dW f args=>kV P f (args.map (·.val τ)) σ
 |.ox x args=>rk P (x.val τ) (args.map (·.val τ)) σ
 |.CW f args=>(P.fn f).bind fun fn=>call P fn (args.map (·.val τ)) σ
 |op=>plain σ τ op
theorem Sp:fA P [] st=some st:=by rw[fA.eq_def]
theorem Et {o:fG} {r:List fG}:fA P (o :: r) st=(gS st.τ o.guard).bind fun w=>
    if w then (cK P st.σ st.τ o.op).bind fun x=>(St.put { st with σ:=x.2 } o.dst x.1).bind (fA P r)
    else (st.put o.dst (.p (.jO []))).bind (fA P r):=by
  rw [fA.eq_def];dsimp only;cases hw:gS st.τ o.guard with
  | none=>rfl
  | some w=>
    cases w with
    | false=>rfl
    | true=>
      simp only [Jo,xu,if_true,cK]
      cases o.op<;>first
        | rfl
        | (rename_i f args
           dsimp only;cases P.fn f<;>rfl)
inductive dw (w:World) (ok:Nat→Prop):PV→Value→Prop
 |int (k:IntKind) (n:Int):dw w ok (.int k n) (.int k n)
 |bool (b:Bool):dw w ok (.bool b) (.bool b)
 |str (s:ByteArray):dw w ok (.str s) (.string s)
 |vu:dw w ok .vu (.pointer none)
 |w9:dw w ok .w9 .nilFunc
 |E4:dw w ok .E4 (.map none)
 |agg (cs:List PV) (vs:List Value) (hl:cs.length=vs.length) (h1:∀v∈vs,v.oneCell'=true) (h:∀(i:Nat) (p:PV) (v:Value),cs[i]?=some p→vs[i]?=some v→dw w ok p v):dw w ok (.agg cs) (.agg vs.toArray)
 |jO (cs:List PV) (vs:List Value) (hl:cs.length=vs.length) (h:∀(i:Nat) (p:PV) (v:Value),cs[i]?=some p→vs[i]?=some v→dw w ok p v):dw w ok (.jO cs) (.tuple vs.toArray)
 |GJ (a:Option Addr) (c:Nat):dw w ok (.aW []) (.slice a 0 c)
 |aW (rows:List (List PV)) (r off c es:Nat) (cv:Nat→Value) (hr:rows≠[]) (hok:ok r) (hc:rows.length≤c) (hes:∀x∈rows,x.length=es)
   (hcell:∀k,k<rows.length*es→w.cell? ⟨r,off+k,none⟩=some (cv k)) (hone:∀k,k<rows.length*es→(cv k).oneCell'=true) (h:∀(k:Nat) (p:PV),rows.flatten[k]?=some p→dw w ok p (cv k)):dw w ok (.aW rows) (.slice (some ⟨r,off,none⟩) rows.length c)
 |ptr (row:List PV) (o r off:Nat) (cv:Nat→Value) (hok:ok r)
   (hcell:∀k,k<row.length→w.cell? ⟨r,off+k,none⟩=some (cv k)) (hone:∀k,k<row.length→(cv k).oneCell'=true) (h:∀(k:Nat) (p:PV),row[k]?=some p→dw w ok p (cv k)):dw w ok (.ptr row o) (.pointer (some ⟨r,off+o,none⟩))
 |fn (f:FuncId) (cs:List PV) (vs:List Value) (hl:cs.length=vs.length) (h:∀(i:Nat) (p:PV) (v:Value),cs[i]?=some p→vs[i]?=some v→dw w ok p v):dw w ok (.fn f cs) (.func (.func f) #[] vs.toArray)
 |pmap (es:List (PV×PV)) (r:Nat) (en:Array MapEntry) (clock:Nat) (hok:ok r) (hm:w.heap[r]?=some (.map en clock)) (hl:es.length=en.size)
   (hk:∀(i:Nat) (p:PV×PV) (e:MapEntry),es[i]?=some p→en[i]?=some e→dw w ok p.1 e.key)
   (h:∀(i:Nat) (p:PV×PV) (e:MapEntry),es[i]?=some p→en[i]?=some e→dw w ok p.2 e.val):dw w ok (.pmap es) (.map (some r))
theorem wT{w w':World}{a:Addr}(h:w'.heap[a.block]?=w.heap[a.block]?):w'.cell? a=w.cell? a:=by
 unfold World.cell?;rw[h]
theorem dw.mono{w w':World}{ok ok':Nat→Prop}(h1:∀b,ok b→ok' b)(h2:∀b,ok b→w'.heap[b]?=w.heap[b]?){p:PV}{v:Value}(h:dw w ok p v):dw w' ok' p v:=by
 induction h with
 |int k n=>exact .int k n
 |bool b=>exact .bool b
 |str s=>exact .str s
 |vu=>exact .vu
 |w9=>exact .w9
 |E4=>exact .E4
 |agg cs vs hl h1 _ ih=>exact .agg cs vs hl h1 ih
 |jO cs vs hl _ ih=>exact .jO cs vs hl ih
 |GJ a c=>exact .GJ a c
 |aW rows r off c es cv hr hok hc hes hcell hone _ ih=>exact .aW rows r off c es cv hr (h1 _ hok) hc hes (fun k hk=>by rw[wT (h2 _ hok)];exact hcell k hk) hone ih
 |ptr row o r off cv hok hcell hone _ ih=>exact .ptr row o r off cv (h1 _ hok) (fun k hk=>by rw[wT (h2 _ hok)];exact hcell k hk) hone ih
 |fn f cs vs hl _ ih=>exact .fn f cs vs hl ih
 |pmap es r en clock hok hm hl _ _ ihk ihv=>exact .pmap es r en clock (h1 _ hok) (by rw[h2 _ hok];exact hm) hl ihk ihv
theorem dw.flat{w w':World}{ok ok':Nat→Prop}{p:PV}{v:Value}(h:dw w ok p v)(hf:p.flat=true):dw w' ok' p v:=by
 induction h with
 |int k n=>exact .int k n
 |bool b=>exact .bool b
 |str s=>exact .str s
 |vu=>exact .vu
 |w9=>exact .w9
 |E4=>exact .E4
 |agg cs vs hl h1 _ ih=>
  refine .agg cs vs hl h1 fun i p v hp hv=>ih i p v hp hv ?_
  simp only[PV.flat,AS]at hf;exact hf ⟨p,mK hp⟩ (by simp)
 |jO cs vs hl _ ih=>
  refine .jO cs vs hl fun i p v hp hv=>ih i p v hp hv ?_
  simp only[PV.flat,AS]at hf;exact hf ⟨p,mK hp⟩ (by simp)
 |GJ a c=>exact .GJ a c
 |aW rows r off c es cv hr=>simp[PV.flat,hr]at hf
 |ptr=>simp[PV.flat]at hf
 |fn=>simp[PV.flat]at hf
 |pmap=>simp[PV.flat]at hf
structure Loc where
 iL:Option Nat
 cap:Nat
 deriving Inhabited
def Loc.addr(l:Loc):Option Addr:=l.iL.map fun r=>⟨r,0,none⟩
inductive Sh where
 |vec (es n:Nat)
 |map
 |loop
 |gone
def Obj.sh:Obj→Sh
 |.pv es rows _=>.vec es rows.length
 |.av es rows _=>.vec es rows.length
 |.map _ _=>.map
 |.loop ..=>.loop
 |.gone=>.gone
structure View where
 own:List Loc
 σ:ae
 ok:Nat→Prop
 w:World
def View.sh(V:View)(b:Nat):Option Sh:=V.σ[b]?.map Obj.sh
inductive aV (V:View):AV→Value→Prop
 |any (v:Value):aV V .any v
 |p {p:PV} {v:Value} (h:dw V.w V.ok p v):aV V (.p p) v
 |aF (a:Option Addr):aV V .aF (.slice a 0 0)
 |sl (b n:Nat) (a:Option Addr) (c:Nat) (s:Sh) (hs:V.sh b=some s) (hn:∀es m,s=.vec es m→n≤m)
   (h:∀es l,s=.vec es n→V.own[b]?=some l→(l.cap≠0→a=l.addr)∧c=l.cap):aV V (.sl b n) (.slice a n c)
 |ptr (b n i o:Nat) (a:Addr) (s:Sh) (hs:V.sh b=some s) (hn:∀es m,s=.vec es m→n≤m)
   (h:∀es l,s=.vec es n→V.own[b]?=some l→i<n→∃r,l.iL=some r∧a=⟨r,i*es+o,none⟩):aV V (.ptr b n i o) (.pointer (some a))
 |fn (f:FuncId) (cs:List AV) (vs:List Value) (hl:cs.length=vs.length) (h:∀(i:Nat) (p:AV) (v:Value),cs[i]?=some p→vs[i]?=some v→aV V p v):aV V (.fn f cs) (.func (.func f) #[] vs.toArray)
 |yield (l r:Nat) (s:Sh) (hs:V.sh l=some s) (h:s=.loop→∀x,V.own[l]?=some x→x.iL=some r):aV V (.yield l) (.func (.yield r) #[] #[])
 |agg (cs:List AV) (vs:List Value) (hl:cs.length=vs.length) (h1:∀v∈vs,v.oneCell'=true) (h:∀(i:Nat) (p:AV) (v:Value),cs[i]?=some p→vs[i]?=some v→aV V p v):aV V (.agg cs) (.agg vs.toArray)
 |jO (cs:List AV) (vs:List Value) (hl:cs.length=vs.length) (h:∀(i:Nat) (p:AV) (v:Value),cs[i]?=some p→vs[i]?=some v→aV V p v):aV V (.jO cs) (.tuple vs.toArray)
 |map (b r:Nat) (s:Sh) (hs:V.sh b=some s) (h:s=.map→∀x,V.own[b]?=some x→x.iL=some r):aV V (.map b) (.map (some r))
def Sh.le(s s':Sh)(same:Prop):Prop :=
 match s,s' with
 |_,.gone=>True
 |.vec es n,.vec es' n'=>(n=n'∧(n=0∨es=es')∧same)∨n<n'
 |.map,.map=>same
 |.loop,.loop=>same
 |_,_=>False
structure Ext (V V':View):Prop where
 ok:∀b,V.ok b→V'.ok b
 keep:∀b,V.ok b→V'.w.heap[b]?=V.w.heap[b]?
 sh:∀b s,V.sh b=some s→∃s',V'.sh b=some s'∧s.le s' (V'.own[b]?=V.own[b]?)
theorem Sh.le_refl(s:Sh){P:Prop}(h:P):s.le s P:=by cases s<;>simp[Sh.le,h]
theorem Ext.refl(V:View):Ext V V:=⟨fun _ h=>h,fun _ _=>rfl,fun _ s h=>⟨s,h,s.le_refl rfl⟩⟩
theorem Sh.le_trans{s t u:Sh}{P Q R:Prop}(h:s.le t P)(h':t.le u Q)(hr:P→Q→R):s.le u R:=by
 cases s<;>cases t<;>cases u<;>simp only[Sh.le]at h h' ⊢<;>first
  |trivial
  |exact h.elim
  |exact h'.elim
  |exact hr h h'
  |skip
 rcases h with⟨rfl,hes,hp⟩|h
 ·rcases h' with⟨rfl,hes',hq⟩|h'
  ·left
   refine⟨rfl,?_,hr hp hq⟩;rcases hes with h|rfl
   ·exact .inl h
   ·exact hes'
  ·exact .inr h'
 ·rcases h' with⟨rfl,_,_⟩|h'
  ·exact .inr h
  ·exact .inr (Nat.lt_trans h h')
theorem Ext.trans{V V' V'':View}(h:Ext V V')(h':Ext V' V''):Ext V V'' where
 ok b hb:=h'.ok b (h.ok b hb)
 keep b hb:=(h'.keep b (h.ok b hb)).trans (h.keep b hb)
 sh b s hs:=by
  obtain⟨t,ht,l1⟩:=h.sh b s hs;obtain⟨u,hu,l2⟩:=h'.sh b t ht;exact⟨u,hu,Sh.le_trans l1 l2 fun a b=>b.trans a⟩
theorem Sh.P6 {es n:Nat} {s:Sh} {P:Prop} (h:(Sh.vec es n).le s P):(∃ es',s=.vec es' n∧(n=0∨es=es')∧P)∨(∃ es' n',s=.vec es' n'∧n<n')∨s=.gone:=by
  cases s<;>simp [Sh.le] at h<;>first
    | (rcases h with ⟨rfl,a,b⟩ | h
       · exact .inl ⟨_,rfl,a,b⟩
       · exact .inr (.inl ⟨_,_,rfl,h⟩))
    | exact .inr (.inr rfl)
theorem aV.mono{V V':View}(e:Ext V V'){a:AV}{v:Value}(h:aV V a v):aV V' a v:=by
 induction h with
 |any v=>exact .any v
 |p h=>exact .p (h.mono e.ok e.keep)
 |aF a=>exact .aF a
 |sl b n a c s hs hn h=>
  obtain⟨s',hs',hle⟩:=e.sh b s hs;refine .sl b n a c s' hs' ?_ ?_
  ·intro es m hm
   subst hm;cases s with
   |vec es0 m0=>
    have h0:=hn es0 m0 rfl;rcases Sh.P6 hle with⟨es',he,_⟩|⟨es',n',he,hlt⟩|he
    ·cases he;exact h0
    ·cases he;omega
    ·cases he
   |map=>simp[Sh.le]at hle
   |loop=>simp[Sh.le]at hle
   |gone=>simp[Sh.le]at hle
  ·intro es l hm hl
   subst hm;cases s with
   |vec es0 m0=>
    have h0:=hn es0 m0 rfl;rcases Sh.P6 hle with⟨es',he,_,hsame⟩|⟨es',n',he,hlt⟩|he
    ·cases he
     exact h es0 l rfl (by rw[←hsame];exact hl)
    ·cases he;omega
    ·cases he
   |map=>simp[Sh.le]at hle
   |loop=>simp[Sh.le]at hle
   |gone=>simp[Sh.le]at hle
 |ptr b n i o a s hs hn h=>
  obtain⟨s',hs',hle⟩:=e.sh b s hs;refine .ptr b n i o a s' hs' ?_ ?_
  ·intro es m hm
   subst hm;cases s with
   |vec es0 m0=>
    have h0:=hn es0 m0 rfl;rcases Sh.P6 hle with⟨es',he,_⟩|⟨es',n',he,hlt⟩|he
    ·cases he;exact h0
    ·cases he;omega
    ·cases he
   |map=>simp[Sh.le]at hle
   |loop=>simp[Sh.le]at hle
   |gone=>simp[Sh.le]at hle
  ·intro es l hm hl hi
   subst hm;cases s with
   |vec es0 m0=>
    have h0:=hn es0 m0 rfl;rcases Sh.P6 hle with⟨es',he,hes,hsame⟩|⟨es',n',he,hlt⟩|he
    ·cases he
     rcases hes with hz|rfl
     ·omega
     ·exact h es0 l rfl (by rw[←hsame];exact hl) hi
    ·cases he;omega
    ·cases he
   |map=>simp[Sh.le]at hle
   |loop=>simp[Sh.le]at hle
   |gone=>simp[Sh.le]at hle
 |fn f cs vs hl _ ih=>exact .fn f cs vs hl ih
 |yield l r s hs h=>
  obtain⟨s',hs',hle⟩:=e.sh l s hs;refine .yield l r s' hs' ?_;intro hm x hx;subst hm;cases s with
  |loop=>exact h rfl x (by have:V'.own[l]?=V.own[l]? := hle;rw[←this];exact hx)
  |vec=>simp[Sh.le]at hle
  |map=>simp[Sh.le]at hle
  |gone=>simp[Sh.le]at hle
 |agg cs vs hl h1 _ ih=>exact .agg cs vs hl h1 ih
 |jO cs vs hl _ ih=>exact .jO cs vs hl ih
 |map b r s hs h=>
  obtain⟨s',hs',hle⟩:=e.sh b s hs;refine .map b r s' hs' ?_;intro hm x hx;subst hm;cases s with
  |map=>exact h rfl x (by have:V'.own[b]?=V.own[b]? := hle;rw[←this];exact hx)
  |vec=>simp[Sh.le]at hle
  |loop=>simp[Sh.le]at hle
  |gone=>simp[Sh.le]at hle
structure IOk (p:Program) (ops:Array Oper) (o:Oper) (i:fG):Prop where
 dst:i.dst=o.dst
 guard:i.guard=o.guard.map fun(j,w)=>(((ops[j]?).bind (·.dst)).getD 1000000,w)
 op:(∃s,i.op=.bad s)∨∃adv,yp p adv o=some i.op
inductive CS (p:Program) (ops:Array Oper):List Oper→List fG→Prop
 |nil:CS p ops [] []
 |one (o:Oper) (r:List Oper) (i:fG) (is:List fG) (h:IOk p ops o i) (hr:CS p ops r is):CS p ops (o::r) (i::is)
 |two (o o':Oper) (r:List Oper) (is:List fG) (d:Nat) (e:TypeId) (s:Nat) (g:Bool) (v:Operand) (x:O) (ro:Bool) (h1:o.op=.alloc e) (h2:o.dst=some d) (h3:o.guard=none)
   (h4:o'.op=.store e (.tmp d) v) (h5:o'.dst=none) (h6:o'.guard=none) (h7:cI p e=some s) (h8:mV p e=some g) (h9:fD v=some x) (z:List AV) (h10:zeroCells p e=some z) (h11:(g=true∨s=1)∧z.length=s) (h12:v≠.tmp d) (hr:CS p ops r is) :
   CS p ops (o::o'::r) ({ dst:=some d,op:=.init s g x ro,guard:=none }::is)
inductive AU (p:Program) (cq:FuncId→Bool):K→Code→Prop
 |skip:AU p cq .skip .skip
 |cX (id:Nat) (ops:Array Oper) (is:List fG) (h:CS p ops ops.toList is):AU p cq (.cX false is) (.region id ops false)
 |CO (id:Nat) (ops:Array Oper) (is:List fG) (hl:is.length=ops.size) (h:∀(j:Nat) (o:Oper) (i:fG),ops[j]?=some o→is[j]?=some i→IOk p ops o i) (hd:DN cq ops.toList is=true):AU p cq (.cX true is) (.region id ops true)
 |ah3 (id:Nat) (ops:Array Oper) (is:List fG) (prs:List (Nat×Nat)) (hl:is.length=ops.size) (h:∀(j:Nat) (o:Oper) (i:fG),ops[j]?=some o→is[j]?=some i→IOk p ops o i) (hd:xL cq ops.toList is prs=true):AU p cq (.CO is prs) (.region id ops true)
 |seq (a b:K) (c d:Code) (h:AU p cq a c) (h':AU p cq b d):AU p cq (.seq a b) (.seq c d)
 |cond (x:Operand) (x':O) (a b:K) (c d:Code) (hx:fD x=some x') (h:AU p cq a c) (h':AU p cq b d):AU p cq (.cond x' a b) (.cond x c d)
 |block (id:Nat) (a:K) (c:Code) (h:AU p cq a c):AU p cq (.block id a) (.block id c)
 |loop (lv:List Nat) (a:K) (c:Code) (h:AU p cq a c):AU p cq (.loop lv a) (.loop c)
 |range (g:Operand) (g':O) (ps:Array Tmp) (lv:List Nat) (a b:K) (c d:Code) (hg:fD g=some g') (h:AU p cq a c) (h':AU p cq b d):AU p cq (.range g' ps.toList lv a b) (.rangeFunc g ps c d)
 |exit (id:Nat):AU p cq (.exit id) (.exit id)
 |ret:AU p cq .ret .ret
 |scope (a:K) (c:Code) (h:AU p cq a c):AU p cq (.seq .skip a) (.scope c)
 |label (l:Nat):AU p cq .skip (.label l)
 |bad (w:String) (c:Code):AU p cq (.bad w) c
theorem GA(p:Program)(adv:Xm)(ops:Array Oper)(o:Oper):IOk p ops o (uQ p adv ops o):=by
 refine⟨rfl,rfl,?_⟩;unfold uQ;cases h:yp p adv o with
 |none=>exact .inl ⟨_,rfl⟩
 |some x=>exact .inr ⟨adv,h⟩
theorem DW(p:Program)(adv:Xm)(ops:Array Oper):∀l:List Oper,CS p ops l (SJ p adv ops l)
 | []=>.nil
 | [o]=>.one o [] _ _ (GA p adv ops o) .nil
 |o::o'::r=>by
  have one:=CS.one (ops:=ops) o (o'::r) _ _ (GA p adv ops o) (DW p adv ops (o'::r));unfold SJ;split
  ·rename_i e d e' d' v h1 h2 h3 h4 h5 h6
   split
   ·rename_i hc
    simp only[yE,beq_iff_eq]at hc;obtain⟨rfl,rfl⟩:=hc;split
    ·rename_i s g x z h7 h8 h9 h10
     split
     ·rename_i h11
      exact .two o o' r _ d e s g v x _ h1 h2 h3 h4 h5 h6 h7 h8 h9 z h10 h11.1 (by rintro rfl;simp[ai3]at h11) (DW p adv ops r)
     ·exact one
    ·exact one
   ·exact one
  ·exact one
theorem n9(p:Program)(cq:FuncId→Bool)(adv:Xm):∀c:Code,AU p cq (xK p cq adv c) c
 |.skip=>.skip
 |.region id ops draw=>by
  have all:∀adv:Xm,∀(j:Nat) (o:Oper) (i:fG),ops[j]?=some o→(ops.toList.map (uQ p adv ops))[j]?=some i→IOk p ops o i:=by
   intro adv j o i ho hi
   have:i=uQ p adv ops o:=by
    simp only[xF,Array.getElem?_toList,ho]at hi;simpa using hi.symm
   subst this;exact GA p adv ops o
  unfold xK;cases draw with
  |false=>exact .cX id ops _ (DW p _ ops _)
  |true=>
   simp only[if_true];split
   ·rename_i hd
    exact .CO id ops _ (by simp) (all _) hd
   ·split
    ·rename_i hd
     exact .CO id ops _ (by simp) (all _) hd
    ·split
     ·rename_i hd
      exact .ah3 id ops _ _ (by simp) (all _) hd
     ·exact .bad _ _
 |.seq a b=>.seq _ _ _ _ (n9 p cq adv a) (n9 p cq adv b)
 |.cond c a b=>by
  unfold xK;cases h:fD c with
  |none=>exact .bad _ _
  |some x=>exact .cond c x _ _ _ _ h (n9 p cq adv a) (n9 p cq adv b)
 |.block id b=>.block id _ _ (n9 p cq adv b)
 |.loop b=>.loop _ _ _ (n9 p cq adv b)
 |.rangeFunc g ps a b=>by
  unfold xK;cases h:fD g with
  |none=>exact .bad _ _
  |some x=>exact .range g x ps _ _ _ _ _ h (n9 p cq adv a) (n9 p cq adv b)
 |.exit id=>.exit id
 |.scope c=>.scope _ _ (n9 p cq adv c)
 |.label l=>.label l
 |.goto _=>.bad _ _
 |.ret=>.ret
 |.refuse _=>.bad _ _
theorem P5(p:Program)(cq:FuncId→Bool)(res:List Nat){k:K}{c:Code}(h:AU p cq k c):∀out ex,AU p cq (qk res k out ex) c:=by
 induction h with
 |seq a b c d _ _ ih1 ih2=>intro out ex;exact .seq _ _ _ _ (ih1 _ _) (ih2 _ _)
 |cond x x' a b c d hx _ _ ih1 ih2=>intro out ex;exact .cond x x' _ _ _ _ hx (ih1 _ _) (ih2 _ _)
 |block id a c _ ih=>intro out ex;exact .block id _ _ (ih _ _)
 |loop lv a c _ ih=>intro out ex;exact .loop _ _ _ (ih _ _)
 |range g g' ps lv a b c d hg _ _ ih1 ih2=>intro out ex;exact .range g g' ps _ _ _ _ _ hg (ih1 _ _) (ih2 _ _)
 |skip=>intro out ex;exact .skip
 |cX id ops is h=>intro out ex;exact .cX id ops is h
 |CO id ops is hl h hd=>intro out ex;exact .CO id ops is hl h hd
 |ah3 id ops is prs hl h hd=>intro out ex;exact .ah3 id ops is prs hl h hd
 |exit id=>intro out ex;exact .exit id
 |ret=>intro out ex;exact .ret
 |scope a c _ ih=>intro out ex;exact .scope _ _ (ih _ _)
 |label l=>intro out ex;exact .label l
 |bad w c=>intro out ex;exact .bad w c
def ay(rows:List (List PV)):List (List AV):=rows.map fun r=>r.map .p
structure oT (V:View) (l:Loc) (es:Nat) (rows:List (List AV)):Prop where
 wide:∀x∈rows,x.length=es
 cap:rows.length≤l.cap
 nil:l.iL=none→l.cap=0
 hole:es=0→rows=[]→l.cap=0
 cells:∀r,l.iL=some r→∃c t,V.w.heap[r]?=some (.cells c t (0,0))∧l.cap*es≤c.size∧∀(k:Nat) (a:AV),rows.flatten[k]?=some a→∃v,c[k]?=some v∧v.oneCell'=true∧aV V a v
def OY(s:Option Ex)(L:Loop):Prop :=
 match s with
 |none=>L.state=.ready∧L.pending=none
 |some .normal=>L.state=.busy
 |some .ret=>L.state=.done∧L.pending=some .ret
 |some (.exit i)=>L.state=.done∧L.pending=some (.exit i)
structure UH (p:Program) (cq:FuncId→Bool) (V:View) (r:Nat) (τ:List (Nat×AV)) (nt:Nat) (ps:List Nat) (gP body:K) (state:Option Ex) (L:Loop):Prop where
 heap:V.w.heap[r]?=some (.loop L)
 state:OY state L
 gP:AU p cq gP L.assign
 body:AU p cq body L.body
 ps:L.params.toList=ps
 size:L.tmps.size=nt
 small:nt≤1000000
 tmps:∀t,aV V (lk τ t) (L.tmps.getD t undef)
structure amq (V:View) (r:Nat) (es:List (PV×AV)) (en:Array MapEntry) (clock:Nat):Prop where
 heap:V.w.heap[r]?=some (.map en clock)
 len:es.length=en.size
 key:∀(i:Nat) (p:PV×AV) (e:MapEntry),es[i]?=some p→en[i]?=some e→dw V.w V.ok p.1 e.key
 val:∀(i:Nat) (p:PV×AV) (e:MapEntry),es[i]?=some p→en[i]?=some e→aV V p.2 e.val
def zC(p:Program)(cq:FuncId→Bool)(V:View)(l:Loc):Obj→Prop
 |.pv es rows _=>oT V l es (ay rows)
 |.av es rows _=>oT V l es rows
 |.map es _=>∃r en clock,l.iL=some r∧amq V r es en clock
 |.loop τ nt ps gP body state=>∃r L,l.iL=some r∧UH p cq V r τ nt ps gP body state L
 |.gone=>True
def Obj.live:Obj→Bool
 |.gone=>false
 |_=>true
def Obj.frozen:Obj→Bool
 |.pv _ _ f|.av _ _ f|.map _ f=>f
 |.loop ..=>false
 |.gone=>true
def View.at(V:View)(b r:Nat):Prop:=∃l o,V.own[b]?=some l∧V.σ[b]?=some o∧o.live=true∧l.iL=some r
def View.owned(V:View)(r:Nat):Prop:=∃b,V.at b r
structure cE (p:Program) (cq:FuncId→Bool) (V:View):Prop where
 len:V.own.length=V.σ.length
 obj:∀(b:Nat) (l:Loc) (o:Obj),V.own[b]?=some l→V.σ[b]?=some o→zC p cq V l o
 one:∀b b' r,V.at b r→V.at b' r→b=b'
 apart:∀b r (o:Obj),V.at b r→V.σ[b]?=some o→o.frozen=false→¬V.ok r
 lt:∀r,V.owned r→r<V.w.heap.size
 xe:∀r,V.ok r→r<V.w.heap.size
def env(w:World):Os×Array (Nat×ByteArray)×(Nat→Question→Nat):=(w.os,w.output,w.tape)
structure Step (V V':View):Prop where
 ext:Ext V V'
 size:V.w.heap.size≤V'.w.heap.size
 keep:∀r,r<V.w.heap.size→¬V.owned r→V'.w.heap[r]?=V.w.heap[r]?
 E5:∀r,V'.ok r→V.ok r∨V.w.heap.size≤r∨V.owned r
 xg:∀r,V'.owned r→V.owned r∨V.w.heap.size≤r
 env:env V'.w=env V.w
theorem Step.refl(V:View):Step V V:=⟨Ext.refl V,qj _,fun _ _ _=>rfl,fun _ h=>.inl h,fun _ h=>.inl h,rfl⟩
theorem Step.trans{V V' V'':View}(h:Step V V')(h':Step V' V''):Step V V'' where
 ext:=h.ext.trans h'.ext
 size:=UO h.size h'.size
 keep r hr ho:=by
  rw[h'.keep r (Q7 hr h.size) (fun hx=>by rcases h.xg r hx with h1|h1;exact ho h1;omega)]
  exact h.keep r hr ho
 E5 r hr:=by
  rcases h'.E5 r hr with h1|h1|h1
  ·exact h.E5 r h1
  ·exact .inr (.inl (UO h.size h1))
  ·rcases h.xg r h1 with h2|h2
   ·exact .inr (.inr h2)
   ·exact .inr (.inl h2)
 xg r hr:=by
  rcases h'.xg r hr with h1|h1
  ·exact h.xg r h1
  ·exact .inr (UO h.size h1)
 env:=h'.env.trans h.env
structure og (V:View) (τ:Tm) (nt:Nat) (a:Array Value):Prop where
 size:a.size=nt
 small:nt≤1000000
 get:∀t,aV V (τ.get t) (a.getD t undef)
theorem og.mono{V V':View}(e:Ext V V'){τ:Tm}{nt:Nat}{a:Array Value}(h:og V τ nt a):og V' τ nt a:=⟨h.size,h.small,fun t=>(h.get t).mono e⟩
theorem og.put{V:View}{τ:Tm}{nt:Nat}{a:Array Value}(h:og V τ nt a){d:Nat}(hd:d<nt){x:AV}{v:Value}(hv:aV V x v):og V (jg τ d x) nt (a.setIfInBounds d v):=by
 refine⟨by simp[h.size],h.small,fun t=>?_⟩
 by_cases e:d=t
 ·subst e
  have:d<a.size:=by rw[h.size];exact hd
  simp[jg,Array.getD,this,hv]
 ·have:(a.setIfInBounds d v).getD t undef=a.getD t undef:=by simp[UK,e]
  rw[this];simp only[jg,e,if_false];exact h.get t
theorem og.keep{V:View}{τ:Tm}{nt:Nat}{a:Array Value}(h:og V τ nt a)(lv:List Nat):og V (τ.keep lv) nt a:=by
 refine⟨h.size,h.small,fun t=>?_⟩
 have:(τ.keep lv).get t=τ.get t∨(τ.keep lv).get t=.any:=by
  unfold Tm.keep Tm.kept tm;dsimp only
  induction lv with
  |nil=>exact .inr rfl
  |cons x r ih=>
   simp only[ue,lk];by_cases e:x=t
   ·simp[e]
   ·simpa[e]using ih
 rcases this with e|e<;>rw[e]
 ·exact h.get t
 ·exact .any _
variable {p:Program} {cq:FuncId→Bool}
theorem oT.mono{V V':View}(e:Ext V V'){l:Loc}{es:Nat}{rows:List (List AV)}(hb:∀r,l.iL=some r→V'.w.heap[r]?=V.w.heap[r]?)(h:oT V l es rows):oT V' l es rows where
 wide:=h.wide
 cap:=h.cap
 nil:=h.nil
 hole:=h.hole
 cells r hr:=by
  obtain⟨c,t,hc,hs,hv⟩:=h.cells r hr;exact⟨c,t,by rw[hb r hr];exact hc,hs,fun k a ha=>let ⟨v,h1,h2,h3⟩:=hv k a ha;⟨v,h1,h2,h3.mono e⟩⟩
theorem zC.mono{V V':View}(e:Ext V V'){l:Loc}{o:Obj}(hb:∀r,l.iL=some r→V'.w.heap[r]?=V.w.heap[r]?)(h:zC p cq V l o):zC p cq V' l o:=by
 cases o with
 |pv es rows f=>exact oT.mono e hb h
 |av es rows f=>exact oT.mono e hb h
 |map es f=>
  obtain⟨r,en,clock,hl,hm⟩:=h;exact⟨r,en,clock,hl,by rw[hb r hl];exact hm.heap,hm.len,fun i a b h1 h2=>(hm.key i a b h1 h2).mono e.ok e.keep,fun i a b h1 h2=>(hm.val i a b h1 h2).mono e⟩
 |loop τ nt ps gP body s=>
  obtain⟨r,L,hl,hm⟩:=h;exact⟨r,L,hl,by rw[hb r hl];exact hm.heap,hm.state,hm.gP,hm.body,hm.ps,hm.size,hm.small,fun t=>(hm.tmps t).mono e⟩
 |gone=>trivial
theorem View.ZZ{V:View}{l:Loc}{o:Obj}{b:Nat}{s:Sh}{ok:Nat→Prop}{w:World}(h:V.sh b=some s) :
  (View.mk (V.own++[l]) (V.σ++[o]) ok w).sh b=some s:=by
 unfold View.sh at *
 have hb:b<V.σ.length:=by
  rcases UB b V.σ.length with h1|h1
  ·exact h1
  ·simp[aa3 h1]at h
 simp only[ym hb];exact h
theorem View.amI{V:View}{b r:Nat}(hb:V.at b r):b<V.σ.length:=by
 obtain⟨l,o,_,ho,_⟩:=hb;exact(gu.1 ho).1
theorem cE.push{V:View}(h:cE p cq V)(l:Loc)(o:Obj)(w':World)(henv:env w'=env V.w)(hsz:V.w.heap.size≤w'.heap.size)(hkeep:∀r,r<V.w.heap.size→w'.heap[r]?=V.w.heap[r]?)
  (hl:∀r,l.iL=some r→V.w.heap.size≤r∧r<w'.heap.size) (ho:Ext V ⟨V.own++[l],V.σ++[o],V.ok,w'⟩→zC p cq ⟨V.own++[l],V.σ++[o],V.ok,w'⟩ l o) :
  cE p cq ⟨V.own++[l],V.σ++[o],V.ok,w'⟩∧Step V ⟨V.own++[l],V.σ++[o],V.ok,w'⟩:=by
 have e:Ext V ⟨V.own++[l],V.σ++[o],V.ok,w'⟩:=by
  refine⟨fun _ h=>h,fun b hb=>hkeep b (h.xe b hb),fun b s hs=>⟨s,View.ZZ hs,s.le_refl ?_⟩⟩
  have hb:b<V.σ.length:=by
   unfold View.sh at hs;rcases UB b V.σ.length with h1|h1
   ·exact h1
   ·simp[aa3 h1]at hs
  simp only[ym (by rw[h.len];exact hb:b<V.own.length)]
 have hat:∀b r,(View.mk (V.own++[l]) (V.σ++[o]) V.ok w').at b r→V.at b r∨(b=V.σ.length∧l.iL=some r):=by
  rintro b r ⟨l1,o1,h1,h2,h3,h4⟩
  rcases UB b V.σ.length with hb|hb
  ·left
   refine⟨l1,o1,?_,?_,h3,h4⟩
   ·simpa[ym (by rw[h.len];exact hb:b<V.own.length)]using h1
   ·simpa[ym hb]using h2
  ·right
   have hlt:=(gu.1 h2).1;simp only[mh,abV]at hlt;have hbe:b=V.σ.length:=by omega
   subst hbe
   have:l1=l:=by
    have:=h1;rw[show V.σ.length=V.own.length from h.len.symm]at this;simpa using this.symm
   subst this;exact⟨rfl,h4⟩
 refine⟨⟨?_,?_,?_,?_,?_,?_⟩,e,hsz,?_,?_,?_,henv⟩
 ·simp[h.len]
 ·intro b l1 o1 h1 h2
  rcases UB b V.σ.length with hb|hb
  ·have h1':V.own[b]?=some l1:=by simpa[ym (by rw[h.len];exact hb:b<V.own.length)]using h1
   have h2':V.σ[b]?=some o1:=by simpa[ym hb]using h2
   cases hlive:o1.live with
   |false=>cases o1<;>first|trivial|(simp[Obj.live]at hlive)
   |true=>exact zC.mono e (fun r hr=>hkeep r (h.lt r ⟨b,l1,o1,h1',h2',hlive,hr⟩)) (h.obj b l1 o1 h1' h2')
  ·have hlt:=(gu.1 h2).1
   simp only[mh,abV]at hlt;have hbe:b=V.σ.length:=by omega
   subst hbe
   have hle:l1=l:=by
    have:=h1;rw[show V.σ.length=V.own.length from h.len.symm]at this;simpa using this.symm
   have hoe:o1=o:=by simpa using h2.symm
   subst hle;subst hoe;exact ho e
 ·intro b b' r hb hb'
  rcases hat b r hb with h1|⟨h1,h1'⟩<;>rcases hat b' r hb' with h2|⟨h2,h2'⟩
  ·exact h.one b b' r h1 h2
  ·have:=h.lt r ⟨b,h1⟩;have:=(hl r h2').1;omega
  ·have:=h.lt r ⟨b',h2⟩;have:=(hl r h1').1;omega
  ·rw[h1,h2]
 ·intro b r o1 hb ho1 hf hk
  rcases hat b r hb with h1|⟨h1,h1'⟩
  ·have hb':=View.amI h1
   exact h.apart b r o1 h1 (by simpa[ym hb']using ho1) hf hk
  ·have:=h.xe r hk;have:=(hl r h1').1;omega
 ·rintro r ⟨b,hb⟩
  rcases hat b r hb with h1|⟨h1,h1'⟩
  ·exact Q7 (h.lt r ⟨b,h1⟩) hsz
  ·exact(hl r h1').2
 ·intro r hr
  exact Q7 (h.xe r hr) hsz
 ·intro r hr _
  exact hkeep r hr
 ·intro r hr
  exact .inl hr
 ·rintro r ⟨b,hb⟩
  rcases hat b r hb with h1|⟨h1,h1'⟩
  ·exact .inl ⟨b,h1⟩
  ·exact .inr (hl r h1').1
theorem cE.Mp{V:View}(h:cE p cq V){b:Nat}{l l':Loc}{o o':Obj}{w':World}(hl:V.own[b]?=some l)(ho:V.σ[b]?=some o)(hf:o.frozen=false)
  (hsh:o.sh.le o'.sh (l'=l)) (henv:env w'=env V.w) (hsz:V.w.heap.size≤w'.heap.size) (hkeep:∀r,r<V.w.heap.size→l.iL≠some r→w'.heap[r]?=V.w.heap[r]?)
  (hblk:∀r,o'.live=true→l'.iL=some r→l.iL=some r∨(V.w.heap.size≤r∧r<w'.heap.size))
  (hrel:Ext V ⟨V.own.set b l',V.σ.set b o',V.ok,w'⟩→zC p cq ⟨V.own.set b l',V.σ.set b o',V.ok,w'⟩ l' o') :
  cE p cq ⟨V.own.set b l',V.σ.set b o',V.ok,w'⟩∧Step V ⟨V.own.set b l',V.σ.set b o',V.ok,w'⟩:=by
 have hbσ:b<V.σ.length:=(gu.1 ho).1;have hbo:b<V.own.length:=(gu.1 hl).1;have hlive:o.live=true:=by cases o<;>simp[Obj.live,Obj.frozen]at hf ⊢
 have hat0:∀r,l.iL=some r→V.at b r:=fun r hr=>⟨l,o,hl,ho,hlive,hr⟩
 have hok:∀r,V.ok r→l.iL≠some r:=fun r hr hx=>h.apart b r o (hat0 r hx) ho hf hr
 have e:Ext V ⟨V.own.set b l',V.σ.set b o',V.ok,w'⟩:=by
  refine⟨fun _ h=>h,fun r hr=>hkeep r (h.xe r hr) (hok r hr),fun c s hs=>?_⟩
  by_cases hc:c=b
  ·subst hc
   refine⟨o'.sh,by simp[View.sh,hbσ],?_⟩
   have:s=o.sh:=by simp[View.sh,ho]at hs;exact hs.symm
   subst this;have he:((View.mk (V.own.set c l') (V.σ.set c o') V.ok w').own[c]?=V.own[c]?)=(l'=l):=by rw[hl];simp[hbo]
   rw[he];exact hsh
  ·refine⟨s,?_,s.le_refl ?_⟩
   ·simp only[View.sh]at hs ⊢
    rw[O0 (fun hx=>hc hx.symm)]
    exact hs
   ·simp only[]
    rw[O0 (fun hx=>hc hx.symm)]
 have hat:∀c r,(View.mk (V.own.set b l') (V.σ.set b o') V.ok w').at c r→(c≠b∧V.at c r)∨(c=b∧o'.live=true∧l'.iL=some r):=by
  rintro c r ⟨l1,o1,h1,h2,h3,h4⟩
  by_cases hc:c=b
  ·subst hc
   have h1':l1=l':=by simpa[hbo]using h1.symm
   have h2':o1=o':=by simpa[hbσ]using h2.symm
   subst h1';subst h2';exact .inr ⟨rfl,h3,h4⟩
  ·left
   refine⟨hc,l1,o1,?_,?_,h3,h4⟩
   ·simpa[O0 (fun hx=>hc hx.symm)]using h1
   ·simpa[O0 (fun hx=>hc hx.symm)]using h2
 refine⟨⟨?_,?_,?_,?_,?_,?_⟩,e,hsz,?_,?_,?_,henv⟩
 ·simp[h.len]
 ·intro c l1 o1 h1 h2
  by_cases hc:c=b
  ·subst hc
   have h1':l1=l':=by simpa[hbo]using h1.symm
   have h2':o1=o':=by simpa[hbσ]using h2.symm
   subst h1';subst h2';exact hrel e
  ·have h1':V.own[c]?=some l1:=by simpa[O0 (fun hx=>hc hx.symm)]using h1
   have h2':V.σ[c]?=some o1:=by simpa[O0 (fun hx=>hc hx.symm)]using h2
   cases hlive1:o1.live with
   |false=>cases o1<;>first|trivial|(simp[Obj.live]at hlive1)
   |true=>
    refine zC.mono e (fun r hr=>?_) (h.obj c l1 o1 h1' h2')
    have hat1:V.at c r:=⟨l1,o1,h1',h2',hlive1,hr⟩;exact hkeep r (h.lt r ⟨c,hat1⟩) (fun hx=>hc (h.one c b r hat1 (hat0 r hx)))
 ·intro c c' r hc hc'
  rcases hat c r hc with⟨n1,h1⟩|⟨h1,h1',h1''⟩<;>rcases hat c' r hc' with⟨n2,h2⟩|⟨h2,h2',h2''⟩
  ·exact h.one c c' r h1 h2
  ·rcases hblk r h2' h2'' with hx|hx
   ·exact absurd (h.one c b r h1 (hat0 r hx)) n1
   ·have:=h.lt r ⟨c,h1⟩;omega
  ·rcases hblk r h1' h1'' with hx|hx
   ·exact absurd (h.one c' b r h2 (hat0 r hx)) n2
   ·have:=h.lt r ⟨c',h2⟩;omega
  ·rw[h1,h2]
 ·intro c r o1 hc ho1 hf1 hk
  rcases hat c r hc with⟨n1,h1⟩|⟨h1,h1',h1''⟩
  ·exact h.apart c r o1 h1 (by simpa[O0 (fun hx=>n1 hx.symm)]using ho1) hf1 hk
  ·rcases hblk r h1' h1'' with hx|hx
   ·exact hok r hk hx
   ·have:=h.xe r hk;omega
 ·rintro r ⟨c,hc⟩
  rcases hat c r hc with⟨n1,h1⟩|⟨h1,h1',h1''⟩
  ·exact Q7 (h.lt r ⟨c,h1⟩) hsz
  ·rcases hblk r h1' h1'' with hx|hx
   ·exact Q7 (h.lt r ⟨b,hat0 r hx⟩) hsz
   ·exact hx.2
 ·intro r hr
  exact Q7 (h.xe r hr) hsz
 ·intro r hr hno
  exact hkeep r hr (fun hx=>hno ⟨b,hat0 r hx⟩)
 ·intro r hr
  exact .inl hr
 ·rintro r ⟨c,hc⟩
  rcases hat c r hc with⟨n1,h1⟩|⟨h1,h1',h1''⟩
  ·exact .inl ⟨c,h1⟩
  ·rcases hblk r h1' h1'' with hx|hx
   ·exact .inl ⟨b,hat0 r hx⟩
   ·exact .inr hx.1
theorem iP{α β:Type}{f:α→Option β}:∀{l:List α} {r:List β},omap f l=some r→r.length=l.length∧∀(i:Nat) (a:α),l[i]?=some a→∃b,r[i]?=some b∧f a=some b
 | [],r,h=>by
  simp only[omap,bL]at h;subst h;simp
 |a::l,r,h=>by
  simp only[omap]at h;cases ha:f a with
  |none=>simp[ha]at h
  |some b=>
   cases hl:omap f l with
   |none=>simp[ha,hl]at h
   |some bs=>
    simp only[ha,hl,bL]at h;subst h;obtain⟨h1,h2⟩:=iP hl;refine⟨by simp[h1],fun i x hx=>?_⟩
    cases i with
    |zero=>simp only[NX,bL]at hx;subst hx;exact⟨b,rfl,ha⟩
    |succ i=>simpa using h2 i x (by simpa using hx)
def Obj.data:Obj→Bool
 |.pv .. |.av .. |.map ..=>true
 |_=>false
def View.blocks(V:View)(L:List Nat)(r:Nat):Prop:=∃b∈L,V.at b r∧∃o,V.σ[b]?=some o∧o.data=true
theorem View.xG{V:View}{L L':List Nat}(h:∀b∈L,b∈L'){r:Nat}(hr:V.blocks L r):V.blocks L' r :=
 let ⟨b,hb,x⟩:=hr;⟨b,h b hb,x⟩
theorem cE.nA{V:View}(h:cE p cq V){b:Nat}{o:Obj}(ho:V.σ[b]?=some o):∃l,V.own[b]?=some l:=by
 have:=(gu.1 ho).1;exact⟨_,oh (by rw[h.len];exact this)⟩
theorem gL{α:Type}:∀{rows:List (List α)} {es:Nat},(∀x∈rows,x.length=es)→∀{i j:Nat} {row:List α} {a:α},rows[i]?=some row→row[j]?=some a→rows.flatten[i*es+j]?=some a
 | [],_,_,i,_,_,_,h,_=>by simp at h
 |x::rows,es,hes,i,j,row,a,h,hj=>by
  have hx:=hes x (by simp)
  cases i with
  |zero=>
   simp only[NX,bL]at h;subst h;have:=(gu.1 hj).1;simp only[Nat.zero_mul,sQ,abi,ym this];exact hj
  |succ i=>
   have:=gL (rows:=rows) (es:=es) (fun y hy=>hes y (by simp[hy])) (by simpa using h) hj
   rw[abi,CG (by rw[hx,Xs];omega),hx,show(i+1)*es+j-es=i*es+j by rw[Xs];omega]
   exact this
theorem bU{α:Type}:∀{rows:List (List α)} {es:Nat},(∀x∈rows,x.length=es)→rows.flatten.length=rows.length*es
 | [],_,_=>by simp
 |x::rows,es,h=>by
  rw[abi,mh,bU (rows:=rows) (es:=es) (fun y hy=>h y (by simp[hy])),h x (by simp),oi,Xs]
  omega
theorem pj{α:Type}:∀{rows:List (List α)} {es:Nat},(∀x∈rows,x.length=es)→∀{k:Nat} {a:α},rows.flatten[k]?=some a→∃(i j:Nat) (row:List α),k=i*es+j∧rows[i]?=some row∧row[j]?=some a
 | [],_,_,_,_,h=>by simp at h
 |x::rows,es,hes,k,a,h=>by
  have hx:=hes x (by simp)
  rw[abi]at h;rcases UB k x.length with hk|hk
  ·exact⟨0,k,x,by simp,by simp,by rw[←ym hk];exact h⟩
  ·rw[CG hk]at h
   obtain⟨i,j,row,h1,h2,h3⟩:=pj (rows:=rows) (es:=es) (fun y hy=>hes y (by simp[hy])) h
   exact⟨i+1,j,row,by rw[Xs];omega,by simpa using h2,h3⟩
theorem Aa{rows:List (List PV)}{i:Nat}{row:List PV}(h:rows[i]?=some row):(ay rows)[i]?=some (row.map .p):=by simp[ay,h]
theorem kj{rows:List (List PV)}:(ay rows).flatten=rows.flatten.map .p:=by simp[ay,List.map_flatten]
theorem dU{rows:List (List PV)}:(ay rows).length=rows.length:=by simp[ay]
theorem ji{w:World}{r:Nat}{c:Array Value}{t:TypeId}{f:Nat×Nat}(h:w.heap[r]?=some (.cells c t f))(k:Nat):w.cell? ⟨r,k,none⟩=c[k]? := by
 simp[World.cell?,h]
theorem aV.xV{V:View}{q:PV}{v:Value}(h:aV V (.p q) v):dw V.w V.ok q v:=by cases h;assumption
theorem Cw{V:View}(hS:cE p cq V):∀(k:Nat) (a:AV) (q:PV) (v:Value),az V.σ k a=some q→aV V a v→dw V.w (fun r=>V.ok r∨V.blocks (refs V.σ k a) r) q v:=by
 intro k
 induction k with
 |zero=>intro a q v h;simp[az]at h
 |succ k ih=>
  intro a q v h hv
  have list:∀(cs:List AV) (qs:List PV) (vs:List Value) (L:Nat→Prop),omap (az V.σ k) cs=some qs→cs.length=vs.length→(∀(i:Nat) (c:AV) (v:Value),cs[i]?=some c→vs[i]?=some v→aV V c v) →
    (∀c∈cs,∀r,V.blocks (refs V.σ k c) r→L r)→qs.length=vs.length∧∀(i:Nat) (q:PV) (v:Value),qs[i]?=some q→vs[i]?=some v→dw V.w (fun r=>V.ok r∨L r) q v:=by
   intro cs qs vs L ho hl hr hL;obtain⟨h1,h2⟩:=iP ho;refine⟨by omega,fun i q v hq hv=>?_⟩
   have hi:i<cs.length:=by have:=(gu.1 hv).1;omega
   obtain⟨b,hb,hp⟩:=h2 i cs[i] (oh hi);rw[hq,bL]at hb;subst hb;refine(ih _ _ _ hp (hr i _ v (oh hi) hv)).mono (fun r hr=>?_) (fun _ _=>rfl)
   rcases hr with h|h
   ·exact .inl h
   ·exact .inr (hL _ (UJ hi) r h)
  cases hv with
  |any v=>simp[az]at h
  |p h'=>
   simp only[az,bL]at h;subst h;exact h'.mono (fun _ h=>.inl h) (fun _ _=>rfl)
  |aF a=>
   simp only[az,bL]at h;subst h;exact .GJ a 0
  |fn f cs vs hl hr=>
   simp only[az,gE]at h;obtain⟨qs,ho,rfl⟩:=h;obtain⟨h1,h2⟩:=list cs qs vs _ ho hl hr (fun c hc r hr=>hr.imp fun b hb=>⟨Mz.2 ⟨c,hc,hb.1⟩,hb.2⟩:∀c∈cs,∀r,V.blocks (refs V.σ k c) r→V.blocks (refs V.σ (k+1) (.fn f cs)) r)
   exact .fn f qs vs h1 h2
  |agg cs vs hl hone hr=>
   simp only[az,gE]at h;obtain⟨qs,ho,rfl⟩:=h;obtain⟨h1,h2⟩:=list cs qs vs _ ho hl hr (fun c hc r hr=>hr.imp fun b hb=>⟨Mz.2 ⟨c,hc,hb.1⟩,hb.2⟩:∀c∈cs,∀r,V.blocks (refs V.σ k c) r→V.blocks (refs V.σ (k+1) (.agg cs)) r)
   exact .agg qs vs h1 hone h2
  |jO cs vs hl hr=>
   simp only[az,gE]at h;obtain⟨qs,ho,rfl⟩:=h;obtain⟨h1,h2⟩:=list cs qs vs _ ho hl hr (fun c hc r hr=>hr.imp fun b hb=>⟨Mz.2 ⟨c,hc,hb.1⟩,hb.2⟩:∀c∈cs,∀r,V.blocks (refs V.σ k c) r→V.blocks (refs V.σ (k+1) (.jO cs)) r)
   exact .jO qs vs h1 h2
  |yield=>simp[az]at h
  |sl b n a c s hs hn hp=>
   simp only[az]at h
   have main:∀(o:Obj) (es:Nat) (rows:List (List AV)) (ps:List (List PV)) (l:Loc),V.σ[b]?=some o→o.sh=.vec es rows.length→o.data=true→o.live=true→V.own[b]?=some l→oT V l es rows→rows.length=n →
     ps.length=rows.length→(∀(i:Nat) (row:List AV),rows[i]?=some row→∃pr,ps[i]?=some pr∧pr.length=row.length∧∀(j:Nat) (q:PV) (x:AV) (v:Value),pr[j]?=some q→row[j]?=some x→aV V x v→dw V.w (fun r=>V.ok r∨V.blocks (refs V.σ (k+1) (.sl b n)) r) q v) →
     dw V.w (fun r=>V.ok r∨V.blocks (refs V.σ (k+1) (.sl b n)) r) (.aW ps) (.slice a n c):=by
    intro o es rows ps l ho hsh hdata hlive hl hvec hlen hpl hrow
    have hs':s=.vec es n:=by
     rw[←hlen,←hsh];simpa[View.sh,ho]using hs.symm
    obtain⟨ha,hc⟩:=hp es l hs' hl;subst hc;cases hb:l.iL with
    |none=>
     have hcap:=hvec.nil hb;have hle:=hvec.cap;have hz:ps=[]:=Jm.1 (by omega)
     have hn0:n=0:=by omega
     subst hz;subst hn0;exact .GJ _ _
    |some r=>
     by_cases hz:ps=[]
     ·subst hz
      have hn0:n=0:=by simp at hpl;omega
      subst hn0;exact .GJ _ _
     ·have hcap0:l.cap≠0:=by
       have:=hvec.cap;have:=ab1.2 hz;omega
      have ha:=ha hcap0;subst ha;obtain⟨cc,t,hheap,hsize,hcells⟩:=hvec.cells r hb
      have hwide:∀x∈ps,x.length=es:=by
       intro x hx;obtain⟨i,hi⟩:=Xr hx;have hil:i<rows.length:=by have:=(gu.1 hi).1;omega
       obtain⟨pr,hpr,hprl,_⟩:=hrow i rows[i] (oh hil);rw[hi,bL]at hpr;subst hpr;rw[hprl];exact hvec.wide _ (UJ hil)
      have hfl:=bU hvec.wide
      have key:=dw.aW (w:=V.w) (ok:=fun r=>V.ok r∨V.blocks (refs V.σ (k+1) (.sl b n)) r) ps r 0 l.cap es (fun k=>cc.getD k undef) hz
       (.inr ⟨b,by simp[refs],⟨l,o,hl,ho,hlive,hb⟩,o,ho,hdata⟩) (by rw[hpl];exact hvec.cap) hwide
       (fun j hj=>by
        obtain⟨v,hv1,_⟩:=hcells j (rows.flatten[j]'(by rw[hfl];rw[←hpl];exact hj)) (oh _)
        rw[ji hheap,sQ,hv1];simp[UK,hv1])
       (fun j hj=>by
        obtain⟨v,hv1,hv2,_⟩:=hcells j (rows.flatten[j]'(by rw[hfl];rw[←hpl];exact hj)) (oh _)
        simp only[UK,hv1,Q2];exact hv2)
       (fun j q hq=>by
        obtain⟨i,j',pr,rfl,hi,hj'⟩:=pj hwide hq;have hil:i<rows.length:=by have:=(gu.1 hi).1;omega
        obtain⟨pr',hpr,hprl,hrel⟩:=hrow i rows[i] (oh hil);rw[hi,bL]at hpr;subst hpr;have hjl:j'<rows[i].length:=by have:=(gu.1 hj').1;omega
        have hfx:=gL hvec.wide (oh hil) (oh hjl);obtain⟨v,hv1,_,hv3⟩:=hcells _ _ hfx;simp only[UK,hv1,Q2];exact hrel j' q _ v hj' (oh hjl) hv3)
      rw[hpl,hlen]at key;simpa[Loc.addr,hb]using key
   cases ho:V.σ[b]? with
   |none=>simp[ho]at h
   |some o=>
    obtain⟨l,hl⟩:=hS.nA ho;have hor:=hS.obj b l o hl ho;cases o with
    |pv es rows f=>
     simp only[ho]at h;split at h
     ·rename_i hlen
      simp only[bL]at h;subst h;refine main _ es (ay rows) rows l ho (by simp[Obj.sh,ay]) rfl rfl hl hor (by simp[ay,hlen]) (by simp[ay]) ?_
      intro i row hrow;have hil:i<rows.length:=by have:=(gu.1 hrow).1;simpa[ay]using this
      have:row=rows[i].map .p:=by
       have:=Aa (oh hil);rw[this,bL]at hrow;exact hrow.symm
      subst this;refine⟨rows[i],oh hil,by simp,fun j q x v hq hx hv=>?_⟩
      rw[xF,hq]at hx;simp only[vd,bL]at hx;subst hx;exact hv.xV.mono (fun _ h=>.inl h) (fun _ _=>rfl)
     ·simp at h
    |av es rows f=>
     simp only[ho]at h;split at h
     ·rename_i hlen
      simp only[gE]at h;obtain⟨ps,hps,rfl⟩:=h;obtain⟨h1,h2⟩:=iP hps;refine main _ es rows ps l ho rfl rfl rfl hl hor hlen h1 ?_;intro i row hrow;obtain⟨pr,hpr,hpo⟩:=h2 i row hrow;obtain⟨h3,h4⟩:=iP hpo;refine⟨pr,hpr,h3,fun j q x v hq hx hv=>?_⟩
      obtain⟨q',hq',hpq⟩:=h4 j x hx;rw[hq,bL]at hq';subst hq';refine(ih x q v hpq hv).mono (fun r hr=>?_) (fun _ _=>rfl)
      rcases hr with h|h
      ·exact .inl h
      ·refine .inr (View.xG (fun b' hb'=>?_) h)
       simp only[refs,ho,qL,Mz];exact .inr ⟨row,mK hrow,x,mK hx,hb'⟩
     ·simp at h
    |map=>simp[ho]at h
    |loop=>simp[ho]at h
    |gone=>simp[ho]at h
  |ptr b n i o a s hs hn hp=>
   simp only[az]at h
   have main:∀(ob:Obj) (es:Nat) (rows:List (List AV)) (row:List AV) (pr:List PV) (l:Loc),V.σ[b]?=some ob→ob.sh=.vec es rows.length→ob.data=true→ob.live=true→V.own[b]?=some l→oT V l es rows→rows.length=n →
     rows[i]?=some row→pr.length=row.length→(∀(j:Nat) (q:PV) (x:AV) (v:Value),pr[j]?=some q→row[j]?=some x→aV V x v→dw V.w (fun r=>V.ok r∨V.blocks (refs V.σ (k+1) (.ptr b n i o)) r) q v) →
     dw V.w (fun r=>V.ok r∨V.blocks (refs V.σ (k+1) (.ptr b n i o)) r) (.ptr pr o) (.pointer (some a)):=by
    intro ob es rows row pr l ho hsh hdata hlive hl hvec hlen hrow hprl hrel
    have hs':s=.vec es n:=by
     rw[←hlen,←hsh];simpa[View.sh,ho]using hs.symm
    have hil:i<rows.length:=(gu.1 hrow).1;obtain⟨r,hb,ha⟩:=hp es l hs' hl (by omega)
    subst ha;obtain⟨cc,t,hheap,hsize,hcells⟩:=hvec.cells r hb
    have key:=dw.ptr (w:=V.w) (ok:=fun r=>V.ok r∨V.blocks (refs V.σ (k+1) (.ptr b n i o)) r) pr o r (i*es) (fun k=>cc.getD (i*es+k) undef)
     (.inr ⟨b,by simp[refs],⟨l,ob,hl,ho,hlive,hb⟩,ob,ho,hdata⟩)
     (fun j hj=>by
      have hjl:j<row.length:=by omega
      have hfx:=gL hvec.wide hrow (oh hjl);obtain⟨v,hv1,_⟩:=hcells _ _ hfx;rw[ji hheap,hv1];simp[UK,hv1])
     (fun j hj=>by
      have hjl:j<row.length:=by omega
      have hfx:=gL hvec.wide hrow (oh hjl);obtain⟨v,hv1,hv2,_⟩:=hcells _ _ hfx;simp only[UK,hv1,Q2];exact hv2)
     (fun j q hq=>by
      have hjl:j<row.length:=by have:=(gu.1 hq).1;omega
      have hfx:=gL hvec.wide hrow (oh hjl);obtain⟨v,hv1,_,hv3⟩:=hcells _ _ hfx;simp only[UK,hv1,Q2];exact hrel j q _ v hq (oh hjl) hv3)
    exact key
   cases ho:V.σ[b]? with
   |none=>simp[ho]at h
   |some ob=>
    obtain⟨l,hl⟩:=hS.nA ho;have hor:=hS.obj b l ob hl ho;cases ob with
    |pv es rows f=>
     simp only[ho]at h;split at h
     ·rename_i hlen
      simp only[gE]at h;obtain⟨row,hrow,rfl⟩:=h;refine main _ es (ay rows) (row.map .p) row l ho (by simp[Obj.sh,ay]) rfl rfl hl hor (by simp[ay,hlen]) (Aa hrow) (by simp) ?_
      intro j q x v hq hx hv;rw[xF,hq]at hx;simp only[vd,bL]at hx;subst hx;exact hv.xV.mono (fun _ h=>.inl h) (fun _ _=>rfl)
     ·simp at h
    |av es rows f=>
     simp only[ho]at h;split at h
     ·rename_i hlen
      simp only[fM,gE]at h;obtain⟨row,hrow,pr,hpr,rfl⟩:=h;obtain⟨h3,h4⟩:=iP hpr;refine main _ es rows row pr l ho rfl rfl rfl hl hor hlen hrow h3 ?_;intro j q x v hq hx hv;obtain⟨q',hq',hpq⟩:=h4 j x hx;rw[hq,bL]at hq';subst hq';refine(ih x q v hpq hv).mono (fun r hr=>?_) (fun _ _=>rfl)
      rcases hr with h|h
      ·exact .inl h
      ·refine .inr (View.xG (fun b' hb'=>?_) h)
       simp only[refs,ho,hrow,Q2,qL,Mz];exact .inr ⟨x,mK hx,hb'⟩
     ·simp at h
    |map=>simp[ho]at h
    |loop=>simp[ho]at h
    |gone=>simp[ho]at h
  |map b r s hs hp=>
   simp only[az]at h;cases ho:V.σ[b]? with
   |none=>simp[ho]at h
   |some ob=>
    obtain⟨l,hl⟩:=hS.nA ho;have hor:=hS.obj b l ob hl ho;cases ob with
    |map es f=>
     simp only[ho,gE]at h;obtain⟨qs,hqs,rfl⟩:=h;obtain⟨h1,h2⟩:=iP hqs;obtain⟨r',en,clock,hlb,hm⟩:=hor;have hs':s=.map:=by simpa[View.sh,ho,Obj.sh]using hs.symm
     have:r'=r:=by
      have:=hp hs' l hl;rw[hlb,bL]at this;exact this
     subst this
     have hget:∀(i:Nat) (q:PV×PV) (e:MapEntry),qs[i]?=some q→en[i]?=some e→∃x,es[i]?=some x∧q.1=x.1∧az V.σ k x.2=some q.2:=by
      intro i q e hq he;have hi:i<es.length:=by have:=(gu.1 hq).1;omega
      obtain⟨q',hq',hpq⟩:=h2 i es[i] (oh hi);rw[hq,bL]at hq';subst hq';simp only[gE]at hpq;obtain⟨rr,hrr,rfl⟩:=hpq;exact⟨es[i],oh hi,rfl,hrr⟩
     refine .pmap qs r' en clock (.inr ⟨b,by simp[refs],⟨l,_,hl,ho,rfl,hlb⟩,_,ho,rfl⟩) hm.heap (by rw[h1];exact hm.len) ?_ ?_
     ·intro i q e hq he
      obtain⟨x,hx,h3,_⟩:=hget i q e hq he;rw[h3];exact(hm.key i x e hx he).mono (fun _ h=>.inl h) (fun _ _=>rfl)
     ·intro i q e hq he
      obtain⟨x,hx,_,h4⟩:=hget i q e hq he;refine(ih _ _ _ h4 (hm.val i x e hx he)).mono (fun r hr=>?_) (fun _ _=>rfl)
      rcases hr with h|h
      ·exact .inl h
      ·refine .inr (View.xG (fun b' hb'=>?_) h)
       simp only[refs,ho,qL,Mz];exact .inr ⟨x,mK hx,hb'⟩
    |pv=>simp[ho]at h
    |av=>simp[ho]at h
    |loop=>simp[ho]at h
    |gone=>simp[ho]at h
theorem se(σ:ae)(b c:Nat):∃f:Obj→Obj,(∀o,(f o).sh=o.sh∧(f o).live=o.live∧(f o).data=o.data∧((f o).frozen=false→o.frozen=false)) ∧
  (∀V l,∀o,zC p cq V l o→zC p cq V l (f o))∧(dD σ b)[c]?=σ[c]?.map f∧(c≠b→∀o,f o=o)∧(c=b→∀o,σ[c]?=some o→o.data=true→(f o).frozen=true):=by
 by_cases hc:c=b
 ·subst hc
  cases ho:σ[c]? with
  |none=>exact⟨id,by simp,fun _ _ _ h=>h,by simp[dD,ho],by simp,by simp⟩
  |some o=>
   have hlt:c<σ.length:=(gu.1 ho).1;cases o with
   |pv es rows f=>
    refine⟨fun o=>match o with|.pv es rows _=>.pv es rows true|o=>o,?_,?_,by unfold dD;rw[ho];simp[hlt],by simp,by simp[Obj.frozen]⟩
    ·intro o;cases o<;>simp[Obj.sh,Obj.live,Obj.data,Obj.frozen]
    ·intro V l o h;cases o<;>exact h
   |av es rows f=>
    refine⟨fun o=>match o with|.av es rows _=>.av es rows true|o=>o,?_,?_,by unfold dD;rw[ho];simp[hlt],by simp,by simp[Obj.frozen]⟩
    ·intro o;cases o<;>simp[Obj.sh,Obj.live,Obj.data,Obj.frozen]
    ·intro V l o h;cases o<;>exact h
   |map es f=>
    refine⟨fun o=>match o with|.map es _=>.map es true|o=>o,?_,?_,by unfold dD;rw[ho];simp[hlt],by simp,by simp[Obj.frozen]⟩
    ·intro o;cases o<;>simp[Obj.sh,Obj.live,Obj.data,Obj.frozen]
    ·intro V l o h;cases o<;>exact h
   |loop=>exact⟨id,by simp,fun _ _ _ h=>h,by simp[dD,ho],by simp,by simp[Obj.data]⟩
   |gone=>exact⟨id,by simp,fun _ _ _ h=>h,by simp[dD,ho],by simp,by simp[Obj.data]⟩
 ·refine⟨id,by simp,fun _ _ _ h=>h,?_,by simp,by simp[hc]⟩
  simp only[Option.map_id_fun,id];unfold dD;split<;>first|rfl|(rw[O0 (fun hx=>hc hx.symm)])
theorem Iy(σ:ae)(b:Nat):(dD σ b).length=σ.length:=by
 unfold dD;split<;>simp
theorem cE.ag0{V:View}(h:cE p cq V)(b:Nat) :
  cE p cq ⟨V.own,dD V.σ b,fun r=>V.ok r∨V.blocks [b] r,V.w⟩∧Step V ⟨V.own,dD V.σ b,fun r=>V.ok r∨V.blocks [b] r,V.w⟩:=by
 have e:Ext V ⟨V.own,dD V.σ b,fun r=>V.ok r∨V.blocks [b] r,V.w⟩:=by
  refine⟨fun _ h=>.inl h,fun _ _=>rfl,fun c s hs=>?_⟩
  obtain⟨f,hf,_,hg,_⟩:=se (p:=p) (cq:=cq) V.σ b c;refine⟨s,?_,s.le_refl rfl⟩;simp only[View.sh]at hs ⊢;rw[hg];cases ho:V.σ[c]? with
  |none=>simp[ho]at hs
  |some o=>
   simp only[ho,vd,bL]at hs ⊢;rw[(hf o).1];exact hs
 have hat:∀c r,(View.mk V.own (dD V.σ b) (fun r=>V.ok r∨V.blocks [b] r) V.w).at c r→V.at c r:=by
  rintro c r ⟨l,o,h1,h2,h3,h4⟩
  obtain⟨f,hf,_,hg,_⟩:=se (p:=p) (cq:=cq) V.σ b c;simp only[]at h2;rw[hg]at h2;cases ho:V.σ[c]? with
  |none=>simp[ho]at h2
  |some o'=>
   simp only[ho,vd,bL]at h2;subst h2;exact⟨l,o',h1,ho,by rw[←(hf o').2.1];exact h3,h4⟩
 refine⟨⟨?_,?_,?_,?_,?_,?_⟩,e,qj _,fun _ _ _=>rfl,?_,?_,rfl⟩
 ·simp[Iy,h.len]
 ·intro c l o h1 h2
  obtain⟨f,hf,hr,hg,_⟩:=se (p:=p) (cq:=cq) V.σ b c;simp only[]at h2;rw[hg]at h2;cases ho:V.σ[c]? with
  |none=>simp[ho]at h2
  |some o'=>
   simp only[ho,vd,bL]at h2;subst h2;exact hr _ _ _ (zC.mono e (fun _ _=>rfl) (h.obj c l o' h1 ho))
 ·intro c c' r hc hc'
  exact h.one c c' r (hat c r hc) (hat c' r hc')
 ·intro c r o hc ho hf hk
  obtain⟨f,hf',_,hg,hne,heq⟩:=se (p:=p) (cq:=cq) V.σ b c;simp only[]at ho;rw[hg]at ho;cases ho':V.σ[c]? with
  |none=>simp[ho']at ho
  |some o'=>
   simp only[ho',vd,bL]at ho;subst ho;rcases hk with hk|⟨b',hb',hat',o2,ho2,hd⟩
   ·exact h.apart c r o' (hat c r hc) ho' ((hf' o').2.2.2 hf) hk
   ·simp only[Uz]at hb'
    subst hb';have hcb:=h.one c b' r (hat c r hc) hat';subst hcb;rw[ho',bL]at ho2;subst ho2;rw[heq rfl o' ho' hd]at hf;cases hf
 ·rintro r ⟨c,hc⟩
  exact h.lt r ⟨c,hat c r hc⟩
 ·rintro r (hr|⟨b',_,hat',_⟩)
  ·exact h.xe r hr
  ·exact h.lt r ⟨b',hat'⟩
 ·rintro r (hr|⟨b',_,hat',_⟩)
  ·exact .inl hr
  ·exact .inr (.inr ⟨b',hat'⟩)
 ·rintro r ⟨c,hc⟩
  exact .inl ⟨c,hat c r hc⟩
theorem cE.freeze:∀(L:List Nat) {V:View},cE p cq V→∃ok',cE p cq ⟨V.own,bF V.σ L,ok',V.w⟩∧Step V ⟨V.own,bF V.σ L,ok',V.w⟩∧∀r,(V.ok r∨V.blocks L r)→ok' r
 | [],V,h=>⟨V.ok,h,Step.refl V,by rintro r (h|⟨b,hb,_⟩);exact h;simp at hb⟩
 |b::L,V,h=>by
  obtain⟨h1,s1⟩:=h.ag0 b;obtain⟨ok',h2,s2,h3⟩:=cE.freeze L h1;refine⟨ok',h2,s1.trans s2,?_⟩
  rintro r (hr|⟨b',hb',hat,o,ho,hd⟩)
  ·exact h3 r (.inl (.inl hr))
  ·rcases qL.1 hb' with rfl|hb'
   ·exact h3 r (.inl (.inr ⟨b',by simp,hat,o,ho,hd⟩))
   ·refine h3 r (.inr ⟨b',hb',?_⟩)
    obtain⟨f,hf,_,hg,_⟩:=se (p:=p) (cq:=cq) V.σ b b';obtain⟨l,o',h4,h5,h6,h7⟩:=hat;rw[ho,bL]at h5;subst h5;exact⟨⟨l,f o,h4,by simp only[];rw[hg,ho];rfl,by rw[(hf o).2.1];exact h6,h7⟩,f o,by simp only[];rw[hg,ho];rfl,by rw[(hf o).2.2.1];exact hd⟩
theorem DJ{n:Nat}{cs:List AV}:(cs.attach.all fun⟨c,_⟩=>below n c)=true↔∀c∈cs,below n c=true:=by
 simp[AS]
theorem aV.under{V:View}{n:Nat}{own':List Loc}{σ':ae}(hsh:∀b,b<n→σ'[b]?=V.σ[b]?)(hown:∀b,b<n→own'[b]?=V.own[b]?){a:AV}{v:Value}(h:aV V a v):AE.below n a=true→aV ⟨own',σ',V.ok,V.w⟩ a v:=by
 have sh':∀b,b<n→(View.mk own' σ' V.ok V.w).sh b=V.sh b:=fun b hb=>by simp[View.sh,hsh b hb]
 induction h with
 |any v=>intro _;exact .any v
 |p h=>intro _;exact .p h
 |aF a=>intro _;exact .aF a
 |sl b n' a c s hs hn h=>
  intro hb;simp only[AE.below,decide_eq_true_eq]at hb;exact .sl b n' a c s (by rw[sh' b hb];exact hs) hn (fun es l h1 h2=>h es l h1 (by rw[←hown b hb];exact h2))
 |ptr b n' i o a s hs hn h=>
  intro hb;simp only[AE.below,decide_eq_true_eq]at hb;exact .ptr b n' i o a s (by rw[sh' b hb];exact hs) hn (fun es l h1 h2=>h es l h1 (by rw[←hown b hb];exact h2))
 |fn f cs vs hl _ ih=>
  intro hb;rw[AE.below,DJ]at hb;exact .fn f cs vs hl fun i q v h1 h2=>ih i q v h1 h2 (hb q (mK h1))
 |yield l r s hs h=>
  intro hb;simp only[AE.below,decide_eq_true_eq]at hb;exact .yield l r s (by rw[sh' l hb];exact hs) (fun h1 x h2=>h h1 x (by rw[←hown l hb];exact h2))
 |agg cs vs hl h1 _ ih=>
  intro hb;rw[AE.below,DJ]at hb;exact .agg cs vs hl h1 fun i q v h1 h2=>ih i q v h1 h2 (hb q (mK h1))
 |jO cs vs hl _ ih=>
  intro hb;rw[AE.below,DJ]at hb;exact .jO cs vs hl fun i q v h1 h2=>ih i q v h1 h2 (hb q (mK h1))
 |map b r s hs h=>
  intro hb;simp only[AE.below,decide_eq_true_eq]at hb;exact .map b r s (by rw[sh' b hb];exact hs) (fun h1 x h2=>h h1 x (by rw[←hown b hb];exact h2))
theorem KW{n:Nat}:∀(τ:List (Nat×AV)) (t:Nat),(τ.all fun x=>below n x.2)=true→below n (lk τ t)=true
 | [],t,_=>by simp[lk,below]
 |(k,v)::r,t,h=>by
  simp only[UA,yE]at h;simp only[lk];split
  ·exact h.1
  ·exact KW r t h.2
theorem cE.drop{V:View}(h:cE p cq V){n:Nat}(hb:(V.σ.take n).all (Obj.below n)=true):cE p cq ⟨V.own.take n,V.σ.take n,V.ok,V.w⟩:=by
 have hsh:∀b,b<n→(V.σ.take n)[b]?=V.σ[b]? := fun b hb=>UL hb
 have hown:∀b,b<n→(V.own.take n)[b]?=V.own[b]? := fun b hb=>UL hb
 have lt:∀{b:Nat} {o:Obj},(V.σ.take n)[b]?=some o→b<n:=fun ho=>by
  have:=(gu.1 ho).1;simp at this;omega
 have hat:∀c r,(View.mk (V.own.take n) (V.σ.take n) V.ok V.w).at c r→V.at c r:=by
  rintro c r ⟨l,o,h1,h2,h3,h4⟩
  have hc:=lt h2;exact⟨l,o,by rw[←hown c hc];exact h1,by rw[←hsh c hc];exact h2,h3,h4⟩
 refine⟨by simp[h.len],?_,fun c c' r hc hc'=>h.one c c' r (hat c r hc) (hat c' r hc'),?_,fun r ⟨c,hc⟩=>h.lt r ⟨c,hat c r hc⟩,h.xe⟩
 ·intro c l o h1 h2
  have hc:=lt h2;have hor:=h.obj c l o (by rw[←hown c hc];exact h1) (by rw[←hsh c hc];exact h2)
  have hbo:o.below n=true:=by
   rw[AS]at hb;exact hb o (mK h2)
  cases o with
  |pv es rows f=>
   refine⟨hor.wide,hor.cap,hor.nil,hor.hole,fun r hr=>?_⟩
   obtain⟨cc,t,h3,h4,h5⟩:=hor.cells r hr;refine⟨cc,t,h3,h4,fun k a ha=>?_⟩
   obtain⟨v,h6,h7,h8⟩:=h5 k a ha;refine⟨v,h6,h7,?_⟩;rw[kj,xF,gE]at ha;obtain⟨q,_,rfl⟩:=ha;exact .p h8.xV
  |av es rows f=>
   refine⟨hor.wide,hor.cap,hor.nil,hor.hole,fun r hr=>?_⟩
   obtain⟨cc,t,h3,h4,h5⟩:=hor.cells r hr;refine⟨cc,t,h3,h4,fun k a ha=>?_⟩
   obtain⟨v,h6,h7,h8⟩:=h5 k a ha;refine⟨v,h6,h7,h8.under hsh hown ?_⟩;simp only[Obj.below,AS]at hbo;obtain⟨x,hx,hax⟩:=List.mem_flatten.1 (mK ha);exact hbo x hx a hax
  |map es f=>
   obtain⟨r,en,clock,hl,hm⟩:=hor;refine⟨r,en,clock,hl,hm.heap,hm.len,hm.key,fun i a b h1 h2=>(hm.val i a b h1 h2).under hsh hown ?_⟩
   simp only[Obj.below,AS]at hbo;exact hbo a (mK h1)
  |loop τ nt ps gP body s=>
   obtain⟨r,L,hl,hm⟩:=hor;refine⟨r,L,hl,hm.heap,hm.state,hm.gP,hm.body,hm.ps,hm.size,hm.small,fun t=>(hm.tmps t).under hsh hown ?_⟩
   exact KW τ t hbo
  |gone=>trivial
 ·intro c r o hc ho hf hk
  exact h.apart c r o (hat c r hc) (by rw[←hsh c (lt ho)];exact ho) hf hk
theorem Step.drop{V V':View}(h:Step V V'){n:Nat}(hn:V.σ.length≤n):Step V ⟨V'.own.take n,V'.σ.take n,V'.ok,V'.w⟩ where
 ext:=by
  refine⟨h.ext.ok,h.ext.keep,fun b s hs=>?_⟩
  obtain⟨s',hs',hle⟩:=h.ext.sh b s hs
  have hb:b<n:=by
   unfold View.sh at hs;rcases UB b V.σ.length with h1|h1
   ·omega
   ·simp[aa3 h1]at hs
  refine⟨s',by simpa[View.sh,UL hb]using hs',?_⟩
  simpa[UL hb]using hle
 size:=h.size
 env:=h.env
 keep:=h.keep
 E5:=h.E5
 xg:=by
  rintro r ⟨c,l,o,h1,h2,h3,h4⟩
  refine h.xg r ⟨c,l,o,?_,?_,h3,h4⟩
  ·have:c<n:=by have:=(gu.1 h1).1;simp at this;omega
   simpa[UL this]using h1
  ·have:c<n:=by have:=(gu.1 h2).1;simp at this;omega
   simpa[UL this]using h2
theorem cE.gc{V:View}(h:cE p cq V)(n:Nat)(vs:List AV):∃own',cE p cq ⟨own',AE.gc n vs V.σ,V.ok,V.w⟩∧(∀a∈vs,∀v,aV V a v→aV ⟨own',AE.gc n vs V.σ,V.ok,V.w⟩ a v) ∧
  (∀V0:View,V0.σ.length≤n→Step V0 V→Step V0 ⟨own',AE.gc n vs V.σ,V.ok,V.w⟩)∧∀r,View.owned ⟨own',AE.gc n vs V.σ,V.ok,V.w⟩ r→V.owned r:=by
 unfold AE.gc;split
 ·exact⟨V.own,h,fun _ _ _ h=>h,fun _ _ h=>h,fun _ h=>h⟩
 ·split
  ·rename_i _ hg
   simp only[yW,yE]at hg;refine⟨V.own.take n,h.drop hg.2,fun a ha v hv=>hv.under (fun b hb=>UL hb) (fun b hb=>UL hb) ?_,fun V0 hn hs=>hs.drop hn,?_⟩
   ·rw[AS]at hg
    exact hg.1 a ha
   ·rintro r ⟨c,l,o,h1,h2,h3,h4⟩
    refine⟨c,l,o,?_,?_,h3,h4⟩
    ·have:c<n:=by have:=(gu.1 h1).1;simp at this;omega
     simpa[UL this]using h1
    ·have:c<n:=by have:=(gu.1 h2).1;simp at this;omega
     simpa[UL this]using h2
  ·exact⟨V.own,h,fun _ _ _ h=>h,fun _ _ h=>h,fun _ h=>h⟩
theorem cE.empty(ok:Nat→Prop)(w:World)(h:∀r,ok r→r<w.heap.size):cE p cq ⟨[],[],ok,w⟩ where
 len:=rfl
 obj:=by simp
 one:=by rintro b b' r ⟨l,o,h1,_⟩;simp at h1
 apart:=by rintro b r o ⟨l,o',h1,_⟩;simp at h1
 lt:=by rintro r ⟨b,l,o,h1,_⟩;simp at h1
 xe:=h
theorem cE.UP{V:View}(h:cE p cq V){ok1 ok2:Nat→Prop}{Vc:View}(hs:Step ⟨[],[],ok1,V.w⟩ Vc)(h1:∀r,V.ok r→ok2 r)(h2:∀r,ok2 r→V.ok r∨V.w.heap.size≤r)(h3:∀r,ok2 r→r<Vc.w.heap.size) :
  cE p cq ⟨V.own,V.σ,ok2,Vc.w⟩∧Step V ⟨V.own,V.σ,ok2,Vc.w⟩:=by
 have hno:∀r,¬(View.mk [] [] ok1 V.w).owned r:=by rintro r ⟨b,l,o,h1,_⟩;simp at h1
 have keep:∀r,r<V.w.heap.size→Vc.w.heap[r]?=V.w.heap[r]? := fun r hr=>hs.keep r hr (hno r)
 have e:Ext V ⟨V.own,V.σ,ok2,Vc.w⟩:=⟨h1,fun b hb=>keep b (h.xe b hb),fun b s hs=>⟨s,hs,s.le_refl rfl⟩⟩
 refine⟨⟨h.len,?_,h.one,?_,?_,h3⟩,e,hs.size,fun r hr _=>keep r hr,fun r hr=>(h2 r hr).imp id .inl,fun r hr=>.inl hr,hs.env⟩
 ·intro b l o hl ho
  cases hlive:o.live with
  |false=>cases o<;>first|trivial|(simp[Obj.live]at hlive)
  |true=>exact zC.mono e (fun r hr=>keep r (h.lt r ⟨b,l,o,hl,ho,hlive,hr⟩)) (h.obj b l o hl ho)
 ·intro b r o hb ho hf hk
  rcases h2 r hk with hx|hx
  ·exact h.apart b r o hb ho hf hx
  ·have:=h.lt r ⟨b,hb⟩;omega
 ·rintro r hr
  exact Q7 (h.lt r hr) hs.size
end Go.AE
