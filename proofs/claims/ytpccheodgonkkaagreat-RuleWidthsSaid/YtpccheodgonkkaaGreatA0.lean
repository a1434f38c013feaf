import GoSem.Claims
import Derived.Laws.World
import Derived.Laws.Rows
import Derived.Laws.Tables
import Derived.Laws.Append
import Derived.Laws.Cells
set_option linter.unusedSimpArgs false
set_option linter.unusedVariables false
namespace Go.AE
theorem aO:type_of% @List.length_map:=@List.length_map
theorem bI:type_of% @Option.some.injEq:=@Option.some.injEq
theorem dB:type_of% @Classical.propComplete:=@Classical.propComplete
theorem fU:type_of% @List.getElem?_eq_some_iff:=@List.getElem?_eq_some_iff
theorem fV:type_of% @Option.bind_eq_some_iff:=@Option.bind_eq_some_iff
theorem gI:type_of% @Option.map_eq_some_iff:=@Option.map_eq_some_iff
theorem oq:type_of% @List.getElem?_eq_getElem:=@List.getElem?_eq_getElem
theorem jE:type_of% @List.length_append:=@List.length_append
theorem mi:type_of% @List.mem_of_getElem?:=@List.mem_of_getElem?
theorem kS:type_of% @Bool.false_eq_true:=@Bool.false_eq_true
theorem lH:type_of% @List.length_cons:=@List.length_cons
theorem l5:type_of% @List.length_nil:=@List.length_nil
theorem AN:type_of% @List.getElem?_append_left:=@List.getElem?_append_left
theorem kY:type_of% @Int.lt_irrefl:=@Int.lt_irrefl
theorem ud:type_of% @Bool.and_eq_true:=@Bool.and_eq_true
theorem Fo:type_of% @List.getElem?_append_right:=@List.getElem?_append_right
theorem pn:type_of% @List.mem_cons:=@List.mem_cons
theorem qX:type_of% @Prod.mk.injEq:=@Prod.mk.injEq
theorem xu:type_of% @Option.map_some:=@Option.map_some
theorem zA:type_of% @List.getElem?_map:=@List.getElem?_map
theorem sP:type_of% @List.map_cons:=@List.map_cons
theorem x9:type_of% @List.nil_append:=@List.nil_append
theorem zy:type_of% @Option.bind_some:=@Option.bind_some
theorem Jq:type_of% @List.length_eq_zero_iff:=@List.length_eq_zero_iff
theorem tn:type_of% @Nat.zero_add:=@Nat.zero_add
theorem rm:type_of% @Nat.le_refl:=@Nat.le_refl
theorem Ca:type_of% @List.all_eq_true:=@List.all_eq_true
theorem BY:type_of% @List.map_append:=@List.map_append
theorem BZ:type_of% @List.mem_append:=@List.mem_append
theorem Jo:type_of% @List.mem_append_left:=@List.mem_append_left
theorem Gg:type_of% @List.mem_singleton:=@List.mem_singleton
theorem QS:type_of% @List.getElem?_cons_zero:=@List.getElem?_cons_zero
theorem FD:type_of% @List.cons_append:=@List.cons_append
theorem MK:type_of% @Nat.mul_le_mul_right:=@Nat.mul_le_mul_right
theorem VJ:type_of% @Array.getElem?_eq_some_iff:=@Array.getElem?_eq_some_iff
theorem Dr:type_of% @Bool.false_and:=@Bool.false_and
theorem LQ:type_of% @List.pairwise_cons:=@List.pairwise_cons
theorem Na:type_of% @Option.bind_eq_bind:=@Option.bind_eq_bind
theorem Jp:type_of% @List.mem_flatMap:=@List.mem_flatMap
theorem ZF:type_of% @Array.getD_eq_getD_getElem?:=@Array.getD_eq_getD_getElem?
theorem Cb:type_of% @List.map_nil:=@List.map_nil
theorem VK:type_of% @List.getElem?_take_of_lt:=@List.getElem?_take_of_lt
theorem Nb:type_of% @Bool.true_eq_false:=@Bool.true_eq_false
theorem ML:type_of% @List.any_eq_false:=@List.any_eq_false
theorem Tz:type_of% @List.getElem?_set_ne:=@List.getElem?_set_ne
theorem E0:type_of% @List.mem_map:=@List.mem_map
theorem aaU:type_of% @List.getD_eq_getElem?_getD:=@List.getD_eq_getElem?_getD
theorem G1:type_of% @Bool.false_or:=@Bool.false_or
theorem TA:type_of% @List.append_assoc:=@List.append_assoc
theorem VF:type_of% @List.flatMap_cons:=@List.flatMap_cons
theorem aaY:type_of% @List.getElem?_set_self:=@List.getElem?_set_self
theorem QN:type_of% @Bool.or_eq_true:=@Bool.or_eq_true
theorem QL:type_of% @List.foldl_cons:=@List.foldl_cons
theorem VI:type_of% @Nat.lt_of_lt_of_le:=@Nat.lt_of_lt_of_le
theorem VD:type_of% @Classical.not_not:=@Classical.not_not
theorem aa3:type_of% @List.mem_append_right:=@List.mem_append_right
theorem Zv:type_of% @List.getElem?_take:=@List.getElem?_take
theorem aa5:type_of% @List.getElem?_of_mem:=@List.getElem?_of_mem
theorem VE:type_of% @Option.getD_some:=@Option.getD_some
theorem aa7:type_of% @Nat.pow_le_pow_right:=@Nat.pow_le_pow_right
theorem QM:type_of% @Bool.and_self:=@Bool.and_self
theorem aa9:type_of% @List.getElem?_cons_succ:=@List.getElem?_cons_succ
theorem aba:type_of% @List.getElem?_eq_none:=@List.getElem?_eq_none
theorem R6:type_of% @List.all_cons:=@List.all_cons
theorem abc:type_of% @List.set_cons_zero:=@List.set_cons_zero
theorem Zx:type_of% @List.getElem_mem:=@List.getElem_mem
theorem Zy:type_of% @List.append_nil:=@List.append_nil
theorem abf:type_of% @List.pairwise_iff_getElem:=@List.pairwise_iff_getElem
theorem abg:type_of% @Nat.lt_of_le_of_lt:=@Nat.lt_of_le_of_lt
theorem Nc:type_of% @Nat.pow_pos:=@Nat.pow_pos
theorem abi:type_of% @Bool.not_eq_true':=@Bool.not_eq_true'
theorem VG:type_of% @Bool.true_and:=@Bool.true_and
theorem abk:type_of% @List.getElem?_drop:=@List.getElem?_drop
theorem abm:type_of% @List.drop_eq_getElem_cons:=@List.drop_eq_getElem_cons
theorem abn:type_of% @List.mem_zipIdx_iff_getElem?:=@List.mem_zipIdx_iff_getElem?
theorem TB:type_of% @Bool.true_or:=@Bool.true_or
theorem abp:type_of% @List.mem_cons_of_mem:=@List.mem_cons_of_mem
theorem abq:type_of% @List.flatten_cons:=@List.flatten_cons
theorem abr:type_of% @Array.getElem?_eq_getElem:=@Array.getElem?_eq_getElem
theorem abt:type_of% @Bool.and_false:=@Bool.and_false
theorem QO:type_of% @Nat.mod_lt:=@Nat.mod_lt
theorem abv:type_of% @Bool.or_eq_false_iff:=@Bool.or_eq_false_iff
theorem VN:type_of% @Nat.lt_or_ge:=@Nat.lt_or_ge
theorem ZH:type_of% @List.any_cons:=@List.any_cons
theorem ZI:type_of% @Sum.inl.injEq:=@Sum.inl.injEq
theorem abz:type_of% @Array.getElem?_modify:=@Array.getElem?_modify
theorem abA:type_of% @List.getElem?_range:=@List.getElem?_range
theorem abB:type_of% @List.any_eq_true:=@List.any_eq_true
theorem abC:type_of% @List.length_take:=@List.length_take
theorem ZG:type_of% @Nat.le_trans:=@Nat.le_trans
theorem abE:type_of% @Bool.eq_iff_iff:=@Bool.eq_iff_iff
theorem abF:type_of% @List.mem_range:=@List.mem_range
theorem Zw:type_of% @Nat.zero_le:=@Nat.zero_le
theorem abH:type_of% @Bool.eq_false_iff:=@Bool.eq_false_iff
theorem abI:type_of% @List.filterMap_append:=@List.filterMap_append
theorem abJ:type_of% @Nat.succ_mul:=@Nat.succ_mul
theorem abK:type_of% @Option.some.inj:=@Option.some.inj
theorem abL:type_of% @List.mem_of_mem_drop:=@List.mem_of_mem_drop
theorem abM:type_of% @Nat.sub_self:=@Nat.sub_self
theorem abN:type_of% @Classical.byContradiction:=@Classical.byContradiction
theorem abO:type_of% @List.exists_mem_of_ne_nil:=@List.exists_mem_of_ne_nil
theorem abP:type_of% @Array.toList_map:=@Array.toList_map
theorem abQ:type_of% @List.mem_of_mem_take:=@List.mem_of_mem_take
theorem abR:type_of% @Bool.and_true:=@Bool.and_true
theorem abS:type_of% @List.all_nil:=@List.all_nil
theorem abT:type_of% @List.foldl_append:=@List.foldl_append
theorem abU:type_of% @List.length_range:=@List.length_range
theorem abV:type_of% @Array.length_toList:=@Array.length_toList
theorem abW:type_of% @List.filterMap_cons:=@List.filterMap_cons
theorem abX:type_of% @List.take_succ_cons:=@List.take_succ_cons
theorem abY:type_of% @Nat.div_le_self:=@Nat.div_le_self
theorem abZ:type_of% @List.drop_of_length_le:=@List.drop_of_length_le
theorem ab0:type_of% @List.not_mem_nil:=@List.not_mem_nil
theorem ab1:type_of% @Bool.not_true:=@Bool.not_true
theorem ab2:type_of% @List.length_singleton:=@List.length_singleton
theorem ab3:type_of% @List.map_map:=@List.map_map
theorem ab4:type_of% @Bool.not_false:=@Bool.not_false
theorem ab5:type_of% @List.length_pos_iff:=@List.length_pos_iff
theorem ab6:type_of% @List.map_congr_left:=@List.map_congr_left
theorem ab7:type_of% @List.filter_cons:=@List.filter_cons
theorem ab8:type_of% @List.length_drop:=@List.length_drop
theorem ab9:type_of% @List.range'_succ:=@List.range'_succ
theorem aca:type_of% @Option.isSome_none:=@Option.isSome_none
theorem acb:type_of% @Bool.or_true:=@Bool.or_true
theorem acd:type_of% @List.getElem?_toArray:=@List.getElem?_toArray
theorem ace:type_of% @List.length_replicate:=@List.length_replicate
theorem acf:type_of% @Nat.add_mul:=@Nat.add_mul
theorem acg:type_of% @Nat.add_zero:=@Nat.add_zero
theorem ach:type_of% @Nat.div_lt_iff_lt_mul:=@Nat.div_lt_iff_lt_mul
theorem aci:type_of% @UInt8.not_lt:=@UInt8.not_lt
theorem acj:type_of% @Function.comp_def:=@Function.comp_def
theorem ack:type_of% @Int.toNat_natCast:=@Int.toNat_natCast
theorem acm:type_of% @Nat.mod_eq_of_lt:=@Nat.mod_eq_of_lt
theorem acn:type_of% @Int.natCast_mul:=@Int.natCast_mul
theorem aco:type_of% @List.cons.injEq:=@List.cons.injEq
theorem acp:type_of% @List.map_take:=@List.map_take
theorem acq:type_of% @Nat.add_assoc:=@Nat.add_assoc
theorem acr:type_of% @Option.map_none:=@Option.map_none
inductive PV where
 |int (k:IntKind) (n:Int)
 |bool (b:Bool)
 |str (s:ByteArray)
 |agg (cs:List PV)
 |jC (vs:List PV)
 |aM (rows:List (List PV))
 |ptr (row:List PV) (o:Nat)
 |xF
 |fn (f:FuncId) (cap:List PV)
 |zc
 |H8
 |pmap (es:List (PV×PV))
 deriving Inhabited
inductive AV where
 |any
 |p (v:PV)
 |aC
 |sl (b n:Nat)
 |ptr (b n i o:Nat)
 |fn (f:FuncId) (cap:List AV)
 |yield (l:Nat)
 |agg (cs:List AV)
 |jC (vs:List AV)
 |map (b:Nat)
 deriving Inhabited
inductive mX where
 |int|str|bool
 deriving DecidableEq,Inhabited
inductive O where
 |t (n:Nat)
 |c (v:AV)
 deriving Inhabited
inductive mI where
 |mv (x:O) (eager:Bool)
 |pick (c a b:O)
 |alloc (zero:List AV) (es:Nat)
 |init (size:Nat) (agg:Bool) (x:O) (ro:Bool)
 |box (size:Nat) (agg:Bool) (x:O) (ro:Bool)
 |build (zero:List AV) (parts:List (Nat×Nat×O))
 |dC (es:Nat) (zero:List AV) (len:Nat) (parts:List (Nat×Nat×O))
 |iU (es:Nat) (zero:List AV) (len:Nat) (parts:List (Nat×Nat×O))
 |load (size:Nat) (agg:Bool) (x:O)
 |store (size:Nat) (a v:O)
 |arith (op:BinOp) (x y:O)
 |eqB (neg:Bool) (x y:O)
 |eqA (neg:Bool) (lv:List mX) (x y:O)
 |not (x:O)
 |neg (x:O)
 |Kt (x:O)
 |conv (k:IntKind) (x:O)
 |NW (x:O)
 |b2s (x:O)
 |bP (off:Nat) (x:O)
 |fld (off size:Nat) (agg:Bool) (x:O)
 |OC (len es:Nat) (x i:O)
 |au (es:Nat) (x i:O)
 |ade (len es:Nat) (agg:Bool) (x i:O)
 |JP (x i:O)
 |MH (es:Nat) (x:O) (lo hi mx:Option O)
 |aet (x:O) (lo hi:Option O)
 |ahX (len es:Nat) (x:O) (lo hi mx:Option O)
 |lookup (kl:mX) (zero:AV) (x k:O) (ok:Bool)
 |UO (kl:mX) (x k v:O)
 |DV
 |wB (es:Nat) (bytes:Nat) (zero:List AV) (len cap:O)
 |extract (x:O) (k:Nat)
 |dV (f:FuncId) (args:List O)
 |FF (f:FuncId) (args:List O)
 |qT (x:O) (args:List O)
 |bJ (x:O)
 |JY (x:O)
 |AX (x:O)
 |adl (n:Nat)
 |append (es bytes:Nat) (x y:O)
 |copy (es:Nat) (x y:O)
 |sv (mx:Bool) (args:List O)
 |zD (f:FuncId) (caps:List O)
 |GA (x:O)
 |frz (x:O)
 |KD (neg:Bool) (x:O)
 |bad (why:String)
 deriving Inhabited
structure fQ where
 dst:Option Nat
 op:mI
 guard:Option (Nat×Bool)
 deriving Inhabited
inductive K where
 |skip
 |cu (draw:Bool) (ops:List fQ)
 |Fy (ops:List fQ) (prs:List (Nat×Nat))
 |seq (a b:K)
 |cond (c:O) (a b:K)
 |block (id:Nat) (b:K)
 |loop (lv:List Nat) (b:K)
 |range (g:O) (ps lv:List Nat) (hJ b:K)
 |exit (id:Nat)
 |ret
 |bad (why:String)
 deriving Inhabited
inductive RV where
 |tmp (t:Nat)
 |cell (t size:Nat) (agg:Bool)
 deriving Inhabited
structure cL where
 ntmps:Nat
 results:List RV
 body:K
 imp:Bool
 deriving Inhabited
inductive Ex where
 |normal
 |exit (id:Nat)
 |ret
 deriving Inhabited,DecidableEq
@[ext] structure Tm where
  get:Nat→AV
instance:Inhabited Tm:=⟨⟨fun _=>.any⟩⟩
def lk:List (Nat×AV)→Nat→AV
 | [],_=>.any
 |(k,v)::r,t=>if k=t then v else lk r t
def tm(l:List (Nat×AV)):Tm:=⟨lk l⟩
def dX(τ:Tm)(d:Nat)(v:AV):Tm:=⟨fun t=>if d=t then v else τ.get t⟩
inductive Obj where
 |pv (es:Nat) (rows:List (List PV)) (fr:Bool)
 |av (es:Nat) (rows:List (List AV)) (fr:Bool)
 |map (es:List (PV×AV)) (fr:Bool)
 |loop (τ:List (Nat×AV)) (nt:Nat) (ps:List Nat) (hJ body:K) (state:Option Ex)
 |gone
 deriving Inhabited
abbrev ag:=List Obj
structure St where
 τ:Tm
 σ:ag
 nt:Nat
 rd:Option Nat:=none
 deriving Inhabited
def Tm.kept(τ:Tm)(lv:List Nat):List (Nat×AV):=lv.map fun t=>(t,τ.get t)
def Tm.keep(τ:Tm)(lv:List Nat):Tm:=tm (τ.kept lv)
def O.val(τ:Tm):O→AV
 |.t n=>τ.get n
 |.c v=>v
def omap{α β:Type}(f:α→Option β):List α→Option (List β)
 | []=>some []
 |a::r=>match f a with
  |some b=>match omap f r with
   |some bs=>some (b::bs)
   |none=>none
  |none=>none
def ae:List AV→Option (List PV)
 | []=>some []
 |.p v::r=>(ae r).map (v::·)
 |_::_=>none
def y9(cs:List AV):AV :=
 match ae cs with
 |some ps=>.p (.agg ps)
 |none=>.agg cs
def za(cs:List AV):AV :=
 match ae cs with
 |some ps=>.p (.jC ps)
 |none=>.jC cs
def Fw(f:FuncId)(cs:List AV):AV :=
 match ae cs with
 |some ps=>.p (.fn f ps)
 |none=>.fn f cs
def cellsOf(size:Nat)(agg:Bool)(v:AV):Option (List AV) :=
 if agg then
  match v with
  |.p (.agg ps)=>if ps.length=size then some (ps.map .p)else none
  |.agg cs=>if cs.length=size then some cs else none
  |_=>none
 else
  match v with
  |.any|.agg _|.jC _|.p (.agg _)|.p (.jC _)=>none
  |v=>some [v]
def mJ(agg:Bool)(cs:List AV):Option AV :=
 if agg then some (y9 cs)else
 match cs with
 | [v]=>some v
 |_=>none
def oG(agg:Bool)(cs:List PV):Option PV :=
 if agg then some (.agg cs)else
 match cs with
 | [v]=>some v
 |_=>none
def mkObj(es:Nat)(row:List AV):Obj :=
 match ae row with
 |some ps=>.pv es [ps] false
 |none=>.av es [row] false
def Obj.len:Obj→Option Nat
 |.pv _ rows _=>some rows.length
 |.av _ rows _=>some rows.length
 |_=>none
def aeu(σ:ag)(b:Nat):Option Nat:=σ[b]?.bind Obj.len
def Obj.Re:Obj→Option (Nat×Nat)
 |.pv es rows _=>some (es,rows.length)
 |.av es rows _=>some (es,rows.length)
 |_=>none
def RW(σ:ag)(b:Nat):Option (Nat×Nat):=σ[b]?.bind Obj.Re
def part{α:Type}(off size:Nat)(row:List α):Option (List α):=if off+size≤row.length then some ((row.drop off).take size)else none
def ck{α:Type}(off:Nat)(new row:List α):Option (List α):=if off+new.length≤row.length then some (row.take off++new++row.drop (off+new.length))else none
def aW:List AV→ag→List AV×ag
 | [],σ=>([],σ)
 |.aC::r,σ=>let (r',σ'):=aW r (σ++[.pv 0 [] false]);(.sl σ.length 0::r',σ')
 |v::r,σ=>let (r',σ'):=aW r σ;(v::r',σ')
def aG(σ:ag):Nat→AV→Option PV
 |0,_=>none
 |k+1,v=>
  match v with
  |.p v=>some v
  |.aC=>some (.aM [])
  |.sl b n=>match σ[b]? with
   |some (.pv _ rows _)=>if rows.length=n then some (.aM rows)else none
   |some (.av _ rows _)=>if rows.length=n then(omap (omap (aG σ k)) rows).map .aM else none
   |_=>none
  |.ptr b n i o=>match σ[b]? with
   |some (.pv _ rows _)=>if rows.length=n then rows[i]?.map (.ptr · o)else none
   |some (.av _ rows _)=>if rows.length=n then rows[i]?.bind fun r=>(omap (aG σ k) r).map (.ptr · o)else none
   |_=>none
  |.fn f cap=>(omap (aG σ k) cap).map (.fn f)
  |.agg cs=>(omap (aG σ k) cs).map .agg
  |.jC cs=>(omap (aG σ k) cs).map .jC
  |.map b=>match σ[b]? with
   |some (.map es _)=>(omap (fun e:PV×AV=>(aG σ k e.2).map fun r=>(e.1,r)) es).map .pmap
   |_=>none
  |_=>none
def depth:Nat:=12
def PV.flat:PV→Bool
 |.int .. |.bool _|.str _|.xF|.zc|.H8=>true
 |.agg cs=>cs.attach.all fun⟨c,_⟩=>PV.flat c
 |.jC cs=>cs.attach.all fun⟨c,_⟩=>PV.flat c
 |.aM rows=>rows.isEmpty
 |_=>false
def refs(σ:ag):Nat→AV→List Nat
 |0,_=>[]
 |k+1,v=>
  match v with
  |.sl b _=>b::(match σ[b]? with|some (.av _ rows _)=>rows.flatMap fun r=>r.flatMap (refs σ k)|_=>[])
  |.ptr b _ i _=>b::(match σ[b]? with|some (.av _ rows _)=>(rows[i]?.getD []).flatMap (refs σ k)|_=>[])
  |.map b=>b::(match σ[b]? with|some (.map es _)=>es.flatMap fun e=>refs σ k e.2|_=>[])
  |.fn _ cap=>cap.flatMap (refs σ k)
  |.agg cs|.jC cs=>cs.flatMap (refs σ k)
  |_=>[]
def dK(σ:ag)(b:Nat):ag :=
 match σ[b]? with
 |some (.pv es rows _)=>σ.set b (.pv es rows true)
 |some (.av es rows _)=>σ.set b (.av es rows true)
 |some (.map es _)=>σ.set b (.map es true)
 |_=>σ
def bL(σ:ag):List Nat→ag
 | []=>σ
 |b::r=>bL (dK σ b) r
def below(n:Nat):AV→Bool
 |.sl b _|.ptr b _ _ _|.map b|.yield b=>b<n
 |.fn _ cap=>cap.attach.all fun⟨c,_⟩=>below n c
 |.agg cs=>cs.attach.all fun⟨c,_⟩=>below n c
 |.jC cs=>cs.attach.all fun⟨c,_⟩=>below n c
 |_=>true
def Obj.below(n:Nat):Obj→Bool
 |.av _ rows _=>rows.all fun r=>r.all (AE.below n)
 |.map es _=>es.all fun e=>AE.below n e.2
 |.loop τ _ _ _ _ _=>τ.all fun x=>AE.below n x.2
 |_=>true
def Cm(n:Nat)(vs:List AV)(σ:ag):Bool:=vs.all (below n) && (σ.take n).all (Obj.below n)
def gc(n:Nat)(vs:List AV)(σ:ag):ag:=if σ.length≤n then σ else if Cm n vs σ then σ.take n else σ
def s9(op:BinOp)(k:IntKind)(a b:Int):Option PV :=
 match op with
 |.add=>some (.int k (k.wrap (a+b)))
 |.sub=>some (.int k (k.wrap (a-b)))
 |.mul=>some (.int k (k.wrap (a*b)))
 |.quo=>if b=0 then none else some (.int k (k.wrap (a.tdiv b)))
 |.rem=>if b=0 then none else some (.int k (a.tmod b))
 |.and=>some (.int k (k.wrap (BitVec.ofInt k.bits a &&& BitVec.ofInt k.bits b).toNat))
 |.or=>some (.int k (k.wrap (BitVec.ofInt k.bits a |||BitVec.ofInt k.bits b).toNat))
 |.xor=>some (.int k (k.wrap (BitVec.ofInt k.bits a ^^^ BitVec.ofInt k.bits b).toNat))
 |.andNot=>some (.int k (k.wrap (BitVec.ofInt k.bits a &&& ~~~ BitVec.ofInt k.bits b).toNat))
 |.eql=>some (.bool (a == b))
 |.neq=>some (.bool (a != b))
 |.lss=>some (.bool (decide (a<b)))
 |.leq=>some (.bool (decide (a≤b)))
 |.gtr=>some (.bool (decide (a > b)))
 |.geq=>some (.bool (decide (a ≥ b)))
 |_=>none
def Ja(op:BinOp)(k:IntKind)(a b:Int):Option PV :=
 if b<0 then none else
 match op with
 |.shl=>some (.int k (k.wrap (a*2^(min b.toNat k.bits))))
 |.shr=>some (.int k (a.fdiv (2^(min b.toNat k.bits))))
 |_=>none
def Ze(op:BinOp)(a b:ByteArray):Option PV :=
 match op with
 |.add=>if((a.size+b.size:Nat):Int) > IntKind.i64.max then none else some (.str (a++b))
 |.eql=>some (.bool (a.toList == b.toList))
 |.neq=>some (.bool !(a.toList == b.toList))
 |.lss=>some (.bool (Op.bytesLess a.toList b.toList))
 |.leq=>some (.bool (Op.bytesLess a.toList b.toList ||a.toList == b.toList))
 |.gtr=>some (.bool !(Op.bytesLess a.toList b.toList ||a.toList == b.toList))
 |.geq=>some (.bool !(Op.bytesLess a.toList b.toList))
 |_=>none
def oX:mX→PV→PV→Option Bool
 |.int,.int k a,.int k' b=>if k=k' then some (a == b)else none
 |.str,.str a,.str b=>some (a.toList == b.toList)
 |.bool,.bool a,.bool b=>some (a == b)
 |_,_,_=>none
def dD:List mX→List PV→List PV→Option Bool
 | [],[],[]=>some true
 |l::ls,a::r,b::s=>(oX l a b).bind fun t=>(dD ls r s).map (t && ·)
 |_,_,_=>none
def binop(op:BinOp)(x y:PV):Option PV :=
 match x,y with
 |.int k a,.int k' b=>
  match op with
  |.shl|.shr=>Ja op k a b
  |_=>if k=k' then s9 op k a b else none
 |.str a,.str b=>Ze op a b
 |_,_=>none
def Ti(σ:ag):AV→Option (List (List PV))
 |.p (.aM rows)=>some rows
 |.aC=>some []
 |.sl b n=>match σ[b]? with
  |some (.pv _ rows _)=>if rows.length=n then some rows else none
  |_=>none
 |_=>none
def bJ(σ:ag):AV→Option Nat
 |.p (.aM rows)=>some rows.length
 |.aC=>some 0
 |.sl b n=>if aeu σ b=some n then some n else none
 |_=>none
def AX(σ:ag):AV→Option Nat
 |.p .H8=>some 0
 |.p (.pmap es)=>some es.length
 |.map b=>match σ[b]? with
  |some (.map es _)=>some es.length
  |_=>none
 |_=>none
def nc:AV→Option Nat
 |.p (.int _ n)=>if 0≤n then some n.toNat else none
 |_=>none
def vn:AV→Option Bool
 |.p (.bool b)=>some b
 |_=>none
def gU(σ:ag)(size:Nat)(agg:Bool):AV→Option AV
 |.p (.ptr row o)=>((part o size row).bind (oG agg)).map .p
 |.ptr b n i o=>match σ[b]? with
  |some (.pv _ rows _)=>if rows.length=n then((rows[i]?.bind (part o size)).bind (oG agg)).map .p else none
  |some (.av _ rows _)=>if rows.length=n then(rows[i]?.bind (part o size)).bind (mJ agg)else none
  |_=>none
 |_=>none
def setRow(σ:ag)(b n i o:Nat)(new:List AV):Option ag :=
 match σ[b]? with
 |some (.pv es rows false)=>if rows.length=n then
   (rows[i]?.bind fun r=>
    match ae new with
    |some ps=>(ck o ps r).map fun r'=>σ.set b (.pv es (rows.set i r') false)
    |none=>(ck o new (r.map .p)).map fun r'=>σ.set b (.av es ((rows.map fun r=>r.map .p).set i r') false))else none
 |some (.av es rows false)=>if rows.length=n then
   (rows[i]?.bind fun r=>(ck o new r).map fun r'=>
    σ.set b (match(rows.set i r')with
     | [r'']=>match ae r'' with
      |some ps=>.pv es [ps] false
      |none=>.av es [r''] false
     |rows'=>.av es rows' false))else none
 |_=>none
def eM(σ:ag)(size:Nat)(a v:AV):Option ag :=
 match a with
 |.ptr b n i o=>
  match cellsOf size (match v with|.agg _|.p (.agg _)=>true|_=>false) v with
  |some cs=>if cs.length=size then(let (cs',σ'):=aW cs σ;setRow σ' b n i o cs')else none
  |none=>none
 |_=>none
def gz(cells:List AV):List (Nat×Nat×AV)→Option (List AV)
 | []=>some cells
 |(off,size,v)::r=>
  match cellsOf size (match v with|.agg _|.p (.agg _)=>true|_=>false) v with
  |some cs=>if cs.length=size then(ck off cs cells).bind fun c=>gz c r else none
  |none=>none
def chunk{α:Type}(es:Nat):Nat→List α→List (List α)
 |0,_=>[]
 |n+1,l=>l.take es::chunk es n (l.drop es)
def yT:List (List AV)→Option (List (List PV))
 | []=>some []
 |r::rs=>(ae r).bind fun p=>(yT rs).map (p::·)
def DU(es:Nat)(rows:List (List AV)):Obj :=
 match yT rows with
 |some ps=>.pv es ps false
 |none=>.av es rows false
abbrev Src:=List (List PV) ⊕ List (List AV)
def Src.count:Src→Nat
 |.inl ps=>ps.length
 |.inr vs=>vs.length
def wide(es:Nat)(rows:List (List PV)):Bool:=rows.all fun r=>r.length == es
def nn(σ:ag)(es:Nat):AV→Option Src
 |.p (.aM rows)=>if wide es rows then some (.inl rows)else none
 |.aC=>some (.inl [])
 |.p (.str s)=>if es=1 then some (.inl (s.data.toList.map fun b=>[.int .u8 b.toNat]))else none
 |.sl b n=>match σ[b]? with
  |some (.pv e rows _)=>if rows.length=n∧(e=es∨rows.isEmpty=true)then some (.inl rows)else none
  |some (.av e rows _)=>if rows.length=n∧e=es then some (.inr rows)else none
  |_=>none
 |_=>none
def MR(es:Nat)(o:Obj)(new:Src):Option Obj :=
 match o,new with
 |.pv e rows false,.inl ps=>if e=es∨(e=0∧rows.isEmpty=true)then some (.pv es (rows++ps) false)else none
 |.pv e rows false,.inr vs=>if e=es∨(e=0∧rows.isEmpty=true)then some (.av es ((rows.map fun r=>r.map .p)++vs) false)else none
 |.av e rows false,.inl ps=>if e=es then some (.av es (rows++ps.map fun r=>r.map .p) false)else none
 |.av e rows false,.inr vs=>if e=es then some (.av es (rows++vs) false)else none
 |_,_=>none
def Cd(σ:ag)(es bytes:Nat)(x:AV)(new:Src):Option (AV×ag) :=
 match x with
 |.aC=>if new.count*bytes≤140737488355328 then some (.sl σ.length new.count,σ++[match new with|.inl ps=>.pv es ps false|.inr vs=>.av es vs false])else none
 |.sl b n=>match σ[b]? with
  |some o=>if o.len=some n∧(n+new.count)*bytes≤140737488355328 then(MR es o new).map fun o'=>(.sl b (n+new.count),σ.set b o')else none
  |none=>none
 |_=>none
def findKey{α:Type}(kl:mX)(k:PV):List (PV×α)→Option (Option α)
 | []=>some none
 |e::r=>match oX kl k e.1 with
  |some true=>some (some e.2)
  |some false=>findKey kl k r
  |none=>none
def uK{α:Type}(kl:mX)(k:PV)(v:α):List (PV×α)→Option (List (PV×α))
 | []=>some [(k,v)]
 |e::r=>match oX kl k e.1 with
  |some true=>some ((k,v)::r)
  |some false=>(uK kl k v r).map (e::·)
  |none=>none
def su:mX→PV→Bool
 |.int,.int .. |.str,.str _|.bool,.bool _=>true
 |_,_=>false
def lI(d:Nat):Option AV→Option Nat
 |none=>some d
 |some v=>nc v
def bounds(len cap:Nat)(lo hi mx:Option AV):Option (Nat×Nat×Nat) :=
 (lI cap mx).bind fun m=>(if mx.isSome && hi.isNone then none else lI len hi).bind fun h=>(lI 0 lo).bind fun l=>
  if m≤cap∧h≤m∧l≤h then some (l,h,m)else none
def afv(mx:Bool):PV→PV→Option PV
 |.int k a,.int _ b=>some (.int k (if mx then max a b else min a b))
 |_,_=>none
def E8(mx:Bool)(x:PV):List AV→Option PV
 | []=>some x
 |.p y::r=>(afv mx x y).bind fun z=>E8 mx z r
 |_=>none
def quiet(σ:ag)(τ:Tm):mI→Option AV
 |.pick c a b=>(vn (c.val τ)).map fun t=>if t then a.val τ else b.val τ
 |.build zero parts=>(gz zero (parts.map fun x=>(x.1,x.2.1,x.2.2.val τ))).map y9
 |.load size agg x=>gU σ size agg (x.val τ)
 |.arith op x y=>match x.val τ,y.val τ with
  |.p a,.p b=>(binop op a b).map .p
  |_,_=>none
 |.eqB neg x y=>(vn (x.val τ)).bind fun a=>(vn (y.val τ)).map fun b=>.p (.bool (if neg then !(a == b)else a == b))
 |.eqA neg lv x y=>match x.val τ,y.val τ with
  |.p (.agg a),.p (.agg b)=>(dD lv a b).map fun t=>.p (.bool (if neg then !t else t))
  |_,_=>none
 |.not x=>(vn (x.val τ)).map fun t=>.p (.bool !t)
 |.neg x=>match x.val τ with
  |.p (.int k n)=>some (.p (.int k (k.wrap (0-n))))
  |_=>none
 |.Kt x=>match x.val τ with
  |.p (.int k n)=>(s9 .xor k (if k.signed then -1 else k.max) n).map .p
  |_=>none
 |.conv k x=>match x.val τ with
  |.p (.int _ n)=>some (.p (.int k (k.wrap n)))
  |_=>none
 |.NW x=>match x.val τ with
  |.p (.str s)=>some (.p (.str s))
  |_=>none
 |.bP off x=>match x.val τ with
  |.p (.ptr row o)=>some (.p (.ptr row (o+off)))
  |.ptr b n i o=>some (.ptr b n i (o+off))
  |_=>none
 |.fld off size agg x=>match x.val τ with
  |.p (.agg cs)=>((part off size cs).bind (oG agg)).map .p
  |.agg cs=>(part off size cs).bind (mJ agg)
  |_=>none
 |.OC len es x i=>(nc (i.val τ)).bind fun n=>
  if n<len then match x.val τ with
   |.p (.ptr row o)=>some (.p (.ptr row (o+n*es)))
   |.ptr b m i o=>some (.ptr b m i (o+n*es))
   |_=>none
  else none
 |.au es x i=>(nc (i.val τ)).bind fun n=>
  match x.val τ with
  |.p (.aM rows)=>rows[n]?.bind fun r=>if r.length=es then some (.p (.ptr r 0))else none
  |.sl b m=>if n<m∧RW σ b=some (es,m)then some (.ptr b m n 0)else none
  |_=>none
 |.ade len es agg x i=>(nc (i.val τ)).bind fun n=>
  if n<len then match x.val τ with
   |.p (.agg cs)=>((part (n*es) es cs).bind (oG agg)).map .p
   |.agg cs=>(part (n*es) es cs).bind (mJ agg)
   |_=>none
  else none
 |.JP x i=>(nc (i.val τ)).bind fun n=>
  match x.val τ with
  |.p (.str s)=>s[n]?.map fun b=>.p (.int .u8 b.toNat)
  |_=>none
 |.MH es x lo hi mx=>
  match x.val τ with
  |.p (.aM rows)=>
   if wide es rows then
    (bounds rows.length rows.length (lo.map (O.val τ)) (hi.map (O.val τ)) (mx.map (O.val τ))).bind fun b=>
     if mx.isNone then some (.p (.aM ((rows.take b.2.1).drop b.1)))else if b.2.2=0 then some .aC else none
   else none
  |.aC=>(bounds 0 0 (lo.map (O.val τ)) (hi.map (O.val τ)) (mx.map (O.val τ))).map fun _=>.aC
  |_=>none
 |.aet x lo hi=>match x.val τ with
  |.p (.str s)=>(bounds s.size s.size (lo.map (O.val τ)) (hi.map (O.val τ)) none).map fun b=>.p (.str (s.extract b.1 b.2.1))
  |_=>none
 |.lookup kl zero x k ok=>match k.val τ with
  |.p k=>
   if su kl k then
    (match x.val τ with
     |.p .H8=>some none
     |.p (.pmap es)=>(findKey kl k es).map fun o=>Option.map AV.p o
     |.map b=>match σ[b]? with
      |some (.map es _)=>findKey kl k es
      |_=>none
     |_=>none).bind fun o:Option AV=>some (if ok then za [o.getD zero,.p (.bool o.isSome)]else o.getD zero)
   else none
  |_=>none
 |.extract x k=>match x.val τ with
  |.p (.jC vs)=>vs[k]?.map .p
  |.jC vs=>vs[k]?
  |_=>none
 |.bJ x=>(bJ σ (x.val τ)).map fun n=>.p (.int .i64 (Int.ofNat n))
 |.JY x=>match x.val τ with
  |.p (.str s)=>some (.p (.int .i64 (Int.ofNat s.size)))
  |_=>none
 |.AX x=>(AX σ (x.val τ)).map fun n=>.p (.int .i64 (Int.ofNat n))
 |.adl n=>some (.p (.int .i64 (Int.ofNat n)))
 |.sv mx args=>match args.map (O.val τ)with
  |.p x::r=>(E8 mx x r).map .p
  |_=>none
 |.zD f caps=>some (Fw f (caps.map (·.val τ)))
 |.GA x=>match x.val τ with
  |.p .xF=>none
  |.p .zc=>none
  |.any=>none
  |v=>some v
 |.KD neg x=>match x.val τ with
  |.p .zc=>some (.p (.bool !neg))
  |.p (.fn ..)|.fn ..=>some (.p (.bool neg))
  |_=>none
 |.b2s x=>(Ti σ (x.val τ)).bind fun rows=>
   (omap (fun r:List PV=>match r with | [.int .u8 n]=>some (UInt8.ofNat n.toNat)|_=>none) rows).map fun bs=>.p (.str ⟨bs.toArray⟩)
 |_=>none
def ed(σ:ag)(args:List AV)(r:PV):ag:=if r.flat then σ else bL σ (args.flatMap (refs σ depth))
def plain (σ:ag) (τ:Tm):mI→Option (AV×ag)
  | .mv x eager=>match x.val τ with
    | .aC=>if eager then some (.sl σ.length 0,σ++[.pv 0 [] false]) else some (.aC,σ)
    | v=>some (v,σ)
  | .alloc zero es=>let (cs,σ'):=aW zero σ;some (.ptr σ'.length 1 0 0,σ'++[mkObj es cs])
  | .init size agg x ro=>(cellsOf size agg (x.val τ)).bind fun cs=>
      if ro then match ae cs with
        | some ps=>some (.p (.ptr ps 0),σ)
        | none=>some (.ptr σ.length 1 0 0,σ++[mkObj size cs])
      else let (cs',σ'):=aW cs σ;some (.ptr σ'.length 1 0 0,σ'++[mkObj size cs'])
  | .box size agg x ro=>(cellsOf size agg (x.val τ)).bind fun cs=>
      if ro then match ae cs with
        | some ps=>some (.p (.ptr ps 0),σ)
        | none=>some (.ptr σ.length 1 0 0,σ++[mkObj size cs])
      else let (cs',σ'):=aW cs σ;some (.ptr σ'.length 1 0 0,σ'++[mkObj size cs'])
  | .dC es zero len parts=>
      (gz ((List.replicate len zero).flatten) (parts.map fun x=>(x.1*es,x.2.1,x.2.2.val τ))).map fun cs=>
        (.sl σ.length len,σ++[DU es (chunk es len cs)])
  | .iU es zero len parts=>
      ((gz ((List.replicate len zero).flatten) (parts.map fun x=>(x.1*es,x.2.1,x.2.2.val τ))).bind ae).map fun ps=>
        (.p (.aM (chunk es len ps)),σ)
  | .store size a v=>(eM σ size (a.val τ) (v.val τ)).map fun σ'=>(.any,σ')
  | .ahX len es x lo hi mx=>match x.val τ with
    | .ptr b 1 0 0=>match bounds len len (lo.map (O.val τ)) (hi.map (O.val τ)) (mx.map (O.val τ)),σ[b]? with
      | some (0,h,m),some (.pv e [row] false)=>if m=len∧e=len*es∧row.length=len*es then some (.sl σ.length h,(σ.set b .gone)++[.pv es (chunk es h (row.take (h*es))) false]) else none
      | _,_=>none
    | _=>none
  | .UO kl x k v=>match x.val τ,k.val τ with
    | .map b,.p k=>match σ[b]? with
      | some (.map es false)=>if su kl k then (uK kl k (v.val τ) es).map fun es'=>(.any,σ.set b (.map es' false)) else none
      | _=>none
    | _,_=>none
  | .DV=>some (.map σ.length,σ++[.map [] false])
  | .frz x=>(aG σ depth (x.val τ)).map fun r=>(.p r,ed σ [x.val τ] r)
  | .wB es bytes zero l c=>(nc (l.val τ)).bind fun l=>(nc (c.val τ)).bind fun c=>
      if l≤c∧c*bytes≤140737488355328 then
        match ae zero with
        | some z=>some (.sl σ.length l,σ++[.pv es (List.replicate l z) false])
        | none=>some (.sl σ.length l,σ++[.av es (List.replicate l zero) false])
      else none
  | .append es bytes x y=>(nn σ es (y.val τ)).bind fun new=>Cd σ es bytes (x.val τ) new
  | op=>(quiet σ τ op).map fun v=>(v,σ)
def St.put(st:St)(d:Option Nat)(v:AV):Option St :=
 match d with
 |none=>some st
 |some d=>if d<st.nt then some { st with τ:=dX st.τ d v }else none
structure Prog where
 fn:FuncId→Option cL
 US:FuncId→Option (List AV→ag→Option (AV×ag)):=fun _=>none
def GK(σ:ag)(τ:Tm):RV→Option AV
 |.tmp t=>some (τ.get t)
 |.cell t size agg=>gU σ size agg (τ.get t)
def fk(rs:List RV)(σ:ag)(τ:Tm):Option AV :=
 (omap (GK σ τ) rs).map fun vs=>match vs with
  | [v]=>v
  |vs=>za vs
def number{α:Type}:Nat→List α→List (Nat×α)
 |_,[]=>[]
 |n,a::r=>(n,a)::number (n+1) r
def wz(args:List AV):Tm:=tm (number 0 args)
def ig(τ:Tm):Option (Nat×Bool)→Option Bool
 |none=>some true
 |some (t,want)=>match τ.get t with
  |.p (.bool b)=>some (b == want)
  |.p (.jC [])=>some false
  |_=>none
def Ep(g:List PV→Option PV)(args:List AV)(σ:ag):Option (AV×ag) :=
 (omap (aG σ depth) args).bind fun ps=>(g ps).map fun r=>(.p r,ed σ args r)
def vu(a b:ByteArray):Int:=if a.toList=b.toList then 0 else if Op.bytesLess a.toList b.toList then -1 else 1
def xm:List PV→Option PV
 | [.str a,.str b]=>some (.int .i64 (vu a b))
 |_=>none
def Up:AV→Option (FuncId×List AV)
 |.p (.fn f cap)=>some (f,cap.map .p)
 |.fn f cap=>some (f,cap)
 |_=>none
def ue(rd:Option Nat)(σ:ag):Bool :=
 match rd with
 |none=>true
 |some l=>match σ[l]? with
  |some (.loop ..)=>true
  |_=>false
def nodup:List Nat→Bool
 | []=>true
 |a::r=>!r.contains a && nodup r
def eR(τ:Tm)(o:fQ):Bool :=
 let c (x:O):Bool:=match x.val τ with|.p _=>true|_=>false
 match o.op with
 |.load _ _ x|.au _ x _|.bJ x|.AX x|.b2s x|.lookup _ _ x _ _|.MH _ x _ _ _=>c x
 |_=>false
def zd:AV→Bool
 |.aC=>false
 |.agg cs=>cs.all fun c=>match c with|.aC=>false|_=>true
 |_=>true
def xf(τ:Tm)(o:fQ):Option Nat :=
 match o.op with
 |.store _ a v=>match a.val τ with
  |.ptr b _ _ _=>if zd (v.val τ)then some b else none
  |_=>none
 |.au _ x _=>match x.val τ with
  |.sl b _=>some b
  |_=>none
 |_=>none
def jO(τ:Tm)(x y:fQ):Bool :=
 eR τ x ||eR τ y ||match xf τ x,xf τ y with
  |some b,some b'=>b != b'
  |_,_=>false
def Az(ops:List fQ)(prs:List (Nat×Nat))(τ:Tm):Bool :=
 prs.all fun ij=>match ops[ij.1]?,ops[ij.2]? with
  |some x,some y=>jO τ x y
  |_,_=>false
def nd:List AV→Nat
 | []=>0
 |.aC::r=>nd r+1
 |_::r=>nd r
def MZ(d1 d2:Nat):O→Bool
 |.t n=>n != d1 && n != d2
 |.c _=>true
def isP:AV→Bool
 |.p _=>true
 |_=>false
def CL:List fQ→Option (Nat×Nat×Nat)
 | [⟨some d1,.alloc z1 s1,none⟩,⟨some d2,.alloc z2 s2,none⟩,⟨none,.store s3 (.t e1) v1,none⟩,⟨none,.store s4 (.t e2) v2,none⟩]=>
  if d1 != d2 && e1 == d1 && e2 == d2 && s3 == s1 && s4 == s2 && z1.length == s1 && z2.length == s2 && nd z1 == nd z2 && MZ d1 d2 v1 && MZ d1 d2 v2 then some (d1,d2,nd z1)else none
 |_=>none
def EP(τ:Tm):List fQ→Bool
 | [_,_,⟨_,.store _ _ v1,_⟩,⟨_,.store _ _ v2,_⟩]=>isP (v1.val τ) && isP (v2.val τ)
 |_=>false
def CK(ops:List fQ)(prs:List (Nat×Nat))(st st':St):Bool :=
 match prs with
 | [(i,j)]=>match CL (ops.drop i)with
  |some (d1,d2,k)=>j == i+1 && EP st'.τ (ops.drop i) && (match st'.τ.get d1 with
   |.ptr b _ _ _=>decide (st.σ.length+k≤b) && st'.σ.all (Obj.below (b-k)) && (List.range st'.nt).all fun t=>t == d1 ||t == d2 ||below (b-k) (st'.τ.get t)
   |_=>false)
  |none=>false
 |_=>false
mutual
def exec(P:Prog)(c:K)(st:St):Option (Ex×St) :=
 match c with
 |.skip=>some (.normal,st)
 |.Fy ops prs=>do
  let st' ←fL P ops st
  if Az ops prs st'.τ ||CK ops prs st st' then some (.normal,st')else none
 |.cu _ ops=>do
  let st' ←fL P ops st
  some (.normal,st')
 |.seq a b=>do
  let (e,st') ←exec P a st
  match e with
  |.normal=>exec P b st'
  |e=>some (e,st')
 |.cond c a b=>do
  let t ←vn (c.val st.τ)
  if t then exec P a st else exec P b st
 |.block id b=>do
  let (e,st') ←exec P b st
  match e with
  |.exit i=>if i=id then some (.normal,st')else some (.exit i,st')
  |e=>some (e,st')
 |.loop lv b=>do
  let (e,st') ←exec P b { st with τ:=st.τ.keep lv }
  match e with
  |.normal=>exec P (.loop lv b) { st' with τ:=st'.τ.keep lv,σ:=gc st.σ.length (lv.map st'.τ.get) st'.σ }
  |e=>some (e,st')
 |.range g ps lv hJ b=>do
  let (f,cap) ←Up (g.val st.τ)
  let fn ←P.fn f
  if ue st.rd st.σ && (nodup ps && ps.all (· < st.nt))then do
   let (_,σ') ←call P fn (.yield st.σ.length::cap) (st.σ++[.loop (st.τ.kept lv) st.nt ps hJ b none])
   match σ'[st.σ.length]? with
   |some (.loop _ _ _ _ _ none)=>some (.normal,{ st with σ:=gc st.σ.length [] (σ'.set st.σ.length .gone) })
   |some (.loop _ _ _ _ _ (some .normal))=>none
   |some (.loop _ _ _ _ _ (some e))=>some (e,{ st with σ:=gc st.σ.length [] (σ'.set st.σ.length .gone) })
   |_=>none
  else none
 |.exit id=>some (.exit id,st)
 |.ret=>some (.ret,st)
 |.bad _=>none
 partial_fixpoint
def fL(P:Prog)(ops:List fQ)(st:St):Option St :=
 match ops with
 | []=>some st
 |o::r=>do
  let w ←ig st.τ o.guard
  if w then do
   let (v,σ') ←match o.op with
    |.dV f args=>lJ P f (args.map (·.val st.τ)) st.σ
    |.qT x args=>sQ P (x.val st.τ) (args.map (·.val st.τ)) st.σ
    |.FF f args=>do
     let fn ←P.fn f
     call P fn (args.map (·.val st.τ)) st.σ
    |op=>plain st.σ st.τ op
   let st' ←St.put { st with σ:=σ' } o.dst v
   fL P r st'
  else do
   let st' ←st.put o.dst (.p (.jC []))
   fL P r st'
 partial_fixpoint
def lJ(P:Prog)(f:FuncId)(args:List AV)(σ:ag):Option (AV×ag) :=
 match P.US f with
 |some g=>g args σ
 |none=>do
  let fn ←P.fn f
  if fn.imp then call P fn args σ
  else do
   let ps ←omap (aG σ depth) args
   let (v,σ') ←call P fn (ps.map .p) []
   let r ←aG σ' depth v
   some (.p r,ed σ args r)
 partial_fixpoint
def sQ(P:Prog)(g:AV)(args:List AV)(σ:ag):Option (AV×ag) :=
 match g with
 |.p (.fn f cap)=>lJ P f (args++cap.map .p) σ
 |.fn f cap=>lJ P f (args++cap) σ
 |.yield l=>round P l args σ
 |_=>none
 partial_fixpoint
def call(P:Prog)(fn:cL)(args:List AV)(σ:ag):Option (AV×ag) :=
 if args.length≤fn.ntmps then do
  let (e,st) ←exec P fn.body { τ:=wz args,σ:=σ,nt:=fn.ntmps }
  match e with
  |.exit _=>none
  |_=>do
   let v ←fk fn.results st.σ st.τ
   some (v,gc σ.length [v] st.σ)
 else none
 partial_fixpoint
def round(P:Prog)(l:Nat)(args:List AV)(σ:ag):Option (AV×ag) :=
 match σ[l]? with
 |some (.loop τ nt ps hJ b none)=>
  if ps.length=args.length∧nodup ps=true∧ps.all (· < nt)=true then do
   let (e,st) ←exec P hJ { τ:=tm (ps.zip args++τ),σ:=σ,nt:=nt,rd:=some l }
   match e with
   |.normal=>
    match st.σ[l]? with
    |some (.loop τ1 nt1 ps1 asg1 b1 none)=>do
     let (e,st) ←exec P b { st with σ:=st.σ.set l (.loop τ1 nt1 ps1 asg1 b1 (some .normal)) }
     match st.σ[l]? with
     |some (.loop τ2 nt2 ps2 asg2 b2 (some .normal))=>
      some (.p (.bool (e matches .normal)),gc σ.length [] (st.σ.set l (.loop τ2 nt2 ps2 asg2 b2 (match e with|.normal=>none|e=>some e))))
     |_=>none
    |_=>none
   |_=>none
  else none
 |_=>none
 partial_fixpoint
end
def cN(p:Program)(t:TypeId):Option Nat:=(p.info? t).map (·.size)
def Fi(p:Program)(t:TypeId):Option Nat:=(p.info? t).map (·.bytes)
def np(p:Program)(t:TypeId):Option Bool:=(p.underlying t).map fun d=>match d with|.struct _|.array _ _=>true|_=>false
def Kl(p:Program)(t:TypeId):Option TypeId:=match p.underlying t with|some (.slice e)=>some e|_=>none
def aiy:Value→Option PV
 |.bool b=>some (.bool b)
 |.int k n=>some (.int k n)
 |.string s=>some (.str s)
 |.pointer none=>some .xF
 |.map none=>some .H8
 |.nilFunc=>some .zc
 |_=>none
def G2(v:Value):Option AV :=
 match v with
 |.slice none 0 0=>some .aC
 |v=>(aiy v).map .p
def aiB(v:Value):Option AV :=
 match v with
 |.agg cs=>(omap G2 cs.toList).map y9
 |v=>G2 v
def fN:Operand→Option O
 |.tmp t=>some (.t t)
 |.const v=>(aiB v).map .c
 |.func f=>some (.c (.p (.fn f [])))
 |.global _=>none
def zeroCells(p:Program)(t:TypeId):Option (List AV):=(p.info? t).bind fun i=>i.zero.bind fun z=>omap G2 z.cells.toList
structure Adv where
 wr:List Nat:=[]
 eager:List Nat:=[]
 aM:List Nat:=[]
 im:List Nat:=[]
 fz:List Nat:=[]
 l0:List Nat:=[]
 deriving Inhabited
def AS(p:Program)(t:TypeId)(f:Nat):Option Field:=match p.underlying t with|some (.struct fs)=>fs[f]? |_=>none
def partsOf(p:Program)(t:TypeId)(parts:Array (Nat×Operand)):Option (List (Nat×Nat×O)) :=
 match p.underlying t with
 |some (.struct fs)=>(fs.toList.mapM fun f=>(p.info? f.type).map fun i=>(f.offset,i.size)).bind fun places=>omap (fun x:Nat×Operand=>(places[x.1]?).bind fun y=>(fN x.2).map fun o=>(y.1,y.2,o)) parts.toList
 |some (.array _ e)=>(cN p e).bind fun s=>omap (fun x:Nat×Operand=>(fN x.2).map fun o=>(x.1*s,s,o)) parts.toList
 |_=>none
def DZ:Option Operand→Option (Option O)
 |none=>some none
 |some x=>(fN x).map some
def mY(p:Program)(t:TypeId):Option mX :=
 match p.underlying t with
 |some (.int _)=>some .int
 |some .string=>some .str
 |some .bool=>some .bool
 |_=>none
def Bu(rec:TypeId→Option (List mX))(p:Program):List Field→Nat→Option (List mX)
 | [],_=>some []
 |f::r,off=>
  if f.name ≠ "_" ∧ f.offset=off then
   match rec f.type with
   |some l=>if cN p f.type=some l.length then(Bu rec p r (off+l.length)).map (l ++ ·)else none
   |none=>none
  else none
def mZ(p:Program):Nat→TypeId→Option (List mX)
 |0,_=>none
 |d+1,t=>
  match p.underlying t with
  |some (.struct fs)=>if p.stoodInHeld t then none else Bu (mZ p d) p fs.toList 0
  |_=>(mY p t).map fun l=>[l]
def AQ(p:Program)(adv:Adv)(o:Oper):Option mI :=
 match o.op with
 |.move x|.assign x=>(fN x).map fun x=>if(o.dst.any fun d=>adv.fz.contains d)=true then .frz x else .mv x (o.dst.any fun d=>adv.eager.contains d)
 |.pick c a b=>do some (.pick (←fN c) (←fN a) (←fN b))
 |.alloc e=>do
   let z ←zeroCells p e
   let s ←cN p e
   if z.length=s then some (.alloc z s)else none
 |.box e x=>do
   let s ←cN p e
   let g ←np p e
   let x ←fN x
   if g=true∨s=1 then some (.box s g x !(o.dst.any fun d=>adv.wr.contains d))else none
 |.build t parts=>do some (.build (←zeroCells p t) (←partsOf p t parts))
 |.buildSlice t n parts=>do
   let e ←Kl p t
   let s ←cN p e
   let z ←zeroCells p e
   let ps ←omap (fun x:Nat×Operand=>(fN x.2).map fun o=>(x.1,s,o)) parts.toList
   if z.length=s∧0<s∧n*s≤2^24 then some (if(o.dst.any fun d=>adv.aM.contains d)=true then .iU s z n ps else .dC s z n ps)else none
 |.load t a=>do some (.load (←cN p t) (←np p t) (←fN a))
 |.store t a v=>do some (.store (←cN p t) (←fN a) (←fN v))
 |.nilCheck x=>do some (.GA (←fN x))
 |.binOp op t x y _=>do
   let x ←fN x
   let y ←fN y
   match op with
   |.eql=>match p.underlying t with
    |some (.int _)|some .string=>some (.arith op x y)
    |some .bool=>some (.eqB false x y)
    |some (.func ..)=>match y with
     |.c (.p .zc)=>some (.KD false x)
     |_=>none
    |some (.struct _)=>if p.eqGuardType p.depth t then none else(mZ p 8 t).bind fun lv=>if cN p t=some lv.length then some (.eqA false lv x y)else none
    |_=>none
   |.neq=>match p.underlying t with
    |some (.int _)|some .string=>some (.arith op x y)
    |some .bool=>some (.eqB true x y)
    |some (.func ..)=>match y with
     |.c (.p .zc)=>some (.KD true x)
     |_=>none
    |some (.struct _)=>if p.eqGuardType p.depth t then none else(mZ p 8 t).bind fun lv=>if cN p t=some lv.length then some (.eqA true lv x y)else none
    |_=>none
   |_=>some (.arith op x y)
 |.unOp op _ x=>do
   let x ←fN x
   match op with
   |.not=>some (.not x)
   |.neg=>some (.neg x)
   |.xor=>some (.Kt x)
   |.plus=>none
 |.convert s d x=>do
   let x ←fN x
   match p.underlying s,p.underlying d with
   |some (.int _),some (.int k)=>some (.conv k x)
   |some .string,some .string=>some (.NW x)
   |some (.slice e),some .string=>(match p.underlying e with|some (.int .u8)=>some (.b2s x)|_=>none)
   |_,_=>none
 |.makeFunc (.func f) first caps=>do
   if first.isEmpty then some (.zD f (←omap fN caps.toList))else none
 |.makeMap _ none=>some .DV
 |.makeSlice t l c=>do
   let e ←Kl p t
   let s ←cN p e
   let z ←zeroCells p e
   let b ←Fi p e
   let l ←fN l
   let c ←fN c
   if z.length=s∧0<s∧0<b then some (.wB s b z l c)else none
 |.slice t x lo hi mx=>do
   let x ←fN x
   let lo ←DZ lo
   let hi ←DZ hi
   let mx ←DZ mx
   match p.underlying t with
   |some .string=>if mx.isSome then none else some (.aet x lo hi)
   |some (.slice e)=>some (.MH (←cN p e) x lo hi mx)
   |some (.array n e)=>do
    let s ←cN p e
    if 0<s then some (.ahX n s x lo hi mx)else none
   |_=>none
 |.fieldAddr t x f=>do
   let f ←AS p t f
   if(←cN p f.type)=0 then none else some (.bP f.offset (←fN x))
 |.field t x f=>do
   let f ←AS p t f
   some (.fld f.offset (←cN p f.type) (←np p f.type) (←fN x))
 |.indexAddr t x i=>do
   match p.underlying t with
   |some (.array n e)=>some (.OC n (←cN p e) (←fN x) (←fN i))
   |some (.slice e)=>some (.au (←cN p e) (←fN x) (←fN i))
   |_=>none
 |.index t x i=>do
   match p.underlying t with
   |some (.array n e)=>some (.ade n (←cN p e) (←np p e) (←fN x) (←fN i))
   |some .string=>some (.JP (←fN x) (←fN i))
   |_=>none
 |.lookup t x i ok=>do
   match p.underlying t with
   |some (.map k e)=>some (.lookup (←mY p k) (←(p.info? e).bind fun i=>i.zero.bind aiB) (←fN x) (←fN i) ok)
   |_=>none
 |.mapUpdate t m k v=>do
   match p.underlying t with
   |some (.map kt _)=>some (.UO (←mY p kt) (←fN m) (←fN k) (←fN v))
   |_=>none
 |.extract x k=>do some (.extract (←fN x) k)
 |.call c=>
  match c.callee with
  |.value (.func f)=>do
   let as ←omap fN c.args.toList
   some (if(o.dst.any fun d=>adv.im.contains d)=true then .FF f as else .dV f as)
  |.value x=>do some (.qT (←fN x) (←omap fN c.args.toList))
  |.builtin .len=>match c.argTypes[0]?.bind p.underlying,c.args[0]? with
   |some (.array n _),some _=>some (.adl n)
   |some (.pointer a),some _=>match p.underlying a with
    |some (.array n _)=>some (.adl n)
    |_=>none
   |some .string,some x=>(fN x).map .JY
   |some (.slice _),some x=>(fN x).map .bJ
   |some (.map _ _),some x=>(fN x).map .AX
   |_,_=>none
  |.builtin .append=>match c.argTypes[0]?.bind (Kl p),c.args[0]?,c.args[1]?,c.argTypes[1]?.bind p.underlying with
   |some e,some x,some y,some d=>match d with
    |.int _=>none
    |_=>do
     let s ←cN p e
     let b ←Fi p e
     let z ←zeroCells p e
     let x ←fN x
     let y ←fN y
     if z.length=s∧0<s∧0<b then some (.append s b x y)else none
   |_,_,_,_=>none
  |.builtin .min=>do some (.sv false (←omap fN c.args.toList))
  |.builtin .max=>do some (.sv true (←omap fN c.args.toList))
  |_=>none
 |_=>none
def O.reads:O→List Nat
 |.t n=>[n]
 |_=>[]
def Bz:Option O→List Nat
 |some o=>o.reads
 |none=>[]
def mI.reads:mI→List Nat
 |.mv x _|.init _ _ x _|.box _ _ x _|.load _ _ x|.not x|.neg x|.Kt x|.conv _ x|.NW x|.b2s x|.bP _ x|.fld _ _ _ x|.extract x _|.bJ x|.JY x|.AX x|.GA x|.frz x|.KD _ x=>x.reads
 |.pick a b c=>a.reads++b.reads++c.reads
 |.build _ ps|.dC _ _ _ ps|.iU _ _ _ ps=>ps.flatMap fun x=>x.2.2.reads
 |.store _ a v|.arith _ a v|.eqB _ a v|.eqA _ _ a v|.OC _ _ a v|.au _ a v|.ade _ _ _ a v|.JP a v|.lookup _ _ a v _|.append _ _ a v|.copy _ a v|.wB _ _ _ a v=>a.reads++v.reads
 |.MH _ x l h m|.ahX _ _ x l h m=>x.reads++Bz l++Bz h++Bz m
 |.aet x l h=>x.reads++Bz l++Bz h
 |.UO _ a b c=>a.reads++b.reads++c.reads
 |.dV _ as|.FF _ as|.sv _ as|.zD _ as=>as.flatMap O.reads
 |.qT x as=>x.reads++as.flatMap O.reads
 |.alloc .. |.DV|.adl _|.bad _=>[]
def fQ.looks(o:fQ):List Nat:=(match o.guard with|some (t,_)=>[t]|none=>[])++o.op.reads
inductive Kind where
 |q0|q|c|a|w
 deriving DecidableEq
def mI.kind(cq:FuncId→Bool):mI→Kind
 |.mv _ false|.pick .. |.arith .. |.eqB .. |.eqA .. |.NW _|.JY _|.not _|.neg _|.Kt _|.conv .. |.bP .. |.fld .. |.OC .. |.ade .. |.JP .. |.aet .. |.extract .. |.adl _|.sv .. |.zD .. |.GA _|.KD .. |.build .. |.iU ..=>.q0
 |.load .. |.au .. |.MH .. |.lookup .. |.bJ _|.AX _|.b2s _=>.q
 |.dV f _=>if cq f then .c else .w
 |.mv _ true|.alloc .. |.init .. |.box .. |.dC .. |.DV|.wB ..=>.a
 |_=>.w
def HV:Kind→Kind→Bool
 |.q0,_|_,.q0=>true
 |.q,.q|.q,.c|.c,.q|.c,.c|.q,.a|.c,.a=>true
 |_,_=>false
def indep(cq:FuncId→Bool)(x y:fQ):Bool :=
 x.dst.all (fun d=>!y.looks.contains d) && y.dst.all (fun d=>!x.looks.contains d && x.dst != some d) && HV (x.op.kind cq) (y.op.kind cq)
def fX:List Oper→List (List Nat)→List (List Nat)
 | [],acc=>acc
 |o::r,acc=>
  let d:=o.after.toList.filterMap fun e=>if Region.binds .any e then some e.on else none
  fX r (acc++[(d++d.flatMap fun j=>acc.getD j []).eraseDups])
def Gr(cq:FuncId→Bool)(ops:List Oper)(is:List fQ):Bool :=
 let b:=fX ops []
 (ops.zipIdx.all fun(o,i)=>o.after.all fun e=>!Region.binds .any e ||e.on<i) &&
 is.zipIdx.all fun(y,j)=>is.zipIdx.all fun(x,i)=>!(i<j) ||(b.getD j []).contains i ||indep cq x y
def Cq(x y:fQ):Bool:=x.dst.all (fun d=>!y.looks.contains d) && y.dst.all (fun d=>!x.looks.contains d && x.dst != some d)
def Sq(cq:FuncId→Bool)(ops:List Oper)(is:List fQ):List (Nat×Nat) :=
 let b:=fX ops []
 is.zipIdx.flatMap fun(y,j)=>is.zipIdx.filterMap fun(x,i)=>if !(i<j) ||(b.getD j []).contains i ||indep cq x y then none else some (i,j)
def z7(cq:FuncId→Bool)(ops:List Oper)(is:List fQ)(prs:List (Nat×Nat)):Bool :=
 let b:=fX ops []
 (ops.zipIdx.all fun(o,i)=>o.after.all fun e=>!Region.binds .any e ||e.on<i) &&
 (is.zipIdx.all fun(y,j)=>is.zipIdx.all fun(x,i)=>j<i ||(match x.op.kind cq with|.q0=>true|_=>false) ||y.dst.all fun d=>!x.looks.contains d) &&
 is.zipIdx.all fun(y,j)=>is.zipIdx.all fun(x,i)=>!(i<j) ||(b.getD j []).contains i ||indep cq x y ||(Cq x y && prs.contains (i,j))
def xg(p:Program)(adv:Adv)(ops:Array Oper)(o:Oper):fQ :=
 {dst:=o.dst
  op:=(AQ p adv o).getD (.bad "")
  guard:=o.guard.map fun(j,w)=>(((ops[j]?).bind (·.dst)).getD 1000000,w) }
def ao0:Operand→Nat→Bool
 |.tmp t,d=>t == d
 |_,_=>false
def XA(p:Program)(adv:Adv)(ops:Array Oper):List Oper→List fQ
 | []=>[]
 | [o]=>[xg p adv ops o]
 |o::o'::r=>
  match o.op,o.dst,o.guard,o'.op,o'.dst,o'.guard with
  |.alloc e,some d,none,.store e' (.tmp d') v,none,none=>
   if e == e' && d == d' then
    match cN p e,np p e,fN v,zeroCells p e with
    |some s,some g,some x,some z=>if((g=true∨s=1)∧z.length=s)∧ao0 v d=false then { dst:=some d,op:=.init s g x !(adv.wr.contains d),guard:=none }::XA p adv ops r else xg p adv ops o::XA p adv ops (o'::r)
    |_,_,_,_=>xg p adv ops o::XA p adv ops (o'::r)
   else xg p adv ops o::XA p adv ops (o'::r)
  |_,_,_,_,_,_=>xg p adv ops o::XA p adv ops (o'::r)
def uni(a b:List Nat):List Nat:=a++b.filter fun x=>!a.contains x
def UK:List fQ→List Nat→List Nat
 | [],out=>out
 |o::r,out=>
  let l:=UK r out
  let l:=match o.dst with|some d=>l.filter (· != d)|none=>l
  uni ((match o.guard with|some (t,_)=>[t]|none=>[])++o.op.reads).eraseDups l
def vI(res:List Nat):K→(out:List Nat)→(ex:List (Nat×List Nat))→List Nat
 |.skip,out,_=>out
 |.cu _ ops,out,_=>UK ops out
 |.Fy ops _,out,_=>UK ops out
 |.seq a b,out,ex=>vI res a (vI res b out ex) ex
 |.cond c a b,out,ex=>uni c.reads (uni (vI res a out ex) (vI res b out ex))
 |.block id b,out,ex=>vI res b out ((id,out)::ex)
 |.loop _ b,_,ex=>vI res b [] ex
 |.range g ps _ hJ b,out,ex=>uni g.reads (uni out ((vI res hJ (vI res b [] ex) ex).filter fun t=>!ps.contains t))
 |.exit id,_,ex=>(ex.lookup id).getD []
 |.ret,_,_=>res
 |.bad _,_,_=>[]
def atf(a:Nat):List Nat→List Nat
 | []=>[a]
 |b::r=>if a≤b then a::b::r else b::atf a r
def alk:List Nat→List Nat
 | []=>[]
 |a::r=>atf a (alk r)
def ru(res:List Nat):K→(out:List Nat)→(ex:List (Nat×List Nat))→K
 |.seq a b,out,ex=>.seq (ru res a (vI res b out ex) ex) (ru res b out ex)
 |.cond c a b,out,ex=>.cond c (ru res a out ex) (ru res b out ex)
 |.block id b,out,ex=>.block id (ru res b out ((id,out)::ex))
 |.loop _ b,_,ex=>
  let l:=alk (vI res b [] ex)
  .loop l (ru res b l ex)
 |.range g ps _ hJ b,_,ex=>
  let l:=(vI res hJ (vI res b [] ex) ex).filter fun t=>!ps.contains t
  .range g ps (alk l) (ru res hJ (vI res b [] ex) ex) (ru res b [] ex)
 |k,_,_=>k
def zZ(p:Program)(cq:FuncId→Bool)(adv:Adv):Code→K
 |.skip=>.skip
 |.region _ ops draw=>
  if draw then
   let adv':Adv:=⟨adv.wr,adv.eager,adv.l0,adv.im,adv.fz,[]⟩
   if Gr cq ops.toList (ops.toList.map (xg p adv' ops))then .cu true (ops.toList.map (xg p adv' ops))
   else if Gr cq ops.toList (ops.toList.map (xg p adv ops))then .cu true (ops.toList.map (xg p adv ops))
   else if z7 cq ops.toList (ops.toList.map (xg p adv ops)) (Sq cq ops.toList (ops.toList.map (xg p adv ops)))then .Fy (ops.toList.map (xg p adv ops)) (Sq cq ops.toList (ops.toList.map (xg p adv ops)))
   else .bad "order"
  else .cu false (XA p ⟨adv.wr,adv.eager,adv.l0,adv.im,adv.fz,[]⟩ ops ops.toList)
 |.seq a b=>.seq (zZ p cq adv a) (zZ p cq adv b)
 |.cond c a b=>match fN c with
  |some c=>.cond c (zZ p cq adv a) (zZ p cq adv b)
  |none=>.bad "cond"
 |.block id b=>.block id (zZ p cq adv b)
 |.loop b=>.loop [] (zZ p cq adv b)
 |.rangeFunc g ps hJ b=>match fN g with
  |some g=>.range g ps.toList [] (zZ p cq adv hJ) (zZ p cq adv b)
  |none=>.bad "range"
 |.exit id=>.exit id
 |.scope c=>.seq .skip (zZ p cq adv c)
 |.label _=>.skip
 |.goto _=>.bad "goto"
 |.ret=>.ret
 |.refuse why=>.bad why
def an1(r:List RV):List Nat:=r.map fun|.tmp t=>t|.cell t _ _=>t
def an(p:Program)(cq:FuncId→Bool)(adv:Adv)(imp:Bool)(f:FuncId):Option cL:=do
 let fn ←p.funcs[f]?
 let c ←fn.body
 let rs ←omap (fun r:ResultVar=>match r with
  |.tmp t=>some (RV.tmp t)
  |.cell a t=>do some (RV.cell a (←cN p t) (←np p t))) fn.results.toList
 let k:=zZ p cq adv c
 let res:=an1 rs
 if fn.ntmps≤1000000 then some { ntmps:=fn.ntmps,results:=rs,body:=ru res k res [],imp:=imp }else none
variable {P:Prog} {st:St}
theorem agU:exec P .skip st=some (.normal,st):=by rw[exec.eq_def]
theorem agT{ops:List fQ}{prs:List (Nat×Nat)}:exec P (.Fy ops prs) st=(fL P ops st).bind fun st'=>if Az ops prs st'.τ ||CK ops prs st st' then some (.normal,st')else none:=by rw[exec.eq_def];rfl
theorem ajc{d:Bool}{ops:List fQ}:exec P (.cu d ops) st=(fL P ops st).bind fun st'=>some (.normal,st'):=by rw[exec.eq_def];rfl
def andThen(P:Prog)(b:K):Option (Ex×St)→Option (Ex×St)
 |some (.normal,st)=>exec P b st
 |some (.ret,st)=>some (.ret,st)
 |some (.exit i,st)=>some (.exit i,st)
 |none=>none
theorem aje{a b:K}:exec P (.seq a b) st=andThen P b (exec P a st):=by
 rw[exec.eq_def];dsimp only;cases h:exec P a st with
 |none=>rfl
 |some x=>obtain⟨e,st'⟩:=x;cases e<;>rfl
theorem Ni{b:K}:andThen P b (some (.normal,st))=exec P b st:=rfl
theorem VU{b:K}:andThen P b (some (.ret,st))=some (.ret,st):=rfl
theorem TE{b:K}{i:Nat}:andThen P b (some (.exit i,st))=some (.exit i,st):=rfl
theorem agR{c:O}{a b:K}:exec P (.cond c a b) st=(vn (c.val st.τ)).bind fun t=>if t then exec P a st else exec P b st:=by rw[exec.eq_def];rfl
def inBlock(id:Nat):Option (Ex×St)→Option (Ex×St)
 |some (.exit i,st)=>if i=id then some (.normal,st)else some (.exit i,st)
 |r=>r
theorem ac7{id:Nat}{b:K}:exec P (.block id b) st=inBlock id (exec P b st):=by
 rw[exec.eq_def];dsimp only;cases h:exec P b st with
 |none=>rfl
 |some x=>obtain⟨e,st'⟩:=x;cases e<;>rfl
theorem OE{id:Nat}:inBlock id (some (.normal,st))=some (.normal,st):=rfl
theorem XE{id:Nat}:inBlock id (some (.ret,st))=some (.ret,st):=rfl
theorem Uu{id i:Nat}:inBlock id (some (.exit i,st))=if i=id then some (.normal,st)else some (.exit i,st):=rfl
def XV(P:Prog)(lv:List Nat)(b:K)(n:Nat):Option (Ex×St)→Option (Ex×St)
 |some (.normal,st)=>exec P (.loop lv b) { st with τ:=st.τ.keep lv,σ:=gc n (lv.map st.τ.get) st.σ }
 |some (.ret,st)=>some (.ret,st)
 |some (.exit i,st)=>some (.exit i,st)
 |none=>none
theorem JI{lv:List Nat}{b:K}:exec P (.loop lv b) st=XV P lv b st.σ.length (exec P b { st with τ:=st.τ.keep lv }):=by
 rw[exec.eq_def];dsimp only;cases h:exec P b { st with τ:=st.τ.keep lv }with
 |none=>rfl
 |some x=>obtain⟨e,st'⟩:=x;cases e<;>rfl
theorem agS{id:Nat}:exec P (.exit id) st=some (.exit id,st):=by rw[exec.eq_def]
theorem ajd:exec P .ret st=some (.ret,st):=by rw[exec.eq_def]
def cP(P:Prog)(σ:ag)(τ:Tm):mI→Option (AV×ag)
 |.dV f args=>lJ P f (args.map (·.val τ)) σ
 |.qT x args=>sQ P (x.val τ) (args.map (·.val τ)) σ
 |.FF f args=>(P.fn f).bind fun fn=>call P fn (args.map (·.val τ)) σ
 |op=>plain σ τ op
theorem Xi:fL P [] st=some st:=by rw[fL.eq_def]
theorem Hp {o:fQ} {r:List fQ}:fL P (o :: r) st=(ig st.τ o.guard).bind fun w=>
    if w then (cP P st.σ st.τ o.op).bind fun x=>(St.put { st with σ:=x.2 } o.dst x.1).bind (fL P r)
    else (st.put o.dst (.p (.jC []))).bind (fL P r):=by
  rw [fL.eq_def];dsimp only;cases hw:ig st.τ o.guard with
  | none=>rfl
  | some w=>
    cases w with
    | false=>rfl
    | true=>
      simp only [Na,zy,if_true,cP]
      cases o.op<;>first
        | rfl
        | (rename_i f args
           dsimp only;cases P.fn f<;>rfl)
inductive dz (w:World) (ok:Nat→Prop):PV→Value→Prop
 |int (k:IntKind) (n:Int):dz w ok (.int k n) (.int k n)
 |bool (b:Bool):dz w ok (.bool b) (.bool b)
 |str (s:ByteArray):dz w ok (.str s) (.string s)
 |xF:dz w ok .xF (.pointer none)
 |zc:dz w ok .zc .nilFunc
 |H8:dz w ok .H8 (.map none)
 |agg (cs:List PV) (vs:List Value) (hl:cs.length=vs.length) (h1:∀v∈vs,v.oneCell'=true) (h:∀(i:Nat) (p:PV) (v:Value),cs[i]?=some p→vs[i]?=some v→dz w ok p v):dz w ok (.agg cs) (.agg vs.toArray)
 |jC (cs:List PV) (vs:List Value) (hl:cs.length=vs.length) (h:∀(i:Nat) (p:PV) (v:Value),cs[i]?=some p→vs[i]?=some v→dz w ok p v):dz w ok (.jC cs) (.tuple vs.toArray)
 |J1 (a:Option Addr) (c:Nat):dz w ok (.aM []) (.slice a 0 c)
 |aM (rows:List (List PV)) (r off c es:Nat) (cv:Nat→Value) (hr:rows≠[]) (hok:ok r) (hc:rows.length≤c) (hes:∀x∈rows,x.length=es)
   (hcell:∀k,k<rows.length*es→w.cell? ⟨r,off+k,none⟩=some (cv k)) (hone:∀k,k<rows.length*es→(cv k).oneCell'=true) (h:∀(k:Nat) (p:PV),rows.flatten[k]?=some p→dz w ok p (cv k)):dz w ok (.aM rows) (.slice (some ⟨r,off,none⟩) rows.length c)
 |ptr (row:List PV) (o r off:Nat) (cv:Nat→Value) (hok:ok r)
   (hcell:∀k,k<row.length→w.cell? ⟨r,off+k,none⟩=some (cv k)) (hone:∀k,k<row.length→(cv k).oneCell'=true) (h:∀(k:Nat) (p:PV),row[k]?=some p→dz w ok p (cv k)):dz w ok (.ptr row o) (.pointer (some ⟨r,off+o,none⟩))
 |fn (f:FuncId) (cs:List PV) (vs:List Value) (hl:cs.length=vs.length) (h:∀(i:Nat) (p:PV) (v:Value),cs[i]?=some p→vs[i]?=some v→dz w ok p v):dz w ok (.fn f cs) (.func (.func f) #[] vs.toArray)
 |pmap (es:List (PV×PV)) (r:Nat) (en:Array MapEntry) (clock:Nat) (hok:ok r) (hm:w.heap[r]?=some (.map en clock)) (hl:es.length=en.size)
   (hk:∀(i:Nat) (p:PV×PV) (e:MapEntry),es[i]?=some p→en[i]?=some e→dz w ok p.1 e.key)
   (h:∀(i:Nat) (p:PV×PV) (e:MapEntry),es[i]?=some p→en[i]?=some e→dz w ok p.2 e.val):dz w ok (.pmap es) (.map (some r))
theorem yX{w w':World}{a:Addr}(h:w'.heap[a.block]?=w.heap[a.block]?):w'.cell? a=w.cell? a:=by
 unfold World.cell?;rw[h]
theorem dz.mono{w w':World}{ok ok':Nat→Prop}(h1:∀b,ok b→ok' b)(h2:∀b,ok b→w'.heap[b]?=w.heap[b]?){p:PV}{v:Value}(h:dz w ok p v):dz w' ok' p v:=by
 induction h with
 |int k n=>exact .int k n
 |bool b=>exact .bool b
 |str s=>exact .str s
 |xF=>exact .xF
 |zc=>exact .zc
 |H8=>exact .H8
 |agg cs vs hl h1 _ ih=>exact .agg cs vs hl h1 ih
 |jC cs vs hl _ ih=>exact .jC cs vs hl ih
 |J1 a c=>exact .J1 a c
 |aM rows r off c es cv hr hok hc hes hcell hone _ ih=>exact .aM rows r off c es cv hr (h1 _ hok) hc hes (fun k hk=>by rw[yX (h2 _ hok)];exact hcell k hk) hone ih
 |ptr row o r off cv hok hcell hone _ ih=>exact .ptr row o r off cv (h1 _ hok) (fun k hk=>by rw[yX (h2 _ hok)];exact hcell k hk) hone ih
 |fn f cs vs hl _ ih=>exact .fn f cs vs hl ih
 |pmap es r en clock hok hm hl _ _ ihk ihv=>exact .pmap es r en clock (h1 _ hok) (by rw[h2 _ hok];exact hm) hl ihk ihv
theorem dz.flat{w w':World}{ok ok':Nat→Prop}{p:PV}{v:Value}(h:dz w ok p v)(hf:p.flat=true):dz w' ok' p v:=by
 induction h with
 |int k n=>exact .int k n
 |bool b=>exact .bool b
 |str s=>exact .str s
 |xF=>exact .xF
 |zc=>exact .zc
 |H8=>exact .H8
 |agg cs vs hl h1 _ ih=>
  refine .agg cs vs hl h1 fun i p v hp hv=>ih i p v hp hv ?_
  simp only[PV.flat,Ca]at hf;exact hf ⟨p,mi hp⟩ (by simp)
 |jC cs vs hl _ ih=>
  refine .jC cs vs hl fun i p v hp hv=>ih i p v hp hv ?_
  simp only[PV.flat,Ca]at hf;exact hf ⟨p,mi hp⟩ (by simp)
 |J1 a c=>exact .J1 a c
 |aM rows r off c es cv hr=>simp[PV.flat,hr]at hf
 |ptr=>simp[PV.flat]at hf
 |fn=>simp[PV.flat]at hf
 |pmap=>simp[PV.flat]at hf
structure Loc where
 jc:Option Nat
 cap:Nat
 deriving Inhabited
def Loc.addr(l:Loc):Option Addr:=l.jc.map fun r=>⟨r,0,none⟩
inductive Sh where
 |vec (es n:Nat)
 |map
 |loop
 |gone
def Obj.sh:Obj→Sh
 |.pv es rows _=>.vec es rows.length
 |.av es rows _=>.vec es rows.length
 |.map _ _=>.map
 |.loop ..=>.loop
 |.gone=>.gone
structure View where
 own:List Loc
 σ:ag
 ok:Nat→Prop
 w:World
def View.sh(V:View)(b:Nat):Option Sh:=V.σ[b]?.map Obj.sh
inductive aV (V:View):AV→Value→Prop
 |any (v:Value):aV V .any v
 |p {p:PV} {v:Value} (h:dz V.w V.ok p v):aV V (.p p) v
 |aC (a:Option Addr):aV V .aC (.slice a 0 0)
 |sl (b n:Nat) (a:Option Addr) (c:Nat) (s:Sh) (hs:V.sh b=some s) (hn:∀es m,s=.vec es m→n≤m)
   (h:∀es l,s=.vec es n→V.own[b]?=some l→(l.cap≠0→a=l.addr)∧c=l.cap):aV V (.sl b n) (.slice a n c)
 |ptr (b n i o:Nat) (a:Addr) (s:Sh) (hs:V.sh b=some s) (hn:∀es m,s=.vec es m→n≤m)
   (h:∀es l,s=.vec es n→V.own[b]?=some l→i<n→∃r,l.jc=some r∧a=⟨r,i*es+o,none⟩):aV V (.ptr b n i o) (.pointer (some a))
 |fn (f:FuncId) (cs:List AV) (vs:List Value) (hl:cs.length=vs.length) (h:∀(i:Nat) (p:AV) (v:Value),cs[i]?=some p→vs[i]?=some v→aV V p v):aV V (.fn f cs) (.func (.func f) #[] vs.toArray)
 |yield (l r:Nat) (s:Sh) (hs:V.sh l=some s) (h:s=.loop→∀x,V.own[l]?=some x→x.jc=some r):aV V (.yield l) (.func (.yield r) #[] #[])
 |agg (cs:List AV) (vs:List Value) (hl:cs.length=vs.length) (h1:∀v∈vs,v.oneCell'=true) (h:∀(i:Nat) (p:AV) (v:Value),cs[i]?=some p→vs[i]?=some v→aV V p v):aV V (.agg cs) (.agg vs.toArray)
 |jC (cs:List AV) (vs:List Value) (hl:cs.length=vs.length) (h:∀(i:Nat) (p:AV) (v:Value),cs[i]?=some p→vs[i]?=some v→aV V p v):aV V (.jC cs) (.tuple vs.toArray)
 |map (b r:Nat) (s:Sh) (hs:V.sh b=some s) (h:s=.map→∀x,V.own[b]?=some x→x.jc=some r):aV V (.map b) (.map (some r))
def Sh.le(s s':Sh)(same:Prop):Prop :=
 match s,s' with
 |_,.gone=>True
 |.vec es n,.vec es' n'=>(n=n'∧(n=0∨es=es')∧same)∨n<n'
 |.map,.map=>same
 |.loop,.loop=>same
 |_,_=>False
structure Ext (V V':View):Prop where
 ok:∀b,V.ok b→V'.ok b
 keep:∀b,V.ok b→V'.w.heap[b]?=V.w.heap[b]?
 sh:∀b s,V.sh b=some s→∃s',V'.sh b=some s'∧s.le s' (V'.own[b]?=V.own[b]?)
theorem Sh.le_refl(s:Sh){P:Prop}(h:P):s.le s P:=by cases s<;>simp[Sh.le,h]
theorem Ext.refl(V:View):Ext V V:=⟨fun _ h=>h,fun _ _=>rfl,fun _ s h=>⟨s,h,s.le_refl rfl⟩⟩
theorem Sh.le_trans{s t u:Sh}{P Q R:Prop}(h:s.le t P)(h':t.le u Q)(hr:P→Q→R):s.le u R:=by
 cases s<;>cases t<;>cases u<;>simp only[Sh.le]at h h' ⊢<;>first
  |trivial
  |exact h.elim
  |exact h'.elim
  |exact hr h h'
  |skip
 rcases h with⟨rfl,hes,hp⟩|h
 ·rcases h' with⟨rfl,hes',hq⟩|h'
  ·left
   refine⟨rfl,?_,hr hp hq⟩;rcases hes with h|rfl
   ·exact .inl h
   ·exact hes'
  ·exact .inr h'
 ·rcases h' with⟨rfl,_,_⟩|h'
  ·exact .inr h
  ·exact .inr (Nat.lt_trans h h')
theorem Ext.trans{V V' V'':View}(h:Ext V V')(h':Ext V' V''):Ext V V'' where
 ok b hb:=h'.ok b (h.ok b hb)
 keep b hb:=(h'.keep b (h.ok b hb)).trans (h.keep b hb)
 sh b s hs:=by
  obtain⟨t,ht,l1⟩:=h.sh b s hs;obtain⟨u,hu,l2⟩:=h'.sh b t ht;exact⟨u,hu,Sh.le_trans l1 l2 fun a b=>b.trans a⟩
theorem Sh.UI {es n:Nat} {s:Sh} {P:Prop} (h:(Sh.vec es n).le s P):(∃ es',s=.vec es' n∧(n=0∨es=es')∧P)∨(∃ es' n',s=.vec es' n'∧n<n')∨s=.gone:=by
  cases s<;>simp [Sh.le] at h<;>first
    | (rcases h with ⟨rfl,a,b⟩ | h
       · exact .inl ⟨_,rfl,a,b⟩
       · exact .inr (.inl ⟨_,_,rfl,h⟩))
    | exact .inr (.inr rfl)
theorem aV.mono{V V':View}(e:Ext V V'){a:AV}{v:Value}(h:aV V a v):aV V' a v:=by
 induction h with
 |any v=>exact .any v
 |p h=>exact .p (h.mono e.ok e.keep)
 |aC a=>exact .aC a
 |sl b n a c s hs hn h=>
  obtain⟨s',hs',hle⟩:=e.sh b s hs;refine .sl b n a c s' hs' ?_ ?_
  ·intro es m hm
   subst hm;cases s with
   |vec es0 m0=>
    have h0:=hn es0 m0 rfl;rcases Sh.UI hle with⟨es',he,_⟩|⟨es',n',he,hlt⟩|he
    ·cases he;exact h0
    ·cases he;omega
    ·cases he
   |map=>simp[Sh.le]at hle
   |loop=>simp[Sh.le]at hle
   |gone=>simp[Sh.le]at hle
  ·intro es l hm hl
   subst hm;cases s with
   |vec es0 m0=>
    have h0:=hn es0 m0 rfl;rcases Sh.UI hle with⟨es',he,_,hsame⟩|⟨es',n',he,hlt⟩|he
    ·cases he
     exact h es0 l rfl (by rw[←hsame];exact hl)
    ·cases he;omega
    ·cases he
   |map=>simp[Sh.le]at hle
   |loop=>simp[Sh.le]at hle
   |gone=>simp[Sh.le]at hle
 |ptr b n i o a s hs hn h=>
  obtain⟨s',hs',hle⟩:=e.sh b s hs;refine .ptr b n i o a s' hs' ?_ ?_
  ·intro es m hm
   subst hm;cases s with
   |vec es0 m0=>
    have h0:=hn es0 m0 rfl;rcases Sh.UI hle with⟨es',he,_⟩|⟨es',n',he,hlt⟩|he
    ·cases he;exact h0
    ·cases he;omega
    ·cases he
   |map=>simp[Sh.le]at hle
   |loop=>simp[Sh.le]at hle
   |gone=>simp[Sh.le]at hle
  ·intro es l hm hl hi
   subst hm;cases s with
   |vec es0 m0=>
    have h0:=hn es0 m0 rfl;rcases Sh.UI hle with⟨es',he,hes,hsame⟩|⟨es',n',he,hlt⟩|he
    ·cases he
     rcases hes with hz|rfl
     ·omega
     ·exact h es0 l rfl (by rw[←hsame];exact hl) hi
    ·cases he;omega
    ·cases he
   |map=>simp[Sh.le]at hle
   |loop=>simp[Sh.le]at hle
   |gone=>simp[Sh.le]at hle
 |fn f cs vs hl _ ih=>exact .fn f cs vs hl ih
 |yield l r s hs h=>
  obtain⟨s',hs',hle⟩:=e.sh l s hs;refine .yield l r s' hs' ?_;intro hm x hx;subst hm;cases s with
  |loop=>exact h rfl x (by have:V'.own[l]?=V.own[l]? := hle;rw[←this];exact hx)
  |vec=>simp[Sh.le]at hle
  |map=>simp[Sh.le]at hle
  |gone=>simp[Sh.le]at hle
 |agg cs vs hl h1 _ ih=>exact .agg cs vs hl h1 ih
 |jC cs vs hl _ ih=>exact .jC cs vs hl ih
 |map b r s hs h=>
  obtain⟨s',hs',hle⟩:=e.sh b s hs;refine .map b r s' hs' ?_;intro hm x hx;subst hm;cases s with
  |map=>exact h rfl x (by have:V'.own[b]?=V.own[b]? := hle;rw[←this];exact hx)
  |vec=>simp[Sh.le]at hle
  |loop=>simp[Sh.le]at hle
  |gone=>simp[Sh.le]at hle
structure IOk (p:Program) (ops:Array Oper) (o:Oper) (i:fQ):Prop where
 dst:i.dst=o.dst
 guard:i.guard=o.guard.map fun(j,w)=>(((ops[j]?).bind (·.dst)).getD 1000000,w)
 op:(∃s,i.op=.bad s)∨∃adv,AQ p adv o=some i.op
inductive FB (p:Program) (ops:Array Oper):List Oper→List fQ→Prop
 |nil:FB p ops [] []
 |one (o:Oper) (r:List Oper) (i:fQ) (is:List fQ) (h:IOk p ops o i) (hr:FB p ops r is):FB p ops (o::r) (i::is)
 |two (o o':Oper) (r:List Oper) (is:List fQ) (d:Nat) (e:TypeId) (s:Nat) (g:Bool) (v:Operand) (x:O) (ro:Bool) (h1:o.op=.alloc e) (h2:o.dst=some d) (h3:o.guard=none)
   (h4:o'.op=.store e (.tmp d) v) (h5:o'.dst=none) (h6:o'.guard=none) (h7:cN p e=some s) (h8:np p e=some g) (h9:fN v=some x) (z:List AV) (h10:zeroCells p e=some z) (h11:(g=true∨s=1)∧z.length=s) (h12:v≠.tmp d) (hr:FB p ops r is) :
   FB p ops (o::o'::r) ({ dst:=some d,op:=.init s g x ro,guard:=none }::is)
inductive Dm (p:Program) (cq:FuncId→Bool):K→Code→Prop
 |skip:Dm p cq .skip .skip
 |cu (id:Nat) (ops:Array Oper) (is:List fQ) (h:FB p ops ops.toList is):Dm p cq (.cu false is) (.region id ops false)
 |Fy (id:Nat) (ops:Array Oper) (is:List fQ) (hl:is.length=ops.size) (h:∀(j:Nat) (o:Oper) (i:fQ),ops[j]?=some o→is[j]?=some i→IOk p ops o i) (hd:Gr cq ops.toList is=true):Dm p cq (.cu true is) (.region id ops true)
 |anZ (id:Nat) (ops:Array Oper) (is:List fQ) (prs:List (Nat×Nat)) (hl:is.length=ops.size) (h:∀(j:Nat) (o:Oper) (i:fQ),ops[j]?=some o→is[j]?=some i→IOk p ops o i) (hd:z7 cq ops.toList is prs=true):Dm p cq (.Fy is prs) (.region id ops true)
 |seq (a b:K) (c d:Code) (h:Dm p cq a c) (h':Dm p cq b d):Dm p cq (.seq a b) (.seq c d)
 |cond (x:Operand) (x':O) (a b:K) (c d:Code) (hx:fN x=some x') (h:Dm p cq a c) (h':Dm p cq b d):Dm p cq (.cond x' a b) (.cond x c d)
 |block (id:Nat) (a:K) (c:Code) (h:Dm p cq a c):Dm p cq (.block id a) (.block id c)
 |loop (lv:List Nat) (a:K) (c:Code) (h:Dm p cq a c):Dm p cq (.loop lv a) (.loop c)
 |range (g:Operand) (g':O) (ps:Array Tmp) (lv:List Nat) (a b:K) (c d:Code) (hg:fN g=some g') (h:Dm p cq a c) (h':Dm p cq b d):Dm p cq (.range g' ps.toList lv a b) (.rangeFunc g ps c d)
 |exit (id:Nat):Dm p cq (.exit id) (.exit id)
 |ret:Dm p cq .ret .ret
 |scope (a:K) (c:Code) (h:Dm p cq a c):Dm p cq (.seq .skip a) (.scope c)
 |label (l:Nat):Dm p cq .skip (.label l)
 |bad (w:String) (c:Code):Dm p cq (.bad w) c
theorem JQ(p:Program)(adv:Adv)(ops:Array Oper)(o:Oper):IOk p ops o (xg p adv ops o):=by
 refine⟨rfl,rfl,?_⟩;unfold xg;cases h:AQ p adv o with
 |none=>exact .inl ⟨_,rfl⟩
 |some x=>exact .inr ⟨adv,h⟩
theorem GC(p:Program)(adv:Adv)(ops:Array Oper):∀l:List Oper,FB p ops l (XA p adv ops l)
 | []=>.nil
 | [o]=>.one o [] _ _ (JQ p adv ops o) .nil
 |o::o'::r=>by
  have one:=FB.one (ops:=ops) o (o'::r) _ _ (JQ p adv ops o) (GC p adv ops (o'::r));unfold XA;split
  ·rename_i e d e' d' v h1 h2 h3 h4 h5 h6
   split
   ·rename_i hc
    simp only[ud,beq_iff_eq]at hc;obtain⟨rfl,rfl⟩:=hc;split
    ·rename_i s g x z h7 h8 h9 h10
     split
     ·rename_i h11
      exact .two o o' r _ d e s g v x _ h1 h2 h3 h4 h5 h6 h7 h8 h9 z h10 h11.1 (by rintro rfl;simp[ao0]at h11) (GC p adv ops r)
     ·exact one
    ·exact one
   ·exact one
  ·exact one
theorem oS(p:Program)(cq:FuncId→Bool)(adv:Adv):∀c:Code,Dm p cq (zZ p cq adv c) c
 |.skip=>.skip
 |.region id ops draw=>by
  have all:∀adv:Adv,∀(j:Nat) (o:Oper) (i:fQ),ops[j]?=some o→(ops.toList.map (xg p adv ops))[j]?=some i→IOk p ops o i:=by
   intro adv j o i ho hi
   have:i=xg p adv ops o:=by
    simp only[zA,Array.getElem?_toList,ho]at hi;simpa using hi.symm
   subst this;exact JQ p adv ops o
  unfold zZ;cases draw with
  |false=>exact .cu id ops _ (GC p _ ops _)
  |true=>
   simp only[if_true];split
   ·rename_i hd
    exact .Fy id ops _ (by simp) (all _) hd
   ·split
    ·rename_i hd
     exact .Fy id ops _ (by simp) (all _) hd
    ·split
     ·rename_i hd
      exact .anZ id ops _ _ (by simp) (all _) hd
     ·exact .bad _ _
 |.seq a b=>.seq _ _ _ _ (oS p cq adv a) (oS p cq adv b)
 |.cond c a b=>by
  unfold zZ;cases h:fN c with
  |none=>exact .bad _ _
  |some x=>exact .cond c x _ _ _ _ h (oS p cq adv a) (oS p cq adv b)
 |.block id b=>.block id _ _ (oS p cq adv b)
 |.loop b=>.loop _ _ _ (oS p cq adv b)
 |.rangeFunc g ps a b=>by
  unfold zZ;cases h:fN g with
  |none=>exact .bad _ _
  |some x=>exact .range g x ps _ _ _ _ _ h (oS p cq adv a) (oS p cq adv b)
 |.exit id=>.exit id
 |.scope c=>.scope _ _ (oS p cq adv c)
 |.label l=>.label l
 |.goto _=>.bad _ _
 |.ret=>.ret
 |.refuse _=>.bad _ _
theorem UF(p:Program)(cq:FuncId→Bool)(res:List Nat){k:K}{c:Code}(h:Dm p cq k c):∀out ex,Dm p cq (ru res k out ex) c:=by
 induction h with
 |seq a b c d _ _ ih1 ih2=>intro out ex;exact .seq _ _ _ _ (ih1 _ _) (ih2 _ _)
 |cond x x' a b c d hx _ _ ih1 ih2=>intro out ex;exact .cond x x' _ _ _ _ hx (ih1 _ _) (ih2 _ _)
 |block id a c _ ih=>intro out ex;exact .block id _ _ (ih _ _)
 |loop lv a c _ ih=>intro out ex;exact .loop _ _ _ (ih _ _)
 |range g g' ps lv a b c d hg _ _ ih1 ih2=>intro out ex;exact .range g g' ps _ _ _ _ _ hg (ih1 _ _) (ih2 _ _)
 |skip=>intro out ex;exact .skip
 |cu id ops is h=>intro out ex;exact .cu id ops is h
 |Fy id ops is hl h hd=>intro out ex;exact .Fy id ops is hl h hd
 |anZ id ops is prs hl h hd=>intro out ex;exact .anZ id ops is prs hl h hd
 |exit id=>intro out ex;exact .exit id
 |ret=>intro out ex;exact .ret
 |scope a c _ ih=>intro out ex;exact .scope _ _ (ih _ _)
 |label l=>intro out ex;exact .label l
 |bad w c=>intro out ex;exact .bad w c
def aF(rows:List (List PV)):List (List AV):=rows.map fun r=>r.map .p
structure pO (V:View) (l:Loc) (es:Nat) (rows:List (List AV)):Prop where
 wide:∀x∈rows,x.length=es
 cap:rows.length≤l.cap
 nil:l.jc=none→l.cap=0
 hole:es=0→rows=[]→l.cap=0
 cells:∀r,l.jc=some r→∃c t,V.w.heap[r]?=some (.cells c t (0,0))∧l.cap*es≤c.size∧∀(k:Nat) (a:AV),rows.flatten[k]?=some a→∃v,c[k]?=some v∧v.oneCell'=true∧aV V a v
def Tx(s:Option Ex)(L:Loop):Prop :=
 match s with
 |none=>L.state=.ready∧L.pending=none
 |some .normal=>L.state=.busy
 |some .ret=>L.state=.done∧L.pending=some .ret
 |some (.exit i)=>L.state=.done∧L.pending=some (.exit i)
structure ZC (p:Program) (cq:FuncId→Bool) (V:View) (r:Nat) (τ:List (Nat×AV)) (nt:Nat) (ps:List Nat) (hJ body:K) (state:Option Ex) (L:Loop):Prop where
 heap:V.w.heap[r]?=some (.loop L)
 state:Tx state L
 hJ:Dm p cq hJ L.assign
 body:Dm p cq body L.body
 ps:L.params.toList=ps
 size:L.tmps.size=nt
 small:nt≤1000000
 tmps:∀t,aV V (lk τ t) (L.tmps.getD t undef)
structure ash (V:View) (r:Nat) (es:List (PV×AV)) (en:Array MapEntry) (clock:Nat):Prop where
 heap:V.w.heap[r]?=some (.map en clock)
 len:es.length=en.size
 key:∀(i:Nat) (p:PV×AV) (e:MapEntry),es[i]?=some p→en[i]?=some e→dz V.w V.ok p.1 e.key
 val:∀(i:Nat) (p:PV×AV) (e:MapEntry),es[i]?=some p→en[i]?=some e→aV V p.2 e.val
def B9(p:Program)(cq:FuncId→Bool)(V:View)(l:Loc):Obj→Prop
 |.pv es rows _=>pO V l es (aF rows)
 |.av es rows _=>pO V l es rows
 |.map es _=>∃r en clock,l.jc=some r∧ash V r es en clock
 |.loop τ nt ps hJ body state=>∃r L,l.jc=some r∧ZC p cq V r τ nt ps hJ body state L
 |.gone=>True
def Obj.live:Obj→Bool
 |.gone=>false
 |_=>true
def Obj.frozen:Obj→Bool
 |.pv _ _ f|.av _ _ f|.map _ f=>f
 |.loop ..=>false
 |.gone=>true
def View.at(V:View)(b r:Nat):Prop:=∃l o,V.own[b]?=some l∧V.σ[b]?=some o∧o.live=true∧l.jc=some r
def View.owned(V:View)(r:Nat):Prop:=∃b,V.at b r
structure cK (p:Program) (cq:FuncId→Bool) (V:View):Prop where
 len:V.own.length=V.σ.length
 obj:∀(b:Nat) (l:Loc) (o:Obj),V.own[b]?=some l→V.σ[b]?=some o→B9 p cq V l o
 one:∀b b' r,V.at b r→V.at b' r→b=b'
 apart:∀b r (o:Obj),V.at b r→V.σ[b]?=some o→o.frozen=false→¬V.ok r
 lt:∀r,V.owned r→r<V.w.heap.size
 zf:∀r,V.ok r→r<V.w.heap.size
def env(w:World):Os×Array (Nat×ByteArray)×(Nat→Question→Nat):=(w.os,w.output,w.tape)
structure Step (V V':View):Prop where
 ext:Ext V V'
 size:V.w.heap.size≤V'.w.heap.size
 keep:∀r,r<V.w.heap.size→¬V.owned r→V'.w.heap[r]?=V.w.heap[r]?
 H9:∀r,V'.ok r→V.ok r∨V.w.heap.size≤r∨V.owned r
 zh:∀r,V'.owned r→V.owned r∨V.w.heap.size≤r
 env:env V'.w=env V.w
theorem Step.refl(V:View):Step V V:=⟨Ext.refl V,rm _,fun _ _ _=>rfl,fun _ h=>.inl h,fun _ h=>.inl h,rfl⟩
theorem Step.trans{V V' V'':View}(h:Step V V')(h':Step V' V''):Step V V'' where
 ext:=h.ext.trans h'.ext
 size:=ZG h.size h'.size
 keep r hr ho:=by
  rw[h'.keep r (VI hr h.size) (fun hx=>by rcases h.zh r hx with h1|h1;exact ho h1;omega)]
  exact h.keep r hr ho
 H9 r hr:=by
  rcases h'.H9 r hr with h1|h1|h1
  ·exact h.H9 r h1
  ·exact .inr (.inl (ZG h.size h1))
  ·rcases h.zh r h1 with h2|h2
   ·exact .inr (.inr h2)
   ·exact .inr (.inl h2)
 zh r hr:=by
  rcases h'.zh r hr with h1|h1
  ·exact h.zh r h1
  ·exact .inr (ZG h.size h1)
 env:=h'.env.trans h.env
structure oW (V:View) (τ:Tm) (nt:Nat) (a:Array Value):Prop where
 size:a.size=nt
 small:nt≤1000000
 get:∀t,aV V (τ.get t) (a.getD t undef)
theorem oW.mono{V V':View}(e:Ext V V'){τ:Tm}{nt:Nat}{a:Array Value}(h:oW V τ nt a):oW V' τ nt a:=⟨h.size,h.small,fun t=>(h.get t).mono e⟩
theorem oW.put{V:View}{τ:Tm}{nt:Nat}{a:Array Value}(h:oW V τ nt a){d:Nat}(hd:d<nt){x:AV}{v:Value}(hv:aV V x v):oW V (dX τ d x) nt (a.setIfInBounds d v):=by
 refine⟨by simp[h.size],h.small,fun t=>?_⟩
 by_cases e:d=t
 ·subst e
  have:d<a.size:=by rw[h.size];exact hd
  simp[dX,Array.getD,this,hv]
 ·have:(a.setIfInBounds d v).getD t undef=a.getD t undef:=by simp[ZF,e]
  rw[this];simp only[dX,e,if_false];exact h.get t
theorem oW.keep{V:View}{τ:Tm}{nt:Nat}{a:Array Value}(h:oW V τ nt a)(lv:List Nat):oW V (τ.keep lv) nt a:=by
 refine⟨h.size,h.small,fun t=>?_⟩
 have:(τ.keep lv).get t=τ.get t∨(τ.keep lv).get t=.any:=by
  unfold Tm.keep Tm.kept tm;dsimp only
  induction lv with
  |nil=>exact .inr rfl
  |cons x r ih=>
   simp only[sP,lk];by_cases e:x=t
   ·simp[e]
   ·simpa[e]using ih
 rcases this with e|e<;>rw[e]
 ·exact h.get t
 ·exact .any _
variable {p:Program} {cq:FuncId→Bool}
theorem pO.mono{V V':View}(e:Ext V V'){l:Loc}{es:Nat}{rows:List (List AV)}(hb:∀r,l.jc=some r→V'.w.heap[r]?=V.w.heap[r]?)(h:pO V l es rows):pO V' l es rows where
 wide:=h.wide
 cap:=h.cap
 nil:=h.nil
 hole:=h.hole
 cells r hr:=by
  obtain⟨c,t,hc,hs,hv⟩:=h.cells r hr;exact⟨c,t,by rw[hb r hr];exact hc,hs,fun k a ha=>let ⟨v,h1,h2,h3⟩:=hv k a ha;⟨v,h1,h2,h3.mono e⟩⟩
theorem B9.mono{V V':View}(e:Ext V V'){l:Loc}{o:Obj}(hb:∀r,l.jc=some r→V'.w.heap[r]?=V.w.heap[r]?)(h:B9 p cq V l o):B9 p cq V' l o:=by
 cases o with
 |pv es rows f=>exact pO.mono e hb h
 |av es rows f=>exact pO.mono e hb h
 |map es f=>
  obtain⟨r,en,clock,hl,hm⟩:=h;exact⟨r,en,clock,hl,by rw[hb r hl];exact hm.heap,hm.len,fun i a b h1 h2=>(hm.key i a b h1 h2).mono e.ok e.keep,fun i a b h1 h2=>(hm.val i a b h1 h2).mono e⟩
 |loop τ nt ps hJ body s=>
  obtain⟨r,L,hl,hm⟩:=h;exact⟨r,L,hl,by rw[hb r hl];exact hm.heap,hm.state,hm.hJ,hm.body,hm.ps,hm.size,hm.small,fun t=>(hm.tmps t).mono e⟩
 |gone=>trivial
theorem View.ahU{V:View}{l:Loc}{o:Obj}{b:Nat}{s:Sh}{ok:Nat→Prop}{w:World}(h:V.sh b=some s) :
  (View.mk (V.own++[l]) (V.σ++[o]) ok w).sh b=some s:=by
 unfold View.sh at *
 have hb:b<V.σ.length:=by
  rcases VN b V.σ.length with h1|h1
  ·exact h1
  ·simp[aba h1]at h
 simp only[AN hb];exact h
theorem View.asG{V:View}{b r:Nat}(hb:V.at b r):b<V.σ.length:=by
 obtain⟨l,o,_,ho,_⟩:=hb;exact(fU.1 ho).1
theorem cK.push{V:View}(h:cK p cq V)(l:Loc)(o:Obj)(w':World)(henv:env w'=env V.w)(hsz:V.w.heap.size≤w'.heap.size)(hkeep:∀r,r<V.w.heap.size→w'.heap[r]?=V.w.heap[r]?)
  (hl:∀r,l.jc=some r→V.w.heap.size≤r∧r<w'.heap.size) (ho:Ext V ⟨V.own++[l],V.σ++[o],V.ok,w'⟩→B9 p cq ⟨V.own++[l],V.σ++[o],V.ok,w'⟩ l o) :
  cK p cq ⟨V.own++[l],V.σ++[o],V.ok,w'⟩∧Step V ⟨V.own++[l],V.σ++[o],V.ok,w'⟩:=by
 have e:Ext V ⟨V.own++[l],V.σ++[o],V.ok,w'⟩:=by
  refine⟨fun _ h=>h,fun b hb=>hkeep b (h.zf b hb),fun b s hs=>⟨s,View.ahU hs,s.le_refl ?_⟩⟩
  have hb:b<V.σ.length:=by
   unfold View.sh at hs;rcases VN b V.σ.length with h1|h1
   ·exact h1
   ·simp[aba h1]at hs
  simp only[AN (by rw[h.len];exact hb:b<V.own.length)]
 have hat:∀b r,(View.mk (V.own++[l]) (V.σ++[o]) V.ok w').at b r→V.at b r∨(b=V.σ.length∧l.jc=some r):=by
  rintro b r ⟨l1,o1,h1,h2,h3,h4⟩
  rcases VN b V.σ.length with hb|hb
  ·left
   refine⟨l1,o1,?_,?_,h3,h4⟩
   ·simpa[AN (by rw[h.len];exact hb:b<V.own.length)]using h1
   ·simpa[AN hb]using h2
  ·right
   have hlt:=(fU.1 h2).1;simp only[jE,ab2]at hlt;have hbe:b=V.σ.length:=by omega
   subst hbe
   have:l1=l:=by
    have:=h1;rw[show V.σ.length=V.own.length from h.len.symm]at this;simpa using this.symm
   subst this;exact⟨rfl,h4⟩
 refine⟨⟨?_,?_,?_,?_,?_,?_⟩,e,hsz,?_,?_,?_,henv⟩
 ·simp[h.len]
 ·intro b l1 o1 h1 h2
  rcases VN b V.σ.length with hb|hb
  ·have h1':V.own[b]?=some l1:=by simpa[AN (by rw[h.len];exact hb:b<V.own.length)]using h1
   have h2':V.σ[b]?=some o1:=by simpa[AN hb]using h2
   cases hlive:o1.live with
   |false=>cases o1<;>first|trivial|(simp[Obj.live]at hlive)
   |true=>exact B9.mono e (fun r hr=>hkeep r (h.lt r ⟨b,l1,o1,h1',h2',hlive,hr⟩)) (h.obj b l1 o1 h1' h2')
  ·have hlt:=(fU.1 h2).1
   simp only[jE,ab2]at hlt;have hbe:b=V.σ.length:=by omega
   subst hbe
   have hle:l1=l:=by
    have:=h1;rw[show V.σ.length=V.own.length from h.len.symm]at this;simpa using this.symm
   have hoe:o1=o:=by simpa using h2.symm
   subst hle;subst hoe;exact ho e
 ·intro b b' r hb hb'
  rcases hat b r hb with h1|⟨h1,h1'⟩<;>rcases hat b' r hb' with h2|⟨h2,h2'⟩
  ·exact h.one b b' r h1 h2
  ·have:=h.lt r ⟨b,h1⟩;have:=(hl r h2').1;omega
  ·have:=h.lt r ⟨b',h2⟩;have:=(hl r h1').1;omega
  ·rw[h1,h2]
 ·intro b r o1 hb ho1 hf hk
  rcases hat b r hb with h1|⟨h1,h1'⟩
  ·have hb':=View.asG h1
   exact h.apart b r o1 h1 (by simpa[AN hb']using ho1) hf hk
  ·have:=h.zf r hk;have:=(hl r h1').1;omega
 ·rintro r ⟨b,hb⟩
  rcases hat b r hb with h1|⟨h1,h1'⟩
  ·exact VI (h.lt r ⟨b,h1⟩) hsz
  ·exact(hl r h1').2
 ·intro r hr
  exact VI (h.zf r hr) hsz
 ·intro r hr _
  exact hkeep r hr
 ·intro r hr
  exact .inl hr
 ·rintro r ⟨b,hb⟩
  rcases hat b r hb with h1|⟨h1,h1'⟩
  ·exact .inl ⟨b,h1⟩
  ·exact .inr (hl r h1').1
theorem cK.QB{V:View}(h:cK p cq V){b:Nat}{l l':Loc}{o o':Obj}{w':World}(hl:V.own[b]?=some l)(ho:V.σ[b]?=some o)(hf:o.frozen=false)
  (hsh:o.sh.le o'.sh (l'=l)) (henv:env w'=env V.w) (hsz:V.w.heap.size≤w'.heap.size) (hkeep:∀r,r<V.w.heap.size→l.jc≠some r→w'.heap[r]?=V.w.heap[r]?)
  (hblk:∀r,o'.live=true→l'.jc=some r→l.jc=some r∨(V.w.heap.size≤r∧r<w'.heap.size))
  (hrel:Ext V ⟨V.own.set b l',V.σ.set b o',V.ok,w'⟩→B9 p cq ⟨V.own.set b l',V.σ.set b o',V.ok,w'⟩ l' o') :
  cK p cq ⟨V.own.set b l',V.σ.set b o',V.ok,w'⟩∧Step V ⟨V.own.set b l',V.σ.set b o',V.ok,w'⟩:=by
 have hbσ:b<V.σ.length:=(fU.1 ho).1;have hbo:b<V.own.length:=(fU.1 hl).1;have hlive:o.live=true:=by cases o<;>simp[Obj.live,Obj.frozen]at hf ⊢
 have hat0:∀r,l.jc=some r→V.at b r:=fun r hr=>⟨l,o,hl,ho,hlive,hr⟩
 have hok:∀r,V.ok r→l.jc≠some r:=fun r hr hx=>h.apart b r o (hat0 r hx) ho hf hr
 have e:Ext V ⟨V.own.set b l',V.σ.set b o',V.ok,w'⟩:=by
  refine⟨fun _ h=>h,fun r hr=>hkeep r (h.zf r hr) (hok r hr),fun c s hs=>?_⟩
  by_cases hc:c=b
  ·subst hc
   refine⟨o'.sh,by simp[View.sh,hbσ],?_⟩
   have:s=o.sh:=by simp[View.sh,ho]at hs;exact hs.symm
   subst this;have he:((View.mk (V.own.set c l') (V.σ.set c o') V.ok w').own[c]?=V.own[c]?)=(l'=l):=by rw[hl];simp[hbo]
   rw[he];exact hsh
  ·refine⟨s,?_,s.le_refl ?_⟩
   ·simp only[View.sh]at hs ⊢
    rw[Tz (fun hx=>hc hx.symm)]
    exact hs
   ·simp only[]
    rw[Tz (fun hx=>hc hx.symm)]
 have hat:∀c r,(View.mk (V.own.set b l') (V.σ.set b o') V.ok w').at c r→(c≠b∧V.at c r)∨(c=b∧o'.live=true∧l'.jc=some r):=by
  rintro c r ⟨l1,o1,h1,h2,h3,h4⟩
  by_cases hc:c=b
  ·subst hc
   have h1':l1=l':=by simpa[hbo]using h1.symm
   have h2':o1=o':=by simpa[hbσ]using h2.symm
   subst h1';subst h2';exact .inr ⟨rfl,h3,h4⟩
  ·left
   refine⟨hc,l1,o1,?_,?_,h3,h4⟩
   ·simpa[Tz (fun hx=>hc hx.symm)]using h1
   ·simpa[Tz (fun hx=>hc hx.symm)]using h2
 refine⟨⟨?_,?_,?_,?_,?_,?_⟩,e,hsz,?_,?_,?_,henv⟩
 ·simp[h.len]
 ·intro c l1 o1 h1 h2
  by_cases hc:c=b
  ·subst hc
   have h1':l1=l':=by simpa[hbo]using h1.symm
   have h2':o1=o':=by simpa[hbσ]using h2.symm
   subst h1';subst h2';exact hrel e
  ·have h1':V.own[c]?=some l1:=by simpa[Tz (fun hx=>hc hx.symm)]using h1
   have h2':V.σ[c]?=some o1:=by simpa[Tz (fun hx=>hc hx.symm)]using h2
   cases hlive1:o1.live with
   |false=>cases o1<;>first|trivial|(simp[Obj.live]at hlive1)
   |true=>
    refine B9.mono e (fun r hr=>?_) (h.obj c l1 o1 h1' h2')
    have hat1:V.at c r:=⟨l1,o1,h1',h2',hlive1,hr⟩;exact hkeep r (h.lt r ⟨c,hat1⟩) (fun hx=>hc (h.one c b r hat1 (hat0 r hx)))
 ·intro c c' r hc hc'
  rcases hat c r hc with⟨n1,h1⟩|⟨h1,h1',h1''⟩<;>rcases hat c' r hc' with⟨n2,h2⟩|⟨h2,h2',h2''⟩
  ·exact h.one c c' r h1 h2
  ·rcases hblk r h2' h2'' with hx|hx
   ·exact absurd (h.one c b r h1 (hat0 r hx)) n1
   ·have:=h.lt r ⟨c,h1⟩;omega
  ·rcases hblk r h1' h1'' with hx|hx
   ·exact absurd (h.one c' b r h2 (hat0 r hx)) n2
   ·have:=h.lt r ⟨c',h2⟩;omega
  ·rw[h1,h2]
 ·intro c r o1 hc ho1 hf1 hk
  rcases hat c r hc with⟨n1,h1⟩|⟨h1,h1',h1''⟩
  ·exact h.apart c r o1 h1 (by simpa[Tz (fun hx=>n1 hx.symm)]using ho1) hf1 hk
  ·rcases hblk r h1' h1'' with hx|hx
   ·exact hok r hk hx
   ·have:=h.zf r hk;omega
 ·rintro r ⟨c,hc⟩
  rcases hat c r hc with⟨n1,h1⟩|⟨h1,h1',h1''⟩
  ·exact VI (h.lt r ⟨c,h1⟩) hsz
  ·rcases hblk r h1' h1'' with hx|hx
   ·exact VI (h.lt r ⟨b,hat0 r hx⟩) hsz
   ·exact hx.2
 ·intro r hr
  exact VI (h.zf r hr) hsz
 ·intro r hr hno
  exact hkeep r hr (fun hx=>hno ⟨b,hat0 r hx⟩)
 ·intro r hr
  exact .inl hr
 ·rintro r ⟨c,hc⟩
  rcases hat c r hc with⟨n1,h1⟩|⟨h1,h1',h1''⟩
  ·exact .inl ⟨c,h1⟩
  ·rcases hblk r h1' h1'' with hx|hx
   ·exact .inl ⟨b,hat0 r hx⟩
   ·exact .inr hx.1
theorem jf{α β:Type}{f:α→Option β}:∀{l:List α} {r:List β},omap f l=some r→r.length=l.length∧∀(i:Nat) (a:α),l[i]?=some a→∃b,r[i]?=some b∧f a=some b
 | [],r,h=>by
  simp only[omap,bI]at h;subst h;simp
 |a::l,r,h=>by
  simp only[omap]at h;cases ha:f a with
  |none=>simp[ha]at h
  |some b=>
   cases hl:omap f l with
   |none=>simp[ha,hl]at h
   |some bs=>
    simp only[ha,hl,bI]at h;subst h;obtain⟨h1,h2⟩:=jf hl;refine⟨by simp[h1],fun i x hx=>?_⟩
    cases i with
    |zero=>simp only[QS,bI]at hx;subst hx;exact⟨b,rfl,ha⟩
    |succ i=>simpa using h2 i x (by simpa using hx)
def Obj.data:Obj→Bool
 |.pv .. |.av .. |.map ..=>true
 |_=>false
def View.blocks(V:View)(L:List Nat)(r:Nat):Prop:=∃b∈L,V.at b r∧∃o,V.σ[b]?=some o∧o.data=true
theorem View.zV{V:View}{L L':List Nat}(h:∀b∈L,b∈L'){r:Nat}(hr:V.blocks L r):V.blocks L' r :=
 let ⟨b,hb,x⟩:=hr;⟨b,h b hb,x⟩
theorem cK.om{V:View}(h:cK p cq V){b:Nat}{o:Obj}(ho:V.σ[b]?=some o):∃l,V.own[b]?=some l:=by
 have:=(fU.1 ho).1;exact⟨_,oq (by rw[h.len];exact this)⟩
theorem gT{α:Type}:∀{rows:List (List α)} {es:Nat},(∀x∈rows,x.length=es)→∀{i j:Nat} {row:List α} {a:α},rows[i]?=some row→row[j]?=some a→rows.flatten[i*es+j]?=some a
 | [],_,_,i,_,_,_,h,_=>by simp at h
 |x::rows,es,hes,i,j,row,a,h,hj=>by
  have hx:=hes x (by simp)
  cases i with
  |zero=>
   simp only[QS,bI]at h;subst h;have:=(fU.1 hj).1;simp only[Nat.zero_mul,tn,abq,AN this];exact hj
  |succ i=>
   have:=gT (rows:=rows) (es:=es) (fun y hy=>hes y (by simp[hy])) (by simpa using h) hj
   rw[abq,Fo (by rw[hx,abJ];omega),hx,show(i+1)*es+j-es=i*es+j by rw[abJ];omega]
   exact this
theorem b6{α:Type}:∀{rows:List (List α)} {es:Nat},(∀x∈rows,x.length=es)→rows.flatten.length=rows.length*es
 | [],_,_=>by simp
 |x::rows,es,h=>by
  rw[abq,jE,b6 (rows:=rows) (es:=es) (fun y hy=>h y (by simp[hy])),h x (by simp),lH,abJ]
  omega
theorem qm{α:Type}:∀{rows:List (List α)} {es:Nat},(∀x∈rows,x.length=es)→∀{k:Nat} {a:α},rows.flatten[k]?=some a→∃(i j:Nat) (row:List α),k=i*es+j∧rows[i]?=some row∧row[j]?=some a
 | [],_,_,_,_,h=>by simp at h
 |x::rows,es,hes,k,a,h=>by
  have hx:=hes x (by simp)
  rw[abq]at h;rcases VN k x.length with hk|hk
  ·exact⟨0,k,x,by simp,by simp,by rw[←AN hk];exact h⟩
  ·rw[Fo hk]at h
   obtain⟨i,j,row,h1,h2,h3⟩:=qm (rows:=rows) (es:=es) (fun y hy=>hes y (by simp[hy])) h
   exact⟨i+1,j,row,by rw[abJ];omega,by simpa using h2,h3⟩
theorem CD{rows:List (List PV)}{i:Nat}{row:List PV}(h:rows[i]?=some row):(aF rows)[i]?=some (row.map .p):=by simp[aF,h]
theorem kR{rows:List (List PV)}:(aF rows).flatten=rows.flatten.map .p:=by simp[aF,List.map_flatten]
theorem eh{rows:List (List PV)}:(aF rows).length=rows.length:=by simp[aF]
theorem jF{w:World}{r:Nat}{c:Array Value}{t:TypeId}{f:Nat×Nat}(h:w.heap[r]?=some (.cells c t f))(k:Nat):w.cell? ⟨r,k,none⟩=c[k]? := by
 simp[World.cell?,h]
theorem aV.Ak{V:View}{q:PV}{v:Value}(h:aV V (.p q) v):dz V.w V.ok q v:=by cases h;assumption
theorem Fb{V:View}(hS:cK p cq V):∀(k:Nat) (a:AV) (q:PV) (v:Value),aG V.σ k a=some q→aV V a v→dz V.w (fun r=>V.ok r∨V.blocks (refs V.σ k a) r) q v:=by
 intro k
 induction k with
 |zero=>intro a q v h;simp[aG]at h
 |succ k ih=>
  intro a q v h hv
  have list:∀(cs:List AV) (qs:List PV) (vs:List Value) (L:Nat→Prop),omap (aG V.σ k) cs=some qs→cs.length=vs.length→(∀(i:Nat) (c:AV) (v:Value),cs[i]?=some c→vs[i]?=some v→aV V c v) →
    (∀c∈cs,∀r,V.blocks (refs V.σ k c) r→L r)→qs.length=vs.length∧∀(i:Nat) (q:PV) (v:Value),qs[i]?=some q→vs[i]?=some v→dz V.w (fun r=>V.ok r∨L r) q v:=by
   intro cs qs vs L ho hl hr hL;obtain⟨h1,h2⟩:=jf ho;refine⟨by omega,fun i q v hq hv=>?_⟩
   have hi:i<cs.length:=by have:=(fU.1 hv).1;omega
   obtain⟨b,hb,hp⟩:=h2 i cs[i] (oq hi);rw[hq,bI]at hb;subst hb;refine(ih _ _ _ hp (hr i _ v (oq hi) hv)).mono (fun r hr=>?_) (fun _ _=>rfl)
   rcases hr with h|h
   ·exact .inl h
   ·exact .inr (hL _ (Zx hi) r h)
  cases hv with
  |any v=>simp[aG]at h
  |p h'=>
   simp only[aG,bI]at h;subst h;exact h'.mono (fun _ h=>.inl h) (fun _ _=>rfl)
  |aC a=>
   simp only[aG,bI]at h;subst h;exact .J1 a 0
  |fn f cs vs hl hr=>
   simp only[aG,gI]at h;obtain⟨qs,ho,rfl⟩:=h;obtain⟨h1,h2⟩:=list cs qs vs _ ho hl hr (fun c hc r hr=>hr.imp fun b hb=>⟨Jp.2 ⟨c,hc,hb.1⟩,hb.2⟩:∀c∈cs,∀r,V.blocks (refs V.σ k c) r→V.blocks (refs V.σ (k+1) (.fn f cs)) r)
   exact .fn f qs vs h1 h2
  |agg cs vs hl hone hr=>
   simp only[aG,gI]at h;obtain⟨qs,ho,rfl⟩:=h;obtain⟨h1,h2⟩:=list cs qs vs _ ho hl hr (fun c hc r hr=>hr.imp fun b hb=>⟨Jp.2 ⟨c,hc,hb.1⟩,hb.2⟩:∀c∈cs,∀r,V.blocks (refs V.σ k c) r→V.blocks (refs V.σ (k+1) (.agg cs)) r)
   exact .agg qs vs h1 hone h2
  |jC cs vs hl hr=>
   simp only[aG,gI]at h;obtain⟨qs,ho,rfl⟩:=h;obtain⟨h1,h2⟩:=list cs qs vs _ ho hl hr (fun c hc r hr=>hr.imp fun b hb=>⟨Jp.2 ⟨c,hc,hb.1⟩,hb.2⟩:∀c∈cs,∀r,V.blocks (refs V.σ k c) r→V.blocks (refs V.σ (k+1) (.jC cs)) r)
   exact .jC qs vs h1 h2
  |yield=>simp[aG]at h
  |sl b n a c s hs hn hp=>
   simp only[aG]at h
   have main:∀(o:Obj) (es:Nat) (rows:List (List AV)) (ps:List (List PV)) (l:Loc),V.σ[b]?=some o→o.sh=.vec es rows.length→o.data=true→o.live=true→V.own[b]?=some l→pO V l es rows→rows.length=n →
     ps.length=rows.length→(∀(i:Nat) (row:List AV),rows[i]?=some row→∃pr,ps[i]?=some pr∧pr.length=row.length∧∀(j:Nat) (q:PV) (x:AV) (v:Value),pr[j]?=some q→row[j]?=some x→aV V x v→dz V.w (fun r=>V.ok r∨V.blocks (refs V.σ (k+1) (.sl b n)) r) q v) →
     dz V.w (fun r=>V.ok r∨V.blocks (refs V.σ (k+1) (.sl b n)) r) (.aM ps) (.slice a n c):=by
    intro o es rows ps l ho hsh hdata hlive hl hvec hlen hpl hrow
    have hs':s=.vec es n:=by
     rw[←hlen,←hsh];simpa[View.sh,ho]using hs.symm
    obtain⟨ha,hc⟩:=hp es l hs' hl;subst hc;cases hb:l.jc with
    |none=>
     have hcap:=hvec.nil hb;have hle:=hvec.cap;have hz:ps=[]:=Jq.1 (by omega)
     have hn0:n=0:=by omega
     subst hz;subst hn0;exact .J1 _ _
    |some r=>
     by_cases hz:ps=[]
     ·subst hz
      have hn0:n=0:=by simp at hpl;omega
      subst hn0;exact .J1 _ _
     ·have hcap0:l.cap≠0:=by
       have:=hvec.cap;have:=ab5.2 hz;omega
      have ha:=ha hcap0;subst ha;obtain⟨cc,t,hheap,hsize,hcells⟩:=hvec.cells r hb
      have hwide:∀x∈ps,x.length=es:=by
       intro x hx;obtain⟨i,hi⟩:=aa5 hx;have hil:i<rows.length:=by have:=(fU.1 hi).1;omega
       obtain⟨pr,hpr,hprl,_⟩:=hrow i rows[i] (oq hil);rw[hi,bI]at hpr;subst hpr;rw[hprl];exact hvec.wide _ (Zx hil)
      have hfl:=b6 hvec.wide
      have key:=dz.aM (w:=V.w) (ok:=fun r=>V.ok r∨V.blocks (refs V.σ (k+1) (.sl b n)) r) ps r 0 l.cap es (fun k=>cc.getD k undef) hz
       (.inr ⟨b,by simp[refs],⟨l,o,hl,ho,hlive,hb⟩,o,ho,hdata⟩) (by rw[hpl];exact hvec.cap) hwide
       (fun j hj=>by
        obtain⟨v,hv1,_⟩:=hcells j (rows.flatten[j]'(by rw[hfl];rw[←hpl];exact hj)) (oq _)
        rw[jF hheap,tn,hv1];simp[ZF,hv1])
       (fun j hj=>by
        obtain⟨v,hv1,hv2,_⟩:=hcells j (rows.flatten[j]'(by rw[hfl];rw[←hpl];exact hj)) (oq _)
        simp only[ZF,hv1,VE];exact hv2)
       (fun j q hq=>by
        obtain⟨i,j',pr,rfl,hi,hj'⟩:=qm hwide hq;have hil:i<rows.length:=by have:=(fU.1 hi).1;omega
        obtain⟨pr',hpr,hprl,hrel⟩:=hrow i rows[i] (oq hil);rw[hi,bI]at hpr;subst hpr;have hjl:j'<rows[i].length:=by have:=(fU.1 hj').1;omega
        have hfx:=gT hvec.wide (oq hil) (oq hjl);obtain⟨v,hv1,_,hv3⟩:=hcells _ _ hfx;simp only[ZF,hv1,VE];exact hrel j' q _ v hj' (oq hjl) hv3)
      rw[hpl,hlen]at key;simpa[Loc.addr,hb]using key
   cases ho:V.σ[b]? with
   |none=>simp[ho]at h
   |some o=>
    obtain⟨l,hl⟩:=hS.om ho;have hor:=hS.obj b l o hl ho;cases o with
    |pv es rows f=>
     simp only[ho]at h;split at h
     ·rename_i hlen
      simp only[bI]at h;subst h;refine main _ es (aF rows) rows l ho (by simp[Obj.sh,aF]) rfl rfl hl hor (by simp[aF,hlen]) (by simp[aF]) ?_
      intro i row hrow;have hil:i<rows.length:=by have:=(fU.1 hrow).1;simpa[aF]using this
      have:row=rows[i].map .p:=by
       have:=CD (oq hil);rw[this,bI]at hrow;exact hrow.symm
      subst this;refine⟨rows[i],oq hil,by simp,fun j q x v hq hx hv=>?_⟩
      rw[zA,hq]at hx;simp only[xu,bI]at hx;subst hx;exact hv.Ak.mono (fun _ h=>.inl h) (fun _ _=>rfl)
     ·simp at h
    |av es rows f=>
     simp only[ho]at h;split at h
     ·rename_i hlen
      simp only[gI]at h;obtain⟨ps,hps,rfl⟩:=h;obtain⟨h1,h2⟩:=jf hps;refine main _ es rows ps l ho rfl rfl rfl hl hor hlen h1 ?_;intro i row hrow;obtain⟨pr,hpr,hpo⟩:=h2 i row hrow;obtain⟨h3,h4⟩:=jf hpo;refine⟨pr,hpr,h3,fun j q x v hq hx hv=>?_⟩
      obtain⟨q',hq',hpq⟩:=h4 j x hx;rw[hq,bI]at hq';subst hq';refine(ih x q v hpq hv).mono (fun r hr=>?_) (fun _ _=>rfl)
      rcases hr with h|h
      ·exact .inl h
      ·refine .inr (View.zV (fun b' hb'=>?_) h)
       simp only[refs,ho,pn,Jp];exact .inr ⟨row,mi hrow,x,mi hx,hb'⟩
     ·simp at h
    |map=>simp[ho]at h
    |loop=>simp[ho]at h
    |gone=>simp[ho]at h
  |ptr b n i o a s hs hn hp=>
   simp only[aG]at h
   have main:∀(ob:Obj) (es:Nat) (rows:List (List AV)) (row:List AV) (pr:List PV) (l:Loc),V.σ[b]?=some ob→ob.sh=.vec es rows.length→ob.data=true→ob.live=true→V.own[b]?=some l→pO V l es rows→rows.length=n →
     rows[i]?=some row→pr.length=row.length→(∀(j:Nat) (q:PV) (x:AV) (v:Value),pr[j]?=some q→row[j]?=some x→aV V x v→dz V.w (fun r=>V.ok r∨V.blocks (refs V.σ (k+1) (.ptr b n i o)) r) q v) →
     dz V.w (fun r=>V.ok r∨V.blocks (refs V.σ (k+1) (.ptr b n i o)) r) (.ptr pr o) (.pointer (some a)):=by
    intro ob es rows row pr l ho hsh hdata hlive hl hvec hlen hrow hprl hrel
    have hs':s=.vec es n:=by
     rw[←hlen,←hsh];simpa[View.sh,ho]using hs.symm
    have hil:i<rows.length:=(fU.1 hrow).1;obtain⟨r,hb,ha⟩:=hp es l hs' hl (by omega)
    subst ha;obtain⟨cc,t,hheap,hsize,hcells⟩:=hvec.cells r hb
    have key:=dz.ptr (w:=V.w) (ok:=fun r=>V.ok r∨V.blocks (refs V.σ (k+1) (.ptr b n i o)) r) pr o r (i*es) (fun k=>cc.getD (i*es+k) undef)
     (.inr ⟨b,by simp[refs],⟨l,ob,hl,ho,hlive,hb⟩,ob,ho,hdata⟩)
     (fun j hj=>by
      have hjl:j<row.length:=by omega
      have hfx:=gT hvec.wide hrow (oq hjl);obtain⟨v,hv1,_⟩:=hcells _ _ hfx;rw[jF hheap,hv1];simp[ZF,hv1])
     (fun j hj=>by
      have hjl:j<row.length:=by omega
      have hfx:=gT hvec.wide hrow (oq hjl);obtain⟨v,hv1,hv2,_⟩:=hcells _ _ hfx;simp only[ZF,hv1,VE];exact hv2)
     (fun j q hq=>by
      have hjl:j<row.length:=by have:=(fU.1 hq).1;omega
      have hfx:=gT hvec.wide hrow (oq hjl);obtain⟨v,hv1,_,hv3⟩:=hcells _ _ hfx;simp only[ZF,hv1,VE];exact hrel j q _ v hq (oq hjl) hv3)
    exact key
   cases ho:V.σ[b]? with
   |none=>simp[ho]at h
   |some ob=>
    obtain⟨l,hl⟩:=hS.om ho;have hor:=hS.obj b l ob hl ho;cases ob with
    |pv es rows f=>
     simp only[ho]at h;split at h
     ·rename_i hlen
      simp only[gI]at h;obtain⟨row,hrow,rfl⟩:=h;refine main _ es (aF rows) (row.map .p) row l ho (by simp[Obj.sh,aF]) rfl rfl hl hor (by simp[aF,hlen]) (CD hrow) (by simp) ?_
      intro j q x v hq hx hv;rw[zA,hq]at hx;simp only[xu,bI]at hx;subst hx;exact hv.Ak.mono (fun _ h=>.inl h) (fun _ _=>rfl)
     ·simp at h
    |av es rows f=>
     simp only[ho]at h;split at h
     ·rename_i hlen
      simp only[fV,gI]at h;obtain⟨row,hrow,pr,hpr,rfl⟩:=h;obtain⟨h3,h4⟩:=jf hpr;refine main _ es rows row pr l ho rfl rfl rfl hl hor hlen hrow h3 ?_;intro j q x v hq hx hv;obtain⟨q',hq',hpq⟩:=h4 j x hx;rw[hq,bI]at hq';subst hq';refine(ih x q v hpq hv).mono (fun r hr=>?_) (fun _ _=>rfl)
      rcases hr with h|h
      ·exact .inl h
      ·refine .inr (View.zV (fun b' hb'=>?_) h)
       simp only[refs,ho,hrow,VE,pn,Jp];exact .inr ⟨x,mi hx,hb'⟩
     ·simp at h
    |map=>simp[ho]at h
    |loop=>simp[ho]at h
    |gone=>simp[ho]at h
  |map b r s hs hp=>
   simp only[aG]at h;cases ho:V.σ[b]? with
   |none=>simp[ho]at h
   |some ob=>
    obtain⟨l,hl⟩:=hS.om ho;have hor:=hS.obj b l ob hl ho;cases ob with
    |map es f=>
     simp only[ho,gI]at h;obtain⟨qs,hqs,rfl⟩:=h;obtain⟨h1,h2⟩:=jf hqs;obtain⟨r',en,clock,hlb,hm⟩:=hor;have hs':s=.map:=by simpa[View.sh,ho,Obj.sh]using hs.symm
     have:r'=r:=by
      have:=hp hs' l hl;rw[hlb,bI]at this;exact this
     subst this
     have hget:∀(i:Nat) (q:PV×PV) (e:MapEntry),qs[i]?=some q→en[i]?=some e→∃x,es[i]?=some x∧q.1=x.1∧aG V.σ k x.2=some q.2:=by
      intro i q e hq he;have hi:i<es.length:=by have:=(fU.1 hq).1;omega
      obtain⟨q',hq',hpq⟩:=h2 i es[i] (oq hi);rw[hq,bI]at hq';subst hq';simp only[gI]at hpq;obtain⟨rr,hrr,rfl⟩:=hpq;exact⟨es[i],oq hi,rfl,hrr⟩
     refine .pmap qs r' en clock (.inr ⟨b,by simp[refs],⟨l,_,hl,ho,rfl,hlb⟩,_,ho,rfl⟩) hm.heap (by rw[h1];exact hm.len) ?_ ?_
     ·intro i q e hq he
      obtain⟨x,hx,h3,_⟩:=hget i q e hq he;rw[h3];exact(hm.key i x e hx he).mono (fun _ h=>.inl h) (fun _ _=>rfl)
     ·intro i q e hq he
      obtain⟨x,hx,_,h4⟩:=hget i q e hq he;refine(ih _ _ _ h4 (hm.val i x e hx he)).mono (fun r hr=>?_) (fun _ _=>rfl)
      rcases hr with h|h
      ·exact .inl h
      ·refine .inr (View.zV (fun b' hb'=>?_) h)
       simp only[refs,ho,pn,Jp];exact .inr ⟨x,mi hx,hb'⟩
    |pv=>simp[ho]at h
    |av=>simp[ho]at h
    |loop=>simp[ho]at h
    |gone=>simp[ho]at h
theorem uk(σ:ag)(b c:Nat):∃f:Obj→Obj,(∀o,(f o).sh=o.sh∧(f o).live=o.live∧(f o).data=o.data∧((f o).frozen=false→o.frozen=false)) ∧
  (∀V l,∀o,B9 p cq V l o→B9 p cq V l (f o))∧(dK σ b)[c]?=σ[c]?.map f∧(c≠b→∀o,f o=o)∧(c=b→∀o,σ[c]?=some o→o.data=true→(f o).frozen=true):=by
 by_cases hc:c=b
 ·subst hc
  cases ho:σ[c]? with
  |none=>exact⟨id,by simp,fun _ _ _ h=>h,by simp[dK,ho],by simp,by simp⟩
  |some o=>
   have hlt:c<σ.length:=(fU.1 ho).1;cases o with
   |pv es rows f=>
    refine⟨fun o=>match o with|.pv es rows _=>.pv es rows true|o=>o,?_,?_,by unfold dK;rw[ho];simp[hlt],by simp,by simp[Obj.frozen]⟩
    ·intro o;cases o<;>simp[Obj.sh,Obj.live,Obj.data,Obj.frozen]
    ·intro V l o h;cases o<;>exact h
   |av es rows f=>
    refine⟨fun o=>match o with|.av es rows _=>.av es rows true|o=>o,?_,?_,by unfold dK;rw[ho];simp[hlt],by simp,by simp[Obj.frozen]⟩
    ·intro o;cases o<;>simp[Obj.sh,Obj.live,Obj.data,Obj.frozen]
    ·intro V l o h;cases o<;>exact h
   |map es f=>
    refine⟨fun o=>match o with|.map es _=>.map es true|o=>o,?_,?_,by unfold dK;rw[ho];simp[hlt],by simp,by simp[Obj.frozen]⟩
    ·intro o;cases o<;>simp[Obj.sh,Obj.live,Obj.data,Obj.frozen]
    ·intro V l o h;cases o<;>exact h
   |loop=>exact⟨id,by simp,fun _ _ _ h=>h,by simp[dK,ho],by simp,by simp[Obj.data]⟩
   |gone=>exact⟨id,by simp,fun _ _ _ h=>h,by simp[dK,ho],by simp,by simp[Obj.data]⟩
 ·refine⟨id,by simp,fun _ _ _ h=>h,?_,by simp,by simp[hc]⟩
  simp only[Option.map_id_fun,id];unfold dK;split<;>first|rfl|(rw[Tz (fun hx=>hc hx.symm)])
theorem Mf(σ:ag)(b:Nat):(dK σ b).length=σ.length:=by
 unfold dK;split<;>simp
theorem cK.amP{V:View}(h:cK p cq V)(b:Nat) :
  cK p cq ⟨V.own,dK V.σ b,fun r=>V.ok r∨V.blocks [b] r,V.w⟩∧Step V ⟨V.own,dK V.σ b,fun r=>V.ok r∨V.blocks [b] r,V.w⟩:=by
 have e:Ext V ⟨V.own,dK V.σ b,fun r=>V.ok r∨V.blocks [b] r,V.w⟩:=by
  refine⟨fun _ h=>.inl h,fun _ _=>rfl,fun c s hs=>?_⟩
  obtain⟨f,hf,_,hg,_⟩:=uk (p:=p) (cq:=cq) V.σ b c;refine⟨s,?_,s.le_refl rfl⟩;simp only[View.sh]at hs ⊢;rw[hg];cases ho:V.σ[c]? with
  |none=>simp[ho]at hs
  |some o=>
   simp only[ho,xu,bI]at hs ⊢;rw[(hf o).1];exact hs
 have hat:∀c r,(View.mk V.own (dK V.σ b) (fun r=>V.ok r∨V.blocks [b] r) V.w).at c r→V.at c r:=by
  rintro c r ⟨l,o,h1,h2,h3,h4⟩
  obtain⟨f,hf,_,hg,_⟩:=uk (p:=p) (cq:=cq) V.σ b c;simp only[]at h2;rw[hg]at h2;cases ho:V.σ[c]? with
  |none=>simp[ho]at h2
  |some o'=>
   simp only[ho,xu,bI]at h2;subst h2;exact⟨l,o',h1,ho,by rw[←(hf o').2.1];exact h3,h4⟩
 refine⟨⟨?_,?_,?_,?_,?_,?_⟩,e,rm _,fun _ _ _=>rfl,?_,?_,rfl⟩
 ·simp[Mf,h.len]
 ·intro c l o h1 h2
  obtain⟨f,hf,hr,hg,_⟩:=uk (p:=p) (cq:=cq) V.σ b c;simp only[]at h2;rw[hg]at h2;cases ho:V.σ[c]? with
  |none=>simp[ho]at h2
  |some o'=>
   simp only[ho,xu,bI]at h2;subst h2;exact hr _ _ _ (B9.mono e (fun _ _=>rfl) (h.obj c l o' h1 ho))
 ·intro c c' r hc hc'
  exact h.one c c' r (hat c r hc) (hat c' r hc')
 ·intro c r o hc ho hf hk
  obtain⟨f,hf',_,hg,hne,heq⟩:=uk (p:=p) (cq:=cq) V.σ b c;simp only[]at ho;rw[hg]at ho;cases ho':V.σ[c]? with
  |none=>simp[ho']at ho
  |some o'=>
   simp only[ho',xu,bI]at ho;subst ho;rcases hk with hk|⟨b',hb',hat',o2,ho2,hd⟩
   ·exact h.apart c r o' (hat c r hc) ho' ((hf' o').2.2.2 hf) hk
   ·simp only[Gg]at hb'
    subst hb';have hcb:=h.one c b' r (hat c r hc) hat';subst hcb;rw[ho',bI]at ho2;subst ho2;rw[heq rfl o' ho' hd]at hf;cases hf
 ·rintro r ⟨c,hc⟩
  exact h.lt r ⟨c,hat c r hc⟩
 ·rintro r (hr|⟨b',_,hat',_⟩)
  ·exact h.zf r hr
  ·exact h.lt r ⟨b',hat'⟩
 ·rintro r (hr|⟨b',_,hat',_⟩)
  ·exact .inl hr
  ·exact .inr (.inr ⟨b',hat'⟩)
 ·rintro r ⟨c,hc⟩
  exact .inl ⟨c,hat c r hc⟩
theorem cK.freeze:∀(L:List Nat) {V:View},cK p cq V→∃ok',cK p cq ⟨V.own,bL V.σ L,ok',V.w⟩∧Step V ⟨V.own,bL V.σ L,ok',V.w⟩∧∀r,(V.ok r∨V.blocks L r)→ok' r
 | [],V,h=>⟨V.ok,h,Step.refl V,by rintro r (h|⟨b,hb,_⟩);exact h;simp at hb⟩
 |b::L,V,h=>by
  obtain⟨h1,s1⟩:=h.amP b;obtain⟨ok',h2,s2,h3⟩:=cK.freeze L h1;refine⟨ok',h2,s1.trans s2,?_⟩
  rintro r (hr|⟨b',hb',hat,o,ho,hd⟩)
  ·exact h3 r (.inl (.inl hr))
  ·rcases pn.1 hb' with rfl|hb'
   ·exact h3 r (.inl (.inr ⟨b',by simp,hat,o,ho,hd⟩))
   ·refine h3 r (.inr ⟨b',hb',?_⟩)
    obtain⟨f,hf,_,hg,_⟩:=uk (p:=p) (cq:=cq) V.σ b b';obtain⟨l,o',h4,h5,h6,h7⟩:=hat;rw[ho,bI]at h5;subst h5;exact⟨⟨l,f o,h4,by simp only[];rw[hg,ho];rfl,by rw[(hf o).2.1];exact h6,h7⟩,f o,by simp only[];rw[hg,ho];rfl,by rw[(hf o).2.2.1];exact hd⟩
theorem Gl{n:Nat}{cs:List AV}:(cs.attach.all fun⟨c,_⟩=>below n c)=true↔∀c∈cs,below n c=true:=by
 simp[Ca]
theorem aV.under{V:View}{n:Nat}{own':List Loc}{σ':ag}(hsh:∀b,b<n→σ'[b]?=V.σ[b]?)(hown:∀b,b<n→own'[b]?=V.own[b]?){a:AV}{v:Value}(h:aV V a v):AE.below n a=true→aV ⟨own',σ',V.ok,V.w⟩ a v:=by
 have sh':∀b,b<n→(View.mk own' σ' V.ok V.w).sh b=V.sh b:=fun b hb=>by simp[View.sh,hsh b hb]
 induction h with
 |any v=>intro _;exact .any v
 |p h=>intro _;exact .p h
 |aC a=>intro _;exact .aC a
 |sl b n' a c s hs hn h=>
  intro hb;simp only[AE.below,decide_eq_true_eq]at hb;exact .sl b n' a c s (by rw[sh' b hb];exact hs) hn (fun es l h1 h2=>h es l h1 (by rw[←hown b hb];exact h2))
 |ptr b n' i o a s hs hn h=>
  intro hb;simp only[AE.below,decide_eq_true_eq]at hb;exact .ptr b n' i o a s (by rw[sh' b hb];exact hs) hn (fun es l h1 h2=>h es l h1 (by rw[←hown b hb];exact h2))
 |fn f cs vs hl _ ih=>
  intro hb;rw[AE.below,Gl]at hb;exact .fn f cs vs hl fun i q v h1 h2=>ih i q v h1 h2 (hb q (mi h1))
 |yield l r s hs h=>
  intro hb;simp only[AE.below,decide_eq_true_eq]at hb;exact .yield l r s (by rw[sh' l hb];exact hs) (fun h1 x h2=>h h1 x (by rw[←hown l hb];exact h2))
 |agg cs vs hl h1 _ ih=>
  intro hb;rw[AE.below,Gl]at hb;exact .agg cs vs hl h1 fun i q v h1 h2=>ih i q v h1 h2 (hb q (mi h1))
 |jC cs vs hl _ ih=>
  intro hb;rw[AE.below,Gl]at hb;exact .jC cs vs hl fun i q v h1 h2=>ih i q v h1 h2 (hb q (mi h1))
 |map b r s hs h=>
  intro hb;simp only[AE.below,decide_eq_true_eq]at hb;exact .map b r s (by rw[sh' b hb];exact hs) (fun h1 x h2=>h h1 x (by rw[←hown b hb];exact h2))
theorem OR{n:Nat}:∀(τ:List (Nat×AV)) (t:Nat),(τ.all fun x=>below n x.2)=true→below n (lk τ t)=true
 | [],t,_=>by simp[lk,below]
 |(k,v)::r,t,h=>by
  simp only[R6,ud]at h;simp only[lk];split
  ·exact h.1
  ·exact OR r t h.2
theorem cK.drop{V:View}(h:cK p cq V){n:Nat}(hb:(V.σ.take n).all (Obj.below n)=true):cK p cq ⟨V.own.take n,V.σ.take n,V.ok,V.w⟩:=by
 have hsh:∀b,b<n→(V.σ.take n)[b]?=V.σ[b]? := fun b hb=>VK hb
 have hown:∀b,b<n→(V.own.take n)[b]?=V.own[b]? := fun b hb=>VK hb
 have lt:∀{b:Nat} {o:Obj},(V.σ.take n)[b]?=some o→b<n:=fun ho=>by
  have:=(fU.1 ho).1;simp at this;omega
 have hat:∀c r,(View.mk (V.own.take n) (V.σ.take n) V.ok V.w).at c r→V.at c r:=by
  rintro c r ⟨l,o,h1,h2,h3,h4⟩
  have hc:=lt h2;exact⟨l,o,by rw[←hown c hc];exact h1,by rw[←hsh c hc];exact h2,h3,h4⟩
 refine⟨by simp[h.len],?_,fun c c' r hc hc'=>h.one c c' r (hat c r hc) (hat c' r hc'),?_,fun r ⟨c,hc⟩=>h.lt r ⟨c,hat c r hc⟩,h.zf⟩
 ·intro c l o h1 h2
  have hc:=lt h2;have hor:=h.obj c l o (by rw[←hown c hc];exact h1) (by rw[←hsh c hc];exact h2)
  have hbo:o.below n=true:=by
   rw[Ca]at hb;exact hb o (mi h2)
  cases o with
  |pv es rows f=>
   refine⟨hor.wide,hor.cap,hor.nil,hor.hole,fun r hr=>?_⟩
   obtain⟨cc,t,h3,h4,h5⟩:=hor.cells r hr;refine⟨cc,t,h3,h4,fun k a ha=>?_⟩
   obtain⟨v,h6,h7,h8⟩:=h5 k a ha;refine⟨v,h6,h7,?_⟩;rw[kR,zA,gI]at ha;obtain⟨q,_,rfl⟩:=ha;exact .p h8.Ak
  |av es rows f=>
   refine⟨hor.wide,hor.cap,hor.nil,hor.hole,fun r hr=>?_⟩
   obtain⟨cc,t,h3,h4,h5⟩:=hor.cells r hr;refine⟨cc,t,h3,h4,fun k a ha=>?_⟩
   obtain⟨v,h6,h7,h8⟩:=h5 k a ha;refine⟨v,h6,h7,h8.under hsh hown ?_⟩;simp only[Obj.below,Ca]at hbo;obtain⟨x,hx,hax⟩:=List.mem_flatten.1 (mi ha);exact hbo x hx a hax
  |map es f=>
   obtain⟨r,en,clock,hl,hm⟩:=hor;refine⟨r,en,clock,hl,hm.heap,hm.len,hm.key,fun i a b h1 h2=>(hm.val i a b h1 h2).under hsh hown ?_⟩
   simp only[Obj.below,Ca]at hbo;exact hbo a (mi h1)
  |loop τ nt ps hJ body s=>
   obtain⟨r,L,hl,hm⟩:=hor;refine⟨r,L,hl,hm.heap,hm.state,hm.hJ,hm.body,hm.ps,hm.size,hm.small,fun t=>(hm.tmps t).under hsh hown ?_⟩
   exact OR τ t hbo
  |gone=>trivial
 ·intro c r o hc ho hf hk
  exact h.apart c r o (hat c r hc) (by rw[←hsh c (lt ho)];exact ho) hf hk
theorem Step.drop{V V':View}(h:Step V V'){n:Nat}(hn:V.σ.length≤n):Step V ⟨V'.own.take n,V'.σ.take n,V'.ok,V'.w⟩ where
 ext:=by
  refine⟨h.ext.ok,h.ext.keep,fun b s hs=>?_⟩
  obtain⟨s',hs',hle⟩:=h.ext.sh b s hs
  have hb:b<n:=by
   unfold View.sh at hs;rcases VN b V.σ.length with h1|h1
   ·omega
   ·simp[aba h1]at hs
  refine⟨s',by simpa[View.sh,VK hb]using hs',?_⟩
  simpa[VK hb]using hle
 size:=h.size
 env:=h.env
 keep:=h.keep
 H9:=h.H9
 zh:=by
  rintro r ⟨c,l,o,h1,h2,h3,h4⟩
  refine h.zh r ⟨c,l,o,?_,?_,h3,h4⟩
  ·have:c<n:=by have:=(fU.1 h1).1;simp at this;omega
   simpa[VK this]using h1
  ·have:c<n:=by have:=(fU.1 h2).1;simp at this;omega
   simpa[VK this]using h2
theorem cK.gc{V:View}(h:cK p cq V)(n:Nat)(vs:List AV):∃own',cK p cq ⟨own',AE.gc n vs V.σ,V.ok,V.w⟩∧(∀a∈vs,∀v,aV V a v→aV ⟨own',AE.gc n vs V.σ,V.ok,V.w⟩ a v) ∧
  (∀V0:View,V0.σ.length≤n→Step V0 V→Step V0 ⟨own',AE.gc n vs V.σ,V.ok,V.w⟩)∧∀r,View.owned ⟨own',AE.gc n vs V.σ,V.ok,V.w⟩ r→V.owned r:=by
 unfold AE.gc;split
 ·exact⟨V.own,h,fun _ _ _ h=>h,fun _ _ h=>h,fun _ h=>h⟩
 ·split
  ·rename_i _ hg
   simp only[Cm,ud]at hg;refine⟨V.own.take n,h.drop hg.2,fun a ha v hv=>hv.under (fun b hb=>VK hb) (fun b hb=>VK hb) ?_,fun V0 hn hs=>hs.drop hn,?_⟩
   ·rw[Ca]at hg
    exact hg.1 a ha
   ·rintro r ⟨c,l,o,h1,h2,h3,h4⟩
    refine⟨c,l,o,?_,?_,h3,h4⟩
    ·have:c<n:=by have:=(fU.1 h1).1;simp at this;omega
     simpa[VK this]using h1
    ·have:c<n:=by have:=(fU.1 h2).1;simp at this;omega
     simpa[VK this]using h2
  ·exact⟨V.own,h,fun _ _ _ h=>h,fun _ _ h=>h,fun _ h=>h⟩
theorem cK.empty(ok:Nat→Prop)(w:World)(h:∀r,ok r→r<w.heap.size):cK p cq ⟨[],[],ok,w⟩ where
 len:=rfl
 obj:=by simp
 one:=by rintro b b' r ⟨l,o,h1,_⟩;simp at h1
 apart:=by rintro b r o ⟨l,o',h1,_⟩;simp at h1
 lt:=by rintro r ⟨b,l,o,h1,_⟩;simp at h1
 zf:=h
theorem cK.ZJ{V:View}(h:cK p cq V){ok1 ok2:Nat→Prop}{Vc:View}(hs:Step ⟨[],[],ok1,V.w⟩ Vc)(h1:∀r,V.ok r→ok2 r)(h2:∀r,ok2 r→V.ok r∨V.w.heap.size≤r)(h3:∀r,ok2 r→r<Vc.w.heap.size) :
  cK p cq ⟨V.own,V.σ,ok2,Vc.w⟩∧Step V ⟨V.own,V.σ,ok2,Vc.w⟩:=by
 have hno:∀r,¬(View.mk [] [] ok1 V.w).owned r:=by rintro r ⟨b,l,o,h1,_⟩;simp at h1
 have keep:∀r,r<V.w.heap.size→Vc.w.heap[r]?=V.w.heap[r]? := fun r hr=>hs.keep r hr (hno r)
 have e:Ext V ⟨V.own,V.σ,ok2,Vc.w⟩:=⟨h1,fun b hb=>keep b (h.zf b hb),fun b s hs=>⟨s,hs,s.le_refl rfl⟩⟩
 refine⟨⟨h.len,?_,h.one,?_,?_,h3⟩,e,hs.size,fun r hr _=>keep r hr,fun r hr=>(h2 r hr).imp id .inl,fun r hr=>.inl hr,hs.env⟩
 ·intro b l o hl ho
  cases hlive:o.live with
  |false=>cases o<;>first|trivial|(simp[Obj.live]at hlive)
  |true=>exact B9.mono e (fun r hr=>keep r (h.lt r ⟨b,l,o,hl,ho,hlive,hr⟩)) (h.obj b l o hl ho)
 ·intro b r o hb ho hf hk
  rcases h2 r hk with hx|hx
  ·exact h.apart b r o hb ho hf hx
  ·have:=h.lt r ⟨b,hb⟩;omega
 ·rintro r hr
  exact VI (h.lt r hr) hs.size
end Go.AE
