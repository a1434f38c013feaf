import Derived.Test.YtpccheodgonkkaaGreatA0
import Derived.Laws.Build
import Derived.Laws.StructEq
import Derived.Laws.BytesString
set_option linter.unusedSimpArgs false
set_option linter.unusedVariables false
namespace Go.AE
variable {p:Program} {cq:FuncId→Bool}
theorem mn{t:TypeId}{s:Nat}(h:cO p t=some s)(w:World):(sizeOf t).run p w=.ok s w:=by
 unfold cO at h;simp only[ib]at h;obtain⟨i,hi,rfl⟩:=h;simp[sizeOf,typeInfo,hi]
theorem bu{t:TypeId}{d:TypeDesc}(h:p.underlying t=some d)(w:World):(underlying t).run p w=.ok d w:=by
 simp[underlying,h]
theorem V1{t:TypeId}{g:Bool}(h:om p t=some g)(w:World):(isAgg t).run p w=.ok g w:=by
 unfold om at h;simp only[ib]at h;obtain⟨d,hd,rfl⟩:=h;simp only[isAgg,Sem.run_bind,bu hd,Result.andThen_ok];cases d<;>rfl
theorem ai5{V:View}{v:Value}{q:PV}(h:ai3 v=some q):dD V.w V.ok q v:=by
 cases v<;>simp[ai3]at h
 ·subst h;exact .bool _
 ·subst h;exact .int _ _
 ·subst h;exact .str _
 ·rename_i a;cases a<;>simp at h;subst h;exact .yl
 ·rename_i r;cases r<;>simp at h;subst h;exact .IW
 ·subst h;exact .Aa
theorem ai4{v:Value}{q:PV}(h:ai3 v=some q):v.oneCell'=true:=by
 cases v<;>first|rfl|(simp[ai3]at h)
theorem xN{V:View}{v:Value}{c:AV}(h:HU v=some c):aY V c v∧v.oneCell'=true:=by
 unfold HU at h;split at h
 ·simp only[bN]at h;subst h;exact⟨.aA none,rfl⟩
 ·simp only[ib]at h
  obtain⟨q,hq,rfl⟩:=h;exact⟨.p (ai5 hq),ai4 hq⟩
theorem pz:∀{cs:List AV} {ps:List PV},ae cs=some ps→cs=ps.map .p
 | [],ps,h=>by simp only[ae,bN]at h;subst h;rfl
 |a::cs,ps,h=>by
  cases a<;>simp only[ae]at h<;>first|(simp at h;done)|skip
  simp only[ib]at h;obtain⟨qs,hq,rfl⟩:=h;rw[pz hq];rfl
theorem KK{V:View}{cs:List AV}{vs:List Value}(hl:cs.length=vs.length)(h1:∀v∈vs,v.oneCell'=true)(h:∀(i:Nat) (c:AV) (v:Value),cs[i]?=some c→vs[i]?=some v→aY V c v):aY V (zZ cs) (.agg vs.toArray):=by
 unfold zZ;split
 ·rename_i ps hps
  have:=pz hps;subst this;refine .p (.agg ps vs (by simpa using hl) h1 fun i q v hq hv=>(h i (.p q) v (by simp[hq]) hv).Bf)
 ·exact .agg cs vs hl h1 h
theorem KL{V:View}{cs:List AV}{vs:List Value}(hl:cs.length=vs.length)(h:∀(i:Nat) (c:AV) (v:Value),cs[i]?=some c→vs[i]?=some v→aY V c v):aY V (z6 cs) (.tuple vs.toArray):=by
 unfold z6;split
 ·rename_i ps hps
  have:=pz hps;subst this;refine .p (.jY ps vs (by simpa using hl) fun i q v hq hv=>(h i (.p q) v (by simp[hq]) hv).Bf)
 ·exact .jY cs vs hl h
theorem akF{V:View}{f:FuncId}{cs:List AV}{vs:List Value}(hl:cs.length=vs.length)(h:∀(i:Nat) (c:AV) (v:Value),cs[i]?=some c→vs[i]?=some v→aY V c v):aY V (Gh f cs) (.func (.func f) #[] vs.toArray):=by
 unfold Gh;split
 ·rename_i ps hps
  have:=pz hps;subst this;refine .p (.fn f ps vs (by simpa using hl) fun i q v hq hv=>(h i (.p q) v (by simp[hq]) hv).Bf)
 ·exact .fn f cs vs hl h
theorem WE{V:View}{v:Value}{c:AV}(h:ai6 v=some c):aY V c v:=by
 unfold ai6 at h;split at h
 ·rename_i cs
  simp only[ib]at h;obtain⟨as,ha,rfl⟩:=h;obtain⟨h1,h2⟩:=jx ha
  have:=KK (V:=V) (cs:=as) (vs:=cs.toList) h1 (fun v hv=>by
   obtain⟨i,hi⟩:=aa5 hv;obtain⟨b,_,hab⟩:=h2 i v hi;exact(xN (V:=V) hab).2) (fun i c v hc hv=>by
   obtain⟨b,hb,hab⟩:=h2 i v hv;rw[hc,bN]at hb;subst hb;exact(xN hab).1)
  simpa using this
 ·exact(xN h).1
theorem bt{V:View}{τ:Tm}{nt:Nat}{a:Act}(ht:pE V τ nt a.tmps){o:Operand}{x:O}(h:gn o=some x):aY V (x.val τ) (a.eval o):=by
 cases o with
 |tmp t=>simp only[gn,bN]at h;subst h;exact ht.get t
 |const v=>
  simp only[gn,ib]at h;obtain⟨c,hc,rfl⟩:=h;exact WE hc
 |global g=>simp[gn]at h
 |func f=>
  simp only[gn,bN]at h;subst h;exact .p (.fn f [] [] rfl (by simp))
theorem YP{V:View}{τ:Tm}{nt:Nat}{a:Act}(ht:pE V τ nt a.tmps){os:List Operand}{xs:List O}(h:omap gn os=some xs) :
  (xs.map (·.val τ)).length=(os.map a.eval).length∧∀(i:Nat) (c:AV) (v:Value),(xs.map (·.val τ))[i]?=some c→(os.map a.eval)[i]?=some v→aY V c v:=by
 obtain⟨h1,h2⟩:=jx h;refine⟨by simp[h1],fun i c v hc hv=>?_⟩
 rw[AR,ib]at hc hv;obtain⟨x,hx,rfl⟩:=hc;obtain⟨o,ho,rfl⟩:=hv;obtain⟨b,hb,hab⟩:=h2 i o ho;rw[hx,bN]at hb;subst hb;exact bt ht hab
theorem aY.Iv{V:View}{k:IntKind}{n:Int}{v:Value}(h:aY V (.p (.int k n)) v):v=.int k n:=by cases h with|p h=>cases h;rfl
theorem aY.Of{V:View}{b:Bool}{v:Value}(h:aY V (.p (.bool b)) v):v=.bool b:=by cases h with|p h=>cases h;rfl
theorem aY.JO{V:View}{s:ByteArray}{v:Value}(h:aY V (.p (.str s)) v):v=.string s:=by cases h with|p h=>cases h;rfl
theorem zI{V:View}{x:AV}{v:Value}{b:Bool}(h:wh x=some b)(hv:aY V x v):v=.bool b:=by
 unfold wh at h;split at h<;>simp at h
 subst h;exact hv.Of
theorem wF{V:View}{x:AV}{v:Value}{n:Nat}(h:nE x=some n)(hv:aY V x v):∃k,v=.int k n:=by
 unfold nE at h;split at h
 ·split at h
  ·rename_i k m hm
   simp only[bN]at h;subst h;exact⟨k,by rw[hv.Iv,Int.toNat_of_nonneg hm]⟩
  ·simp at h
 ·simp at h
theorem Ct{α:Type}{off size:Nat}{row r:List α}(h:part off size row=some r):off+size≤row.length∧r=(row.drop off).take size:=by
 unfold part at h;split at h
 ·rename_i hle
  simp only[bN]at h;exact⟨hle,h.symm⟩
 ·simp at h
theorem Jm{α:Type}{off size:Nat}{row r:List α}(h:part off size row=some r):r.length=size∧∀j,j<size→r[j]?=row[off+j]? := by
 obtain⟨h1,rfl⟩:=Ct h;refine⟨by simp;omega,fun j hj=>?_⟩
 rw[WC hj,abj]
theorem Qr{α β:Type}(f:α→β)(off size:Nat)(row:List α):part off size (row.map f)=(part off size row).map (List.map f):=by
 unfold part;simp only[aR];split<;>simp[acq,List.map_drop]
theorem Bc{V:View}{agg:Bool}{cs:List AV}{x:AV}(h:nb agg cs=some x){vs:List Value}(hl:cs.length=vs.length)(h1:∀v∈vs,v.oneCell'=true)(hr:∀(i:Nat) (c:AV) (v:Value),cs[i]?=some c→vs[i]?=some v→aY V c v) :
  aY V x (if agg then .agg vs.toArray else vs.headD undef)∧(agg=false→cs.length=1):=by
 unfold nb at h;cases agg with
 |true=>
  simp only[if_true,bN]at h ⊢;subst h;exact⟨KK hl h1 hr,by simp⟩
 |false=>
  simp only[lG,if_false]at h ⊢;split at h
  ·rename_i v
   simp only[bN]at h;subst h
   match vs,hl with
   | [u],_=>exact⟨hr 0 v u rfl rfl,fun _=>rfl⟩
  ·simp at h
theorem Bb(agg:Bool)(cs:List PV):(pf agg cs).map AV.p=nb agg (cs.map .p):=by
 unfold pf nb;cases agg with
 |true=>
  have:∀cs:List PV,ae (cs.map .p)=some cs:=by intro cs;induction cs with|nil=>rfl|cons a r ih=>simp[ae,ih]
  simp[zZ,this]
 |false=>
  simp only[lG,if_false]
  match cs with
  | []=>rfl
  | [v]=>rfl
  |_::_::_=>rfl
theorem CA{V:View}{t:TypeId}{s:Nat}{g:Bool}(hs:cO p t=some s)(hg:om p t=some g){r off:Nat}{vs:List Value}(hl:vs.length=s)(h1:g=false→s=1)
  (hc:∀j v,vs[j]?=some v→V.w.cell? ⟨r,off+j,none⟩=some v):(Instr.loadAt t (.pointer (some ⟨r,off,none⟩))).run p V.w=.ok (if g then .agg vs.toArray else vs.headD undef) V.w:=by
 have hadd:∀j,(Addr.mk r off none).add j=⟨r,off+j,none⟩:=by
  intro j;unfold Addr.add;split
  ·rename_i h;subst h;rfl
  ·rfl
 simp only[Instr.loadAt,Instr.sureAddr,Sem.run_bind,Sem.run_pure,Result.andThen_ok,loadVar,V1 hg];cases g with
 |true=>
  simp only[if_true,Sem.run_bind,mn hs,Result.andThen_ok];have:=run_loadCells_list (P:=p) (w:=V.w) ⟨r,off,none⟩ vs (fun j v hv=>by rw[hadd];exact hc j v hv)
  rw[hl]at this;simp[this]
 |false=>
  have hs1:=h1 rfl
  match vs,hl with
  | [u],_=>
   have:=hc 0 u rfl;simp only[ach]at this;simp[this]
  | [],hl=>simp at hl;omega
  |_::_::_,hl=>simp at hl;omega
theorem YJ{V:View}(hS:cM p cq V){t:TypeId}{s:Nat}{g:Bool}(hs:cO p t=some s)(hg:om p t=some g){a x:AV}{av:Value}(h:iu V.σ s g a=some x)(ha:aY V a av) :
  ∃v,(Instr.loadAt t av).run p V.w=.ok v V.w∧aY V x v:=by
 unfold iu at h;split at h
 ·rename_i row o
  rw[Option.map_bind]at h;simp only[ack,Bb,gB]at h;obtain⟨cs,hcs,hx⟩:=h;obtain⟨hl,hget⟩:=Jm hcs;cases ha with
  |p ha=>
   cases ha with
   |ptr _ _ r off cv hok hcell hone hrel=>
    obtain⟨hle,_⟩:=Ct hcs
    have hvs:∀(i:Nat) (c:AV) (v:Value),(cs.map AV.p)[i]?=some c→((List.range s).map fun j=>cv (o+j))[i]?=some v→aY V c v:=by
     intro i c v hc hv;rw[AR,ib]at hc hv;obtain⟨q,hq,rfl⟩:=hc;obtain⟨j,hj,rfl⟩:=hv;have hi:i<s:=by have:=(gA.1 hq).1;omega
     rw[aby hi,bN]at hj;subst hj;rw[hget i hi]at hq;exact .p (hrel _ _ hq)
    obtain⟨h1,h2⟩:=Bc hx (vs:=(List.range s).map fun j=>cv (o+j)) (by simp[hl]) (fun v hv=>by
     obtain⟨j,hj,rfl⟩:=Gq.1 hv;exact hone _ (by have:=abD.1 hj;omega)) hvs
    refine⟨_,?_,h1⟩;refine CA hs hg (by simp) (fun e=>by have:=h2 e;simp[hl]at this;exact this) ?_
    intro j v hv;rw[AR,ib]at hv;obtain⟨j',hj',rfl⟩:=hv;have hj:j<s:=by have:=(gA.1 hj').1;simpa using this
    rw[aby hj,bN]at hj';subst hj';have:=hcell (o+j) (by omega)
    rw[show off+o+j=off+(o+j) by omega]
    exact this
 ·rename_i b n i o
  have main:∀(ob:Obj) (es:Nat) (rows:List (List AV)) (l:Loc),V.σ[b]?=some ob→ob.sh=.vec es rows.length→V.own[b]?=some l→qq V l es rows→rows.length=n→(rows[i]?.bind (part o s)).bind (nb g)=some x →
    ∃v,(Instr.loadAt t av).run p V.w=.ok v V.w∧aY V x v:=by
   intro ob es rows l ho hsh hl hvec hlen hx;simp only[gB]at hx;obtain⟨cs,⟨row,hrow,hcs⟩,hx⟩:=hx;obtain⟨hcl,hget⟩:=Jm hcs;obtain⟨hle,_⟩:=Ct hcs;cases ha with
   |ptr _ _ _ _ a s' hs' hn hp=>
    have hse:s'=.vec es n:=by
     rw[←hlen,←hsh];simpa[View.sh,ho]using hs'.symm
    have hil:i<rows.length:=(gA.1 hrow).1;obtain⟨r,hb,rfl⟩:=hp es l hse hl (by omega)
    obtain⟨cc,tt,hheap,hsize,hcells⟩:=hvec.cells r hb
    have cell:∀j c,j<s→cs[j]?=some c→∃v,cc[i*es+(o+j)]?=some v∧aY V c v∧v.oneCell'=true:=by
     intro j c hj hc;rw[hget j hj]at hc;have hfx:=ir hvec.wide hrow hc;obtain⟨v,hv1,hv2,hv3⟩:=hcells _ _ hfx;exact⟨v,hv1,hv3,hv2⟩
    have hvs:∀(j:Nat) (c:AV) (v:Value),cs[j]?=some c→((List.range s).map fun j=>cc.getD (i*es+(o+j)) undef)[j]?=some v→aY V c v:=by
     intro j c v hc hv;rw[AR,ib]at hv;obtain⟨j',hj',rfl⟩:=hv;have hj:j<s:=by have:=(gA.1 hc).1;omega
     rw[aby hj,bN]at hj';subst hj';obtain⟨v,hv1,hv2,_⟩:=cell j c hj hc;simp only[aaN,hv1,Wx];exact hv2
    obtain⟨h1,h2⟩:=Bc hx (vs:=(List.range s).map fun j=>cc.getD (i*es+(o+j)) undef) (by simp[hcl]) (fun v hv=>by
     obtain⟨j,hj,rfl⟩:=Gq.1 hv;obtain⟨u,hu1,_,hu3⟩:=cell j (cs[j]'(by have:=abD.1 hj;omega)) (abD.1 hj) (o8 _)
     simp only[aaN,hu1,Wx];exact hu3) hvs
    refine⟨_,?_,h1⟩;refine CA hs hg (by simp) (fun e=>by have:=h2 e;omega) ?_
    intro j v hv;rw[AR,ib]at hv;obtain⟨j',hj',rfl⟩:=hv;have hj:j<s:=by have:=(gA.1 hj').1;simpa using this
    rw[aby hj,bN]at hj';subst hj';obtain⟨v,hv1,_⟩:=cell j (cs[j]'(by omega)) hj (o8 _)
    rw[jU hheap,show i*es+o+j=i*es+(o+j) by omega,hv1]
    simp[aaN,hv1]
  cases ho:V.σ[b]? with
  |none=>simp[ho]at h
  |some ob=>
   obtain⟨l,hl⟩:=hS.oQ ho;have hor:=hS.obj b l ob hl ho;cases ob with
   |pv es rows f=>
    simp only[ho]at h;split at h
    ·rename_i hlen
     refine main _ es (aE rows) l ho (by simp[Obj.sh,aE]) hl hor (by simp[aE,hlen]) ?_
     rw[Option.map_bind]at h;simp only[ack,Bb]at h;rw[show(aE rows)[i]?=rows[i]?.map (List.map .p) by simp[aE]]
     cases hr:rows[i]? with
     |none=>simp[hr]at h
     |some row=>
      simp only[hr,Az,x6]at h ⊢;rw[Qr];cases hp:part o s row with
      |none=>simp[hp]at h
      |some cs=>simpa[hp]using h
    ·simp at h
   |av es rows f=>
    simp only[ho]at h;split at h
    ·rename_i hlen
     exact main _ es rows l ho rfl hl hor hlen h
    ·simp at h
   |map=>simp[ho]at h
   |loop=>simp[ho]at h
   |gone=>simp[ho]at h
 ·simp at h
def CD:PV→Value
 |.int k n=>.int k n
 |.bool b=>.bool b
 |.str s=>.string s
 |_=>undef
theorem akb{op:BinOp}{k:IntKind}{a b:Int}{q:PV}(h:tM op k a b=some q)(t:TypeId)(w:World)(hs:op≠.shl∧op≠.shr):∃v,(binOp op t (.int k a) (.int k b)).run p w=.ok v w∧∀V:View,dD V.w V.ok q v:=by
 refine⟨CD q,?_⟩;cases op<;>simp only[tM]at h
 case shl=>simp at hs
 case shr=>simp at hs
 case quo=>
  split at h
  ·cases h
  ·rename_i hb
   cases h;exact⟨by simp[binOp,Op.intDiv,hb,CD],fun V=>.int _ _⟩
 case rem=>
  split at h
  ·cases h
  ·rename_i hb
   cases h;exact⟨by simp[binOp,Op.intDiv,hb,CD],fun V=>.int _ _⟩
 case add=>cases h;exact⟨by simp[binOp,Op.intArith,CD],fun V=>.int _ _⟩
 case sub=>cases h;exact⟨by simp[binOp,Op.intArith,CD],fun V=>.int _ _⟩
 case mul=>cases h;exact⟨by simp[binOp,Op.intArith,CD],fun V=>.int _ _⟩
 case and=>cases h;exact⟨by simp[binOp,Op.intBits,CD],fun V=>.int _ _⟩
 case or=>cases h;exact⟨by simp[binOp,Op.intBits,CD],fun V=>.int _ _⟩
 case xor=>cases h;exact⟨by simp[binOp,Op.intBits,CD],fun V=>.int _ _⟩
 case andNot=>cases h;exact⟨by simp[binOp,Op.intBits,CD],fun V=>.int _ _⟩
 case eql=>cases h;exact⟨by simp[binOp,Op.intCmp,CD],fun V=>.bool _⟩
 case neq=>cases h;exact⟨by simp[binOp,Op.intCmp,CD],fun V=>.bool _⟩
 case lss=>cases h;exact⟨by simp[binOp,Op.intCmp,CD],fun V=>.bool _⟩
 case leq=>cases h;exact⟨by simp[binOp,Op.intCmp,CD],fun V=>.bool _⟩
 case gtr=>cases h;exact⟨by simp[binOp,Op.intCmp,CD],fun V=>.bool _⟩
 case geq=>cases h;exact⟨by simp[binOp,Op.intCmp,CD],fun V=>.bool _⟩
theorem Rg{op:BinOp}{k k':IntKind}{a b:Int}{q:PV}(h:JN op k a b=some q)(t:TypeId)(w:World):∃v,(binOp op t (.int k a) (.int k' b)).run p w=.ok v w∧∀V:View,dD V.w V.ok q v:=by
 unfold JN at h;refine⟨CD q,?_⟩;split at h
 ·cases h
 ·rename_i hb
  cases op<;>simp only[]at h
  case shl=>cases h;exact⟨by simp[binOp,Op.shift,hb,CD],fun V=>.int _ _⟩
  case shr=>cases h;exact⟨by simp[binOp,Op.shift,hb,CD],fun V=>.int _ _⟩
  all_goals cases h
theorem al2{op:BinOp}{a b:ByteArray}{q:PV}(h:ZY op a b=some q)(t:TypeId)(w:World):∃v,(binOp op t (.string a) (.string b)).run p w=.ok v w∧∀V:View,dD V.w V.ok q v:=by
 refine⟨CD q,?_⟩;cases op<;>simp only[ZY]at h
 case add=>
  split at h
  ·cases h
  ·rename_i hb
   cases h;refine⟨?_,fun V=>.str _⟩
   simp only[binOp,Op.stringOp];rw[if_neg hb];rfl
 case eql=>cases h;exact⟨rfl,fun V=>.bool _⟩
 case neq=>cases h;exact⟨rfl,fun V=>.bool _⟩
 case lss=>cases h;exact⟨rfl,fun V=>.bool _⟩
 case leq=>cases h;exact⟨rfl,fun V=>.bool _⟩
 case gtr=>cases h;exact⟨rfl,fun V=>.bool _⟩
 case geq=>cases h;exact⟨rfl,fun V=>.bool _⟩
 all_goals cases h
theorem u5{op:BinOp}{t:TypeId}{x y:Operand}{a b:Value}(ha:a≠.nilIface)(hb:∀cs,a≠.agg cs)(w:World):(eqGuard op t x y a b).run p w=.ok () w:=by
 cases op<;>first
  |rfl
  |(cases a<;>first
    |exact absurd rfl ha
    |exact absurd rfl (hb _)
    |rfl
    |(cases b<;>rfl))
theorem ajb{op:BinOp}{q r:PV}{z:PV}(h:binop op q r=some z){V:View}{va vb:Value}(ha:dD V.w V.ok q va)(hb:dD V.w V.ok r vb)(t:TypeId)(x y:Operand)(w:World) :
  ∃v,(do eqGuard op t x y va vb;binOp op t va vb:Sem Value).run p w=.ok v w∧dD V.w V.ok z v:=by
 unfold binop at h;split at h
 ·rename_i k a k' b
  cases ha;cases hb;have hg:=u5 (p:=p) (op:=op) (t:=t) (x:=x) (y:=y) (a:=.int k a) (b:=.int k' b) (by simp) (by simp) w
  simp only[Sem.run_bind,hg,Result.andThen_ok];split at h
  ·obtain⟨v,h1,h2⟩:=Rg (p:=p) (k':=k') h t w
   exact⟨v,h1,h2 V⟩
  ·obtain⟨v,h1,h2⟩:=Rg (p:=p) (k':=k') h t w
   exact⟨v,h1,h2 V⟩
  ·rename_i h1 h2
   split at h
   ·rename_i hk
    subst hk;obtain⟨v,h3,h4⟩:=akb (p:=p) h t w ⟨h1,h2⟩;exact⟨v,h3,h4 V⟩
   ·simp at h
 ·rename_i a b
  cases ha;cases hb;have hg:=u5 (p:=p) (op:=op) (t:=t) (x:=x) (y:=y) (a:=.string a) (b:=.string b) (by simp) (by simp) w
  simp only[Sem.run_bind,hg,Result.andThen_ok];obtain⟨v,h1,h2⟩:=al2 (p:=p) h t w;exact⟨v,h1,h2 V⟩
 ·simp at h
theorem Hl{t:TypeId}(h:nB p t=some .int):∃k,p.underlying t=some (.int k):=by
 unfold nB at h;split at h<;>simp at h;exact⟨_,by assumption⟩
theorem Hm{t:TypeId}(h:nB p t=some .str):p.underlying t=some .string:=by
 unfold nB at h;split at h<;>simp at h;assumption
theorem ED{t:TypeId}(h:nB p t=some .bool):p.underlying t=some .bool:=by
 unfold nB at h;split at h<;>simp at h;assumption
theorem ahs{l:ny}{a b:PV}{r:Bool}(h:pF l a b=some r){t:TypeId}(hl:nB p t=some l){V:View}{va vb:Value}(ha:dD V.w V.ok a va)(hb:dD V.w V.ok b vb)(d:Nat)(w:World) :
  (Op.equalIn (d+1) t va vb).run p w=.ok r w:=by
 unfold pF at h;split at h
 ·rename_i k a k' b
  cases ha;cases hb;split at h
  ·rename_i hk
   subst hk;simp only[bN]at h;subst h;obtain⟨k'',hk⟩:=Hl hl;exact run_equalIn_int w d t k k'' a b hk
  ·simp at h
 ·rename_i a b
  cases ha;cases hb;simp only[bN]at h;subst h;exact run_equalIn_string w d t a b (Hm hl)
 ·rename_i a b
  cases ha;cases hb;simp only[bN]at h;subst h;exact run_equalIn_bool' w d t a b (ED hl)
 ·simp at h
theorem PG{t:TypeId}{l:ny}(h:nB p t=some l):om p t=some false:=by
 unfold nB at h;unfold om;split at h<;>rename_i hu<;>first|(rw[hu];rfl)|simp at h
theorem xm{t:TypeId}(hg:om p t=some false){xs:Array Value}{off:Nat}{v:Value}(h:xs[off]?=some v)(w:World):(Go.part t xs off).run p w=.ok v w:=by
 simp[Go.part,V1 hg,h]
theorem y1{t:TypeId}(hg:om p t=some true){s:Nat}(hs:cO p t=some s){xs:Array Value}{off:Nat}(w:World):(Go.part t xs off).run p w=.ok (.agg (xs.extract off (off+s))) w:=by
 simp[Go.part,V1 hg,mn hs]
theorem Nh{d:Nat}{t:TypeId}{fs:Array Field}(ht:p.underlying t=some (.struct fs)):nC p (d+1) t=if p.stoodInHeld t then none else Cf (nC p d) p fs.toList 0:=by
 simp only[nC,ht]
theorem Sk{d:Nat}{t:TypeId}{ls:List ny}(h:nC p (d+1) t=some ls)(ht:∀fs,p.underlying t≠some (.struct fs)):∃l,ls=[l]∧nB p t=some l:=by
 unfold nC at h;split at h
 ·rename_i fs hfs;exact absurd hfs (ht fs)
 ·simp only[ib]at h
  obtain⟨l,hl,rfl⟩:=h;exact⟨l,rfl,hl⟩
theorem Em:∀{l1 l2:List ny} {a b:List PV} {r:Bool},dF (l1++l2) a b=some r→∃r1 r2,dF l1 (a.take l1.length) (b.take l1.length)=some r1∧dF l2 (a.drop l1.length) (b.drop l1.length)=some r2∧r=(r1 && r2)
 | [],l2,a,b,r,h=>⟨true,r,by simp[dF],by simpa using h,by simp⟩
 |l::l1,l2,a,b,r,h=>by
  match a,b with
  | [],[]=>simp[dF]at h
  | [],_::_=>simp[dF]at h
  |_::_,[]=>simp[dF]at h
  |x::a,y::b=>
   simp only[F9,dF,gB,ib]at h;obtain⟨t,ht,s,hs,rfl⟩:=h;obtain⟨r1,r2,h1,h2,rfl⟩:=Em hs;exact⟨t && r1,r2,by simp[dF,ht,h1],by simpa using h2,by rw[Bool.and_assoc]⟩
theorem zM:∀{l:List ny} {a b:List PV} {r:Bool},dF l a b=some r→a.length=l.length∧b.length=l.length
 | [],a,b,r,h=>by match a,b with | [],[]=>simp | [],_::_=>simp[dF]at h|_::_,[]=>simp[dF]at h|_::_,_::_=>simp[dF]at h
 |l::ls,a,b,r,h=>by
  match a,b with
  | [],[]=>simp[dF]at h
  | [],_::_=>simp[dF]at h
  |_::_,[]=>simp[dF]at h
  |x::a,y::b=>
   simp only[dF,gB,ib]at h;obtain⟨t,ht,s,hs,rfl⟩:=h;have:=zM hs;simp[this.1,this.2]
def pM(V:View)(cs:List PV)(xs:Array Value)(off:Nat):Prop:=∀j c,cs[j]?=some c→∃v,xs[off+j]?=some v∧dD V.w V.ok c v
theorem pM.take{V:View}{cs:List PV}{xs:Array Value}{off:Nat}(h:pM V cs xs off)(n:Nat):pM V (cs.take n) xs off:=by
 intro j c hc;rw[aa3]at hc;split at hc
 ·exact h j c hc
 ·simp at hc
theorem pM.drop{V:View}{cs:List PV}{xs:Array Value}{off:Nat}(h:pM V cs xs off)(n:Nat):pM V (cs.drop n) xs (off+n):=by
 intro j c hc;rw[abj]at hc;rw[show off+n+j=off+(n+j) by omega]
 exact h _ c hc
theorem pM.extract{V:View}{cs:List PV}{xs:Array Value}{off:Nat}(h:pM V cs xs off){s:Nat}(hs:cs.length≤s):pM V cs (xs.extract off (off+s)) 0:=by
 intro j c hc;obtain⟨v,hv,hr⟩:=h j c hc;have:=(gA.1 hc).1;refine⟨v,?_,hr⟩;rw[vL,Array.getElem?_extract,if_pos]
 ·exact hv
 ·have:=(WB.1 hv).1
  omega
theorem JT{t:TypeId}{fs:Array Field}(ht:p.underlying t=some (.struct fs)):om p t=some true:=by simp[om,ht]
theorem Pb(d:Nat):∀(t:TypeId) (ls:List ny),nC p d t=some ls→cO p t=some ls.length→∀(D:Nat),d≤D→∀(V:View) (as bs:List PV) (r:Bool) (xs ys:Array Value) (off off':Nat) (w:World),dF ls as bs=some r →
  pM V as xs off→pM V bs ys off'→(do let a ←Go.part t xs off;let b ←Go.part t ys off';Op.equalIn D t a b:Sem Bool).run p w=.ok r w:=by
 induction d with
 |zero=>intro t ls h;simp[nC]at h
 |succ d ih=>
  intro t ls h hsz D hD V as bs r xs ys off off' w he ha hb;obtain⟨D,rfl⟩:∃m,D=m+1:=⟨D-1,by omega⟩
  have hlen:=zM he;by_cases hstruct:∃fs,p.underlying t=some (.struct fs)
  ·obtain⟨fs,ht⟩:=hstruct
   rw[Nh ht]at h;split at h
   ·simp at h
   ·rename_i hheld
    have hheld':p.stoodInHeld t=false:=by simpa using hheld
    have hfo:p.fieldsOf t=fs:=by simp[Program.fieldsOf,ht]
    simp only[Sem.run_bind,y1 (JT ht) hsz,Result.andThen_ok];rw[run_equalIn_struct w D t _ _ (by rw[hfo];exact ht) hheld',hfo]
    have main:∀(l:List Field) (ls:List ny) (o:Nat) (as bs:List PV) (r:Bool) (xs ys:Array Value),Cf (nC p d) p l o=some ls→dF ls as bs=some r→pM V as xs o→pM V bs ys o →
      (Op.eqFields D xs ys l).run p w=.ok r w:=by
     intro l
     induction l with
     |nil=>
      intro ls o as bs r xs ys h he _ _;simp only[Cf,bN]at h;subst h
      match as,bs,he with
      | [],[],he=>simp only[dF,bN]at he;subst he;rfl
     |cons f l ihl=>
      intro ls o as bs r xs ys h he ha hb;simp only[Cf]at h;split at h
      ·rename_i hf
       split at h
       ·rename_i l1 hl1
        split at h
        ·rename_i hs1
         simp only[ib]at h;obtain⟨l2,hl2,rfl⟩:=h;obtain⟨r1,r2,h1,h2,rfl⟩:=Em he;have e1:=ih f.type l1 hl1 hs1 D (by omega) V _ _ r1 xs ys o o w h1 (ha.take _) (hb.take _)
         have e2:=ihl l2 (o+l1.length) _ _ r2 xs ys hl2 h2 (ha.drop _) (hb.drop _);have hoff:f.offset=o:=hf.2;simp only[Op.eqFields,hf.1,ne_eq,not_false_eq_true,if_true,hoff];simp only[Sem.run_bind]at e1 ⊢;cases hp:(Go.part f.type xs o).run p w with
         |halt x w'=>rw[hp]at e1;simp[Result.andThen]at e1
         |ok a1 w1=>
          rw[hp]at e1;simp only[Result.andThen_ok]at e1 ⊢;cases hp2:(Go.part f.type ys o).run p w1 with
          |halt x w'=>rw[hp2]at e1;simp[Result.andThen]at e1
          |ok b1 w2=>
           rw[hp2]at e1;simp only[Result.andThen_ok]at e1 ⊢;rw[e1];cases r1 with
           |false=>simp
           |true=>simp[e2]
        ·simp at h
       ·simp at h
      ·simp at h
    exact main fs.toList ls 0 as bs r _ _ h he (ha.extract (by omega)) (hb.extract (by omega))
  ·obtain⟨l,rfl,hl⟩:=Sk h (fun fs hf=>hstruct ⟨fs,hf⟩)
   match as,bs,he with
   | [a],[b],he=>
    simp only[dF,x6,gB,abX,bN]at he;obtain⟨r',hr',rfl⟩:=he;obtain⟨va,hva,hra⟩:=ha 0 a rfl;obtain⟨vb,hvb,hrb⟩:=hb 0 b rfl;simp only[ach]at hva hvb;simp only[Sem.run_bind,xm (PG hl) hva,xm (PG hl) hvb,Result.andThen_ok];exact ahs hr' hl hra hrb D w
   | [],_,he=>simp[dF]at he
   |_::_,[],he=>simp[dF]at he
   | [_],_::_::_,he=>simp[dF]at he
   |_::_::_,_::_,he=>simp[dF]at he
theorem eT(r off n:Nat):(Addr.mk r off none).add n=⟨r,off+n,none⟩:=by
 unfold Addr.add;split
 ·rename_i h;subst h;rfl
 ·rfl
theorem BE_eq{t:TypeId}{f:Nat}{fd:Field}(h:BE p t f=some fd):∃fs,p.underlying t=some (.struct fs)∧fs[f]?=some fd:=by
 unfold BE at h;split at h
 ·exact⟨_,by assumption,h⟩
 ·cases h
theorem VI{V:View}{row:List PV}{o:Nat}{v:Value}(h:aY V (.p (.ptr row o)) v):∃r off,v=.pointer (some ⟨r,off+o,none⟩)∧V.ok r∧∃cv:Nat→Value,(∀k,k<row.length→V.w.cell? ⟨r,off+k,none⟩=some (cv k))∧(∀k,k<row.length→(cv k).oneCell'=true)∧∀(k:Nat) (q:PV),row[k]?=some q→dD V.w V.ok q (cv k):=by
 cases h with
 |p h=>
  cases h with
  |ptr _ _ r off cv hok hc h1 hr=>exact⟨r,off,rfl,hok,cv,hc,h1,hr⟩
theorem agq{V:View}{row:List PV}{o n:Nat}{r off:Nat}(h:aY V (.p (.ptr row o)) (.pointer (some ⟨r,off,none⟩))):aY V (.p (.ptr row (o+n))) (.pointer (some ⟨r,off+n,none⟩)):=by
 cases h with
 |p h=>
  cases h with
  |ptr _ _ _ off' cv hok hc h1 hr=>
   have:=dD.ptr row (o+n) r off' cv hok hc h1 hr;rw[←acr]at this;exact .p this
theorem WO{V:View}{b m i o n:Nat}{a:Addr}(h:aY V (.ptr b m i o) (.pointer (some a))):aY V (.ptr b m i (o+n)) (.pointer (some (a.add n))):=by
 cases h with
 |ptr _ _ _ _ a s hs hn hp=>
  refine .ptr b m i (o+n) _ s hs hn fun es l h1 h2 h3=>?_
  obtain⟨r',h4,h5⟩:=hp es l h1 h2 h3;subst h5;exact⟨r',h4,by rw[eT,acr]⟩
theorem Oa{V:View}{b m i o:Nat}{v:Value}(h:aY V (.ptr b m i o) v):∃a,v=.pointer (some a):=by cases h;exact⟨_,rfl⟩
theorem Mu{t:TypeId}{f:Nat}{fd:Field}{s:Nat}(h:BE p t f=some fd)(hs:cO p fd.type=some s)(h0:s≠0)(a:Addr)(w:World):(Instr.fieldAt t (.pointer (some a)) f).run p w=.ok (.pointer (some (a.add fd.offset))) w:=by
 obtain⟨fs,ht,hf⟩:=BE_eq h;simp only[Instr.fieldAt,Sem.run_bind,bu ht,Result.andThen_ok,hf,Instr.sureAddr,Sem.run_pure,fieldPlace,mn hs,h0,if_false]
theorem FA{V:View}{rows:List (List PV)}{v:Value}(h:aY V (.p (.aO rows)) v):∃a c,v=.slice a rows.length c∧rows.length≤c∧(rows≠[]→∃r off es,a=some ⟨r,off,none⟩∧V.ok r∧(∀x∈rows,x.length=es)∧∃cv:Nat→Value,
  (∀k,k<rows.length*es→V.w.cell? ⟨r,off+k,none⟩=some (cv k))∧(∀k,k<rows.length*es→(cv k).oneCell'=true)∧∀(k:Nat) (q:PV),rows.flatten[k]?=some q→dD V.w V.ok q (cv k)):=by
 cases h with
 |p h=>
  cases h with
  |KJ a c=>exact⟨a,c,rfl,abF _,fun h=>absurd rfl h⟩
  |aO _ r off c es cv hr hok hc hes hcell hone hrel=>exact⟨_,c,rfl,hc,fun _=>⟨r,off,es,rfl,hok,hes,cv,hcell,hone,hrel⟩⟩
theorem aoK{V:View}{vs:List AV}{us:List Value}(hl:vs.length=us.length)(hr:∀(i:Nat) (c:AV) (v:Value),vs[i]?=some c→us[i]?=some v→aY V c v){k:Nat}{c:AV}(h:vs[k]?=some c):∃u,us[k]?=some u∧aY V c u:=by
 have hk:k<us.length:=by have:=(gA.1 h).1;omega
 exact⟨us[k],o8 hk,hr k c _ h (o8 hk)⟩
section ops
variable {V:View} {τ:Tm} {nt:Nat} {a:Act} (hT:pE V τ nt a.tmps) {o:Oper} {av:AV}
include hT
theorem arB{c x y:Operand}{c' x' y':O}(hop:o.op=.pick c x y)(hc:gn c=some c')(hx:gn x=some x')(hy:gn y=some y')(hq:quiet V.σ τ (.pick c' x' y')=some av):∃v,(execOp a.eval o).run p V.w=.ok (.value v) V.w∧aY V av v:=by
 simp only[quiet,ib]at hq;obtain⟨b,hb,rfl⟩:=hq;have:=zI hb (bt hT hc);refine⟨if b then a.eval x else a.eval y,?_,?_⟩
 ·simp only[execOp,hop,this,asBool]
  cases b<;>rfl
 ·cases b
  ·exact bt hT hy
  ·exact bt hT hx
theorem arz(hS:cM p cq V){t:TypeId}{x:Operand}{x':O}{s:Nat}{g:Bool}(hop:o.op=.load t x)(hs:cO p t=some s)(hg:om p t=some g)(hx:gn x=some x')(hq:quiet V.σ τ (.load s g x')=some av):∃v,(execOp a.eval o).run p V.w=.ok (.value v) V.w∧aY V av v:=by
 obtain⟨v,h1,h2⟩:=YJ hS hs hg hq (bt hT hx);exact⟨v,by simp[execOp,hop,h1],h2⟩
theorem Jp{op:BinOp}{t ty:TypeId}{x y:Operand}{x' y':O}(hop:o.op=.binOp op t x y ty)(hx:gn x=some x')(hy:gn y=some y')(hq:quiet V.σ τ (.arith op x' y')=some av):∃v,(execOp a.eval o).run p V.w=.ok (.value v) V.w∧aY V av v:=by
 simp only[quiet]at hq;split at hq
 ·rename_i qa qb ha hb
  simp only[ib]at hq;obtain⟨z,hz,rfl⟩:=hq;have h1:=bt hT hx;rw[ha]at h1;have h2:=bt hT hy;rw[hb]at h2;obtain⟨v,h3,h4⟩:=ajb (p:=p) hz h1.Bf h2.Bf t x y V.w;refine⟨v,?_,.p h4⟩;simp only[Sem.run_bind]at h3;simp only[execOp,hop,Sem.run_bind];rw[h3];rfl
 ·cases hq
theorem apF{neg:Bool}{t ty:TypeId}{x y:Operand}{x' y':O}(hop:o.op=.binOp (if neg then .neq else .eql) t x y ty)(ht:p.underlying t=some .bool)(hx:gn x=some x')(hy:gn y=some y')(hq:quiet V.σ τ (.eqB neg x' y')=some av):∃v,(execOp a.eval o).run p V.w=.ok (.value v) V.w∧aY V av v:=by
 simp only[quiet,gB,ib]at hq;obtain⟨b1,h1,b2,h2,rfl⟩:=hq;have e1:=zI h1 (bt hT hx);have e2:=zI h2 (bt hT hy);refine⟨_,?_,.p (.bool _)⟩;have hg:=u5 (p:=p) (op:=if neg then .neq else .eql) (t:=t) (x:=x) (y:=y) (a:=.bool b1) (b:=.bool b2) (by simp) (by simp) V.w
 have he:(Op.equal t (.bool b1) (.bool b2)).run p V.w=.ok (b1 == b2) V.w:=run_equalIn_bool' V.w 9999 t b1 b2 ht;simp only[execOp,hop,e1,e2,Sem.run_bind,hg,Result.andThen_ok];cases neg<;>simp[binOp,he]
omit hT in
theorem alH(d:Nat){t:TypeId}{ps rs:Array TypeId}{vr:Bool}(ht:p.underlying t=some (.func ps rs vr))(w:World):(Op.equalIn (d+1) t .nilFunc .nilFunc).run p w=.ok true w:=by simp[Op.equalIn,bu ht]
omit hT in
theorem Zz(d:Nat){t:TypeId}{ps rs:Array TypeId}{vr:Bool}(ht:p.underlying t=some (.func ps rs vr))(f:Fn)(ms:Array Value)(vs:Array Value)(w:World):(Op.equalIn (d+1) t (.func f ms vs) .nilFunc).run p w=.ok false w:=by simp[Op.equalIn,bu ht]
theorem agt{neg:Bool}{t ty:TypeId}{x y:Operand}{x':O}{ps rs:Array TypeId}{vr:Bool}(hop:o.op=.binOp (if neg then .neq else .eql) t x y ty)(ht:p.underlying t=some (.func ps rs vr))(hx:gn x=some x')(hy:gn y=some (.c (.p .Aa)))(hq:quiet V.σ τ (.Lr neg x')=some av):∃v,(execOp a.eval o).run p V.w=.ok (.value v) V.w∧aY V av v:=by
 have h2:=bt hT hy
 have e2:a.eval y=.nilFunc:=by
  generalize a.eval y=vy at h2;cases h2 with
  |p h=>cases h;rfl
 have h1:=bt hT hx
 have fin:∀(v:Value) (r:Bool),a.eval x=v→v≠.nilIface→(∀cs,v≠.agg cs)→(∀w,(Op.equal t v .nilFunc).run p w=.ok r w)→av=.p (.bool (if neg then !r else r))→∃v,(execOp a.eval o).run p V.w=.ok (.value v) V.w∧aY V av v:=by
  intro v r e1 n1 n2 he hav;subst hav;refine⟨_,?_,.p (.bool _)⟩;have hg:=u5 (p:=p) (op:=if neg then .neq else .eql) (t:=t) (x:=x) (y:=y) (a:=v) (b:=.nilFunc) n1 n2 V.w
  simp only[execOp,hop,e1,e2,Sem.run_bind,hg,Result.andThen_ok];cases neg<;>simp[binOp,he]
 simp only[quiet]at hq;split at hq
 ·rename_i hx0
  rw[hx0]at h1;cases hq;generalize hvx:a.eval x=vx at h1;cases h1 with
  |p h=>
   cases h;exact fin .nilFunc true hvx (by simp) (by simp) (fun w=>alH 9999 ht w) (by cases neg<;>rfl)
 ·rename_i f cs hx0
  rw[hx0]at h1;cases hq;generalize hvx:a.eval x=vx at h1;cases h1 with
  |p h=>
   cases h with
   |fn _ _ vs hl hr=>exact fin _ false hvx (by simp) (by simp) (fun w=>Zz 9999 ht _ _ _ w) (by cases neg<;>rfl)
 ·rename_i f cs hx0
  rw[hx0]at h1;cases hq;generalize hvx:a.eval x=vx at h1;cases h1 with
  |fn _ _ vs hl hr=>exact fin _ false hvx (by simp) (by simp) (fun w=>Zz 9999 ht _ _ _ w) (by cases neg<;>rfl)
 ·cases hq
theorem auO{neg:Bool}{lv:List ny}{t ty:TypeId}{x y:Operand}{x' y':O}(hop:o.op=.binOp (if neg then .neq else .eql) t x y ty)(hg:p.eqGuardType p.depth t=false)(hlv:nC p 8 t=some lv)(hag:om p t=some true)(hx:gn x=some x')(hy:gn y=some y')
  (hsz:cO p t=some lv.length) (hq:quiet V.σ τ (.eqA neg lv x' y')=some av):∃v,(execOp a.eval o).run p V.w=.ok (.value v) V.w∧aY V av v:=by
 simp only[quiet]at hq;split at hq
 ·rename_i qa qb ha hb
  simp only[ib]at hq;obtain⟨z,hz,rfl⟩:=hq;have h1:=bt hT hx;rw[ha]at h1;have h2:=bt hT hy;rw[hb]at h2;obtain⟨hla,hlb⟩:=zM hz
  have aggs:∀{qs:List PV} {v:Value},aY V (.p (.agg qs)) v→∃xs:Array Value,v=.agg xs∧xs.size=qs.length∧pM V qs xs 0:=by
   intro qs v h;cases h with
   |p h=>
    cases h with
    |agg _ vs hl _ hr=>
     refine⟨vs.toArray,rfl,by simp[hl],fun j c hc=>?_⟩
     have hj:j<vs.length:=by have:=(gA.1 hc).1;omega
     exact⟨vs[j],by simp[hj],hr j c _ hc (o8 hj)⟩
  obtain⟨xs,e1,s1,c1⟩:=aggs h1;obtain⟨ys,e2,s2,c2⟩:=aggs h2;have key:=Pb 8 t lv hlv hsz 10000 (by omega) V qa qb z xs ys 0 0 V.w hz c1 c2
  simp only[Sem.run_bind,y1 hag hsz,Result.andThen_ok,vL]at key;rw[show xs.extract 0 lv.length=xs by rw[←hla,←s1];simp,show ys.extract 0 lv.length=ys by rw[←hlb,←s2];simp]at key
  refine⟨_,?_,.p (.bool _)⟩;simp only[execOp,hop,e1,e2,Sem.run_bind,run_eqGuard_agg V.w _ t x y xs ys hg,Result.andThen_ok];cases neg<;>simp[run_eql_struct,run_neq_struct,key]
 ·cases hq
theorem auR{t:TypeId}{x:Operand}{x':O}(hop:o.op=.unOp .not t x)(hx:gn x=some x')(hq:quiet V.σ τ (.not x')=some av):∃v,(execOp a.eval o).run p V.w=.ok (.value v) V.w∧aY V av v:=by
 simp only[quiet,ib]at hq;obtain⟨b,hb,rfl⟩:=hq;have:=zI hb (bt hT hx);exact⟨.bool !b,by simp[execOp,hop,this,Op.unary],.p (.bool _)⟩
theorem auQ{t:TypeId}{x:Operand}{x':O}(hop:o.op=.unOp .neg t x)(hx:gn x=some x')(hq:quiet V.σ τ (.neg x')=some av):∃v,(execOp a.eval o).run p V.w=.ok (.value v) V.w∧aY V av v:=by
 simp only[quiet]at hq;split at hq
 ·rename_i k n hv
  cases hq;have:=bt hT hx;rw[hv]at this;exact⟨.int k (k.wrap (0-n)),by simp[execOp,hop,this.Iv,Op.unary,Op.intArith],.p (.int _ _)⟩
 ·cases hq
theorem aok{t:TypeId}{x:Operand}{x':O}(hop:o.op=.unOp .xor t x)(hx:gn x=some x')(hq:quiet V.σ τ (.Li x')=some av):∃v,(execOp a.eval o).run p V.w=.ok (.value v) V.w∧aY V av v:=by
 simp only[quiet]at hq;split at hq
 ·rename_i k n hv
  simp only[tM,x6,bN]at hq;subst hq;have:=bt hT hx;rw[hv]at this;exact⟨_,by simp only[execOp,hop,this.Iv,Op.unary,Op.intBits];rfl,.p (.int _ _)⟩
 ·cases hq
theorem ars{s d:TypeId}{k1 k:IntKind}{x:Operand}{x':O}(hop:o.op=.convert s d x)(h1:p.underlying s=some (.int k1))(h2:p.underlying d=some (.int k))(hx:gn x=some x')(hq:quiet V.σ τ (.conv k x')=some av):∃v,(execOp a.eval o).run p V.w=.ok (.value v) V.w∧aY V av v:=by
 simp only[quiet]at hq;split at hq
 ·rename_i k' n hv
  cases hq;have:=bt hT hx;rw[hv]at this;exact⟨.int k (k.wrap n),by simp[execOp,hop,this.Iv,convert,bu h1,bu h2,Conv.intToInt],.p (.int _ _)⟩
 ·cases hq
theorem aol{s d:TypeId}{x:Operand}{x':O}(hop:o.op=.convert s d x)(h1:p.underlying s=some .string)(h2:p.underlying d=some .string)(hx:gn x=some x')(hq:quiet V.σ τ (.OR x')=some av):∃v,(execOp a.eval o).run p V.w=.ok (.value v) V.w∧aY V av v:=by
 simp only[quiet]at hq;split at hq
 ·rename_i s hv
  cases hq;have:=bt hT hx;rw[hv]at this;exact⟨.string s,by simp[execOp,hop,this.JO,convert,bu h1,bu h2],.p (.str _)⟩
 ·cases hq
theorem art{t:TypeId}{f:Nat}{fd:Field}{s:Nat}{x:Operand}{x':O}(hop:o.op=.fieldAddr t x f)(hf:BE p t f=some fd)(hs:cO p fd.type=some s)(h0:s≠0)(hx:gn x=some x')(hq:quiet V.σ τ (.bH fd.offset x')=some av):∃v,(execOp a.eval o).run p V.w=.ok (.value v) V.w∧aY V av v:=by
 have hv:=bt hT hx;simp only[quiet]at hq;split at hq
 ·rename_i row off he
  cases hq;rw[he]at hv;obtain⟨r,off',e,_⟩:=VI hv;rw[e]at hv;refine⟨.pointer (some ((Addr.mk r (off'+off) none).add fd.offset)),by simp[execOp,hop,e,Mu hf hs h0],?_⟩
  rw[eT];exact agq hv
 ·rename_i b n i off he
  cases hq;rw[he]at hv;obtain⟨ad,e⟩:=Oa hv;rw[e]at hv;exact⟨.pointer (some (ad.add fd.offset)),by simp[execOp,hop,e,Mu hf hs h0],WO hv⟩
 ·cases hq
theorem auP{t:TypeId}{f:Nat}{fd:Field}{s:Nat}{g:Bool}{x:Operand}{x':O}(hop:o.op=.field t x f)(hf:BE p t f=some fd)(hs:cO p fd.type=some s)(hg:om p fd.type=some g)(hx:gn x=some x')(hq:quiet V.σ τ (.fld fd.offset s g x')=some av):∃v,(execOp a.eval o).run p V.w=.ok (.value v) V.w∧aY V av v:=by
 have hv:=bt hT hx;obtain⟨fs,ht,hf'⟩:=BE_eq hf
 have main:∀(cs:List AV) (vs:List Value),a.eval x=.agg vs.toArray→cs.length=vs.length→(∀v∈vs,v.oneCell'=true)→(∀(i:Nat) (c:AV) (v:Value),cs[i]?=some c→vs[i]?=some v→aY V c v)→(part fd.offset s cs).bind (nb g)=some av→∃v,(execOp a.eval o).run p V.w=.ok (.value v) V.w∧aY V av v:=by
  intro cs vs e hl hone hr hq;simp only[gB]at hq;obtain⟨ps,hps,hq⟩:=hq;obtain⟨hle,hpe⟩:=Ct hps;obtain⟨hpl,hget⟩:=Jm hps
  have hvs:∀(i:Nat) (c:AV) (v:Value),ps[i]?=some c→((vs.drop fd.offset).take s)[i]?=some v→aY V c v:=by
   intro i c v hc hv;have hi:i<s:=by have:=(gA.1 hc).1;omega
   rw[hget i hi]at hc;rw[WC hi,abj]at hv;exact hr _ c v hc hv
  obtain⟨h1,h2⟩:=Bc hq (vs:=(vs.drop fd.offset).take s) (by rw[hpl];simp;omega) (fun v hv=>hone v (abL (abR hv))) hvs
  refine⟨_,?_,h1⟩;simp only[execOp,hop,e,Instr.field,Sem.run_bind,bu ht,Result.andThen_ok,hf',asAgg,Sem.run_pure];cases g with
  |true=>
   simp only[y1 hg hs,Result.andThen_ok,if_true]
   congr 3
   apply Array.ext';simp
  |false=>
   have:=h2 rfl;have hs1:s=1:=by omega
   subst hs1;have hlt:fd.offset<vs.length:=by omega
   simp only[xm hg (xs:=vs.toArray) (off:=fd.offset) (v:=vs[fd.offset]) (by simp[hlt]),Result.andThen_ok,lG,if_false]
   congr 3
   rw[abk hlt];rfl
 simp only[quiet]at hq;split at hq
 ·rename_i cs he
  rw[he]at hv;cases hv with
  |p hv=>
   generalize hvx:a.eval x=vx at hv;cases hv with
   |agg _ vs hl hone hr=>
    refine main (cs.map .p) vs hvx (by simp[hl]) hone (fun i c v hc hv=>?_) ?_
    ·rw[AR,ib]at hc
     obtain⟨q,hq,rfl⟩:=hc;exact .p (hr i q v hq hv)
    ·rw[Option.map_bind]at hq
     simp only[ack,Bb]at hq;rw[Qr];cases hp:part fd.offset s cs with
     |none=>simp[hp]at hq
     |some ps=>simpa[hp]using hq
 ·rename_i cs he
  rw[he]at hv;generalize hvx:a.eval x=vx at hv;cases hv with
  |agg _ vs hl hone hr=>exact main cs vs hvx hl hone hr hq
 ·cases hq
theorem aom{t:TypeId}{len:Nat}{e:TypeId}{es:Nat}{x i:Operand}{x' i':O}(hop:o.op=.indexAddr t x i)(ht:p.underlying t=some (.array len e))(he:cO p e=some es)(hx:gn x=some x')(hi:gn i=some i')(hq:quiet V.σ τ (.Pw len es x' i')=some av):∃v,(execOp a.eval o).run p V.w=.ok (.value v) V.w∧aY V av v:=by
 simp only[quiet,gB]at hq;obtain⟨n,hn,hq⟩:=hq;obtain⟨k,hk⟩:=wF hn (bt hT hi);have hv:=bt hT hx;split at hq
 ·rename_i hlt
  have run:∀ad:Addr,a.eval x=.pointer (some ad)→(execOp a.eval o).run p V.w=.ok (.value (.pointer (some (ad.add (n*es))))) V.w:=by
   intro ad hx;simp[execOp,hop,hx,hk,Instr.indexAt,asIntOf,bu ht,Instr.sureAddr,mn he];intro h;omega
  split at hq
  ·rename_i row off hx'
   cases hq;rw[hx']at hv;obtain⟨r,off',e',_⟩:=VI hv;rw[e']at hv;refine⟨_,run _ e',?_⟩;rw[eT];exact agq hv
  ·rename_i b m j off hx'
   cases hq;rw[hx']at hv;obtain⟨ad,e'⟩:=Oa hv;rw[e']at hv;exact⟨_,run _ e',WO hv⟩
  ·cases hq
 ·cases hq
theorem aon(hS:cM p cq V){t:TypeId}{e:TypeId}{es:Nat}{x i:Operand}{x' i':O}(hop:o.op=.indexAddr t x i)(ht:p.underlying t=some (.slice e))(he:cO p e=some es)(hx:gn x=some x')(hi:gn i=some i')(hq:quiet V.σ τ (.au es x' i')=some av):∃v,(execOp a.eval o).run p V.w=.ok (.value v) V.w∧aY V av v:=by
 simp only[quiet,gB]at hq;obtain⟨n,hn,hq⟩:=hq;obtain⟨k,hk⟩:=wF hn (bt hT hi);have hv:=bt hT hx
 have run:∀(ad:Addr) (len c:Nat),a.eval x=.slice (some ad) len c→n<len→(execOp a.eval o).run p V.w=.ok (.value (.pointer (some (ad.add (n*es))))) V.w:=by
  intro ad len c hx hlt;simp[execOp,hop,hx,hk,Instr.indexAt,asIntOf,bu ht,mn he];intro h;omega
 split at hq
 ·rename_i rows hx'
  simp only[gB]at hq;obtain⟨row,hrow,hq⟩:=hq;split at hq
  ·rename_i hes
   cases hq;rw[hx']at hv;obtain⟨a1,c,e1,hc,hr⟩:=FA hv;have hlt:n<rows.length:=(gA.1 hrow).1;obtain⟨r,off,es',rfl,hok,hwide,cv,hcell,hone,hrel⟩:=hr (by intro h;subst h;simp at hlt)
   have hes':es=es':=by rw[←hes];exact hwide row (mR hrow)
   subst hes';refine⟨_,run _ _ _ e1 hlt,?_⟩;rw[eT]
   have:=dD.ptr (w:=V.w) (ok:=V.ok) row 0 r (off+n*es) (fun k=>cv (n*es+k)) hok
    (fun j hj=>by
     rw[acr]
     exact hcell _ (by
      have:n*es+es≤rows.length*es:=by rw[←abI];exact ND _ hlt
      omega))
    (fun j hj=>hone _ (by
      have:n*es+es≤rows.length*es:=by rw[←abI];exact ND _ hlt
      omega))
    (fun j q hq=>hrel _ q (ir hwide hrow hq))
   exact .p this
  ·cases hq
 ·rename_i b m hx'
  split at hq
  ·rename_i hm
   cases hq;rw[hx']at hv;generalize hvx:a.eval x=vx at hv;cases hv with
   |sl _ _ ad c s hs hn' hp=>
    have hsl:=hm.2;unfold SP at hsl;cases ho:V.σ[b]? with
    |none=>simp[ho]at hsl
    |some ob=>
     obtain⟨l,hl⟩:=hS.oQ ho;have hor:=hS.obj b l ob hl ho;simp only[ho,Az]at hsl
     have fin:∀(rows:List (List AV)),qq V l es rows→ob.sh=.vec es m→rows.length=m→∃v,(execOp a.eval o).run p V.w=.ok (.value v) V.w∧aY V (.ptr b m n 0) v:=by
      intro rows hvec hsh hlen;have hse:s=.vec es m:=by rw[←hsh];simpa[View.sh,ho]using hs.symm
      obtain⟨e1,e2⟩:=hp es l hse hl;cases hb:l.jt with
      |none=>
       have:=hvec.nil hb;have:=hvec.cap;omega
      |some r=>
       have e3:ad=some ⟨r,0,none⟩:=by
        rw[e1 (by have:=hvec.cap;omega)]
        simp[Loc.addr,hb]
       subst e3;refine⟨_,run _ _ _ hvx hm.1,?_⟩;rw[eT,vL];refine .ptr b m n 0 _ s hs hn' fun es1 l1 h1 h2 h3=>?_
       rw[hl,bN]at h2;subst h2;rw[hse]at h1;cases h1;exact⟨r,hb,rfl⟩
     cases ob with
     |pv es0 rows f=>
      simp only[Obj.R9,bN,rI]at hsl;obtain⟨rfl,rfl⟩:=hsl;exact fin _ hor rfl (by simp[aE])
     |av es0 rows f=>
      simp only[Obj.R9,bN,rI]at hsl;obtain⟨rfl,rfl⟩:=hsl;exact fin _ hor rfl rfl
     |map=>simp[Obj.R9]at hsl
     |loop=>simp[Obj.R9]at hsl
     |gone=>simp[Obj.R9]at hsl
  ·cases hq
 ·cases hq
end ops
theorem y6{V:View}{x:AV}{v:Value}(h:aY V x v){cs:List AV}(hx:x=.agg cs∨∃ps,x=.p (.agg ps)∧cs=ps.map .p):∃vs:List Value,v=.agg vs.toArray∧cs.length=vs.length∧(∀v∈vs,v.oneCell'=true)∧∀(i:Nat) (c:AV) (v:Value),cs[i]?=some c→vs[i]?=some v→aY V c v:=by
 rcases hx with rfl|⟨ps,rfl,rfl⟩
 ·cases h with|agg _ vs hl hone hr=>exact⟨vs,rfl,hl,hone,hr⟩
 ·cases h with
  |p h=>
   cases h with
   |agg _ vs hl hone hr=>
    refine⟨vs,rfl,by simp[hl],hone,fun i c v hc hv=>?_⟩
    rw[AR,ib]at hc;obtain⟨q,hq,rfl⟩:=hc;exact .p (hr i q v hq hv)
theorem JZ{V:View}{x:AV}{v:Value}(h:aY V x v){cs:List AV}(hx:x=.jY cs∨∃ps,x=.p (.jY ps)∧cs=ps.map .p):∃vs:List Value,v=.tuple vs.toArray∧cs.length=vs.length∧∀(i:Nat) (c:AV) (v:Value),cs[i]?=some c→vs[i]?=some v→aY V c v:=by
 rcases hx with rfl|⟨ps,rfl,rfl⟩
 ·cases h with|jY _ vs hl hr=>exact⟨vs,rfl,hl,hr⟩
 ·cases h with
  |p h=>
   cases h with
   |jY _ vs hl hr=>
    refine⟨vs,rfl,by simp[hl],fun i c v hc hv=>?_⟩
    rw[AR,ib]at hc;obtain⟨q,hq,rfl⟩:=hc;exact .p (hr i q v hq hv)
theorem aof{V:View}{t:TypeId}{s:Nat}{g:Bool}(hs:cO p t=some s)(hg:om p t=some g){cs:List AV}{vs:List Value}(hl:cs.length=vs.length)(hone:∀v∈vs,v.oneCell'=true)(hr:∀(i:Nat) (c:AV) (v:Value),cs[i]?=some c→vs[i]?=some v→aY V c v){off:Nat}{x:AV}(h:(part off s cs).bind (nb g)=some x)(w:World) :
  ∃v,(Go.part t vs.toArray off).run p w=.ok v w∧aY V x v:=by
 simp only[gB]at h;obtain⟨ps,hps,hq⟩:=h;obtain⟨hle,hpe⟩:=Ct hps;obtain⟨hpl,hget⟩:=Jm hps
 have hvs:∀(i:Nat) (c:AV) (v:Value),ps[i]?=some c→((vs.drop off).take s)[i]?=some v→aY V c v:=by
  intro i c v hc hv;have hi:i<s:=by have:=(gA.1 hc).1;omega
  rw[hget i hi]at hc;rw[WC hi,abj]at hv;exact hr _ c v hc hv
 obtain⟨h1,h2⟩:=Bc hq (vs:=(vs.drop off).take s) (by rw[hpl];simp;omega) (fun v hv=>hone v (abL (abR hv))) hvs
 refine⟨_,?_,h1⟩;cases g with
 |true=>
  rw[y1 hg hs,if_pos rfl]
  congr 2
  apply Array.ext';simp
 |false=>
  have:=h2 rfl;have hs1:s=1:=by omega
  subst hs1;have hlt:off<vs.length:=by omega
  rw[xm hg (xs:=vs.toArray) (off:=off) (v:=vs[off]) (by simp[hlt]),if_neg (by simp)]
  congr 1
  rw[abk hlt];rfl
theorem akW{off s:Nat}{g:Bool}{cs:List PV}{x:AV}(h:((part off s cs).bind (pf g)).map .p=some x):(part off s (cs.map .p)).bind (nb g)=some x:=by
 rw[Option.map_bind]at h;simp only[ack,Bb]at h;rw[Qr];cases hp:part off s cs with
 |none=>simp[hp]at h
 |some ps=>simpa[hp]using h
theorem NP{o:Oper}{a:Act}{c:Call}(hop:o.op=.call c)(hb:c.callee=.builtin .len){v:Value}{w:World}(h:(Builtin.len_ c.argTypes o.type (c.args.map a.eval)).run p w=.ok v w):(execOp a.eval o).run p w=.ok (.value v) w:=by
 simp[execOp,hop,resolve,hb,invoke,builtin,h]
theorem als{V:View}{τ:Tm}{a:Act}{o:Oper}{av:AV}{c:Call}{t e:TypeId}{n:Nat}{x:Operand}(hop:o.op=.call c)(hb:c.callee=.builtin .len)(hty:c.argTypes[0]?=some t)(ht:p.underlying t=some (.array n e)∨∃u,p.underlying t=some (.pointer u)∧p.underlying u=some (.array n e))(hx0:c.args[0]?=some x)(hq:quiet V.σ τ (.ad6 n)=some av):∃v,(execOp a.eval o).run p V.w=.ok (.value v) V.w∧aY V av v:=by
 simp only[quiet,bN]at hq;subst hq;refine⟨.int .i64 (Int.ofNat n),NP hop hb ?_,.p (.int _ _)⟩;rcases ht with ht|⟨u,ht,hu⟩
 ·simp[Builtin.len_,hty,hx0,bu ht,goInt]
 ·simp[Builtin.len_,hty,hx0,bu ht,bu hu,goInt]
theorem ahY{V:View}(mx:Bool):∀(ys:List AV) (vs:List Value) (x z:PV) (v:Value),FU mx x ys=some z→ys.length=vs.length→(∀(i:Nat) (c:AV) (v:Value),ys[i]?=some c→vs[i]?=some v→aY V c v)→dD V.w V.ok x v →
  ∃u,(vs.foldlM (if mx then Builtin.max2 else Builtin.min2) v).run p V.w=.ok u V.w∧dD V.w V.ok z u:=by
 intro ys
 induction ys with
 |nil=>
  intro vs x z v h hl _ hv;simp only[FU,bN]at h;subst h
  match vs,hl with
  | [],_=>exact⟨v,rfl,hv⟩
 |cons y ys ih=>
  intro vs x z v h hl hr hv
  match vs,hl with
  |u::us,hl=>
   unfold FU at h;split at h
   ·rename_i heq;cases heq
   ·rename_i y' r heq
    cases heq;simp only[gB]at h;obtain⟨z',hz',h⟩:=h
    obtain⟨k,i1,k',i2,rfl,rfl,rfl⟩:∃k i1 k' i2,x=.int k i1∧y'=.int k' i2∧z'=.int k (if mx then max i1 i2 else min i1 i2):=by
     cases x<;>cases y'<;>simp[agi]at hz' ⊢
     exact⟨_,_,⟨rfl,rfl⟩,_,_,⟨rfl,rfl⟩,hz'.symm⟩
    cases hv;have:=(hr 0 _ u rfl rfl).Iv;subst this;obtain⟨u',h1,h2⟩:=ih us _ z (.int k (if mx then max i1 i2 else min i1 i2)) h (by simpa using hl) (fun i c v hc hv=>hr (i+1) c v (by simpa using hc) (by simpa using hv)) (.int _ _)
    refine⟨u',?_,h2⟩;rw[List.foldlM_cons,Sem.run_bind]
    have:((if mx=true then Builtin.max2 else Builtin.min2) (.int k i1) (.int k' i2)).run p V.w=.ok (.int k (if mx then max i1 i2 else min i1 i2)) V.w:=by
     cases mx
     ·simp only[lG,if_false,Builtin.min2,Sem.run_pure]
      congr 2
      split<;>omega
     ·simp only[if_true,Builtin.max2,Sem.run_pure]
      congr 2
      split<;>omega
    rw[this];exact h1
   ·cases h
section ops
variable {V:View} {τ:Tm} {nt:Nat} {a:Act} (hT:pE V τ nt a.tmps) {o:Oper} {av:AV}
include hT
theorem aru{t:TypeId}{len:Nat}{e:TypeId}{es:Nat}{g:Bool}{x i:Operand}{x' i':O}(hop:o.op=.index t x i)(ht:p.underlying t=some (.array len e))(he:cO p e=some es)(hg:om p e=some g)(hx:gn x=some x')(hi:gn i=some i')(hq:quiet V.σ τ (.ad1 len es g x' i')=some av):∃v,(execOp a.eval o).run p V.w=.ok (.value v) V.w∧aY V av v:=by
 simp only[quiet,gB]at hq;obtain⟨n,hn,hq⟩:=hq;obtain⟨k,hk⟩:=wF hn (bt hT hi);have hv:=bt hT hx;split at hq
 ·rename_i hlt
  have main:∀(cs:List AV) (vs:List Value),a.eval x=.agg vs.toArray→cs.length=vs.length→(∀v∈vs,v.oneCell'=true)→(∀(i:Nat) (c:AV) (v:Value),cs[i]?=some c→vs[i]?=some v→aY V c v)→(part (n*es) es cs).bind (nb g)=some av→∃v,(execOp a.eval o).run p V.w=.ok (.value v) V.w∧aY V av v:=by
   intro cs vs e1 hl hone hr hq;obtain⟨v,h1,h2⟩:=aof he hg hl hone hr hq V.w;refine⟨v,?_,h2⟩;have hlt':¬len≤n:=by omega
   simp[execOp,hop,hk,e1,Instr.index,asIntOf,bu ht,mn he,h1,hlt']
  split at hq
  ·rename_i cs he'
   rw[he']at hv;obtain⟨vs,e1,hl,hone,hr⟩:=y6 hv (.inr ⟨cs,rfl,rfl⟩);exact main _ vs e1 hl hone hr (akW hq)
  ·rename_i cs he'
   rw[he']at hv;obtain⟨vs,e1,hl,hone,hr⟩:=y6 hv (.inl rfl);exact main _ vs e1 hl hone hr hq
  ·cases hq
 ·cases hq
theorem arv{t:TypeId}{x i:Operand}{x' i':O}(hop:o.op=.index t x i)(ht:p.underlying t=some .string)(hx:gn x=some x')(hi:gn i=some i')(hq:quiet V.σ τ (.Kw x' i')=some av):∃v,(execOp a.eval o).run p V.w=.ok (.value v) V.w∧aY V av v:=by
 simp only[quiet,gB]at hq;obtain⟨n,hn,hq⟩:=hq;obtain⟨k,hk⟩:=wF hn (bt hT hi);have hv:=bt hT hx;split at hq
 ·rename_i s hs
  rw[hs]at hv;simp only[ib]at hq;obtain⟨b,hb,rfl⟩:=hq;exact⟨.int .u8 b.toNat,by simp[execOp,hop,hk,hv.JO,Instr.index,asIntOf,bu ht,hb],.p (.int _ _)⟩
 ·cases hq
theorem aib{x:Operand}{x':O}{k:Nat}(hop:o.op=.extract x k)(hx:gn x=some x')(hq:quiet V.σ τ (.extract x' k)=some av):∃v,(execOp a.eval o).run p V.w=.ok (.value v) V.w∧aY V av v:=by
 have hv:=bt hT hx
 have main:∀(cs:List AV) (vs:List Value),a.eval x=.tuple vs.toArray→cs.length=vs.length→(∀(i:Nat) (c:AV) (v:Value),cs[i]?=some c→vs[i]?=some v→aY V c v)→cs[k]?=some av→∃v,(execOp a.eval o).run p V.w=.ok (.value v) V.w∧aY V av v:=by
  intro cs vs e1 hl hr hq;obtain⟨u,hu,hru⟩:=aoK hl hr hq;exact⟨u,by simp[execOp,hop,e1,Instr.extract,hu],hru⟩
 simp only[quiet]at hq;split at hq
 ·rename_i vs he
  rw[he]at hv;obtain⟨us,e1,hl,hr⟩:=JZ hv (.inr ⟨vs,rfl,rfl⟩);exact main _ us e1 hl hr (by rw[AR];exact hq)
 ·rename_i vs he
  rw[he]at hv;obtain⟨us,e1,hl,hr⟩:=JZ hv (.inl rfl);exact main _ us e1 hl hr hq
 ·cases hq
theorem arx{c:Call}{t e:TypeId}{x:Operand}{x':O}(hop:o.op=.call c)(hb:c.callee=.builtin .len)(hty:c.argTypes[0]?=some t)(ht:p.underlying t=some (.slice e))(hx0:c.args[0]?=some x)(hx:gn x=some x')(hq:quiet V.σ τ (.bI x')=some av):∃v,(execOp a.eval o).run p V.w=.ok (.value v) V.w∧aY V av v:=by
 have hv:=bt hT hx;simp only[quiet,ib]at hq;obtain⟨n,hn,rfl⟩:=hq
 have:∃ad cp,a.eval x=.slice ad n cp:=by
  unfold bI at hn;split at hn
  ·rename_i rows he
   rw[he]at hv;obtain⟨ad,cp,e1,_⟩:=FA hv;simp only[bN]at hn;subst hn;exact⟨ad,cp,e1⟩
  ·rename_i he
   rw[he]at hv;cases hn;generalize a.eval x=vx at hv;cases hv with|aA ad=>exact⟨ad,0,rfl⟩
  ·rename_i b m he
   rw[he]at hv;split at hn
   ·cases hn
    generalize a.eval x=vx at hv;cases hv with|sl _ _ ad cp=>exact⟨ad,cp,rfl⟩
   ·cases hn
  ·cases hn
 obtain⟨ad,cp,e1⟩:=this;refine⟨.int .i64 (Int.ofNat n),NP hop hb ?_,.p (.int _ _)⟩;simp[Builtin.len_,hty,hx0,e1,bu ht,goInt]
theorem ary{c:Call}{t:TypeId}{x:Operand}{x':O}(hop:o.op=.call c)(hb:c.callee=.builtin .len)(hty:c.argTypes[0]?=some t)(ht:p.underlying t=some .string)(hx0:c.args[0]?=some x)(hx:gn x=some x')(hq:quiet V.σ τ (.KF x')=some av):∃v,(execOp a.eval o).run p V.w=.ok (.value v) V.w∧aY V av v:=by
 have hv:=bt hT hx;simp only[quiet]at hq;split at hq
 ·rename_i s he
  cases hq;rw[he]at hv;refine⟨.int .i64 (Int.ofNat s.size),NP hop hb ?_,.p (.int _ _)⟩;simp[Builtin.len_,hty,hx0,hv.JO,bu ht,goInt]
 ·cases hq
theorem arw(hS:cM p cq V){c:Call}{t k e:TypeId}{x:Operand}{x':O}(hop:o.op=.call c)(hb:c.callee=.builtin .len)(hty:c.argTypes[0]?=some t)(ht:p.underlying t=some (.map k e))(hx0:c.args[0]?=some x)(hx:gn x=some x')(hq:quiet V.σ τ (.BI x')=some av):∃v,(execOp a.eval o).run p V.w=.ok (.value v) V.w∧aY V av v:=by
 have hv:=bt hT hx;simp only[quiet,ib]at hq;obtain⟨n,hn,rfl⟩:=hq;refine⟨.int .i64 (Int.ofNat n),NP hop hb ?_,.p (.int _ _)⟩
 have key:∀(r:Nat) (en:Array MapEntry) (clock:Nat),a.eval x=.map (some r)→V.w.heap[r]?=some (.map en clock)→en.size=n→(Builtin.len_ c.argTypes o.type (c.args.map a.eval)).run p V.w=.ok (.int .i64 (Int.ofNat n)) V.w:=by
  intro r en clock e1 hm hsz;have hget:(getObj r).run p V.w=.ok (.map en clock) V.w:=by simp[getObj,Sem.run,hm]
  simp[Builtin.len_,hty,hx0,e1,bu ht,goInt,hget,hsz]
 unfold BI at hn;split at hn
 ·rename_i he
  cases hn;rw[he]at hv;cases hv with
  |p hv=>
   generalize hvx:a.eval x=vx at hv;cases hv;simp[Builtin.len_,hty,hx0,hvx,bu ht,goInt]
 ·rename_i es he
  cases hn;rw[he]at hv;cases hv with
  |p hv=>
   generalize hvx:a.eval x=vx at hv;cases hv with
   |pmap _ r en clock hok hm hl hk hr=>exact key r en clock hvx hm hl.symm
 ·rename_i b he
  rw[he]at hv;split at hn
  ·rename_i es f ho
   cases hn;generalize hvx:a.eval x=vx at hv;cases hv with
   |map _ r s hs h=>
    obtain⟨l,hl⟩:=hS.oQ ho;obtain⟨r',en,clock,hb',hm⟩:=hS.obj b l _ hl ho;have:s=.map:=by simpa[View.sh,ho,Obj.sh]using hs.symm
    have hrr:=h this l hl;rw[hb',bN]at hrr;subst hrr;exact key r' en clock hvx hm.heap hm.len.symm
  ·cases hn
 ·cases hn
theorem arA{f:FuncId}{caps:Array Operand}{caps':List O}(hop:o.op=.makeFunc (.func f) #[] caps)(hc:omap gn caps.toList=some caps')(hq:quiet V.σ τ (.AD f caps')=some av):∃v,(execOp a.eval o).run p V.w=.ok (.value v) V.w∧aY V av v:=by
 simp only[quiet,bN]at hq;subst hq;obtain⟨hl,hr⟩:=YP hT hc;refine⟨.func (.func f) #[] (caps.toList.map a.eval).toArray,?_,akF hl hr⟩;simp[execOp,hop,Instr.makeFunc];apply Array.ext';simp
theorem alv{x:Operand}{x':O}(hop:o.op=.nilCheck x)(hx:gn x=some x')(hq:quiet V.σ τ (.Hr x')=some av):∃v,(execOp a.eval o).run p V.w=.ok (.value v) V.w∧aY V av v:=by
 have hv:=bt hT hx;simp only[quiet]at hq;generalize x'.val τ=z at hv hq;refine⟨a.eval x,?_,?_⟩
 ·have:(a.eval x≠.pointer none∧a.eval x≠.nilIface∧a.eval x≠.nilFunc∧∀m b c,a.eval x≠.func (.method m) b c):=by
   generalize a.eval x=vx at hv;cases hv with
   |any=>simp at hq
   |p h=>cases h<;>simp at hq ⊢
   |_=>simp
  simp only[execOp,hop]
  split<;>rename_i h<;>first
   |(exact absurd h this.1)
   |(exact absurd h this.2.1)
   |(exact absurd h this.2.2.1)
   |(exact absurd h (this.2.2.2 _ _ _))
   |rfl
 ·split at hq<;>first
   |(cases hq;done)
   |(cases hq;exact hv)
theorem Y4{c:Call}{mx:Bool}{args:List O}(hop:o.op=.call c)(hb:c.callee=.builtin (if mx then .max else .min))(hc:omap gn c.args.toList=some args)(hq:quiet V.σ τ (.wE mx args)=some av):∃v,(execOp a.eval o).run p V.w=.ok (.value v) V.w∧aY V av v:=by
 simp only[quiet]at hq;split at hq
 ·rename_i x r he
  simp only[ib]at hq;obtain⟨z,hz,rfl⟩:=hq;obtain⟨hl,hr⟩:=YP hT hc;rw[he]at hl hr
  match hvs:c.args.toList.map a.eval,hl with
  |v::vs,hl=>
   rw[hvs]at hr;obtain⟨u,h1,h2⟩:=ahY (p:=p) mx r vs x z v hz (by simpa using hl) (fun i c v hc hv=>hr (i+1) c v (by simpa using hc) (by simpa using hv)) (hr 0 _ v rfl rfl).Bf
   refine⟨u,?_,.p h2⟩;have hargs:(c.args.map a.eval).toList=v::vs:=by rw[abQ];exact hvs
   cases mx with
   |true=>
    simp only[if_true]at hb h1;simp[execOp,hop,resolve,hb,invoke,builtin,Builtin.max_,hvs,h1]
   |false=>
    simp only[lG,if_false]at hb h1;simp[execOp,hop,resolve,hb,invoke,builtin,Builtin.min_,hvs,h1]
 ·cases hq
end ops
theorem zj{V:View}{x:AV}{v:Value}{n y:Nat}(h:nE x=some n)(hv:aY V x v)(hle:n≤y)(code:BoundsCode)(w:World):(Instr.sliceBound v y code).run p w=.ok n w:=by
 obtain⟨k,rfl⟩:=wF h hv;have:(0:Int)≤(n:Int)∧(n:Int)≤(y:Int):=by omega
 simp[Instr.sliceBound,asIntOf];intro h;omega
def Ue(V:View)(x:Option AV)(v:Option Value):Prop:=match x,v with
 |none,none=>True
 |some a,some b=>aY V a b
 |_,_=>False
theorem AU{len cap:Nat}{lo hi mx:Option AV}{b:Nat×Nat×Nat}(h:bounds len cap lo hi mx=some b):l4 cap mx=some b.2.2∧(if mx.isSome && hi.isNone then none else l4 len hi)=some b.2.1∧l4 0 lo=some b.1∧b.2.2≤cap∧b.2.1≤b.2.2∧b.1≤b.2.1:=by
 simp only[bounds,gB]at h;obtain⟨m,hm,h',hh,l,hl,h⟩:=h;split at h
 ·rename_i hle
  cases h;exact⟨hm,hh,hl,hle⟩
 ·cases h
theorem Ap{V:View}{isSlice:Bool}{len cap:Nat}{lo hi mx:Option AV}{vlo vhi vmx:Option Value}{b:Nat×Nat×Nat}(h0:l4 cap mx=some b.2.2)(hh:(if mx.isSome && hi.isNone then none else l4 len hi)=some b.2.1)(hl:l4 0 lo=some b.1)(hle:b.2.2≤cap∧b.2.1≤b.2.2∧b.1≤b.2.1)
  (h1:Ue V lo vlo) (h2:Ue V hi vhi) (h3:Ue V mx vmx) (w:World):(Instr.sliceBounds isSlice len cap vlo vhi vmx).run p w=.ok b w:=by
 obtain⟨l,h,m⟩:=b;dsimp only at h0 hh hl hle;unfold Instr.sliceBounds
 match mx,vmx,h3,hi,vhi,h2 with
 |some a,some b,h3,some c,some d,h2=>
  simp only[Option.isSome_some,Option.isNone_some,Wy,lG,if_false]at hh;have e1:=zj (p:=p) h0 h3 hle.1 (if isSlice=true then .slice3Acap else .slice3Alen) w
  have e2:=zj (p:=p) hh h2 hle.2.1 .slice3B w
  match lo,vlo,h1 with
  |some e,some f,h1=>
   have e3:=zj (p:=p) hl h1 hle.2.2 .slice3C w;simp[e1,e2,e3]
  |none,none,_=>
   simp only[l4,bN]at hl;subst hl;simp[e1,e2]
 |none,none,_,some c,some d,h2=>
  simp only[acb,BR,lG,if_false]at hh;simp only[l4,bN]at h0;subst h0;have e2:=zj (p:=p) hh h2 hle.2.1 (if isSlice=true then .sliceAcap else .sliceAlen) w
  match lo,vlo,h1 with
  |some e,some f,h1=>
   have e3:=zj (p:=p) hl h1 hle.2.2 .sliceB w;simp[e2,e3]
  |none,none,_=>
   simp only[l4,bN]at hl;subst hl;simp[e2]
 |none,none,_,none,none,_=>
  simp only[acb,BR,lG,if_false,l4,bN]at hh;simp only[l4,bN]at h0;subst h0;subst hh
  match lo,vlo,h1 with
  |some e,some f,h1=>
   have e3:=zj (p:=p) hl h1 hle.2.2 .sliceB w;simp[e3]
  |none,none,_=>
   simp only[l4,bN]at hl;subst hl;simp
 |some a,some b,_,none,none,_=>simp at hh
theorem Ij{α:Type}{rows:List (List α)}{es:Nat}(hes:∀x∈rows,x.length=es)(l h:Nat):∀(k:Nat) (a:α),((rows.take h).drop l).flatten[k]?=some a→rows.flatten[l*es+k]?=some a:=by
 intro k a hk;have hes':∀x∈(rows.take h).drop l,x.length=es:=fun x hx=>hes x (abR (abL hx))
 obtain⟨i,j,row,rfl,hi,hj⟩:=qO hes' hk;rw[abj,aa3]at hi;split at hi
 ·have:=ir hes hi hj
  rw[show l*es+(i*es+j)=(l+i)*es+j by rw[acg];omega]
  exact this
 ·cases hi
section ops
variable {V:View} {τ:Tm} {nt:Nat} {a:Act} (hT:pE V τ nt a.tmps) {o:Oper} {av:AV}
include hT
theorem nG{x:Option Operand}{x':Option O}(h:EK x=some x'):Ue V (x'.map (O.val τ)) (x.map a.eval):=by
 cases x with
 |none=>simp only[EK,bN]at h;subst h;trivial
 |some y=>
  simp only[EK,ib]at h;obtain⟨z,hz,rfl⟩:=h;exact bt hT hz
theorem arD{t:TypeId}{x:Operand}{x':O}{lo hi:Option Operand}{lo' hi':Option O}(hop:o.op=.slice t x lo hi none)(ht:p.underlying t=some .string)(hx:gn x=some x')(hlo:EK lo=some lo')(hhi:EK hi=some hi')(hq:quiet V.σ τ (.afh x' lo' hi')=some av):∃v,(execOp a.eval o).run p V.w=.ok (.value v) V.w∧aY V av v:=by
 have hv:=bt hT hx;simp only[quiet]at hq;split at hq
 ·rename_i s he
  rw[he]at hv;simp only[ib]at hq;obtain⟨b,hb,rfl⟩:=hq;obtain⟨h1,h2,h3,h4⟩:=AU hb;have hrun:=Ap (p:=p) (isSlice:=false) h1 h2 h3 h4 (nG hT hlo) (nG hT hhi) (vmx:=none) trivial V.w;refine⟨.string (s.extract b.1 b.2.1),?_,.p (.str _)⟩;simp[execOp,hop,hv.JO,Instr.sliceAt,Instr.slice,bu ht,hrun]
 ·cases hq
theorem arC{t e:TypeId}{es:Nat}{x:Operand}{x':O}{lo hi mx:Option Operand}{lo' hi' mx':Option O}(hop:o.op=.slice t x lo hi mx)(ht:p.underlying t=some (.slice e))(he:cO p e=some es)(hx:gn x=some x')(hlo:EK lo=some lo')(hhi:EK hi=some hi')(hmx:EK mx=some mx')
  (hq:quiet V.σ τ (.NB es x' lo' hi' mx')=some av):∃v,(execOp a.eval o).run p V.w=.ok (.value v) V.w∧aY V av v:=by
 have hv:=bt hT hx
 have run:∀(ad:Option Addr) (len cap:Nat) (b:Nat×Nat×Nat),a.eval x=.slice ad len cap→(Instr.sliceBounds true len cap (lo.map a.eval) (hi.map a.eval) (mx.map a.eval)).run p V.w=.ok b V.w →
   (execOp a.eval o).run p V.w=.ok (.value (.slice (if b.2.2=b.1 then ad else ad.map (·.add (b.1*es))) (b.2.1-b.1) (b.2.2-b.1))) V.w:=by
  intro ad len cap b e1 hb;simp[execOp,hop,e1,Instr.sliceAt,Instr.slice,bu ht,hb,mn he]
 simp only[quiet]at hq;split at hq
 ·rename_i rows he'
  rw[he']at hv;obtain⟨ad,cap,e1,hcap,hrow⟩:=FA hv;split at hq
  ·rename_i hwide
   have hwide':∀r∈rows,r.length=es:=by
    intro r hr;unfold wide at hwide;rw[CS]at hwide;simpa using hwide r hr
   simp only[gB]at hq;obtain⟨b,hb,hq⟩:=hq;obtain⟨h1,h2,h3,h4⟩:=AU hb;split at hq
   ·
    rename_i hn;cases hq;have hmx0:mx'=none:=by simpa using hn
    subst hmx0;have hmx1:mx=none:=by cases mx with|none=>rfl|some y=>simp[EK]at hmx
    subst hmx1;have hb2:b.2.2=rows.length:=by simp only[acs,l4,bN]at h1;exact h1.symm
    have hrun:=Ap (p:=p) (isSlice:=true) (len:=rows.length) (cap:=cap) (b:=(b.1,b.2.1,cap)) (mx:=none) rfl h2 h3 ⟨rU _,by dsimp only;omega,h4.2.2⟩ (nG hT hlo) (nG hT hhi) (vmx:=none) trivial V.w
    refine⟨_,run ad rows.length cap (b.1,b.2.1,cap) e1 hrun,?_⟩;dsimp only;have hlen:((rows.take b.2.1).drop b.1).length=b.2.1-b.1:=by simp;omega
    by_cases hz:(rows.take b.2.1).drop b.1=[]
    ·rw[hz]at hlen ⊢
     simp only[nz]at hlen;rw[←hlen];exact .p (.KJ _ _)
    ·have hne:rows≠[]:=by intro h0;subst h0;simp at hz
     obtain⟨r,off,es',rfl,hok,hw,cv,hcell,hone,hrel⟩:=hrow hne
     have hes:es'=es:=by
      obtain⟨x,hx⟩:=abP rows hne;rw[←hw x hx,hwide' x hx]
     subst hes
     have hpos:0<b.2.1-b.1:=by
      rw[←hlen];exact ab5.2 hz
     rw[if_neg (by omega),←hlen]
     simp only[x6,eT];refine .p (.aO _ r (off+b.1*es') (cap-b.1) es' (fun k=>cv (b.1*es'+k)) hz hok (by omega) (fun x hx=>hw x (abR (abL hx))) ?_ ?_ ?_)
     ·intro k hk
      rw[acr];refine hcell _ ?_;have:(b.1+(b.2.1-b.1))*es'≤rows.length*es':=ND _ (by omega)
      rw[acg]at this;rw[hlen]at hk;omega
     ·intro k hk
      refine hone _ ?_;have:(b.1+(b.2.1-b.1))*es'≤rows.length*es':=ND _ (by omega)
      rw[acg]at this;rw[hlen]at hk;omega
     ·intro k q hk
      exact hrel _ q (Ij hw b.1 b.2.1 k q hk)
   ·split at hq
    ·rename_i hz
     cases hq;cases hmx':mx' with
     |none=>simp[hmx']at *
     |some mo=>
      subst hmx';cases mx with
      |none=>simp[EK]at hmx
      |some y=>
       have hrun:=Ap (p:=p) (isSlice:=true) (len:=rows.length) (cap:=cap) (b:=b) (mx:=some (mo.val τ)) h1 h2 h3 ⟨by omega,h4.2.1,h4.2.2⟩ (nG hT hlo) (nG hT hhi) (nG hT hmx) V.w
       refine⟨_,run ad rows.length cap b e1 hrun,?_⟩;have hb1:b.2.1-b.1=0:=by omega
       have hb2:b.2.2-b.1=0:=by omega
       rw[hb1,hb2];exact .aA _
    ·cases hq
  ·cases hq
 ·rename_i he'
  rw[he']at hv;simp only[ib]at hq;obtain⟨b,hb,rfl⟩:=hq;obtain⟨h1,h2,h3,h4⟩:=AU hb;generalize hvx:a.eval x=vx at hv;cases hv with
  |aA ad=>
   have hrun:=Ap (p:=p) (isSlice:=true) (len:=0) (cap:=0) h1 h2 h3 h4 (nG hT hlo) (nG hT hhi) (nG hT hmx) V.w;refine⟨_,run ad 0 0 b hvx hrun,?_⟩;have hb1:b.2.1-b.1=0:=by omega
   have hb2:b.2.2-b.1=0:=by omega
   rw[hb1,hb2];exact .aA _
 ·cases hq
end ops
theorem run_checkKey{kl:ny}{kt:TypeId}(hl:nB p kt=some kl){k:PV}(hk:tj kl k=true){V:View}{v:Value}(hv:dD V.w V.ok k v)(empty:Bool)(n:Nat)(w:World):(Instr.checkKey empty (n+1) kt v).run p w=.ok () w:=by
 unfold tj at hk;split at hk
 ·cases hv
  obtain⟨k',hk'⟩:=Hl hl;simp[Instr.checkKey,bu hk']
 ·cases hv
  simp[Instr.checkKey,bu (Hm hl)]
 ·cases hv
  simp[Instr.checkKey,bu (ED hl)]
 ·cases hk
theorem HI{kl:ny}{kt:TypeId}(hl:nB p kt=some kl){a b:PV}{r:Bool}(h:pF kl a b=some r){w:World}{ok:Nat→Prop}{va vb:Value}(ha:dD w ok a va)(hb:dD w ok b vb){d:TypeDesc}(hd:p.underlying kt=some d):Instr.sameNow d va vb=some r:=by
 unfold pF at h;split at h
 ·cases ha;cases hb
  obtain⟨k',hk'⟩:=Hl hl;rw[hk',bN]at hd;subst hd;simp only[Instr.sameNow];exact h
 ·cases ha;cases hb
  rw[Hm hl,bN]at hd;subst hd;simp only[Instr.sameNow,beq_toListBytes];exact h
 ·cases ha;cases hb
  rw[ED hl,bN]at hd;subst hd;simp only[Instr.sameNow];exact h
 ·cases h
theorem CY{α:Type}{kl:ny}{kt:TypeId}(hl:nB p kt=some kl){d:TypeDesc}(hd:p.underlying kt=some d){w:World}{ok:Nat→Prop}{k:PV}{vk:Value}(hk:dD w ok k vk) :
  ∀(es:List (PV×α)) (ens:List MapEntry) (i0:Nat) (r:Option α),es.length=ens.length→(∀(i:Nat) (x:PV×α) (e:MapEntry),es[i]?=some x→ens[i]?=some e→dD w ok x.1 e.key)→findKey kl k es=some r →
   (r=none→Instr.findNow d vk ens i0=some none)∧(∀a,r=some a→∃j e x,Instr.findNow d vk ens i0=some (some (i0+j,e.val))∧es[j]?=some (x,a)∧ens[j]?=some e∧pF kl k x=some true∧∀i,i<j→∀y,es[i]?=some y→pF kl k y.1=some false):=by
 intro es
 induction es with
 |nil=>
  intro ens i0 r hlen _ h
  match ens,hlen with
  | [],_=>
   simp only[findKey,bN]at h;subst h;exact⟨fun _=>rfl,fun a ha=>by cases ha⟩
 |cons x es ih=>
  intro ens i0 r hlen hr h
  match ens,hlen with
  |e::ens,hlen=>
   have h0:=hr 0 x e rfl rfl;unfold findKey at h;split at h
   ·rename_i heq
    cases h;refine⟨fun h=>(by cases h),fun a ha=>?_⟩
    cases ha;refine⟨0,e,x.1,?_,rfl,rfl,heq,fun i hi=>by omega⟩
    simp[Instr.findNow,HI hl heq hk h0 hd]
   ·rename_i heq
    obtain⟨h1,h2⟩:=ih ens (i0+1) r (by simpa using hlen) (fun i x e hx he=>hr (i+1) x e (by simpa using hx) (by simpa using he)) h
    refine⟨fun hn=>?_,fun a ha=>?_⟩
    ·simp[Instr.findNow,HI hl heq hk h0 hd,h1 hn]
    ·obtain⟨j,e',x',h3,h4,h5,h6,h7⟩:=h2 a ha
     refine⟨j+1,e',x',?_,by simpa using h4,by simpa using h5,h6,?_⟩
     ·simp only[Instr.findNow,HI hl heq hk h0 hd,h3]
      rw[show i0+1+j=i0+(j+1) by omega]
     ·intro i hi y hy
      cases i with
      |zero=>simp only[S2,bN]at hy;subst hy;exact heq
      |succ i=>exact h7 i (by omega) y (by simpa using hy)
   ·cases h
theorem IM{kt:TypeId}{kl:ny}(hl:nB p kt=some kl):∃d,p.underlying kt=some d:=by
 cases h:p.underlying kt with
 |none=>simp[nB,h]at hl
 |some d=>exact⟨d,rfl⟩
theorem run_findKey{kt:TypeId}{d:TypeDesc}(hd:p.underlying kt=some d){vk:Value}{ens:List MapEntry}{r:Option (Nat×Value)}(h:Instr.findNow d vk ens 0=some r)(w:World):(Instr.findKey kt vk ens).run p w=.ok r w:=by
 simp[Instr.findKey,bu hd,h]
theorem vl{α:Type}{off:Nat}{new row r:List α}(h:cr off new row=some r):off+new.length≤row.length∧r=row.take off++new++row.drop (off+new.length):=by
 unfold cr at h;split at h
 ·rename_i hle
  simp only[bN]at h;exact⟨hle,h.symm⟩
 ·cases h
theorem qS{α:Type}{off:Nat}{new row r:List α}(h:cr off new row=some r):r.length=row.length∧∀j,r[j]?=if off≤j∧j<off+new.length then new[j-off]? else row[j]? := by
 obtain⟨h1,rfl⟩:=vl h;refine⟨by simp;omega,fun j=>?_⟩
 by_cases hj:j<off
 ·rw[if_neg (by omega),Ui,BA (by simp;omega),WC hj]
 ·by_cases hj2:j<off+new.length
  ·rw[if_pos ⟨by omega,hj2⟩,Ui,Ga (by simp;omega),BA (by simp;omega)]
   congr 1
   simp;omega
  ·rw[if_neg (by omega),Ga (by simp;omega),abj]
   congr 1
   simp;omega
theorem Gu(vs:List Value):∀(off k:Nat) (cs:Array Value) (j:Nat),((vs.zipIdx k).foldl (fun cs x=>cs.setIfInBounds (off+x.2) x.1) cs)[j]?=if off+k≤j∧j<off+k+vs.length∧j<cs.size then vs[j-(off+k)]? else cs[j]? := by
 induction vs with
 |nil=>intro off k cs j;rw[if_neg (by simp;omega)];rfl
 |cons v vs ih=>
  intro off k cs j;rw[List.zipIdx_cons,S1,ih off (k+1)];simp only[Array.size_setIfInBounds,lZ,Array.getElem?_setIfInBounds];by_cases h1:j=off+k
  ·subst h1
   rw[if_neg (by omega)]
   by_cases h2:off+k<cs.size
   ·rw[if_pos rfl,if_pos h2,if_pos (by omega)]
    simp
   ·rw[if_pos rfl,if_neg h2,if_neg (by omega),Array.getElem?_eq_none (by omega)]
  ·by_cases h2:off+(k+1)≤j∧j<off+(k+1)+vs.length∧j<cs.size
   ·rw[if_pos h2,if_pos (by omega),show j-(off+k)=(j-(off+(k+1)))+1 by omega,abc]
   ·rw[if_neg h2,if_neg (by omega),if_neg (by omega)]
theorem Ps(vs:List Value):∀(off k:Nat) (cs:Array Value),((vs.zipIdx k).foldl (fun cs x=>cs.setIfInBounds (off+x.2) x.1) cs).size=cs.size:=by
 induction vs with
 |nil=>intro off k cs;rfl
 |cons v vs ih=>intro off k cs;rw[List.zipIdx_cons,S1,ih];simp
structure F7 (V:View) (cs:List AV) (vs:Array Value):Prop where
 len:cs.length=vs.size
 rel:∀(i:Nat) (c:AV) (v:Value),cs[i]?=some c→vs[i]?=some v→aY V c v
 one:∀(k:Nat) (v:Value),vs[k]?=some v→v.oneCell'=true
theorem AW{V:View}{size:Nat}{g:Bool}{x:AV}{cs:List AV}(h:cellsOf size g x=some cs){v:Value}(hv:aY V x v):F7 V cs v.cells∧(g=true→∃a,v=.agg a)∧(g=false→cs=[x]∧v.cells = #[v]∧v.oneCell'=true)∧(g=true→cs.length=size):=by
 unfold cellsOf at h;cases g with
 |true=>
  simp only[if_true]at h;split at h
  ·rename_i ps
   split at h
   ·rename_i hl
    cases h;obtain⟨vs,rfl,h1,h3,h2⟩:=y6 hv (.inr ⟨ps,rfl,rfl⟩);exact⟨⟨by simpa[Value.cells]using h1,fun i c v hc hv=>h2 i c v hc (by simpa[Value.cells]using hv),fun k v hv=>h3 v (mR (by simpa[Value.cells]using hv))⟩,fun _=>⟨_,rfl⟩,by simp,fun _=>by simpa using hl⟩
   ·cases h
  ·rename_i cs'
   split at h
   ·rename_i hl
    cases h;obtain⟨vs,rfl,h1,h3,h2⟩:=y6 hv (.inl rfl);exact⟨⟨by simpa[Value.cells]using h1,fun i c v hc hv=>h2 i c v hc (by simpa[Value.cells]using hv),fun k v hv=>h3 v (mR (by simpa[Value.cells]using hv))⟩,fun _=>⟨_,rfl⟩,by simp,fun _=>hl⟩
   ·cases h
  ·cases h
 |false=>
  simp only[lG,if_false]at h
  have one:v.oneCell'=true∧cs=[x]:=by
   split at h<;>first|(cases h;done)|skip
   rename_i h1 h2 h3 h4 h5;refine⟨?_,by cases h;rfl⟩
   cases hv with
   |any=>exact absurd rfl h1
   |p hv=>cases hv<;>first|rfl|exact absurd rfl (h4 _)|exact absurd rfl (h5 _)
   |agg=>exact absurd rfl (h2 _)
   |jY=>exact absurd rfl (h3 _)
   |_=>rfl
  obtain⟨h1,rfl⟩:=one;have hc:v.cells = #[v]:=by cases v<;>first|rfl|(simp[Value.oneCell']at h1)
  refine⟨⟨by simp[hc],fun i c u hc' hu=>?_,fun k u hu=>?_⟩,by simp,fun _=>⟨rfl,hc,h1⟩,by simp⟩
  ·rw[hc]at hu
   cases i with
   |zero=>simp at hc' hu;subst hc';subst hu;exact hv
   |succ i=>simp at hc'
  ·rw[hc]at hu
   cases k with
   |zero=>simp at hu;subst hu;exact h1
   |succ k=>simp at hu
theorem U8{V:View}{place:Nat→Option (Nat×Nat)}:∀(ps:List (Nat×Nat×AV)) (qs:List (Nat×Value)) (cells:List AV) (vc:Array Value) (out:List AV),F7 V cells vc→gR cells ps=some out→ps.length=qs.length →
  (∀(i:Nat) (x:Nat×Nat×AV) (y:Nat×Value),ps[i]?=some x→qs[i]?=some y→place y.1=some (x.1,x.2.1)∧aY V x.2.2 y.2)→∃vo,Instr.fill place vc qs=some vo∧F7 V out vo:=by
 intro ps
 induction ps with
 |nil=>
  intro qs cells vc out hc h hl _
  match qs,hl with
  | [],_=>
   simp only[gR,bN]at h;subst h;exact⟨vc,rfl,hc⟩
 |cons x ps ih=>
  intro qs cells vc out hc h hl hr
  match qs,hl with
  |y::qs,hl=>
   obtain⟨hpl,hvr⟩:=hr 0 x y rfl rfl;obtain⟨off,size,v⟩:=x;obtain⟨i,u⟩:=y;dsimp only at hpl hvr;unfold gR at h;split at h
   ·rename_i cs hcs
    split at h
    ·rename_i hsz
     simp only[gB]at h;obtain⟨cells',hput,h⟩:=h;obtain⟨⟨h1,h2,h1one⟩,_⟩:=AW hcs hvr;obtain⟨h3,h4⟩:=qS hput;obtain⟨h5,_⟩:=vl hput
     have hc':F7 V cells' ((u.cells.toList.zipIdx 0).foldl (fun cs x=>cs.setIfInBounds (off+x.2) x.1) vc):=by
      have hul:u.cells.toList.length=cs.length:=by rw[h1];simp
      refine⟨by rw[Ps,h3,hc.1],fun j c w hcj hwj=>?_,fun j w hwj=>?_⟩
      ·rw[h4 j]at hcj
       rw[Gu]at hwj;by_cases hj:off≤j∧j<off+cs.length
       ·rw[if_pos hj]at hcj
        rw[if_pos (by rw[hul];have:=hc.1;omega)]at hwj
        exact h2 _ c w hcj (by simpa using hwj)
       ·rw[if_neg hj]at hcj
        rw[if_neg (by rw[hul];omega)]at hwj
        exact hc.2 j c w hcj hwj
      ·rw[Gu]at hwj
       split at hwj
       ·exact h1one _ w (by simpa using hwj)
       ·exact hc.3 j w hwj
     obtain⟨vo,h6,h7⟩:=ih qs cells' _ out hc' h (by simpa using hl) (fun i x y hx hy=>hr (i+1) x y (by simpa using hx) (by simpa using hy))
     refine⟨vo,?_,h7⟩;have hcsz:u.cells.size=size:=by rw[←h1];exact hsz
     simp only[Instr.fill,hpl]
     have hno:¬(u.cells.size≠size∨off+u.cells.size > vc.size):=by
      rintro(h|h)
      ·exact h hcsz
      ·have e1:=hc.1
       omega
     rw[if_neg (by simpa only[RC,decide_eq_true_eq]using hno)]
     rw[←h6]
     congr 1
     rw[←Array.foldl_toList];simp
    ·cases h
   ·cases h
theorem YX:∀(ns:List Int) (acc:ByteArray),ns.foldl (fun r n=>r.push (UInt8.ofNat n.toNat)) acc=⟨acc.data++(ns.map fun n=>UInt8.ofNat n.toNat).toArray⟩
 | [],acc=>by simp
 |n::ns,acc=>by
  rw[S1,YX ns];simp[ByteArray.push]
def afL(r:List PV):Option UInt8:=match r with | [.int .u8 n]=>some (UInt8.ofNat n.toNat)|_=>none
theorem W5:∀{rows:List (List PV)} {bs:List UInt8},omap afL rows=some bs→∃ns:List Int,rows=ns.map (fun n=>[PV.int .u8 n])∧bs=ns.map fun n=>UInt8.ofNat n.toNat
 | [],bs,h=>by cases h;exact⟨[],rfl,rfl⟩
 |r::rows,bs,h=>by
  simp only[omap]at h;split at h
  ·rename_i b hb
   split at h
   ·rename_i bs' hbs
    cases h;obtain⟨ns,h1,h2⟩:=W5 hbs;unfold afL at hb;split at hb
    ·rename_i n
     cases hb;exact⟨n::ns,by rw[h1];rfl,by rw[h2];rfl⟩
    ·cases hb
   ·cases h
  ·cases h
theorem afZ(ns:List Int):(ns.map fun n=>[PV.int .u8 n]).flatten=ns.map fun n=>PV.int .u8 n:=by
 induction ns with
 |nil=>rfl
 |cons n ns ih=>simp[ih]
section ops
variable {V:View} {τ:Tm} {nt:Nat} {a:Act} (hT:pE V τ nt a.tmps) {o:Oper} {av:AV}
include hT
theorem auN(hS:cM p cq V){s d e:TypeId}{x:Operand}{x':O}(hop:o.op=.convert s d x)(h1:p.underlying s=some (.slice e))(h3:p.underlying e=some (.int .u8))(h2:p.underlying d=some .string)(hx:gn x=some x')(hq:quiet V.σ τ (.b2s x')=some av):∃v,(execOp a.eval o).run p V.w=.ok (.value v) V.w∧aY V av v:=by
 have hv:=bt hT hx;simp only[quiet,gB,ib]at hq;obtain⟨rows,hrows,bs,hbs,rfl⟩:=hq;obtain⟨ns,hr,hb⟩:=W5 (rows:=rows) (bs:=bs) hbs
 have fin:∀(ad:Option Addr) (c:Nat),a.eval x=.slice ad ns.length c→(∀b,ad=some b→(loadCells b ns.length).run p V.w=.ok (ns.map (Value.int .u8)).toArray V.w)→(ad=none→ns=[])→∃v,(execOp a.eval o).run p V.w=.ok (.value v) V.w∧aY V (.p (.str ⟨bs.toArray⟩)) v:=by
  intro ad c he hl h0;refine⟨.string ⟨bs.toArray⟩,?_,.p (.str _)⟩;cases ad with
  |none=>
   have:=h0 rfl;subst this;subst hb;simp[execOp,hop,he,convert,bu h1,bu h2,bu h3,Conv.bytesToString];rfl
  |some b=>
   have hc:=run_bytesToString V.w b ns.length c ns (hl b rfl);rw[YX]at hc;have e1:(⟨ByteArray.empty.data++(ns.map fun n=>UInt8.ofNat n.toNat).toArray⟩:ByteArray)=⟨bs.toArray⟩:=by rw[hb];simp[ByteArray.empty,ByteArray.emptyWithCapacity];rfl
   rw[e1]at hc;simp[execOp,hop,he,convert,bu h1,bu h2,bu h3,hc]
 have nsv:∀{f:Nat→Value},(∀(k:Nat) (q:PV),rows.flatten[k]?=some q→dD V.w V.ok q (f k))→∀k (hk:k<ns.length),f k=.int .u8 ns[k]:=by
  intro f hf k hk;have:rows.flatten[k]?=some (.int .u8 ns[k]):=by rw[hr,afZ,AR,o8 hk];rfl
  have:=hf k _ this;generalize f k=z at this;cases this;rfl
 unfold T4 at hrows;split at hrows
 ·rename_i rows' he
  cases hrows;rw[he]at hv;obtain⟨ad,c,e1,hle,hrel⟩:=FA hv;have hlen:rows.length=ns.length:=by rw[hr];simp
  rw[hlen]at e1;by_cases h0:ns=[]
  ·subst h0
   exact fin ad c e1 (fun b _=>by simp[loadCells,loadCellsFrom]) (fun _=>rfl)
  ·obtain⟨r,off,es,hadd,hok,hes,cv,g1,g2,g3⟩:=hrel (by rw[hr];simpa using h0)
   have hes1:es=1:=by
    obtain⟨n,hn⟩:=abP ns h0;have:=hes [.int .u8 n] (by rw[hr];exact Gq.2 ⟨n,hn,rfl⟩)
    simpa using this.symm
   subst hes1;subst hadd;refine fin _ c e1 (fun b hb=>?_) (fun h=>by cases h)
   cases hb
   have hk:=run_loadCells_list (P:=p) V.w ⟨r,off,none⟩ (ns.map (Value.int .u8)) (fun j v hj=>by
    rw[AR,ib]at hj;obtain⟨n,hn,rfl⟩:=hj;obtain⟨hjl,hn⟩:=gA.1 hn;rw[eT,g1 j (by rw[hlen];omega),nsv g3 j hjl,hn])
   rw[aR]at hk;exact hk
 ·rename_i he
  cases hrows;rw[he]at hv
  have:ns=[]:=by
   have:=congrArg List.length hr;simp at this;exact Lc.1 this.symm
  subst this;generalize hev:a.eval x=vx at hv;cases hv with
  |aA ad=>exact fin ad 0 hev (fun b _=>by simp[loadCells,loadCellsFrom]) (fun _=>rfl)
 ·rename_i b n he
  split at hrows
  ·rename_i e9 rows' fr ho
   split at hrows
   ·rename_i hn
    cases hrows;rw[he]at hv;obtain⟨l,hl⟩:=hS.oQ ho;have hvec:qq V l e9 (aE rows):=hS.obj b l _ hl ho;have hlen:rows.length=ns.length:=by rw[hr];simp
    generalize hev:a.eval x=vx at hv;cases hv with
    |sl _ _ ad c sh hs hnn hp=>
     have hs':sh=.vec e9 n:=by
      have:View.sh V b=some (.vec e9 n):=by simp[View.sh,ho,Obj.sh,hn]
      rw[this]at hs;exact(abJ hs).symm
     obtain⟨ha,hcap⟩:=hp e9 l hs' hl;rw[←hn,hlen]at hev;by_cases h0:ns=[]
     ·subst h0
      exact fin ad c hev (fun b _=>by simp[loadCells,loadCellsFrom]) (fun _=>rfl)
     ·have hes1:e9=1:=by
       obtain⟨m,hm⟩:=abP ns h0;have:=hvec.wide ([.int .u8 m].map .p) (by rw[hr];exact Gq.2 ⟨_,Gq.2 ⟨m,hm,rfl⟩,rfl⟩)
       simpa using this.symm
      subst hes1;have hpos:0<ns.length:=ab5.2 h0;have hc0:l.cap≠0:=by have:=hvec.cap;simp only[aE,aR]at this;omega
      have ha:=ha hc0;subst ha;cases hb:l.jt with
      |none=>exact absurd (hvec.nil hb) hc0
      |some r=>
       obtain⟨cc,ct,hheap,hsize,hcells⟩:=hvec.cells r hb;have haddr:l.addr=some ⟨r,0,none⟩:=by simp[Loc.addr,hb]
       rw[haddr]at hev;refine fin _ c hev (fun b' hb'=>?_) (fun h=>by cases h)
       cases hb'
       have hk:=run_loadCells_list (P:=p) V.w ⟨r,0,none⟩ (ns.map (Value.int .u8)) (fun j v hj=>by
        rw[AR,ib]at hj;obtain⟨m,hm,rfl⟩:=hj
        have hfl:(aE rows).flatten[j]?=some (.p (.int .u8 m)):=by
         rw[lq,hr,afZ,ab0,AR,hm];rfl
        obtain⟨v,v1,_,v3⟩:=hcells j _ hfl
        have hvv:v=.int .u8 m:=by
         cases v3 with
         |p h=>cases h;rfl
        rw[eT,jU hheap,vL,v1,hvv])
       rw[aR]at hk;exact hk
   ·cases hrows
  ·cases hrows
 ·cases hrows
end ops
theorem CH{t:TypeId}{cs:List AV}(h:zeroCells p t=some cs)(V:View):∃i z,p.info? t=some i∧i.zero=some z∧F7 V cs z.cells:=by
 unfold zeroCells at h;simp only[gB]at h;obtain⟨i,hi,z,hz,h⟩:=h;obtain⟨h1,h2⟩:=jx h;refine⟨i,z,hi,hz,⟨by simpa using h1,fun k c v hc hv=>?_,fun k v hv=>?_⟩⟩
 ·obtain⟨b,hb,hab⟩:=h2 k v (by simpa using hv)
  rw[hc,bN]at hb;subst hb;exact(xN hab).1
 ·obtain⟨b,hb,hab⟩:=h2 k v (by simpa using hv)
  exact(xN (V:=V) hab).2
section ops
variable {V:View} {τ:Tm} {nt:Nat} {a:Act} (hT:pE V τ nt a.tmps) {o:Oper} {av:AV}
include hT
theorem aoj{t:TypeId}{parts:Array (Nat×Operand)}{zero:List AV}{parts':List (Nat×Nat×O)}(hop:o.op=.build t parts)(hz:zeroCells p t=some zero)(hp:partsOf p t parts=some parts')(hq:quiet V.σ τ (.build zero parts')=some av):∃v,(execOp a.eval o).run p V.w=.ok (.value v) V.w∧aY V av v:=by
 simp only[quiet,ib]at hq;obtain⟨cells,hf,rfl⟩:=hq;obtain⟨i,z,hi,hz',hcr⟩:=CH hz V
 have fin:∀vo,p.built t (parts.map fun(i,x)=>(i,a.eval x)).toList=some vo→F7 V cells vo→∃v,(execOp a.eval o).run p V.w=.ok (.value v) V.w∧aY V (zZ cells) v:=by
  intro vo hb hc;refine⟨.agg vo,by simp[execOp,hop,run_build V.w t _ vo hb],?_⟩
  have:=KK (V:=V) (cs:=cells) (vs:=vo.toList) (by simpa using hc.1) (fun v hv=>by
   obtain⟨i,hi⟩:=aa5 hv;exact hc.3 i v (by simpa using hi)) (fun i c v h1 h2=>hc.2 i c v h1 (by simpa using h2))
  simpa using this
 unfold partsOf at hp;split at hp
 ·rename_i fs ht
  simp only[gB]at hp;obtain⟨places,hpl,hp⟩:=hp;obtain⟨h1,h2⟩:=jx hp
  obtain⟨vo,h3,h4⟩:=U8 (place:=(places.toArray[·]?)) (parts'.map fun x=>(x.1,x.2.1,x.2.2.val τ)) ((parts.map fun(i,x)=>(i,a.eval x)).toList) zero z.cells cells hcr hf (by simp[h1]) (by
   intro k x y hx hy;rw[AR,ib]at hx;obtain⟨x',hx',rfl⟩:=hx;rw[abQ,AR,ib]at hy;obtain⟨y',hy',rfl⟩:=hy;obtain⟨b,hb,hab⟩:=h2 k y' hy';rw[hx',bN]at hb;subst hb;simp only[gB,ib]at hab;obtain⟨pl,hpl',oo,hoo,rfl⟩:=hab;exact⟨by simpa using hpl',bt hT hoo⟩)
  refine fin vo ?_ h4;simp only[Program.built,hi,ht,hz',hpl];exact h3
 ·rename_i n e ht
  simp only[gB]at hp;obtain⟨s,hs,hp⟩:=hp;obtain⟨h1,h2⟩:=jx hp;unfold cO at hs;simp only[ib]at hs;obtain⟨ie,hie,rfl⟩:=hs
  obtain⟨vo,h3,h4⟩:=U8 (place:=fun i=>some (i*ie.size,ie.size)) (parts'.map fun x=>(x.1,x.2.1,x.2.2.val τ)) ((parts.map fun(i,x)=>(i,a.eval x)).toList) zero z.cells cells hcr hf (by simp[h1]) (by
   intro k x y hx hy;rw[AR,ib]at hx;obtain⟨x',hx',rfl⟩:=hx;rw[abQ,AR,ib]at hy;obtain⟨y',hy',rfl⟩:=hy;obtain⟨b,hb,hab⟩:=h2 k y' hy';rw[hx',bN]at hb;subst hb;simp only[ib]at hab;obtain⟨oo,hoo,rfl⟩:=hab;exact⟨rfl,bt hT hoo⟩)
  refine fin vo ?_ h4;simp only[Program.built,hi,ht,hz',hie];exact h3
 ·cases hp
theorem alu(hS:cM p cq V){t kt e:TypeId}{kl:ny}{zero:AV}{x k:Operand}{x' k':O}{ok:Bool}(hop:o.op=.lookup t x k ok)(ht:p.underlying t=some (.map kt e))(hl:nB p kt=some kl)(hz:((p.info? e).bind fun i=>i.zero.bind ai6)=some zero)(hx:gn x=some x')(hk:gn k=some k')
  (hq:quiet V.σ τ (.lookup kl zero x' k' ok)=some av):∃v,(execOp a.eval o).run p V.w=.ok (.value v) V.w∧aY V av v:=by
 have hv:=bt hT hx;have hkv:=bt hT hk;simp only[quiet]at hq;split at hq
 ·rename_i kp hkp
  rw[hkp]at hkv;have hkr:=hkv.Bf;split at hq
  ·rename_i hleaf
   simp only[gB,bN]at hq;obtain⟨r,hr,rfl⟩:=hq;obtain⟨d,hd⟩:=IM hl;simp only[gB]at hz;obtain⟨ie,hie,z,hzz,hz⟩:=hz;have hzrun:(zeroValue e).run p V.w=.ok z V.w:=by simp[zeroValue,typeInfo,hie,hzz]
   have fin:∀(ens:Array MapEntry) (rr:Option (Nat×Value)),((a.eval x=.map none∧ens = #[])∨∃rb clock,a.eval x=.map (some rb)∧V.w.heap[rb]?=some (.map ens clock)) →
     Instr.findNow d (a.eval k) ens.toList 0=some rr→(rr=none→r=none)→(∀j v,rr=some (j,v)→∃c,r=some c∧aY V c v)→∃v,(execOp a.eval o).run p V.w=.ok (.value v) V.w∧aY V (if ok=true then z6 [r.getD zero,.p (.bool r.isSome)]else r.getD zero) v:=by
    intro ens rr he hf h1 h2;have hck:=run_checkKey hl hleaf hkr ens.isEmpty 9999 V.w;have hfk:=run_findKey (p:=p) hd hf V.w
    have out:∀(v:Value) (okv:Bool),aY V (r.getD zero) v→r.isSome=okv→aY V (if ok=true then z6 [r.getD zero,.p (.bool r.isSome)]else r.getD zero) (if ok=true then .tuple #[v,.bool okv]else v):=by
     intro v okv hv1 hv2;cases ok with
     |false=>exact hv1
     |true=>
      simp only[if_true];refine KL (vs:=[v,.bool okv]) rfl fun i c u hc hu=>?_
      match i with
      |0=>simp at hc hu;subst hc;subst hu;exact hv1
      |1=>simp at hc hu;subst hc;subst hu;rw[hv2];exact .p (.bool _)
      |i+2=>simp at hc
    have run:∀(v:Value) (okv:Bool),(match rr with|some (_,v)=>(pure (v,true):Sem (Value×Bool))|none=>pure (z,false)).run p V.w=.ok (v,okv) V.w→(execOp a.eval o).run p V.w=.ok (.value (if ok=true then .tuple #[v,.bool okv]else v)) V.w:=by
     intro v okv hm;rcases he with⟨e1,rfl⟩|⟨rb,clock,e1,hm'⟩
     ·have hck':=run_checkKey hl hleaf hkr true 9999 V.w
      cases rr with
      |none=>
       simp only[Sem.run_pure,Result.ok.injEq,rI,and_true]at hm;obtain⟨rfl,rfl⟩:=hm;have hfk':(Instr.findKey kt (a.eval k) []).run p V.w=.ok none V.w:=hfk;simp[execOp,hop,e1,Instr.lookup,bu ht,hck',hfk',hzrun]
      |some jv=>simp[Instr.findNow]at hf
     ·have hget:(getObj rb).run p V.w=.ok (.map ens clock) V.w:=by simp[getObj,Sem.run,hm']
      cases rr with
      |none=>
       simp only[Sem.run_pure,Result.ok.injEq,rI,and_true]at hm;obtain⟨rfl,rfl⟩:=hm;simp[execOp,hop,e1,Instr.lookup,bu ht,hget,hck,hfk,hzrun]
      |some jv=>
       simp only[Sem.run_pure,Result.ok.injEq,rI,and_true]at hm;obtain⟨rfl,rfl⟩:=hm;simp[execOp,hop,e1,Instr.lookup,bu ht,hget,hck,hfk]
    cases rr with
    |none=>
     have:=h1 rfl;subst this;exact⟨_,run z false rfl,out z false (WE hz) rfl⟩
    |some jv=>
     obtain⟨j,v⟩:=jv;obtain⟨c,rfl,hc⟩:=h2 j v rfl;exact⟨_,run v true rfl,out v true hc rfl⟩
   split at hr
   ·rename_i he
    cases hr;rw[he]at hv
    have e1:a.eval x=.map none:=by
     cases hv with
     |p hv=>
      generalize a.eval x=vx at hv;cases hv;rfl
    exact fin #[] none (.inl ⟨e1,rfl⟩) rfl (fun _=>rfl) (by intro j v h;cases h)
   ·rename_i es he
    rw[he]at hv;cases hv with
    |p hv=>
     generalize hvx:a.eval x=vx at hv;cases hv with
     |pmap _ rb en clock hok hm hlen hkk hvv=>
      simp only[ib]at hr;obtain⟨r0,hr0,rfl⟩:=hr;obtain⟨h1,h2⟩:=CY (p:=p) hl hd hkr es en.toList 0 r0 (by simpa using hlen) (fun i x e hx he=>hkk i x e hx (by simpa using he)) hr0
      cases r0 with
      |none=>exact fin en none (.inr ⟨rb,clock,hvx,hm⟩) (h1 rfl) (fun _=>rfl) (by intro j v h;cases h)
      |some c=>
       obtain⟨j,e',x',h3,h4,h5,_⟩:=h2 c rfl;refine fin en (some (0+j,e'.val)) (.inr ⟨rb,clock,hvx,hm⟩) h3 (by intro h;cases h) ?_
       intro j' v h;cases h;exact⟨.p c,rfl,.p (hvv j _ e' h4 (by simpa using h5))⟩
   ·rename_i b he
    rw[he]at hv;split at hr
    ·rename_i es f ho
     generalize hvx:a.eval x=vx at hv;cases hv with
     |map _ rb s hs h=>
      obtain⟨l,hlo⟩:=hS.oQ ho;obtain⟨r',en,clock,hb',hm⟩:=hS.obj b l _ hlo ho;have:s=.map:=by simpa[View.sh,ho,Obj.sh]using hs.symm
      have hrr:=h this l hlo;rw[hb',bN]at hrr;subst hrr;obtain⟨h1,h2⟩:=CY (p:=p) hl hd hkr es en.toList 0 r (by simpa using hm.len) (fun i x e hx he=>hm.key i x e hx (by simpa using he)) hr
      cases r with
      |none=>exact fin en none (.inr ⟨r',clock,hvx,hm.heap⟩) (h1 rfl) (fun _=>rfl) (by intro j v h;cases h)
      |some c=>
       obtain⟨j,e',x',h3,h4,h5,_⟩:=h2 c rfl;refine fin en (some (0+j,e'.val)) (.inr ⟨r',clock,hvx,hm.heap⟩) h3 (by intro h;cases h) ?_
       intro j' v h;cases h;exact⟨c,rfl,hm.val j _ e' h4 (by simpa using h5)⟩
    ·cases hr
   ·cases hr
  ·cases hq
 ·cases hq
end ops
theorem alw{V:View}(hS:cM p cq V){τ:Tm}{nt:Nat}{a:Act}(hT:pE V τ nt a.tmps){adv:Adv}{o:Oper}{x:mY}(hc:BC p adv o=some x){av:AV}(hq:quiet V.σ τ x=some av) :
  ∃v,(execOp a.eval o).run p V.w=.ok (.value v) V.w∧aY V av v:=by
 unfold BC at hc;cases hop:o.op<;>simp only[hop,N3,gB,ib,bN,reduceCtorEq]at hc
 case move y=>obtain⟨z,_,rfl⟩:=hc;split at hq<;>simp[quiet]at hq
 case assign y=>obtain⟨z,_,rfl⟩:=hc;split at hq<;>simp[quiet]at hq
 case pick c y z=>obtain⟨c',h1,y',h2,z',h3,rfl⟩:=hc;exact arB hT hop h1 h2 h3 hq
 case alloc e=>
  obtain⟨z,_,s,_,hc⟩:=hc;split at hc
  ·cases hc;simp[quiet]at hq
  ·cases hc
 case box e y=>
  obtain⟨s,_,g,_,z,_,hc⟩:=hc;split at hc
  ·cases hc;simp[quiet]at hq
  ·cases hc
 case build t ps=>obtain⟨z,h1,ps',h2,rfl⟩:=hc;exact aoj hT hop h1 h2 hq
 case buildSlice t n ps=>
  obtain⟨e,_,s,_,z,_,ps',_,hc⟩:=hc;split at hc
  ·cases hc;split at hq<;>simp[quiet]at hq
  ·cases hc
 case load t y=>obtain⟨s,h1,g,h2,y',h3,rfl⟩:=hc;exact arz hT hS hop h1 h2 h3 hq
 case store t y z=>obtain⟨s,_,y',_,z',_,rfl⟩:=hc;simp[quiet]at hq
 case nilCheck y=>obtain⟨y',h1,rfl⟩:=hc;exact alv hT hop h1 hq
 case binOp op t y z ty=>
  obtain⟨y',h1,z',h2,hc⟩:=hc
  have eqA:∀(neg:Bool),op=(if neg then .neq else .eql)→∀fs,p.underlying t=some (.struct fs)→(if p.eqGuardType p.depth t=true then none else(nC p 8 t).bind fun lv=>if cO p t=some lv.length then some (mY.eqA neg lv y' z')else none)=some x→∃v,(execOp a.eval o).run p V.w=.ok (.value v) V.w∧aY V av v:=by
   intro neg hneg fs ht hc;split at hc
   ·cases hc
   ·rename_i hg
    simp only[gB]at hc;obtain⟨lv,hlv,hc⟩:=hc;split at hc
    ·rename_i hsz
     cases hc;exact auO hT (neg:=neg) (by rw[hop,hneg]) (by simpa using hg) hlv (JT ht) h1 h2 hsz hq
    ·cases hc
  split at hc
  ·split at hc
   ·cases hc;exact Jp hT hop h1 h2 hq
   ·cases hc;exact Jp hT hop h1 h2 hq
   ·rename_i ht;cases hc;exact apF hT (neg:=false) hop ht h1 h2 hq
   ·rename_i ht
    split at hc
    ·cases hc;exact agt hT (neg:=false) hop ht h1 h2 hq
    ·cases hc
   ·rename_i fs ht;exact eqA false rfl _ ht hc
   ·cases hc
  ·split at hc
   ·cases hc;exact Jp hT hop h1 h2 hq
   ·cases hc;exact Jp hT hop h1 h2 hq
   ·rename_i ht;cases hc;exact apF hT (neg:=true) hop ht h1 h2 hq
   ·rename_i ht
    split at hc
    ·cases hc;exact agt hT (neg:=true) hop ht h1 h2 hq
    ·cases hc
   ·rename_i fs ht;exact eqA true rfl _ ht hc
   ·cases hc
  ·cases hc;exact Jp hT hop h1 h2 hq
 case unOp op t y=>
  obtain⟨y',h1,hc⟩:=hc;split at hc
  ·cases hc;exact auR hT hop h1 hq
  ·cases hc;exact auQ hT hop h1 hq
  ·cases hc;exact aok hT hop h1 hq
  ·cases hc
 case convert s d y=>
  obtain⟨y',h1,hc⟩:=hc;split at hc
  ·rename_i hs hd;cases hc;exact ars hT hop hs hd h1 hq
  ·rename_i hs hd;cases hc;exact aol hT hop hs hd h1 hq
  ·rename_i hs hd
   split at hc
   ·rename_i he;cases hc;exact auN hT hS hop hs he hd h1 hq
   ·cases hc
  ·cases hc
 case makeFunc fn first caps=>
  cases fn<;>simp only[reduceCtorEq]at hc
  rename_i f;split at hc
  ·rename_i hf
   simp only[gB,bN]at hc;obtain⟨caps',h1,rfl⟩:=hc;have:first = #[]:=by simpa using hf
   subst this;exact arA hT hop h1 hq
  ·cases hc
 case makeMap t r=>
  cases r<;>simp only[reduceCtorEq,bN]at hc
  subst hc;simp[quiet]at hq
 case makeSlice t l c=>
  obtain⟨e,_,s,_,z,_,b,_,l',_,c',_,hc⟩:=hc;split at hc
  ·cases hc;simp[quiet]at hq
  ·cases hc
 case slice t y lo hi mx=>
  obtain⟨y',h1,lo',h2,hi',h3,mx',h4,hc⟩:=hc;split at hc
  ·rename_i ht
   split at hc
   ·cases hc
   ·rename_i hm
    cases hc;have:mx=none:=by cases mx with|none=>rfl|some z=>simp[EK]at h4;obtain⟨_,_,rfl⟩:=h4;simp at hm
    subst this;exact arD hT hop ht h1 h2 h3 hq
  ·rename_i ht
   simp only[gB,bN]at hc;obtain⟨s,hs,rfl⟩:=hc;exact arC hT hop ht hs h1 h2 h3 h4 hq
  ·simp only[gB]at hc
   obtain⟨s,hs,hc⟩:=hc;split at hc
   ·cases hc;simp[quiet]at hq
   ·cases hc
  ·cases hc
 case fieldAddr t y f=>
  obtain⟨fd,h1,s,h2,hc⟩:=hc;split at hc
  ·cases hc
  ·rename_i h0
   simp only[gB,bN]at hc;obtain⟨y',h3,rfl⟩:=hc;exact art hT hop h1 h2 h0 h3 hq
 case field t y f=>obtain⟨fd,h1,s,h2,g,h3,y',h4,rfl⟩:=hc;exact auP hT hop h1 h2 h3 h4 hq
 case indexAddr t y i=>
  split at hc
  ·rename_i ht
   simp only[gB,bN]at hc;obtain⟨s,h1,y',h2,i',h3,rfl⟩:=hc;exact aom hT hop ht h1 h2 h3 hq
  ·rename_i ht
   simp only[gB,bN]at hc;obtain⟨s,h1,y',h2,i',h3,rfl⟩:=hc;exact aon hT hS hop ht h1 h2 h3 hq
  ·cases hc
 case index t y i=>
  split at hc
  ·rename_i ht
   simp only[gB,bN]at hc;obtain⟨s,h1,g,h2,y',h3,i',h4,rfl⟩:=hc;exact aru hT hop ht h1 h2 h3 h4 hq
  ·rename_i ht
   simp only[gB,bN]at hc;obtain⟨y',h3,i',h4,rfl⟩:=hc;exact arv hT hop ht h3 h4 hq
  ·cases hc
 case lookup t y i ok=>
  split at hc
  ·rename_i ht
   simp only[gB,bN]at hc;obtain⟨kl,h1,z,⟨ie,hie,hz⟩,y',h3,i',h4,rfl⟩:=hc;exact alu hT hS hop ht h1 (by simp only[gB];exact⟨ie,hie,hz⟩) h3 h4 hq
  ·cases hc
 case mapUpdate t m k v=>
  split at hc
  ·simp only[gB,bN]at hc
   obtain⟨kl,_,m',_,k',_,v',_,rfl⟩:=hc;simp[quiet]at hq
  ·cases hc
 case extract y k=>obtain⟨y',h1,rfl⟩:=hc;exact aib hT hop h1 hq
 case call c=>
  cases hcal:c.callee<;>simp only[hcal,reduceCtorEq]at hc
  case value f=>
   cases f<;>simp only[gB,bN]at hc
   case func f=>obtain⟨as,_,rfl⟩:=hc;split at hq<;>simp[quiet]at hq
   all_goals
    obtain⟨y,_,as,_,rfl⟩:=hc;simp[quiet]at hq
  case builtin b=>
   cases b<;>simp only[reduceCtorEq,gB,bN]at hc
   case len=>
    have typ:∀d,c.argTypes[0]?.bind p.underlying=some d→∃t,c.argTypes[0]?=some t∧p.underlying t=some d:=fun d h=>by simpa only[gB]using h
    split at hc
    ·rename_i h1 h2
     cases hc;obtain⟨t,h3,h4⟩:=typ _ h1;exact als hop hcal h3 (.inl h4) h2 hq
    ·rename_i h1 h2
     obtain⟨t,h3,h4⟩:=typ _ h1;split at hc
     ·rename_i h5
      cases hc;exact als hop hcal h3 (.inr ⟨_,h4,h5⟩) h2 hq
     ·cases hc
    ·rename_i h1 h2
     simp only[ib]at hc;obtain⟨y',h5,rfl⟩:=hc;obtain⟨t,h3,h4⟩:=typ _ h1;exact ary hT hop hcal h3 h4 h2 h5 hq
    ·rename_i h1 h2
     simp only[ib]at hc;obtain⟨y',h5,rfl⟩:=hc;obtain⟨t,h3,h4⟩:=typ _ h1;exact arx hT hop hcal h3 h4 h2 h5 hq
    ·rename_i h1 h2
     simp only[ib]at hc;obtain⟨y',h5,rfl⟩:=hc;obtain⟨t,h3,h4⟩:=typ _ h1;exact arw hT hS hop hcal h3 h4 h2 h5 hq
    ·cases hc
   case append=>
    split at hc
    ·split at hc
     ·cases hc
     ·simp only[gB]at hc
      obtain⟨s,_,b,_,z,_,y,_,y',_,hc⟩:=hc;split at hc
      ·cases hc;simp[quiet]at hq
      ·cases hc
    ·cases hc
   case min=>obtain⟨as,h1,rfl⟩:=hc;exact Y4 hT (mx:=false) hop hcal h1 hq
   case max=>obtain⟨as,h1,rfl⟩:=hc;exact Y4 hT (mx:=true) hop hcal h1 hq
end Go.AE
