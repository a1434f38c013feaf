import Derived.Test.YtpccheodgonkkaaGreatA0
import Derived.Laws.Build
import Derived.Laws.StructEq
import Derived.Laws.BytesString
set_option linter.unusedSimpArgs false
set_option linter.unusedVariables false
namespace Go.AE
variable {p:Program} {cq:FuncId→Bool}
theorem l4{t:TypeId}{s:Nat}(h:cN p t=some s)(w:World):(sizeOf t).run p w=.ok s w:=by
 unfold cN at h;simp only[gI]at h;obtain⟨i,hi,rfl⟩:=h;simp[sizeOf,typeInfo,hi]
theorem br{t:TypeId}{d:TypeDesc}(h:p.underlying t=some d)(w:World):(underlying t).run p w=.ok d w:=by
 simp[underlying,h]
theorem Vd{t:TypeId}{g:Bool}(h:np p t=some g)(w:World):(isAgg t).run p w=.ok g w:=by
 unfold np at h;simp only[gI]at h;obtain⟨d,hd,rfl⟩:=h;simp only[isAgg,Sem.run_bind,br hd,Result.andThen_ok];cases d<;>rfl
theorem aiA{V:View}{v:Value}{q:PV}(h:aiy v=some q):dz V.w V.ok q v:=by
 cases v<;>simp[aiy]at h
 ·subst h;exact .bool _
 ·subst h;exact .int _ _
 ·subst h;exact .str _
 ·rename_i a;cases a<;>simp at h;subst h;exact .xF
 ·rename_i r;cases r<;>simp at h;subst h;exact .H8
 ·subst h;exact .zc
theorem aiz{v:Value}{q:PV}(h:aiy v=some q):v.oneCell'=true:=by
 cases v<;>first|rfl|(simp[aiy]at h)
theorem w9{V:View}{v:Value}{c:AV}(h:G2 v=some c):aV V c v∧v.oneCell'=true:=by
 unfold G2 at h;split at h
 ·simp only[bI]at h;subst h;exact⟨.aC none,rfl⟩
 ·simp only[gI]at h
  obtain⟨q,hq,rfl⟩:=h;exact⟨.p (aiA hq),aiz hq⟩
theorem oQ:∀{cs:List AV} {ps:List PV},ae cs=some ps→cs=ps.map .p
 | [],ps,h=>by simp only[ae,bI]at h;subst h;rfl
 |a::cs,ps,h=>by
  cases a<;>simp only[ae]at h<;>first|(simp at h;done)|skip
  simp only[gI]at h;obtain⟨qs,hq,rfl⟩:=h;rw[oQ hq];rfl
theorem J2{V:View}{cs:List AV}{vs:List Value}(hl:cs.length=vs.length)(h1:∀v∈vs,v.oneCell'=true)(h:∀(i:Nat) (c:AV) (v:Value),cs[i]?=some c→vs[i]?=some v→aV V c v):aV V (y9 cs) (.agg vs.toArray):=by
 unfold y9;split
 ·rename_i ps hps
  have:=oQ hps;subst this;refine .p (.agg ps vs (by simpa using hl) h1 fun i q v hq hv=>(h i (.p q) v (by simp[hq]) hv).Ak)
 ·exact .agg cs vs hl h1 h
theorem J3{V:View}{cs:List AV}{vs:List Value}(hl:cs.length=vs.length)(h:∀(i:Nat) (c:AV) (v:Value),cs[i]?=some c→vs[i]?=some v→aV V c v):aV V (za cs) (.tuple vs.toArray):=by
 unfold za;split
 ·rename_i ps hps
  have:=oQ hps;subst this;refine .p (.jC ps vs (by simpa using hl) fun i q v hq hv=>(h i (.p q) v (by simp[hq]) hv).Ak)
 ·exact .jC cs vs hl h
theorem akb{V:View}{f:FuncId}{cs:List AV}{vs:List Value}(hl:cs.length=vs.length)(h:∀(i:Nat) (c:AV) (v:Value),cs[i]?=some c→vs[i]?=some v→aV V c v):aV V (Fw f cs) (.func (.func f) #[] vs.toArray):=by
 unfold Fw;split
 ·rename_i ps hps
  have:=oQ hps;subst this;refine .p (.fn f ps vs (by simpa using hl) fun i q v hq hv=>(h i (.p q) v (by simp[hq]) hv).Ak)
 ·exact .fn f cs vs hl h
theorem VM{V:View}{v:Value}{c:AV}(h:aiB v=some c):aV V c v:=by
 unfold aiB at h;split at h
 ·rename_i cs
  simp only[gI]at h;obtain⟨as,ha,rfl⟩:=h;obtain⟨h1,h2⟩:=jf ha
  have:=J2 (V:=V) (cs:=as) (vs:=cs.toList) h1 (fun v hv=>by
   obtain⟨i,hi⟩:=aa5 hv;obtain⟨b,_,hab⟩:=h2 i v hi;exact(w9 (V:=V) hab).2) (fun i c v hc hv=>by
   obtain⟨b,hb,hab⟩:=h2 i v hv;rw[hc,bI]at hb;subst hb;exact(w9 hab).1)
  simpa using this
 ·exact(w9 h).1
theorem bq{V:View}{τ:Tm}{nt:Nat}{a:Act}(ht:oW V τ nt a.tmps){o:Operand}{x:O}(h:fN o=some x):aV V (x.val τ) (a.eval o):=by
 cases o with
 |tmp t=>simp only[fN,bI]at h;subst h;exact ht.get t
 |const v=>
  simp only[fN,gI]at h;obtain⟨c,hc,rfl⟩:=h;exact VM hc
 |global g=>simp[fN]at h
 |func f=>
  simp only[fN,bI]at h;subst h;exact .p (.fn f [] [] rfl (by simp))
theorem X1{V:View}{τ:Tm}{nt:Nat}{a:Act}(ht:oW V τ nt a.tmps){os:List Operand}{xs:List O}(h:omap fN os=some xs) :
  (xs.map (·.val τ)).length=(os.map a.eval).length∧∀(i:Nat) (c:AV) (v:Value),(xs.map (·.val τ))[i]?=some c→(os.map a.eval)[i]?=some v→aV V c v:=by
 obtain⟨h1,h2⟩:=jf h;refine⟨by simp[h1],fun i c v hc hv=>?_⟩
 rw[zA,gI]at hc hv;obtain⟨x,hx,rfl⟩:=hc;obtain⟨o,ho,rfl⟩:=hv;obtain⟨b,hb,hab⟩:=h2 i o ho;rw[hx,bI]at hb;subst hb;exact bq ht hab
theorem aV.HG{V:View}{k:IntKind}{n:Int}{v:Value}(h:aV V (.p (.int k n)) v):v=.int k n:=by cases h with|p h=>cases h;rfl
theorem aV.Nq{V:View}{b:Bool}{v:Value}(h:aV V (.p (.bool b)) v):v=.bool b:=by cases h with|p h=>cases h;rfl
theorem aV.Jb{V:View}{s:ByteArray}{v:Value}(h:aV V (.p (.str s)) v):v=.string s:=by cases h with|p h=>cases h;rfl
theorem yV{V:View}{x:AV}{v:Value}{b:Bool}(h:vn x=some b)(hv:aV V x v):v=.bool b:=by
 unfold vn at h;split at h<;>simp at h
 subst h;exact hv.Nq
theorem vJ{V:View}{x:AV}{v:Value}{n:Nat}(h:nc x=some n)(hv:aV V x v):∃k,v=.int k n:=by
 unfold nc at h;split at h
 ·split at h
  ·rename_i k m hm
   simp only[bI]at h;subst h;exact⟨k,by rw[hv.HG,Int.toNat_of_nonneg hm]⟩
  ·simp at h
 ·simp at h
theorem BI{α:Type}{off size:Nat}{row r:List α}(h:part off size row=some r):off+size≤row.length∧r=(row.drop off).take size:=by
 unfold part at h;split at h
 ·rename_i hle
  simp only[bI]at h;exact⟨hle,h.symm⟩
 ·simp at h
theorem IA{α:Type}{off size:Nat}{row r:List α}(h:part off size row=some r):r.length=size∧∀j,j<size→r[j]?=row[off+j]? := by
 obtain⟨h1,rfl⟩:=BI h;refine⟨by simp;omega,fun j hj=>?_⟩
 rw[VK hj,abk]
theorem Pw{α β:Type}(f:α→β)(off size:Nat)(row:List α):part off size (row.map f)=(part off size row).map (List.map f):=by
 unfold part;simp only[aO];split<;>simp[acp,List.map_drop]
theorem Ai{V:View}{agg:Bool}{cs:List AV}{x:AV}(h:mJ agg cs=some x){vs:List Value}(hl:cs.length=vs.length)(h1:∀v∈vs,v.oneCell'=true)(hr:∀(i:Nat) (c:AV) (v:Value),cs[i]?=some c→vs[i]?=some v→aV V c v) :
  aV V x (if agg then .agg vs.toArray else vs.headD undef)∧(agg=false→cs.length=1):=by
 unfold mJ at h;cases agg with
 |true=>
  simp only[if_true,bI]at h ⊢;subst h;exact⟨J2 hl h1 hr,by simp⟩
 |false=>
  simp only[kS,if_false]at h ⊢;split at h
  ·rename_i v
   simp only[bI]at h;subst h
   match vs,hl with
   | [u],_=>exact⟨hr 0 v u rfl rfl,fun _=>rfl⟩
  ·simp at h
theorem Ah(agg:Bool)(cs:List PV):(oG agg cs).map AV.p=mJ agg (cs.map .p):=by
 unfold oG mJ;cases agg with
 |true=>
  have:∀cs:List PV,ae (cs.map .p)=some cs:=by intro cs;induction cs with|nil=>rfl|cons a r ih=>simp[ae,ih]
  simp[y9,this]
 |false=>
  simp only[kS,if_false]
  match cs with
  | []=>rfl
  | [v]=>rfl
  |_::_::_=>rfl
theorem BQ{V:View}{t:TypeId}{s:Nat}{g:Bool}(hs:cN p t=some s)(hg:np p t=some g){r off:Nat}{vs:List Value}(hl:vs.length=s)(h1:g=false→s=1)
  (hc:∀j v,vs[j]?=some v→V.w.cell? ⟨r,off+j,none⟩=some v):(Instr.loadAt t (.pointer (some ⟨r,off,none⟩))).run p V.w=.ok (if g then .agg vs.toArray else vs.headD undef) V.w:=by
 have hadd:∀j,(Addr.mk r off none).add j=⟨r,off+j,none⟩:=by
  intro j;unfold Addr.add;split
  ·rename_i h;subst h;rfl
  ·rfl
 simp only[Instr.loadAt,Instr.sureAddr,Sem.run_bind,Sem.run_pure,Result.andThen_ok,loadVar,Vd hg];cases g with
 |true=>
  simp only[if_true,Sem.run_bind,l4 hs,Result.andThen_ok];have:=run_loadCells_list (P:=p) (w:=V.w) ⟨r,off,none⟩ vs (fun j v hv=>by rw[hadd];exact hc j v hv)
  rw[hl]at this;simp[this]
 |false=>
  have hs1:=h1 rfl
  match vs,hl with
  | [u],_=>
   have:=hc 0 u rfl;simp only[acg]at this;simp[this]
  | [],hl=>simp at hl;omega
  |_::_::_,hl=>simp at hl;omega
theorem XT{V:View}(hS:cK p cq V){t:TypeId}{s:Nat}{g:Bool}(hs:cN p t=some s)(hg:np p t=some g){a x:AV}{av:Value}(h:gU V.σ s g a=some x)(ha:aV V a av) :
  ∃v,(Instr.loadAt t av).run p V.w=.ok v V.w∧aV V x v:=by
 unfold gU at h;split at h
 ·rename_i row o
  rw[Option.map_bind]at h;simp only[acj,Ah,fV]at h;obtain⟨cs,hcs,hx⟩:=h;obtain⟨hl,hget⟩:=IA hcs;cases ha with
  |p ha=>
   cases ha with
   |ptr _ _ r off cv hok hcell hone hrel=>
    obtain⟨hle,_⟩:=BI hcs
    have hvs:∀(i:Nat) (c:AV) (v:Value),(cs.map AV.p)[i]?=some c→((List.range s).map fun j=>cv (o+j))[i]?=some v→aV V c v:=by
     intro i c v hc hv;rw[zA,gI]at hc hv;obtain⟨q,hq,rfl⟩:=hc;obtain⟨j,hj,rfl⟩:=hv;have hi:i<s:=by have:=(fU.1 hq).1;omega
     rw[abA hi,bI]at hj;subst hj;rw[hget i hi]at hq;exact .p (hrel _ _ hq)
    obtain⟨h1,h2⟩:=Ai hx (vs:=(List.range s).map fun j=>cv (o+j)) (by simp[hl]) (fun v hv=>by
     obtain⟨j,hj,rfl⟩:=E0.1 hv;exact hone _ (by have:=abF.1 hj;omega)) hvs
    refine⟨_,?_,h1⟩;refine BQ hs hg (by simp) (fun e=>by have:=h2 e;simp[hl]at this;exact this) ?_
    intro j v hv;rw[zA,gI]at hv;obtain⟨j',hj',rfl⟩:=hv;have hj:j<s:=by have:=(fU.1 hj').1;simpa using this
    rw[abA hj,bI]at hj';subst hj';have:=hcell (o+j) (by omega)
    rw[show off+o+j=off+(o+j) by omega]
    exact this
 ·rename_i b n i o
  have main:∀(ob:Obj) (es:Nat) (rows:List (List AV)) (l:Loc),V.σ[b]?=some ob→ob.sh=.vec es rows.length→V.own[b]?=some l→pO V l es rows→rows.length=n→(rows[i]?.bind (part o s)).bind (mJ g)=some x →
    ∃v,(Instr.loadAt t av).run p V.w=.ok v V.w∧aV V x v:=by
   intro ob es rows l ho hsh hl hvec hlen hx;simp only[fV]at hx;obtain⟨cs,⟨row,hrow,hcs⟩,hx⟩:=hx;obtain⟨hcl,hget⟩:=IA hcs;obtain⟨hle,_⟩:=BI hcs;cases ha with
   |ptr _ _ _ _ a s' hs' hn hp=>
    have hse:s'=.vec es n:=by
     rw[←hlen,←hsh];simpa[View.sh,ho]using hs'.symm
    have hil:i<rows.length:=(fU.1 hrow).1;obtain⟨r,hb,rfl⟩:=hp es l hse hl (by omega)
    obtain⟨cc,tt,hheap,hsize,hcells⟩:=hvec.cells r hb
    have cell:∀j c,j<s→cs[j]?=some c→∃v,cc[i*es+(o+j)]?=some v∧aV V c v∧v.oneCell'=true:=by
     intro j c hj hc;rw[hget j hj]at hc;have hfx:=gT hvec.wide hrow hc;obtain⟨v,hv1,hv2,hv3⟩:=hcells _ _ hfx;exact⟨v,hv1,hv3,hv2⟩
    have hvs:∀(j:Nat) (c:AV) (v:Value),cs[j]?=some c→((List.range s).map fun j=>cc.getD (i*es+(o+j)) undef)[j]?=some v→aV V c v:=by
     intro j c v hc hv;rw[zA,gI]at hv;obtain⟨j',hj',rfl⟩:=hv;have hj:j<s:=by have:=(fU.1 hc).1;omega
     rw[abA hj,bI]at hj';subst hj';obtain⟨v,hv1,hv2,_⟩:=cell j c hj hc;simp only[ZF,hv1,VE];exact hv2
    obtain⟨h1,h2⟩:=Ai hx (vs:=(List.range s).map fun j=>cc.getD (i*es+(o+j)) undef) (by simp[hcl]) (fun v hv=>by
     obtain⟨j,hj,rfl⟩:=E0.1 hv;obtain⟨u,hu1,_,hu3⟩:=cell j (cs[j]'(by have:=abF.1 hj;omega)) (abF.1 hj) (oq _)
     simp only[ZF,hu1,VE];exact hu3) hvs
    refine⟨_,?_,h1⟩;refine BQ hs hg (by simp) (fun e=>by have:=h2 e;omega) ?_
    intro j v hv;rw[zA,gI]at hv;obtain⟨j',hj',rfl⟩:=hv;have hj:j<s:=by have:=(fU.1 hj').1;simpa using this
    rw[abA hj,bI]at hj';subst hj';obtain⟨v,hv1,_⟩:=cell j (cs[j]'(by omega)) hj (oq _)
    rw[jF hheap,show i*es+o+j=i*es+(o+j) by omega,hv1]
    simp[ZF,hv1]
  cases ho:V.σ[b]? with
  |none=>simp[ho]at h
  |some ob=>
   obtain⟨l,hl⟩:=hS.om ho;have hor:=hS.obj b l ob hl ho;cases ob with
   |pv es rows f=>
    simp only[ho]at h;split at h
    ·rename_i hlen
     refine main _ es (aF rows) l ho (by simp[Obj.sh,aF]) hl hor (by simp[aF,hlen]) ?_
     rw[Option.map_bind]at h;simp only[acj,Ah]at h;rw[show(aF rows)[i]?=rows[i]?.map (List.map .p) by simp[aF]]
     cases hr:rows[i]? with
     |none=>simp[hr]at h
     |some row=>
      simp only[hr,zy,xu]at h ⊢;rw[Pw];cases hp:part o s row with
      |none=>simp[hp]at h
      |some cs=>simpa[hp]using h
    ·simp at h
   |av es rows f=>
    simp only[ho]at h;split at h
    ·rename_i hlen
     exact main _ es rows l ho rfl hl hor hlen h
    ·simp at h
   |map=>simp[ho]at h
   |loop=>simp[ho]at h
   |gone=>simp[ho]at h
 ·simp at h
def BT:PV→Value
 |.int k n=>.int k n
 |.bool b=>.bool b
 |.str s=>.string s
 |_=>undef
theorem ajG{op:BinOp}{k:IntKind}{a b:Int}{q:PV}(h:s9 op k a b=some q)(t:TypeId)(w:World)(hs:op≠.shl∧op≠.shr):∃v,(binOp op t (.int k a) (.int k b)).run p w=.ok v w∧∀V:View,dz V.w V.ok q v:=by
 refine⟨BT q,?_⟩;cases op<;>simp only[s9]at h
 case shl=>simp at hs
 case shr=>simp at hs
 case quo=>
  split at h
  ·cases h
  ·rename_i hb
   cases h;exact⟨by simp[binOp,Op.intDiv,hb,BT],fun V=>.int _ _⟩
 case rem=>
  split at h
  ·cases h
  ·rename_i hb
   cases h;exact⟨by simp[binOp,Op.intDiv,hb,BT],fun V=>.int _ _⟩
 case add=>cases h;exact⟨by simp[binOp,Op.intArith,BT],fun V=>.int _ _⟩
 case sub=>cases h;exact⟨by simp[binOp,Op.intArith,BT],fun V=>.int _ _⟩
 case mul=>cases h;exact⟨by simp[binOp,Op.intArith,BT],fun V=>.int _ _⟩
 case and=>cases h;exact⟨by simp[binOp,Op.intBits,BT],fun V=>.int _ _⟩
 case or=>cases h;exact⟨by simp[binOp,Op.intBits,BT],fun V=>.int _ _⟩
 case xor=>cases h;exact⟨by simp[binOp,Op.intBits,BT],fun V=>.int _ _⟩
 case andNot=>cases h;exact⟨by simp[binOp,Op.intBits,BT],fun V=>.int _ _⟩
 case eql=>cases h;exact⟨by simp[binOp,Op.intCmp,BT],fun V=>.bool _⟩
 case neq=>cases h;exact⟨by simp[binOp,Op.intCmp,BT],fun V=>.bool _⟩
 case lss=>cases h;exact⟨by simp[binOp,Op.intCmp,BT],fun V=>.bool _⟩
 case leq=>cases h;exact⟨by simp[binOp,Op.intCmp,BT],fun V=>.bool _⟩
 case gtr=>cases h;exact⟨by simp[binOp,Op.intCmp,BT],fun V=>.bool _⟩
 case geq=>cases h;exact⟨by simp[binOp,Op.intCmp,BT],fun V=>.bool _⟩
theorem Qq{op:BinOp}{k k':IntKind}{a b:Int}{q:PV}(h:Ja op k a b=some q)(t:TypeId)(w:World):∃v,(binOp op t (.int k a) (.int k' b)).run p w=.ok v w∧∀V:View,dz V.w V.ok q v:=by
 unfold Ja at h;refine⟨BT q,?_⟩;split at h
 ·cases h
 ·rename_i hb
  cases op<;>simp only[]at h
  case shl=>cases h;exact⟨by simp[binOp,Op.shift,hb,BT],fun V=>.int _ _⟩
  case shr=>cases h;exact⟨by simp[binOp,Op.shift,hb,BT],fun V=>.int _ _⟩
  all_goals cases h
theorem alz{op:BinOp}{a b:ByteArray}{q:PV}(h:Ze op a b=some q)(t:TypeId)(w:World):∃v,(binOp op t (.string a) (.string b)).run p w=.ok v w∧∀V:View,dz V.w V.ok q v:=by
 refine⟨BT q,?_⟩;cases op<;>simp only[Ze]at h
 case add=>
  split at h
  ·cases h
  ·rename_i hb
   cases h;refine⟨?_,fun V=>.str _⟩
   simp only[binOp,Op.stringOp];rw[if_neg hb];rfl
 case eql=>cases h;exact⟨rfl,fun V=>.bool _⟩
 case neq=>cases h;exact⟨rfl,fun V=>.bool _⟩
 case lss=>cases h;exact⟨rfl,fun V=>.bool _⟩
 case leq=>cases h;exact⟨rfl,fun V=>.bool _⟩
 case gtr=>cases h;exact⟨rfl,fun V=>.bool _⟩
 case geq=>cases h;exact⟨rfl,fun V=>.bool _⟩
 all_goals cases h
theorem uh{op:BinOp}{t:TypeId}{x y:Operand}{a b:Value}(ha:a≠.nilIface)(hb:∀cs,a≠.agg cs)(w:World):(eqGuard op t x y a b).run p w=.ok () w:=by
 cases op<;>first
  |rfl
  |(cases a<;>first
    |exact absurd rfl ha
    |exact absurd rfl (hb _)
    |rfl
    |(cases b<;>rfl))
theorem aiE{op:BinOp}{q r:PV}{z:PV}(h:binop op q r=some z){V:View}{va vb:Value}(ha:dz V.w V.ok q va)(hb:dz V.w V.ok r vb)(t:TypeId)(x y:Operand)(w:World) :
  ∃v,(do eqGuard op t x y va vb;binOp op t va vb:Sem Value).run p w=.ok v w∧dz V.w V.ok z v:=by
 unfold binop at h;split at h
 ·rename_i k a k' b
  cases ha;cases hb;have hg:=uh (p:=p) (op:=op) (t:=t) (x:=x) (y:=y) (a:=.int k a) (b:=.int k' b) (by simp) (by simp) w
  simp only[Sem.run_bind,hg,Result.andThen_ok];split at h
  ·obtain⟨v,h1,h2⟩:=Qq (p:=p) (k':=k') h t w
   exact⟨v,h1,h2 V⟩
  ·obtain⟨v,h1,h2⟩:=Qq (p:=p) (k':=k') h t w
   exact⟨v,h1,h2 V⟩
  ·rename_i h1 h2
   split at h
   ·rename_i hk
    subst hk;obtain⟨v,h3,h4⟩:=ajG (p:=p) h t w ⟨h1,h2⟩;exact⟨v,h3,h4 V⟩
   ·simp at h
 ·rename_i a b
  cases ha;cases hb;have hg:=uh (p:=p) (op:=op) (t:=t) (x:=x) (y:=y) (a:=.string a) (b:=.string b) (by simp) (by simp) w
  simp only[Sem.run_bind,hg,Result.andThen_ok];obtain⟨v,h1,h2⟩:=alz (p:=p) h t w;exact⟨v,h1,h2 V⟩
 ·simp at h
theorem Gw{t:TypeId}(h:mY p t=some .int):∃k,p.underlying t=some (.int k):=by
 unfold mY at h;split at h<;>simp at h;exact⟨_,by assumption⟩
theorem Gx{t:TypeId}(h:mY p t=some .str):p.underlying t=some .string:=by
 unfold mY at h;split at h<;>simp at h;assumption
theorem DR{t:TypeId}(h:mY p t=some .bool):p.underlying t=some .bool:=by
 unfold mY at h;split at h<;>simp at h;assumption
theorem agQ{l:mX}{a b:PV}{r:Bool}(h:oX l a b=some r){t:TypeId}(hl:mY p t=some l){V:View}{va vb:Value}(ha:dz V.w V.ok a va)(hb:dz V.w V.ok b vb)(d:Nat)(w:World) :
  (Op.equalIn (d+1) t va vb).run p w=.ok r w:=by
 unfold oX at h;split at h
 ·rename_i k a k' b
  cases ha;cases hb;split at h
  ·rename_i hk
   subst hk;simp only[bI]at h;subst h;obtain⟨k'',hk⟩:=Gw hl;exact run_equalIn_int w d t k k'' a b hk
  ·simp at h
 ·rename_i a b
  cases ha;cases hb;simp only[bI]at h;subst h;exact run_equalIn_string w d t a b (Gx hl)
 ·rename_i a b
  cases ha;cases hb;simp only[bI]at h;subst h;exact run_equalIn_bool' w d t a b (DR hl)
 ·simp at h
theorem OM{t:TypeId}{l:mX}(h:mY p t=some l):np p t=some false:=by
 unfold mY at h;unfold np;split at h<;>rename_i hu<;>first|(rw[hu];rfl)|simp at h
theorem wF{t:TypeId}(hg:np p t=some false){xs:Array Value}{off:Nat}{v:Value}(h:xs[off]?=some v)(w:World):(Go.part t xs off).run p w=.ok v w:=by
 simp[Go.part,Vd hg,h]
theorem yl{t:TypeId}(hg:np p t=some true){s:Nat}(hs:cN p t=some s){xs:Array Value}{off:Nat}(w:World):(Go.part t xs off).run p w=.ok (.agg (xs.extract off (off+s))) w:=by
 simp[Go.part,Vd hg,l4 hs]
theorem Mn{d:Nat}{t:TypeId}{fs:Array Field}(ht:p.underlying t=some (.struct fs)):mZ p (d+1) t=if p.stoodInHeld t then none else Bu (mZ p d) p fs.toList 0:=by
 simp only[mZ,ht]
theorem Rr{d:Nat}{t:TypeId}{ls:List mX}(h:mZ p (d+1) t=some ls)(ht:∀fs,p.underlying t≠some (.struct fs)):∃l,ls=[l]∧mY p t=some l:=by
 unfold mZ at h;split at h
 ·rename_i fs hfs;exact absurd hfs (ht fs)
 ·simp only[gI]at h
  obtain⟨l,hl,rfl⟩:=h;exact⟨l,rfl,hl⟩
theorem DC:∀{l1 l2:List mX} {a b:List PV} {r:Bool},dD (l1++l2) a b=some r→∃r1 r2,dD l1 (a.take l1.length) (b.take l1.length)=some r1∧dD l2 (a.drop l1.length) (b.drop l1.length)=some r2∧r=(r1 && r2)
 | [],l2,a,b,r,h=>⟨true,r,by simp[dD],by simpa using h,by simp⟩
 |l::l1,l2,a,b,r,h=>by
  match a,b with
  | [],[]=>simp[dD]at h
  | [],_::_=>simp[dD]at h
  |_::_,[]=>simp[dD]at h
  |x::a,y::b=>
   simp only[FD,dD,fV,gI]at h;obtain⟨t,ht,s,hs,rfl⟩:=h;obtain⟨r1,r2,h1,h2,rfl⟩:=DC hs;exact⟨t && r1,r2,by simp[dD,ht,h1],by simpa using h2,by rw[Bool.and_assoc]⟩
theorem yZ:∀{l:List mX} {a b:List PV} {r:Bool},dD l a b=some r→a.length=l.length∧b.length=l.length
 | [],a,b,r,h=>by match a,b with | [],[]=>simp | [],_::_=>simp[dD]at h|_::_,[]=>simp[dD]at h|_::_,_::_=>simp[dD]at h
 |l::ls,a,b,r,h=>by
  match a,b with
  | [],[]=>simp[dD]at h
  | [],_::_=>simp[dD]at h
  |_::_,[]=>simp[dD]at h
  |x::a,y::b=>
   simp only[dD,fV,gI]at h;obtain⟨t,ht,s,hs,rfl⟩:=h;have:=yZ hs;simp[this.1,this.2]
def o7(V:View)(cs:List PV)(xs:Array Value)(off:Nat):Prop:=∀j c,cs[j]?=some c→∃v,xs[off+j]?=some v∧dz V.w V.ok c v
theorem o7.take{V:View}{cs:List PV}{xs:Array Value}{off:Nat}(h:o7 V cs xs off)(n:Nat):o7 V (cs.take n) xs off:=by
 intro j c hc;rw[Zv]at hc;split at hc
 ·exact h j c hc
 ·simp at hc
theorem o7.drop{V:View}{cs:List PV}{xs:Array Value}{off:Nat}(h:o7 V cs xs off)(n:Nat):o7 V (cs.drop n) xs (off+n):=by
 intro j c hc;rw[abk]at hc;rw[show off+n+j=off+(n+j) by omega]
 exact h _ c hc
theorem o7.extract{V:View}{cs:List PV}{xs:Array Value}{off:Nat}(h:o7 V cs xs off){s:Nat}(hs:cs.length≤s):o7 V cs (xs.extract off (off+s)) 0:=by
 intro j c hc;obtain⟨v,hv,hr⟩:=h j c hc;have:=(fU.1 hc).1;refine⟨v,?_,hr⟩;rw[tn,Array.getElem?_extract,if_pos]
 ·exact hv
 ·have:=(VJ.1 hv).1
  omega
theorem Jg{t:TypeId}{fs:Array Field}(ht:p.underlying t=some (.struct fs)):np p t=some true:=by simp[np,ht]
theorem Oe(d:Nat):∀(t:TypeId) (ls:List mX),mZ p d t=some ls→cN p t=some ls.length→∀(D:Nat),d≤D→∀(V:View) (as bs:List PV) (r:Bool) (xs ys:Array Value) (off off':Nat) (w:World),dD ls as bs=some r →
  o7 V as xs off→o7 V bs ys off'→(do let a ←Go.part t xs off;let b ←Go.part t ys off';Op.equalIn D t a b:Sem Bool).run p w=.ok r w:=by
 induction d with
 |zero=>intro t ls h;simp[mZ]at h
 |succ d ih=>
  intro t ls h hsz D hD V as bs r xs ys off off' w he ha hb;obtain⟨D,rfl⟩:∃m,D=m+1:=⟨D-1,by omega⟩
  have hlen:=yZ he;by_cases hstruct:∃fs,p.underlying t=some (.struct fs)
  ·obtain⟨fs,ht⟩:=hstruct
   rw[Mn ht]at h;split at h
   ·simp at h
   ·rename_i hheld
    have hheld':p.stoodInHeld t=false:=by simpa using hheld
    have hfo:p.fieldsOf t=fs:=by simp[Program.fieldsOf,ht]
    simp only[Sem.run_bind,yl (Jg ht) hsz,Result.andThen_ok];rw[run_equalIn_struct w D t _ _ (by rw[hfo];exact ht) hheld',hfo]
    have main:∀(l:List Field) (ls:List mX) (o:Nat) (as bs:List PV) (r:Bool) (xs ys:Array Value),Bu (mZ p d) p l o=some ls→dD ls as bs=some r→o7 V as xs o→o7 V bs ys o →
      (Op.eqFields D xs ys l).run p w=.ok r w:=by
     intro l
     induction l with
     |nil=>
      intro ls o as bs r xs ys h he _ _;simp only[Bu,bI]at h;subst h
      match as,bs,he with
      | [],[],he=>simp only[dD,bI]at he;subst he;rfl
     |cons f l ihl=>
      intro ls o as bs r xs ys h he ha hb;simp only[Bu]at h;split at h
      ·rename_i hf
       split at h
       ·rename_i l1 hl1
        split at h
        ·rename_i hs1
         simp only[gI]at h;obtain⟨l2,hl2,rfl⟩:=h;obtain⟨r1,r2,h1,h2,rfl⟩:=DC he;have e1:=ih f.type l1 hl1 hs1 D (by omega) V _ _ r1 xs ys o o w h1 (ha.take _) (hb.take _)
         have e2:=ihl l2 (o+l1.length) _ _ r2 xs ys hl2 h2 (ha.drop _) (hb.drop _);have hoff:f.offset=o:=hf.2;simp only[Op.eqFields,hf.1,ne_eq,not_false_eq_true,if_true,hoff];simp only[Sem.run_bind]at e1 ⊢;cases hp:(Go.part f.type xs o).run p w with
         |halt x w'=>rw[hp]at e1;simp[Result.andThen]at e1
         |ok a1 w1=>
          rw[hp]at e1;simp only[Result.andThen_ok]at e1 ⊢;cases hp2:(Go.part f.type ys o).run p w1 with
          |halt x w'=>rw[hp2]at e1;simp[Result.andThen]at e1
          |ok b1 w2=>
           rw[hp2]at e1;simp only[Result.andThen_ok]at e1 ⊢;rw[e1];cases r1 with
           |false=>simp
           |true=>simp[e2]
        ·simp at h
       ·simp at h
      ·simp at h
    exact main fs.toList ls 0 as bs r _ _ h he (ha.extract (by omega)) (hb.extract (by omega))
  ·obtain⟨l,rfl,hl⟩:=Rr h (fun fs hf=>hstruct ⟨fs,hf⟩)
   match as,bs,he with
   | [a],[b],he=>
    simp only[dD,xu,fV,abR,bI]at he;obtain⟨r',hr',rfl⟩:=he;obtain⟨va,hva,hra⟩:=ha 0 a rfl;obtain⟨vb,hvb,hrb⟩:=hb 0 b rfl;simp only[acg]at hva hvb;simp only[Sem.run_bind,wF (OM hl) hva,wF (OM hl) hvb,Result.andThen_ok];exact agQ hr' hl hra hrb D w
   | [],_,he=>simp[dD]at he
   |_::_,[],he=>simp[dD]at he
   | [_],_::_::_,he=>simp[dD]at he
   |_::_::_,_::_,he=>simp[dD]at he
theorem eO(r off n:Nat):(Addr.mk r off none).add n=⟨r,off+n,none⟩:=by
 unfold Addr.add;split
 ·rename_i h;subst h;rfl
 ·rfl
theorem AS_eq{t:TypeId}{f:Nat}{fd:Field}(h:AS p t f=some fd):∃fs,p.underlying t=some (.struct fs)∧fs[f]?=some fd:=by
 unfold AS at h;split at h
 ·exact⟨_,by assumption,h⟩
 ·cases h
theorem UT{V:View}{row:List PV}{o:Nat}{v:Value}(h:aV V (.p (.ptr row o)) v):∃r off,v=.pointer (some ⟨r,off+o,none⟩)∧V.ok r∧∃cv:Nat→Value,(∀k,k<row.length→V.w.cell? ⟨r,off+k,none⟩=some (cv k))∧(∀k,k<row.length→(cv k).oneCell'=true)∧∀(k:Nat) (q:PV),row[k]?=some q→dz V.w V.ok q (cv k):=by
 cases h with
 |p h=>
  cases h with
  |ptr _ _ r off cv hok hc h1 hr=>exact⟨r,off,rfl,hok,cv,hc,h1,hr⟩
theorem afG{V:View}{row:List PV}{o n:Nat}{r off:Nat}(h:aV V (.p (.ptr row o)) (.pointer (some ⟨r,off,none⟩))):aV V (.p (.ptr row (o+n))) (.pointer (some ⟨r,off+n,none⟩)):=by
 cases h with
 |p h=>
  cases h with
  |ptr _ _ _ off' cv hok hc h1 hr=>
   have:=dz.ptr row (o+n) r off' cv hok hc h1 hr;rw[←acq]at this;exact .p this
theorem VV{V:View}{b m i o n:Nat}{a:Addr}(h:aV V (.ptr b m i o) (.pointer (some a))):aV V (.ptr b m i (o+n)) (.pointer (some (a.add n))):=by
 cases h with
 |ptr _ _ _ _ a s hs hn hp=>
  refine .ptr b m i (o+n) _ s hs hn fun es l h1 h2 h3=>?_
  obtain⟨r',h4,h5⟩:=hp es l h1 h2 h3;subst h5;exact⟨r',h4,by rw[eO,acq]⟩
theorem Nj{V:View}{b m i o:Nat}{v:Value}(h:aV V (.ptr b m i o) v):∃a,v=.pointer (some a):=by cases h;exact⟨_,rfl⟩
theorem Ly{t:TypeId}{f:Nat}{fd:Field}{s:Nat}(h:AS p t f=some fd)(hs:cN p fd.type=some s)(h0:s≠0)(a:Addr)(w:World):(Instr.fieldAt t (.pointer (some a)) f).run p w=.ok (.pointer (some (a.add fd.offset))) w:=by
 obtain⟨fs,ht,hf⟩:=AS_eq h;simp only[Instr.fieldAt,Sem.run_bind,br ht,Result.andThen_ok,hf,Instr.sureAddr,Sem.run_pure,fieldPlace,l4 hs,h0,if_false]
theorem EJ{V:View}{rows:List (List PV)}{v:Value}(h:aV V (.p (.aM rows)) v):∃a c,v=.slice a rows.length c∧rows.length≤c∧(rows≠[]→∃r off es,a=some ⟨r,off,none⟩∧V.ok r∧(∀x∈rows,x.length=es)∧∃cv:Nat→Value,
  (∀k,k<rows.length*es→V.w.cell? ⟨r,off+k,none⟩=some (cv k))∧(∀k,k<rows.length*es→(cv k).oneCell'=true)∧∀(k:Nat) (q:PV),rows.flatten[k]?=some q→dz V.w V.ok q (cv k)):=by
 cases h with
 |p h=>
  cases h with
  |J1 a c=>exact⟨a,c,rfl,Zw _,fun h=>absurd rfl h⟩
  |aM _ r off c es cv hr hok hc hes hcell hone hrel=>exact⟨_,c,rfl,hc,fun _=>⟨r,off,es,rfl,hok,hes,cv,hcell,hone,hrel⟩⟩
theorem aok{V:View}{vs:List AV}{us:List Value}(hl:vs.length=us.length)(hr:∀(i:Nat) (c:AV) (v:Value),vs[i]?=some c→us[i]?=some v→aV V c v){k:Nat}{c:AV}(h:vs[k]?=some c):∃u,us[k]?=some u∧aV V c u:=by
 have hk:k<us.length:=by have:=(fU.1 h).1;omega
 exact⟨us[k],oq hk,hr k c _ h (oq hk)⟩
section ops
variable {V:View} {τ:Tm} {nt:Nat} {a:Act} (hT:oW V τ nt a.tmps) {o:Oper} {av:AV}
include hT
theorem aq1{c x y:Operand}{c' x' y':O}(hop:o.op=.pick c x y)(hc:fN c=some c')(hx:fN x=some x')(hy:fN y=some y')(hq:quiet V.σ τ (.pick c' x' y')=some av):∃v,(execOp a.eval o).run p V.w=.ok (.value v) V.w∧aV V av v:=by
 simp only[quiet,gI]at hq;obtain⟨b,hb,rfl⟩:=hq;have:=yV hb (bq hT hc);refine⟨if b then a.eval x else a.eval y,?_,?_⟩
 ·simp only[execOp,hop,this,asBool]
  cases b<;>rfl
 ·cases b
  ·exact bq hT hy
  ·exact bq hT hx
theorem aqZ(hS:cK p cq V){t:TypeId}{x:Operand}{x':O}{s:Nat}{g:Bool}(hop:o.op=.load t x)(hs:cN p t=some s)(hg:np p t=some g)(hx:fN x=some x')(hq:quiet V.σ τ (.load s g x')=some av):∃v,(execOp a.eval o).run p V.w=.ok (.value v) V.w∧aV V av v:=by
 obtain⟨v,h1,h2⟩:=XT hS hs hg hq (bq hT hx);exact⟨v,by simp[execOp,hop,h1],h2⟩
theorem IE{op:BinOp}{t ty:TypeId}{x y:Operand}{x' y':O}(hop:o.op=.binOp op t x y ty)(hx:fN x=some x')(hy:fN y=some y')(hq:quiet V.σ τ (.arith op x' y')=some av):∃v,(execOp a.eval o).run p V.w=.ok (.value v) V.w∧aV V av v:=by
 simp only[quiet]at hq;split at hq
 ·rename_i qa qb ha hb
  simp only[gI]at hq;obtain⟨z,hz,rfl⟩:=hq;have h1:=bq hT hx;rw[ha]at h1;have h2:=bq hT hy;rw[hb]at h2;obtain⟨v,h3,h4⟩:=aiE (p:=p) hz h1.Ak h2.Ak t x y V.w;refine⟨v,?_,.p h4⟩;simp only[Sem.run_bind]at h3;simp only[execOp,hop,Sem.run_bind];rw[h3];rfl
 ·cases hq
theorem apc{neg:Bool}{t ty:TypeId}{x y:Operand}{x' y':O}(hop:o.op=.binOp (if neg then .neq else .eql) t x y ty)(ht:p.underlying t=some .bool)(hx:fN x=some x')(hy:fN y=some y')(hq:quiet V.σ τ (.eqB neg x' y')=some av):∃v,(execOp a.eval o).run p V.w=.ok (.value v) V.w∧aV V av v:=by
 simp only[quiet,fV,gI]at hq;obtain⟨b1,h1,b2,h2,rfl⟩:=hq;have e1:=yV h1 (bq hT hx);have e2:=yV h2 (bq hT hy);refine⟨_,?_,.p (.bool _)⟩;have hg:=uh (p:=p) (op:=if neg then .neq else .eql) (t:=t) (x:=x) (y:=y) (a:=.bool b1) (b:=.bool b2) (by simp) (by simp) V.w
 have he:(Op.equal t (.bool b1) (.bool b2)).run p V.w=.ok (b1 == b2) V.w:=run_equalIn_bool' V.w 9999 t b1 b2 ht;simp only[execOp,hop,e1,e2,Sem.run_bind,hg,Result.andThen_ok];cases neg<;>simp[binOp,he]
omit hT in
theorem ak9(d:Nat){t:TypeId}{ps rs:Array TypeId}{vr:Bool}(ht:p.underlying t=some (.func ps rs vr))(w:World):(Op.equalIn (d+1) t .nilFunc .nilFunc).run p w=.ok true w:=by simp[Op.equalIn,br ht]
omit hT in
theorem YO(d:Nat){t:TypeId}{ps rs:Array TypeId}{vr:Bool}(ht:p.underlying t=some (.func ps rs vr))(f:Fn)(ms:Array Value)(vs:Array Value)(w:World):(Op.equalIn (d+1) t (.func f ms vs) .nilFunc).run p w=.ok false w:=by simp[Op.equalIn,br ht]
theorem afK{neg:Bool}{t ty:TypeId}{x y:Operand}{x':O}{ps rs:Array TypeId}{vr:Bool}(hop:o.op=.binOp (if neg then .neq else .eql) t x y ty)(ht:p.underlying t=some (.func ps rs vr))(hx:fN x=some x')(hy:fN y=some (.c (.p .zc)))(hq:quiet V.σ τ (.KD neg x')=some av):∃v,(execOp a.eval o).run p V.w=.ok (.value v) V.w∧aV V av v:=by
 have h2:=bq hT hy
 have e2:a.eval y=.nilFunc:=by
  generalize a.eval y=vy at h2;cases h2 with
  |p h=>cases h;rfl
 have h1:=bq hT hx
 have fin:∀(v:Value) (r:Bool),a.eval x=v→v≠.nilIface→(∀cs,v≠.agg cs)→(∀w,(Op.equal t v .nilFunc).run p w=.ok r w)→av=.p (.bool (if neg then !r else r))→∃v,(execOp a.eval o).run p V.w=.ok (.value v) V.w∧aV V av v:=by
  intro v r e1 n1 n2 he hav;subst hav;refine⟨_,?_,.p (.bool _)⟩;have hg:=uh (p:=p) (op:=if neg then .neq else .eql) (t:=t) (x:=x) (y:=y) (a:=v) (b:=.nilFunc) n1 n2 V.w
  simp only[execOp,hop,e1,e2,Sem.run_bind,hg,Result.andThen_ok];cases neg<;>simp[binOp,he]
 simp only[quiet]at hq;split at hq
 ·rename_i hx0
  rw[hx0]at h1;cases hq;generalize hvx:a.eval x=vx at h1;cases h1 with
  |p h=>
   cases h;exact fin .nilFunc true hvx (by simp) (by simp) (fun w=>ak9 9999 ht w) (by cases neg<;>rfl)
 ·rename_i f cs hx0
  rw[hx0]at h1;cases hq;generalize hvx:a.eval x=vx at h1;cases h1 with
  |p h=>
   cases h with
   |fn _ _ vs hl hr=>exact fin _ false hvx (by simp) (by simp) (fun w=>YO 9999 ht _ _ _ w) (by cases neg<;>rfl)
 ·rename_i f cs hx0
  rw[hx0]at h1;cases hq;generalize hvx:a.eval x=vx at h1;cases h1 with
  |fn _ _ vs hl hr=>exact fin _ false hvx (by simp) (by simp) (fun w=>YO 9999 ht _ _ _ w) (by cases neg<;>rfl)
 ·cases hq
theorem auk{neg:Bool}{lv:List mX}{t ty:TypeId}{x y:Operand}{x' y':O}(hop:o.op=.binOp (if neg then .neq else .eql) t x y ty)(hg:p.eqGuardType p.depth t=false)(hlv:mZ p 8 t=some lv)(hag:np p t=some true)(hx:fN x=some x')(hy:fN y=some y')
  (hsz:cN p t=some lv.length) (hq:quiet V.σ τ (.eqA neg lv x' y')=some av):∃v,(execOp a.eval o).run p V.w=.ok (.value v) V.w∧aV V av v:=by
 simp only[quiet]at hq;split at hq
 ·rename_i qa qb ha hb
  simp only[gI]at hq;obtain⟨z,hz,rfl⟩:=hq;have h1:=bq hT hx;rw[ha]at h1;have h2:=bq hT hy;rw[hb]at h2;obtain⟨hla,hlb⟩:=yZ hz
  have aggs:∀{qs:List PV} {v:Value},aV V (.p (.agg qs)) v→∃xs:Array Value,v=.agg xs∧xs.size=qs.length∧o7 V qs xs 0:=by
   intro qs v h;cases h with
   |p h=>
    cases h with
    |agg _ vs hl _ hr=>
     refine⟨vs.toArray,rfl,by simp[hl],fun j c hc=>?_⟩
     have hj:j<vs.length:=by have:=(fU.1 hc).1;omega
     exact⟨vs[j],by simp[hj],hr j c _ hc (oq hj)⟩
  obtain⟨xs,e1,s1,c1⟩:=aggs h1;obtain⟨ys,e2,s2,c2⟩:=aggs h2;have key:=Oe 8 t lv hlv hsz 10000 (by omega) V qa qb z xs ys 0 0 V.w hz c1 c2
  simp only[Sem.run_bind,yl hag hsz,Result.andThen_ok,tn]at key;rw[show xs.extract 0 lv.length=xs by rw[←hla,←s1];simp,show ys.extract 0 lv.length=ys by rw[←hlb,←s2];simp]at key
  refine⟨_,?_,.p (.bool _)⟩;simp only[execOp,hop,e1,e2,Sem.run_bind,run_eqGuard_agg V.w _ t x y xs ys hg,Result.andThen_ok];cases neg<;>simp[run_eql_struct,run_neq_struct,key]
 ·cases hq
theorem aun{t:TypeId}{x:Operand}{x':O}(hop:o.op=.unOp .not t x)(hx:fN x=some x')(hq:quiet V.σ τ (.not x')=some av):∃v,(execOp a.eval o).run p V.w=.ok (.value v) V.w∧aV V av v:=by
 simp only[quiet,gI]at hq;obtain⟨b,hb,rfl⟩:=hq;have:=yV hb (bq hT hx);exact⟨.bool !b,by simp[execOp,hop,this,Op.unary],.p (.bool _)⟩
theorem aum{t:TypeId}{x:Operand}{x':O}(hop:o.op=.unOp .neg t x)(hx:fN x=some x')(hq:quiet V.σ τ (.neg x')=some av):∃v,(execOp a.eval o).run p V.w=.ok (.value v) V.w∧aV V av v:=by
 simp only[quiet]at hq;split at hq
 ·rename_i k n hv
  cases hq;have:=bq hT hx;rw[hv]at this;exact⟨.int k (k.wrap (0-n)),by simp[execOp,hop,this.HG,Op.unary,Op.intArith],.p (.int _ _)⟩
 ·cases hq
theorem anQ{t:TypeId}{x:Operand}{x':O}(hop:o.op=.unOp .xor t x)(hx:fN x=some x')(hq:quiet V.σ τ (.Kt x')=some av):∃v,(execOp a.eval o).run p V.w=.ok (.value v) V.w∧aV V av v:=by
 simp only[quiet]at hq;split at hq
 ·rename_i k n hv
  simp only[s9,xu,bI]at hq;subst hq;have:=bq hT hx;rw[hv]at this;exact⟨_,by simp only[execOp,hop,this.HG,Op.unary,Op.intBits];rfl,.p (.int _ _)⟩
 ·cases hq
theorem aqS{s d:TypeId}{k1 k:IntKind}{x:Operand}{x':O}(hop:o.op=.convert s d x)(h1:p.underlying s=some (.int k1))(h2:p.underlying d=some (.int k))(hx:fN x=some x')(hq:quiet V.σ τ (.conv k x')=some av):∃v,(execOp a.eval o).run p V.w=.ok (.value v) V.w∧aV V av v:=by
 simp only[quiet]at hq;split at hq
 ·rename_i k' n hv
  cases hq;have:=bq hT hx;rw[hv]at this;exact⟨.int k (k.wrap n),by simp[execOp,hop,this.HG,convert,br h1,br h2,Conv.intToInt],.p (.int _ _)⟩
 ·cases hq
theorem anR{s d:TypeId}{x:Operand}{x':O}(hop:o.op=.convert s d x)(h1:p.underlying s=some .string)(h2:p.underlying d=some .string)(hx:fN x=some x')(hq:quiet V.σ τ (.NW x')=some av):∃v,(execOp a.eval o).run p V.w=.ok (.value v) V.w∧aV V av v:=by
 simp only[quiet]at hq;split at hq
 ·rename_i s hv
  cases hq;have:=bq hT hx;rw[hv]at this;exact⟨.string s,by simp[execOp,hop,this.Jb,convert,br h1,br h2],.p (.str _)⟩
 ·cases hq
theorem aqT{t:TypeId}{f:Nat}{fd:Field}{s:Nat}{x:Operand}{x':O}(hop:o.op=.fieldAddr t x f)(hf:AS p t f=some fd)(hs:cN p fd.type=some s)(h0:s≠0)(hx:fN x=some x')(hq:quiet V.σ τ (.bP fd.offset x')=some av):∃v,(execOp a.eval o).run p V.w=.ok (.value v) V.w∧aV V av v:=by
 have hv:=bq hT hx;simp only[quiet]at hq;split at hq
 ·rename_i row off he
  cases hq;rw[he]at hv;obtain⟨r,off',e,_⟩:=UT hv;rw[e]at hv;refine⟨.pointer (some ((Addr.mk r (off'+off) none).add fd.offset)),by simp[execOp,hop,e,Ly hf hs h0],?_⟩
  rw[eO];exact afG hv
 ·rename_i b n i off he
  cases hq;rw[he]at hv;obtain⟨ad,e⟩:=Nj hv;rw[e]at hv;exact⟨.pointer (some (ad.add fd.offset)),by simp[execOp,hop,e,Ly hf hs h0],VV hv⟩
 ·cases hq
theorem aul{t:TypeId}{f:Nat}{fd:Field}{s:Nat}{g:Bool}{x:Operand}{x':O}(hop:o.op=.field t x f)(hf:AS p t f=some fd)(hs:cN p fd.type=some s)(hg:np p fd.type=some g)(hx:fN x=some x')(hq:quiet V.σ τ (.fld fd.offset s g x')=some av):∃v,(execOp a.eval o).run p V.w=.ok (.value v) V.w∧aV V av v:=by
 have hv:=bq hT hx;obtain⟨fs,ht,hf'⟩:=AS_eq hf
 have main:∀(cs:List AV) (vs:List Value),a.eval x=.agg vs.toArray→cs.length=vs.length→(∀v∈vs,v.oneCell'=true)→(∀(i:Nat) (c:AV) (v:Value),cs[i]?=some c→vs[i]?=some v→aV V c v)→(part fd.offset s cs).bind (mJ g)=some av→∃v,(execOp a.eval o).run p V.w=.ok (.value v) V.w∧aV V av v:=by
  intro cs vs e hl hone hr hq;simp only[fV]at hq;obtain⟨ps,hps,hq⟩:=hq;obtain⟨hle,hpe⟩:=BI hps;obtain⟨hpl,hget⟩:=IA hps
  have hvs:∀(i:Nat) (c:AV) (v:Value),ps[i]?=some c→((vs.drop fd.offset).take s)[i]?=some v→aV V c v:=by
   intro i c v hc hv;have hi:i<s:=by have:=(fU.1 hc).1;omega
   rw[hget i hi]at hc;rw[VK hi,abk]at hv;exact hr _ c v hc hv
  obtain⟨h1,h2⟩:=Ai hq (vs:=(vs.drop fd.offset).take s) (by rw[hpl];simp;omega) (fun v hv=>hone v (abL (abQ hv))) hvs
  refine⟨_,?_,h1⟩;simp only[execOp,hop,e,Instr.field,Sem.run_bind,br ht,Result.andThen_ok,hf',asAgg,Sem.run_pure];cases g with
  |true=>
   simp only[yl hg hs,Result.andThen_ok,if_true]
   congr 3
   apply Array.ext';simp
  |false=>
   have:=h2 rfl;have hs1:s=1:=by omega
   subst hs1;have hlt:fd.offset<vs.length:=by omega
   simp only[wF hg (xs:=vs.toArray) (off:=fd.offset) (v:=vs[fd.offset]) (by simp[hlt]),Result.andThen_ok,kS,if_false]
   congr 3
   rw[abm hlt];rfl
 simp only[quiet]at hq;split at hq
 ·rename_i cs he
  rw[he]at hv;cases hv with
  |p hv=>
   generalize hvx:a.eval x=vx at hv;cases hv with
   |agg _ vs hl hone hr=>
    refine main (cs.map .p) vs hvx (by simp[hl]) hone (fun i c v hc hv=>?_) ?_
    ·rw[zA,gI]at hc
     obtain⟨q,hq,rfl⟩:=hc;exact .p (hr i q v hq hv)
    ·rw[Option.map_bind]at hq
     simp only[acj,Ah]at hq;rw[Pw];cases hp:part fd.offset s cs with
     |none=>simp[hp]at hq
     |some ps=>simpa[hp]using hq
 ·rename_i cs he
  rw[he]at hv;generalize hvx:a.eval x=vx at hv;cases hv with
  |agg _ vs hl hone hr=>exact main cs vs hvx hl hone hr hq
 ·cases hq
theorem anS{t:TypeId}{len:Nat}{e:TypeId}{es:Nat}{x i:Operand}{x' i':O}(hop:o.op=.indexAddr t x i)(ht:p.underlying t=some (.array len e))(he:cN p e=some es)(hx:fN x=some x')(hi:fN i=some i')(hq:quiet V.σ τ (.OC len es x' i')=some av):∃v,(execOp a.eval o).run p V.w=.ok (.value v) V.w∧aV V av v:=by
 simp only[quiet,fV]at hq;obtain⟨n,hn,hq⟩:=hq;obtain⟨k,hk⟩:=vJ hn (bq hT hi);have hv:=bq hT hx;split at hq
 ·rename_i hlt
  have run:∀ad:Addr,a.eval x=.pointer (some ad)→(execOp a.eval o).run p V.w=.ok (.value (.pointer (some (ad.add (n*es))))) V.w:=by
   intro ad hx;simp[execOp,hop,hx,hk,Instr.indexAt,asIntOf,br ht,Instr.sureAddr,l4 he];intro h;omega
  split at hq
  ·rename_i row off hx'
   cases hq;rw[hx']at hv;obtain⟨r,off',e',_⟩:=UT hv;rw[e']at hv;refine⟨_,run _ e',?_⟩;rw[eO];exact afG hv
  ·rename_i b m j off hx'
   cases hq;rw[hx']at hv;obtain⟨ad,e'⟩:=Nj hv;rw[e']at hv;exact⟨_,run _ e',VV hv⟩
  ·cases hq
 ·cases hq
theorem anT(hS:cK p cq V){t:TypeId}{e:TypeId}{es:Nat}{x i:Operand}{x' i':O}(hop:o.op=.indexAddr t x i)(ht:p.underlying t=some (.slice e))(he:cN p e=some es)(hx:fN x=some x')(hi:fN i=some i')(hq:quiet V.σ τ (.au es x' i')=some av):∃v,(execOp a.eval o).run p V.w=.ok (.value v) V.w∧aV V av v:=by
 simp only[quiet,fV]at hq;obtain⟨n,hn,hq⟩:=hq;obtain⟨k,hk⟩:=vJ hn (bq hT hi);have hv:=bq hT hx
 have run:∀(ad:Addr) (len c:Nat),a.eval x=.slice (some ad) len c→n<len→(execOp a.eval o).run p V.w=.ok (.value (.pointer (some (ad.add (n*es))))) V.w:=by
  intro ad len c hx hlt;simp[execOp,hop,hx,hk,Instr.indexAt,asIntOf,br ht,l4 he];intro h;omega
 split at hq
 ·rename_i rows hx'
  simp only[fV]at hq;obtain⟨row,hrow,hq⟩:=hq;split at hq
  ·rename_i hes
   cases hq;rw[hx']at hv;obtain⟨a1,c,e1,hc,hr⟩:=EJ hv;have hlt:n<rows.length:=(fU.1 hrow).1;obtain⟨r,off,es',rfl,hok,hwide,cv,hcell,hone,hrel⟩:=hr (by intro h;subst h;simp at hlt)
   have hes':es=es':=by rw[←hes];exact hwide row (mi hrow)
   subst hes';refine⟨_,run _ _ _ e1 hlt,?_⟩;rw[eO]
   have:=dz.ptr (w:=V.w) (ok:=V.ok) row 0 r (off+n*es) (fun k=>cv (n*es+k)) hok
    (fun j hj=>by
     rw[acq]
     exact hcell _ (by
      have:n*es+es≤rows.length*es:=by rw[←abJ];exact MK _ hlt
      omega))
    (fun j hj=>hone _ (by
      have:n*es+es≤rows.length*es:=by rw[←abJ];exact MK _ hlt
      omega))
    (fun j q hq=>hrel _ q (gT hwide hrow hq))
   exact .p this
  ·cases hq
 ·rename_i b m hx'
  split at hq
  ·rename_i hm
   cases hq;rw[hx']at hv;generalize hvx:a.eval x=vx at hv;cases hv with
   |sl _ _ ad c s hs hn' hp=>
    have hsl:=hm.2;unfold RW at hsl;cases ho:V.σ[b]? with
    |none=>simp[ho]at hsl
    |some ob=>
     obtain⟨l,hl⟩:=hS.om ho;have hor:=hS.obj b l ob hl ho;simp only[ho,zy]at hsl
     have fin:∀(rows:List (List AV)),pO V l es rows→ob.sh=.vec es m→rows.length=m→∃v,(execOp a.eval o).run p V.w=.ok (.value v) V.w∧aV V (.ptr b m n 0) v:=by
      intro rows hvec hsh hlen;have hse:s=.vec es m:=by rw[←hsh];simpa[View.sh,ho]using hs.symm
      obtain⟨e1,e2⟩:=hp es l hse hl;cases hb:l.jc with
      |none=>
       have:=hvec.nil hb;have:=hvec.cap;omega
      |some r=>
       have e3:ad=some ⟨r,0,none⟩:=by
        rw[e1 (by have:=hvec.cap;omega)]
        simp[Loc.addr,hb]
       subst e3;refine⟨_,run _ _ _ hvx hm.1,?_⟩;rw[eO,tn];refine .ptr b m n 0 _ s hs hn' fun es1 l1 h1 h2 h3=>?_
       rw[hl,bI]at h2;subst h2;rw[hse]at h1;cases h1;exact⟨r,hb,rfl⟩
     cases ob with
     |pv es0 rows f=>
      simp only[Obj.Re,bI,qX]at hsl;obtain⟨rfl,rfl⟩:=hsl;exact fin _ hor rfl (by simp[aF])
     |av es0 rows f=>
      simp only[Obj.Re,bI,qX]at hsl;obtain⟨rfl,rfl⟩:=hsl;exact fin _ hor rfl rfl
     |map=>simp[Obj.Re]at hsl
     |loop=>simp[Obj.Re]at hsl
     |gone=>simp[Obj.Re]at hsl
  ·cases hq
 ·cases hq
end ops
theorem yp{V:View}{x:AV}{v:Value}(h:aV V x v){cs:List AV}(hx:x=.agg cs∨∃ps,x=.p (.agg ps)∧cs=ps.map .p):∃vs:List Value,v=.agg vs.toArray∧cs.length=vs.length∧(∀v∈vs,v.oneCell'=true)∧∀(i:Nat) (c:AV) (v:Value),cs[i]?=some c→vs[i]?=some v→aV V c v:=by
 rcases hx with rfl|⟨ps,rfl,rfl⟩
 ·cases h with|agg _ vs hl hone hr=>exact⟨vs,rfl,hl,hone,hr⟩
 ·cases h with
  |p h=>
   cases h with
   |agg _ vs hl hone hr=>
    refine⟨vs,rfl,by simp[hl],hone,fun i c v hc hv=>?_⟩
    rw[zA,gI]at hc;obtain⟨q,hq,rfl⟩:=hc;exact .p (hr i q v hq hv)
theorem Jj{V:View}{x:AV}{v:Value}(h:aV V x v){cs:List AV}(hx:x=.jC cs∨∃ps,x=.p (.jC ps)∧cs=ps.map .p):∃vs:List Value,v=.tuple vs.toArray∧cs.length=vs.length∧∀(i:Nat) (c:AV) (v:Value),cs[i]?=some c→vs[i]?=some v→aV V c v:=by
 rcases hx with rfl|⟨ps,rfl,rfl⟩
 ·cases h with|jC _ vs hl hr=>exact⟨vs,rfl,hl,hr⟩
 ·cases h with
  |p h=>
   cases h with
   |jC _ vs hl hr=>
    refine⟨vs,rfl,by simp[hl],fun i c v hc hv=>?_⟩
    rw[zA,gI]at hc;obtain⟨q,hq,rfl⟩:=hc;exact .p (hr i q v hq hv)
theorem anL{V:View}{t:TypeId}{s:Nat}{g:Bool}(hs:cN p t=some s)(hg:np p t=some g){cs:List AV}{vs:List Value}(hl:cs.length=vs.length)(hone:∀v∈vs,v.oneCell'=true)(hr:∀(i:Nat) (c:AV) (v:Value),cs[i]?=some c→vs[i]?=some v→aV V c v){off:Nat}{x:AV}(h:(part off s cs).bind (mJ g)=some x)(w:World) :
  ∃v,(Go.part t vs.toArray off).run p w=.ok v w∧aV V x v:=by
 simp only[fV]at h;obtain⟨ps,hps,hq⟩:=h;obtain⟨hle,hpe⟩:=BI hps;obtain⟨hpl,hget⟩:=IA hps
 have hvs:∀(i:Nat) (c:AV) (v:Value),ps[i]?=some c→((vs.drop off).take s)[i]?=some v→aV V c v:=by
  intro i c v hc hv;have hi:i<s:=by have:=(fU.1 hc).1;omega
  rw[hget i hi]at hc;rw[VK hi,abk]at hv;exact hr _ c v hc hv
 obtain⟨h1,h2⟩:=Ai hq (vs:=(vs.drop off).take s) (by rw[hpl];simp;omega) (fun v hv=>hone v (abL (abQ hv))) hvs
 refine⟨_,?_,h1⟩;cases g with
 |true=>
  rw[yl hg hs,if_pos rfl]
  congr 2
  apply Array.ext';simp
 |false=>
  have:=h2 rfl;have hs1:s=1:=by omega
  subst hs1;have hlt:off<vs.length:=by omega
  rw[wF hg (xs:=vs.toArray) (off:=off) (v:=vs[off]) (by simp[hlt]),if_neg (by simp)]
  congr 1
  rw[abm hlt];rfl
theorem akr{off s:Nat}{g:Bool}{cs:List PV}{x:AV}(h:((part off s cs).bind (oG g)).map .p=some x):(part off s (cs.map .p)).bind (mJ g)=some x:=by
 rw[Option.map_bind]at h;simp only[acj,Ah]at h;rw[Pw];cases hp:part off s cs with
 |none=>simp[hp]at h
 |some ps=>simpa[hp]using h
theorem MU{o:Oper}{a:Act}{c:Call}(hop:o.op=.call c)(hb:c.callee=.builtin .len){v:Value}{w:World}(h:(Builtin.len_ c.argTypes o.type (c.args.map a.eval)).run p w=.ok v w):(execOp a.eval o).run p w=.ok (.value v) w:=by
 simp[execOp,hop,resolve,hb,invoke,builtin,h]
theorem akV{V:View}{τ:Tm}{a:Act}{o:Oper}{av:AV}{c:Call}{t e:TypeId}{n:Nat}{x:Operand}(hop:o.op=.call c)(hb:c.callee=.builtin .len)(hty:c.argTypes[0]?=some t)(ht:p.underlying t=some (.array n e)∨∃u,p.underlying t=some (.pointer u)∧p.underlying u=some (.array n e))(hx0:c.args[0]?=some x)(hq:quiet V.σ τ (.adl n)=some av):∃v,(execOp a.eval o).run p V.w=.ok (.value v) V.w∧aV V av v:=by
 simp only[quiet,bI]at hq;subst hq;refine⟨.int .i64 (Int.ofNat n),MU hop hb ?_,.p (.int _ _)⟩;rcases ht with ht|⟨u,ht,hu⟩
 ·simp[Builtin.len_,hty,hx0,br ht,goInt]
 ·simp[Builtin.len_,hty,hx0,br ht,br hu,goInt]
theorem ahp{V:View}(mx:Bool):∀(ys:List AV) (vs:List Value) (x z:PV) (v:Value),E8 mx x ys=some z→ys.length=vs.length→(∀(i:Nat) (c:AV) (v:Value),ys[i]?=some c→vs[i]?=some v→aV V c v)→dz V.w V.ok x v →
  ∃u,(vs.foldlM (if mx then Builtin.max2 else Builtin.min2) v).run p V.w=.ok u V.w∧dz V.w V.ok z u:=by
 intro ys
 induction ys with
 |nil=>
  intro vs x z v h hl _ hv;simp only[E8,bI]at h;subst h
  match vs,hl with
  | [],_=>exact⟨v,rfl,hv⟩
 |cons y ys ih=>
  intro vs x z v h hl hr hv
  match vs,hl with
  |u::us,hl=>
   unfold E8 at h;split at h
   ·rename_i heq;cases heq
   ·rename_i y' r heq
    cases heq;simp only[fV]at h;obtain⟨z',hz',h⟩:=h
    obtain⟨k,i1,k',i2,rfl,rfl,rfl⟩:∃k i1 k' i2,x=.int k i1∧y'=.int k' i2∧z'=.int k (if mx then max i1 i2 else min i1 i2):=by
     cases x<;>cases y'<;>simp[afv]at hz' ⊢
     exact⟨_,_,⟨rfl,rfl⟩,_,_,⟨rfl,rfl⟩,hz'.symm⟩
    cases hv;have:=(hr 0 _ u rfl rfl).HG;subst this;obtain⟨u',h1,h2⟩:=ih us _ z (.int k (if mx then max i1 i2 else min i1 i2)) h (by simpa using hl) (fun i c v hc hv=>hr (i+1) c v (by simpa using hc) (by simpa using hv)) (.int _ _)
    refine⟨u',?_,h2⟩;rw[List.foldlM_cons,Sem.run_bind]
    have:((if mx=true then Builtin.max2 else Builtin.min2) (.int k i1) (.int k' i2)).run p V.w=.ok (.int k (if mx then max i1 i2 else min i1 i2)) V.w:=by
     cases mx
     ·simp only[kS,if_false,Builtin.min2,Sem.run_pure]
      congr 2
      split<;>omega
     ·simp only[if_true,Builtin.max2,Sem.run_pure]
      congr 2
      split<;>omega
    rw[this];exact h1
   ·cases h
section ops
variable {V:View} {τ:Tm} {nt:Nat} {a:Act} (hT:oW V τ nt a.tmps) {o:Oper} {av:AV}
include hT
theorem aqU{t:TypeId}{len:Nat}{e:TypeId}{es:Nat}{g:Bool}{x i:Operand}{x' i':O}(hop:o.op=.index t x i)(ht:p.underlying t=some (.array len e))(he:cN p e=some es)(hg:np p e=some g)(hx:fN x=some x')(hi:fN i=some i')(hq:quiet V.σ τ (.ade len es g x' i')=some av):∃v,(execOp a.eval o).run p V.w=.ok (.value v) V.w∧aV V av v:=by
 simp only[quiet,fV]at hq;obtain⟨n,hn,hq⟩:=hq;obtain⟨k,hk⟩:=vJ hn (bq hT hi);have hv:=bq hT hx;split at hq
 ·rename_i hlt
  have main:∀(cs:List AV) (vs:List Value),a.eval x=.agg vs.toArray→cs.length=vs.length→(∀v∈vs,v.oneCell'=true)→(∀(i:Nat) (c:AV) (v:Value),cs[i]?=some c→vs[i]?=some v→aV V c v)→(part (n*es) es cs).bind (mJ g)=some av→∃v,(execOp a.eval o).run p V.w=.ok (.value v) V.w∧aV V av v:=by
   intro cs vs e1 hl hone hr hq;obtain⟨v,h1,h2⟩:=anL he hg hl hone hr hq V.w;refine⟨v,?_,h2⟩;have hlt':¬len≤n:=by omega
   simp[execOp,hop,hk,e1,Instr.index,asIntOf,br ht,l4 he,h1,hlt']
  split at hq
  ·rename_i cs he'
   rw[he']at hv;obtain⟨vs,e1,hl,hone,hr⟩:=yp hv (.inr ⟨cs,rfl,rfl⟩);exact main _ vs e1 hl hone hr (akr hq)
  ·rename_i cs he'
   rw[he']at hv;obtain⟨vs,e1,hl,hone,hr⟩:=yp hv (.inl rfl);exact main _ vs e1 hl hone hr hq
  ·cases hq
 ·cases hq
theorem aqV{t:TypeId}{x i:Operand}{x' i':O}(hop:o.op=.index t x i)(ht:p.underlying t=some .string)(hx:fN x=some x')(hi:fN i=some i')(hq:quiet V.σ τ (.JP x' i')=some av):∃v,(execOp a.eval o).run p V.w=.ok (.value v) V.w∧aV V av v:=by
 simp only[quiet,fV]at hq;obtain⟨n,hn,hq⟩:=hq;obtain⟨k,hk⟩:=vJ hn (bq hT hi);have hv:=bq hT hx;split at hq
 ·rename_i s hs
  rw[hs]at hv;simp only[gI]at hq;obtain⟨b,hb,rfl⟩:=hq;exact⟨.int .u8 b.toNat,by simp[execOp,hop,hk,hv.Jb,Instr.index,asIntOf,br ht,hb],.p (.int _ _)⟩
 ·cases hq
theorem ahD{x:Operand}{x':O}{k:Nat}(hop:o.op=.extract x k)(hx:fN x=some x')(hq:quiet V.σ τ (.extract x' k)=some av):∃v,(execOp a.eval o).run p V.w=.ok (.value v) V.w∧aV V av v:=by
 have hv:=bq hT hx
 have main:∀(cs:List AV) (vs:List Value),a.eval x=.tuple vs.toArray→cs.length=vs.length→(∀(i:Nat) (c:AV) (v:Value),cs[i]?=some c→vs[i]?=some v→aV V c v)→cs[k]?=some av→∃v,(execOp a.eval o).run p V.w=.ok (.value v) V.w∧aV V av v:=by
  intro cs vs e1 hl hr hq;obtain⟨u,hu,hru⟩:=aok hl hr hq;exact⟨u,by simp[execOp,hop,e1,Instr.extract,hu],hru⟩
 simp only[quiet]at hq;split at hq
 ·rename_i vs he
  rw[he]at hv;obtain⟨us,e1,hl,hr⟩:=Jj hv (.inr ⟨vs,rfl,rfl⟩);exact main _ us e1 hl hr (by rw[zA];exact hq)
 ·rename_i vs he
  rw[he]at hv;obtain⟨us,e1,hl,hr⟩:=Jj hv (.inl rfl);exact main _ us e1 hl hr hq
 ·cases hq
theorem aqX{c:Call}{t e:TypeId}{x:Operand}{x':O}(hop:o.op=.call c)(hb:c.callee=.builtin .len)(hty:c.argTypes[0]?=some t)(ht:p.underlying t=some (.slice e))(hx0:c.args[0]?=some x)(hx:fN x=some x')(hq:quiet V.σ τ (.bJ x')=some av):∃v,(execOp a.eval o).run p V.w=.ok (.value v) V.w∧aV V av v:=by
 have hv:=bq hT hx;simp only[quiet,gI]at hq;obtain⟨n,hn,rfl⟩:=hq
 have:∃ad cp,a.eval x=.slice ad n cp:=by
  unfold bJ at hn;split at hn
  ·rename_i rows he
   rw[he]at hv;obtain⟨ad,cp,e1,_⟩:=EJ hv;simp only[bI]at hn;subst hn;exact⟨ad,cp,e1⟩
  ·rename_i he
   rw[he]at hv;cases hn;generalize a.eval x=vx at hv;cases hv with|aC ad=>exact⟨ad,0,rfl⟩
  ·rename_i b m he
   rw[he]at hv;split at hn
   ·cases hn
    generalize a.eval x=vx at hv;cases hv with|sl _ _ ad cp=>exact⟨ad,cp,rfl⟩
   ·cases hn
  ·cases hn
 obtain⟨ad,cp,e1⟩:=this;refine⟨.int .i64 (Int.ofNat n),MU hop hb ?_,.p (.int _ _)⟩;simp[Builtin.len_,hty,hx0,e1,br ht,goInt]
theorem aqY{c:Call}{t:TypeId}{x:Operand}{x':O}(hop:o.op=.call c)(hb:c.callee=.builtin .len)(hty:c.argTypes[0]?=some t)(ht:p.underlying t=some .string)(hx0:c.args[0]?=some x)(hx:fN x=some x')(hq:quiet V.σ τ (.JY x')=some av):∃v,(execOp a.eval o).run p V.w=.ok (.value v) V.w∧aV V av v:=by
 have hv:=bq hT hx;simp only[quiet]at hq;split at hq
 ·rename_i s he
  cases hq;rw[he]at hv;refine⟨.int .i64 (Int.ofNat s.size),MU hop hb ?_,.p (.int _ _)⟩;simp[Builtin.len_,hty,hx0,hv.Jb,br ht,goInt]
 ·cases hq
theorem aqW(hS:cK p cq V){c:Call}{t k e:TypeId}{x:Operand}{x':O}(hop:o.op=.call c)(hb:c.callee=.builtin .len)(hty:c.argTypes[0]?=some t)(ht:p.underlying t=some (.map k e))(hx0:c.args[0]?=some x)(hx:fN x=some x')(hq:quiet V.σ τ (.AX x')=some av):∃v,(execOp a.eval o).run p V.w=.ok (.value v) V.w∧aV V av v:=by
 have hv:=bq hT hx;simp only[quiet,gI]at hq;obtain⟨n,hn,rfl⟩:=hq;refine⟨.int .i64 (Int.ofNat n),MU hop hb ?_,.p (.int _ _)⟩
 have key:∀(r:Nat) (en:Array MapEntry) (clock:Nat),a.eval x=.map (some r)→V.w.heap[r]?=some (.map en clock)→en.size=n→(Builtin.len_ c.argTypes o.type (c.args.map a.eval)).run p V.w=.ok (.int .i64 (Int.ofNat n)) V.w:=by
  intro r en clock e1 hm hsz;have hget:(getObj r).run p V.w=.ok (.map en clock) V.w:=by simp[getObj,Sem.run,hm]
  simp[Builtin.len_,hty,hx0,e1,br ht,goInt,hget,hsz]
 unfold AX at hn;split at hn
 ·rename_i he
  cases hn;rw[he]at hv;cases hv with
  |p hv=>
   generalize hvx:a.eval x=vx at hv;cases hv;simp[Builtin.len_,hty,hx0,hvx,br ht,goInt]
 ·rename_i es he
  cases hn;rw[he]at hv;cases hv with
  |p hv=>
   generalize hvx:a.eval x=vx at hv;cases hv with
   |pmap _ r en clock hok hm hl hk hr=>exact key r en clock hvx hm hl.symm
 ·rename_i b he
  rw[he]at hv;split at hn
  ·rename_i es f ho
   cases hn;generalize hvx:a.eval x=vx at hv;cases hv with
   |map _ r s hs h=>
    obtain⟨l,hl⟩:=hS.om ho;obtain⟨r',en,clock,hb',hm⟩:=hS.obj b l _ hl ho;have:s=.map:=by simpa[View.sh,ho,Obj.sh]using hs.symm
    have hrr:=h this l hl;rw[hb',bI]at hrr;subst hrr;exact key r' en clock hvx hm.heap hm.len.symm
  ·cases hn
 ·cases hn
theorem aq0{f:FuncId}{caps:Array Operand}{caps':List O}(hop:o.op=.makeFunc (.func f) #[] caps)(hc:omap fN caps.toList=some caps')(hq:quiet V.σ τ (.zD f caps')=some av):∃v,(execOp a.eval o).run p V.w=.ok (.value v) V.w∧aV V av v:=by
 simp only[quiet,bI]at hq;subst hq;obtain⟨hl,hr⟩:=X1 hT hc;refine⟨.func (.func f) #[] (caps.toList.map a.eval).toArray,?_,akb hl hr⟩;simp[execOp,hop,Instr.makeFunc];apply Array.ext';simp
theorem akX{x:Operand}{x':O}(hop:o.op=.nilCheck x)(hx:fN x=some x')(hq:quiet V.σ τ (.GA x')=some av):∃v,(execOp a.eval o).run p V.w=.ok (.value v) V.w∧aV V av v:=by
 have hv:=bq hT hx;simp only[quiet]at hq;generalize x'.val τ=z at hv hq;refine⟨a.eval x,?_,?_⟩
 ·have:(a.eval x≠.pointer none∧a.eval x≠.nilIface∧a.eval x≠.nilFunc∧∀m b c,a.eval x≠.func (.method m) b c):=by
   generalize a.eval x=vx at hv;cases hv with
   |any=>simp at hq
   |p h=>cases h<;>simp at hq ⊢
   |_=>simp
  simp only[execOp,hop]
  split<;>rename_i h<;>first
   |(exact absurd h this.1)
   |(exact absurd h this.2.1)
   |(exact absurd h this.2.2.1)
   |(exact absurd h (this.2.2.2 _ _ _))
   |rfl
 ·split at hq<;>first
   |(cases hq;done)
   |(cases hq;exact hv)
theorem Yj{c:Call}{mx:Bool}{args:List O}(hop:o.op=.call c)(hb:c.callee=.builtin (if mx then .max else .min))(hc:omap fN c.args.toList=some args)(hq:quiet V.σ τ (.sv mx args)=some av):∃v,(execOp a.eval o).run p V.w=.ok (.value v) V.w∧aV V av v:=by
 simp only[quiet]at hq;split at hq
 ·rename_i x r he
  simp only[gI]at hq;obtain⟨z,hz,rfl⟩:=hq;obtain⟨hl,hr⟩:=X1 hT hc;rw[he]at hl hr
  match hvs:c.args.toList.map a.eval,hl with
  |v::vs,hl=>
   rw[hvs]at hr;obtain⟨u,h1,h2⟩:=ahp (p:=p) mx r vs x z v hz (by simpa using hl) (fun i c v hc hv=>hr (i+1) c v (by simpa using hc) (by simpa using hv)) (hr 0 _ v rfl rfl).Ak
   refine⟨u,?_,.p h2⟩;have hargs:(c.args.map a.eval).toList=v::vs:=by rw[abP];exact hvs
   cases mx with
   |true=>
    simp only[if_true]at hb h1;simp[execOp,hop,resolve,hb,invoke,builtin,Builtin.max_,hvs,h1]
   |false=>
    simp only[kS,if_false]at hb h1;simp[execOp,hop,resolve,hb,invoke,builtin,Builtin.min_,hvs,h1]
 ·cases hq
end ops
theorem yz{V:View}{x:AV}{v:Value}{n y:Nat}(h:nc x=some n)(hv:aV V x v)(hle:n≤y)(code:BoundsCode)(w:World):(Instr.sliceBound v y code).run p w=.ok n w:=by
 obtain⟨k,rfl⟩:=vJ h hv;have:(0:Int)≤(n:Int)∧(n:Int)≤(y:Int):=by omega
 simp[Instr.sliceBound,asIntOf];intro h;omega
def Tv(V:View)(x:Option AV)(v:Option Value):Prop:=match x,v with
 |none,none=>True
 |some a,some b=>aV V a b
 |_,_=>False
theorem zW{len cap:Nat}{lo hi mx:Option AV}{b:Nat×Nat×Nat}(h:bounds len cap lo hi mx=some b):lI cap mx=some b.2.2∧(if mx.isSome && hi.isNone then none else lI len hi)=some b.2.1∧lI 0 lo=some b.1∧b.2.2≤cap∧b.2.1≤b.2.2∧b.1≤b.2.1:=by
 simp only[bounds,fV]at h;obtain⟨m,hm,h',hh,l,hl,h⟩:=h;split at h
 ·rename_i hle
  cases h;exact⟨hm,hh,hl,hle⟩
 ·cases h
theorem zp{V:View}{isSlice:Bool}{len cap:Nat}{lo hi mx:Option AV}{vlo vhi vmx:Option Value}{b:Nat×Nat×Nat}(h0:lI cap mx=some b.2.2)(hh:(if mx.isSome && hi.isNone then none else lI len hi)=some b.2.1)(hl:lI 0 lo=some b.1)(hle:b.2.2≤cap∧b.2.1≤b.2.2∧b.1≤b.2.1)
  (h1:Tv V lo vlo) (h2:Tv V hi vhi) (h3:Tv V mx vmx) (w:World):(Instr.sliceBounds isSlice len cap vlo vhi vmx).run p w=.ok b w:=by
 obtain⟨l,h,m⟩:=b;dsimp only at h0 hh hl hle;unfold Instr.sliceBounds
 match mx,vmx,h3,hi,vhi,h2 with
 |some a,some b,h3,some c,some d,h2=>
  simp only[Option.isSome_some,Option.isNone_some,abt,kS,if_false]at hh;have e1:=yz (p:=p) h0 h3 hle.1 (if isSlice=true then .slice3Acap else .slice3Alen) w
  have e2:=yz (p:=p) hh h2 hle.2.1 .slice3B w
  match lo,vlo,h1 with
  |some e,some f,h1=>
   have e3:=yz (p:=p) hl h1 hle.2.2 .slice3C w;simp[e1,e2,e3]
  |none,none,_=>
   simp only[lI,bI]at hl;subst hl;simp[e1,e2]
 |none,none,_,some c,some d,h2=>
  simp only[aca,Dr,kS,if_false]at hh;simp only[lI,bI]at h0;subst h0;have e2:=yz (p:=p) hh h2 hle.2.1 (if isSlice=true then .sliceAcap else .sliceAlen) w
  match lo,vlo,h1 with
  |some e,some f,h1=>
   have e3:=yz (p:=p) hl h1 hle.2.2 .sliceB w;simp[e2,e3]
  |none,none,_=>
   simp only[lI,bI]at hl;subst hl;simp[e2]
 |none,none,_,none,none,_=>
  simp only[aca,Dr,kS,if_false,lI,bI]at hh;simp only[lI,bI]at h0;subst h0;subst hh
  match lo,vlo,h1 with
  |some e,some f,h1=>
   have e3:=yz (p:=p) hl h1 hle.2.2 .sliceB w;simp[e3]
  |none,none,_=>
   simp only[lI,bI]at hl;subst hl;simp
 |some a,some b,_,none,none,_=>simp at hh
theorem Hs{α:Type}{rows:List (List α)}{es:Nat}(hes:∀x∈rows,x.length=es)(l h:Nat):∀(k:Nat) (a:α),((rows.take h).drop l).flatten[k]?=some a→rows.flatten[l*es+k]?=some a:=by
 intro k a hk;have hes':∀x∈(rows.take h).drop l,x.length=es:=fun x hx=>hes x (abQ (abL hx))
 obtain⟨i,j,row,rfl,hi,hj⟩:=qm hes' hk;rw[abk,Zv]at hi;split at hi
 ·have:=gT hes hi hj
  rw[show l*es+(i*es+j)=(l+i)*es+j by rw[acf];omega]
  exact this
 ·cases hi
section ops
variable {V:View} {τ:Tm} {nt:Nat} {a:Act} (hT:oW V τ nt a.tmps) {o:Oper} {av:AV}
include hT
theorem nf{x:Option Operand}{x':Option O}(h:DZ x=some x'):Tv V (x'.map (O.val τ)) (x.map a.eval):=by
 cases x with
 |none=>simp only[DZ,bI]at h;subst h;trivial
 |some y=>
  simp only[DZ,gI]at h;obtain⟨z,hz,rfl⟩:=h;exact bq hT hz
theorem aq3{t:TypeId}{x:Operand}{x':O}{lo hi:Option Operand}{lo' hi':Option O}(hop:o.op=.slice t x lo hi none)(ht:p.underlying t=some .string)(hx:fN x=some x')(hlo:DZ lo=some lo')(hhi:DZ hi=some hi')(hq:quiet V.σ τ (.aet x' lo' hi')=some av):∃v,(execOp a.eval o).run p V.w=.ok (.value v) V.w∧aV V av v:=by
 have hv:=bq hT hx;simp only[quiet]at hq;split at hq
 ·rename_i s he
  rw[he]at hv;simp only[gI]at hq;obtain⟨b,hb,rfl⟩:=hq;obtain⟨h1,h2,h3,h4⟩:=zW hb;have hrun:=zp (p:=p) (isSlice:=false) h1 h2 h3 h4 (nf hT hlo) (nf hT hhi) (vmx:=none) trivial V.w;refine⟨.string (s.extract b.1 b.2.1),?_,.p (.str _)⟩;simp[execOp,hop,hv.Jb,Instr.sliceAt,Instr.slice,br ht,hrun]
 ·cases hq
theorem aq2{t e:TypeId}{es:Nat}{x:Operand}{x':O}{lo hi mx:Option Operand}{lo' hi' mx':Option O}(hop:o.op=.slice t x lo hi mx)(ht:p.underlying t=some (.slice e))(he:cN p e=some es)(hx:fN x=some x')(hlo:DZ lo=some lo')(hhi:DZ hi=some hi')(hmx:DZ mx=some mx')
  (hq:quiet V.σ τ (.MH es x' lo' hi' mx')=some av):∃v,(execOp a.eval o).run p V.w=.ok (.value v) V.w∧aV V av v:=by
 have hv:=bq hT hx
 have run:∀(ad:Option Addr) (len cap:Nat) (b:Nat×Nat×Nat),a.eval x=.slice ad len cap→(Instr.sliceBounds true len cap (lo.map a.eval) (hi.map a.eval) (mx.map a.eval)).run p V.w=.ok b V.w →
   (execOp a.eval o).run p V.w=.ok (.value (.slice (if b.2.2=b.1 then ad else ad.map (·.add (b.1*es))) (b.2.1-b.1) (b.2.2-b.1))) V.w:=by
  intro ad len cap b e1 hb;simp[execOp,hop,e1,Instr.sliceAt,Instr.slice,br ht,hb,l4 he]
 simp only[quiet]at hq;split at hq
 ·rename_i rows he'
  rw[he']at hv;obtain⟨ad,cap,e1,hcap,hrow⟩:=EJ hv;split at hq
  ·rename_i hwide
   have hwide':∀r∈rows,r.length=es:=by
    intro r hr;unfold wide at hwide;rw[Ca]at hwide;simpa using hwide r hr
   simp only[fV]at hq;obtain⟨b,hb,hq⟩:=hq;obtain⟨h1,h2,h3,h4⟩:=zW hb;split at hq
   ·
    rename_i hn;cases hq;have hmx0:mx'=none:=by simpa using hn
    subst hmx0;have hmx1:mx=none:=by cases mx with|none=>rfl|some y=>simp[DZ]at hmx
    subst hmx1;have hb2:b.2.2=rows.length:=by simp only[acr,lI,bI]at h1;exact h1.symm
    have hrun:=zp (p:=p) (isSlice:=true) (len:=rows.length) (cap:=cap) (b:=(b.1,b.2.1,cap)) (mx:=none) rfl h2 h3 ⟨rm _,by dsimp only;omega,h4.2.2⟩ (nf hT hlo) (nf hT hhi) (vmx:=none) trivial V.w
    refine⟨_,run ad rows.length cap (b.1,b.2.1,cap) e1 hrun,?_⟩;dsimp only;have hlen:((rows.take b.2.1).drop b.1).length=b.2.1-b.1:=by simp;omega
    by_cases hz:(rows.take b.2.1).drop b.1=[]
    ·rw[hz]at hlen ⊢
     simp only[l5]at hlen;rw[←hlen];exact .p (.J1 _ _)
    ·have hne:rows≠[]:=by intro h0;subst h0;simp at hz
     obtain⟨r,off,es',rfl,hok,hw,cv,hcell,hone,hrel⟩:=hrow hne
     have hes:es'=es:=by
      obtain⟨x,hx⟩:=abO rows hne;rw[←hw x hx,hwide' x hx]
     subst hes
     have hpos:0<b.2.1-b.1:=by
      rw[←hlen];exact ab5.2 hz
     rw[if_neg (by omega),←hlen]
     simp only[xu,eO];refine .p (.aM _ r (off+b.1*es') (cap-b.1) es' (fun k=>cv (b.1*es'+k)) hz hok (by omega) (fun x hx=>hw x (abQ (abL hx))) ?_ ?_ ?_)
     ·intro k hk
      rw[acq];refine hcell _ ?_;have:(b.1+(b.2.1-b.1))*es'≤rows.length*es':=MK _ (by omega)
      rw[acf]at this;rw[hlen]at hk;omega
     ·intro k hk
      refine hone _ ?_;have:(b.1+(b.2.1-b.1))*es'≤rows.length*es':=MK _ (by omega)
      rw[acf]at this;rw[hlen]at hk;omega
     ·intro k q hk
      exact hrel _ q (Hs hw b.1 b.2.1 k q hk)
   ·split at hq
    ·rename_i hz
     cases hq;cases hmx':mx' with
     |none=>simp[hmx']at *
     |some mo=>
      subst hmx';cases mx with
      |none=>simp[DZ]at hmx
      |some y=>
       have hrun:=zp (p:=p) (isSlice:=true) (len:=rows.length) (cap:=cap) (b:=b) (mx:=some (mo.val τ)) h1 h2 h3 ⟨by omega,h4.2.1,h4.2.2⟩ (nf hT hlo) (nf hT hhi) (nf hT hmx) V.w
       refine⟨_,run ad rows.length cap b e1 hrun,?_⟩;have hb1:b.2.1-b.1=0:=by omega
       have hb2:b.2.2-b.1=0:=by omega
       rw[hb1,hb2];exact .aC _
    ·cases hq
  ·cases hq
 ·rename_i he'
  rw[he']at hv;simp only[gI]at hq;obtain⟨b,hb,rfl⟩:=hq;obtain⟨h1,h2,h3,h4⟩:=zW hb;generalize hvx:a.eval x=vx at hv;cases hv with
  |aC ad=>
   have hrun:=zp (p:=p) (isSlice:=true) (len:=0) (cap:=0) h1 h2 h3 h4 (nf hT hlo) (nf hT hhi) (nf hT hmx) V.w;refine⟨_,run ad 0 0 b hvx hrun,?_⟩;have hb1:b.2.1-b.1=0:=by omega
   have hb2:b.2.2-b.1=0:=by omega
   rw[hb1,hb2];exact .aC _
 ·cases hq
end ops
theorem run_checkKey{kl:mX}{kt:TypeId}(hl:mY p kt=some kl){k:PV}(hk:su kl k=true){V:View}{v:Value}(hv:dz V.w V.ok k v)(empty:Bool)(n:Nat)(w:World):(Instr.checkKey empty (n+1) kt v).run p w=.ok () w:=by
 unfold su at hk;split at hk
 ·cases hv
  obtain⟨k',hk'⟩:=Gw hl;simp[Instr.checkKey,br hk']
 ·cases hv
  simp[Instr.checkKey,br (Gx hl)]
 ·cases hv
  simp[Instr.checkKey,br (DR hl)]
 ·cases hk
theorem GL{kl:mX}{kt:TypeId}(hl:mY p kt=some kl){a b:PV}{r:Bool}(h:oX kl a b=some r){w:World}{ok:Nat→Prop}{va vb:Value}(ha:dz w ok a va)(hb:dz w ok b vb){d:TypeDesc}(hd:p.underlying kt=some d):Instr.sameNow d va vb=some r:=by
 unfold oX at h;split at h
 ·cases ha;cases hb
  obtain⟨k',hk'⟩:=Gw hl;rw[hk',bI]at hd;subst hd;simp only[Instr.sameNow];exact h
 ·cases ha;cases hb
  rw[Gx hl,bI]at hd;subst hd;simp only[Instr.sameNow,beq_toListBytes];exact h
 ·cases ha;cases hb
  rw[DR hl,bI]at hd;subst hd;simp only[Instr.sameNow];exact h
 ·cases h
theorem Ci{α:Type}{kl:mX}{kt:TypeId}(hl:mY p kt=some kl){d:TypeDesc}(hd:p.underlying kt=some d){w:World}{ok:Nat→Prop}{k:PV}{vk:Value}(hk:dz w ok k vk) :
  ∀(es:List (PV×α)) (ens:List MapEntry) (i0:Nat) (r:Option α),es.length=ens.length→(∀(i:Nat) (x:PV×α) (e:MapEntry),es[i]?=some x→ens[i]?=some e→dz w ok x.1 e.key)→findKey kl k es=some r →
   (r=none→Instr.findNow d vk ens i0=some none)∧(∀a,r=some a→∃j e x,Instr.findNow d vk ens i0=some (some (i0+j,e.val))∧es[j]?=some (x,a)∧ens[j]?=some e∧oX kl k x=some true∧∀i,i<j→∀y,es[i]?=some y→oX kl k y.1=some false):=by
 intro es
 induction es with
 |nil=>
  intro ens i0 r hlen _ h
  match ens,hlen with
  | [],_=>
   simp only[findKey,bI]at h;subst h;exact⟨fun _=>rfl,fun a ha=>by cases ha⟩
 |cons x es ih=>
  intro ens i0 r hlen hr h
  match ens,hlen with
  |e::ens,hlen=>
   have h0:=hr 0 x e rfl rfl;unfold findKey at h;split at h
   ·rename_i heq
    cases h;refine⟨fun h=>(by cases h),fun a ha=>?_⟩
    cases ha;refine⟨0,e,x.1,?_,rfl,rfl,heq,fun i hi=>by omega⟩
    simp[Instr.findNow,GL hl heq hk h0 hd]
   ·rename_i heq
    obtain⟨h1,h2⟩:=ih ens (i0+1) r (by simpa using hlen) (fun i x e hx he=>hr (i+1) x e (by simpa using hx) (by simpa using he)) h
    refine⟨fun hn=>?_,fun a ha=>?_⟩
    ·simp[Instr.findNow,GL hl heq hk h0 hd,h1 hn]
    ·obtain⟨j,e',x',h3,h4,h5,h6,h7⟩:=h2 a ha
     refine⟨j+1,e',x',?_,by simpa using h4,by simpa using h5,h6,?_⟩
     ·simp only[Instr.findNow,GL hl heq hk h0 hd,h3]
      rw[show i0+1+j=i0+(j+1) by omega]
     ·intro i hi y hy
      cases i with
      |zero=>simp only[QS,bI]at hy;subst hy;exact heq
      |succ i=>exact h7 i (by omega) y (by simpa using hy)
   ·cases h
theorem HY{kt:TypeId}{kl:mX}(hl:mY p kt=some kl):∃d,p.underlying kt=some d:=by
 cases h:p.underlying kt with
 |none=>simp[mY,h]at hl
 |some d=>exact⟨d,rfl⟩
theorem run_findKey{kt:TypeId}{d:TypeDesc}(hd:p.underlying kt=some d){vk:Value}{ens:List MapEntry}{r:Option (Nat×Value)}(h:Instr.findNow d vk ens 0=some r)(w:World):(Instr.findKey kt vk ens).run p w=.ok r w:=by
 simp[Instr.findKey,br hd,h]
theorem uv{α:Type}{off:Nat}{new row r:List α}(h:ck off new row=some r):off+new.length≤row.length∧r=row.take off++new++row.drop (off+new.length):=by
 unfold ck at h;split at h
 ·rename_i hle
  simp only[bI]at h;exact⟨hle,h.symm⟩
 ·cases h
theorem qp{α:Type}{off:Nat}{new row r:List α}(h:ck off new row=some r):r.length=row.length∧∀j,r[j]?=if off≤j∧j<off+new.length then new[j-off]? else row[j]? := by
 obtain⟨h1,rfl⟩:=uv h;refine⟨by simp;omega,fun j=>?_⟩
 by_cases hj:j<off
 ·rw[if_neg (by omega),TA,AN (by simp;omega),VK hj]
 ·by_cases hj2:j<off+new.length
  ·rw[if_pos ⟨by omega,hj2⟩,TA,Fo (by simp;omega),AN (by simp;omega)]
   congr 1
   simp;omega
  ·rw[if_neg (by omega),Fo (by simp;omega),abk]
   congr 1
   simp;omega
theorem FH(vs:List Value):∀(off k:Nat) (cs:Array Value) (j:Nat),((vs.zipIdx k).foldl (fun cs x=>cs.setIfInBounds (off+x.2) x.1) cs)[j]?=if off+k≤j∧j<off+k+vs.length∧j<cs.size then vs[j-(off+k)]? else cs[j]? := by
 induction vs with
 |nil=>intro off k cs j;rw[if_neg (by simp;omega)];rfl
 |cons v vs ih=>
  intro off k cs j;rw[List.zipIdx_cons,QL,ih off (k+1)];simp only[Array.size_setIfInBounds,lH,Array.getElem?_setIfInBounds];by_cases h1:j=off+k
  ·subst h1
   rw[if_neg (by omega)]
   by_cases h2:off+k<cs.size
   ·rw[if_pos rfl,if_pos h2,if_pos (by omega)]
    simp
   ·rw[if_pos rfl,if_neg h2,if_neg (by omega),Array.getElem?_eq_none (by omega)]
  ·by_cases h2:off+(k+1)≤j∧j<off+(k+1)+vs.length∧j<cs.size
   ·rw[if_pos h2,if_pos (by omega),show j-(off+k)=(j-(off+(k+1)))+1 by omega,aa9]
   ·rw[if_neg h2,if_neg (by omega),if_neg (by omega)]
theorem Ox(vs:List Value):∀(off k:Nat) (cs:Array Value),((vs.zipIdx k).foldl (fun cs x=>cs.setIfInBounds (off+x.2) x.1) cs).size=cs.size:=by
 induction vs with
 |nil=>intro off k cs;rfl
 |cons v vs ih=>intro off k cs;rw[List.zipIdx_cons,QL,ih];simp
structure Fl (V:View) (cs:List AV) (vs:Array Value):Prop where
 len:cs.length=vs.size
 rel:∀(i:Nat) (c:AV) (v:Value),cs[i]?=some c→vs[i]?=some v→aV V c v
 one:∀(k:Nat) (v:Value),vs[k]?=some v→v.oneCell'=true
theorem zX{V:View}{size:Nat}{g:Bool}{x:AV}{cs:List AV}(h:cellsOf size g x=some cs){v:Value}(hv:aV V x v):Fl V cs v.cells∧(g=true→∃a,v=.agg a)∧(g=false→cs=[x]∧v.cells = #[v]∧v.oneCell'=true)∧(g=true→cs.length=size):=by
 unfold cellsOf at h;cases g with
 |true=>
  simp only[if_true]at h;split at h
  ·rename_i ps
   split at h
   ·rename_i hl
    cases h;obtain⟨vs,rfl,h1,h3,h2⟩:=yp hv (.inr ⟨ps,rfl,rfl⟩);exact⟨⟨by simpa[Value.cells]using h1,fun i c v hc hv=>h2 i c v hc (by simpa[Value.cells]using hv),fun k v hv=>h3 v (mi (by simpa[Value.cells]using hv))⟩,fun _=>⟨_,rfl⟩,by simp,fun _=>by simpa using hl⟩
   ·cases h
  ·rename_i cs'
   split at h
   ·rename_i hl
    cases h;obtain⟨vs,rfl,h1,h3,h2⟩:=yp hv (.inl rfl);exact⟨⟨by simpa[Value.cells]using h1,fun i c v hc hv=>h2 i c v hc (by simpa[Value.cells]using hv),fun k v hv=>h3 v (mi (by simpa[Value.cells]using hv))⟩,fun _=>⟨_,rfl⟩,by simp,fun _=>hl⟩
   ·cases h
  ·cases h
 |false=>
  simp only[kS,if_false]at h
  have one:v.oneCell'=true∧cs=[x]:=by
   split at h<;>first|(cases h;done)|skip
   rename_i h1 h2 h3 h4 h5;refine⟨?_,by cases h;rfl⟩
   cases hv with
   |any=>exact absurd rfl h1
   |p hv=>cases hv<;>first|rfl|exact absurd rfl (h4 _)|exact absurd rfl (h5 _)
   |agg=>exact absurd rfl (h2 _)
   |jC=>exact absurd rfl (h3 _)
   |_=>rfl
  obtain⟨h1,rfl⟩:=one;have hc:v.cells = #[v]:=by cases v<;>first|rfl|(simp[Value.oneCell']at h1)
  refine⟨⟨by simp[hc],fun i c u hc' hu=>?_,fun k u hu=>?_⟩,by simp,fun _=>⟨rfl,hc,h1⟩,by simp⟩
  ·rw[hc]at hu
   cases i with
   |zero=>simp at hc' hu;subst hc';subst hu;exact hv
   |succ i=>simp at hc'
  ·rw[hc]at hu
   cases k with
   |zero=>simp at hu;subst hu;exact h1
   |succ k=>simp at hu
theorem Un{V:View}{place:Nat→Option (Nat×Nat)}:∀(ps:List (Nat×Nat×AV)) (qs:List (Nat×Value)) (cells:List AV) (vc:Array Value) (out:List AV),Fl V cells vc→gz cells ps=some out→ps.length=qs.length →
  (∀(i:Nat) (x:Nat×Nat×AV) (y:Nat×Value),ps[i]?=some x→qs[i]?=some y→place y.1=some (x.1,x.2.1)∧aV V x.2.2 y.2)→∃vo,Instr.fill place vc qs=some vo∧Fl V out vo:=by
 intro ps
 induction ps with
 |nil=>
  intro qs cells vc out hc h hl _
  match qs,hl with
  | [],_=>
   simp only[gz,bI]at h;subst h;exact⟨vc,rfl,hc⟩
 |cons x ps ih=>
  intro qs cells vc out hc h hl hr
  match qs,hl with
  |y::qs,hl=>
   obtain⟨hpl,hvr⟩:=hr 0 x y rfl rfl;obtain⟨off,size,v⟩:=x;obtain⟨i,u⟩:=y;dsimp only at hpl hvr;unfold gz at h;split at h
   ·rename_i cs hcs
    split at h
    ·rename_i hsz
     simp only[fV]at h;obtain⟨cells',hput,h⟩:=h;obtain⟨⟨h1,h2,h1one⟩,_⟩:=zX hcs hvr;obtain⟨h3,h4⟩:=qp hput;obtain⟨h5,_⟩:=uv hput
     have hc':Fl V cells' ((u.cells.toList.zipIdx 0).foldl (fun cs x=>cs.setIfInBounds (off+x.2) x.1) vc):=by
      have hul:u.cells.toList.length=cs.length:=by rw[h1];simp
      refine⟨by rw[Ox,h3,hc.1],fun j c w hcj hwj=>?_,fun j w hwj=>?_⟩
      ·rw[h4 j]at hcj
       rw[FH]at hwj;by_cases hj:off≤j∧j<off+cs.length
       ·rw[if_pos hj]at hcj
        rw[if_pos (by rw[hul];have:=hc.1;omega)]at hwj
        exact h2 _ c w hcj (by simpa using hwj)
       ·rw[if_neg hj]at hcj
        rw[if_neg (by rw[hul];omega)]at hwj
        exact hc.2 j c w hcj hwj
      ·rw[FH]at hwj
       split at hwj
       ·exact h1one _ w (by simpa using hwj)
       ·exact hc.3 j w hwj
     obtain⟨vo,h6,h7⟩:=ih qs cells' _ out hc' h (by simpa using hl) (fun i x y hx hy=>hr (i+1) x y (by simpa using hx) (by simpa using hy))
     refine⟨vo,?_,h7⟩;have hcsz:u.cells.size=size:=by rw[←h1];exact hsz
     simp only[Instr.fill,hpl]
     have hno:¬(u.cells.size≠size∨off+u.cells.size > vc.size):=by
      rintro(h|h)
      ·exact h hcsz
      ·have e1:=hc.1
       omega
     rw[if_neg (by simpa only[QN,decide_eq_true_eq]using hno)]
     rw[←h6]
     congr 1
     rw[←Array.foldl_toList];simp
    ·cases h
   ·cases h
theorem Yc:∀(ns:List Int) (acc:ByteArray),ns.foldl (fun r n=>r.push (UInt8.ofNat n.toNat)) acc=⟨acc.data++(ns.map fun n=>UInt8.ofNat n.toNat).toArray⟩
 | [],acc=>by simp
 |n::ns,acc=>by
  rw[QL,Yc ns];simp[ByteArray.push]
def aeY(r:List PV):Option UInt8:=match r with | [.int .u8 n]=>some (UInt8.ofNat n.toNat)|_=>none
theorem V9:∀{rows:List (List PV)} {bs:List UInt8},omap aeY rows=some bs→∃ns:List Int,rows=ns.map (fun n=>[PV.int .u8 n])∧bs=ns.map fun n=>UInt8.ofNat n.toNat
 | [],bs,h=>by cases h;exact⟨[],rfl,rfl⟩
 |r::rows,bs,h=>by
  simp only[omap]at h;split at h
  ·rename_i b hb
   split at h
   ·rename_i bs' hbs
    cases h;obtain⟨ns,h1,h2⟩:=V9 hbs;unfold aeY at hb;split at hb
    ·rename_i n
     cases hb;exact⟨n::ns,by rw[h1];rfl,by rw[h2];rfl⟩
    ·cases hb
   ·cases h
  ·cases h
theorem afc(ns:List Int):(ns.map fun n=>[PV.int .u8 n]).flatten=ns.map fun n=>PV.int .u8 n:=by
 induction ns with
 |nil=>rfl
 |cons n ns ih=>simp[ih]
section ops
variable {V:View} {τ:Tm} {nt:Nat} {a:Act} (hT:oW V τ nt a.tmps) {o:Oper} {av:AV}
include hT
theorem auj(hS:cK p cq V){s d e:TypeId}{x:Operand}{x':O}(hop:o.op=.convert s d x)(h1:p.underlying s=some (.slice e))(h3:p.underlying e=some (.int .u8))(h2:p.underlying d=some .string)(hx:fN x=some x')(hq:quiet V.σ τ (.b2s x')=some av):∃v,(execOp a.eval o).run p V.w=.ok (.value v) V.w∧aV V av v:=by
 have hv:=bq hT hx;simp only[quiet,fV,gI]at hq;obtain⟨rows,hrows,bs,hbs,rfl⟩:=hq;obtain⟨ns,hr,hb⟩:=V9 (rows:=rows) (bs:=bs) hbs
 have fin:∀(ad:Option Addr) (c:Nat),a.eval x=.slice ad ns.length c→(∀b,ad=some b→(loadCells b ns.length).run p V.w=.ok (ns.map (Value.int .u8)).toArray V.w)→(ad=none→ns=[])→∃v,(execOp a.eval o).run p V.w=.ok (.value v) V.w∧aV V (.p (.str ⟨bs.toArray⟩)) v:=by
  intro ad c he hl h0;refine⟨.string ⟨bs.toArray⟩,?_,.p (.str _)⟩;cases ad with
  |none=>
   have:=h0 rfl;subst this;subst hb;simp[execOp,hop,he,convert,br h1,br h2,br h3,Conv.bytesToString];rfl
  |some b=>
   have hc:=run_bytesToString V.w b ns.length c ns (hl b rfl);rw[Yc]at hc;have e1:(⟨ByteArray.empty.data++(ns.map fun n=>UInt8.ofNat n.toNat).toArray⟩:ByteArray)=⟨bs.toArray⟩:=by rw[hb];simp[ByteArray.empty,ByteArray.emptyWithCapacity];rfl
   rw[e1]at hc;simp[execOp,hop,he,convert,br h1,br h2,br h3,hc]
 have nsv:∀{f:Nat→Value},(∀(k:Nat) (q:PV),rows.flatten[k]?=some q→dz V.w V.ok q (f k))→∀k (hk:k<ns.length),f k=.int .u8 ns[k]:=by
  intro f hf k hk;have:rows.flatten[k]?=some (.int .u8 ns[k]):=by rw[hr,afc,zA,oq hk];rfl
  have:=hf k _ this;generalize f k=z at this;cases this;rfl
 unfold Ti at hrows;split at hrows
 ·rename_i rows' he
  cases hrows;rw[he]at hv;obtain⟨ad,c,e1,hle,hrel⟩:=EJ hv;have hlen:rows.length=ns.length:=by rw[hr];simp
  rw[hlen]at e1;by_cases h0:ns=[]
  ·subst h0
   exact fin ad c e1 (fun b _=>by simp[loadCells,loadCellsFrom]) (fun _=>rfl)
  ·obtain⟨r,off,es,hadd,hok,hes,cv,g1,g2,g3⟩:=hrel (by rw[hr];simpa using h0)
   have hes1:es=1:=by
    obtain⟨n,hn⟩:=abO ns h0;have:=hes [.int .u8 n] (by rw[hr];exact E0.2 ⟨n,hn,rfl⟩)
    simpa using this.symm
   subst hes1;subst hadd;refine fin _ c e1 (fun b hb=>?_) (fun h=>by cases h)
   cases hb
   have hk:=run_loadCells_list (P:=p) V.w ⟨r,off,none⟩ (ns.map (Value.int .u8)) (fun j v hj=>by
    rw[zA,gI]at hj;obtain⟨n,hn,rfl⟩:=hj;obtain⟨hjl,hn⟩:=fU.1 hn;rw[eO,g1 j (by rw[hlen];omega),nsv g3 j hjl,hn])
   rw[aO]at hk;exact hk
 ·rename_i he
  cases hrows;rw[he]at hv
  have:ns=[]:=by
   have:=congrArg List.length hr;simp at this;exact Jq.1 this.symm
  subst this;generalize hev:a.eval x=vx at hv;cases hv with
  |aC ad=>exact fin ad 0 hev (fun b _=>by simp[loadCells,loadCellsFrom]) (fun _=>rfl)
 ·rename_i b n he
  split at hrows
  ·rename_i e9 rows' fr ho
   split at hrows
   ·rename_i hn
    cases hrows;rw[he]at hv;obtain⟨l,hl⟩:=hS.om ho;have hvec:pO V l e9 (aF rows):=hS.obj b l _ hl ho;have hlen:rows.length=ns.length:=by rw[hr];simp
    generalize hev:a.eval x=vx at hv;cases hv with
    |sl _ _ ad c sh hs hnn hp=>
     have hs':sh=.vec e9 n:=by
      have:View.sh V b=some (.vec e9 n):=by simp[View.sh,ho,Obj.sh,hn]
      rw[this]at hs;exact(abK hs).symm
     obtain⟨ha,hcap⟩:=hp e9 l hs' hl;rw[←hn,hlen]at hev;by_cases h0:ns=[]
     ·subst h0
      exact fin ad c hev (fun b _=>by simp[loadCells,loadCellsFrom]) (fun _=>rfl)
     ·have hes1:e9=1:=by
       obtain⟨m,hm⟩:=abO ns h0;have:=hvec.wide ([.int .u8 m].map .p) (by rw[hr];exact E0.2 ⟨_,E0.2 ⟨m,hm,rfl⟩,rfl⟩)
       simpa using this.symm
      subst hes1;have hpos:0<ns.length:=ab5.2 h0;have hc0:l.cap≠0:=by have:=hvec.cap;simp only[aF,aO]at this;omega
      have ha:=ha hc0;subst ha;cases hb:l.jc with
      |none=>exact absurd (hvec.nil hb) hc0
      |some r=>
       obtain⟨cc,ct,hheap,hsize,hcells⟩:=hvec.cells r hb;have haddr:l.addr=some ⟨r,0,none⟩:=by simp[Loc.addr,hb]
       rw[haddr]at hev;refine fin _ c hev (fun b' hb'=>?_) (fun h=>by cases h)
       cases hb'
       have hk:=run_loadCells_list (P:=p) V.w ⟨r,0,none⟩ (ns.map (Value.int .u8)) (fun j v hj=>by
        rw[zA,gI]at hj;obtain⟨m,hm,rfl⟩:=hj
        have hfl:(aF rows).flatten[j]?=some (.p (.int .u8 m)):=by
         rw[kR,hr,afc,ab3,zA,hm];rfl
        obtain⟨v,v1,_,v3⟩:=hcells j _ hfl
        have hvv:v=.int .u8 m:=by
         cases v3 with
         |p h=>cases h;rfl
        rw[eO,jF hheap,tn,v1,hvv])
       rw[aO]at hk;exact hk
   ·cases hrows
  ·cases hrows
 ·cases hrows
end ops
theorem BX{t:TypeId}{cs:List AV}(h:zeroCells p t=some cs)(V:View):∃i z,p.info? t=some i∧i.zero=some z∧Fl V cs z.cells:=by
 unfold zeroCells at h;simp only[fV]at h;obtain⟨i,hi,z,hz,h⟩:=h;obtain⟨h1,h2⟩:=jf h;refine⟨i,z,hi,hz,⟨by simpa using h1,fun k c v hc hv=>?_,fun k v hv=>?_⟩⟩
 ·obtain⟨b,hb,hab⟩:=h2 k v (by simpa using hv)
  rw[hc,bI]at hb;subst hb;exact(w9 hab).1
 ·obtain⟨b,hb,hab⟩:=h2 k v (by simpa using hv)
  exact(w9 (V:=V) hab).2
section ops
variable {V:View} {τ:Tm} {nt:Nat} {a:Act} (hT:oW V τ nt a.tmps) {o:Oper} {av:AV}
include hT
theorem anP{t:TypeId}{parts:Array (Nat×Operand)}{zero:List AV}{parts':List (Nat×Nat×O)}(hop:o.op=.build t parts)(hz:zeroCells p t=some zero)(hp:partsOf p t parts=some parts')(hq:quiet V.σ τ (.build zero parts')=some av):∃v,(execOp a.eval o).run p V.w=.ok (.value v) V.w∧aV V av v:=by
 simp only[quiet,gI]at hq;obtain⟨cells,hf,rfl⟩:=hq;obtain⟨i,z,hi,hz',hcr⟩:=BX hz V
 have fin:∀vo,p.built t (parts.map fun(i,x)=>(i,a.eval x)).toList=some vo→Fl V cells vo→∃v,(execOp a.eval o).run p V.w=.ok (.value v) V.w∧aV V (y9 cells) v:=by
  intro vo hb hc;refine⟨.agg vo,by simp[execOp,hop,run_build V.w t _ vo hb],?_⟩
  have:=J2 (V:=V) (cs:=cells) (vs:=vo.toList) (by simpa using hc.1) (fun v hv=>by
   obtain⟨i,hi⟩:=aa5 hv;exact hc.3 i v (by simpa using hi)) (fun i c v h1 h2=>hc.2 i c v h1 (by simpa using h2))
  simpa using this
 unfold partsOf at hp;split at hp
 ·rename_i fs ht
  simp only[fV]at hp;obtain⟨places,hpl,hp⟩:=hp;obtain⟨h1,h2⟩:=jf hp
  obtain⟨vo,h3,h4⟩:=Un (place:=(places.toArray[·]?)) (parts'.map fun x=>(x.1,x.2.1,x.2.2.val τ)) ((parts.map fun(i,x)=>(i,a.eval x)).toList) zero z.cells cells hcr hf (by simp[h1]) (by
   intro k x y hx hy;rw[zA,gI]at hx;obtain⟨x',hx',rfl⟩:=hx;rw[abP,zA,gI]at hy;obtain⟨y',hy',rfl⟩:=hy;obtain⟨b,hb,hab⟩:=h2 k y' hy';rw[hx',bI]at hb;subst hb;simp only[fV,gI]at hab;obtain⟨pl,hpl',oo,hoo,rfl⟩:=hab;exact⟨by simpa using hpl',bq hT hoo⟩)
  refine fin vo ?_ h4;simp only[Program.built,hi,ht,hz',hpl];exact h3
 ·rename_i n e ht
  simp only[fV]at hp;obtain⟨s,hs,hp⟩:=hp;obtain⟨h1,h2⟩:=jf hp;unfold cN at hs;simp only[gI]at hs;obtain⟨ie,hie,rfl⟩:=hs
  obtain⟨vo,h3,h4⟩:=Un (place:=fun i=>some (i*ie.size,ie.size)) (parts'.map fun x=>(x.1,x.2.1,x.2.2.val τ)) ((parts.map fun(i,x)=>(i,a.eval x)).toList) zero z.cells cells hcr hf (by simp[h1]) (by
   intro k x y hx hy;rw[zA,gI]at hx;obtain⟨x',hx',rfl⟩:=hx;rw[abP,zA,gI]at hy;obtain⟨y',hy',rfl⟩:=hy;obtain⟨b,hb,hab⟩:=h2 k y' hy';rw[hx',bI]at hb;subst hb;simp only[gI]at hab;obtain⟨oo,hoo,rfl⟩:=hab;exact⟨rfl,bq hT hoo⟩)
  refine fin vo ?_ h4;simp only[Program.built,hi,ht,hz',hie];exact h3
 ·cases hp
theorem akW(hS:cK p cq V){t kt e:TypeId}{kl:mX}{zero:AV}{x k:Operand}{x' k':O}{ok:Bool}(hop:o.op=.lookup t x k ok)(ht:p.underlying t=some (.map kt e))(hl:mY p kt=some kl)(hz:((p.info? e).bind fun i=>i.zero.bind aiB)=some zero)(hx:fN x=some x')(hk:fN k=some k')
  (hq:quiet V.σ τ (.lookup kl zero x' k' ok)=some av):∃v,(execOp a.eval o).run p V.w=.ok (.value v) V.w∧aV V av v:=by
 have hv:=bq hT hx;have hkv:=bq hT hk;simp only[quiet]at hq;split at hq
 ·rename_i kp hkp
  rw[hkp]at hkv;have hkr:=hkv.Ak;split at hq
  ·rename_i hleaf
   simp only[fV,bI]at hq;obtain⟨r,hr,rfl⟩:=hq;obtain⟨d,hd⟩:=HY hl;simp only[fV]at hz;obtain⟨ie,hie,z,hzz,hz⟩:=hz;have hzrun:(zeroValue e).run p V.w=.ok z V.w:=by simp[zeroValue,typeInfo,hie,hzz]
   have fin:∀(ens:Array MapEntry) (rr:Option (Nat×Value)),((a.eval x=.map none∧ens = #[])∨∃rb clock,a.eval x=.map (some rb)∧V.w.heap[rb]?=some (.map ens clock)) →
     Instr.findNow d (a.eval k) ens.toList 0=some rr→(rr=none→r=none)→(∀j v,rr=some (j,v)→∃c,r=some c∧aV V c v)→∃v,(execOp a.eval o).run p V.w=.ok (.value v) V.w∧aV V (if ok=true then za [r.getD zero,.p (.bool r.isSome)]else r.getD zero) v:=by
    intro ens rr he hf h1 h2;have hck:=run_checkKey hl hleaf hkr ens.isEmpty 9999 V.w;have hfk:=run_findKey (p:=p) hd hf V.w
    have out:∀(v:Value) (okv:Bool),aV V (r.getD zero) v→r.isSome=okv→aV V (if ok=true then za [r.getD zero,.p (.bool r.isSome)]else r.getD zero) (if ok=true then .tuple #[v,.bool okv]else v):=by
     intro v okv hv1 hv2;cases ok with
     |false=>exact hv1
     |true=>
      simp only[if_true];refine J3 (vs:=[v,.bool okv]) rfl fun i c u hc hu=>?_
      match i with
      |0=>simp at hc hu;subst hc;subst hu;exact hv1
      |1=>simp at hc hu;subst hc;subst hu;rw[hv2];exact .p (.bool _)
      |i+2=>simp at hc
    have run:∀(v:Value) (okv:Bool),(match rr with|some (_,v)=>(pure (v,true):Sem (Value×Bool))|none=>pure (z,false)).run p V.w=.ok (v,okv) V.w→(execOp a.eval o).run p V.w=.ok (.value (if ok=true then .tuple #[v,.bool okv]else v)) V.w:=by
     intro v okv hm;rcases he with⟨e1,rfl⟩|⟨rb,clock,e1,hm'⟩
     ·have hck':=run_checkKey hl hleaf hkr true 9999 V.w
      cases rr with
      |none=>
       simp only[Sem.run_pure,Result.ok.injEq,qX,and_true]at hm;obtain⟨rfl,rfl⟩:=hm;have hfk':(Instr.findKey kt (a.eval k) []).run p V.w=.ok none V.w:=hfk;simp[execOp,hop,e1,Instr.lookup,br ht,hck',hfk',hzrun]
      |some jv=>simp[Instr.findNow]at hf
     ·have hget:(getObj rb).run p V.w=.ok (.map ens clock) V.w:=by simp[getObj,Sem.run,hm']
      cases rr with
      |none=>
       simp only[Sem.run_pure,Result.ok.injEq,qX,and_true]at hm;obtain⟨rfl,rfl⟩:=hm;simp[execOp,hop,e1,Instr.lookup,br ht,hget,hck,hfk,hzrun]
      |some jv=>
       simp only[Sem.run_pure,Result.ok.injEq,qX,and_true]at hm;obtain⟨rfl,rfl⟩:=hm;simp[execOp,hop,e1,Instr.lookup,br ht,hget,hck,hfk]
    cases rr with
    |none=>
     have:=h1 rfl;subst this;exact⟨_,run z false rfl,out z false (VM hz) rfl⟩
    |some jv=>
     obtain⟨j,v⟩:=jv;obtain⟨c,rfl,hc⟩:=h2 j v rfl;exact⟨_,run v true rfl,out v true hc rfl⟩
   split at hr
   ·rename_i he
    cases hr;rw[he]at hv
    have e1:a.eval x=.map none:=by
     cases hv with
     |p hv=>
      generalize a.eval x=vx at hv;cases hv;rfl
    exact fin #[] none (.inl ⟨e1,rfl⟩) rfl (fun _=>rfl) (by intro j v h;cases h)
   ·rename_i es he
    rw[he]at hv;cases hv with
    |p hv=>
     generalize hvx:a.eval x=vx at hv;cases hv with
     |pmap _ rb en clock hok hm hlen hkk hvv=>
      simp only[gI]at hr;obtain⟨r0,hr0,rfl⟩:=hr;obtain⟨h1,h2⟩:=Ci (p:=p) hl hd hkr es en.toList 0 r0 (by simpa using hlen) (fun i x e hx he=>hkk i x e hx (by simpa using he)) hr0
      cases r0 with
      |none=>exact fin en none (.inr ⟨rb,clock,hvx,hm⟩) (h1 rfl) (fun _=>rfl) (by intro j v h;cases h)
      |some c=>
       obtain⟨j,e',x',h3,h4,h5,_⟩:=h2 c rfl;refine fin en (some (0+j,e'.val)) (.inr ⟨rb,clock,hvx,hm⟩) h3 (by intro h;cases h) ?_
       intro j' v h;cases h;exact⟨.p c,rfl,.p (hvv j _ e' h4 (by simpa using h5))⟩
   ·rename_i b he
    rw[he]at hv;split at hr
    ·rename_i es f ho
     generalize hvx:a.eval x=vx at hv;cases hv with
     |map _ rb s hs h=>
      obtain⟨l,hlo⟩:=hS.om ho;obtain⟨r',en,clock,hb',hm⟩:=hS.obj b l _ hlo ho;have:s=.map:=by simpa[View.sh,ho,Obj.sh]using hs.symm
      have hrr:=h this l hlo;rw[hb',bI]at hrr;subst hrr;obtain⟨h1,h2⟩:=Ci (p:=p) hl hd hkr es en.toList 0 r (by simpa using hm.len) (fun i x e hx he=>hm.key i x e hx (by simpa using he)) hr
      cases r with
      |none=>exact fin en none (.inr ⟨r',clock,hvx,hm.heap⟩) (h1 rfl) (fun _=>rfl) (by intro j v h;cases h)
      |some c=>
       obtain⟨j,e',x',h3,h4,h5,_⟩:=h2 c rfl;refine fin en (some (0+j,e'.val)) (.inr ⟨r',clock,hvx,hm.heap⟩) h3 (by intro h;cases h) ?_
       intro j' v h;cases h;exact⟨c,rfl,hm.val j _ e' h4 (by simpa using h5)⟩
    ·cases hr
   ·cases hr
  ·cases hq
 ·cases hq
end ops
theorem akY{V:View}(hS:cK p cq V){τ:Tm}{nt:Nat}{a:Act}(hT:oW V τ nt a.tmps){adv:Adv}{o:Oper}{x:mI}(hc:AQ p adv o=some x){av:AV}(hq:quiet V.σ τ x=some av) :
  ∃v,(execOp a.eval o).run p V.w=.ok (.value v) V.w∧aV V av v:=by
 unfold AQ at hc;cases hop:o.op<;>simp only[hop,Na,fV,gI,bI,reduceCtorEq]at hc
 case move y=>obtain⟨z,_,rfl⟩:=hc;split at hq<;>simp[quiet]at hq
 case assign y=>obtain⟨z,_,rfl⟩:=hc;split at hq<;>simp[quiet]at hq
 case pick c y z=>obtain⟨c',h1,y',h2,z',h3,rfl⟩:=hc;exact aq1 hT hop h1 h2 h3 hq
 case alloc e=>
  obtain⟨z,_,s,_,hc⟩:=hc;split at hc
  ·cases hc;simp[quiet]at hq
  ·cases hc
 case box e y=>
  obtain⟨s,_,g,_,z,_,hc⟩:=hc;split at hc
  ·cases hc;simp[quiet]at hq
  ·cases hc
 case build t ps=>obtain⟨z,h1,ps',h2,rfl⟩:=hc;exact anP hT hop h1 h2 hq
 case buildSlice t n ps=>
  obtain⟨e,_,s,_,z,_,ps',_,hc⟩:=hc;split at hc
  ·cases hc;split at hq<;>simp[quiet]at hq
  ·cases hc
 case load t y=>obtain⟨s,h1,g,h2,y',h3,rfl⟩:=hc;exact aqZ hT hS hop h1 h2 h3 hq
 case store t y z=>obtain⟨s,_,y',_,z',_,rfl⟩:=hc;simp[quiet]at hq
 case nilCheck y=>obtain⟨y',h1,rfl⟩:=hc;exact akX hT hop h1 hq
 case binOp op t y z ty=>
  obtain⟨y',h1,z',h2,hc⟩:=hc
  have eqA:∀(neg:Bool),op=(if neg then .neq else .eql)→∀fs,p.underlying t=some (.struct fs)→(if p.eqGuardType p.depth t=true then none else(mZ p 8 t).bind fun lv=>if cN p t=some lv.length then some (mI.eqA neg lv y' z')else none)=some x→∃v,(execOp a.eval o).run p V.w=.ok (.value v) V.w∧aV V av v:=by
   intro neg hneg fs ht hc;split at hc
   ·cases hc
   ·rename_i hg
    simp only[fV]at hc;obtain⟨lv,hlv,hc⟩:=hc;split at hc
    ·rename_i hsz
     cases hc;exact auk hT (neg:=neg) (by rw[hop,hneg]) (by simpa using hg) hlv (Jg ht) h1 h2 hsz hq
    ·cases hc
  split at hc
  ·split at hc
   ·cases hc;exact IE hT hop h1 h2 hq
   ·cases hc;exact IE hT hop h1 h2 hq
   ·rename_i ht;cases hc;exact apc hT (neg:=false) hop ht h1 h2 hq
   ·rename_i ht
    split at hc
    ·cases hc;exact afK hT (neg:=false) hop ht h1 h2 hq
    ·cases hc
   ·rename_i fs ht;exact eqA false rfl _ ht hc
   ·cases hc
  ·split at hc
   ·cases hc;exact IE hT hop h1 h2 hq
   ·cases hc;exact IE hT hop h1 h2 hq
   ·rename_i ht;cases hc;exact apc hT (neg:=true) hop ht h1 h2 hq
   ·rename_i ht
    split at hc
    ·cases hc;exact afK hT (neg:=true) hop ht h1 h2 hq
    ·cases hc
   ·rename_i fs ht;exact eqA true rfl _ ht hc
   ·cases hc
  ·cases hc;exact IE hT hop h1 h2 hq
 case unOp op t y=>
  obtain⟨y',h1,hc⟩:=hc;split at hc
  ·cases hc;exact aun hT hop h1 hq
  ·cases hc;exact aum hT hop h1 hq
  ·cases hc;exact anQ hT hop h1 hq
  ·cases hc
 case convert s d y=>
  obtain⟨y',h1,hc⟩:=hc;split at hc
  ·rename_i hs hd;cases hc;exact aqS hT hop hs hd h1 hq
  ·rename_i hs hd;cases hc;exact anR hT hop hs hd h1 hq
  ·rename_i hs hd
   split at hc
   ·rename_i he;cases hc;exact auj hT hS hop hs he hd h1 hq
   ·cases hc
  ·cases hc
 case makeFunc fn first caps=>
  cases fn<;>simp only[reduceCtorEq]at hc
  rename_i f;split at hc
  ·rename_i hf
   simp only[fV,bI]at hc;obtain⟨caps',h1,rfl⟩:=hc;have:first = #[]:=by simpa using hf
   subst this;exact aq0 hT hop h1 hq
  ·cases hc
 case makeMap t r=>
  cases r<;>simp only[reduceCtorEq,bI]at hc
  subst hc;simp[quiet]at hq
 case makeSlice t l c=>
  obtain⟨e,_,s,_,z,_,b,_,l',_,c',_,hc⟩:=hc;split at hc
  ·cases hc;simp[quiet]at hq
  ·cases hc
 case slice t y lo hi mx=>
  obtain⟨y',h1,lo',h2,hi',h3,mx',h4,hc⟩:=hc;split at hc
  ·rename_i ht
   split at hc
   ·cases hc
   ·rename_i hm
    cases hc;have:mx=none:=by cases mx with|none=>rfl|some z=>simp[DZ]at h4;obtain⟨_,_,rfl⟩:=h4;simp at hm
    subst this;exact aq3 hT hop ht h1 h2 h3 hq
  ·rename_i ht
   simp only[fV,bI]at hc;obtain⟨s,hs,rfl⟩:=hc;exact aq2 hT hop ht hs h1 h2 h3 h4 hq
  ·simp only[fV]at hc
   obtain⟨s,hs,hc⟩:=hc;split at hc
   ·cases hc;simp[quiet]at hq
   ·cases hc
  ·cases hc
 case fieldAddr t y f=>
  obtain⟨fd,h1,s,h2,hc⟩:=hc;split at hc
  ·cases hc
  ·rename_i h0
   simp only[fV,bI]at hc;obtain⟨y',h3,rfl⟩:=hc;exact aqT hT hop h1 h2 h0 h3 hq
 case field t y f=>obtain⟨fd,h1,s,h2,g,h3,y',h4,rfl⟩:=hc;exact aul hT hop h1 h2 h3 h4 hq
 case indexAddr t y i=>
  split at hc
  ·rename_i ht
   simp only[fV,bI]at hc;obtain⟨s,h1,y',h2,i',h3,rfl⟩:=hc;exact anS hT hop ht h1 h2 h3 hq
  ·rename_i ht
   simp only[fV,bI]at hc;obtain⟨s,h1,y',h2,i',h3,rfl⟩:=hc;exact anT hT hS hop ht h1 h2 h3 hq
  ·cases hc
 case index t y i=>
  split at hc
  ·rename_i ht
   simp only[fV,bI]at hc;obtain⟨s,h1,g,h2,y',h3,i',h4,rfl⟩:=hc;exact aqU hT hop ht h1 h2 h3 h4 hq
  ·rename_i ht
   simp only[fV,bI]at hc;obtain⟨y',h3,i',h4,rfl⟩:=hc;exact aqV hT hop ht h3 h4 hq
  ·cases hc
 case lookup t y i ok=>
  split at hc
  ·rename_i ht
   simp only[fV,bI]at hc;obtain⟨kl,h1,z,⟨ie,hie,hz⟩,y',h3,i',h4,rfl⟩:=hc;exact akW hT hS hop ht h1 (by simp only[fV];exact⟨ie,hie,hz⟩) h3 h4 hq
  ·cases hc
 case mapUpdate t m k v=>
  split at hc
  ·simp only[fV,bI]at hc
   obtain⟨kl,_,m',_,k',_,v',_,rfl⟩:=hc;simp[quiet]at hq
  ·cases hc
 case extract y k=>obtain⟨y',h1,rfl⟩:=hc;exact ahD hT hop h1 hq
 case call c=>
  cases hcal:c.callee<;>simp only[hcal,reduceCtorEq]at hc
  case value f=>
   cases f<;>simp only[fV,bI]at hc
   case func f=>obtain⟨as,_,rfl⟩:=hc;split at hq<;>simp[quiet]at hq
   all_goals
    obtain⟨y,_,as,_,rfl⟩:=hc;simp[quiet]at hq
  case builtin b=>
   cases b<;>simp only[reduceCtorEq,fV,bI]at hc
   case len=>
    have typ:∀d,c.argTypes[0]?.bind p.underlying=some d→∃t,c.argTypes[0]?=some t∧p.underlying t=some d:=fun d h=>by simpa only[fV]using h
    split at hc
    ·rename_i h1 h2
     cases hc;obtain⟨t,h3,h4⟩:=typ _ h1;exact akV hop hcal h3 (.inl h4) h2 hq
    ·rename_i h1 h2
     obtain⟨t,h3,h4⟩:=typ _ h1;split at hc
     ·rename_i h5
      cases hc;exact akV hop hcal h3 (.inr ⟨_,h4,h5⟩) h2 hq
     ·cases hc
    ·rename_i h1 h2
     simp only[gI]at hc;obtain⟨y',h5,rfl⟩:=hc;obtain⟨t,h3,h4⟩:=typ _ h1;exact aqY hT hop hcal h3 h4 h2 h5 hq
    ·rename_i h1 h2
     simp only[gI]at hc;obtain⟨y',h5,rfl⟩:=hc;obtain⟨t,h3,h4⟩:=typ _ h1;exact aqX hT hop hcal h3 h4 h2 h5 hq
    ·rename_i h1 h2
     simp only[gI]at hc;obtain⟨y',h5,rfl⟩:=hc;obtain⟨t,h3,h4⟩:=typ _ h1;exact aqW hT hS hop hcal h3 h4 h2 h5 hq
    ·cases hc
   case append=>
    split at hc
    ·split at hc
     ·cases hc
     ·simp only[fV]at hc
      obtain⟨s,_,b,_,z,_,y,_,y',_,hc⟩:=hc;split at hc
      ·cases hc;simp[quiet]at hq
      ·cases hc
    ·cases hc
   case min=>obtain⟨as,h1,rfl⟩:=hc;exact Yj hT (mx:=false) hop hcal h1 hq
   case max=>obtain⟨as,h1,rfl⟩:=hc;exact Yj hT (mx:=true) hop hcal h1 hq
end Go.AE
