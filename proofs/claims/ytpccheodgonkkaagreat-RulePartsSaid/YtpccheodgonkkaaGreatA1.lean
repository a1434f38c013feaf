import Derived.Test.YtpccheodgonkkaaGreatA0
import Derived.Laws.Build
import Derived.Laws.StructEq
import Derived.Laws.BytesString
set_option linter.unusedSimpArgs false
set_option linter.unusedVariables false
namespace Go.AE
variable {p:Program} {cq:FuncId→Bool}
theorem lq{t:TypeId}{s:Nat}(h:cI p t=some s)(w:World):(sizeOf t).run p w=.ok s w:=by
 unfold cI at h;simp only[gE]at h;obtain⟨i,hi,rfl⟩:=h;simp[sizeOf,typeInfo,hi]
theorem bp{t:TypeId}{d:TypeDesc}(h:p.underlying t=some d)(w:World):(underlying t).run p w=.ok d w:=by
 simp[underlying,h]
theorem QA{t:TypeId}{g:Bool}(h:mV p t=some g)(w:World):(isAgg t).run p w=.ok g w:=by
 unfold mV at h;simp only[gE]at h;obtain⟨d,hd,rfl⟩:=h;simp only[isAgg,Sem.run_bind,bp hd,Result.andThen_ok];cases d<;>rfl
theorem acX{V:View}{v:Value}{q:PV}(h:acV v=some q):dw V.w V.ok q v:=by
 cases v<;>simp[acV]at h
 ·subst h;exact .bool _
 ·subst h;exact .int _ _
 ·subst h;exact .str _
 ·rename_i a;cases a<;>simp at h;subst h;exact .vu
 ·rename_i r;cases r<;>simp at h;subst h;exact .E4
 ·subst h;exact .w9
theorem acW{v:Value}{q:PV}(h:acV v=some q):v.oneCell'=true:=by
 cases v<;>first|rfl|(simp[acV]at h)
theorem uK{V:View}{v:Value}{c:AV}(h:Ee v=some c):aV V c v∧v.oneCell'=true:=by
 unfold Ee at h;split at h
 ·simp only[bL]at h;subst h;exact⟨.aF none,rfl⟩
 ·simp only[gE]at h
  obtain⟨q,hq,rfl⟩:=h;exact⟨.p (acX hq),acW hq⟩
theorem nY:∀{cs:List AV} {ps:List PV},af cs=some ps→cs=ps.map .p
 | [],ps,h=>by simp only[af,bL]at h;subst h;rfl
 |a::cs,ps,h=>by
  cases a<;>simp only[af]at h<;>first|(simp at h;done)|skip
  simp only[gE]at h;obtain⟨qs,hq,rfl⟩:=h;rw[nY hq];rfl
theorem GK{V:View}{cs:List AV}{vs:List Value}(hl:cs.length=vs.length)(h1:∀v∈vs,v.oneCell'=true)(h:∀(i:Nat) (c:AV) (v:Value),cs[i]?=some c→vs[i]?=some v→aV V c v):aV V (w7 cs) (.agg vs.toArray):=by
 unfold w7;split
 ·rename_i ps hps
  have:=nY hps;subst this;refine .p (.agg ps vs (by simpa using hl) h1 fun i q v hq hv=>(h i (.p q) v (by simp[hq]) hv).xV)
 ·exact .agg cs vs hl h1 h
theorem GL{V:View}{cs:List AV}{vs:List Value}(hl:cs.length=vs.length)(h:∀(i:Nat) (c:AV) (v:Value),cs[i]?=some c→vs[i]?=some v→aV V c v):aV V (w8 cs) (.tuple vs.toArray):=by
 unfold w8;split
 ·rename_i ps hps
  have:=nY hps;subst this;refine .p (.jO ps vs (by simpa using hl) fun i q v hq hv=>(h i (.p q) v (by simp[hq]) hv).xV)
 ·exact .jO cs vs hl h
theorem aer{V:View}{f:FuncId}{cs:List AV}{vs:List Value}(hl:cs.length=vs.length)(h:∀(i:Nat) (c:AV) (v:Value),cs[i]?=some c→vs[i]?=some v→aV V c v):aV V (CM f cs) (.func (.func f) #[] vs.toArray):=by
 unfold CM;split
 ·rename_i ps hps
  have:=nY hps;subst this;refine .p (.fn f ps vs (by simpa using hl) fun i q v hq hv=>(h i (.p q) v (by simp[hq]) hv).xV)
 ·exact .fn f cs vs hl h
theorem Q9{V:View}{v:Value}{c:AV}(h:acY v=some c):aV V c v:=by
 unfold acY at h;split at h
 ·rename_i cs
  simp only[gE]at h;obtain⟨as,ha,rfl⟩:=h;obtain⟨h1,h2⟩:=iP ha
  have:=GK (V:=V) (cs:=as) (vs:=cs.toList) h1 (fun v hv=>by
   obtain⟨i,hi⟩:=Xr hv;obtain⟨b,_,hab⟩:=h2 i v hi;exact(uK (V:=V) hab).2) (fun i c v hc hv=>by
   obtain⟨b,hb,hab⟩:=h2 i v hv;rw[hc,bL]at hb;subst hb;exact(uK hab).1)
  simpa using this
 ·exact(uK h).1
theorem bm{V:View}{τ:Tm}{nt:Nat}{a:Act}(ht:og V τ nt a.tmps){o:Operand}{x:O}(h:fD o=some x):aV V (x.val τ) (a.eval o):=by
 cases o with
 |tmp t=>simp only[fD,bL]at h;subst h;exact ht.get t
 |const v=>
  simp only[fD,gE]at h;obtain⟨c,hc,rfl⟩:=h;exact Q9 hc
 |global g=>simp[fD]at h
 |func f=>
  simp only[fD,bL]at h;subst h;exact .p (.fn f [] [] rfl (by simp))
theorem S8{V:View}{τ:Tm}{nt:Nat}{a:Act}(ht:og V τ nt a.tmps){os:List Operand}{xs:List O}(h:omap fD os=some xs) :
  (xs.map (·.val τ)).length=(os.map a.eval).length∧∀(i:Nat) (c:AV) (v:Value),(xs.map (·.val τ))[i]?=some c→(os.map a.eval)[i]?=some v→aV V c v:=by
 obtain⟨h1,h2⟩:=iP h;refine⟨by simp[h1],fun i c v hc hv=>?_⟩
 rw[xF,gE]at hc hv;obtain⟨x,hx,rfl⟩:=hc;obtain⟨o,ho,rfl⟩:=hv;obtain⟨b,hb,hab⟩:=h2 i o ho;rw[hx,bL]at hb;subst hb;exact bm ht hab
theorem aV.EJ{V:View}{k:IntKind}{n:Int}{v:Value}(h:aV V (.p (.int k n)) v):v=.int k n:=by cases h with|p h=>cases h;rfl
theorem aV.JA{V:View}{b:Bool}{v:Value}(h:aV V (.p (.bool b)) v):v=.bool b:=by cases h with|p h=>cases h;rfl
theorem aV.FV{V:View}{s:ByteArray}{v:Value}(h:aV V (.p (.str s)) v):v=.string s:=by cases h with|p h=>cases h;rfl
theorem wR{V:View}{x:AV}{v:Value}{b:Bool}(h:tf x=some b)(hv:aV V x v):v=.bool b:=by
 unfold tf at h;split at h<;>simp at h
 subst h;exact hv.JA
theorem tx{V:View}{x:AV}{v:Value}{n:Nat}(h:mm x=some n)(hv:aV V x v):∃k,v=.int k n:=by
 unfold mm at h;split at h
 ·split at h
  ·rename_i k m hm
   simp only[bL]at h;subst h;exact⟨k,by rw[hv.EJ,Int.toNat_of_nonneg hm]⟩
  ·simp at h
 ·simp at h
theorem ze{α:Type}{off size:Nat}{row r:List α}(h:part off size row=some r):off+size≤row.length∧r=(row.drop off).take size:=by
 unfold part at h;split at h
 ·rename_i hle
  simp only[bL]at h;exact⟨hle,h.symm⟩
 ·simp at h
theorem Fw{α:Type}{off size:Nat}{row r:List α}(h:part off size row=some r):r.length=size∧∀j,j<size→r[j]?=row[off+j]? := by
 obtain⟨h1,rfl⟩:=ze h;refine⟨by simp;omega,fun j hj=>?_⟩
 rw[UL hj,abb]
theorem Lp{α β:Type}(f:α→β)(off size:Nat)(row:List α):part off size (row.map f)=(part off size row).map (List.map f):=by
 unfold part;simp only[bz];split<;>simp[acm,List.map_drop]
theorem xT{V:View}{agg:Bool}{cs:List AV}{x:AV}(h:lY agg cs=some x){vs:List Value}(hl:cs.length=vs.length)(h1:∀v∈vs,v.oneCell'=true)(hr:∀(i:Nat) (c:AV) (v:Value),cs[i]?=some c→vs[i]?=some v→aV V c v) :
  aV V x (if agg then .agg vs.toArray else vs.headD undef)∧(agg=false→cs.length=1):=by
 unfold lY at h;cases agg with
 |true=>
  simp only[if_true,bL]at h ⊢;subst h;exact⟨GK hl h1 hr,by simp⟩
 |false=>
  simp only[nh,if_false]at h ⊢;split at h
  ·rename_i v
   simp only[bL]at h;subst h
   match vs,hl with
   | [u],_=>exact⟨hr 0 v u rfl rfl,fun _=>rfl⟩
  ·simp at h
theorem xS(agg:Bool)(cs:List PV):(nM agg cs).map AV.p=lY agg (cs.map .p):=by
 unfold nM lY;cases agg with
 |true=>
  have:∀cs:List PV,af (cs.map .p)=some cs:=by intro cs;induction cs with|nil=>rfl|cons a r ih=>simp[af,ih]
  simp[w7,this]
 |false=>
  simp only[nh,if_false]
  match cs with
  | []=>rfl
  | [v]=>rfl
  |_::_::_=>rfl
theorem zl{V:View}{t:TypeId}{s:Nat}{g:Bool}(hs:cI p t=some s)(hg:mV p t=some g){r off:Nat}{vs:List Value}(hl:vs.length=s)(h1:g=false→s=1)
  (hc:∀j v,vs[j]?=some v→V.w.cell? ⟨r,off+j,none⟩=some v):(Instr.loadAt t (.pointer (some ⟨r,off,none⟩))).run p V.w=.ok (if g then .agg vs.toArray else vs.headD undef) V.w:=by
 have hadd:∀j,(Addr.mk r off none).add j=⟨r,off+j,none⟩:=by
  intro j;unfold Addr.add;split
  ·rename_i h;subst h;rfl
  ·rfl
 simp only[Instr.loadAt,Instr.sureAddr,Sem.run_bind,Sem.run_pure,Result.andThen_ok,loadVar,QA hg];cases g with
 |true=>
  simp only[if_true,Sem.run_bind,lq hs,Result.andThen_ok];have:=run_loadCells_list (P:=p) (w:=V.w) ⟨r,off,none⟩ vs (fun j v hv=>by rw[hadd];exact hc j v hv)
  rw[hl]at this;simp[this]
 |false=>
  have hs1:=h1 rfl
  match vs,hl with
  | [u],_=>
   have:=hc 0 u rfl;simp only[ace]at this;simp[this]
  | [],hl=>simp at hl;omega
  |_::_::_,hl=>simp at hl;omega
theorem S2{V:View}(hS:cE p cq V){t:TypeId}{s:Nat}{g:Bool}(hs:cI p t=some s)(hg:mV p t=some g){a x:AV}{av:Value}(h:gM V.σ s g a=some x)(ha:aV V a av) :
  ∃v,(Instr.loadAt t av).run p V.w=.ok v V.w∧aV V x v:=by
 unfold gM at h;split at h
 ·rename_i row o
  rw[Option.map_bind]at h;simp only[ach,xS,fM]at h;obtain⟨cs,hcs,hx⟩:=h;obtain⟨hl,hget⟩:=Fw hcs;cases ha with
  |p ha=>
   cases ha with
   |ptr _ _ r off cv hok hcell hone hrel=>
    obtain⟨hle,_⟩:=ze hcs
    have hvs:∀(i:Nat) (c:AV) (v:Value),(cs.map AV.p)[i]?=some c→((List.range s).map fun j=>cv (o+j))[i]?=some v→aV V c v:=by
     intro i c v hc hv;rw[xF,gE]at hc hv;obtain⟨q,hq,rfl⟩:=hc;obtain⟨j,hj,rfl⟩:=hv;have hi:i<s:=by have:=(gu.1 hq).1;omega
     rw[abr hi,bL]at hj;subst hj;rw[hget i hi]at hq;exact .p (hrel _ _ hq)
    obtain⟨h1,h2⟩:=xT hx (vs:=(List.range s).map fun j=>cv (o+j)) (by simp[hl]) (fun v hv=>by
     obtain⟨j,hj,rfl⟩:=CV.1 hv;exact hone _ (by have:=abw.1 hj;omega)) hvs
    refine⟨_,?_,h1⟩;refine zl hs hg (by simp) (fun e=>by have:=h2 e;simp[hl]at this;exact this) ?_
    intro j v hv;rw[xF,gE]at hv;obtain⟨j',hj',rfl⟩:=hv;have hj:j<s:=by have:=(gu.1 hj').1;simpa using this
    rw[abr hj,bL]at hj';subst hj';have:=hcell (o+j) (by omega)
    rw[show off+o+j=off+(o+j) by omega]
    exact this
 ·rename_i b n i o
  have main:∀(ob:Obj) (es:Nat) (rows:List (List AV)) (l:Loc),V.σ[b]?=some ob→ob.sh=.vec es rows.length→V.own[b]?=some l→oT V l es rows→rows.length=n→(rows[i]?.bind (part o s)).bind (lY g)=some x →
    ∃v,(Instr.loadAt t av).run p V.w=.ok v V.w∧aV V x v:=by
   intro ob es rows l ho hsh hl hvec hlen hx;simp only[fM]at hx;obtain⟨cs,⟨row,hrow,hcs⟩,hx⟩:=hx;obtain⟨hcl,hget⟩:=Fw hcs;obtain⟨hle,_⟩:=ze hcs;cases ha with
   |ptr _ _ _ _ a s' hs' hn hp=>
    have hse:s'=.vec es n:=by
     rw[←hlen,←hsh];simpa[View.sh,ho]using hs'.symm
    have hil:i<rows.length:=(gu.1 hrow).1;obtain⟨r,hb,rfl⟩:=hp es l hse hl (by omega)
    obtain⟨cc,tt,hheap,hsize,hcells⟩:=hvec.cells r hb
    have cell:∀j c,j<s→cs[j]?=some c→∃v,cc[i*es+(o+j)]?=some v∧aV V c v∧v.oneCell'=true:=by
     intro j c hj hc;rw[hget j hj]at hc;have hfx:=gL hvec.wide hrow hc;obtain⟨v,hv1,hv2,hv3⟩:=hcells _ _ hfx;exact⟨v,hv1,hv3,hv2⟩
    have hvs:∀(j:Nat) (c:AV) (v:Value),cs[j]?=some c→((List.range s).map fun j=>cc.getD (i*es+(o+j)) undef)[j]?=some v→aV V c v:=by
     intro j c v hc hv;rw[xF,gE]at hv;obtain⟨j',hj',rfl⟩:=hv;have hj:j<s:=by have:=(gu.1 hc).1;omega
     rw[abr hj,bL]at hj';subst hj';obtain⟨v,hv1,hv2,_⟩:=cell j c hj hc;simp only[UK,hv1,Q2];exact hv2
    obtain⟨h1,h2⟩:=xT hx (vs:=(List.range s).map fun j=>cc.getD (i*es+(o+j)) undef) (by simp[hcl]) (fun v hv=>by
     obtain⟨j,hj,rfl⟩:=CV.1 hv;obtain⟨u,hu1,_,hu3⟩:=cell j (cs[j]'(by have:=abw.1 hj;omega)) (abw.1 hj) (oh _)
     simp only[UK,hu1,Q2];exact hu3) hvs
    refine⟨_,?_,h1⟩;refine zl hs hg (by simp) (fun e=>by have:=h2 e;omega) ?_
    intro j v hv;rw[xF,gE]at hv;obtain⟨j',hj',rfl⟩:=hv;have hj:j<s:=by have:=(gu.1 hj').1;simpa using this
    rw[abr hj,bL]at hj';subst hj';obtain⟨v,hv1,_⟩:=cell j (cs[j]'(by omega)) hj (oh _)
    rw[ji hheap,show i*es+o+j=i*es+(o+j) by omega,hv1]
    simp[UK,hv1]
  cases ho:V.σ[b]? with
  |none=>simp[ho]at h
  |some ob=>
   obtain⟨l,hl⟩:=hS.nA ho;have hor:=hS.obj b l ob hl ho;cases ob with
   |pv es rows f=>
    simp only[ho]at h;split at h
    ·rename_i hlen
     refine main _ es (ay rows) l ho (by simp[Obj.sh,ay]) hl hor (by simp[ay,hlen]) ?_
     rw[Option.map_bind]at h;simp only[ach,xS]at h;rw[show(ay rows)[i]?=rows[i]?.map (List.map .p) by simp[ay]]
     cases hr:rows[i]? with
     |none=>simp[hr]at h
     |some row=>
      simp only[hr,xu,vd]at h ⊢;rw[Lp];cases hp:part o s row with
      |none=>simp[hp]at h
      |some cs=>simpa[hp]using h
    ·simp at h
   |av es rows f=>
    simp only[ho]at h;split at h
    ·rename_i hlen
     exact main _ es rows l ho rfl hl hor hlen h
    ·simp at h
   |map=>simp[ho]at h
   |loop=>simp[ho]at h
   |gone=>simp[ho]at h
 ·simp at h
def zo:PV→Value
 |.int k n=>.int k n
 |.bool b=>.bool b
 |.str s=>.string s
 |_=>undef
theorem ad2{op:BinOp}{k:IntKind}{a b:Int}{q:PV}(h:rm op k a b=some q)(t:TypeId)(w:World)(hs:op≠.shl∧op≠.shr):∃v,(binOp op t (.int k a) (.int k b)).run p w=.ok v w∧∀V:View,dw V.w V.ok q v:=by
 refine⟨zo q,?_⟩;cases op<;>simp only[rm]at h
 case shl=>simp at hs
 case shr=>simp at hs
 case quo=>
  split at h
  ·cases h
  ·rename_i hb
   cases h;exact⟨by simp[binOp,Op.intDiv,hb,zo],fun V=>.int _ _⟩
 case rem=>
  split at h
  ·cases h
  ·rename_i hb
   cases h;exact⟨by simp[binOp,Op.intDiv,hb,zo],fun V=>.int _ _⟩
 case add=>cases h;exact⟨by simp[binOp,Op.intArith,zo],fun V=>.int _ _⟩
 case sub=>cases h;exact⟨by simp[binOp,Op.intArith,zo],fun V=>.int _ _⟩
 case mul=>cases h;exact⟨by simp[binOp,Op.intArith,zo],fun V=>.int _ _⟩
 case and=>cases h;exact⟨by simp[binOp,Op.intBits,zo],fun V=>.int _ _⟩
 case or=>cases h;exact⟨by simp[binOp,Op.intBits,zo],fun V=>.int _ _⟩
 case xor=>cases h;exact⟨by simp[binOp,Op.intBits,zo],fun V=>.int _ _⟩
 case andNot=>cases h;exact⟨by simp[binOp,Op.intBits,zo],fun V=>.int _ _⟩
 case eql=>cases h;exact⟨by simp[binOp,Op.intCmp,zo],fun V=>.bool _⟩
 case neq=>cases h;exact⟨by simp[binOp,Op.intCmp,zo],fun V=>.bool _⟩
 case lss=>cases h;exact⟨by simp[binOp,Op.intCmp,zo],fun V=>.bool _⟩
 case leq=>cases h;exact⟨by simp[binOp,Op.intCmp,zo],fun V=>.bool _⟩
 case gtr=>cases h;exact⟨by simp[binOp,Op.intCmp,zo],fun V=>.bool _⟩
 case geq=>cases h;exact⟨by simp[binOp,Op.intCmp,zo],fun V=>.bool _⟩
theorem Mh{op:BinOp}{k k':IntKind}{a b:Int}{q:PV}(h:FT op k a b=some q)(t:TypeId)(w:World):∃v,(binOp op t (.int k a) (.int k' b)).run p w=.ok v w∧∀V:View,dw V.w V.ok q v:=by
 unfold FT at h;refine⟨zo q,?_⟩;split at h
 ·cases h
 ·rename_i hb
  cases op<;>simp only[]at h
  case shl=>cases h;exact⟨by simp[binOp,Op.shift,hb,zo],fun V=>.int _ _⟩
  case shr=>cases h;exact⟨by simp[binOp,Op.shift,hb,zo],fun V=>.int _ _⟩
  all_goals cases h
theorem afJ{op:BinOp}{a b:ByteArray}{q:PV}(h:Uf op a b=some q)(t:TypeId)(w:World):∃v,(binOp op t (.string a) (.string b)).run p w=.ok v w∧∀V:View,dw V.w V.ok q v:=by
 refine⟨zo q,?_⟩;cases op<;>simp only[Uf]at h
 case add=>
  split at h
  ·cases h
  ·rename_i hb
   cases h;refine⟨?_,fun V=>.str _⟩
   simp only[binOp,Op.stringOp];rw[if_neg hb];rfl
 case eql=>cases h;exact⟨rfl,fun V=>.bool _⟩
 case neq=>cases h;exact⟨rfl,fun V=>.bool _⟩
 case lss=>cases h;exact⟨rfl,fun V=>.bool _⟩
 case leq=>cases h;exact⟨rfl,fun V=>.bool _⟩
 case gtr=>cases h;exact⟨rfl,fun V=>.bool _⟩
 case geq=>cases h;exact⟨rfl,fun V=>.bool _⟩
 all_goals cases h
theorem r8{op:BinOp}{t:TypeId}{x y:Operand}{a b:Value}(ha:a≠.nilIface)(hb:∀cs,a≠.agg cs)(w:World):(eqGuard op t x y a b).run p w=.ok () w:=by
 cases op<;>first
  |rfl
  |(cases a<;>first
    |exact absurd rfl ha
    |exact absurd rfl (hb _)
    |rfl
    |(cases b<;>rfl))
theorem ac1{op:BinOp}{q r:PV}{z:PV}(h:binop op q r=some z){V:View}{va vb:Value}(ha:dw V.w V.ok q va)(hb:dw V.w V.ok r vb)(t:TypeId)(x y:Operand)(w:World) :
  ∃v,(do eqGuard op t x y va vb;binOp op t va vb:Sem Value).run p w=.ok v w∧dw V.w V.ok z v:=by
 unfold binop at h;split at h
 ·rename_i k a k' b
  cases ha;cases hb;have hg:=r8 (p:=p) (op:=op) (t:=t) (x:=x) (y:=y) (a:=.int k a) (b:=.int k' b) (by simp) (by simp) w
  simp only[Sem.run_bind,hg,Result.andThen_ok];split at h
  ·obtain⟨v,h1,h2⟩:=Mh (p:=p) (k':=k') h t w
   exact⟨v,h1,h2 V⟩
  ·obtain⟨v,h1,h2⟩:=Mh (p:=p) (k':=k') h t w
   exact⟨v,h1,h2 V⟩
  ·rename_i h1 h2
   split at h
   ·rename_i hk
    subst hk;obtain⟨v,h3,h4⟩:=ad2 (p:=p) h t w ⟨h1,h2⟩;exact⟨v,h3,h4 V⟩
   ·simp at h
 ·rename_i a b
  cases ha;cases hb;have hg:=r8 (p:=p) (op:=op) (t:=t) (x:=x) (y:=y) (a:=.string a) (b:=.string b) (by simp) (by simp) w
  simp only[Sem.run_bind,hg,Result.andThen_ok];obtain⟨v,h1,h2⟩:=afJ (p:=p) h t w;exact⟨v,h1,h2 V⟩
 ·simp at h
theorem DQ{t:TypeId}(h:mi p t=some .int):∃k,p.underlying t=some (.int k):=by
 unfold mi at h;split at h<;>simp at h;exact⟨_,by assumption⟩
theorem DR{t:TypeId}(h:mi p t=some .str):p.underlying t=some .string:=by
 unfold mi at h;split at h<;>simp at h;assumption
theorem Bm{t:TypeId}(h:mi p t=some .bool):p.underlying t=some .bool:=by
 unfold mi at h;split at h<;>simp at h;assumption
theorem Y6{l:mg}{a b:PV}{r:Bool}(h:ni l a b=some r){t:TypeId}(hl:mi p t=some l){V:View}{va vb:Value}(ha:dw V.w V.ok a va)(hb:dw V.w V.ok b vb)(d:Nat)(w:World) :
  (Op.equalIn (d+1) t va vb).run p w=.ok r w:=by
 unfold ni at h;split at h
 ·rename_i k a k' b
  cases ha;cases hb;split at h
  ·rename_i hk
   subst hk;simp only[bL]at h;subst h;obtain⟨k'',hk⟩:=DQ hl;exact run_equalIn_int w d t k k'' a b hk
  ·simp at h
 ·rename_i a b
  cases ha;cases hb;simp only[bL]at h;subst h;exact run_equalIn_string w d t a b (DR hl)
 ·rename_i a b
  cases ha;cases hb;simp only[bL]at h;subst h;exact run_equalIn_bool' w d t a b (Bm hl)
 ·simp at h
theorem KT{t:TypeId}{l:mg}(h:mi p t=some l):mV p t=some false:=by
 unfold mi at h;unfold mV;split at h<;>rename_i hu<;>first|(rw[hu];rfl)|simp at h
theorem uo{t:TypeId}(hg:mV p t=some false){xs:Array Value}{off:Nat}{v:Value}(h:xs[off]?=some v)(w:World):(Go.part t xs off).run p w=.ok v w:=by
 simp[Go.part,QA hg,h]
theorem wc{t:TypeId}(hg:mV p t=some true){s:Nat}(hs:cI p t=some s){xs:Array Value}{off:Nat}(w:World):(Go.part t xs off).run p w=.ok (.agg (xs.extract off (off+s))) w:=by
 simp[Go.part,QA hg,lq hs]
theorem ID{d:Nat}{t:TypeId}{fs:Array Field}(ht:p.underlying t=some (.struct fs)):mj p (d+1) t=if p.stoodInHeld t then none else y3 (mj p d) p fs.toList 0:=by
 simp only[mj,ht]
theorem Nc{d:Nat}{t:TypeId}{ls:List mg}(h:mj p (d+1) t=some ls)(ht:∀fs,p.underlying t≠some (.struct fs)):∃l,ls=[l]∧mi p t=some l:=by
 unfold mj at h;split at h
 ·rename_i fs hfs;exact absurd hfs (ht fs)
 ·simp only[gE]at h
  obtain⟨l,hl,rfl⟩:=h;exact⟨l,rfl,hl⟩
theorem A7:∀{l1 l2:List mg} {a b:List PV} {r:Bool},dg (l1++l2) a b=some r→∃r1 r2,dg l1 (a.take l1.length) (b.take l1.length)=some r1∧dg l2 (a.drop l1.length) (b.drop l1.length)=some r2∧r=(r1 && r2)
 | [],l2,a,b,r,h=>⟨true,r,by simp[dg],by simpa using h,by simp⟩
 |l::l1,l2,a,b,r,h=>by
  match a,b with
  | [],[]=>simp[dg]at h
  | [],_::_=>simp[dg]at h
  |_::_,[]=>simp[dg]at h
  |x::a,y::b=>
   simp only[Ec,dg,fM,gE]at h;obtain⟨t,ht,s,hs,rfl⟩:=h;obtain⟨r1,r2,h1,h2,rfl⟩:=A7 hs;exact⟨t && r1,r2,by simp[dg,ht,h1],by simpa using h2,by rw[Bool.and_assoc]⟩
theorem wV:∀{l:List mg} {a b:List PV} {r:Bool},dg l a b=some r→a.length=l.length∧b.length=l.length
 | [],a,b,r,h=>by match a,b with | [],[]=>simp | [],_::_=>simp[dg]at h|_::_,[]=>simp[dg]at h|_::_,_::_=>simp[dg]at h
 |l::ls,a,b,r,h=>by
  match a,b with
  | [],[]=>simp[dg]at h
  | [],_::_=>simp[dg]at h
  |_::_,[]=>simp[dg]at h
  |x::a,y::b=>
   simp only[dg,fM,gE]at h;obtain⟨t,ht,s,hs,rfl⟩:=h;have:=wV hs;simp[this.1,this.2]
def ot(V:View)(cs:List PV)(xs:Array Value)(off:Nat):Prop:=∀j c,cs[j]?=some c→∃v,xs[off+j]?=some v∧dw V.w V.ok c v
theorem ot.take{V:View}{cs:List PV}{xs:Array Value}{off:Nat}(h:ot V cs xs off)(n:Nat):ot V (cs.take n) xs off:=by
 intro j c hc;rw[Uy]at hc;split at hc
 ·exact h j c hc
 ·simp at hc
theorem ot.drop{V:View}{cs:List PV}{xs:Array Value}{off:Nat}(h:ot V cs xs off)(n:Nat):ot V (cs.drop n) xs (off+n):=by
 intro j c hc;rw[abb]at hc;rw[show off+n+j=off+(n+j) by omega]
 exact h _ c hc
theorem ot.extract{V:View}{cs:List PV}{xs:Array Value}{off:Nat}(h:ot V cs xs off){s:Nat}(hs:cs.length≤s):ot V cs (xs.extract off (off+s)) 0:=by
 intro j c hc;obtain⟨v,hv,hr⟩:=h j c hc;have:=(gu.1 hc).1;refine⟨v,?_,hr⟩;rw[sQ,Array.getElem?_extract,if_pos]
 ·exact hv
 ·have:=(Q6.1 hv).1
  omega
theorem F0{t:TypeId}{fs:Array Field}(ht:p.underlying t=some (.struct fs)):mV p t=some true:=by simp[mV,ht]
theorem Kr(d:Nat):∀(t:TypeId) (ls:List mg),mj p d t=some ls→cI p t=some ls.length→∀(D:Nat),d≤D→∀(V:View) (as bs:List PV) (r:Bool) (xs ys:Array Value) (off off':Nat) (w:World),dg ls as bs=some r →
  ot V as xs off→ot V bs ys off'→(do let a ←Go.part t xs off;let b ←Go.part t ys off';Op.equalIn D t a b:Sem Bool).run p w=.ok r w:=by
 induction d with
 |zero=>intro t ls h;simp[mj]at h
 |succ d ih=>
  intro t ls h hsz D hD V as bs r xs ys off off' w he ha hb;obtain⟨D,rfl⟩:∃m,D=m+1:=⟨D-1,by omega⟩
  have hlen:=wV he;by_cases hstruct:∃fs,p.underlying t=some (.struct fs)
  ·obtain⟨fs,ht⟩:=hstruct
   rw[ID ht]at h;split at h
   ·simp at h
   ·rename_i hheld
    have hheld':p.stoodInHeld t=false:=by simpa using hheld
    have hfo:p.fieldsOf t=fs:=by simp[Program.fieldsOf,ht]
    simp only[Sem.run_bind,wc (F0 ht) hsz,Result.andThen_ok];rw[run_equalIn_struct w D t _ _ (by rw[hfo];exact ht) hheld',hfo]
    have main:∀(l:List Field) (ls:List mg) (o:Nat) (as bs:List PV) (r:Bool) (xs ys:Array Value),y3 (mj p d) p l o=some ls→dg ls as bs=some r→ot V as xs o→ot V bs ys o →
      (Op.eqFields D xs ys l).run p w=.ok r w:=by
     intro l
     induction l with
     |nil=>
      intro ls o as bs r xs ys h he _ _;simp only[y3,bL]at h;subst h
      match as,bs,he with
      | [],[],he=>simp only[dg,bL]at he;subst he;rfl
     |cons f l ihl=>
      intro ls o as bs r xs ys h he ha hb;simp only[y3]at h;split at h
      ·rename_i hf
       split at h
       ·rename_i l1 hl1
        split at h
        ·rename_i hs1
         simp only[gE]at h;obtain⟨l2,hl2,rfl⟩:=h;obtain⟨r1,r2,h1,h2,rfl⟩:=A7 he;have e1:=ih f.type l1 hl1 hs1 D (by omega) V _ _ r1 xs ys o o w h1 (ha.take _) (hb.take _)
         have e2:=ihl l2 (o+l1.length) _ _ r2 xs ys hl2 h2 (ha.drop _) (hb.drop _);have hoff:f.offset=o:=hf.2;simp only[Op.eqFields,hf.1,ne_eq,not_false_eq_true,if_true,hoff];simp only[Sem.run_bind]at e1 ⊢;cases hp:(Go.part f.type xs o).run p w with
         |halt x w'=>rw[hp]at e1;simp[Result.andThen]at e1
         |ok a1 w1=>
          rw[hp]at e1;simp only[Result.andThen_ok]at e1 ⊢;cases hp2:(Go.part f.type ys o).run p w1 with
          |halt x w'=>rw[hp2]at e1;simp[Result.andThen]at e1
          |ok b1 w2=>
           rw[hp2]at e1;simp only[Result.andThen_ok]at e1 ⊢;rw[e1];cases r1 with
           |false=>simp
           |true=>simp[e2]
        ·simp at h
       ·simp at h
      ·simp at h
    exact main fs.toList ls 0 as bs r _ _ h he (ha.extract (by omega)) (hb.extract (by omega))
  ·obtain⟨l,rfl,hl⟩:=Nc h (fun fs hf=>hstruct ⟨fs,hf⟩)
   match as,bs,he with
   | [a],[b],he=>
    simp only[dg,vd,fM,ab0,bL]at he;obtain⟨r',hr',rfl⟩:=he;obtain⟨va,hva,hra⟩:=ha 0 a rfl;obtain⟨vb,hvb,hrb⟩:=hb 0 b rfl;simp only[ace]at hva hvb;simp only[Sem.run_bind,uo (KT hl) hva,uo (KT hl) hvb,Result.andThen_ok];exact Y6 hr' hl hra hrb D w
   | [],_,he=>simp[dg]at he
   |_::_,[],he=>simp[dg]at he
   | [_],_::_::_,he=>simp[dg]at he
   |_::_::_,_::_,he=>simp[dg]at he
theorem eG(r off n:Nat):(Addr.mk r off none).add n=⟨r,off+n,none⟩:=by
 unfold Addr.add;split
 ·rename_i h;subst h;rfl
 ·rfl
theorem yr_eq{t:TypeId}{f:Nat}{fd:Field}(h:yr p t f=some fd):∃fs,p.underlying t=some (.struct fs)∧fs[f]?=some fd:=by
 unfold yr at h;split at h
 ·exact⟨_,by assumption,h⟩
 ·cases h
theorem Qh{V:View}{row:List PV}{o:Nat}{v:Value}(h:aV V (.p (.ptr row o)) v):∃r off,v=.pointer (some ⟨r,off+o,none⟩)∧V.ok r∧∃cv:Nat→Value,(∀k,k<row.length→V.w.cell? ⟨r,off+k,none⟩=some (cv k))∧(∀k,k<row.length→(cv k).oneCell'=true)∧∀(k:Nat) (q:PV),row[k]?=some q→dw V.w V.ok q (cv k):=by
 cases h with
 |p h=>
  cases h with
  |ptr _ _ r off cv hok hc h1 hr=>exact⟨r,off,rfl,hok,cv,hc,h1,hr⟩
theorem X8{V:View}{row:List PV}{o n:Nat}{r off:Nat}(h:aV V (.p (.ptr row o)) (.pointer (some ⟨r,off,none⟩))):aV V (.p (.ptr row (o+n))) (.pointer (some ⟨r,off+n,none⟩)):=by
 cases h with
 |p h=>
  cases h with
  |ptr _ _ _ off' cv hok hc h1 hr=>
   have:=dw.ptr row (o+n) r off' cv hok hc h1 hr;rw[←acn]at this;exact .p this
theorem Rg{V:View}{b m i o n:Nat}{a:Addr}(h:aV V (.ptr b m i o) (.pointer (some a))):aV V (.ptr b m i (o+n)) (.pointer (some (a.add n))):=by
 cases h with
 |ptr _ _ _ _ a s hs hn hp=>
  refine .ptr b m i (o+n) _ s hs hn fun es l h1 h2 h3=>?_
  obtain⟨r',h4,h5⟩:=hp es l h1 h2 h3;subst h5;exact⟨r',h4,by rw[eG,acn]⟩
theorem Ju{V:View}{b m i o:Nat}{v:Value}(h:aV V (.ptr b m i o) v):∃a,v=.pointer (some a):=by cases h;exact⟨_,rfl⟩
theorem H4{t:TypeId}{f:Nat}{fd:Field}{s:Nat}(h:yr p t f=some fd)(hs:cI p fd.type=some s)(h0:s≠0)(a:Addr)(w:World):(Instr.fieldAt t (.pointer (some a)) f).run p w=.ok (.pointer (some (a.add fd.offset))) w:=by
 obtain⟨fs,ht,hf⟩:=yr_eq h;simp only[Instr.fieldAt,Sem.run_bind,bp ht,Result.andThen_ok,hf,Instr.sureAddr,Sem.run_pure,fieldPlace,lq hs,h0,if_false]
theorem B9{V:View}{rows:List (List PV)}{v:Value}(h:aV V (.p (.aW rows)) v):∃a c,v=.slice a rows.length c∧rows.length≤c∧(rows≠[]→∃r off es,a=some ⟨r,off,none⟩∧V.ok r∧(∀x∈rows,x.length=es)∧∃cv:Nat→Value,
  (∀k,k<rows.length*es→V.w.cell? ⟨r,off+k,none⟩=some (cv k))∧(∀k,k<rows.length*es→(cv k).oneCell'=true)∧∀(k:Nat) (q:PV),rows.flatten[k]?=some q→dw V.w V.ok q (cv k)):=by
 cases h with
 |p h=>
  cases h with
  |GJ a c=>exact⟨a,c,rfl,UC _,fun h=>absurd rfl h⟩
  |aW _ r off c es cv hr hok hc hes hcell hone hrel=>exact⟨_,c,rfl,hc,fun _=>⟨r,off,es,rfl,hok,hes,cv,hcell,hone,hrel⟩⟩
theorem aim{V:View}{vs:List AV}{us:List Value}(hl:vs.length=us.length)(hr:∀(i:Nat) (c:AV) (v:Value),vs[i]?=some c→us[i]?=some v→aV V c v){k:Nat}{c:AV}(h:vs[k]?=some c):∃u,us[k]?=some u∧aV V c u:=by
 have hk:k<us.length:=by have:=(gu.1 h).1;omega
 exact⟨us[k],oh hk,hr k c _ h (oh hk)⟩
section ops
variable {V:View} {τ:Tm} {nt:Nat} {a:Act} (hT:og V τ nt a.tmps) {o:Oper} {av:AV}
include hT
theorem ak9{c x y:Operand}{c' x' y':O}(hop:o.op=.pick c x y)(hc:fD c=some c')(hx:fD x=some x')(hy:fD y=some y')(hq:quiet V.σ τ (.pick c' x' y')=some av):∃v,(execOp a.eval o).run p V.w=.ok (.value v) V.w∧aV V av v:=by
 simp only[quiet,gE]at hq;obtain⟨b,hb,rfl⟩:=hq;have:=wR hb (bm hT hc);refine⟨if b then a.eval x else a.eval y,?_,?_⟩
 ·simp only[execOp,hop,this,asBool]
  cases b<;>rfl
 ·cases b
  ·exact bm hT hy
  ·exact bm hT hx
theorem ak7(hS:cE p cq V){t:TypeId}{x:Operand}{x':O}{s:Nat}{g:Bool}(hop:o.op=.load t x)(hs:cI p t=some s)(hg:mV p t=some g)(hx:fD x=some x')(hq:quiet V.σ τ (.load s g x')=some av):∃v,(execOp a.eval o).run p V.w=.ok (.value v) V.w∧aV V av v:=by
 obtain⟨v,h1,h2⟩:=S2 hS hs hg hq (bm hT hx);exact⟨v,by simp[execOp,hop,h1],h2⟩
theorem Fy{op:BinOp}{t ty:TypeId}{x y:Operand}{x' y':O}(hop:o.op=.binOp op t x y ty)(hx:fD x=some x')(hy:fD y=some y')(hq:quiet V.σ τ (.arith op x' y')=some av):∃v,(execOp a.eval o).run p V.w=.ok (.value v) V.w∧aV V av v:=by
 simp only[quiet]at hq;split at hq
 ·rename_i qa qb ha hb
  simp only[gE]at hq;obtain⟨z,hz,rfl⟩:=hq;have h1:=bm hT hx;rw[ha]at h1;have h2:=bm hT hy;rw[hb]at h2;obtain⟨v,h3,h4⟩:=ac1 (p:=p) hz h1.xV h2.xV t x y V.w;refine⟨v,?_,.p h4⟩;simp only[Sem.run_bind]at h3;simp only[execOp,hop,Sem.run_bind];rw[h3];rfl
 ·cases hq
theorem ajf{neg:Bool}{t ty:TypeId}{x y:Operand}{x' y':O}(hop:o.op=.binOp (if neg then .neq else .eql) t x y ty)(ht:p.underlying t=some .bool)(hx:fD x=some x')(hy:fD y=some y')(hq:quiet V.σ τ (.eqB neg x' y')=some av):∃v,(execOp a.eval o).run p V.w=.ok (.value v) V.w∧aV V av v:=by
 simp only[quiet,fM,gE]at hq;obtain⟨b1,h1,b2,h2,rfl⟩:=hq;have e1:=wR h1 (bm hT hx);have e2:=wR h2 (bm hT hy);refine⟨_,?_,.p (.bool _)⟩;have hg:=r8 (p:=p) (op:=if neg then .neq else .eql) (t:=t) (x:=x) (y:=y) (a:=.bool b1) (b:=.bool b2) (by simp) (by simp) V.w
 have he:(Op.equal t (.bool b1) (.bool b2)).run p V.w=.ok (b1 == b2) V.w:=run_equalIn_bool' V.w 9999 t b1 b2 ht;simp only[execOp,hop,e1,e2,Sem.run_bind,hg,Result.andThen_ok];cases neg<;>simp[binOp,he]
omit hT in
theorem afo(d:Nat){t:TypeId}{ps rs:Array TypeId}{vr:Bool}(ht:p.underlying t=some (.func ps rs vr))(w:World):(Op.equalIn (d+1) t .nilFunc .nilFunc).run p w=.ok true w:=by simp[Op.equalIn,bp ht]
omit hT in
theorem TU(d:Nat){t:TypeId}{ps rs:Array TypeId}{vr:Bool}(ht:p.underlying t=some (.func ps rs vr))(f:Fn)(ms:Array Value)(vs:Array Value)(w:World):(Op.equalIn (d+1) t (.func f ms vs) .nilFunc).run p w=.ok false w:=by simp[Op.equalIn,bp ht]
theorem Yb{neg:Bool}{t ty:TypeId}{x y:Operand}{x':O}{ps rs:Array TypeId}{vr:Bool}(hop:o.op=.binOp (if neg then .neq else .eql) t x y ty)(ht:p.underlying t=some (.func ps rs vr))(hx:fD x=some x')(hy:fD y=some (.c (.p .w9)))(hq:quiet V.σ τ (.Hk neg x')=some av):∃v,(execOp a.eval o).run p V.w=.ok (.value v) V.w∧aV V av v:=by
 have h2:=bm hT hy
 have e2:a.eval y=.nilFunc:=by
  generalize a.eval y=vy at h2;cases h2 with
  |p h=>cases h;rfl
 have h1:=bm hT hx
 have fin:∀(v:Value) (r:Bool),a.eval x=v→v≠.nilIface→(∀cs,v≠.agg cs)→(∀w,(Op.equal t v .nilFunc).run p w=.ok r w)→av=.p (.bool (if neg then !r else r))→∃v,(execOp a.eval o).run p V.w=.ok (.value v) V.w∧aV V av v:=by
  intro v r e1 n1 n2 he hav;subst hav;refine⟨_,?_,.p (.bool _)⟩;have hg:=r8 (p:=p) (op:=if neg then .neq else .eql) (t:=t) (x:=x) (y:=y) (a:=v) (b:=.nilFunc) n1 n2 V.w
  simp only[execOp,hop,e1,e2,Sem.run_bind,hg,Result.andThen_ok];cases neg<;>simp[binOp,he]
 simp only[quiet]at hq;split at hq
 ·rename_i hx0
  rw[hx0]at h1;cases hq;generalize hvx:a.eval x=vx at h1;cases h1 with
  |p h=>
   cases h;exact fin .nilFunc true hvx (by simp) (by simp) (fun w=>afo 9999 ht w) (by cases neg<;>rfl)
 ·rename_i f cs hx0
  rw[hx0]at h1;cases hq;generalize hvx:a.eval x=vx at h1;cases h1 with
  |p h=>
   cases h with
   |fn _ _ vs hl hr=>exact fin _ false hvx (by simp) (by simp) (fun w=>TU 9999 ht _ _ _ w) (by cases neg<;>rfl)
 ·rename_i f cs hx0
  rw[hx0]at h1;cases hq;generalize hvx:a.eval x=vx at h1;cases h1 with
  |fn _ _ vs hl hr=>exact fin _ false hvx (by simp) (by simp) (fun w=>TU 9999 ht _ _ _ w) (by cases neg<;>rfl)
 ·cases hq
theorem an9{neg:Bool}{lv:List mg}{t ty:TypeId}{x y:Operand}{x' y':O}(hop:o.op=.binOp (if neg then .neq else .eql) t x y ty)(hg:p.eqGuardType p.depth t=false)(hlv:mj p 8 t=some lv)(hag:mV p t=some true)(hx:fD x=some x')(hy:fD y=some y')
  (hsz:cI p t=some lv.length) (hq:quiet V.σ τ (.UD neg lv x' y')=some av):∃v,(execOp a.eval o).run p V.w=.ok (.value v) V.w∧aV V av v:=by
 simp only[quiet]at hq;split at hq
 ·rename_i qa qb ha hb
  simp only[gE]at hq;obtain⟨z,hz,rfl⟩:=hq;have h1:=bm hT hx;rw[ha]at h1;have h2:=bm hT hy;rw[hb]at h2;obtain⟨hla,hlb⟩:=wV hz
  have aggs:∀{qs:List PV} {v:Value},aV V (.p (.agg qs)) v→∃xs:Array Value,v=.agg xs∧xs.size=qs.length∧ot V qs xs 0:=by
   intro qs v h;cases h with
   |p h=>
    cases h with
    |agg _ vs hl _ hr=>
     refine⟨vs.toArray,rfl,by simp[hl],fun j c hc=>?_⟩
     have hj:j<vs.length:=by have:=(gu.1 hc).1;omega
     exact⟨vs[j],by simp[hj],hr j c _ hc (oh hj)⟩
  obtain⟨xs,e1,s1,c1⟩:=aggs h1;obtain⟨ys,e2,s2,c2⟩:=aggs h2;have key:=Kr 8 t lv hlv hsz 10000 (by omega) V qa qb z xs ys 0 0 V.w hz c1 c2
  simp only[Sem.run_bind,wc hag hsz,Result.andThen_ok,sQ]at key;rw[show xs.extract 0 lv.length=xs by rw[←hla,←s1];simp,show ys.extract 0 lv.length=ys by rw[←hlb,←s2];simp]at key
  refine⟨_,?_,.p (.bool _)⟩;simp only[execOp,hop,e1,e2,Sem.run_bind,run_eqGuard_agg V.w _ t x y xs ys hg,Result.andThen_ok];cases neg<;>simp[run_eql_struct,run_neq_struct,key]
 ·cases hq
theorem aoc{t:TypeId}{x:Operand}{x':O}(hop:o.op=.unOp .not t x)(hx:fD x=some x')(hq:quiet V.σ τ (.not x')=some av):∃v,(execOp a.eval o).run p V.w=.ok (.value v) V.w∧aV V av v:=by
 simp only[quiet,gE]at hq;obtain⟨b,hb,rfl⟩:=hq;have:=wR hb (bm hT hx);exact⟨.bool !b,by simp[execOp,hop,this,Op.unary],.p (.bool _)⟩
theorem aob{t:TypeId}{x:Operand}{x':O}(hop:o.op=.unOp .neg t x)(hx:fD x=some x')(hq:quiet V.σ τ (.neg x')=some av):∃v,(execOp a.eval o).run p V.w=.ok (.value v) V.w∧aV V av v:=by
 simp only[quiet]at hq;split at hq
 ·rename_i k n hv
  cases hq;have:=bm hT hx;rw[hv]at this;exact⟨.int k (k.wrap (0-n)),by simp[execOp,hop,this.EJ,Op.unary,Op.intArith],.p (.int _ _)⟩
 ·cases hq
theorem ahX{t:TypeId}{x:Operand}{x':O}(hop:o.op=.unOp .xor t x)(hx:fD x=some x')(hq:quiet V.σ τ (.Hb x')=some av):∃v,(execOp a.eval o).run p V.w=.ok (.value v) V.w∧aV V av v:=by
 simp only[quiet]at hq;split at hq
 ·rename_i k n hv
  simp only[rm,vd,bL]at hq;subst hq;have:=bm hT hx;rw[hv]at this;exact⟨_,by simp only[execOp,hop,this.EJ,Op.unary,Op.intBits];rfl,.p (.int _ _)⟩
 ·cases hq
theorem ak0{s d:TypeId}{k1 k:IntKind}{x:Operand}{x':O}(hop:o.op=.convert s d x)(h1:p.underlying s=some (.int k1))(h2:p.underlying d=some (.int k))(hx:fD x=some x')(hq:quiet V.σ τ (.conv k x')=some av):∃v,(execOp a.eval o).run p V.w=.ok (.value v) V.w∧aV V av v:=by
 simp only[quiet]at hq;split at hq
 ·rename_i k' n hv
  cases hq;have:=bm hT hx;rw[hv]at this;exact⟨.int k (k.wrap n),by simp[execOp,hop,this.EJ,convert,bp h1,bp h2,Conv.intToInt],.p (.int _ _)⟩
 ·cases hq
theorem ahY{s d:TypeId}{x:Operand}{x':O}(hop:o.op=.convert s d x)(h1:p.underlying s=some .string)(h2:p.underlying d=some .string)(hx:fD x=some x')(hq:quiet V.σ τ (.J5 x')=some av):∃v,(execOp a.eval o).run p V.w=.ok (.value v) V.w∧aV V av v:=by
 simp only[quiet]at hq;split at hq
 ·rename_i s hv
  cases hq;have:=bm hT hx;rw[hv]at this;exact⟨.string s,by simp[execOp,hop,this.FV,convert,bp h1,bp h2],.p (.str _)⟩
 ·cases hq
theorem ak1{t:TypeId}{f:Nat}{fd:Field}{s:Nat}{x:Operand}{x':O}(hop:o.op=.fieldAddr t x f)(hf:yr p t f=some fd)(hs:cI p fd.type=some s)(h0:s≠0)(hx:fD x=some x')(hq:quiet V.σ τ (.cQ fd.offset x')=some av):∃v,(execOp a.eval o).run p V.w=.ok (.value v) V.w∧aV V av v:=by
 have hv:=bm hT hx;simp only[quiet]at hq;split at hq
 ·rename_i row off he
  cases hq;rw[he]at hv;obtain⟨r,off',e,_⟩:=Qh hv;rw[e]at hv;refine⟨.pointer (some ((Addr.mk r (off'+off) none).add fd.offset)),by simp[execOp,hop,e,H4 hf hs h0],?_⟩
  rw[eG];exact X8 hv
 ·rename_i b n i off he
  cases hq;rw[he]at hv;obtain⟨ad,e⟩:=Ju hv;rw[e]at hv;exact⟨.pointer (some (ad.add fd.offset)),by simp[execOp,hop,e,H4 hf hs h0],Rg hv⟩
 ·cases hq
theorem aoa{t:TypeId}{f:Nat}{fd:Field}{s:Nat}{g:Bool}{x:Operand}{x':O}(hop:o.op=.field t x f)(hf:yr p t f=some fd)(hs:cI p fd.type=some s)(hg:mV p fd.type=some g)(hx:fD x=some x')(hq:quiet V.σ τ (.fld fd.offset s g x')=some av):∃v,(execOp a.eval o).run p V.w=.ok (.value v) V.w∧aV V av v:=by
 have hv:=bm hT hx;obtain⟨fs,ht,hf'⟩:=yr_eq hf
 have main:∀(cs:List AV) (vs:List Value),a.eval x=.agg vs.toArray→cs.length=vs.length→(∀v∈vs,v.oneCell'=true)→(∀(i:Nat) (c:AV) (v:Value),cs[i]?=some c→vs[i]?=some v→aV V c v)→(part fd.offset s cs).bind (lY g)=some av→∃v,(execOp a.eval o).run p V.w=.ok (.value v) V.w∧aV V av v:=by
  intro cs vs e hl hone hr hq;simp only[fM]at hq;obtain⟨ps,hps,hq⟩:=hq;obtain⟨hle,hpe⟩:=ze hps;obtain⟨hpl,hget⟩:=Fw hps
  have hvs:∀(i:Nat) (c:AV) (v:Value),ps[i]?=some c→((vs.drop fd.offset).take s)[i]?=some v→aV V c v:=by
   intro i c v hc hv;have hi:i<s:=by have:=(gu.1 hc).1;omega
   rw[hget i hi]at hc;rw[UL hi,abb]at hv;exact hr _ c v hc hv
  obtain⟨h1,h2⟩:=xT hq (vs:=(vs.drop fd.offset).take s) (by rw[hpl];simp;omega) (fun v hv=>hone v (abC (abK hv))) hvs
  refine⟨_,?_,h1⟩;simp only[execOp,hop,e,Instr.field,Sem.run_bind,bp ht,Result.andThen_ok,hf',asAgg,Sem.run_pure];cases g with
  |true=>
   simp only[wc hg hs,Result.andThen_ok,if_true]
   congr 3
   apply Array.ext';simp
  |false=>
   have:=h2 rfl;have hs1:s=1:=by omega
   subst hs1;have hlt:fd.offset<vs.length:=by omega
   simp only[uo hg (xs:=vs.toArray) (off:=fd.offset) (v:=vs[fd.offset]) (by simp[hlt]),Result.andThen_ok,nh,if_false]
   congr 3
   rw[abc hlt];rfl
 simp only[quiet]at hq;split at hq
 ·rename_i cs he
  rw[he]at hv;cases hv with
  |p hv=>
   generalize hvx:a.eval x=vx at hv;cases hv with
   |agg _ vs hl hone hr=>
    refine main (cs.map .p) vs hvx (by simp[hl]) hone (fun i c v hc hv=>?_) ?_
    ·rw[xF,gE]at hc
     obtain⟨q,hq,rfl⟩:=hc;exact .p (hr i q v hq hv)
    ·rw[Option.map_bind]at hq
     simp only[ach,xS]at hq;rw[Lp];cases hp:part fd.offset s cs with
     |none=>simp[hp]at hq
     |some ps=>simpa[hp]using hq
 ·rename_i cs he
  rw[he]at hv;generalize hvx:a.eval x=vx at hv;cases hv with
  |agg _ vs hl hone hr=>exact main cs vs hvx hl hone hr hq
 ·cases hq
theorem ahZ{t:TypeId}{len:Nat}{e:TypeId}{es:Nat}{x i:Operand}{x' i':O}(hop:o.op=.indexAddr t x i)(ht:p.underlying t=some (.array len e))(he:cI p e=some es)(hx:fD x=some x')(hi:fD i=some i')(hq:quiet V.σ τ (.KJ len es x' i')=some av):∃v,(execOp a.eval o).run p V.w=.ok (.value v) V.w∧aV V av v:=by
 simp only[quiet,fM]at hq;obtain⟨n,hn,hq⟩:=hq;obtain⟨k,hk⟩:=tx hn (bm hT hi);have hv:=bm hT hx;split at hq
 ·rename_i hlt
  have run:∀ad:Addr,a.eval x=.pointer (some ad)→(execOp a.eval o).run p V.w=.ok (.value (.pointer (some (ad.add (n*es))))) V.w:=by
   intro ad hx;simp[execOp,hop,hx,hk,Instr.indexAt,asIntOf,bp ht,Instr.sureAddr,lq he];intro h;omega
  split at hq
  ·rename_i row off hx'
   cases hq;rw[hx']at hv;obtain⟨r,off',e',_⟩:=Qh hv;rw[e']at hv;refine⟨_,run _ e',?_⟩;rw[eG];exact X8 hv
  ·rename_i b m j off hx'
   cases hq;rw[hx']at hv;obtain⟨ad,e'⟩:=Ju hv;rw[e']at hv;exact⟨_,run _ e',Rg hv⟩
  ·cases hq
 ·cases hq
theorem ah0(hS:cE p cq V){t:TypeId}{e:TypeId}{es:Nat}{x i:Operand}{x' i':O}(hop:o.op=.indexAddr t x i)(ht:p.underlying t=some (.slice e))(he:cI p e=some es)(hx:fD x=some x')(hi:fD i=some i')(hq:quiet V.σ τ (.aA es x' i')=some av):∃v,(execOp a.eval o).run p V.w=.ok (.value v) V.w∧aV V av v:=by
 simp only[quiet,fM]at hq;obtain⟨n,hn,hq⟩:=hq;obtain⟨k,hk⟩:=tx hn (bm hT hi);have hv:=bm hT hx
 have run:∀(ad:Addr) (len c:Nat),a.eval x=.slice (some ad) len c→n<len→(execOp a.eval o).run p V.w=.ok (.value (.pointer (some (ad.add (n*es))))) V.w:=by
  intro ad len c hx hlt;simp[execOp,hop,hx,hk,Instr.indexAt,asIntOf,bp ht,lq he];intro h;omega
 split at hq
 ·rename_i rows hx'
  simp only[fM]at hq;obtain⟨row,hrow,hq⟩:=hq;split at hq
  ·rename_i hes
   cases hq;rw[hx']at hv;obtain⟨a1,c,e1,hc,hr⟩:=B9 hv;have hlt:n<rows.length:=(gu.1 hrow).1;obtain⟨r,off,es',rfl,hok,hwide,cv,hcell,hone,hrel⟩:=hr (by intro h;subst h;simp at hlt)
   have hes':es=es':=by rw[←hes];exact hwide row (mK hrow)
   subst hes';refine⟨_,run _ _ _ e1 hlt,?_⟩;rw[eG]
   have:=dw.ptr (w:=V.w) (ok:=V.ok) row 0 r (off+n*es) (fun k=>cv (n*es+k)) hok
    (fun j hj=>by
     rw[acn]
     exact hcell _ (by
      have:n*es+es≤rows.length*es:=by rw[←Xs];exact Jn _ hlt
      omega))
    (fun j hj=>hone _ (by
      have:n*es+es≤rows.length*es:=by rw[←Xs];exact Jn _ hlt
      omega))
    (fun j q hq=>hrel _ q (gL hwide hrow hq))
   exact .p this
  ·cases hq
 ·rename_i b m hx'
  split at hq
  ·rename_i hm
   cases hq;rw[hx']at hv;generalize hvx:a.eval x=vx at hv;cases hv with
   |sl _ _ ad c s hs hn' hp=>
    have hsl:=hm.2;unfold NO at hsl;cases ho:V.σ[b]? with
    |none=>simp[ho]at hsl
    |some ob=>
     obtain⟨l,hl⟩:=hS.nA ho;have hor:=hS.obj b l ob hl ho;simp only[ho,xu]at hsl
     have fin:∀(rows:List (List AV)),oT V l es rows→ob.sh=.vec es m→rows.length=m→∃v,(execOp a.eval o).run p V.w=.ok (.value v) V.w∧aV V (.ptr b m n 0) v:=by
      intro rows hvec hsh hlen;have hse:s=.vec es m:=by rw[←hsh];simpa[View.sh,ho]using hs.symm
      obtain⟨e1,e2⟩:=hp es l hse hl;cases hb:l.iL with
      |none=>
       have:=hvec.nil hb;have:=hvec.cap;omega
      |some r=>
       have e3:ad=some ⟨r,0,none⟩:=by
        rw[e1 (by have:=hvec.cap;omega)]
        simp[Loc.addr,hb]
       subst e3;refine⟨_,run _ _ _ hvx hm.1,?_⟩;rw[eG,sQ];refine .ptr b m n 0 _ s hs hn' fun es1 l1 h1 h2 h3=>?_
       rw[hl,bL]at h2;subst h2;rw[hse]at h1;cases h1;exact⟨r,hb,rfl⟩
     cases ob with
     |pv es0 rows f=>
      simp only[Obj.M4,bL,pY]at hsl;obtain⟨rfl,rfl⟩:=hsl;exact fin _ hor rfl (by simp[ay])
     |av es0 rows f=>
      simp only[Obj.M4,bL,pY]at hsl;obtain⟨rfl,rfl⟩:=hsl;exact fin _ hor rfl rfl
     |map=>simp[Obj.M4]at hsl
     |loop=>simp[Obj.M4]at hsl
     |gone=>simp[Obj.M4]at hsl
  ·cases hq
 ·cases hq
end ops
theorem wg{V:View}{x:AV}{v:Value}(h:aV V x v){cs:List AV}(hx:x=.agg cs∨∃ps,x=.p (.agg ps)∧cs=ps.map .p):∃vs:List Value,v=.agg vs.toArray∧cs.length=vs.length∧(∀v∈vs,v.oneCell'=true)∧∀(i:Nat) (c:AV) (v:Value),cs[i]?=some c→vs[i]?=some v→aV V c v:=by
 rcases hx with rfl|⟨ps,rfl,rfl⟩
 ·cases h with|agg _ vs hl hone hr=>exact⟨vs,rfl,hl,hone,hr⟩
 ·cases h with
  |p h=>
   cases h with
   |agg _ vs hl hone hr=>
    refine⟨vs,rfl,by simp[hl],hone,fun i c v hc hv=>?_⟩
    rw[xF,gE]at hc;obtain⟨q,hq,rfl⟩:=hc;exact .p (hr i q v hq hv)
theorem F3{V:View}{x:AV}{v:Value}(h:aV V x v){cs:List AV}(hx:x=.jO cs∨∃ps,x=.p (.jO ps)∧cs=ps.map .p):∃vs:List Value,v=.tuple vs.toArray∧cs.length=vs.length∧∀(i:Nat) (c:AV) (v:Value),cs[i]?=some c→vs[i]?=some v→aV V c v:=by
 rcases hx with rfl|⟨ps,rfl,rfl⟩
 ·cases h with|jO _ vs hl hr=>exact⟨vs,rfl,hl,hr⟩
 ·cases h with
  |p h=>
   cases h with
   |jO _ vs hl hr=>
    refine⟨vs,rfl,by simp[hl],fun i c v hc hv=>?_⟩
    rw[xF,gE]at hc;obtain⟨q,hq,rfl⟩:=hc;exact .p (hr i q v hq hv)
theorem ahS{V:View}{t:TypeId}{s:Nat}{g:Bool}(hs:cI p t=some s)(hg:mV p t=some g){cs:List AV}{vs:List Value}(hl:cs.length=vs.length)(hone:∀v∈vs,v.oneCell'=true)(hr:∀(i:Nat) (c:AV) (v:Value),cs[i]?=some c→vs[i]?=some v→aV V c v){off:Nat}{x:AV}(h:(part off s cs).bind (lY g)=some x)(w:World) :
  ∃v,(Go.part t vs.toArray off).run p w=.ok v w∧aV V x v:=by
 simp only[fM]at h;obtain⟨ps,hps,hq⟩:=h;obtain⟨hle,hpe⟩:=ze hps;obtain⟨hpl,hget⟩:=Fw hps
 have hvs:∀(i:Nat) (c:AV) (v:Value),ps[i]?=some c→((vs.drop off).take s)[i]?=some v→aV V c v:=by
  intro i c v hc hv;have hi:i<s:=by have:=(gu.1 hc).1;omega
  rw[hget i hi]at hc;rw[UL hi,abb]at hv;exact hr _ c v hc hv
 obtain⟨h1,h2⟩:=xT hq (vs:=(vs.drop off).take s) (by rw[hpl];simp;omega) (fun v hv=>hone v (abC (abK hv))) hvs
 refine⟨_,?_,h1⟩;cases g with
 |true=>
  rw[wc hg hs,if_pos rfl]
  congr 2
  apply Array.ext';simp
 |false=>
  have:=h2 rfl;have hs1:s=1:=by omega
  subst hs1;have hlt:off<vs.length:=by omega
  rw[uo hg (xs:=vs.toArray) (off:=off) (v:=vs[off]) (by simp[hlt]),if_neg (by simp)]
  congr 1
  rw[abc hlt];rfl
theorem aeH{off s:Nat}{g:Bool}{cs:List PV}{x:AV}(h:((part off s cs).bind (nM g)).map .p=some x):(part off s (cs.map .p)).bind (lY g)=some x:=by
 rw[Option.map_bind]at h;simp only[ach,xS]at h;rw[Lp];cases hp:part off s cs with
 |none=>simp[hp]at h
 |some ps=>simpa[hp]using h
theorem I9{o:Oper}{a:Act}{c:Call}(hop:o.op=.call c)(hb:c.callee=.builtin .len){v:Value}{w:World}(h:(Builtin.len_ c.argTypes o.type (c.args.map a.eval)).run p w=.ok v w):(execOp a.eval o).run p w=.ok (.value v) w:=by
 simp[execOp,hop,resolve,hb,invoke,builtin,h]
theorem afa{V:View}{τ:Tm}{a:Act}{o:Oper}{av:AV}{c:Call}{t e:TypeId}{n:Nat}{x:Operand}(hop:o.op=.call c)(hb:c.callee=.builtin .len)(hty:c.argTypes[0]?=some t)(ht:p.underlying t=some (.array n e)∨∃u,p.underlying t=some (.pointer u)∧p.underlying u=some (.array n e))(hx0:c.args[0]?=some x)(hq:quiet V.σ τ (.VY n)=some av):∃v,(execOp a.eval o).run p V.w=.ok (.value v) V.w∧aV V av v:=by
 simp only[quiet,bL]at hq;subst hq;refine⟨.int .i64 (Int.ofNat n),I9 hop hb ?_,.p (.int _ _)⟩;rcases ht with ht|⟨u,ht,hu⟩
 ·simp[Builtin.len_,hty,hx0,bp ht,goInt]
 ·simp[Builtin.len_,hty,hx0,bp ht,bp hu,goInt]
theorem ZE{V:View}(mx:Bool):∀(ys:List AV) (vs:List Value) (x z:PV) (v:Value),Ct mx x ys=some z→ys.length=vs.length→(∀(i:Nat) (c:AV) (v:Value),ys[i]?=some c→vs[i]?=some v→aV V c v)→dw V.w V.ok x v →
  ∃u,(vs.foldlM (if mx then Builtin.max2 else Builtin.min2) v).run p V.w=.ok u V.w∧dw V.w V.ok z u:=by
 intro ys
 induction ys with
 |nil=>
  intro vs x z v h hl _ hv;simp only[Ct,bL]at h;subst h
  match vs,hl with
  | [],_=>exact⟨v,rfl,hv⟩
 |cons y ys ih=>
  intro vs x z v h hl hr hv
  match vs,hl with
  |u::us,hl=>
   unfold Ct at h;split at h
   ·rename_i heq;cases heq
   ·rename_i y' r heq
    cases heq;simp only[fM]at h;obtain⟨z',hz',h⟩:=h
    obtain⟨k,i1,k',i2,rfl,rfl,rfl⟩:∃k i1 k' i2,x=.int k i1∧y'=.int k' i2∧z'=.int k (if mx then max i1 i2 else min i1 i2):=by
     cases x<;>cases y'<;>simp[X1]at hz' ⊢
     exact⟨_,_,⟨rfl,rfl⟩,_,_,⟨rfl,rfl⟩,hz'.symm⟩
    cases hv;have:=(hr 0 _ u rfl rfl).EJ;subst this;obtain⟨u',h1,h2⟩:=ih us _ z (.int k (if mx then max i1 i2 else min i1 i2)) h (by simpa using hl) (fun i c v hc hv=>hr (i+1) c v (by simpa using hc) (by simpa using hv)) (.int _ _)
    refine⟨u',?_,h2⟩;rw[List.foldlM_cons,Sem.run_bind]
    have:((if mx=true then Builtin.max2 else Builtin.min2) (.int k i1) (.int k' i2)).run p V.w=.ok (.int k (if mx then max i1 i2 else min i1 i2)) V.w:=by
     cases mx
     ·simp only[nh,if_false,Builtin.min2,Sem.run_pure]
      congr 2
      split<;>omega
     ·simp only[if_true,Builtin.max2,Sem.run_pure]
      congr 2
      split<;>omega
    rw[this];exact h1
   ·cases h
section ops
variable {V:View} {τ:Tm} {nt:Nat} {a:Act} (hT:og V τ nt a.tmps) {o:Oper} {av:AV}
include hT
theorem ak2{t:TypeId}{len:Nat}{e:TypeId}{es:Nat}{g:Bool}{x i:Operand}{x' i':O}(hop:o.op=.index t x i)(ht:p.underlying t=some (.array len e))(he:cI p e=some es)(hg:mV p e=some g)(hx:fD x=some x')(hi:fD i=some i')(hq:quiet V.σ τ (.VV len es g x' i')=some av):∃v,(execOp a.eval o).run p V.w=.ok (.value v) V.w∧aV V av v:=by
 simp only[quiet,fM]at hq;obtain⟨n,hn,hq⟩:=hq;obtain⟨k,hk⟩:=tx hn (bm hT hi);have hv:=bm hT hx;split at hq
 ·rename_i hlt
  have main:∀(cs:List AV) (vs:List Value),a.eval x=.agg vs.toArray→cs.length=vs.length→(∀v∈vs,v.oneCell'=true)→(∀(i:Nat) (c:AV) (v:Value),cs[i]?=some c→vs[i]?=some v→aV V c v)→(part (n*es) es cs).bind (lY g)=some av→∃v,(execOp a.eval o).run p V.w=.ok (.value v) V.w∧aV V av v:=by
   intro cs vs e1 hl hone hr hq;obtain⟨v,h1,h2⟩:=ahS he hg hl hone hr hq V.w;refine⟨v,?_,h2⟩;have hlt':¬len≤n:=by omega
   simp[execOp,hop,hk,e1,Instr.index,asIntOf,bp ht,lq he,h1,hlt']
  split at hq
  ·rename_i cs he'
   rw[he']at hv;obtain⟨vs,e1,hl,hone,hr⟩:=wg hv (.inr ⟨cs,rfl,rfl⟩);exact main _ vs e1 hl hone hr (aeH hq)
  ·rename_i cs he'
   rw[he']at hv;obtain⟨vs,e1,hl,hone,hr⟩:=wg hv (.inl rfl);exact main _ vs e1 hl hone hr hq
  ·cases hq
 ·cases hq
theorem ak3{t:TypeId}{x i:Operand}{x' i':O}(hop:o.op=.index t x i)(ht:p.underlying t=some .string)(hx:fD x=some x')(hi:fD i=some i')(hq:quiet V.σ τ (.M6 x' i')=some av):∃v,(execOp a.eval o).run p V.w=.ok (.value v) V.w∧aV V av v:=by
 simp only[quiet,fM]at hq;obtain⟨n,hn,hq⟩:=hq;obtain⟨k,hk⟩:=tx hn (bm hT hi);have hv:=bm hT hx;split at hq
 ·rename_i s hs
  rw[hs]at hv;simp only[gE]at hq;obtain⟨b,hb,rfl⟩:=hq;exact⟨.int .u8 b.toNat,by simp[execOp,hop,hk,hv.FV,Instr.index,asIntOf,bp ht,hb],.p (.int _ _)⟩
 ·cases hq
theorem ZR{x:Operand}{x':O}{k:Nat}(hop:o.op=.extract x k)(hx:fD x=some x')(hq:quiet V.σ τ (.extract x' k)=some av):∃v,(execOp a.eval o).run p V.w=.ok (.value v) V.w∧aV V av v:=by
 have hv:=bm hT hx
 have main:∀(cs:List AV) (vs:List Value),a.eval x=.tuple vs.toArray→cs.length=vs.length→(∀(i:Nat) (c:AV) (v:Value),cs[i]?=some c→vs[i]?=some v→aV V c v)→cs[k]?=some av→∃v,(execOp a.eval o).run p V.w=.ok (.value v) V.w∧aV V av v:=by
  intro cs vs e1 hl hr hq;obtain⟨u,hu,hru⟩:=aim hl hr hq;exact⟨u,by simp[execOp,hop,e1,Instr.extract,hu],hru⟩
 simp only[quiet]at hq;split at hq
 ·rename_i vs he
  rw[he]at hv;obtain⟨us,e1,hl,hr⟩:=F3 hv (.inr ⟨vs,rfl,rfl⟩);exact main _ us e1 hl hr (by rw[xF];exact hq)
 ·rename_i vs he
  rw[he]at hv;obtain⟨us,e1,hl,hr⟩:=F3 hv (.inl rfl);exact main _ us e1 hl hr hq
 ·cases hq
theorem ak5{c:Call}{t e:TypeId}{x:Operand}{x':O}(hop:o.op=.call c)(hb:c.callee=.builtin .len)(hty:c.argTypes[0]?=some t)(ht:p.underlying t=some (.slice e))(hx0:c.args[0]?=some x)(hx:fD x=some x')(hq:quiet V.σ τ (.bV x')=some av):∃v,(execOp a.eval o).run p V.w=.ok (.value v) V.w∧aV V av v:=by
 have hv:=bm hT hx;simp only[quiet,gE]at hq;obtain⟨n,hn,rfl⟩:=hq
 have:∃ad cp,a.eval x=.slice ad n cp:=by
  unfold bV at hn;split at hn
  ·rename_i rows he
   rw[he]at hv;obtain⟨ad,cp,e1,_⟩:=B9 hv;simp only[bL]at hn;subst hn;exact⟨ad,cp,e1⟩
  ·rename_i he
   rw[he]at hv;cases hn;generalize a.eval x=vx at hv;cases hv with|aF ad=>exact⟨ad,0,rfl⟩
  ·rename_i b m he
   rw[he]at hv;split at hn
   ·cases hn
    generalize a.eval x=vx at hv;cases hv with|sl _ _ ad cp=>exact⟨ad,cp,rfl⟩
   ·cases hn
  ·cases hn
 obtain⟨ad,cp,e1⟩:=this;refine⟨.int .i64 (Int.ofNat n),I9 hop hb ?_,.p (.int _ _)⟩;simp[Builtin.len_,hty,hx0,e1,bp ht,goInt]
theorem ak6{c:Call}{t:TypeId}{x:Operand}{x':O}(hop:o.op=.call c)(hb:c.callee=.builtin .len)(hty:c.argTypes[0]?=some t)(ht:p.underlying t=some .string)(hx0:c.args[0]?=some x)(hx:fD x=some x')(hq:quiet V.σ τ (.Nd x')=some av):∃v,(execOp a.eval o).run p V.w=.ok (.value v) V.w∧aV V av v:=by
 have hv:=bm hT hx;simp only[quiet]at hq;split at hq
 ·rename_i s he
  cases hq;rw[he]at hv;refine⟨.int .i64 (Int.ofNat s.size),I9 hop hb ?_,.p (.int _ _)⟩;simp[Builtin.len_,hty,hx0,hv.FV,bp ht,goInt]
 ·cases hq
theorem ak4(hS:cE p cq V){c:Call}{t k e:TypeId}{x:Operand}{x':O}(hop:o.op=.call c)(hb:c.callee=.builtin .len)(hty:c.argTypes[0]?=some t)(ht:p.underlying t=some (.map k e))(hx0:c.args[0]?=some x)(hx:fD x=some x')(hq:quiet V.σ τ (.yw x')=some av):∃v,(execOp a.eval o).run p V.w=.ok (.value v) V.w∧aV V av v:=by
 have hv:=bm hT hx;simp only[quiet,gE]at hq;obtain⟨n,hn,rfl⟩:=hq;refine⟨.int .i64 (Int.ofNat n),I9 hop hb ?_,.p (.int _ _)⟩
 have key:∀(r:Nat) (en:Array MapEntry) (clock:Nat),a.eval x=.map (some r)→V.w.heap[r]?=some (.map en clock)→en.size=n→(Builtin.len_ c.argTypes o.type (c.args.map a.eval)).run p V.w=.ok (.int .i64 (Int.ofNat n)) V.w:=by
  intro r en clock e1 hm hsz;have hget:(getObj r).run p V.w=.ok (.map en clock) V.w:=by simp[getObj,Sem.run,hm]
  simp[Builtin.len_,hty,hx0,e1,bp ht,goInt,hget,hsz]
 unfold yw at hn;split at hn
 ·rename_i he
  cases hn;rw[he]at hv;cases hv with
  |p hv=>
   generalize hvx:a.eval x=vx at hv;cases hv;simp[Builtin.len_,hty,hx0,hvx,bp ht,goInt]
 ·rename_i es he
  cases hn;rw[he]at hv;cases hv with
  |p hv=>
   generalize hvx:a.eval x=vx at hv;cases hv with
   |pmap _ r en clock hok hm hl hk hr=>exact key r en clock hvx hm hl.symm
 ·rename_i b he
  rw[he]at hv;split at hn
  ·rename_i es f ho
   cases hn;generalize hvx:a.eval x=vx at hv;cases hv with
   |map _ r s hs h=>
    obtain⟨l,hl⟩:=hS.nA ho;obtain⟨r',en,clock,hb',hm⟩:=hS.obj b l _ hl ho;have:s=.map:=by simpa[View.sh,ho,Obj.sh]using hs.symm
    have hrr:=h this l hl;rw[hb',bL]at hrr;subst hrr;exact key r' en clock hvx hm.heap hm.len.symm
  ·cases hn
 ·cases hn
theorem ak8{f:FuncId}{caps:Array Operand}{caps':List O}(hop:o.op=.makeFunc (.func f) #[] caps)(hc:omap fD caps.toList=some caps')(hq:quiet V.σ τ (.xx f caps')=some av):∃v,(execOp a.eval o).run p V.w=.ok (.value v) V.w∧aV V av v:=by
 simp only[quiet,bL]at hq;subst hq;obtain⟨hl,hr⟩:=S8 hT hc;refine⟨.func (.func f) #[] (caps.toList.map a.eval).toArray,?_,aer hl hr⟩;simp[execOp,hop,Instr.makeFunc];apply Array.ext';simp
theorem afc{x:Operand}{x':O}(hop:o.op=.nilCheck x)(hx:fD x=some x')(hq:quiet V.σ τ (.DU x')=some av):∃v,(execOp a.eval o).run p V.w=.ok (.value v) V.w∧aV V av v:=by
 have hv:=bm hT hx;simp only[quiet]at hq;generalize x'.val τ=z at hv hq;refine⟨a.eval x,?_,?_⟩
 ·have:(a.eval x≠.pointer none∧a.eval x≠.nilIface∧a.eval x≠.nilFunc∧∀m b c,a.eval x≠.func (.method m) b c):=by
   generalize a.eval x=vx at hv;cases hv with
   |any=>simp at hq
   |p h=>cases h<;>simp at hq ⊢
   |_=>simp
  simp only[execOp,hop]
  split<;>rename_i h<;>first
   |(exact absurd h this.1)
   |(exact absurd h this.2.1)
   |(exact absurd h this.2.2.1)
   |(exact absurd h (this.2.2.2 _ _ _))
   |rfl
 ·split at hq<;>first
   |(cases hq;done)
   |(cases hq;exact hv)
theorem Tq{c:Call}{mx:Bool}{args:List O}(hop:o.op=.call c)(hb:c.callee=.builtin (if mx then .max else .min))(hc:omap fD c.args.toList=some args)(hq:quiet V.σ τ (.tv mx args)=some av):∃v,(execOp a.eval o).run p V.w=.ok (.value v) V.w∧aV V av v:=by
 simp only[quiet]at hq;split at hq
 ·rename_i x r he
  simp only[gE]at hq;obtain⟨z,hz,rfl⟩:=hq;obtain⟨hl,hr⟩:=S8 hT hc;rw[he]at hl hr
  match hvs:c.args.toList.map a.eval,hl with
  |v::vs,hl=>
   rw[hvs]at hr;obtain⟨u,h1,h2⟩:=ZE (p:=p) mx r vs x z v hz (by simpa using hl) (fun i c v hc hv=>hr (i+1) c v (by simpa using hc) (by simpa using hv)) (hr 0 _ v rfl rfl).xV
   refine⟨u,?_,.p h2⟩;have hargs:(c.args.map a.eval).toList=v::vs:=by rw[abJ];exact hvs
   cases mx with
   |true=>
    simp only[if_true]at hb h1;simp[execOp,hop,resolve,hb,invoke,builtin,Builtin.max_,hvs,h1]
   |false=>
    simp only[nh,if_false]at hb h1;simp[execOp,hop,resolve,hb,invoke,builtin,Builtin.min_,hvs,h1]
 ·cases hq
end ops
theorem wu{V:View}{x:AV}{v:Value}{n y:Nat}(h:mm x=some n)(hv:aV V x v)(hle:n≤y)(code:BoundsCode)(w:World):(Instr.sliceBound v y code).run p w=.ok n w:=by
 obtain⟨k,rfl⟩:=tx h hv;have:(0:Int)≤(n:Int)∧(n:Int)≤(y:Int):=by omega
 simp[Instr.sliceBound,asIntOf];intro h;omega
def OW(V:View)(x:Option AV)(v:Option Value):Prop:=match x,v with
 |none,none=>True
 |some a,some b=>aV V a b
 |_,_=>False
theorem xH{len cap:Nat}{lo hi mx:Option AV}{b:Nat×Nat×Nat}(h:bounds len cap lo hi mx=some b):kT cap mx=some b.2.2∧(if mx.isSome && hi.isNone then none else kT len hi)=some b.2.1∧kT 0 lo=some b.1∧b.2.2≤cap∧b.2.1≤b.2.2∧b.1≤b.2.1:=by
 simp only[bounds,fM]at h;obtain⟨m,hm,h',hh,l,hl,h⟩:=h;split at h
 ·rename_i hle
  cases h;exact⟨hm,hh,hl,hle⟩
 ·cases h
theorem xn{V:View}{isSlice:Bool}{len cap:Nat}{lo hi mx:Option AV}{vlo vhi vmx:Option Value}{b:Nat×Nat×Nat}(h0:kT cap mx=some b.2.2)(hh:(if mx.isSome && hi.isNone then none else kT len hi)=some b.2.1)(hl:kT 0 lo=some b.1)(hle:b.2.2≤cap∧b.2.1≤b.2.2∧b.1≤b.2.1)
  (h1:OW V lo vlo) (h2:OW V hi vhi) (h3:OW V mx vmx) (w:World):(Instr.sliceBounds isSlice len cap vlo vhi vmx).run p w=.ok b w:=by
 obtain⟨l,h,m⟩:=b;dsimp only at h0 hh hl hle;unfold Instr.sliceBounds
 match mx,vmx,h3,hi,vhi,h2 with
 |some a,some b,h3,some c,some d,h2=>
  simp only[Option.isSome_some,Option.isNone_some,UN,nh,if_false]at hh;have e1:=wu (p:=p) h0 h3 hle.1 (if isSlice=true then .slice3Acap else .slice3Alen) w
  have e2:=wu (p:=p) hh h2 hle.2.1 .slice3B w
  match lo,vlo,h1 with
  |some e,some f,h1=>
   have e3:=wu (p:=p) hl h1 hle.2.2 .slice3C w;simp[e1,e2,e3]
  |none,none,_=>
   simp only[kT,bL]at hl;subst hl;simp[e1,e2]
 |none,none,_,some c,some d,h2=>
  simp only[ab8,vD,nh,if_false]at hh;simp only[kT,bL]at h0;subst h0;have e2:=wu (p:=p) hh h2 hle.2.1 (if isSlice=true then .sliceAcap else .sliceAlen) w
  match lo,vlo,h1 with
  |some e,some f,h1=>
   have e3:=wu (p:=p) hl h1 hle.2.2 .sliceB w;simp[e2,e3]
  |none,none,_=>
   simp only[kT,bL]at hl;subst hl;simp[e2]
 |none,none,_,none,none,_=>
  simp only[ab8,vD,nh,if_false,kT,bL]at hh;simp only[kT,bL]at h0;subst h0;subst hh
  match lo,vlo,h1 with
  |some e,some f,h1=>
   have e3:=wu (p:=p) hl h1 hle.2.2 .sliceB w;simp[e3]
  |none,none,_=>
   simp only[kT,bL]at hl;subst hl;simp
 |some a,some b,_,none,none,_=>simp at hh
theorem Ey{α:Type}{rows:List (List α)}{es:Nat}(hes:∀x∈rows,x.length=es)(l h:Nat):∀(k:Nat) (a:α),((rows.take h).drop l).flatten[k]?=some a→rows.flatten[l*es+k]?=some a:=by
 intro k a hk;have hes':∀x∈(rows.take h).drop l,x.length=es:=fun x hx=>hes x (abK (abC hx))
 obtain⟨i,j,row,rfl,hi,hj⟩:=pj hes' hk;rw[abb,Uy]at hi;split at hi
 ·have:=gL hes hi hj
  rw[show l*es+(i*es+j)=(l+i)*es+j by rw[acd];omega]
  exact this
 ·cases hi
section ops
variable {V:View} {τ:Tm} {nt:Nat} {a:Act} (hT:og V τ nt a.tmps) {o:Oper} {av:AV}
include hT
theorem mq{x:Option Operand}{x':Option O}(h:Bt x=some x'):OW V (x'.map (O.val τ)) (x.map a.eval):=by
 cases x with
 |none=>simp only[Bt,bL]at h;subst h;trivial
 |some y=>
  simp only[Bt,gE]at h;obtain⟨z,hz,rfl⟩:=h;exact bm hT hz
theorem alb{t:TypeId}{x:Operand}{x':O}{lo hi:Option Operand}{lo' hi':Option O}(hop:o.op=.slice t x lo hi none)(ht:p.underlying t=some .string)(hx:fD x=some x')(hlo:Bt lo=some lo')(hhi:Bt hi=some hi')(hq:quiet V.σ τ (.W4 x' lo' hi')=some av):∃v,(execOp a.eval o).run p V.w=.ok (.value v) V.w∧aV V av v:=by
 have hv:=bm hT hx;simp only[quiet]at hq;split at hq
 ·rename_i s he
  rw[he]at hv;simp only[gE]at hq;obtain⟨b,hb,rfl⟩:=hq;obtain⟨h1,h2,h3,h4⟩:=xH hb;have hrun:=xn (p:=p) (isSlice:=false) h1 h2 h3 h4 (mq hT hlo) (mq hT hhi) (vmx:=none) trivial V.w;refine⟨.string (s.extract b.1 b.2.1),?_,.p (.str _)⟩;simp[execOp,hop,hv.FV,Instr.sliceAt,Instr.slice,bp ht,hrun]
 ·cases hq
theorem ala{t e:TypeId}{es:Nat}{x:Operand}{x':O}{lo hi mx:Option Operand}{lo' hi' mx':Option O}(hop:o.op=.slice t x lo hi mx)(ht:p.underlying t=some (.slice e))(he:cI p e=some es)(hx:fD x=some x')(hlo:Bt lo=some lo')(hhi:Bt hi=some hi')(hmx:Bt mx=some mx')
  (hq:quiet V.σ τ (.IW es x' lo' hi' mx')=some av):∃v,(execOp a.eval o).run p V.w=.ok (.value v) V.w∧aV V av v:=by
 have hv:=bm hT hx
 have run:∀(ad:Option Addr) (len cap:Nat) (b:Nat×Nat×Nat),a.eval x=.slice ad len cap→(Instr.sliceBounds true len cap (lo.map a.eval) (hi.map a.eval) (mx.map a.eval)).run p V.w=.ok b V.w →
   (execOp a.eval o).run p V.w=.ok (.value (.slice (if b.2.2=b.1 then ad else ad.map (·.add (b.1*es))) (b.2.1-b.1) (b.2.2-b.1))) V.w:=by
  intro ad len cap b e1 hb;simp[execOp,hop,e1,Instr.sliceAt,Instr.slice,bp ht,hb,lq he]
 simp only[quiet]at hq;split at hq
 ·rename_i rows he'
  rw[he']at hv;obtain⟨ad,cap,e1,hcap,hrow⟩:=B9 hv;split at hq
  ·rename_i hwide
   have hwide':∀r∈rows,r.length=es:=by
    intro r hr;unfold wide at hwide;rw[AS]at hwide;simpa using hwide r hr
   simp only[fM]at hq;obtain⟨b,hb,hq⟩:=hq;obtain⟨h1,h2,h3,h4⟩:=xH hb;split at hq
   ·
    rename_i hn;cases hq;have hmx0:mx'=none:=by simpa using hn
    subst hmx0;have hmx1:mx=none:=by cases mx with|none=>rfl|some y=>simp[Bt]at hmx
    subst hmx1;have hb2:b.2.2=rows.length:=by simp only[aco,kT,bL]at h1;exact h1.symm
    have hrun:=xn (p:=p) (isSlice:=true) (len:=rows.length) (cap:=cap) (b:=(b.1,b.2.1,cap)) (mx:=none) rfl h2 h3 ⟨qj _,by dsimp only;omega,h4.2.2⟩ (mq hT hlo) (mq hT hhi) (vmx:=none) trivial V.w
    refine⟨_,run ad rows.length cap (b.1,b.2.1,cap) e1 hrun,?_⟩;dsimp only;have hlen:((rows.take b.2.1).drop b.1).length=b.2.1-b.1:=by simp;omega
    by_cases hz:(rows.take b.2.1).drop b.1=[]
    ·rw[hz]at hlen ⊢
     simp only[pN]at hlen;rw[←hlen];exact .p (.GJ _ _)
    ·have hne:rows≠[]:=by intro h0;subst h0;simp at hz
     obtain⟨r,off,es',rfl,hok,hw,cv,hcell,hone,hrel⟩:=hrow hne
     have hes:es'=es:=by
      obtain⟨x,hx⟩:=abH rows hne;rw[←hw x hx,hwide' x hx]
     subst hes
     have hpos:0<b.2.1-b.1:=by
      rw[←hlen];exact ab1.2 hz
     rw[if_neg (by omega),←hlen]
     simp only[vd,eG];refine .p (.aW _ r (off+b.1*es') (cap-b.1) es' (fun k=>cv (b.1*es'+k)) hz hok (by omega) (fun x hx=>hw x (abK (abC hx))) ?_ ?_ ?_)
     ·intro k hk
      rw[acn];refine hcell _ ?_;have:(b.1+(b.2.1-b.1))*es'≤rows.length*es':=Jn _ (by omega)
      rw[acd]at this;rw[hlen]at hk;omega
     ·intro k hk
      refine hone _ ?_;have:(b.1+(b.2.1-b.1))*es'≤rows.length*es':=Jn _ (by omega)
      rw[acd]at this;rw[hlen]at hk;omega
     ·intro k q hk
      exact hrel _ q (Ey hw b.1 b.2.1 k q hk)
   ·split at hq
    ·rename_i hz
     cases hq;cases hmx':mx' with
     |none=>simp[hmx']at *
     |some mo=>
      subst hmx';cases mx with
      |none=>simp[Bt]at hmx
      |some y=>
       have hrun:=xn (p:=p) (isSlice:=true) (len:=rows.length) (cap:=cap) (b:=b) (mx:=some (mo.val τ)) h1 h2 h3 ⟨by omega,h4.2.1,h4.2.2⟩ (mq hT hlo) (mq hT hhi) (mq hT hmx) V.w
       refine⟨_,run ad rows.length cap b e1 hrun,?_⟩;have hb1:b.2.1-b.1=0:=by omega
       have hb2:b.2.2-b.1=0:=by omega
       rw[hb1,hb2];exact .aF _
    ·cases hq
  ·cases hq
 ·rename_i he'
  rw[he']at hv;simp only[gE]at hq;obtain⟨b,hb,rfl⟩:=hq;obtain⟨h1,h2,h3,h4⟩:=xH hb;generalize hvx:a.eval x=vx at hv;cases hv with
  |aF ad=>
   have hrun:=xn (p:=p) (isSlice:=true) (len:=0) (cap:=0) h1 h2 h3 h4 (mq hT hlo) (mq hT hhi) (mq hT hmx) V.w;refine⟨_,run ad 0 0 b hvx hrun,?_⟩;have hb1:b.2.1-b.1=0:=by omega
   have hb2:b.2.2-b.1=0:=by omega
   rw[hb1,hb2];exact .aF _
 ·cases hq
end ops
theorem run_checkKey{kl:mg}{kt:TypeId}(hl:mi p kt=some kl){k:PV}(hk:q8 kl k=true){V:View}{v:Value}(hv:dw V.w V.ok k v)(empty:Bool)(n:Nat)(w:World):(Instr.checkKey empty (n+1) kt v).run p w=.ok () w:=by
 unfold q8 at hk;split at hk
 ·cases hv
  obtain⟨k',hk'⟩:=DQ hl;simp[Instr.checkKey,bp hk']
 ·cases hv
  simp[Instr.checkKey,bp (DR hl)]
 ·cases hv
  simp[Instr.checkKey,bp (Bm hl)]
 ·cases hk
theorem D1{kl:mg}{kt:TypeId}(hl:mi p kt=some kl){a b:PV}{r:Bool}(h:ni kl a b=some r){w:World}{ok:Nat→Prop}{va vb:Value}(ha:dw w ok a va)(hb:dw w ok b vb){d:TypeDesc}(hd:p.underlying kt=some d):Instr.sameNow d va vb=some r:=by
 unfold ni at h;split at h
 ·cases ha;cases hb
  obtain⟨k',hk'⟩:=DQ hl;rw[hk',bL]at hd;subst hd;simp only[Instr.sameNow];exact h
 ·cases ha;cases hb
  rw[DR hl,bL]at hd;subst hd;simp only[Instr.sameNow,beq_toListBytes];exact h
 ·cases ha;cases hb
  rw[Bm hl,bL]at hd;subst hd;simp only[Instr.sameNow];exact h
 ·cases h
theorem zK{α:Type}{kl:mg}{kt:TypeId}(hl:mi p kt=some kl){d:TypeDesc}(hd:p.underlying kt=some d){w:World}{ok:Nat→Prop}{k:PV}{vk:Value}(hk:dw w ok k vk) :
  ∀(es:List (PV×α)) (ens:List MapEntry) (i0:Nat) (r:Option α),es.length=ens.length→(∀(i:Nat) (x:PV×α) (e:MapEntry),es[i]?=some x→ens[i]?=some e→dw w ok x.1 e.key)→findKey kl k es=some r →
   (r=none→Instr.findNow d vk ens i0=some none)∧(∀a,r=some a→∃j e x,Instr.findNow d vk ens i0=some (some (i0+j,e.val))∧es[j]?=some (x,a)∧ens[j]?=some e∧ni kl k x=some true∧∀i,i<j→∀y,es[i]?=some y→ni kl k y.1=some false):=by
 intro es
 induction es with
 |nil=>
  intro ens i0 r hlen _ h
  match ens,hlen with
  | [],_=>
   simp only[findKey,bL]at h;subst h;exact⟨fun _=>rfl,fun a ha=>by cases ha⟩
 |cons x es ih=>
  intro ens i0 r hlen hr h
  match ens,hlen with
  |e::ens,hlen=>
   have h0:=hr 0 x e rfl rfl;unfold findKey at h;split at h
   ·rename_i heq
    cases h;refine⟨fun h=>(by cases h),fun a ha=>?_⟩
    cases ha;refine⟨0,e,x.1,?_,rfl,rfl,heq,fun i hi=>by omega⟩
    simp[Instr.findNow,D1 hl heq hk h0 hd]
   ·rename_i heq
    obtain⟨h1,h2⟩:=ih ens (i0+1) r (by simpa using hlen) (fun i x e hx he=>hr (i+1) x e (by simpa using hx) (by simpa using he)) h
    refine⟨fun hn=>?_,fun a ha=>?_⟩
    ·simp[Instr.findNow,D1 hl heq hk h0 hd,h1 hn]
    ·obtain⟨j,e',x',h3,h4,h5,h6,h7⟩:=h2 a ha
     refine⟨j+1,e',x',?_,by simpa using h4,by simpa using h5,h6,?_⟩
     ·simp only[Instr.findNow,D1 hl heq hk h0 hd,h3]
      rw[show i0+1+j=i0+(j+1) by omega]
     ·intro i hi y hy
      cases i with
      |zero=>simp only[NX,bL]at hy;subst hy;exact heq
      |succ i=>exact h7 i (by omega) y (by simpa using hy)
   ·cases h
theorem EW{kt:TypeId}{kl:mg}(hl:mi p kt=some kl):∃d,p.underlying kt=some d:=by
 cases h:p.underlying kt with
 |none=>simp[mi,h]at hl
 |some d=>exact⟨d,rfl⟩
theorem run_findKey{kt:TypeId}{d:TypeDesc}(hd:p.underlying kt=some d){vk:Value}{ens:List MapEntry}{r:Option (Nat×Value)}(h:Instr.findNow d vk ens 0=some r)(w:World):(Instr.findKey kt vk ens).run p w=.ok r w:=by
 simp[Instr.findKey,bp hd,h]
theorem so{α:Type}{off:Nat}{new row r:List α}(h:b9 off new row=some r):off+new.length≤row.length∧r=row.take off++new++row.drop (off+new.length):=by
 unfold b9 at h;split at h
 ·rename_i hle
  simp only[bL]at h;exact⟨hle,h.symm⟩
 ·cases h
theorem pt{α:Type}{off:Nat}{new row r:List α}(h:b9 off new row=some r):r.length=row.length∧∀j,r[j]?=if off≤j∧j<off+new.length then new[j-off]? else row[j]? := by
 obtain⟨h1,rfl⟩:=so h;refine⟨by simp;omega,fun j=>?_⟩
 by_cases hj:j<off
 ·rw[if_neg (by omega),Ux,ym (by simp;omega),UL hj]
 ·by_cases hj2:j<off+new.length
  ·rw[if_pos ⟨by omega,hj2⟩,Ux,CG (by simp;omega),ym (by simp;omega)]
   congr 1
   simp;omega
  ·rw[if_neg (by omega),CG (by simp;omega),abb]
   congr 1
   simp;omega
theorem CY(vs:List Value):∀(off k:Nat) (cs:Array Value) (j:Nat),((vs.zipIdx k).foldl (fun cs x=>cs.setIfInBounds (off+x.2) x.1) cs)[j]?=if off+k≤j∧j<off+k+vs.length∧j<cs.size then vs[j-(off+k)]? else cs[j]? := by
 induction vs with
 |nil=>intro off k cs j;rw[if_neg (by simp;omega)];rfl
 |cons v vs ih=>
  intro off k cs j;rw[List.zipIdx_cons,UM,ih off (k+1)];simp only[Array.size_setIfInBounds,oi,Array.getElem?_setIfInBounds];by_cases h1:j=off+k
  ·subst h1
   rw[if_neg (by omega)]
   by_cases h2:off+k<cs.size
   ·rw[if_pos rfl,if_pos h2,if_pos (by omega)]
    simp
   ·rw[if_pos rfl,if_neg h2,if_neg (by omega),Array.getElem?_eq_none (by omega)]
  ·by_cases h2:off+(k+1)≤j∧j<off+(k+1)+vs.length∧j<cs.size
   ·rw[if_pos h2,if_pos (by omega),show j-(off+k)=(j-(off+(k+1)))+1 by omega,aa6]
   ·rw[if_neg h2,if_neg (by omega),if_neg (by omega)]
theorem KE(vs:List Value):∀(off k:Nat) (cs:Array Value),((vs.zipIdx k).foldl (fun cs x=>cs.setIfInBounds (off+x.2) x.1) cs).size=cs.size:=by
 induction vs with
 |nil=>intro off k cs;rfl
 |cons v vs ih=>intro off k cs;rw[List.zipIdx_cons,UM,ih];simp
structure CF (V:View) (cs:List AV) (vs:Array Value):Prop where
 len:cs.length=vs.size
 rel:∀(i:Nat) (c:AV) (v:Value),cs[i]?=some c→vs[i]?=some v→aV V c v
 one:∀(k:Nat) (v:Value),vs[k]?=some v→v.oneCell'=true
theorem xI{V:View}{size:Nat}{g:Bool}{x:AV}{cs:List AV}(h:cellsOf size g x=some cs){v:Value}(hv:aV V x v):CF V cs v.cells∧(g=true→∃a,v=.agg a)∧(g=false→cs=[x]∧v.cells = #[v]∧v.oneCell'=true)∧(g=true→cs.length=size):=by
 unfold cellsOf at h;cases g with
 |true=>
  simp only[if_true]at h;split at h
  ·rename_i ps
   split at h
   ·rename_i hl
    cases h;obtain⟨vs,rfl,h1,h3,h2⟩:=wg hv (.inr ⟨ps,rfl,rfl⟩);exact⟨⟨by simpa[Value.cells]using h1,fun i c v hc hv=>h2 i c v hc (by simpa[Value.cells]using hv),fun k v hv=>h3 v (mK (by simpa[Value.cells]using hv))⟩,fun _=>⟨_,rfl⟩,by simp,fun _=>by simpa using hl⟩
   ·cases h
  ·rename_i cs'
   split at h
   ·rename_i hl
    cases h;obtain⟨vs,rfl,h1,h3,h2⟩:=wg hv (.inl rfl);exact⟨⟨by simpa[Value.cells]using h1,fun i c v hc hv=>h2 i c v hc (by simpa[Value.cells]using hv),fun k v hv=>h3 v (mK (by simpa[Value.cells]using hv))⟩,fun _=>⟨_,rfl⟩,by simp,fun _=>hl⟩
   ·cases h
  ·cases h
 |false=>
  simp only[nh,if_false]at h
  have one:v.oneCell'=true∧cs=[x]:=by
   split at h<;>first|(cases h;done)|skip
   rename_i h1 h2 h3 h4 h5;refine⟨?_,by cases h;rfl⟩
   cases hv with
   |any=>exact absurd rfl h1
   |p hv=>cases hv<;>first|rfl|exact absurd rfl (h4 _)|exact absurd rfl (h5 _)
   |agg=>exact absurd rfl (h2 _)
   |jO=>exact absurd rfl (h3 _)
   |_=>rfl
  obtain⟨h1,rfl⟩:=one;have hc:v.cells = #[v]:=by cases v<;>first|rfl|(simp[Value.oneCell']at h1)
  refine⟨⟨by simp[hc],fun i c u hc' hu=>?_,fun k u hu=>?_⟩,by simp,fun _=>⟨rfl,hc,h1⟩,by simp⟩
  ·rw[hc]at hu
   cases i with
   |zero=>simp at hc' hu;subst hc';subst hu;exact hv
   |succ i=>simp at hc'
  ·rw[hc]at hu
   cases k with
   |zero=>simp at hu;subst hu;exact h1
   |succ k=>simp at hu
theorem PM{V:View}{place:Nat→Option (Nat×Nat)}:∀(ps:List (Nat×Nat×AV)) (qs:List (Nat×Value)) (cells:List AV) (vc:Array Value) (out:List AV),CF V cells vc→gK cells ps=some out→ps.length=qs.length →
  (∀(i:Nat) (x:Nat×Nat×AV) (y:Nat×Value),ps[i]?=some x→qs[i]?=some y→place y.1=some (x.1,x.2.1)∧aV V x.2.2 y.2)→∃vo,Instr.fill place vc qs=some vo∧CF V out vo:=by
 intro ps
 induction ps with
 |nil=>
  intro qs cells vc out hc h hl _
  match qs,hl with
  | [],_=>
   simp only[gK,bL]at h;subst h;exact⟨vc,rfl,hc⟩
 |cons x ps ih=>
  intro qs cells vc out hc h hl hr
  match qs,hl with
  |y::qs,hl=>
   obtain⟨hpl,hvr⟩:=hr 0 x y rfl rfl;obtain⟨off,size,v⟩:=x;obtain⟨i,u⟩:=y;dsimp only at hpl hvr;unfold gK at h;split at h
   ·rename_i cs hcs
    split at h
    ·rename_i hsz
     simp only[fM]at h;obtain⟨cells',hput,h⟩:=h;obtain⟨⟨h1,h2,h1one⟩,_⟩:=xI hcs hvr;obtain⟨h3,h4⟩:=pt hput;obtain⟨h5,_⟩:=so hput
     have hc':CF V cells' ((u.cells.toList.zipIdx 0).foldl (fun cs x=>cs.setIfInBounds (off+x.2) x.1) vc):=by
      have hul:u.cells.toList.length=cs.length:=by rw[h1];simp
      refine⟨by rw[KE,h3,hc.1],fun j c w hcj hwj=>?_,fun j w hwj=>?_⟩
      ·rw[h4 j]at hcj
       rw[CY]at hwj;by_cases hj:off≤j∧j<off+cs.length
       ·rw[if_pos hj]at hcj
        rw[if_pos (by rw[hul];have:=hc.1;omega)]at hwj
        exact h2 _ c w hcj (by simpa using hwj)
       ·rw[if_neg hj]at hcj
        rw[if_neg (by rw[hul];omega)]at hwj
        exact hc.2 j c w hcj hwj
      ·rw[CY]at hwj
       split at hwj
       ·exact h1one _ w (by simpa using hwj)
       ·exact hc.3 j w hwj
     obtain⟨vo,h6,h7⟩:=ih qs cells' _ out hc' h (by simpa using hl) (fun i x y hx hy=>hr (i+1) x y (by simpa using hx) (by simpa using hy))
     refine⟨vo,?_,h7⟩;have hcsz:u.cells.size=size:=by rw[←h1];exact hsz
     simp only[Instr.fill,hpl]
     have hno:¬(u.cells.size≠size∨off+u.cells.size > vc.size):=by
      rintro(h|h)
      ·exact h hcsz
      ·have e1:=hc.1
       omega
     rw[if_neg (by simpa only[OZ,decide_eq_true_eq]using hno)]
     rw[←h6]
     congr 1
     rw[←Array.foldl_toList];simp
    ·cases h
   ·cases h
theorem Ti:∀(ns:List Int) (acc:ByteArray),ns.foldl (fun r n=>r.push (UInt8.ofNat n.toNat)) acc=⟨acc.data++(ns.map fun n=>UInt8.ofNat n.toNat).toArray⟩
 | [],acc=>by simp
 |n::ns,acc=>by
  rw[UM,Ti ns];simp[ByteArray.push]
def Xw(r:List PV):Option UInt8:=match r with | [.int .u8 n]=>some (UInt8.ofNat n.toNat)|_=>none
theorem Rt:∀{rows:List (List PV)} {bs:List UInt8},omap Xw rows=some bs→∃ns:List Int,rows=ns.map (fun n=>[PV.int .u8 n])∧bs=ns.map fun n=>UInt8.ofNat n.toNat
 | [],bs,h=>by cases h;exact⟨[],rfl,rfl⟩
 |r::rows,bs,h=>by
  simp only[omap]at h;split at h
  ·rename_i b hb
   split at h
   ·rename_i bs' hbs
    cases h;obtain⟨ns,h1,h2⟩:=Rt hbs;unfold Xw at hb;split at hb
    ·rename_i n
     cases hb;exact⟨n::ns,by rw[h1];rfl,by rw[h2];rfl⟩
    ·cases hb
   ·cases h
  ·cases h
theorem XJ(ns:List Int):(ns.map fun n=>[PV.int .u8 n]).flatten=ns.map fun n=>PV.int .u8 n:=by
 induction ns with
 |nil=>rfl
 |cons n ns ih=>simp[ih]
section ops
variable {V:View} {τ:Tm} {nt:Nat} {a:Act} (hT:og V τ nt a.tmps) {o:Oper} {av:AV}
include hT
theorem an8(hS:cE p cq V){s d e:TypeId}{x:Operand}{x':O}(hop:o.op=.convert s d x)(h1:p.underlying s=some (.slice e))(h3:p.underlying e=some (.int .u8))(h2:p.underlying d=some .string)(hx:fD x=some x')(hq:quiet V.σ τ (.b2s x')=some av):∃v,(execOp a.eval o).run p V.w=.ok (.value v) V.w∧aV V av v:=by
 have hv:=bm hT hx;simp only[quiet,fM,gE]at hq;obtain⟨rows,hrows,bs,hbs,rfl⟩:=hq;obtain⟨ns,hr,hb⟩:=Rt (rows:=rows) (bs:=bs) hbs
 have fin:∀(ad:Option Addr) (c:Nat),a.eval x=.slice ad ns.length c→(∀b,ad=some b→(loadCells b ns.length).run p V.w=.ok (ns.map (Value.int .u8)).toArray V.w)→(ad=none→ns=[])→∃v,(execOp a.eval o).run p V.w=.ok (.value v) V.w∧aV V (.p (.str ⟨bs.toArray⟩)) v:=by
  intro ad c he hl h0;refine⟨.string ⟨bs.toArray⟩,?_,.p (.str _)⟩;cases ad with
  |none=>
   have:=h0 rfl;subst this;subst hb;simp[execOp,hop,he,convert,bp h1,bp h2,bp h3,Conv.bytesToString];rfl
  |some b=>
   have hc:=run_bytesToString V.w b ns.length c ns (hl b rfl);rw[Ti]at hc;have e1:(⟨ByteArray.empty.data++(ns.map fun n=>UInt8.ofNat n.toNat).toArray⟩:ByteArray)=⟨bs.toArray⟩:=by rw[hb];simp[ByteArray.empty,ByteArray.emptyWithCapacity];rfl
   rw[e1]at hc;simp[execOp,hop,he,convert,bp h1,bp h2,bp h3,hc]
 have nsv:∀{f:Nat→Value},(∀(k:Nat) (q:PV),rows.flatten[k]?=some q→dw V.w V.ok q (f k))→∀k (hk:k<ns.length),f k=.int .u8 ns[k]:=by
  intro f hf k hk;have:rows.flatten[k]?=some (.int .u8 ns[k]):=by rw[hr,XJ,xF,oh hk];rfl
  have:=hf k _ this;generalize f k=z at this;cases this;rfl
 unfold OO at hrows;split at hrows
 ·rename_i rows' he
  cases hrows;rw[he]at hv;obtain⟨ad,c,e1,hle,hrel⟩:=B9 hv;have hlen:rows.length=ns.length:=by rw[hr];simp
  rw[hlen]at e1;by_cases h0:ns=[]
  ·subst h0
   exact fin ad c e1 (fun b _=>by simp[loadCells,loadCellsFrom]) (fun _=>rfl)
  ·obtain⟨r,off,es,hadd,hok,hes,cv,g1,g2,g3⟩:=hrel (by rw[hr];simpa using h0)
   have hes1:es=1:=by
    obtain⟨n,hn⟩:=abH ns h0;have:=hes [.int .u8 n] (by rw[hr];exact CV.2 ⟨n,hn,rfl⟩)
    simpa using this.symm
   subst hes1;subst hadd;refine fin _ c e1 (fun b hb=>?_) (fun h=>by cases h)
   cases hb
   have hk:=run_loadCells_list (P:=p) V.w ⟨r,off,none⟩ (ns.map (Value.int .u8)) (fun j v hj=>by
    rw[xF,gE]at hj;obtain⟨n,hn,rfl⟩:=hj;obtain⟨hjl,hn⟩:=gu.1 hn;rw[eG,g1 j (by rw[hlen];omega),nsv g3 j hjl,hn])
   rw[bz]at hk;exact hk
 ·rename_i he
  cases hrows;rw[he]at hv
  have:ns=[]:=by
   have:=congrArg List.length hr;simp at this;exact Jm.1 this.symm
  subst this;generalize hev:a.eval x=vx at hv;cases hv with
  |aF ad=>exact fin ad 0 hev (fun b _=>by simp[loadCells,loadCellsFrom]) (fun _=>rfl)
 ·rename_i b n he
  split at hrows
  ·rename_i e9 rows' fr ho
   split at hrows
   ·rename_i hn
    cases hrows;rw[he]at hv;obtain⟨l,hl⟩:=hS.nA ho;have hvec:oT V l e9 (ay rows):=hS.obj b l _ hl ho;have hlen:rows.length=ns.length:=by rw[hr];simp
    generalize hev:a.eval x=vx at hv;cases hv with
    |sl _ _ ad c sh hs hnn hp=>
     have hs':sh=.vec e9 n:=by
      have:View.sh V b=some (.vec e9 n):=by simp[View.sh,ho,Obj.sh,hn]
      rw[this]at hs;exact(abA hs).symm
     obtain⟨ha,hcap⟩:=hp e9 l hs' hl;rw[←hn,hlen]at hev;by_cases h0:ns=[]
     ·subst h0
      exact fin ad c hev (fun b _=>by simp[loadCells,loadCellsFrom]) (fun _=>rfl)
     ·have hes1:e9=1:=by
       obtain⟨m,hm⟩:=abH ns h0;have:=hvec.wide ([.int .u8 m].map .p) (by rw[hr];exact CV.2 ⟨_,CV.2 ⟨m,hm,rfl⟩,rfl⟩)
       simpa using this.symm
      subst hes1;have hpos:0<ns.length:=ab1.2 h0;have hc0:l.cap≠0:=by have:=hvec.cap;simp only[ay,bz]at this;omega
      have ha:=ha hc0;subst ha;cases hb:l.iL with
      |none=>exact absurd (hvec.nil hb) hc0
      |some r=>
       obtain⟨cc,ct,hheap,hsize,hcells⟩:=hvec.cells r hb;have haddr:l.addr=some ⟨r,0,none⟩:=by simp[Loc.addr,hb]
       rw[haddr]at hev;refine fin _ c hev (fun b' hb'=>?_) (fun h=>by cases h)
       cases hb'
       have hk:=run_loadCells_list (P:=p) V.w ⟨r,0,none⟩ (ns.map (Value.int .u8)) (fun j v hj=>by
        rw[xF,gE]at hj;obtain⟨m,hm,rfl⟩:=hj
        have hfl:(ay rows).flatten[j]?=some (.p (.int .u8 m)):=by
         rw[kj,hr,XJ,abW,xF,hm];rfl
        obtain⟨v,v1,_,v3⟩:=hcells j _ hfl
        have hvv:v=.int .u8 m:=by
         cases v3 with
         |p h=>cases h;rfl
        rw[eG,ji hheap,sQ,v1,hvv])
       rw[bz]at hk;exact hk
   ·cases hrows
  ·cases hrows
 ·cases hrows
end ops
theorem zs{t:TypeId}{cs:List AV}(h:zeroCells p t=some cs)(V:View):∃i z,p.info? t=some i∧i.zero=some z∧CF V cs z.cells:=by
 unfold zeroCells at h;simp only[fM]at h;obtain⟨i,hi,z,hz,h⟩:=h;obtain⟨h1,h2⟩:=iP h;refine⟨i,z,hi,hz,⟨by simpa using h1,fun k c v hc hv=>?_,fun k v hv=>?_⟩⟩
 ·obtain⟨b,hb,hab⟩:=h2 k v (by simpa using hv)
  rw[hc,bL]at hb;subst hb;exact(uK hab).1
 ·obtain⟨b,hb,hab⟩:=h2 k v (by simpa using hv)
  exact(uK (V:=V) hab).2
section ops
variable {V:View} {τ:Tm} {nt:Nat} {a:Act} (hT:og V τ nt a.tmps) {o:Oper} {av:AV}
include hT
theorem ahW{t:TypeId}{parts:Array (Nat×Operand)}{zero:List AV}{parts':List (Nat×Nat×O)}(hop:o.op=.build t parts)(hz:zeroCells p t=some zero)(hp:partsOf p t parts=some parts')(hq:quiet V.σ τ (.build zero parts')=some av):∃v,(execOp a.eval o).run p V.w=.ok (.value v) V.w∧aV V av v:=by
 simp only[quiet,gE]at hq;obtain⟨cells,hf,rfl⟩:=hq;obtain⟨i,z,hi,hz',hcr⟩:=zs hz V
 have fin:∀vo,p.built t (parts.map fun(i,x)=>(i,a.eval x)).toList=some vo→CF V cells vo→∃v,(execOp a.eval o).run p V.w=.ok (.value v) V.w∧aV V (w7 cells) v:=by
  intro vo hb hc;refine⟨.agg vo,by simp[execOp,hop,run_build V.w t _ vo hb],?_⟩
  have:=GK (V:=V) (cs:=cells) (vs:=vo.toList) (by simpa using hc.1) (fun v hv=>by
   obtain⟨i,hi⟩:=Xr hv;exact hc.3 i v (by simpa using hi)) (fun i c v h1 h2=>hc.2 i c v h1 (by simpa using h2))
  simpa using this
 unfold partsOf at hp;split at hp
 ·rename_i fs ht
  simp only[fM]at hp;obtain⟨places,hpl,hp⟩:=hp;obtain⟨h1,h2⟩:=iP hp
  obtain⟨vo,h3,h4⟩:=PM (place:=(places.toArray[·]?)) (parts'.map fun x=>(x.1,x.2.1,x.2.2.val τ)) ((parts.map fun(i,x)=>(i,a.eval x)).toList) zero z.cells cells hcr hf (by simp[h1]) (by
   intro k x y hx hy;rw[xF,gE]at hx;obtain⟨x',hx',rfl⟩:=hx;rw[abJ,xF,gE]at hy;obtain⟨y',hy',rfl⟩:=hy;obtain⟨b,hb,hab⟩:=h2 k y' hy';rw[hx',bL]at hb;subst hb;simp only[fM,gE]at hab;obtain⟨pl,hpl',oo,hoo,rfl⟩:=hab;exact⟨by simpa using hpl',bm hT hoo⟩)
  refine fin vo ?_ h4;simp only[Program.built,hi,ht,hz',hpl];exact h3
 ·rename_i n e ht
  simp only[fM]at hp;obtain⟨s,hs,hp⟩:=hp;obtain⟨h1,h2⟩:=iP hp;unfold cI at hs;simp only[gE]at hs;obtain⟨ie,hie,rfl⟩:=hs
  obtain⟨vo,h3,h4⟩:=PM (place:=fun i=>some (i*ie.size,ie.size)) (parts'.map fun x=>(x.1,x.2.1,x.2.2.val τ)) ((parts.map fun(i,x)=>(i,a.eval x)).toList) zero z.cells cells hcr hf (by simp[h1]) (by
   intro k x y hx hy;rw[xF,gE]at hx;obtain⟨x',hx',rfl⟩:=hx;rw[abJ,xF,gE]at hy;obtain⟨y',hy',rfl⟩:=hy;obtain⟨b,hb,hab⟩:=h2 k y' hy';rw[hx',bL]at hb;subst hb;simp only[gE]at hab;obtain⟨oo,hoo,rfl⟩:=hab;exact⟨rfl,bm hT hoo⟩)
  refine fin vo ?_ h4;simp only[Program.built,hi,ht,hz',hie];exact h3
 ·cases hp
theorem afb(hS:cE p cq V){t kt e:TypeId}{kl:mg}{zero:AV}{x k:Operand}{x' k':O}{ok:Bool}(hop:o.op=.lookup t x k ok)(ht:p.underlying t=some (.map kt e))(hl:mi p kt=some kl)(hz:((p.info? e).bind fun i=>i.zero.bind acY)=some zero)(hx:fD x=some x')(hk:fD k=some k')
  (hq:quiet V.σ τ (.lookup kl zero x' k' ok)=some av):∃v,(execOp a.eval o).run p V.w=.ok (.value v) V.w∧aV V av v:=by
 have hv:=bm hT hx;have hkv:=bm hT hk;simp only[quiet]at hq;split at hq
 ·rename_i kp hkp
  rw[hkp]at hkv;have hkr:=hkv.xV;split at hq
  ·rename_i hleaf
   simp only[fM,bL]at hq;obtain⟨r,hr,rfl⟩:=hq;obtain⟨d,hd⟩:=EW hl;simp only[fM]at hz;obtain⟨ie,hie,z,hzz,hz⟩:=hz;have hzrun:(zeroValue e).run p V.w=.ok z V.w:=by simp[zeroValue,typeInfo,hie,hzz]
   have fin:∀(ens:Array MapEntry) (rr:Option (Nat×Value)),((a.eval x=.map none∧ens = #[])∨∃rb clock,a.eval x=.map (some rb)∧V.w.heap[rb]?=some (.map ens clock)) →
     Instr.findNow d (a.eval k) ens.toList 0=some rr→(rr=none→r=none)→(∀j v,rr=some (j,v)→∃c,r=some c∧aV V c v)→∃v,(execOp a.eval o).run p V.w=.ok (.value v) V.w∧aV V (if ok=true then w8 [r.getD zero,.p (.bool r.isSome)]else r.getD zero) v:=by
    intro ens rr he hf h1 h2;have hck:=run_checkKey hl hleaf hkr ens.isEmpty 9999 V.w;have hfk:=run_findKey (p:=p) hd hf V.w
    have out:∀(v:Value) (okv:Bool),aV V (r.getD zero) v→r.isSome=okv→aV V (if ok=true then w8 [r.getD zero,.p (.bool r.isSome)]else r.getD zero) (if ok=true then .tuple #[v,.bool okv]else v):=by
     intro v okv hv1 hv2;cases ok with
     |false=>exact hv1
     |true=>
      simp only[if_true];refine GL (vs:=[v,.bool okv]) rfl fun i c u hc hu=>?_
      match i with
      |0=>simp at hc hu;subst hc;subst hu;exact hv1
      |1=>simp at hc hu;subst hc;subst hu;rw[hv2];exact .p (.bool _)
      |i+2=>simp at hc
    have run:∀(v:Value) (okv:Bool),(match rr with|some (_,v)=>(pure (v,true):Sem (Value×Bool))|none=>pure (z,false)).run p V.w=.ok (v,okv) V.w→(execOp a.eval o).run p V.w=.ok (.value (if ok=true then .tuple #[v,.bool okv]else v)) V.w:=by
     intro v okv hm;rcases he with⟨e1,rfl⟩|⟨rb,clock,e1,hm'⟩
     ·have hck':=run_checkKey hl hleaf hkr true 9999 V.w
      cases rr with
      |none=>
       simp only[Sem.run_pure,Result.ok.injEq,pY,and_true]at hm;obtain⟨rfl,rfl⟩:=hm;have hfk':(Instr.findKey kt (a.eval k) []).run p V.w=.ok none V.w:=hfk;simp[execOp,hop,e1,Instr.lookup,bp ht,hck',hfk',hzrun]
      |some jv=>simp[Instr.findNow]at hf
     ·have hget:(getObj rb).run p V.w=.ok (.map ens clock) V.w:=by simp[getObj,Sem.run,hm']
      cases rr with
      |none=>
       simp only[Sem.run_pure,Result.ok.injEq,pY,and_true]at hm;obtain⟨rfl,rfl⟩:=hm;simp[execOp,hop,e1,Instr.lookup,bp ht,hget,hck,hfk,hzrun]
      |some jv=>
       simp only[Sem.run_pure,Result.ok.injEq,pY,and_true]at hm;obtain⟨rfl,rfl⟩:=hm;simp[execOp,hop,e1,Instr.lookup,bp ht,hget,hck,hfk]
    cases rr with
    |none=>
     have:=h1 rfl;subst this;exact⟨_,run z false rfl,out z false (Q9 hz) rfl⟩
    |some jv=>
     obtain⟨j,v⟩:=jv;obtain⟨c,rfl,hc⟩:=h2 j v rfl;exact⟨_,run v true rfl,out v true hc rfl⟩
   split at hr
   ·rename_i he
    cases hr;rw[he]at hv
    have e1:a.eval x=.map none:=by
     cases hv with
     |p hv=>
      generalize a.eval x=vx at hv;cases hv;rfl
    exact fin #[] none (.inl ⟨e1,rfl⟩) rfl (fun _=>rfl) (by intro j v h;cases h)
   ·rename_i es he
    rw[he]at hv;cases hv with
    |p hv=>
     generalize hvx:a.eval x=vx at hv;cases hv with
     |pmap _ rb en clock hok hm hlen hkk hvv=>
      simp only[gE]at hr;obtain⟨r0,hr0,rfl⟩:=hr;obtain⟨h1,h2⟩:=zK (p:=p) hl hd hkr es en.toList 0 r0 (by simpa using hlen) (fun i x e hx he=>hkk i x e hx (by simpa using he)) hr0
      cases r0 with
      |none=>exact fin en none (.inr ⟨rb,clock,hvx,hm⟩) (h1 rfl) (fun _=>rfl) (by intro j v h;cases h)
      |some c=>
       obtain⟨j,e',x',h3,h4,h5,_⟩:=h2 c rfl;refine fin en (some (0+j,e'.val)) (.inr ⟨rb,clock,hvx,hm⟩) h3 (by intro h;cases h) ?_
       intro j' v h;cases h;exact⟨.p c,rfl,.p (hvv j _ e' h4 (by simpa using h5))⟩
   ·rename_i b he
    rw[he]at hv;split at hr
    ·rename_i es f ho
     generalize hvx:a.eval x=vx at hv;cases hv with
     |map _ rb s hs h=>
      obtain⟨l,hlo⟩:=hS.nA ho;obtain⟨r',en,clock,hb',hm⟩:=hS.obj b l _ hlo ho;have:s=.map:=by simpa[View.sh,ho,Obj.sh]using hs.symm
      have hrr:=h this l hlo;rw[hb',bL]at hrr;subst hrr;obtain⟨h1,h2⟩:=zK (p:=p) hl hd hkr es en.toList 0 r (by simpa using hm.len) (fun i x e hx he=>hm.key i x e hx (by simpa using he)) hr
      cases r with
      |none=>exact fin en none (.inr ⟨r',clock,hvx,hm.heap⟩) (h1 rfl) (fun _=>rfl) (by intro j v h;cases h)
      |some c=>
       obtain⟨j,e',x',h3,h4,h5,_⟩:=h2 c rfl;refine fin en (some (0+j,e'.val)) (.inr ⟨r',clock,hvx,hm.heap⟩) h3 (by intro h;cases h) ?_
       intro j' v h;cases h;exact⟨c,rfl,hm.val j _ e' h4 (by simpa using h5)⟩
    ·cases hr
   ·cases hr
  ·cases hq
 ·cases hq
end ops
theorem afd{V:View}(hS:cE p cq V){τ:Tm}{nt:Nat}{a:Act}(hT:og V τ nt a.tmps){adv:Xm}{o:Oper}{x:lV}(hc:yp p adv o=some x){av:AV}(hq:quiet V.σ τ x=some av) :
  ∃v,(execOp a.eval o).run p V.w=.ok (.value v) V.w∧aV V av v:=by
 unfold yp at hc;cases hop:o.op<;>simp only[hop,Jo,fM,gE,bL,reduceCtorEq]at hc
 case move y=>obtain⟨z,_,rfl⟩:=hc;split at hq<;>simp[quiet]at hq
 case assign y=>obtain⟨z,_,rfl⟩:=hc;split at hq<;>simp[quiet]at hq
 case pick c y z=>obtain⟨c',h1,y',h2,z',h3,rfl⟩:=hc;exact ak9 hT hop h1 h2 h3 hq
 case alloc e=>
  obtain⟨z,_,s,_,hc⟩:=hc;split at hc
  ·cases hc;simp[quiet]at hq
  ·cases hc
 case box e y=>
  obtain⟨s,_,g,_,z,_,hc⟩:=hc;split at hc
  ·cases hc;simp[quiet]at hq
  ·cases hc
 case build t ps=>obtain⟨z,h1,ps',h2,rfl⟩:=hc;exact ahW hT hop h1 h2 hq
 case buildSlice t n ps=>
  obtain⟨e,_,s,_,z,_,ps',_,hc⟩:=hc;split at hc
  ·cases hc;split at hq<;>simp[quiet]at hq
  ·cases hc
 case load t y=>obtain⟨s,h1,g,h2,y',h3,rfl⟩:=hc;exact ak7 hT hS hop h1 h2 h3 hq
 case store t y z=>obtain⟨s,_,y',_,z',_,rfl⟩:=hc;simp[quiet]at hq
 case nilCheck y=>obtain⟨y',h1,rfl⟩:=hc;exact afc hT hop h1 hq
 case binOp op t y z ty=>
  obtain⟨y',h1,z',h2,hc⟩:=hc
  have UD:∀(neg:Bool),op=(if neg then .neq else .eql)→∀fs,p.underlying t=some (.struct fs)→(if p.eqGuardType p.depth t=true then none else(mj p 8 t).bind fun lv=>if cI p t=some lv.length then some (lV.UD neg lv y' z')else none)=some x→∃v,(execOp a.eval o).run p V.w=.ok (.value v) V.w∧aV V av v:=by
   intro neg hneg fs ht hc;split at hc
   ·cases hc
   ·rename_i hg
    simp only[fM]at hc;obtain⟨lv,hlv,hc⟩:=hc;split at hc
    ·rename_i hsz
     cases hc;exact an9 hT (neg:=neg) (by rw[hop,hneg]) (by simpa using hg) hlv (F0 ht) h1 h2 hsz hq
    ·cases hc
  split at hc
  ·split at hc
   ·cases hc;exact Fy hT hop h1 h2 hq
   ·cases hc;exact Fy hT hop h1 h2 hq
   ·rename_i ht;cases hc;exact ajf hT (neg:=false) hop ht h1 h2 hq
   ·rename_i ht
    split at hc
    ·cases hc;exact Yb hT (neg:=false) hop ht h1 h2 hq
    ·cases hc
   ·rename_i fs ht;exact UD false rfl _ ht hc
   ·cases hc
  ·split at hc
   ·cases hc;exact Fy hT hop h1 h2 hq
   ·cases hc;exact Fy hT hop h1 h2 hq
   ·rename_i ht;cases hc;exact ajf hT (neg:=true) hop ht h1 h2 hq
   ·rename_i ht
    split at hc
    ·cases hc;exact Yb hT (neg:=true) hop ht h1 h2 hq
    ·cases hc
   ·rename_i fs ht;exact UD true rfl _ ht hc
   ·cases hc
  ·cases hc;exact Fy hT hop h1 h2 hq
 case unOp op t y=>
  obtain⟨y',h1,hc⟩:=hc;split at hc
  ·cases hc;exact aoc hT hop h1 hq
  ·cases hc;exact aob hT hop h1 hq
  ·cases hc;exact ahX hT hop h1 hq
  ·cases hc
 case convert s d y=>
  obtain⟨y',h1,hc⟩:=hc;split at hc
  ·rename_i hs hd;cases hc;exact ak0 hT hop hs hd h1 hq
  ·rename_i hs hd;cases hc;exact ahY hT hop hs hd h1 hq
  ·rename_i hs hd
   split at hc
   ·rename_i he;cases hc;exact an8 hT hS hop hs he hd h1 hq
   ·cases hc
  ·cases hc
 case makeFunc fn first caps=>
  cases fn<;>simp only[reduceCtorEq]at hc
  rename_i f;split at hc
  ·rename_i hf
   simp only[fM,bL]at hc;obtain⟨caps',h1,rfl⟩:=hc;have:first = #[]:=by simpa using hf
   subst this;exact ak8 hT hop h1 hq
  ·cases hc
 case makeMap t r=>
  cases r<;>simp only[reduceCtorEq,bL]at hc
  subst hc;simp[quiet]at hq
 case makeSlice t l c=>
  obtain⟨e,_,s,_,z,_,b,_,l',_,c',_,hc⟩:=hc;split at hc
  ·cases hc;simp[quiet]at hq
  ·cases hc
 case slice t y lo hi mx=>
  obtain⟨y',h1,lo',h2,hi',h3,mx',h4,hc⟩:=hc;split at hc
  ·rename_i ht
   split at hc
   ·cases hc
   ·rename_i hm
    cases hc;have:mx=none:=by cases mx with|none=>rfl|some z=>simp[Bt]at h4;obtain⟨_,_,rfl⟩:=h4;simp at hm
    subst this;exact alb hT hop ht h1 h2 h3 hq
  ·rename_i ht
   simp only[fM,bL]at hc;obtain⟨s,hs,rfl⟩:=hc;exact ala hT hop ht hs h1 h2 h3 h4 hq
  ·simp only[fM]at hc
   obtain⟨s,hs,hc⟩:=hc;split at hc
   ·cases hc;simp[quiet]at hq
   ·cases hc
  ·cases hc
 case fieldAddr t y f=>
  obtain⟨fd,h1,s,h2,hc⟩:=hc;split at hc
  ·cases hc
  ·rename_i h0
   simp only[fM,bL]at hc;obtain⟨y',h3,rfl⟩:=hc;exact ak1 hT hop h1 h2 h0 h3 hq
 case field t y f=>obtain⟨fd,h1,s,h2,g,h3,y',h4,rfl⟩:=hc;exact aoa hT hop h1 h2 h3 h4 hq
 case indexAddr t y i=>
  split at hc
  ·rename_i ht
   simp only[fM,bL]at hc;obtain⟨s,h1,y',h2,i',h3,rfl⟩:=hc;exact ahZ hT hop ht h1 h2 h3 hq
  ·rename_i ht
   simp only[fM,bL]at hc;obtain⟨s,h1,y',h2,i',h3,rfl⟩:=hc;exact ah0 hT hS hop ht h1 h2 h3 hq
  ·cases hc
 case index t y i=>
  split at hc
  ·rename_i ht
   simp only[fM,bL]at hc;obtain⟨s,h1,g,h2,y',h3,i',h4,rfl⟩:=hc;exact ak2 hT hop ht h1 h2 h3 h4 hq
  ·rename_i ht
   simp only[fM,bL]at hc;obtain⟨y',h3,i',h4,rfl⟩:=hc;exact ak3 hT hop ht h3 h4 hq
  ·cases hc
 case lookup t y i ok=>
  split at hc
  ·rename_i ht
   simp only[fM,bL]at hc;obtain⟨kl,h1,z,⟨ie,hie,hz⟩,y',h3,i',h4,rfl⟩:=hc;exact afb hT hS hop ht h1 (by simp only[fM];exact⟨ie,hie,hz⟩) h3 h4 hq
  ·cases hc
 case mapUpdate t m k v=>
  split at hc
  ·simp only[fM,bL]at hc
   obtain⟨kl,_,m',_,k',_,v',_,rfl⟩:=hc;simp[quiet]at hq
  ·cases hc
 case extract y k=>obtain⟨y',h1,rfl⟩:=hc;exact ZR hT hop h1 hq
 case call c=>
  cases hcal:c.callee<;>simp only[hcal,reduceCtorEq]at hc
  case value f=>
   cases f<;>simp only[fM,bL]at hc
   case func f=>obtain⟨as,_,rfl⟩:=hc;split at hq<;>simp[quiet]at hq
   all_goals
    obtain⟨y,_,as,_,rfl⟩:=hc;simp[quiet]at hq
  case builtin b=>
   cases b<;>simp only[reduceCtorEq,fM,bL]at hc
   case len=>
    have typ:∀d,c.argTypes[0]?.bind p.underlying=some d→∃t,c.argTypes[0]?=some t∧p.underlying t=some d:=fun d h=>by simpa only[fM]using h
    split at hc
    ·rename_i h1 h2
     cases hc;obtain⟨t,h3,h4⟩:=typ _ h1;exact afa hop hcal h3 (.inl h4) h2 hq
    ·rename_i h1 h2
     obtain⟨t,h3,h4⟩:=typ _ h1;split at hc
     ·rename_i h5
      cases hc;exact afa hop hcal h3 (.inr ⟨_,h4,h5⟩) h2 hq
     ·cases hc
    ·rename_i h1 h2
     simp only[gE]at hc;obtain⟨y',h5,rfl⟩:=hc;obtain⟨t,h3,h4⟩:=typ _ h1;exact ak6 hT hop hcal h3 h4 h2 h5 hq
    ·rename_i h1 h2
     simp only[gE]at hc;obtain⟨y',h5,rfl⟩:=hc;obtain⟨t,h3,h4⟩:=typ _ h1;exact ak5 hT hop hcal h3 h4 h2 h5 hq
    ·rename_i h1 h2
     simp only[gE]at hc;obtain⟨y',h5,rfl⟩:=hc;obtain⟨t,h3,h4⟩:=typ _ h1;exact ak4 hT hS hop hcal h3 h4 h2 h5 hq
    ·cases hc
   case append=>
    split at hc
    ·split at hc
     ·cases hc
     ·simp only[fM]at hc
      obtain⟨s,_,b,_,z,_,y,_,y',_,hc⟩:=hc;split at hc
      ·cases hc;simp[quiet]at hq
      ·cases hc
    ·cases hc
   case min=>obtain⟨as,h1,rfl⟩:=hc;exact Tq hT (mx:=false) hop hcal h1 hq
   case max=>obtain⟨as,h1,rfl⟩:=hc;exact Tq hT (mx:=true) hop hcal h1 hq
end Go.AE
