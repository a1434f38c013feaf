import Derived.Test.YtojhplpninjplaaGreatA0
import Derived.Laws.Build
import Derived.Laws.StructEq
import Derived.Laws.BytesString
namespace Go.AE
variable {p:Program} {cq:FuncId→Bool}
theorem run_size {t:TypeId} {s:Nat} (h:tySize p t=some s) (w:World):(sizeOf t).run p w=.ok s w:=by
  unfold tySize at h
  simp only [Option.map_eq_some_iff] at h
  obtain ⟨i,hi,rfl⟩:=h
  simp [sizeOf,typeInfo,hi]
theorem run_under {t:TypeId} {d:TypeDesc} (h:p.underlying t=some d) (w:World):(underlying t).run p w=.ok d w:=by
  simp [underlying,h]
theorem run_agg {t:TypeId} {g:Bool} (h:tyAgg p t=some g) (w:World):(isAgg t).run p w=.ok g w:=by
  unfold tyAgg at h
  simp only [Option.map_eq_some_iff] at h
  obtain ⟨d,hd,rfl⟩:=h
  simp only [isAgg,Sem.run_bind,run_under hd,Result.andThen_ok]
  cases d<;>rfl
theorem absP_rel {V:View} {v:Value} {q:PV} (h:absP v=some q):PRel V.w V.ok q v:=by
  cases v<;>simp [absP] at h
  · subst h;exact .bool _
  · subst h;exact .int _ _
  · subst h;exact .str _
  · rename_i a;cases a<;>simp at h;subst h;exact .nilp
  · rename_i r;cases r<;>simp at h;subst h;exact .nilm
  · subst h;exact .nilf
theorem absP_one {v:Value} {q:PV} (h:absP v=some q):v.oneCell'=true:=by
  cases v<;>first | rfl | (simp [absP] at h)
theorem absCell_rel {V:View} {v:Value} {c:AV} (h:absCell v=some c):VRel V c v∧v.oneCell'=true:=by
  unfold absCell at h
  split at h
  · simp only [Option.some.injEq] at h;subst h;exact ⟨.nils none,rfl⟩
  · simp only [Option.map_eq_some_iff] at h
    obtain ⟨q,hq,rfl⟩:=h
    exact ⟨.p (absP_rel hq),absP_one hq⟩
theorem allP_some:∀ {cs:List AV} {ps:List PV},allP cs=some ps→cs=ps.map .p
  | [],ps,h=>by simp only [allP,Option.some.injEq] at h;subst h;rfl
  | a :: cs,ps,h=>by
    cases a<;>simp only [allP] at h<;>first | (simp at h;done) | skip
    simp only [Option.map_eq_some_iff] at h
    obtain ⟨qs,hq,rfl⟩:=h
    rw [allP_some hq];rfl
theorem mkAgg_rel {V:View} {cs:List AV} {vs:List Value} (hl:cs.length=vs.length) (h1:∀ v∈vs,v.oneCell'=true) (h:∀ (i:Nat) (c:AV) (v:Value),cs[i]? = some c→vs[i]? = some v→VRel V c v):VRel V (mkAgg cs) (.agg vs.toArray):=by
  unfold mkAgg
  split
  · rename_i ps hps
    have:=allP_some hps
    subst this
    refine .p (.agg ps vs (by simpa using hl) h1 fun i q v hq hv=>(h i (.p q) v (by simp [hq]) hv).p_inv)
  · exact .agg cs vs hl h1 h
theorem mkTup_rel {V:View} {cs:List AV} {vs:List Value} (hl:cs.length=vs.length) (h:∀ (i:Nat) (c:AV) (v:Value),cs[i]? = some c→vs[i]? = some v→VRel V c v):VRel V (mkTup cs) (.tuple vs.toArray):=by
  unfold mkTup
  split
  · rename_i ps hps
    have:=allP_some hps
    subst this
    refine .p (.tup ps vs (by simpa using hl) fun i q v hq hv=>(h i (.p q) v (by simp [hq]) hv).p_inv)
  · exact .tup cs vs hl h
theorem mkFn_rel {V:View} {f:FuncId} {cs:List AV} {vs:List Value} (hl:cs.length=vs.length) (h:∀ (i:Nat) (c:AV) (v:Value),cs[i]? = some c→vs[i]? = some v→VRel V c v):VRel V (mkFn f cs) (.func (.func f) #[] vs.toArray):=by
  unfold mkFn
  split
  · rename_i ps hps
    have:=allP_some hps
    subst this
    refine .p (.fn f ps vs (by simpa using hl) fun i q v hq hv=>(h i (.p q) v (by simp [hq]) hv).p_inv)
  · exact .fn f cs vs hl h
theorem absV_rel {V:View} {v:Value} {c:AV} (h:absV v=some c):VRel V c v:=by
  unfold absV at h
  split at h
  · rename_i cs
    simp only [Option.map_eq_some_iff] at h
    obtain ⟨as,ha,rfl⟩:=h
    obtain ⟨h1,h2⟩:=omap_some ha
    have:=mkAgg_rel (V:=V) (cs:=as) (vs:=cs.toList) h1 (fun v hv=>by
      obtain ⟨i,hi⟩:=List.getElem?_of_mem hv
      obtain ⟨b,_,hab⟩:=h2 i v hi
      exact (absCell_rel (V:=V) hab).2) (fun i c v hc hv=>by
      obtain ⟨b,hb,hab⟩:=h2 i v hv
      rw [hc,Option.some.injEq] at hb
      subst hb
      exact (absCell_rel hab).1)
    simpa using this
  · exact (absCell_rel h).1
theorem opd_rel {V:View} {τ:Tm} {nt:Nat} {a:Act} (ht:TRel V τ nt a.tmps) {o:Operand} {x:O} (h:opd o=some x):VRel V (x.val τ) (a.eval o):=by
  cases o with
  | tmp t=>simp only [opd,Option.some.injEq] at h;subst h;exact ht.get t
  | const v=>
    simp only [opd,Option.map_eq_some_iff] at h
    obtain ⟨c,hc,rfl⟩:=h
    exact absV_rel hc
  | global g=>simp [opd] at h
  | func f=>
    simp only [opd,Option.some.injEq] at h
    subst h
    exact .p (.fn f [] [] rfl (by simp))
theorem opds_rel {V:View} {τ:Tm} {nt:Nat} {a:Act} (ht:TRel V τ nt a.tmps) {os:List Operand} {xs:List O} (h:omap opd os=some xs) :
    (xs.map (·.val τ)).length=(os.map a.eval).length∧∀ (i:Nat) (c:AV) (v:Value),(xs.map (·.val τ))[i]? = some c→(os.map a.eval)[i]? = some v→VRel V c v:=by
  obtain ⟨h1,h2⟩:=omap_some h
  refine ⟨by simp [h1],fun i c v hc hv=>?_⟩
  rw [List.getElem?_map,Option.map_eq_some_iff] at hc hv
  obtain ⟨x,hx,rfl⟩:=hc
  obtain ⟨o,ho,rfl⟩:=hv
  obtain ⟨b,hb,hab⟩:=h2 i o ho
  rw [hx,Option.some.injEq] at hb
  subst hb
  exact opd_rel ht hab
theorem VRel.int_inv {V:View} {k:IntKind} {n:Int} {v:Value} (h:VRel V (.p (.int k n)) v):v=.int k n:=by cases h with | p h=>cases h;rfl
theorem VRel.bool_inv {V:View} {b:Bool} {v:Value} (h:VRel V (.p (.bool b)) v):v=.bool b:=by cases h with | p h=>cases h;rfl
theorem VRel.str_inv {V:View} {s:ByteArray} {v:Value} (h:VRel V (.p (.str s)) v):v=.string s:=by cases h with | p h=>cases h;rfl
theorem boolOf_rel {V:View} {x:AV} {v:Value} {b:Bool} (h:boolOf x=some b) (hv:VRel V x v):v=.bool b:=by
  unfold boolOf at h
  split at h<;>simp at h
  subst h
  exact hv.bool_inv
theorem natOf_rel {V:View} {x:AV} {v:Value} {n:Nat} (h:natOf x=some n) (hv:VRel V x v):∃ k,v=.int k n:=by
  unfold natOf at h
  split at h
  · split at h
    · rename_i k m hm
      simp only [Option.some.injEq] at h
      subst h
      exact ⟨k,by rw [hv.int_inv,Int.toNat_of_nonneg hm]⟩
    · simp at h
  · simp at h
theorem part_some {α:Type} {off size:Nat} {row r:List α} (h:part off size row=some r):off+size≤row.length∧r=(row.drop off).take size:=by
  unfold part at h
  split at h
  · rename_i hle
    simp only [Option.some.injEq] at h
    exact ⟨hle,h.symm⟩
  · simp at h
theorem part_get {α:Type} {off size:Nat} {row r:List α} (h:part off size row=some r):r.length=size∧∀ j,j<size→r[j]? = row[off+j]? := by
  obtain ⟨h1,rfl⟩:=part_some h
  refine ⟨by simp;omega,fun j hj=>?_⟩
  rw [List.getElem?_take_of_lt hj,List.getElem?_drop]
theorem part_map {α β:Type} (f:α→β) (off size:Nat) (row:List α):part off size (row.map f)=(part off size row).map (List.map f):=by
  unfold part
  simp only [List.length_map]
  split<;>simp [List.map_take,List.map_drop]
theorem ofCells_rel {V:View} {agg:Bool} {cs:List AV} {x:AV} (h:ofCells agg cs=some x) {vs:List Value} (hl:cs.length=vs.length) (h1:∀ v∈vs,v.oneCell'=true) (hr:∀ (i:Nat) (c:AV) (v:Value),cs[i]? = some c→vs[i]? = some v→VRel V c v) :
    VRel V x (if agg then .agg vs.toArray else vs.headD undef)∧(agg=false→cs.length=1):=by
  unfold ofCells at h
  cases agg with
  | true=>
    simp only [if_true,Option.some.injEq] at h ⊢
    subst h
    exact ⟨mkAgg_rel hl h1 hr,by simp⟩
  | false=>
    simp only [Bool.false_eq_true,if_false] at h ⊢
    split at h
    · rename_i v
      simp only [Option.some.injEq] at h
      subst h
      match vs,hl with
      | [u],_=>exact ⟨hr 0 v u rfl rfl,fun _=>rfl⟩
    · simp at h
theorem ofCellsP_eq (agg:Bool) (cs:List PV):(ofCellsP agg cs).map AV.p=ofCells agg (cs.map .p):=by
  unfold ofCellsP ofCells
  cases agg with
  | true=>
    have:∀ cs:List PV,allP (cs.map .p)=some cs:=by intro cs;induction cs with | nil=>rfl | cons a r ih=>simp [allP,ih]
    simp [mkAgg,this]
  | false=>
    simp only [Bool.false_eq_true,if_false]
    match cs with
    | []=>rfl
    | [v]=>rfl
    | _ :: _ :: _=>rfl
theorem run_loadAt_cells {V:View} {t:TypeId} {s:Nat} {g:Bool} (hs:tySize p t=some s) (hg:tyAgg p t=some g) {r off:Nat} {vs:List Value} (hl:vs.length=s) (h1:g=false→s=1)
    (hc:∀ j v,vs[j]? = some v→V.w.cell? ⟨r,off+j,none⟩=some v):(Instr.loadAt t (.pointer (some ⟨r,off,none⟩))).run p V.w=.ok (if g then .agg vs.toArray else vs.headD undef) V.w:=by
  have hadd:∀ j,(Addr.mk r off none).add j=⟨r,off+j,none⟩:=by
    intro j
    unfold Addr.add
    split
    · rename_i h;subst h;rfl
    · rfl
  simp only [Instr.loadAt,Instr.sureAddr,Sem.run_bind,Sem.run_pure,Result.andThen_ok,loadVar,run_agg hg]
  cases g with
  | true=>
    simp only [if_true,Sem.run_bind,run_size hs,Result.andThen_ok]
    have:=run_loadCells_list (P:=p) (w:=V.w) ⟨r,off,none⟩ vs (fun j v hv=>by rw [hadd];exact hc j v hv)
    rw [hl] at this
    simp [this]
  | false=>
    have hs1:=h1 rfl
    match vs,hl with
    | [u],_=>
      have:=hc 0 u rfl
      simp only [Nat.add_zero] at this
      simp [this]
    | [],hl=>simp at hl;omega
    | _ :: _ :: _,hl=>simp at hl;omega
theorem loadV_ok {V:View} (hS:SRel p cq V) {t:TypeId} {s:Nat} {g:Bool} (hs:tySize p t=some s) (hg:tyAgg p t=some g) {a x:AV} {av:Value} (h:loadV V.σ s g a=some x) (ha:VRel V a av) :
    ∃ v,(Instr.loadAt t av).run p V.w=.ok v V.w∧VRel V x v:=by
  unfold loadV at h
  split at h
  · rename_i row o
    rw [Option.map_bind] at h
    simp only [Function.comp_def,ofCellsP_eq,Option.bind_eq_some_iff] at h
    obtain ⟨cs,hcs,hx⟩:=h
    obtain ⟨hl,hget⟩:=part_get hcs
    cases ha with
    | p ha=>
      cases ha with
      | ptr _ _ r off cv hok hcell hone hrel=>
        obtain ⟨hle,_⟩:=part_some hcs
        have hvs:∀ (i:Nat) (c:AV) (v:Value),(cs.map AV.p)[i]? = some c→((List.range s).map fun j=>cv (o+j))[i]? = some v→VRel V c v:=by
          intro i c v hc hv
          rw [List.getElem?_map,Option.map_eq_some_iff] at hc hv
          obtain ⟨q,hq,rfl⟩:=hc
          obtain ⟨j,hj,rfl⟩:=hv
          have hi:i<s:=by have:=(List.getElem?_eq_some_iff.1 hq).1;omega
          rw [List.getElem?_range hi,Option.some.injEq] at hj
          subst hj
          rw [hget i hi] at hq
          exact .p (hrel _ _ hq)
        obtain ⟨h1,h2⟩:=ofCells_rel hx (vs:=(List.range s).map fun j=>cv (o+j)) (by simp [hl]) (fun v hv=>by
          obtain ⟨j,hj,rfl⟩:=List.mem_map.1 hv
          exact hone _ (by have:=List.mem_range.1 hj;omega)) hvs
        refine ⟨_,?_,h1⟩
        refine run_loadAt_cells hs hg (by simp) (fun e=>by have:=h2 e;simp [hl] at this;exact this) ?_
        intro j v hv
        rw [List.getElem?_map,Option.map_eq_some_iff] at hv
        obtain ⟨j',hj',rfl⟩:=hv
        have hj:j<s:=by have:=(List.getElem?_eq_some_iff.1 hj').1;simpa using this
        rw [List.getElem?_range hj,Option.some.injEq] at hj'
        subst hj'
        have:=hcell (o+j) (by omega)
        rw [show off+o+j=off+(o+j) by omega]
        exact this
  · rename_i b n i o
    have main:∀ (ob:Obj) (es:Nat) (rows:List (List AV)) (l:Loc),V.σ[b]? = some ob→ob.sh=.vec es rows.length→V.own[b]? = some l→VecOk V l es rows→rows.length=n→(rows[i]?.bind (part o s)).bind (ofCells g)=some x →
        ∃ v,(Instr.loadAt t av).run p V.w=.ok v V.w∧VRel V x v:=by
      intro ob es rows l ho hsh hl hvec hlen hx
      simp only [Option.bind_eq_some_iff] at hx
      obtain ⟨cs,⟨row,hrow,hcs⟩,hx⟩:=hx
      obtain ⟨hcl,hget⟩:=part_get hcs
      obtain ⟨hle,_⟩:=part_some hcs
      cases ha with
      | ptr _ _ _ _ a s' hs' hn hp=>
        have hse:s'=.vec es n:=by
          rw [← hlen,← hsh]
          simpa [View.sh,ho] using hs'.symm
        have hil:i<rows.length:=(List.getElem?_eq_some_iff.1 hrow).1
        obtain ⟨r,hb,rfl⟩:=hp es l hse hl (by omega)
        obtain ⟨cc,tt,hheap,hsize,hcells⟩:=hvec.cells r hb
        have cell:∀ j c,j<s→cs[j]? = some c→∃ v,cc[i*es+(o+j)]? = some v∧VRel V c v∧v.oneCell'=true:=by
          intro j c hj hc
          rw [hget j hj] at hc
          have hfx:=flatten_get hvec.wide hrow hc
          obtain ⟨v,hv1,hv2,hv3⟩:=hcells _ _ hfx
          exact ⟨v,hv1,hv3,hv2⟩
        have hvs:∀ (j:Nat) (c:AV) (v:Value),cs[j]? = some c→((List.range s).map fun j=>cc.getD (i*es+(o+j)) undef)[j]? = some v→VRel V c v:=by
          intro j c v hc hv
          rw [List.getElem?_map,Option.map_eq_some_iff] at hv
          obtain ⟨j',hj',rfl⟩:=hv
          have hj:j<s:=by have:=(List.getElem?_eq_some_iff.1 hc).1;omega
          rw [List.getElem?_range hj,Option.some.injEq] at hj'
          subst hj'
          obtain ⟨v,hv1,hv2,_⟩:=cell j c hj hc
          simp only [Array.getD_eq_getD_getElem?,hv1,Option.getD_some]
          exact hv2
        obtain ⟨h1,h2⟩:=ofCells_rel hx (vs:=(List.range s).map fun j=>cc.getD (i*es+(o+j)) undef) (by simp [hcl]) (fun v hv=>by
          obtain ⟨j,hj,rfl⟩:=List.mem_map.1 hv
          obtain ⟨u,hu1,_,hu3⟩:=cell j (cs[j]'(by have:=List.mem_range.1 hj;omega)) (List.mem_range.1 hj) (List.getElem?_eq_getElem _)
          simp only [Array.getD_eq_getD_getElem?,hu1,Option.getD_some]
          exact hu3) hvs
        refine ⟨_,?_,h1⟩
        refine run_loadAt_cells hs hg (by simp) (fun e=>by have:=h2 e;omega) ?_
        intro j v hv
        rw [List.getElem?_map,Option.map_eq_some_iff] at hv
        obtain ⟨j',hj',rfl⟩:=hv
        have hj:j<s:=by have:=(List.getElem?_eq_some_iff.1 hj').1;simpa using this
        rw [List.getElem?_range hj,Option.some.injEq] at hj'
        subst hj'
        obtain ⟨v,hv1,_⟩:=cell j (cs[j]'(by omega)) hj (List.getElem?_eq_getElem _)
        rw [cell_row hheap,show i*es+o+j=i*es+(o+j) by omega,hv1]
        simp [Array.getD_eq_getD_getElem?,hv1]
    cases ho:V.σ[b]? with
    | none=>simp [ho] at h
    | some ob=>
      obtain ⟨l,hl⟩:=hS.own_of ho
      have hor:=hS.obj b l ob hl ho
      cases ob with
      | pv es rows f=>
        simp only [ho] at h
        split at h
        · rename_i hlen
          refine main _ es (rowsAV rows) l ho (by simp [Obj.sh,rowsAV]) hl hor (by simp [rowsAV,hlen]) ?_
          rw [Option.map_bind] at h
          simp only [Function.comp_def,ofCellsP_eq] at h
          rw [show (rowsAV rows)[i]? = rows[i]?.map (List.map .p) by simp [rowsAV]]
          cases hr:rows[i]? with
          | none=>simp [hr] at h
          | some row=>
            simp only [hr,Option.bind_some,Option.map_some] at h ⊢
            rw [part_map]
            cases hp:part o s row with
            | none=>simp [hp] at h
            | some cs=>simpa [hp] using h
        · simp at h
      | av es rows f=>
        simp only [ho] at h
        split at h
        · rename_i hlen
          exact main _ es rows l ho rfl hl hor hlen h
        · simp at h
      | map=>simp [ho] at h
      | loop=>simp [ho] at h
      | gone=>simp [ho] at h
  · simp at h
def scal:PV→Value
  | .int k n=>.int k n
  | .bool b=>.bool b
  | .str s=>.string s
  | _=>undef
theorem intOp_ok {op:BinOp} {k:IntKind} {a b:Int} {q:PV} (h:intOp op k a b=some q) (t:TypeId) (w:World) (hs:op≠.shl∧op≠.shr):∃ v,(binOp op t (.int k a) (.int k b)).run p w=.ok v w∧∀ V:View,PRel V.w V.ok q v:=by
  refine ⟨scal q,?_⟩
  cases op<;>simp only [intOp] at h
  case shl=>simp at hs
  case shr=>simp at hs
  case quo=>
    split at h
    · cases h
    · rename_i hb
      cases h
      exact ⟨by simp [binOp,Op.intDiv,hb,scal],fun V=>.int _ _⟩
  case rem=>
    split at h
    · cases h
    · rename_i hb
      cases h
      exact ⟨by simp [binOp,Op.intDiv,hb,scal],fun V=>.int _ _⟩
  case add=>cases h;exact ⟨by simp [binOp,Op.intArith,scal],fun V=>.int _ _⟩
  case sub=>cases h;exact ⟨by simp [binOp,Op.intArith,scal],fun V=>.int _ _⟩
  case mul=>cases h;exact ⟨by simp [binOp,Op.intArith,scal],fun V=>.int _ _⟩
  case and=>cases h;exact ⟨by simp [binOp,Op.intBits,scal],fun V=>.int _ _⟩
  case or=>cases h;exact ⟨by simp [binOp,Op.intBits,scal],fun V=>.int _ _⟩
  case xor=>cases h;exact ⟨by simp [binOp,Op.intBits,scal],fun V=>.int _ _⟩
  case andNot=>cases h;exact ⟨by simp [binOp,Op.intBits,scal],fun V=>.int _ _⟩
  case eql=>cases h;exact ⟨by simp [binOp,Op.intCmp,scal],fun V=>.bool _⟩
  case neq=>cases h;exact ⟨by simp [binOp,Op.intCmp,scal],fun V=>.bool _⟩
  case lss=>cases h;exact ⟨by simp [binOp,Op.intCmp,scal],fun V=>.bool _⟩
  case leq=>cases h;exact ⟨by simp [binOp,Op.intCmp,scal],fun V=>.bool _⟩
  case gtr=>cases h;exact ⟨by simp [binOp,Op.intCmp,scal],fun V=>.bool _⟩
  case geq=>cases h;exact ⟨by simp [binOp,Op.intCmp,scal],fun V=>.bool _⟩
theorem shiftOp_ok {op:BinOp} {k k':IntKind} {a b:Int} {q:PV} (h:shiftOp op k a b=some q) (t:TypeId) (w:World):∃ v,(binOp op t (.int k a) (.int k' b)).run p w=.ok v w∧∀ V:View,PRel V.w V.ok q v:=by
  unfold shiftOp at h
  refine ⟨scal q,?_⟩
  split at h
  · cases h
  · rename_i hb
    cases op<;>simp only [] at h
    case shl=>cases h;exact ⟨by simp [binOp,Op.shift,hb,scal],fun V=>.int _ _⟩
    case shr=>cases h;exact ⟨by simp [binOp,Op.shift,hb,scal],fun V=>.int _ _⟩
    all_goals cases h
theorem strOp_ok {op:BinOp} {a b:ByteArray} {q:PV} (h:strOp op a b=some q) (t:TypeId) (w:World):∃ v,(binOp op t (.string a) (.string b)).run p w=.ok v w∧∀ V:View,PRel V.w V.ok q v:=by
  refine ⟨scal q,?_⟩
  cases op<;>simp only [strOp] at h
  case add=>
    split at h
    · cases h
    · rename_i hb
      cases h
      refine ⟨?_,fun V=>.str _⟩
      simp only [binOp,Op.stringOp]
      rw [if_neg hb]
      rfl
  case eql=>cases h;exact ⟨rfl,fun V=>.bool _⟩
  case neq=>cases h;exact ⟨rfl,fun V=>.bool _⟩
  case lss=>cases h;exact ⟨rfl,fun V=>.bool _⟩
  case leq=>cases h;exact ⟨rfl,fun V=>.bool _⟩
  case gtr=>cases h;exact ⟨rfl,fun V=>.bool _⟩
  case geq=>cases h;exact ⟨rfl,fun V=>.bool _⟩
  all_goals cases h
theorem eqGuard_scalar {op:BinOp} {t:TypeId} {x y:Operand} {a b:Value} (ha:a≠.nilIface) (hb:∀ cs,a≠.agg cs) (w:World):(eqGuard op t x y a b).run p w=.ok () w:=by
  cases op<;>first
    | rfl
    | (cases a<;>first
        | exact absurd rfl ha
        | exact absurd rfl (hb _)
        | rfl
        | (cases b<;>rfl))
theorem arith_ok {op:BinOp} {q r:PV} {z:PV} (h:binop op q r=some z) {V:View} {va vb:Value} (ha:PRel V.w V.ok q va) (hb:PRel V.w V.ok r vb) (t:TypeId) (x y:Operand) (w:World) :
    ∃ v,(do eqGuard op t x y va vb;binOp op t va vb:Sem Value).run p w=.ok v w∧PRel V.w V.ok z v:=by
  unfold binop at h
  split at h
  · rename_i k a k' b
    cases ha;cases hb
    have hg:=eqGuard_scalar (p:=p) (op:=op) (t:=t) (x:=x) (y:=y) (a:=.int k a) (b:=.int k' b) (by simp) (by simp) w
    simp only [Sem.run_bind,hg,Result.andThen_ok]
    split at h
    · obtain ⟨v,h1,h2⟩:=shiftOp_ok (p:=p) (k':=k') h t w
      exact ⟨v,h1,h2 V⟩
    · obtain ⟨v,h1,h2⟩:=shiftOp_ok (p:=p) (k':=k') h t w
      exact ⟨v,h1,h2 V⟩
    · rename_i h1 h2
      split at h
      · rename_i hk
        subst hk
        obtain ⟨v,h3,h4⟩:=intOp_ok (p:=p) h t w ⟨h1,h2⟩
        exact ⟨v,h3,h4 V⟩
      · simp at h
  · rename_i a b
    cases ha;cases hb
    have hg:=eqGuard_scalar (p:=p) (op:=op) (t:=t) (x:=x) (y:=y) (a:=.string a) (b:=.string b) (by simp) (by simp) w
    simp only [Sem.run_bind,hg,Result.andThen_ok]
    obtain ⟨v,h1,h2⟩:=strOp_ok (p:=p) h t w
    exact ⟨v,h1,h2 V⟩
  · simp at h
theorem leafOf_int {t:TypeId} (h:leafOf p t=some .int):∃ k,p.underlying t=some (.int k):=by
  unfold leafOf at h;split at h<;>simp at h;exact ⟨_,by assumption⟩
theorem leafOf_str {t:TypeId} (h:leafOf p t=some .str):p.underlying t=some .string:=by
  unfold leafOf at h;split at h<;>simp at h;assumption
theorem leafOf_bool {t:TypeId} (h:leafOf p t=some .bool):p.underlying t=some .bool:=by
  unfold leafOf at h;split at h<;>simp at h;assumption
theorem eqLeaf_ok {l:Leaf} {a b:PV} {r:Bool} (h:eqLeaf l a b=some r) {t:TypeId} (hl:leafOf p t=some l) {V:View} {va vb:Value} (ha:PRel V.w V.ok a va) (hb:PRel V.w V.ok b vb) (d:Nat) (w:World) :
    (Op.equalIn (d+1) t va vb).run p w=.ok r w:=by
  unfold eqLeaf at h
  split at h
  · rename_i k a k' b
    cases ha;cases hb
    split at h
    · rename_i hk
      subst hk
      simp only [Option.some.injEq] at h
      subst h
      obtain ⟨k'',hk⟩:=leafOf_int hl
      exact run_equalIn_int w d t k k'' a b hk
    · simp at h
  · rename_i a b
    cases ha;cases hb
    simp only [Option.some.injEq] at h
    subst h
    exact run_equalIn_string w d t a b (leafOf_str hl)
  · rename_i a b
    cases ha;cases hb
    simp only [Option.some.injEq] at h
    subst h
    exact run_equalIn_bool' w d t a b (leafOf_bool hl)
  · simp at h
theorem leafOf_agg {t:TypeId} {l:Leaf} (h:leafOf p t=some l):tyAgg p t=some false:=by
  unfold leafOf at h;unfold tyAgg
  split at h<;>rename_i hu<;>first | (rw [hu];rfl) | simp at h
theorem run_part_leaf {t:TypeId} (hg:tyAgg p t=some false) {xs:Array Value} {off:Nat} {v:Value} (h:xs[off]? = some v) (w:World):(Go.part t xs off).run p w=.ok v w:=by
  simp [Go.part,run_agg hg,h]
theorem run_part_agg {t:TypeId} (hg:tyAgg p t=some true) {s:Nat} (hs:tySize p t=some s) {xs:Array Value} {off:Nat} (w:World):(Go.part t xs off).run p w=.ok (.agg (xs.extract off (off+s))) w:=by
  simp [Go.part,run_agg hg,run_size hs]
theorem leavesOf_struct {d:Nat} {t:TypeId} {fs:Array Field} (ht:p.underlying t=some (.struct fs)):leavesOf p (d+1) t=if p.stoodInHeld t then none else leavesFs (leavesOf p d) p fs.toList 0:=by
  simp only [leavesOf,ht]
theorem leavesOf_leaf {d:Nat} {t:TypeId} {ls:List Leaf} (h:leavesOf p (d+1) t=some ls) (ht:∀ fs,p.underlying t≠some (.struct fs)):∃ l,ls=[l]∧leafOf p t=some l:=by
  unfold leavesOf at h
  split at h
  · rename_i fs hfs;exact absurd hfs (ht fs)
  · simp only [Option.map_eq_some_iff] at h
    obtain ⟨l,hl,rfl⟩:=h
    exact ⟨l,rfl,hl⟩
theorem eqCells_append:∀ {l1 l2:List Leaf} {a b:List PV} {r:Bool},eqCells (l1++l2) a b=some r→∃ r1 r2,eqCells l1 (a.take l1.length) (b.take l1.length)=some r1∧eqCells l2 (a.drop l1.length) (b.drop l1.length)=some r2∧r=(r1 && r2)
  | [],l2,a,b,r,h=>⟨true,r,by simp [eqCells],by simpa using h,by simp⟩
  | l :: l1,l2,a,b,r,h=>by
    match a,b with
    | [],[]=>simp [eqCells] at h
    | [],_ :: _=>simp [eqCells] at h
    | _ :: _,[]=>simp [eqCells] at h
    | x :: a,y :: b=>
      simp only [List.cons_append,eqCells,Option.bind_eq_some_iff,Option.map_eq_some_iff] at h
      obtain ⟨t,ht,s,hs,rfl⟩:=h
      obtain ⟨r1,r2,h1,h2,rfl⟩:=eqCells_append hs
      exact ⟨t && r1,r2,by simp [eqCells,ht,h1],by simpa using h2,by rw [Bool.and_assoc]⟩
theorem eqCells_length:∀ {l:List Leaf} {a b:List PV} {r:Bool},eqCells l a b=some r→a.length=l.length∧b.length=l.length
  | [],a,b,r,h=>by match a,b with | [],[]=>simp | [],_ :: _=>simp [eqCells] at h | _ :: _,[]=>simp [eqCells] at h | _ :: _,_ :: _=>simp [eqCells] at h
  | l :: ls,a,b,r,h=>by
    match a,b with
    | [],[]=>simp [eqCells] at h
    | [],_ :: _=>simp [eqCells] at h
    | _ :: _,[]=>simp [eqCells] at h
    | x :: a,y :: b=>
      simp only [eqCells,Option.bind_eq_some_iff,Option.map_eq_some_iff] at h
      obtain ⟨t,ht,s,hs,rfl⟩:=h
      have:=eqCells_length hs
      simp [this.1,this.2]
def CellsAt (V:View) (cs:List PV) (xs:Array Value) (off:Nat):Prop:=∀ j c,cs[j]? = some c→∃ v,xs[off+j]? = some v∧PRel V.w V.ok c v
theorem CellsAt.take {V:View} {cs:List PV} {xs:Array Value} {off:Nat} (h:CellsAt V cs xs off) (n:Nat):CellsAt V (cs.take n) xs off:=by
  intro j c hc
  rw [List.getElem?_take] at hc
  split at hc
  · exact h j c hc
  · simp at hc
theorem CellsAt.drop {V:View} {cs:List PV} {xs:Array Value} {off:Nat} (h:CellsAt V cs xs off) (n:Nat):CellsAt V (cs.drop n) xs (off+n):=by
  intro j c hc
  rw [List.getElem?_drop] at hc
  rw [show off+n+j=off+(n+j) by omega]
  exact h _ c hc
theorem CellsAt.extract {V:View} {cs:List PV} {xs:Array Value} {off:Nat} (h:CellsAt V cs xs off) {s:Nat} (hs:cs.length≤s):CellsAt V cs (xs.extract off (off+s)) 0:=by
  intro j c hc
  obtain ⟨v,hv,hr⟩:=h j c hc
  have:=(List.getElem?_eq_some_iff.1 hc).1
  refine ⟨v,?_,hr⟩
  rw [Nat.zero_add,Array.getElem?_extract,if_pos]
  · exact hv
  · have:=(Array.getElem?_eq_some_iff.1 hv).1
    omega
theorem tyAgg_struct {t:TypeId} {fs:Array Field} (ht:p.underlying t=some (.struct fs)):tyAgg p t=some true:=by simp [tyAgg,ht]
theorem equalIn_leaves (d:Nat):∀ (t:TypeId) (ls:List Leaf),leavesOf p d t=some ls→tySize p t=some ls.length→∀ (D:Nat),d≤D→∀ (V:View) (as bs:List PV) (r:Bool) (xs ys:Array Value) (off off':Nat) (w:World),eqCells ls as bs=some r →
    CellsAt V as xs off→CellsAt V bs ys off'→(do let a ← Go.part t xs off;let b ← Go.part t ys off';Op.equalIn D t a b:Sem Bool).run p w=.ok r w:=by
  induction d with
  | zero=>intro t ls h;simp [leavesOf] at h
  | succ d ih=>
    intro t ls h hsz D hD V as bs r xs ys off off' w he ha hb
    obtain ⟨D,rfl⟩:∃ m,D=m+1:=⟨D-1,by omega⟩
    have hlen:=eqCells_length he
    by_cases hstruct:∃ fs,p.underlying t=some (.struct fs)
    · obtain ⟨fs,ht⟩:=hstruct
      rw [leavesOf_struct ht] at h
      split at h
      · simp at h
      · rename_i hheld
        have hheld':p.stoodInHeld t=false:=by simpa using hheld
        have hfo:p.fieldsOf t=fs:=by simp [Program.fieldsOf,ht]
        simp only [Sem.run_bind,run_part_agg (tyAgg_struct ht) hsz,Result.andThen_ok]
        rw [run_equalIn_struct w D t _ _ (by rw [hfo];exact ht) hheld',hfo]
        have main:∀ (l:List Field) (ls:List Leaf) (o:Nat) (as bs:List PV) (r:Bool) (xs ys:Array Value),leavesFs (leavesOf p d) p l o=some ls→eqCells ls as bs=some r→CellsAt V as xs o→CellsAt V bs ys o →
            (Op.eqFields D xs ys l).run p w=.ok r w:=by
          intro l
          induction l with
          | nil=>
            intro ls o as bs r xs ys h he _ _
            simp only [leavesFs,Option.some.injEq] at h
            subst h
            match as,bs,he with
            | [],[],he=>simp only [eqCells,Option.some.injEq] at he;subst he;rfl
          | cons f l ihl=>
            intro ls o as bs r xs ys h he ha hb
            simp only [leavesFs] at h
            split at h
            · rename_i hf
              split at h
              · rename_i l1 hl1
                split at h
                · rename_i hs1
                  simp only [Option.map_eq_some_iff] at h
                  obtain ⟨l2,hl2,rfl⟩:=h
                  obtain ⟨r1,r2,h1,h2,rfl⟩:=eqCells_append he
                  have e1:=ih f.type l1 hl1 hs1 D (by omega) V _ _ r1 xs ys o o w h1 (ha.take _) (hb.take _)
                  have e2:=ihl l2 (o+l1.length) _ _ r2 xs ys hl2 h2 (ha.drop _) (hb.drop _)
                  have hoff:f.offset=o:=hf.2
                  simp only [Op.eqFields,hf.1,ne_eq,not_false_eq_true,if_true,hoff]
                  simp only [Sem.run_bind] at e1 ⊢
                  cases hp:(Go.part f.type xs o).run p w with
                  | halt x w'=>rw [hp] at e1;simp [Result.andThen] at e1
                  | ok a1 w1=>
                    rw [hp] at e1
                    simp only [Result.andThen_ok] at e1 ⊢
                    cases hp2:(Go.part f.type ys o).run p w1 with
                    | halt x w'=>rw [hp2] at e1;simp [Result.andThen] at e1
                    | ok b1 w2=>
                      rw [hp2] at e1
                      simp only [Result.andThen_ok] at e1 ⊢
                      rw [e1]
                      cases r1 with
                      | false=>simp
                      | true=>simp [e2]
                · simp at h
              · simp at h
            · simp at h
        exact main fs.toList ls 0 as bs r _ _ h he (ha.extract (by omega)) (hb.extract (by omega))
    · obtain ⟨l,rfl,hl⟩:=leavesOf_leaf h (fun fs hf=>hstruct ⟨fs,hf⟩)
      match as,bs,he with
      | [a],[b],he=>
        simp only [eqCells,Option.map_some,Option.bind_eq_some_iff,Bool.and_true,Option.some.injEq] at he
        obtain ⟨r',hr',rfl⟩:=he
        obtain ⟨va,hva,hra⟩:=ha 0 a rfl
        obtain ⟨vb,hvb,hrb⟩:=hb 0 b rfl
        simp only [Nat.add_zero] at hva hvb
        simp only [Sem.run_bind,run_part_leaf (leafOf_agg hl) hva,run_part_leaf (leafOf_agg hl) hvb,Result.andThen_ok]
        exact eqLeaf_ok hr' hl hra hrb D w
      | [],_,he=>simp [eqCells] at he
      | _ :: _,[],he=>simp [eqCells] at he
      | [_],_ :: _ :: _,he=>simp [eqCells] at he
      | _ :: _ :: _,_ :: _,he=>simp [eqCells] at he
theorem addr_add (r off n:Nat):(Addr.mk r off none).add n=⟨r,off+n,none⟩:=by
  unfold Addr.add;split
  · rename_i h;subst h;rfl
  · rfl
theorem field?_eq {t:TypeId} {f:Nat} {fd:Field} (h:field? p t f=some fd):∃ fs,p.underlying t=some (.struct fs)∧fs[f]? = some fd:=by
  unfold field? at h;split at h
  · exact ⟨_,by assumption,h⟩
  · cases h
theorem ptr_inv {V:View} {row:List PV} {o:Nat} {v:Value} (h:VRel V (.p (.ptr row o)) v):∃ r off,v=.pointer (some ⟨r,off+o,none⟩)∧V.ok r∧∃ cv:Nat→Value,(∀ k,k<row.length→V.w.cell? ⟨r,off+k,none⟩=some (cv k))∧(∀ k,k<row.length→(cv k).oneCell'=true)∧∀ (k:Nat) (q:PV),row[k]? = some q→PRel V.w V.ok q (cv k):=by
  cases h with
  | p h=>
    cases h with
    | ptr _ _ r off cv hok hc h1 hr=>exact ⟨r,off,rfl,hok,cv,hc,h1,hr⟩
theorem ptr_add {V:View} {row:List PV} {o n:Nat} {r off:Nat} (h:VRel V (.p (.ptr row o)) (.pointer (some ⟨r,off,none⟩))):VRel V (.p (.ptr row (o+n))) (.pointer (some ⟨r,off+n,none⟩)):=by
  cases h with
  | p h=>
    cases h with
    | ptr _ _ _ off' cv hok hc h1 hr=>
      have:=PRel.ptr row (o+n) r off' cv hok hc h1 hr
      rw [← Nat.add_assoc] at this
      exact .p this
theorem aptr_any {V:View} {b m i o n:Nat} {a:Addr} (h:VRel V (.ptr b m i o) (.pointer (some a))):VRel V (.ptr b m i (o+n)) (.pointer (some (a.add n))):=by
  cases h with
  | ptr _ _ _ _ a s hs hn hp=>
    refine .ptr b m i (o+n) _ s hs hn fun es l h1 h2 h3=>?_
    obtain ⟨r',h4,h5⟩:=hp es l h1 h2 h3
    subst h5
    exact ⟨r',h4,by rw [addr_add,Nat.add_assoc]⟩
theorem aptr_inv {V:View} {b m i o:Nat} {v:Value} (h:VRel V (.ptr b m i o) v):∃ a,v=.pointer (some a):=by cases h;exact ⟨_,rfl⟩
theorem run_fieldAt {t:TypeId} {f:Nat} {fd:Field} {s:Nat} (h:field? p t f=some fd) (hs:tySize p fd.type=some s) (h0:s≠0) (a:Addr) (w:World):(Instr.fieldAt t (.pointer (some a)) f).run p w=.ok (.pointer (some (a.add fd.offset))) w:=by
  obtain ⟨fs,ht,hf⟩:=field?_eq h
  simp only [Instr.fieldAt,Sem.run_bind,run_under ht,Result.andThen_ok,hf,Instr.sureAddr,Sem.run_pure,fieldPlace,run_size hs,h0,if_false]
theorem rows_lst {V:View} {rows:List (List PV)} {v:Value} (h:VRel V (.p (.lst rows)) v):∃ a c,v=.slice a rows.length c∧rows.length≤c∧(rows≠[]→∃ r off es,a=some ⟨r,off,none⟩∧V.ok r∧(∀ x∈rows,x.length=es)∧∃ cv:Nat→Value,
    (∀ k,k<rows.length*es→V.w.cell? ⟨r,off+k,none⟩=some (cv k))∧(∀ k,k<rows.length*es→(cv k).oneCell'=true)∧∀ (k:Nat) (q:PV),rows.flatten[k]? = some q→PRel V.w V.ok q (cv k)):=by
  cases h with
  | p h=>
    cases h with
    | lst0 a c=>exact ⟨a,c,rfl,Nat.zero_le _,fun h=>absurd rfl h⟩
    | lst _ r off c es cv hr hok hc hes hcell hone hrel=>exact ⟨_,c,rfl,hc,fun _=>⟨r,off,es,rfl,hok,hes,cv,hcell,hone,hrel⟩⟩
theorem tup_get {V:View} {vs:List AV} {us:List Value} (hl:vs.length=us.length) (hr:∀ (i:Nat) (c:AV) (v:Value),vs[i]? = some c→us[i]? = some v→VRel V c v) {k:Nat} {c:AV} (h:vs[k]? = some c):∃ u,us[k]? = some u∧VRel V c u:=by
  have hk:k<us.length:=by have:=(List.getElem?_eq_some_iff.1 h).1;omega
  exact ⟨us[k],List.getElem?_eq_getElem hk,hr k c _ h (List.getElem?_eq_getElem hk)⟩
section ops
variable {V:View} {τ:Tm} {nt:Nat} {a:Act} (hT:TRel V τ nt a.tmps) {o:Oper} {av:AV}
include hT
theorem q_pick {c x y:Operand} {c' x' y':O} (hop:o.op=.pick c x y) (hc:opd c=some c') (hx:opd x=some x') (hy:opd y=some y') (hq:quiet V.σ τ (.pick c' x' y')=some av):∃ v,(execOp a.eval o).run p V.w=.ok (.value v) V.w∧VRel V av v:=by
  simp only [quiet,Option.map_eq_some_iff] at hq
  obtain ⟨b,hb,rfl⟩:=hq
  have:=boolOf_rel hb (opd_rel hT hc)
  refine ⟨if b then a.eval x else a.eval y,?_,?_⟩
  · simp only [execOp,hop,this,asBool]
    cases b<;>rfl
  · cases b
    · exact opd_rel hT hy
    · exact opd_rel hT hx
theorem q_load (hS:SRel p cq V) {t:TypeId} {x:Operand} {x':O} {s:Nat} {g:Bool} (hop:o.op=.load t x) (hs:tySize p t=some s) (hg:tyAgg p t=some g) (hx:opd x=some x') (hq:quiet V.σ τ (.load s g x')=some av):∃ v,(execOp a.eval o).run p V.w=.ok (.value v) V.w∧VRel V av v:=by
  obtain ⟨v,h1,h2⟩:=loadV_ok hS hs hg hq (opd_rel hT hx)
  exact ⟨v,by simp [execOp,hop,h1],h2⟩
theorem q_arith {op:BinOp} {t ty:TypeId} {x y:Operand} {x' y':O} (hop:o.op=.binOp op t x y ty) (hx:opd x=some x') (hy:opd y=some y') (hq:quiet V.σ τ (.arith op x' y')=some av):∃ v,(execOp a.eval o).run p V.w=.ok (.value v) V.w∧VRel V av v:=by
  simp only [quiet] at hq
  split at hq
  · rename_i qa qb ha hb
    simp only [Option.map_eq_some_iff] at hq
    obtain ⟨z,hz,rfl⟩:=hq
    have h1:=opd_rel hT hx;rw [ha] at h1
    have h2:=opd_rel hT hy;rw [hb] at h2
    obtain ⟨v,h3,h4⟩:=arith_ok (p:=p) hz h1.p_inv h2.p_inv t x y V.w
    refine ⟨v,?_,.p h4⟩
    simp only [Sem.run_bind] at h3
    simp only [execOp,hop,Sem.run_bind]
    rw [h3];rfl
  · cases hq
theorem q_eqB {neg:Bool} {t ty:TypeId} {x y:Operand} {x' y':O} (hop:o.op=.binOp (if neg then .neq else .eql) t x y ty) (ht:p.underlying t=some .bool) (hx:opd x=some x') (hy:opd y=some y') (hq:quiet V.σ τ (.eqB neg x' y')=some av):∃ v,(execOp a.eval o).run p V.w=.ok (.value v) V.w∧VRel V av v:=by
  simp only [quiet,Option.bind_eq_some_iff,Option.map_eq_some_iff] at hq
  obtain ⟨b1,h1,b2,h2,rfl⟩:=hq
  have e1:=boolOf_rel h1 (opd_rel hT hx)
  have e2:=boolOf_rel h2 (opd_rel hT hy)
  refine ⟨_,?_,.p (.bool _)⟩
  have hg:=eqGuard_scalar (p:=p) (op:=if neg then .neq else .eql) (t:=t) (x:=x) (y:=y) (a:=.bool b1) (b:=.bool b2) (by simp) (by simp) V.w
  have he:(Op.equal t (.bool b1) (.bool b2)).run p V.w=.ok (b1 == b2) V.w:=run_equalIn_bool' V.w 9999 t b1 b2 ht
  simp only [execOp,hop,e1,e2,Sem.run_bind,hg,Result.andThen_ok]
  cases neg<;>simp [binOp,he]
omit hT in
theorem run_nilf (d:Nat) {t:TypeId} {ps rs:Array TypeId} {vr:Bool} (ht:p.underlying t=some (.func ps rs vr)) (w:World):(Op.equalIn (d+1) t .nilFunc .nilFunc).run p w=.ok true w:=by simp [Op.equalIn,run_under ht]
omit hT in
theorem run_fnil (d:Nat) {t:TypeId} {ps rs:Array TypeId} {vr:Bool} (ht:p.underlying t=some (.func ps rs vr)) (f:Fn) (ms:Array Value) (vs:Array Value) (w:World):(Op.equalIn (d+1) t (.func f ms vs) .nilFunc).run p w=.ok false w:=by simp [Op.equalIn,run_under ht]
theorem q_isnil {neg:Bool} {t ty:TypeId} {x y:Operand} {x':O} {ps rs:Array TypeId} {vr:Bool} (hop:o.op=.binOp (if neg then .neq else .eql) t x y ty) (ht:p.underlying t=some (.func ps rs vr)) (hx:opd x=some x') (hy:opd y=some (.c (.p .nilf))) (hq:quiet V.σ τ (.isnil neg x')=some av):∃ v,(execOp a.eval o).run p V.w=.ok (.value v) V.w∧VRel V av v:=by
  have h2:=opd_rel hT hy
  have e2:a.eval y=.nilFunc:=by
    generalize a.eval y=vy at h2
    cases h2 with
    | p h=>cases h;rfl
  have h1:=opd_rel hT hx
  have fin:∀ (v:Value) (r:Bool),a.eval x=v→v≠.nilIface→(∀ cs,v≠.agg cs)→(∀ w,(Op.equal t v .nilFunc).run p w=.ok r w)→av=.p (.bool (if neg then !r else r))→∃ v,(execOp a.eval o).run p V.w=.ok (.value v) V.w∧VRel V av v:=by
    intro v r e1 n1 n2 he hav
    subst hav
    refine ⟨_,?_,.p (.bool _)⟩
    have hg:=eqGuard_scalar (p:=p) (op:=if neg then .neq else .eql) (t:=t) (x:=x) (y:=y) (a:=v) (b:=.nilFunc) n1 n2 V.w
    simp only [execOp,hop,e1,e2,Sem.run_bind,hg,Result.andThen_ok]
    cases neg<;>simp [binOp,he]
  simp only [quiet] at hq
  split at hq
  · rename_i hx0
    rw [hx0] at h1
    cases hq
    generalize hvx:a.eval x=vx at h1
    cases h1 with
    | p h=>
      cases h
      exact fin .nilFunc true hvx (by simp) (by simp) (fun w=>run_nilf 9999 ht w) (by cases neg<;>rfl)
  · rename_i f cs hx0
    rw [hx0] at h1
    cases hq
    generalize hvx:a.eval x=vx at h1
    cases h1 with
    | p h=>
      cases h with
      | fn _ _ vs hl hr=>exact fin _ false hvx (by simp) (by simp) (fun w=>run_fnil 9999 ht _ _ _ w) (by cases neg<;>rfl)
  · rename_i f cs hx0
    rw [hx0] at h1
    cases hq
    generalize hvx:a.eval x=vx at h1
    cases h1 with
    | fn _ _ vs hl hr=>exact fin _ false hvx (by simp) (by simp) (fun w=>run_fnil 9999 ht _ _ _ w) (by cases neg<;>rfl)
  · cases hq
theorem q_eqA {neg:Bool} {lv:List Leaf} {t ty:TypeId} {x y:Operand} {x' y':O} (hop:o.op=.binOp (if neg then .neq else .eql) t x y ty) (hg:p.eqGuardType p.depth t=false) (hlv:leavesOf p 8 t=some lv) (hag:tyAgg p t=some true) (hx:opd x=some x') (hy:opd y=some y')
    (hsz:tySize p t=some lv.length) (hq:quiet V.σ τ (.eqA neg lv x' y')=some av):∃ v,(execOp a.eval o).run p V.w=.ok (.value v) V.w∧VRel V av v:=by
  simp only [quiet] at hq
  split at hq
  · rename_i qa qb ha hb
    simp only [Option.map_eq_some_iff] at hq
    obtain ⟨z,hz,rfl⟩:=hq
    have h1:=opd_rel hT hx;rw [ha] at h1
    have h2:=opd_rel hT hy;rw [hb] at h2
    obtain ⟨hla,hlb⟩:=eqCells_length hz
    have aggs:∀ {qs:List PV} {v:Value},VRel V (.p (.agg qs)) v→∃ xs:Array Value,v=.agg xs∧xs.size=qs.length∧CellsAt V qs xs 0:=by
      intro qs v h
      cases h with
      | p h=>
        cases h with
        | agg _ vs hl _ hr=>
          refine ⟨vs.toArray,rfl,by simp [hl],fun j c hc=>?_⟩
          have hj:j<vs.length:=by have:=(List.getElem?_eq_some_iff.1 hc).1;omega
          exact ⟨vs[j],by simp [hj],hr j c _ hc (List.getElem?_eq_getElem hj)⟩
    obtain ⟨xs,e1,s1,c1⟩:=aggs h1
    obtain ⟨ys,e2,s2,c2⟩:=aggs h2
    have key:=equalIn_leaves 8 t lv hlv hsz 10000 (by omega) V qa qb z xs ys 0 0 V.w hz c1 c2
    simp only [Sem.run_bind,run_part_agg hag hsz,Result.andThen_ok,Nat.zero_add] at key
    rw [show xs.extract 0 lv.length=xs by rw [← hla,← s1];simp,show ys.extract 0 lv.length=ys by rw [← hlb,← s2];simp] at key
    refine ⟨_,?_,.p (.bool _)⟩
    simp only [execOp,hop,e1,e2,Sem.run_bind,run_eqGuard_agg V.w _ t x y xs ys hg,Result.andThen_ok]
    cases neg<;>simp [run_eql_struct,run_neq_struct,key]
  · cases hq
theorem q_not {t:TypeId} {x:Operand} {x':O} (hop:o.op=.unOp .not t x) (hx:opd x=some x') (hq:quiet V.σ τ (.not x')=some av):∃ v,(execOp a.eval o).run p V.w=.ok (.value v) V.w∧VRel V av v:=by
  simp only [quiet,Option.map_eq_some_iff] at hq
  obtain ⟨b,hb,rfl⟩:=hq
  have:=boolOf_rel hb (opd_rel hT hx)
  exact ⟨.bool !b,by simp [execOp,hop,this,Op.unary],.p (.bool _)⟩
theorem q_neg {t:TypeId} {x:Operand} {x':O} (hop:o.op=.unOp .neg t x) (hx:opd x=some x') (hq:quiet V.σ τ (.neg x')=some av):∃ v,(execOp a.eval o).run p V.w=.ok (.value v) V.w∧VRel V av v:=by
  simp only [quiet] at hq
  split at hq
  · rename_i k n hv
    cases hq
    have:=opd_rel hT hx;rw [hv] at this
    exact ⟨.int k (k.wrap (0-n)),by simp [execOp,hop,this.int_inv,Op.unary,Op.intArith],.p (.int _ _)⟩
  · cases hq
theorem q_compl {t:TypeId} {x:Operand} {x':O} (hop:o.op=.unOp .xor t x) (hx:opd x=some x') (hq:quiet V.σ τ (.compl x')=some av):∃ v,(execOp a.eval o).run p V.w=.ok (.value v) V.w∧VRel V av v:=by
  simp only [quiet] at hq
  split at hq
  · rename_i k n hv
    simp only [intOp,Option.map_some,Option.some.injEq] at hq
    subst hq
    have:=opd_rel hT hx;rw [hv] at this
    exact ⟨_,by simp only [execOp,hop,this.int_inv,Op.unary,Op.intBits];rfl,.p (.int _ _)⟩
  · cases hq
theorem q_conv {s d:TypeId} {k1 k:IntKind} {x:Operand} {x':O} (hop:o.op=.convert s d x) (h1:p.underlying s=some (.int k1)) (h2:p.underlying d=some (.int k)) (hx:opd x=some x') (hq:quiet V.σ τ (.conv k x')=some av):∃ v,(execOp a.eval o).run p V.w=.ok (.value v) V.w∧VRel V av v:=by
  simp only [quiet] at hq
  split at hq
  · rename_i k' n hv
    cases hq
    have:=opd_rel hT hx;rw [hv] at this
    exact ⟨.int k (k.wrap n),by simp [execOp,hop,this.int_inv,convert,run_under h1,run_under h2,Conv.intToInt],.p (.int _ _)⟩
  · cases hq
theorem q_convS {s d:TypeId} {x:Operand} {x':O} (hop:o.op=.convert s d x) (h1:p.underlying s=some .string) (h2:p.underlying d=some .string) (hx:opd x=some x') (hq:quiet V.σ τ (.convS x')=some av):∃ v,(execOp a.eval o).run p V.w=.ok (.value v) V.w∧VRel V av v:=by
  simp only [quiet] at hq
  split at hq
  · rename_i s hv
    cases hq
    have:=opd_rel hT hx;rw [hv] at this
    exact ⟨.string s,by simp [execOp,hop,this.str_inv,convert,run_under h1,run_under h2],.p (.str _)⟩
  · cases hq
theorem q_fadr {t:TypeId} {f:Nat} {fd:Field} {s:Nat} {x:Operand} {x':O} (hop:o.op=.fieldAddr t x f) (hf:field? p t f=some fd) (hs:tySize p fd.type=some s) (h0:s≠0) (hx:opd x=some x') (hq:quiet V.σ τ (.fadr fd.offset x')=some av):∃ v,(execOp a.eval o).run p V.w=.ok (.value v) V.w∧VRel V av v:=by
  have hv:=opd_rel hT hx
  simp only [quiet] at hq
  split at hq
  · rename_i row off he
    cases hq
    rw [he] at hv
    obtain ⟨r,off',e,_⟩:=ptr_inv hv
    rw [e] at hv
    refine ⟨.pointer (some ((Addr.mk r (off'+off) none).add fd.offset)),by simp [execOp,hop,e,run_fieldAt hf hs h0],?_⟩
    rw [addr_add]
    exact ptr_add hv
  · rename_i b n i off he
    cases hq
    rw [he] at hv
    obtain ⟨ad,e⟩:=aptr_inv hv
    rw [e] at hv
    exact ⟨.pointer (some (ad.add fd.offset)),by simp [execOp,hop,e,run_fieldAt hf hs h0],aptr_any hv⟩
  · cases hq
theorem q_fld {t:TypeId} {f:Nat} {fd:Field} {s:Nat} {g:Bool} {x:Operand} {x':O} (hop:o.op=.field t x f) (hf:field? p t f=some fd) (hs:tySize p fd.type=some s) (hg:tyAgg p fd.type=some g) (hx:opd x=some x') (hq:quiet V.σ τ (.fld fd.offset s g x')=some av):∃ v,(execOp a.eval o).run p V.w=.ok (.value v) V.w∧VRel V av v:=by
  have hv:=opd_rel hT hx
  obtain ⟨fs,ht,hf'⟩:=field?_eq hf
  have main:∀ (cs:List AV) (vs:List Value),a.eval x=.agg vs.toArray→cs.length=vs.length→(∀ v∈vs,v.oneCell'=true)→(∀ (i:Nat) (c:AV) (v:Value),cs[i]? = some c→vs[i]? = some v→VRel V c v)→(part fd.offset s cs).bind (ofCells g)=some av→∃ v,(execOp a.eval o).run p V.w=.ok (.value v) V.w∧VRel V av v:=by
    intro cs vs e hl hone hr hq
    simp only [Option.bind_eq_some_iff] at hq
    obtain ⟨ps,hps,hq⟩:=hq
    obtain ⟨hle,hpe⟩:=part_some hps
    obtain ⟨hpl,hget⟩:=part_get hps
    have hvs:∀ (i:Nat) (c:AV) (v:Value),ps[i]? = some c→((vs.drop fd.offset).take s)[i]? = some v→VRel V c v:=by
      intro i c v hc hv
      have hi:i<s:=by have:=(List.getElem?_eq_some_iff.1 hc).1;omega
      rw [hget i hi] at hc
      rw [List.getElem?_take_of_lt hi,List.getElem?_drop] at hv
      exact hr _ c v hc hv
    obtain ⟨h1,h2⟩:=ofCells_rel hq (vs:=(vs.drop fd.offset).take s) (by rw [hpl];simp;omega) (fun v hv=>hone v (List.mem_of_mem_drop (List.mem_of_mem_take hv))) hvs
    refine ⟨_,?_,h1⟩
    simp only [execOp,hop,e,Instr.field,Sem.run_bind,run_under ht,Result.andThen_ok,hf',asAgg,Sem.run_pure]
    cases g with
    | true=>
      simp only [run_part_agg hg hs,Result.andThen_ok,if_true]
      congr 3
      apply Array.ext'
      simp
    | false=>
      have:=h2 rfl
      have hs1:s=1:=by omega
      subst hs1
      have hlt:fd.offset<vs.length:=by omega
      simp only [run_part_leaf hg (xs:=vs.toArray) (off:=fd.offset) (v:=vs[fd.offset]) (by simp [hlt]),Result.andThen_ok,Bool.false_eq_true,if_false]
      congr 3
      rw [List.drop_eq_getElem_cons hlt]
      rfl
  simp only [quiet] at hq
  split at hq
  · rename_i cs he
    rw [he] at hv
    cases hv with
    | p hv=>
      generalize hvx:a.eval x=vx at hv
      cases hv with
      | agg _ vs hl hone hr=>
        refine main (cs.map .p) vs hvx (by simp [hl]) hone (fun i c v hc hv=>?_) ?_
        · rw [List.getElem?_map,Option.map_eq_some_iff] at hc
          obtain ⟨q,hq,rfl⟩:=hc
          exact .p (hr i q v hq hv)
        · rw [Option.map_bind] at hq
          simp only [Function.comp_def,ofCellsP_eq] at hq
          rw [part_map]
          cases hp:part fd.offset s cs with
          | none=>simp [hp] at hq
          | some ps=>simpa [hp] using hq
  · rename_i cs he
    rw [he] at hv
    generalize hvx:a.eval x=vx at hv
    cases hv with
    | agg _ vs hl hone hr=>exact main cs vs hvx hl hone hr hq
  · cases hq
theorem q_iadrA {t:TypeId} {len:Nat} {e:TypeId} {es:Nat} {x i:Operand} {x' i':O} (hop:o.op=.indexAddr t x i) (ht:p.underlying t=some (.array len e)) (he:tySize p e=some es) (hx:opd x=some x') (hi:opd i=some i') (hq:quiet V.σ τ (.iadrA len es x' i')=some av):∃ v,(execOp a.eval o).run p V.w=.ok (.value v) V.w∧VRel V av v:=by
  simp only [quiet,Option.bind_eq_some_iff] at hq
  obtain ⟨n,hn,hq⟩:=hq
  obtain ⟨k,hk⟩:=natOf_rel hn (opd_rel hT hi)
  have hv:=opd_rel hT hx
  split at hq
  · rename_i hlt
    have run:∀ ad:Addr,a.eval x=.pointer (some ad)→(execOp a.eval o).run p V.w=.ok (.value (.pointer (some (ad.add (n*es))))) V.w:=by
      intro ad hx
      simp [execOp,hop,hx,hk,Instr.indexAt,asIntOf,run_under ht,Instr.sureAddr,run_size he]
      intro h
      omega
    split at hq
    · rename_i row off hx'
      cases hq
      rw [hx'] at hv
      obtain ⟨r,off',e',_⟩:=ptr_inv hv
      rw [e'] at hv
      refine ⟨_,run _ e',?_⟩
      rw [addr_add]
      exact ptr_add hv
    · rename_i b m j off hx'
      cases hq
      rw [hx'] at hv
      obtain ⟨ad,e'⟩:=aptr_inv hv
      rw [e'] at hv
      exact ⟨_,run _ e',aptr_any hv⟩
    · cases hq
  · cases hq
theorem q_iadrS (hS:SRel p cq V) {t:TypeId} {e:TypeId} {es:Nat} {x i:Operand} {x' i':O} (hop:o.op=.indexAddr t x i) (ht:p.underlying t=some (.slice e)) (he:tySize p e=some es) (hx:opd x=some x') (hi:opd i=some i') (hq:quiet V.σ τ (.iadrS es x' i')=some av):∃ v,(execOp a.eval o).run p V.w=.ok (.value v) V.w∧VRel V av v:=by
  simp only [quiet,Option.bind_eq_some_iff] at hq
  obtain ⟨n,hn,hq⟩:=hq
  obtain ⟨k,hk⟩:=natOf_rel hn (opd_rel hT hi)
  have hv:=opd_rel hT hx
  have run:∀ (ad:Addr) (len c:Nat),a.eval x=.slice (some ad) len c→n<len→(execOp a.eval o).run p V.w=.ok (.value (.pointer (some (ad.add (n*es))))) V.w:=by
    intro ad len c hx hlt
    simp [execOp,hop,hx,hk,Instr.indexAt,asIntOf,run_under ht,run_size he]
    intro h
    omega
  split at hq
  · rename_i rows hx'
    simp only [Option.bind_eq_some_iff] at hq
    obtain ⟨row,hrow,hq⟩:=hq
    split at hq
    · rename_i hes
      cases hq
      rw [hx'] at hv
      obtain ⟨a1,c,e1,hc,hr⟩:=rows_lst hv
      have hlt:n<rows.length:=(List.getElem?_eq_some_iff.1 hrow).1
      obtain ⟨r,off,es',rfl,hok,hwide,cv,hcell,hone,hrel⟩:=hr (by intro h;subst h;simp at hlt)
      have hes':es=es':=by rw [← hes];exact hwide row (List.mem_of_getElem? hrow)
      subst hes'
      refine ⟨_,run _ _ _ e1 hlt,?_⟩
      rw [addr_add]
      have:=PRel.ptr (w:=V.w) (ok:=V.ok) row 0 r (off+n*es) (fun k=>cv (n*es+k)) hok
        (fun j hj=>by
          rw [Nat.add_assoc]
          exact hcell _ (by
            have:n*es+es≤rows.length*es:=by rw [← Nat.succ_mul];exact Nat.mul_le_mul_right _ hlt
            omega))
        (fun j hj=>hone _ (by
            have:n*es+es≤rows.length*es:=by rw [← Nat.succ_mul];exact Nat.mul_le_mul_right _ hlt
            omega))
        (fun j q hq=>hrel _ q (flatten_get hwide hrow hq))
      exact .p this
    · cases hq
  · rename_i b m hx'
    split at hq
    · rename_i hm
      cases hq
      rw [hx'] at hv
      generalize hvx:a.eval x=vx at hv
      cases hv with
      | sl _ _ ad c s hs hn' hp=>
        have hsl:=hm.2
        unfold svec at hsl
        cases ho:V.σ[b]? with
        | none=>simp [ho] at hsl
        | some ob=>
          obtain ⟨l,hl⟩:=hS.own_of ho
          have hor:=hS.obj b l ob hl ho
          simp only [ho,Option.bind_some] at hsl
          have fin:∀ (rows:List (List AV)),VecOk V l es rows→ob.sh=.vec es m→rows.length=m→∃ v,(execOp a.eval o).run p V.w=.ok (.value v) V.w∧VRel V (.ptr b m n 0) v:=by
            intro rows hvec hsh hlen
            have hse:s=.vec es m:=by rw [← hsh];simpa [View.sh,ho] using hs.symm
            obtain ⟨e1,e2⟩:=hp es l hse hl
            cases hb:l.blk with
            | none=>
              have:=hvec.nil hb
              have:=hvec.cap
              omega
            | some r=>
              have e3:ad=some ⟨r,0,none⟩:=by
                rw [e1 (by have:=hvec.cap;omega)]
                simp [Loc.addr,hb]
              subst e3
              refine ⟨_,run _ _ _ hvx hm.1,?_⟩
              rw [addr_add,Nat.zero_add]
              refine .ptr b m n 0 _ s hs hn' fun es1 l1 h1 h2 h3=>?_
              rw [hl,Option.some.injEq] at h2
              subst h2
              rw [hse] at h1
              cases h1
              exact ⟨r,hb,rfl⟩
          cases ob with
          | pv es0 rows f=>
            simp only [Obj.dims,Option.some.injEq,Prod.mk.injEq] at hsl
            obtain ⟨rfl,rfl⟩:=hsl
            exact fin _ hor rfl (by simp [rowsAV])
          | av es0 rows f=>
            simp only [Obj.dims,Option.some.injEq,Prod.mk.injEq] at hsl
            obtain ⟨rfl,rfl⟩:=hsl
            exact fin _ hor rfl rfl
          | map=>simp [Obj.dims] at hsl
          | loop=>simp [Obj.dims] at hsl
          | gone=>simp [Obj.dims] at hsl
    · cases hq
  · cases hq
end ops
theorem vrel_agg_inv {V:View} {x:AV} {v:Value} (h:VRel V x v) {cs:List AV} (hx:x=.agg cs∨∃ ps,x=.p (.agg ps)∧cs=ps.map .p):∃ vs:List Value,v=.agg vs.toArray∧cs.length=vs.length∧(∀ v∈vs,v.oneCell'=true)∧∀ (i:Nat) (c:AV) (v:Value),cs[i]? = some c→vs[i]? = some v→VRel V c v:=by
  rcases hx with rfl | ⟨ps,rfl,rfl⟩
  · cases h with | agg _ vs hl hone hr=>exact ⟨vs,rfl,hl,hone,hr⟩
  · cases h with
    | p h=>
      cases h with
      | agg _ vs hl hone hr=>
        refine ⟨vs,rfl,by simp [hl],hone,fun i c v hc hv=>?_⟩
        rw [List.getElem?_map,Option.map_eq_some_iff] at hc
        obtain ⟨q,hq,rfl⟩:=hc
        exact .p (hr i q v hq hv)
theorem vrel_tup_inv {V:View} {x:AV} {v:Value} (h:VRel V x v) {cs:List AV} (hx:x=.tup cs∨∃ ps,x=.p (.tup ps)∧cs=ps.map .p):∃ vs:List Value,v=.tuple vs.toArray∧cs.length=vs.length∧∀ (i:Nat) (c:AV) (v:Value),cs[i]? = some c→vs[i]? = some v→VRel V c v:=by
  rcases hx with rfl | ⟨ps,rfl,rfl⟩
  · cases h with | tup _ vs hl hr=>exact ⟨vs,rfl,hl,hr⟩
  · cases h with
    | p h=>
      cases h with
      | tup _ vs hl hr=>
        refine ⟨vs,rfl,by simp [hl],fun i c v hc hv=>?_⟩
        rw [List.getElem?_map,Option.map_eq_some_iff] at hc
        obtain ⟨q,hq,rfl⟩:=hc
        exact .p (hr i q v hq hv)
theorem part_ok {V:View} {t:TypeId} {s:Nat} {g:Bool} (hs:tySize p t=some s) (hg:tyAgg p t=some g) {cs:List AV} {vs:List Value} (hl:cs.length=vs.length) (hone:∀ v∈vs,v.oneCell'=true) (hr:∀ (i:Nat) (c:AV) (v:Value),cs[i]? = some c→vs[i]? = some v→VRel V c v) {off:Nat} {x:AV} (h:(part off s cs).bind (ofCells g)=some x) (w:World) :
    ∃ v,(Go.part t vs.toArray off).run p w=.ok v w∧VRel V x v:=by
  simp only [Option.bind_eq_some_iff] at h
  obtain ⟨ps,hps,hq⟩:=h
  obtain ⟨hle,hpe⟩:=part_some hps
  obtain ⟨hpl,hget⟩:=part_get hps
  have hvs:∀ (i:Nat) (c:AV) (v:Value),ps[i]? = some c→((vs.drop off).take s)[i]? = some v→VRel V c v:=by
    intro i c v hc hv
    have hi:i<s:=by have:=(List.getElem?_eq_some_iff.1 hc).1;omega
    rw [hget i hi] at hc
    rw [List.getElem?_take_of_lt hi,List.getElem?_drop] at hv
    exact hr _ c v hc hv
  obtain ⟨h1,h2⟩:=ofCells_rel hq (vs:=(vs.drop off).take s) (by rw [hpl];simp;omega) (fun v hv=>hone v (List.mem_of_mem_drop (List.mem_of_mem_take hv))) hvs
  refine ⟨_,?_,h1⟩
  cases g with
  | true=>
    rw [run_part_agg hg hs,if_pos rfl]
    congr 2
    apply Array.ext'
    simp
  | false=>
    have:=h2 rfl
    have hs1:s=1:=by omega
    subst hs1
    have hlt:off<vs.length:=by omega
    rw [run_part_leaf hg (xs:=vs.toArray) (off:=off) (v:=vs[off]) (by simp [hlt]),if_neg (by simp)]
    congr 1
    rw [List.drop_eq_getElem_cons hlt]
    rfl
theorem ofP_bind {off s:Nat} {g:Bool} {cs:List PV} {x:AV} (h:((part off s cs).bind (ofCellsP g)).map .p=some x):(part off s (cs.map .p)).bind (ofCells g)=some x:=by
  rw [Option.map_bind] at h
  simp only [Function.comp_def,ofCellsP_eq] at h
  rw [part_map]
  cases hp:part off s cs with
  | none=>simp [hp] at h
  | some ps=>simpa [hp] using h
theorem run_len {o:Oper} {a:Act} {c:Call} (hop:o.op=.call c) (hb:c.callee=.builtin .len) {v:Value} {w:World} (h:(Builtin.len_ c.argTypes o.type (c.args.map a.eval)).run p w=.ok v w):(execOp a.eval o).run p w=.ok (.value v) w:=by
  simp [execOp,hop,resolve,hb,invoke,builtin,h]
theorem q_lenA {V:View} {τ:Tm} {a:Act} {o:Oper} {av:AV} {c:Call} {t e:TypeId} {n:Nat} {x:Operand} (hop:o.op=.call c) (hb:c.callee=.builtin .len) (hty:c.argTypes[0]? = some t) (ht:p.underlying t=some (.array n e)∨∃ u,p.underlying t=some (.pointer u)∧p.underlying u=some (.array n e)) (hx0:c.args[0]? = some x) (hq:quiet V.σ τ (.lenA n)=some av):∃ v,(execOp a.eval o).run p V.w=.ok (.value v) V.w∧VRel V av v:=by
  simp only [quiet,Option.some.injEq] at hq
  subst hq
  refine ⟨.int .i64 (Int.ofNat n),run_len hop hb ?_,.p (.int _ _)⟩
  rcases ht with ht | ⟨u,ht,hu⟩
  · simp [Builtin.len_,hty,hx0,run_under ht,goInt]
  · simp [Builtin.len_,hty,hx0,run_under ht,run_under hu,goInt]
theorem minmax_ok {V:View} (mx:Bool):∀ (ys:List AV) (vs:List Value) (x z:PV) (v:Value),minmaxL mx x ys=some z→ys.length=vs.length→(∀ (i:Nat) (c:AV) (v:Value),ys[i]? = some c→vs[i]? = some v→VRel V c v)→PRel V.w V.ok x v →
    ∃ u,(vs.foldlM (if mx then Builtin.max2 else Builtin.min2) v).run p V.w=.ok u V.w∧PRel V.w V.ok z u:=by
  intro ys
  induction ys with
  | nil=>
    intro vs x z v h hl _ hv
    simp only [minmaxL,Option.some.injEq] at h
    subst h
    match vs,hl with
    | [],_=>exact ⟨v,rfl,hv⟩
  | cons y ys ih=>
    intro vs x z v h hl hr hv
    match vs,hl with
    | u :: us,hl=>
      unfold minmaxL at h
      split at h
      · rename_i heq;cases heq
      · rename_i y' r heq
        cases heq
        simp only [Option.bind_eq_some_iff] at h
        obtain ⟨z',hz',h⟩:=h
        obtain ⟨k,i1,k',i2,rfl,rfl,rfl⟩:∃ k i1 k' i2,x=.int k i1∧y'=.int k' i2∧z'=.int k (if mx then max i1 i2 else min i1 i2):=by
          cases x<;>cases y'<;>simp [minmax2] at hz' ⊢
          exact ⟨_,_,⟨rfl,rfl⟩,_,_,⟨rfl,rfl⟩,hz'.symm⟩
        cases hv
        have:=(hr 0 _ u rfl rfl).int_inv
        subst this
        obtain ⟨u',h1,h2⟩:=ih us _ z (.int k (if mx then max i1 i2 else min i1 i2)) h (by simpa using hl) (fun i c v hc hv=>hr (i+1) c v (by simpa using hc) (by simpa using hv)) (.int _ _)
        refine ⟨u',?_,h2⟩
        rw [List.foldlM_cons,Sem.run_bind]
        have:((if mx=true then Builtin.max2 else Builtin.min2) (.int k i1) (.int k' i2)).run p V.w=.ok (.int k (if mx then max i1 i2 else min i1 i2)) V.w:=by
          cases mx
          · simp only [Bool.false_eq_true,if_false,Builtin.min2,Sem.run_pure]
            congr 2
            split<;>omega
          · simp only [if_true,Builtin.max2,Sem.run_pure]
            congr 2
            split<;>omega
        rw [this]
        exact h1
      · cases h
section ops
variable {V:View} {τ:Tm} {nt:Nat} {a:Act} (hT:TRel V τ nt a.tmps) {o:Oper} {av:AV}
include hT
theorem q_idxA {t:TypeId} {len:Nat} {e:TypeId} {es:Nat} {g:Bool} {x i:Operand} {x' i':O} (hop:o.op=.index t x i) (ht:p.underlying t=some (.array len e)) (he:tySize p e=some es) (hg:tyAgg p e=some g) (hx:opd x=some x') (hi:opd i=some i') (hq:quiet V.σ τ (.idxA len es g x' i')=some av):∃ v,(execOp a.eval o).run p V.w=.ok (.value v) V.w∧VRel V av v:=by
  simp only [quiet,Option.bind_eq_some_iff] at hq
  obtain ⟨n,hn,hq⟩:=hq
  obtain ⟨k,hk⟩:=natOf_rel hn (opd_rel hT hi)
  have hv:=opd_rel hT hx
  split at hq
  · rename_i hlt
    have main:∀ (cs:List AV) (vs:List Value),a.eval x=.agg vs.toArray→cs.length=vs.length→(∀ v∈vs,v.oneCell'=true)→(∀ (i:Nat) (c:AV) (v:Value),cs[i]? = some c→vs[i]? = some v→VRel V c v)→(part (n*es) es cs).bind (ofCells g)=some av→∃ v,(execOp a.eval o).run p V.w=.ok (.value v) V.w∧VRel V av v:=by
      intro cs vs e1 hl hone hr hq
      obtain ⟨v,h1,h2⟩:=part_ok he hg hl hone hr hq V.w
      refine ⟨v,?_,h2⟩
      have hlt':¬ len≤n:=by omega
      simp [execOp,hop,hk,e1,Instr.index,asIntOf,run_under ht,run_size he,h1,hlt']
    split at hq
    · rename_i cs he'
      rw [he'] at hv
      obtain ⟨vs,e1,hl,hone,hr⟩:=vrel_agg_inv hv (.inr ⟨cs,rfl,rfl⟩)
      exact main _ vs e1 hl hone hr (ofP_bind hq)
    · rename_i cs he'
      rw [he'] at hv
      obtain ⟨vs,e1,hl,hone,hr⟩:=vrel_agg_inv hv (.inl rfl)
      exact main _ vs e1 hl hone hr hq
    · cases hq
  · cases hq
theorem q_idxS {t:TypeId} {x i:Operand} {x' i':O} (hop:o.op=.index t x i) (ht:p.underlying t=some .string) (hx:opd x=some x') (hi:opd i=some i') (hq:quiet V.σ τ (.idxS x' i')=some av):∃ v,(execOp a.eval o).run p V.w=.ok (.value v) V.w∧VRel V av v:=by
  simp only [quiet,Option.bind_eq_some_iff] at hq
  obtain ⟨n,hn,hq⟩:=hq
  obtain ⟨k,hk⟩:=natOf_rel hn (opd_rel hT hi)
  have hv:=opd_rel hT hx
  split at hq
  · rename_i s hs
    rw [hs] at hv
    simp only [Option.map_eq_some_iff] at hq
    obtain ⟨b,hb,rfl⟩:=hq
    exact ⟨.int .u8 b.toNat,by simp [execOp,hop,hk,hv.str_inv,Instr.index,asIntOf,run_under ht,hb],.p (.int _ _)⟩
  · cases hq
theorem q_extract {x:Operand} {x':O} {k:Nat} (hop:o.op=.extract x k) (hx:opd x=some x') (hq:quiet V.σ τ (.extract x' k)=some av):∃ v,(execOp a.eval o).run p V.w=.ok (.value v) V.w∧VRel V av v:=by
  have hv:=opd_rel hT hx
  have main:∀ (cs:List AV) (vs:List Value),a.eval x=.tuple vs.toArray→cs.length=vs.length→(∀ (i:Nat) (c:AV) (v:Value),cs[i]? = some c→vs[i]? = some v→VRel V c v)→cs[k]? = some av→∃ v,(execOp a.eval o).run p V.w=.ok (.value v) V.w∧VRel V av v:=by
    intro cs vs e1 hl hr hq
    obtain ⟨u,hu,hru⟩:=tup_get hl hr hq
    exact ⟨u,by simp [execOp,hop,e1,Instr.extract,hu],hru⟩
  simp only [quiet] at hq
  split at hq
  · rename_i vs he
    rw [he] at hv
    obtain ⟨us,e1,hl,hr⟩:=vrel_tup_inv hv (.inr ⟨vs,rfl,rfl⟩)
    exact main _ us e1 hl hr (by rw [List.getElem?_map];exact hq)
  · rename_i vs he
    rw [he] at hv
    obtain ⟨us,e1,hl,hr⟩:=vrel_tup_inv hv (.inl rfl)
    exact main _ us e1 hl hr hq
  · cases hq
theorem q_lenS {c:Call} {t e:TypeId} {x:Operand} {x':O} (hop:o.op=.call c) (hb:c.callee=.builtin .len) (hty:c.argTypes[0]? = some t) (ht:p.underlying t=some (.slice e)) (hx0:c.args[0]? = some x) (hx:opd x=some x') (hq:quiet V.σ τ (.lenS x')=some av):∃ v,(execOp a.eval o).run p V.w=.ok (.value v) V.w∧VRel V av v:=by
  have hv:=opd_rel hT hx
  simp only [quiet,Option.map_eq_some_iff] at hq
  obtain ⟨n,hn,rfl⟩:=hq
  have:∃ ad cp,a.eval x=.slice ad n cp:=by
    unfold lenS at hn
    split at hn
    · rename_i rows he
      rw [he] at hv
      obtain ⟨ad,cp,e1,_⟩:=rows_lst hv
      simp only [Option.some.injEq] at hn
      subst hn
      exact ⟨ad,cp,e1⟩
    · rename_i he
      rw [he] at hv
      cases hn
      generalize a.eval x=vx at hv
      cases hv with | nils ad=>exact ⟨ad,0,rfl⟩
    · rename_i b m he
      rw [he] at hv
      split at hn
      · cases hn
        generalize a.eval x=vx at hv
        cases hv with | sl _ _ ad cp=>exact ⟨ad,cp,rfl⟩
      · cases hn
    · cases hn
  obtain ⟨ad,cp,e1⟩:=this
  refine ⟨.int .i64 (Int.ofNat n),run_len hop hb ?_,.p (.int _ _)⟩
  simp [Builtin.len_,hty,hx0,e1,run_under ht,goInt]
theorem q_lenT {c:Call} {t:TypeId} {x:Operand} {x':O} (hop:o.op=.call c) (hb:c.callee=.builtin .len) (hty:c.argTypes[0]? = some t) (ht:p.underlying t=some .string) (hx0:c.args[0]? = some x) (hx:opd x=some x') (hq:quiet V.σ τ (.lenT x')=some av):∃ v,(execOp a.eval o).run p V.w=.ok (.value v) V.w∧VRel V av v:=by
  have hv:=opd_rel hT hx
  simp only [quiet] at hq
  split at hq
  · rename_i s he
    cases hq
    rw [he] at hv
    refine ⟨.int .i64 (Int.ofNat s.size),run_len hop hb ?_,.p (.int _ _)⟩
    simp [Builtin.len_,hty,hx0,hv.str_inv,run_under ht,goInt]
  · cases hq
theorem q_lenM (hS:SRel p cq V) {c:Call} {t k e:TypeId} {x:Operand} {x':O} (hop:o.op=.call c) (hb:c.callee=.builtin .len) (hty:c.argTypes[0]? = some t) (ht:p.underlying t=some (.map k e)) (hx0:c.args[0]? = some x) (hx:opd x=some x') (hq:quiet V.σ τ (.lenM x')=some av):∃ v,(execOp a.eval o).run p V.w=.ok (.value v) V.w∧VRel V av v:=by
  have hv:=opd_rel hT hx
  simp only [quiet,Option.map_eq_some_iff] at hq
  obtain ⟨n,hn,rfl⟩:=hq
  refine ⟨.int .i64 (Int.ofNat n),run_len hop hb ?_,.p (.int _ _)⟩
  have key:∀ (r:Nat) (en:Array MapEntry) (clock:Nat),a.eval x=.map (some r)→V.w.heap[r]? = some (.map en clock)→en.size=n→(Builtin.len_ c.argTypes o.type (c.args.map a.eval)).run p V.w=.ok (.int .i64 (Int.ofNat n)) V.w:=by
    intro r en clock e1 hm hsz
    have hget:(getObj r).run p V.w=.ok (.map en clock) V.w:=by simp [getObj,Sem.run,hm]
    simp [Builtin.len_,hty,hx0,e1,run_under ht,goInt,hget,hsz]
  unfold lenM at hn
  split at hn
  · rename_i he
    cases hn
    rw [he] at hv
    cases hv with
    | p hv=>
      generalize hvx:a.eval x=vx at hv
      cases hv
      simp [Builtin.len_,hty,hx0,hvx,run_under ht,goInt]
  · rename_i es he
    cases hn
    rw [he] at hv
    cases hv with
    | p hv=>
      generalize hvx:a.eval x=vx at hv
      cases hv with
      | pmap _ r en clock hok hm hl hk hr=>exact key r en clock hvx hm hl.symm
  · rename_i b he
    rw [he] at hv
    split at hn
    · rename_i es f ho
      cases hn
      generalize hvx:a.eval x=vx at hv
      cases hv with
      | map _ r s hs h=>
        obtain ⟨l,hl⟩:=hS.own_of ho
        obtain ⟨r',en,clock,hb',hm⟩:=hS.obj b l _ hl ho
        have:s=.map:=by simpa [View.sh,ho,Obj.sh] using hs.symm
        have hrr:=h this l hl
        rw [hb',Option.some.injEq] at hrr
        subst hrr
        exact key r' en clock hvx hm.heap hm.len.symm
    · cases hn
  · cases hn
theorem q_mkfn {f:FuncId} {caps:Array Operand} {caps':List O} (hop:o.op=.makeFunc (.func f) #[] caps) (hc:omap opd caps.toList=some caps') (hq:quiet V.σ τ (.mkfn f caps')=some av):∃ v,(execOp a.eval o).run p V.w=.ok (.value v) V.w∧VRel V av v:=by
  simp only [quiet,Option.some.injEq] at hq
  subst hq
  obtain ⟨hl,hr⟩:=opds_rel hT hc
  refine ⟨.func (.func f) #[] (caps.toList.map a.eval).toArray,?_,mkFn_rel hl hr⟩
  simp [execOp,hop,Instr.makeFunc]
  apply Array.ext'
  simp
theorem q_nilchk {x:Operand} {x':O} (hop:o.op=.nilCheck x) (hx:opd x=some x') (hq:quiet V.σ τ (.nilchk x')=some av):∃ v,(execOp a.eval o).run p V.w=.ok (.value v) V.w∧VRel V av v:=by
  have hv:=opd_rel hT hx
  simp only [quiet] at hq
  generalize x'.val τ=z at hv hq
  refine ⟨a.eval x,?_,?_⟩
  · have:(a.eval x≠.pointer none∧a.eval x≠.nilIface∧a.eval x≠.nilFunc∧∀ m b c,a.eval x≠.func (.method m) b c):=by
      generalize a.eval x=vx at hv
      cases hv with
      | any=>simp at hq
      | p h=>cases h<;>simp at hq ⊢
      | _=>simp
    simp only [execOp,hop]
    split<;>rename_i h<;>first
      | (exact absurd h this.1)
      | (exact absurd h this.2.1)
      | (exact absurd h this.2.2.1)
      | (exact absurd h (this.2.2.2 _ _ _))
      | rfl
  · split at hq<;>first
      | (cases hq;done)
      | (cases hq;exact hv)
theorem q_minmax {c:Call} {mx:Bool} {args:List O} (hop:o.op=.call c) (hb:c.callee=.builtin (if mx then .max else .min)) (hc:omap opd c.args.toList=some args) (hq:quiet V.σ τ (.minmax mx args)=some av):∃ v,(execOp a.eval o).run p V.w=.ok (.value v) V.w∧VRel V av v:=by
  simp only [quiet] at hq
  split at hq
  · rename_i x r he
    simp only [Option.map_eq_some_iff] at hq
    obtain ⟨z,hz,rfl⟩:=hq
    obtain ⟨hl,hr⟩:=opds_rel hT hc
    rw [he] at hl hr
    match hvs:c.args.toList.map a.eval,hl with
    | v :: vs,hl=>
      rw [hvs] at hr
      obtain ⟨u,h1,h2⟩:=minmax_ok (p:=p) mx r vs x z v hz (by simpa using hl) (fun i c v hc hv=>hr (i+1) c v (by simpa using hc) (by simpa using hv)) (hr 0 _ v rfl rfl).p_inv
      refine ⟨u,?_,.p h2⟩
      have hargs:(c.args.map a.eval).toList=v :: vs:=by rw [Array.toList_map];exact hvs
      cases mx with
      | true=>
        simp only [if_true] at hb h1
        simp [execOp,hop,resolve,hb,invoke,builtin,Builtin.max_,hvs,h1]
      | false=>
        simp only [Bool.false_eq_true,if_false] at hb h1
        simp [execOp,hop,resolve,hb,invoke,builtin,Builtin.min_,hvs,h1]
  · cases hq
end ops
theorem run_bound {V:View} {x:AV} {v:Value} {n y:Nat} (h:natOf x=some n) (hv:VRel V x v) (hle:n≤y) (code:BoundsCode) (w:World):(Instr.sliceBound v y code).run p w=.ok n w:=by
  obtain ⟨k,rfl⟩:=natOf_rel h hv
  have:(0:Int)≤(n:Int)∧(n:Int)≤(y:Int):=by omega
  simp [Instr.sliceBound,asIntOf]
  intro h
  omega
def OptRel (V:View) (x:Option AV) (v:Option Value):Prop:=match x,v with
  | none,none=>True
  | some a,some b=>VRel V a b
  | _,_=>False
theorem bounds_some {len cap:Nat} {lo hi mx:Option AV} {b:Nat×Nat×Nat} (h:bounds len cap lo hi mx=some b):boundAt cap mx=some b.2.2∧(if mx.isSome && hi.isNone then none else boundAt len hi)=some b.2.1∧boundAt 0 lo=some b.1∧b.2.2≤cap∧b.2.1≤b.2.2∧b.1≤b.2.1:=by
  simp only [bounds,Option.bind_eq_some_iff] at h
  obtain ⟨m,hm,h',hh,l,hl,h⟩:=h
  split at h
  · rename_i hle
    cases h
    exact ⟨hm,hh,hl,hle⟩
  · cases h
theorem run_bounds {V:View} {isSlice:Bool} {len cap:Nat} {lo hi mx:Option AV} {vlo vhi vmx:Option Value} {b:Nat×Nat×Nat} (h0:boundAt cap mx=some b.2.2) (hh:(if mx.isSome && hi.isNone then none else boundAt len hi)=some b.2.1) (hl:boundAt 0 lo=some b.1) (hle:b.2.2≤cap∧b.2.1≤b.2.2∧b.1≤b.2.1)
    (h1:OptRel V lo vlo) (h2:OptRel V hi vhi) (h3:OptRel V mx vmx) (w:World):(Instr.sliceBounds isSlice len cap vlo vhi vmx).run p w=.ok b w:=by
  obtain ⟨l,h,m⟩:=b
  dsimp only at h0 hh hl hle
  unfold Instr.sliceBounds
  match mx,vmx,h3,hi,vhi,h2 with
  | some a,some b,h3,some c,some d,h2=>
    simp only [Option.isSome_some,Option.isNone_some,Bool.and_false,Bool.false_eq_true,if_false] at hh
    have e1:=run_bound (p:=p) h0 h3 hle.1 (if isSlice=true then .slice3Acap else .slice3Alen) w
    have e2:=run_bound (p:=p) hh h2 hle.2.1 .slice3B w
    match lo,vlo,h1 with
    | some e,some f,h1=>
      have e3:=run_bound (p:=p) hl h1 hle.2.2 .slice3C w
      simp [e1,e2,e3]
    | none,none,_=>
      simp only [boundAt,Option.some.injEq] at hl
      subst hl
      simp [e1,e2]
  | none,none,_,some c,some d,h2=>
    simp only [Option.isSome_none,Bool.false_and,Bool.false_eq_true,if_false] at hh
    simp only [boundAt,Option.some.injEq] at h0
    subst h0
    have e2:=run_bound (p:=p) hh h2 hle.2.1 (if isSlice=true then .sliceAcap else .sliceAlen) w
    match lo,vlo,h1 with
    | some e,some f,h1=>
      have e3:=run_bound (p:=p) hl h1 hle.2.2 .sliceB w
      simp [e2,e3]
    | none,none,_=>
      simp only [boundAt,Option.some.injEq] at hl
      subst hl
      simp [e2]
  | none,none,_,none,none,_=>
    simp only [Option.isSome_none,Bool.false_and,Bool.false_eq_true,if_false,boundAt,Option.some.injEq] at hh
    simp only [boundAt,Option.some.injEq] at h0
    subst h0;subst hh
    match lo,vlo,h1 with
    | some e,some f,h1=>
      have e3:=run_bound (p:=p) hl h1 hle.2.2 .sliceB w
      simp [e3]
    | none,none,_=>
      simp only [boundAt,Option.some.injEq] at hl
      subst hl
      simp
  | some a,some b,_,none,none,_=>simp at hh
theorem flatten_drop_take {α:Type} {rows:List (List α)} {es:Nat} (hes:∀ x∈rows,x.length=es) (l h:Nat):∀ (k:Nat) (a:α),((rows.take h).drop l).flatten[k]? = some a→rows.flatten[l*es+k]? = some a:=by
  intro k a hk
  have hes':∀ x∈(rows.take h).drop l,x.length=es:=fun x hx=>hes x (List.mem_of_mem_take (List.mem_of_mem_drop hx))
  obtain ⟨i,j,row,rfl,hi,hj⟩:=flatten_at hes' hk
  rw [List.getElem?_drop,List.getElem?_take] at hi
  split at hi
  · have:=flatten_get hes hi hj
    rw [show l*es+(i*es+j)=(l+i)*es+j by rw [Nat.add_mul];omega]
    exact this
  · cases hi
section ops
variable {V:View} {τ:Tm} {nt:Nat} {a:Act} (hT:TRel V τ nt a.tmps) {o:Oper} {av:AV}
include hT
theorem optO_rel {x:Option Operand} {x':Option O} (h:optO x=some x'):OptRel V (x'.map (O.val τ)) (x.map a.eval):=by
  cases x with
  | none=>simp only [optO,Option.some.injEq] at h;subst h;trivial
  | some y=>
    simp only [optO,Option.map_eq_some_iff] at h
    obtain ⟨z,hz,rfl⟩:=h
    exact opd_rel hT hz
theorem q_slcT {t:TypeId} {x:Operand} {x':O} {lo hi:Option Operand} {lo' hi':Option O} (hop:o.op=.slice t x lo hi none) (ht:p.underlying t=some .string) (hx:opd x=some x') (hlo:optO lo=some lo') (hhi:optO hi=some hi') (hq:quiet V.σ τ (.slcT x' lo' hi')=some av):∃ v,(execOp a.eval o).run p V.w=.ok (.value v) V.w∧VRel V av v:=by
  have hv:=opd_rel hT hx
  simp only [quiet] at hq
  split at hq
  · rename_i s he
    rw [he] at hv
    simp only [Option.map_eq_some_iff] at hq
    obtain ⟨b,hb,rfl⟩:=hq
    obtain ⟨h1,h2,h3,h4⟩:=bounds_some hb
    have hrun:=run_bounds (p:=p) (isSlice:=false) h1 h2 h3 h4 (optO_rel hT hlo) (optO_rel hT hhi) (vmx:=none) trivial V.w
    refine ⟨.string (s.extract b.1 b.2.1),?_,.p (.str _)⟩
    simp [execOp,hop,hv.str_inv,Instr.sliceAt,Instr.slice,run_under ht,hrun]
  · cases hq
theorem q_slcS {t e:TypeId} {es:Nat} {x:Operand} {x':O} {lo hi mx:Option Operand} {lo' hi' mx':Option O} (hop:o.op=.slice t x lo hi mx) (ht:p.underlying t=some (.slice e)) (he:tySize p e=some es) (hx:opd x=some x') (hlo:optO lo=some lo') (hhi:optO hi=some hi') (hmx:optO mx=some mx')
    (hq:quiet V.σ τ (.slcS es x' lo' hi' mx')=some av):∃ v,(execOp a.eval o).run p V.w=.ok (.value v) V.w∧VRel V av v:=by
  have hv:=opd_rel hT hx
  have run:∀ (ad:Option Addr) (len cap:Nat) (b:Nat×Nat×Nat),a.eval x=.slice ad len cap→(Instr.sliceBounds true len cap (lo.map a.eval) (hi.map a.eval) (mx.map a.eval)).run p V.w=.ok b V.w →
      (execOp a.eval o).run p V.w=.ok (.value (.slice (if b.2.2=b.1 then ad else ad.map (·.add (b.1*es))) (b.2.1-b.1) (b.2.2-b.1))) V.w:=by
    intro ad len cap b e1 hb
    simp [execOp,hop,e1,Instr.sliceAt,Instr.slice,run_under ht,hb,run_size he]
  simp only [quiet] at hq
  split at hq
  · rename_i rows he'
    rw [he'] at hv
    obtain ⟨ad,cap,e1,hcap,hrow⟩:=rows_lst hv
    split at hq
    · rename_i hwide
      have hwide':∀ r∈rows,r.length=es:=by
        intro r hr
        unfold wide at hwide
        rw [List.all_eq_true] at hwide
        simpa using hwide r hr
      simp only [Option.bind_eq_some_iff] at hq
      obtain ⟨b,hb,hq⟩:=hq
      obtain ⟨h1,h2,h3,h4⟩:=bounds_some hb
      split at hq
      ·
        rename_i hn
        cases hq
        have hmx0:mx'=none:=by simpa using hn
        subst hmx0
        have hmx1:mx=none:=by cases mx with | none=>rfl | some y=>simp [optO] at hmx
        subst hmx1
        have hb2:b.2.2=rows.length:=by simp only [Option.map_none,boundAt,Option.some.injEq] at h1;exact h1.symm
        have hrun:=run_bounds (p:=p) (isSlice:=true) (len:=rows.length) (cap:=cap) (b:=(b.1,b.2.1,cap)) (mx:=none) rfl h2 h3 ⟨Nat.le_refl _,by dsimp only;omega,h4.2.2⟩ (optO_rel hT hlo) (optO_rel hT hhi) (vmx:=none) trivial V.w
        refine ⟨_,run ad rows.length cap (b.1,b.2.1,cap) e1 hrun,?_⟩
        dsimp only
        have hlen:((rows.take b.2.1).drop b.1).length=b.2.1-b.1:=by simp;omega
        by_cases hz:(rows.take b.2.1).drop b.1=[]
        · rw [hz] at hlen ⊢
          simp only [List.length_nil] at hlen
          rw [← hlen]
          exact .p (.lst0 _ _)
        · have hne:rows≠[]:=by intro h0;subst h0;simp at hz
          obtain ⟨r,off,es',rfl,hok,hw,cv,hcell,hone,hrel⟩:=hrow hne
          have hes:es'=es:=by
            obtain ⟨x,hx⟩:=List.exists_mem_of_ne_nil rows hne
            rw [← hw x hx,hwide' x hx]
          subst hes
          have hpos:0<b.2.1-b.1:=by
            rw [← hlen]
            exact List.length_pos_iff.2 hz
          rw [if_neg (by omega),← hlen]
          simp only [Option.map_some,addr_add]
          refine .p (.lst _ r (off+b.1*es') (cap-b.1) es' (fun k=>cv (b.1*es'+k)) hz hok (by omega) (fun x hx=>hw x (List.mem_of_mem_take (List.mem_of_mem_drop hx))) ?_ ?_ ?_)
          · intro k hk
            rw [Nat.add_assoc]
            refine hcell _ ?_
            have:(b.1+(b.2.1-b.1))*es'≤rows.length*es':=Nat.mul_le_mul_right _ (by omega)
            rw [Nat.add_mul] at this
            rw [hlen] at hk
            omega
          · intro k hk
            refine hone _ ?_
            have:(b.1+(b.2.1-b.1))*es'≤rows.length*es':=Nat.mul_le_mul_right _ (by omega)
            rw [Nat.add_mul] at this
            rw [hlen] at hk
            omega
          · intro k q hk
            exact hrel _ q (flatten_drop_take hw b.1 b.2.1 k q hk)
      · split at hq
        · rename_i hz
          cases hq
          cases hmx':mx' with
          | none=>simp [hmx'] at *
          | some mo=>
            subst hmx'
            cases mx with
            | none=>simp [optO] at hmx
            | some y=>
              have hrun:=run_bounds (p:=p) (isSlice:=true) (len:=rows.length) (cap:=cap) (b:=b) (mx:=some (mo.val τ)) h1 h2 h3 ⟨by omega,h4.2.1,h4.2.2⟩ (optO_rel hT hlo) (optO_rel hT hhi) (optO_rel hT hmx) V.w
              refine ⟨_,run ad rows.length cap b e1 hrun,?_⟩
              have hb1:b.2.1-b.1=0:=by omega
              have hb2:b.2.2-b.1=0:=by omega
              rw [hb1,hb2]
              exact .nils _
        · cases hq
    · cases hq
  · rename_i he'
    rw [he'] at hv
    simp only [Option.map_eq_some_iff] at hq
    obtain ⟨b,hb,rfl⟩:=hq
    obtain ⟨h1,h2,h3,h4⟩:=bounds_some hb
    generalize hvx:a.eval x=vx at hv
    cases hv with
    | nils ad=>
      have hrun:=run_bounds (p:=p) (isSlice:=true) (len:=0) (cap:=0) h1 h2 h3 h4 (optO_rel hT hlo) (optO_rel hT hhi) (optO_rel hT hmx) V.w
      refine ⟨_,run ad 0 0 b hvx hrun,?_⟩
      have hb1:b.2.1-b.1=0:=by omega
      have hb2:b.2.2-b.1=0:=by omega
      rw [hb1,hb2]
      exact .nils _
  · cases hq
end ops
theorem run_checkKey {kl:Leaf} {kt:TypeId} (hl:leafOf p kt=some kl) {k:PV} (hk:isLeaf kl k=true) {V:View} {v:Value} (hv:PRel V.w V.ok k v) (empty:Bool) (n:Nat) (w:World):(Instr.checkKey empty (n+1) kt v).run p w=.ok () w:=by
  unfold isLeaf at hk
  split at hk
  · cases hv
    obtain ⟨k',hk'⟩:=leafOf_int hl
    simp [Instr.checkKey,run_under hk']
  · cases hv
    simp [Instr.checkKey,run_under (leafOf_str hl)]
  · cases hv
    simp [Instr.checkKey,run_under (leafOf_bool hl)]
  · cases hk
theorem sameNow_ok {kl:Leaf} {kt:TypeId} (hl:leafOf p kt=some kl) {a b:PV} {r:Bool} (h:eqLeaf kl a b=some r) {w:World} {ok:Nat→Prop} {va vb:Value} (ha:PRel w ok a va) (hb:PRel w ok b vb) {d:TypeDesc} (hd:p.underlying kt=some d):Instr.sameNow d va vb=some r:=by
  unfold eqLeaf at h
  split at h
  · cases ha;cases hb
    obtain ⟨k',hk'⟩:=leafOf_int hl
    rw [hk',Option.some.injEq] at hd
    subst hd
    simp only [Instr.sameNow]
    exact h
  · cases ha;cases hb
    rw [leafOf_str hl,Option.some.injEq] at hd
    subst hd
    simp only [Instr.sameNow,beq_toListBytes]
    exact h
  · cases ha;cases hb
    rw [leafOf_bool hl,Option.some.injEq] at hd
    subst hd
    simp only [Instr.sameNow]
    exact h
  · cases h
theorem findNow_ok {α:Type} {kl:Leaf} {kt:TypeId} (hl:leafOf p kt=some kl) {d:TypeDesc} (hd:p.underlying kt=some d) {w:World} {ok:Nat→Prop} {k:PV} {vk:Value} (hk:PRel w ok k vk) :
    ∀ (es:List (PV×α)) (ens:List MapEntry) (i0:Nat) (r:Option α),es.length=ens.length→(∀ (i:Nat) (x:PV×α) (e:MapEntry),es[i]? = some x→ens[i]? = some e→PRel w ok x.1 e.key)→findKey kl k es=some r →
      (r=none→Instr.findNow d vk ens i0=some none)∧(∀ a,r=some a→∃ j e x,Instr.findNow d vk ens i0=some (some (i0+j,e.val))∧es[j]? = some (x,a)∧ens[j]? = some e∧eqLeaf kl k x=some true∧∀ i,i<j→∀ y,es[i]? = some y→eqLeaf kl k y.1=some false):=by
  intro es
  induction es with
  | nil=>
    intro ens i0 r hlen _ h
    match ens,hlen with
    | [],_=>
      simp only [findKey,Option.some.injEq] at h
      subst h
      exact ⟨fun _=>rfl,fun a ha=>by cases ha⟩
  | cons x es ih=>
    intro ens i0 r hlen hr h
    match ens,hlen with
    | e :: ens,hlen=>
      have h0:=hr 0 x e rfl rfl
      unfold findKey at h
      split at h
      · rename_i heq
        cases h
        refine ⟨fun h=>(by cases h),fun a ha=>?_⟩
        cases ha
        refine ⟨0,e,x.1,?_,rfl,rfl,heq,fun i hi=>by omega⟩
        simp [Instr.findNow,sameNow_ok hl heq hk h0 hd]
      · rename_i heq
        obtain ⟨h1,h2⟩:=ih ens (i0+1) r (by simpa using hlen) (fun i x e hx he=>hr (i+1) x e (by simpa using hx) (by simpa using he)) h
        refine ⟨fun hn=>?_,fun a ha=>?_⟩
        · simp [Instr.findNow,sameNow_ok hl heq hk h0 hd,h1 hn]
        · obtain ⟨j,e',x',h3,h4,h5,h6,h7⟩:=h2 a ha
          refine ⟨j+1,e',x',?_,by simpa using h4,by simpa using h5,h6,?_⟩
          · simp only [Instr.findNow,sameNow_ok hl heq hk h0 hd,h3]
            rw [show i0+1+j=i0+(j+1) by omega]
          · intro i hi y hy
            cases i with
            | zero=>simp only [List.getElem?_cons_zero,Option.some.injEq] at hy;subst hy;exact heq
            | succ i=>exact h7 i (by omega) y (by simpa using hy)
      · cases h
theorem leafOf_under {kt:TypeId} {kl:Leaf} (hl:leafOf p kt=some kl):∃ d,p.underlying kt=some d:=by
  cases h:p.underlying kt with
  | none=>simp [leafOf,h] at hl
  | some d=>exact ⟨d,rfl⟩
theorem run_findKey {kt:TypeId} {d:TypeDesc} (hd:p.underlying kt=some d) {vk:Value} {ens:List MapEntry} {r:Option (Nat×Value)} (h:Instr.findNow d vk ens 0=some r) (w:World):(Instr.findKey kt vk ens).run p w=.ok r w:=by
  simp [Instr.findKey,run_under hd,h]
theorem putPart_some {α:Type} {off:Nat} {new row r:List α} (h:putPart off new row=some r):off+new.length≤row.length∧r=row.take off++new++row.drop (off+new.length):=by
  unfold putPart at h
  split at h
  · rename_i hle
    simp only [Option.some.injEq] at h
    exact ⟨hle,h.symm⟩
  · cases h
theorem putPart_get {α:Type} {off:Nat} {new row r:List α} (h:putPart off new row=some r):r.length=row.length∧∀ j,r[j]? = if off≤j∧j<off+new.length then new[j-off]? else row[j]? := by
  obtain ⟨h1,rfl⟩:=putPart_some h
  refine ⟨by simp;omega,fun j=>?_⟩
  by_cases hj:j<off
  · rw [if_neg (by omega),List.append_assoc,List.getElem?_append_left (by simp;omega),List.getElem?_take_of_lt hj]
  · by_cases hj2:j<off+new.length
    · rw [if_pos ⟨by omega,hj2⟩,List.append_assoc,List.getElem?_append_right (by simp;omega),List.getElem?_append_left (by simp;omega)]
      congr 1
      simp;omega
    · rw [if_neg (by omega),List.getElem?_append_right (by simp;omega),List.getElem?_drop]
      congr 1
      simp;omega
theorem foldl_set_get (vs:List Value):∀ (off k:Nat) (cs:Array Value) (j:Nat),((vs.zipIdx k).foldl (fun cs x=>cs.setIfInBounds (off+x.2) x.1) cs)[j]? = if off+k≤j∧j<off+k+vs.length∧j<cs.size then vs[j-(off+k)]? else cs[j]? := by
  induction vs with
  | nil=>intro off k cs j;rw [if_neg (by simp;omega)];rfl
  | cons v vs ih=>
    intro off k cs j
    rw [List.zipIdx_cons,List.foldl_cons,ih off (k+1)]
    simp only [Array.size_setIfInBounds,List.length_cons,Array.getElem?_setIfInBounds]
    by_cases h1:j=off+k
    · subst h1
      rw [if_neg (by omega)]
      by_cases h2:off+k<cs.size
      · rw [if_pos rfl,if_pos h2,if_pos (by omega)]
        simp
      · rw [if_pos rfl,if_neg h2,if_neg (by omega),Array.getElem?_eq_none (by omega)]
    · by_cases h2:off+(k+1)≤j∧j<off+(k+1)+vs.length∧j<cs.size
      · rw [if_pos h2,if_pos (by omega),show j-(off+k)=(j-(off+(k+1)))+1 by omega,List.getElem?_cons_succ]
      · rw [if_neg h2,if_neg (by omega),if_neg (by omega)]
theorem foldl_set_size (vs:List Value):∀ (off k:Nat) (cs:Array Value),((vs.zipIdx k).foldl (fun cs x=>cs.setIfInBounds (off+x.2) x.1) cs).size=cs.size:=by
  induction vs with
  | nil=>intro off k cs;rfl
  | cons v vs ih=>intro off k cs;rw [List.zipIdx_cons,List.foldl_cons,ih];simp
structure CRel (V:View) (cs:List AV) (vs:Array Value):Prop where
  len:cs.length=vs.size
  rel:∀ (i:Nat) (c:AV) (v:Value),cs[i]? = some c→vs[i]? = some v→VRel V c v
  one:∀ (k:Nat) (v:Value),vs[k]? = some v→v.oneCell'=true
theorem cellsOf_rel {V:View} {size:Nat} {g:Bool} {x:AV} {cs:List AV} (h:cellsOf size g x=some cs) {v:Value} (hv:VRel V x v):CRel V cs v.cells∧(g=true→∃ a,v=.agg a)∧(g=false→cs=[x]∧v.cells = #[v]∧v.oneCell'=true)∧(g=true→cs.length=size):=by
  unfold cellsOf at h
  cases g with
  | true=>
    simp only [if_true] at h
    split at h
    · rename_i ps
      split at h
      · rename_i hl
        cases h
        obtain ⟨vs,rfl,h1,h3,h2⟩:=vrel_agg_inv hv (.inr ⟨ps,rfl,rfl⟩)
        exact ⟨⟨by simpa [Value.cells] using h1,fun i c v hc hv=>h2 i c v hc (by simpa [Value.cells] using hv),fun k v hv=>h3 v (List.mem_of_getElem? (by simpa [Value.cells] using hv))⟩,fun _=>⟨_,rfl⟩,by simp,fun _=>by simpa using hl⟩
      · cases h
    · rename_i cs'
      split at h
      · rename_i hl
        cases h
        obtain ⟨vs,rfl,h1,h3,h2⟩:=vrel_agg_inv hv (.inl rfl)
        exact ⟨⟨by simpa [Value.cells] using h1,fun i c v hc hv=>h2 i c v hc (by simpa [Value.cells] using hv),fun k v hv=>h3 v (List.mem_of_getElem? (by simpa [Value.cells] using hv))⟩,fun _=>⟨_,rfl⟩,by simp,fun _=>hl⟩
      · cases h
    · cases h
  | false=>
    simp only [Bool.false_eq_true,if_false] at h
    have one:v.oneCell'=true∧cs=[x]:=by
      split at h<;>first | (cases h;done) | skip
      rename_i h1 h2 h3 h4 h5
      refine ⟨?_,by cases h;rfl⟩
      cases hv with
      | any=>exact absurd rfl h1
      | p hv=>cases hv<;>first | rfl | exact absurd rfl (h4 _) | exact absurd rfl (h5 _)
      | agg=>exact absurd rfl (h2 _)
      | tup=>exact absurd rfl (h3 _)
      | _=>rfl
    obtain ⟨h1,rfl⟩:=one
    have hc:v.cells = #[v]:=by cases v<;>first | rfl | (simp [Value.oneCell'] at h1)
    refine ⟨⟨by simp [hc],fun i c u hc' hu=>?_,fun k u hu=>?_⟩,by simp,fun _=>⟨rfl,hc,h1⟩,by simp⟩
    · rw [hc] at hu
      cases i with
      | zero=>simp at hc' hu;subst hc';subst hu;exact hv
      | succ i=>simp at hc'
    · rw [hc] at hu
      cases k with
      | zero=>simp at hu;subst hu;exact h1
      | succ k=>simp at hu
theorem fill_ok {V:View} {place:Nat→Option (Nat×Nat)}:∀ (ps:List (Nat×Nat×AV)) (qs:List (Nat×Value)) (cells:List AV) (vc:Array Value) (out:List AV),CRel V cells vc→fillP cells ps=some out→ps.length=qs.length →
    (∀ (i:Nat) (x:Nat×Nat×AV) (y:Nat×Value),ps[i]? = some x→qs[i]? = some y→place y.1=some (x.1,x.2.1)∧VRel V x.2.2 y.2)→∃ vo,Instr.fill place vc qs=some vo∧CRel V out vo:=by
  intro ps
  induction ps with
  | nil=>
    intro qs cells vc out hc h hl _
    match qs,hl with
    | [],_=>
      simp only [fillP,Option.some.injEq] at h
      subst h
      exact ⟨vc,rfl,hc⟩
  | cons x ps ih=>
    intro qs cells vc out hc h hl hr
    match qs,hl with
    | y :: qs,hl=>
      obtain ⟨hpl,hvr⟩:=hr 0 x y rfl rfl
      obtain ⟨off,size,v⟩:=x
      obtain ⟨i,u⟩:=y
      dsimp only at hpl hvr
      unfold fillP at h
      split at h
      · rename_i cs hcs
        split at h
        · rename_i hsz
          simp only [Option.bind_eq_some_iff] at h
          obtain ⟨cells',hput,h⟩:=h
          obtain ⟨⟨h1,h2,h1one⟩,_⟩:=cellsOf_rel hcs hvr
          obtain ⟨h3,h4⟩:=putPart_get hput
          obtain ⟨h5,_⟩:=putPart_some hput
          have hc':CRel V cells' ((u.cells.toList.zipIdx 0).foldl (fun cs x=>cs.setIfInBounds (off+x.2) x.1) vc):=by
            have hul:u.cells.toList.length=cs.length:=by rw [h1];simp
            refine ⟨by rw [foldl_set_size,h3,hc.1],fun j c w hcj hwj=>?_,fun j w hwj=>?_⟩
            · rw [h4 j] at hcj
              rw [foldl_set_get] at hwj
              by_cases hj:off≤j∧j<off+cs.length
              · rw [if_pos hj] at hcj
                rw [if_pos (by rw [hul];have:=hc.1;omega)] at hwj
                exact h2 _ c w hcj (by simpa using hwj)
              · rw [if_neg hj] at hcj
                rw [if_neg (by rw [hul];omega)] at hwj
                exact hc.2 j c w hcj hwj
            · rw [foldl_set_get] at hwj
              split at hwj
              · exact h1one _ w (by simpa using hwj)
              · exact hc.3 j w hwj
          obtain ⟨vo,h6,h7⟩:=ih qs cells' _ out hc' h (by simpa using hl) (fun i x y hx hy=>hr (i+1) x y (by simpa using hx) (by simpa using hy))
          refine ⟨vo,?_,h7⟩
          have hcsz:u.cells.size=size:=by rw [← h1];exact hsz
          simp only [Instr.fill,hpl]
          have hno:¬ (u.cells.size≠size∨off+u.cells.size > vc.size):=by
            rintro (h | h)
            · exact h hcsz
            · have e1:=hc.1
              omega
          rw [if_neg (by simpa only [Bool.or_eq_true,decide_eq_true_eq] using hno)]
          rw [← h6]
          congr 1
          rw [← Array.foldl_toList]
          simp
        · cases h
      · cases h
theorem push_all:∀ (ns:List Int) (acc:ByteArray),ns.foldl (fun r n=>r.push (UInt8.ofNat n.toNat)) acc=⟨acc.data++(ns.map fun n=>UInt8.ofNat n.toNat).toArray⟩
  | [],acc=>by simp
  | n :: ns,acc=>by
    rw [List.foldl_cons,push_all ns]
    simp [ByteArray.push]
def byteRow (r:List PV):Option UInt8:=match r with | [.int .u8 n]=>some (UInt8.ofNat n.toNat) | _=>none
theorem bytes_of:∀ {rows:List (List PV)} {bs:List UInt8},omap byteRow rows=some bs→∃ ns:List Int,rows=ns.map (fun n=>[PV.int .u8 n])∧bs=ns.map fun n=>UInt8.ofNat n.toNat
  | [],bs,h=>by cases h;exact ⟨[],rfl,rfl⟩
  | r :: rows,bs,h=>by
    simp only [omap] at h
    split at h
    · rename_i b hb
      split at h
      · rename_i bs' hbs
        cases h
        obtain ⟨ns,h1,h2⟩:=bytes_of hbs
        unfold byteRow at hb
        split at hb
        · rename_i n
          cases hb
          exact ⟨n :: ns,by rw [h1];rfl,by rw [h2];rfl⟩
        · cases hb
      · cases h
    · cases h
theorem flat_ns (ns:List Int):(ns.map fun n=>[PV.int .u8 n]).flatten=ns.map fun n=>PV.int .u8 n:=by
  induction ns with
  | nil=>rfl
  | cons n ns ih=>simp [ih]
section ops
variable {V:View} {τ:Tm} {nt:Nat} {a:Act} (hT:TRel V τ nt a.tmps) {o:Oper} {av:AV}
include hT
theorem q_b2s (hS:SRel p cq V) {s d e:TypeId} {x:Operand} {x':O} (hop:o.op=.convert s d x) (h1:p.underlying s=some (.slice e)) (h3:p.underlying e=some (.int .u8)) (h2:p.underlying d=some .string) (hx:opd x=some x') (hq:quiet V.σ τ (.b2s x')=some av):∃ v,(execOp a.eval o).run p V.w=.ok (.value v) V.w∧VRel V av v:=by
  have hv:=opd_rel hT hx
  simp only [quiet,Option.bind_eq_some_iff,Option.map_eq_some_iff] at hq
  obtain ⟨rows,hrows,bs,hbs,rfl⟩:=hq
  obtain ⟨ns,hr,hb⟩:=bytes_of (rows:=rows) (bs:=bs) hbs
  have fin:∀ (ad:Option Addr) (c:Nat),a.eval x=.slice ad ns.length c→(∀ b,ad=some b→(loadCells b ns.length).run p V.w=.ok (ns.map (Value.int .u8)).toArray V.w)→(ad=none→ns=[])→∃ v,(execOp a.eval o).run p V.w=.ok (.value v) V.w∧VRel V (.p (.str ⟨bs.toArray⟩)) v:=by
    intro ad c he hl h0
    refine ⟨.string ⟨bs.toArray⟩,?_,.p (.str _)⟩
    cases ad with
    | none=>
      have:=h0 rfl
      subst this
      subst hb
      simp [execOp,hop,he,convert,run_under h1,run_under h2,run_under h3,Conv.bytesToString]
      rfl
    | some b=>
      have hc:=run_bytesToString V.w b ns.length c ns (hl b rfl)
      rw [push_all] at hc
      have e1:(⟨ByteArray.empty.data++(ns.map fun n=>UInt8.ofNat n.toNat).toArray⟩:ByteArray)=⟨bs.toArray⟩:=by rw [hb];simp [ByteArray.empty,ByteArray.emptyWithCapacity];rfl
      rw [e1] at hc
      simp [execOp,hop,he,convert,run_under h1,run_under h2,run_under h3,hc]
  have nsv:∀ {f:Nat→Value},(∀ (k:Nat) (q:PV),rows.flatten[k]? = some q→PRel V.w V.ok q (f k))→∀ k (hk:k<ns.length),f k=.int .u8 ns[k]:=by
    intro f hf k hk
    have:rows.flatten[k]? = some (.int .u8 ns[k]):=by rw [hr,flat_ns,List.getElem?_map,List.getElem?_eq_getElem hk];rfl
    have:=hf k _ this
    generalize f k=z at this
    cases this
    rfl
  unfold rowsP at hrows
  split at hrows
  · rename_i rows' he
    cases hrows
    rw [he] at hv
    obtain ⟨ad,c,e1,hle,hrel⟩:=rows_lst hv
    have hlen:rows.length=ns.length:=by rw [hr];simp
    rw [hlen] at e1
    by_cases h0:ns=[]
    · subst h0
      exact fin ad c e1 (fun b _=>by simp [loadCells,loadCellsFrom]) (fun _=>rfl)
    · obtain ⟨r,off,es,hadd,hok,hes,cv,g1,g2,g3⟩:=hrel (by rw [hr];simpa using h0)
      have hes1:es=1:=by
        obtain ⟨n,hn⟩:=List.exists_mem_of_ne_nil ns h0
        have:=hes [.int .u8 n] (by rw [hr];exact List.mem_map.2 ⟨n,hn,rfl⟩)
        simpa using this.symm
      subst hes1
      subst hadd
      refine fin _ c e1 (fun b hb=>?_) (fun h=>by cases h)
      cases hb
      have hk:=run_loadCells_list (P:=p) V.w ⟨r,off,none⟩ (ns.map (Value.int .u8)) (fun j v hj=>by
        rw [List.getElem?_map,Option.map_eq_some_iff] at hj
        obtain ⟨n,hn,rfl⟩:=hj
        obtain ⟨hjl,hn⟩:=List.getElem?_eq_some_iff.1 hn
        rw [addr_add,g1 j (by rw [hlen];omega),nsv g3 j hjl,hn])
      rw [List.length_map] at hk
      exact hk
  · rename_i he
    cases hrows
    rw [he] at hv
    have:ns=[]:=by
      have:=congrArg List.length hr
      simp at this
      exact List.length_eq_zero_iff.1 this.symm
    subst this
    generalize hev:a.eval x=vx at hv
    cases hv with
    | nils ad=>exact fin ad 0 hev (fun b _=>by simp [loadCells,loadCellsFrom]) (fun _=>rfl)
  · rename_i b n he
    split at hrows
    · rename_i e9 rows' fr ho
      split at hrows
      · rename_i hn
        cases hrows
        rw [he] at hv
        obtain ⟨l,hl⟩:=hS.own_of ho
        have hvec:VecOk V l e9 (rowsAV rows):=hS.obj b l _ hl ho
        have hlen:rows.length=ns.length:=by rw [hr];simp
        generalize hev:a.eval x=vx at hv
        cases hv with
        | sl _ _ ad c sh hs hnn hp=>
          have hs':sh=.vec e9 n:=by
            have:View.sh V b=some (.vec e9 n):=by simp [View.sh,ho,Obj.sh,hn]
            rw [this] at hs
            exact (Option.some.inj hs).symm
          obtain ⟨ha,hcap⟩:=hp e9 l hs' hl
          rw [← hn,hlen] at hev
          by_cases h0:ns=[]
          · subst h0
            exact fin ad c hev (fun b _=>by simp [loadCells,loadCellsFrom]) (fun _=>rfl)
          · have hes1:e9=1:=by
              obtain ⟨m,hm⟩:=List.exists_mem_of_ne_nil ns h0
              have:=hvec.wide ([.int .u8 m].map .p) (by rw [hr];exact List.mem_map.2 ⟨_,List.mem_map.2 ⟨m,hm,rfl⟩,rfl⟩)
              simpa using this.symm
            subst hes1
            have hpos:0<ns.length:=List.length_pos_iff.2 h0
            have hc0:l.cap≠0:=by have:=hvec.cap;simp only [rowsAV,List.length_map] at this;omega
            have ha:=ha hc0
            subst ha
            cases hb:l.blk with
            | none=>exact absurd (hvec.nil hb) hc0
            | some r=>
              obtain ⟨cc,ct,hheap,hsize,hcells⟩:=hvec.cells r hb
              have haddr:l.addr=some ⟨r,0,none⟩:=by simp [Loc.addr,hb]
              rw [haddr] at hev
              refine fin _ c hev (fun b' hb'=>?_) (fun h=>by cases h)
              cases hb'
              have hk:=run_loadCells_list (P:=p) V.w ⟨r,0,none⟩ (ns.map (Value.int .u8)) (fun j v hj=>by
                rw [List.getElem?_map,Option.map_eq_some_iff] at hj
                obtain ⟨m,hm,rfl⟩:=hj
                have hfl:(rowsAV rows).flatten[j]? = some (.p (.int .u8 m)):=by
                  rw [rowsAV_flatten,hr,flat_ns,List.map_map,List.getElem?_map,hm]
                  rfl
                obtain ⟨v,v1,_,v3⟩:=hcells j _ hfl
                have hvv:v=.int .u8 m:=by
                  cases v3 with
                  | p h=>cases h;rfl
                rw [addr_add,cell_row hheap,Nat.zero_add,v1,hvv])
              rw [List.length_map] at hk
              exact hk
      · cases hrows
    · cases hrows
  · cases hrows
end ops
theorem zero_rel {t:TypeId} {cs:List AV} (h:zeroCells p t=some cs) (V:View):∃ i z,p.info? t=some i∧i.zero=some z∧CRel V cs z.cells:=by
  unfold zeroCells at h
  simp only [Option.bind_eq_some_iff] at h
  obtain ⟨i,hi,z,hz,h⟩:=h
  obtain ⟨h1,h2⟩:=omap_some h
  refine ⟨i,z,hi,hz,⟨by simpa using h1,fun k c v hc hv=>?_,fun k v hv=>?_⟩⟩
  · obtain ⟨b,hb,hab⟩:=h2 k v (by simpa using hv)
    rw [hc,Option.some.injEq] at hb
    subst hb
    exact (absCell_rel hab).1
  · obtain ⟨b,hb,hab⟩:=h2 k v (by simpa using hv)
    exact (absCell_rel (V:=V) hab).2
section ops
variable {V:View} {τ:Tm} {nt:Nat} {a:Act} (hT:TRel V τ nt a.tmps) {o:Oper} {av:AV}
include hT
theorem q_build {t:TypeId} {parts:Array (Nat×Operand)} {zero:List AV} {parts':List (Nat×Nat×O)} (hop:o.op=.build t parts) (hz:zeroCells p t=some zero) (hp:partsOf p t parts=some parts') (hq:quiet V.σ τ (.build zero parts')=some av):∃ v,(execOp a.eval o).run p V.w=.ok (.value v) V.w∧VRel V av v:=by
  simp only [quiet,Option.map_eq_some_iff] at hq
  obtain ⟨cells,hf,rfl⟩:=hq
  obtain ⟨i,z,hi,hz',hcr⟩:=zero_rel hz V
  have fin:∀ vo,p.built t (parts.map fun (i,x)=>(i,a.eval x)).toList=some vo→CRel V cells vo→∃ v,(execOp a.eval o).run p V.w=.ok (.value v) V.w∧VRel V (mkAgg cells) v:=by
    intro vo hb hc
    refine ⟨.agg vo,by simp [execOp,hop,run_build V.w t _ vo hb],?_⟩
    have:=mkAgg_rel (V:=V) (cs:=cells) (vs:=vo.toList) (by simpa using hc.1) (fun v hv=>by
      obtain ⟨i,hi⟩:=List.getElem?_of_mem hv
      exact hc.3 i v (by simpa using hi)) (fun i c v h1 h2=>hc.2 i c v h1 (by simpa using h2))
    simpa using this
  unfold partsOf at hp
  split at hp
  · rename_i fs ht
    simp only [Option.bind_eq_some_iff] at hp
    obtain ⟨places,hpl,hp⟩:=hp
    obtain ⟨h1,h2⟩:=omap_some hp
    obtain ⟨vo,h3,h4⟩:=fill_ok (place:=(places.toArray[·]?)) (parts'.map fun x=>(x.1,x.2.1,x.2.2.val τ)) ((parts.map fun (i,x)=>(i,a.eval x)).toList) zero z.cells cells hcr hf (by simp [h1]) (by
      intro k x y hx hy
      rw [List.getElem?_map,Option.map_eq_some_iff] at hx
      obtain ⟨x',hx',rfl⟩:=hx
      rw [Array.toList_map,List.getElem?_map,Option.map_eq_some_iff] at hy
      obtain ⟨y',hy',rfl⟩:=hy
      obtain ⟨b,hb,hab⟩:=h2 k y' hy'
      rw [hx',Option.some.injEq] at hb
      subst hb
      simp only [Option.bind_eq_some_iff,Option.map_eq_some_iff] at hab
      obtain ⟨pl,hpl',oo,hoo,rfl⟩:=hab
      exact ⟨by simpa using hpl',opd_rel hT hoo⟩)
    refine fin vo ?_ h4
    simp only [Program.built,hi,ht,hz',hpl]
    exact h3
  · rename_i n e ht
    simp only [Option.bind_eq_some_iff] at hp
    obtain ⟨s,hs,hp⟩:=hp
    obtain ⟨h1,h2⟩:=omap_some hp
    unfold tySize at hs
    simp only [Option.map_eq_some_iff] at hs
    obtain ⟨ie,hie,rfl⟩:=hs
    obtain ⟨vo,h3,h4⟩:=fill_ok (place:=fun i=>some (i*ie.size,ie.size)) (parts'.map fun x=>(x.1,x.2.1,x.2.2.val τ)) ((parts.map fun (i,x)=>(i,a.eval x)).toList) zero z.cells cells hcr hf (by simp [h1]) (by
      intro k x y hx hy
      rw [List.getElem?_map,Option.map_eq_some_iff] at hx
      obtain ⟨x',hx',rfl⟩:=hx
      rw [Array.toList_map,List.getElem?_map,Option.map_eq_some_iff] at hy
      obtain ⟨y',hy',rfl⟩:=hy
      obtain ⟨b,hb,hab⟩:=h2 k y' hy'
      rw [hx',Option.some.injEq] at hb
      subst hb
      simp only [Option.map_eq_some_iff] at hab
      obtain ⟨oo,hoo,rfl⟩:=hab
      exact ⟨rfl,opd_rel hT hoo⟩)
    refine fin vo ?_ h4
    simp only [Program.built,hi,ht,hz',hie]
    exact h3
  · cases hp
theorem q_lookup (hS:SRel p cq V) {t kt e:TypeId} {kl:Leaf} {zero:AV} {x k:Operand} {x' k':O} {ok:Bool} (hop:o.op=.lookup t x k ok) (ht:p.underlying t=some (.map kt e)) (hl:leafOf p kt=some kl) (hz:((p.info? e).bind fun i=>i.zero.bind absV)=some zero) (hx:opd x=some x') (hk:opd k=some k')
    (hq:quiet V.σ τ (.lookup kl zero x' k' ok)=some av):∃ v,(execOp a.eval o).run p V.w=.ok (.value v) V.w∧VRel V av v:=by
  have hv:=opd_rel hT hx
  have hkv:=opd_rel hT hk
  simp only [quiet] at hq
  split at hq
  · rename_i kp hkp
    rw [hkp] at hkv
    have hkr:=hkv.p_inv
    split at hq
    · rename_i hleaf
      simp only [Option.bind_eq_some_iff,Option.some.injEq] at hq
      obtain ⟨r,hr,rfl⟩:=hq
      obtain ⟨d,hd⟩:=leafOf_under hl
      simp only [Option.bind_eq_some_iff] at hz
      obtain ⟨ie,hie,z,hzz,hz⟩:=hz
      have hzrun:(zeroValue e).run p V.w=.ok z V.w:=by simp [zeroValue,typeInfo,hie,hzz]
      have fin:∀ (ens:Array MapEntry) (rr:Option (Nat×Value)),((a.eval x=.map none∧ens = #[])∨∃ rb clock,a.eval x=.map (some rb)∧V.w.heap[rb]? = some (.map ens clock)) →
          Instr.findNow d (a.eval k) ens.toList 0=some rr→(rr=none→r=none)→(∀ j v,rr=some (j,v)→∃ c,r=some c∧VRel V c v)→∃ v,(execOp a.eval o).run p V.w=.ok (.value v) V.w∧VRel V (if ok=true then mkTup [r.getD zero,.p (.bool r.isSome)] else r.getD zero) v:=by
        intro ens rr he hf h1 h2
        have hck:=run_checkKey hl hleaf hkr ens.isEmpty 9999 V.w
        have hfk:=run_findKey (p:=p) hd hf V.w
        have out:∀ (v:Value) (okv:Bool),VRel V (r.getD zero) v→r.isSome=okv→VRel V (if ok=true then mkTup [r.getD zero,.p (.bool r.isSome)] else r.getD zero) (if ok=true then .tuple #[v,.bool okv] else v):=by
          intro v okv hv1 hv2
          cases ok with
          | false=>exact hv1
          | true=>
            simp only [if_true]
            refine mkTup_rel (vs:=[v,.bool okv]) rfl fun i c u hc hu=>?_
            match i with
            | 0=>simp at hc hu;subst hc;subst hu;exact hv1
            | 1=>simp at hc hu;subst hc;subst hu;rw [hv2];exact .p (.bool _)
            | i+2=>simp at hc
        have run:∀ (v:Value) (okv:Bool),(match rr with | some (_,v)=>(pure (v,true):Sem (Value×Bool)) | none=>pure (z,false)).run p V.w=.ok (v,okv) V.w→(execOp a.eval o).run p V.w=.ok (.value (if ok=true then .tuple #[v,.bool okv] else v)) V.w:=by
          intro v okv hm
          rcases he with ⟨e1,rfl⟩ | ⟨rb,clock,e1,hm'⟩
          · have hck':=run_checkKey hl hleaf hkr true 9999 V.w
            cases rr with
            | none=>
              simp only [Sem.run_pure,Result.ok.injEq,Prod.mk.injEq,and_true] at hm
              obtain ⟨rfl,rfl⟩:=hm
              have hfk':(Instr.findKey kt (a.eval k) []).run p V.w=.ok none V.w:=hfk
              simp [execOp,hop,e1,Instr.lookup,run_under ht,hck',hfk',hzrun]
            | some jv=>simp [Instr.findNow] at hf
          · have hget:(getObj rb).run p V.w=.ok (.map ens clock) V.w:=by simp [getObj,Sem.run,hm']
            cases rr with
            | none=>
              simp only [Sem.run_pure,Result.ok.injEq,Prod.mk.injEq,and_true] at hm
              obtain ⟨rfl,rfl⟩:=hm
              simp [execOp,hop,e1,Instr.lookup,run_under ht,hget,hck,hfk,hzrun]
            | some jv=>
              simp only [Sem.run_pure,Result.ok.injEq,Prod.mk.injEq,and_true] at hm
              obtain ⟨rfl,rfl⟩:=hm
              simp [execOp,hop,e1,Instr.lookup,run_under ht,hget,hck,hfk]
        cases rr with
        | none=>
          have:=h1 rfl
          subst this
          exact ⟨_,run z false rfl,out z false (absV_rel hz) rfl⟩
        | some jv=>
          obtain ⟨j,v⟩:=jv
          obtain ⟨c,rfl,hc⟩:=h2 j v rfl
          exact ⟨_,run v true rfl,out v true hc rfl⟩
      split at hr
      · rename_i he
        cases hr
        rw [he] at hv
        have e1:a.eval x=.map none:=by
          cases hv with
          | p hv=>
            generalize a.eval x=vx at hv
            cases hv
            rfl
        exact fin #[] none (.inl ⟨e1,rfl⟩) rfl (fun _=>rfl) (by intro j v h;cases h)
      · rename_i es he
        rw [he] at hv
        cases hv with
        | p hv=>
          generalize hvx:a.eval x=vx at hv
          cases hv with
          | pmap _ rb en clock hok hm hlen hkk hvv=>
            simp only [Option.map_eq_some_iff] at hr
            obtain ⟨r0,hr0,rfl⟩:=hr
            obtain ⟨h1,h2⟩:=findNow_ok (p:=p) hl hd hkr es en.toList 0 r0 (by simpa using hlen) (fun i x e hx he=>hkk i x e hx (by simpa using he)) hr0
            cases r0 with
            | none=>exact fin en none (.inr ⟨rb,clock,hvx,hm⟩) (h1 rfl) (fun _=>rfl) (by intro j v h;cases h)
            | some c=>
              obtain ⟨j,e',x',h3,h4,h5,_⟩:=h2 c rfl
              refine fin en (some (0+j,e'.val)) (.inr ⟨rb,clock,hvx,hm⟩) h3 (by intro h;cases h) ?_
              intro j' v h
              cases h
              exact ⟨.p c,rfl,.p (hvv j _ e' h4 (by simpa using h5))⟩
      · rename_i b he
        rw [he] at hv
        split at hr
        · rename_i es f ho
          generalize hvx:a.eval x=vx at hv
          cases hv with
          | map _ rb s hs h=>
            obtain ⟨l,hlo⟩:=hS.own_of ho
            obtain ⟨r',en,clock,hb',hm⟩:=hS.obj b l _ hlo ho
            have:s=.map:=by simpa [View.sh,ho,Obj.sh] using hs.symm
            have hrr:=h this l hlo
            rw [hb',Option.some.injEq] at hrr
            subst hrr
            obtain ⟨h1,h2⟩:=findNow_ok (p:=p) hl hd hkr es en.toList 0 r (by simpa using hm.len) (fun i x e hx he=>hm.key i x e hx (by simpa using he)) hr
            cases r with
            | none=>exact fin en none (.inr ⟨r',clock,hvx,hm.heap⟩) (h1 rfl) (fun _=>rfl) (by intro j v h;cases h)
            | some c=>
              obtain ⟨j,e',x',h3,h4,h5,_⟩:=h2 c rfl
              refine fin en (some (0+j,e'.val)) (.inr ⟨r',clock,hvx,hm.heap⟩) h3 (by intro h;cases h) ?_
              intro j' v h
              cases h
              exact ⟨c,rfl,hm.val j _ e' h4 (by simpa using h5)⟩
        · cases hr
      · cases hr
    · cases hq
  · cases hq
end ops
theorem quiet_ok {V:View} (hS:SRel p cq V) {τ:Tm} {nt:Nat} {a:Act} (hT:TRel V τ nt a.tmps) {adv:Adv} {o:Oper} {x:XOp} (hc:compOp p adv o=some x) {av:AV} (hq:quiet V.σ τ x=some av) :
    ∃ v,(execOp a.eval o).run p V.w=.ok (.value v) V.w∧VRel V av v:=by
  unfold compOp at hc
  cases hop:o.op<;>simp only [hop,Option.bind_eq_bind,Option.bind_eq_some_iff,Option.map_eq_some_iff,Option.some.injEq,reduceCtorEq] at hc
  case move y=>obtain ⟨z,_,rfl⟩:=hc;split at hq<;>simp [quiet] at hq
  case assign y=>obtain ⟨z,_,rfl⟩:=hc;split at hq<;>simp [quiet] at hq
  case pick c y z=>obtain ⟨c',h1,y',h2,z',h3,rfl⟩:=hc;exact q_pick hT hop h1 h2 h3 hq
  case alloc e=>
    obtain ⟨z,_,s,_,hc⟩:=hc
    split at hc
    · cases hc;simp [quiet] at hq
    · cases hc
  case box e y=>
    obtain ⟨s,_,g,_,z,_,hc⟩:=hc
    split at hc
    · cases hc;simp [quiet] at hq
    · cases hc
  case build t ps=>obtain ⟨z,h1,ps',h2,rfl⟩:=hc;exact q_build hT hop h1 h2 hq
  case buildSlice t n ps=>
    obtain ⟨e,_,s,_,z,_,ps',_,hc⟩:=hc
    split at hc
    · cases hc;split at hq<;>simp [quiet] at hq
    · cases hc
  case load t y=>obtain ⟨s,h1,g,h2,y',h3,rfl⟩:=hc;exact q_load hT hS hop h1 h2 h3 hq
  case store t y z=>obtain ⟨s,_,y',_,z',_,rfl⟩:=hc;simp [quiet] at hq
  case nilCheck y=>obtain ⟨y',h1,rfl⟩:=hc;exact q_nilchk hT hop h1 hq
  case binOp op t y z ty=>
    obtain ⟨y',h1,z',h2,hc⟩:=hc
    have eqA:∀ (neg:Bool),op=(if neg then .neq else .eql)→∀ fs,p.underlying t=some (.struct fs)→(if p.eqGuardType p.depth t=true then none else (leavesOf p 8 t).bind fun lv=>if tySize p t=some lv.length then some (XOp.eqA neg lv y' z') else none)=some x→∃ v,(execOp a.eval o).run p V.w=.ok (.value v) V.w∧VRel V av v:=by
      intro neg hneg fs ht hc
      split at hc
      · cases hc
      · rename_i hg
        simp only [Option.bind_eq_some_iff] at hc
        obtain ⟨lv,hlv,hc⟩:=hc
        split at hc
        · rename_i hsz
          cases hc
          exact q_eqA hT (neg:=neg) (by rw [hop,hneg]) (by simpa using hg) hlv (tyAgg_struct ht) h1 h2 hsz hq
        · cases hc
    split at hc
    · split at hc
      · cases hc;exact q_arith hT hop h1 h2 hq
      · cases hc;exact q_arith hT hop h1 h2 hq
      · rename_i ht;cases hc;exact q_eqB hT (neg:=false) hop ht h1 h2 hq
      · rename_i ht
        split at hc
        · cases hc;exact q_isnil hT (neg:=false) hop ht h1 h2 hq
        · cases hc
      · rename_i fs ht;exact eqA false rfl _ ht hc
      · cases hc
    · split at hc
      · cases hc;exact q_arith hT hop h1 h2 hq
      · cases hc;exact q_arith hT hop h1 h2 hq
      · rename_i ht;cases hc;exact q_eqB hT (neg:=true) hop ht h1 h2 hq
      · rename_i ht
        split at hc
        · cases hc;exact q_isnil hT (neg:=true) hop ht h1 h2 hq
        · cases hc
      · rename_i fs ht;exact eqA true rfl _ ht hc
      · cases hc
    · cases hc;exact q_arith hT hop h1 h2 hq
  case unOp op t y=>
    obtain ⟨y',h1,hc⟩:=hc
    split at hc
    · cases hc;exact q_not hT hop h1 hq
    · cases hc;exact q_neg hT hop h1 hq
    · cases hc;exact q_compl hT hop h1 hq
    · cases hc
  case convert s d y=>
    obtain ⟨y',h1,hc⟩:=hc
    split at hc
    · rename_i hs hd;cases hc;exact q_conv hT hop hs hd h1 hq
    · rename_i hs hd;cases hc;exact q_convS hT hop hs hd h1 hq
    · rename_i hs hd
      split at hc
      · rename_i he;cases hc;exact q_b2s hT hS hop hs he hd h1 hq
      · cases hc
    · cases hc
  case makeFunc fn first caps=>
    cases fn<;>simp only [reduceCtorEq] at hc
    rename_i f
    split at hc
    · rename_i hf
      simp only [Option.bind_eq_some_iff,Option.some.injEq] at hc
      obtain ⟨caps',h1,rfl⟩:=hc
      have:first = #[]:=by simpa using hf
      subst this
      exact q_mkfn hT hop h1 hq
    · cases hc
  case makeMap t r=>
    cases r<;>simp only [reduceCtorEq,Option.some.injEq] at hc
    subst hc;simp [quiet] at hq
  case makeSlice t l c=>
    obtain ⟨e,_,s,_,z,_,b,_,l',_,c',_,hc⟩:=hc
    split at hc
    · cases hc;simp [quiet] at hq
    · cases hc
  case slice t y lo hi mx=>
    obtain ⟨y',h1,lo',h2,hi',h3,mx',h4,hc⟩:=hc
    split at hc
    · rename_i ht
      split at hc
      · cases hc
      · rename_i hm
        cases hc
        have:mx=none:=by cases mx with | none=>rfl | some z=>simp [optO] at h4;obtain ⟨_,_,rfl⟩:=h4;simp at hm
        subst this
        exact q_slcT hT hop ht h1 h2 h3 hq
    · rename_i ht
      simp only [Option.bind_eq_some_iff,Option.some.injEq] at hc
      obtain ⟨s,hs,rfl⟩:=hc
      exact q_slcS hT hop ht hs h1 h2 h3 h4 hq
    · simp only [Option.bind_eq_some_iff] at hc
      obtain ⟨s,hs,hc⟩:=hc
      split at hc
      · cases hc;simp [quiet] at hq
      · cases hc
    · cases hc
  case fieldAddr t y f=>
    obtain ⟨fd,h1,s,h2,hc⟩:=hc
    split at hc
    · cases hc
    · rename_i h0
      simp only [Option.bind_eq_some_iff,Option.some.injEq] at hc
      obtain ⟨y',h3,rfl⟩:=hc
      exact q_fadr hT hop h1 h2 h0 h3 hq
  case field t y f=>obtain ⟨fd,h1,s,h2,g,h3,y',h4,rfl⟩:=hc;exact q_fld hT hop h1 h2 h3 h4 hq
  case indexAddr t y i=>
    split at hc
    · rename_i ht
      simp only [Option.bind_eq_some_iff,Option.some.injEq] at hc
      obtain ⟨s,h1,y',h2,i',h3,rfl⟩:=hc
      exact q_iadrA hT hop ht h1 h2 h3 hq
    · rename_i ht
      simp only [Option.bind_eq_some_iff,Option.some.injEq] at hc
      obtain ⟨s,h1,y',h2,i',h3,rfl⟩:=hc
      exact q_iadrS hT hS hop ht h1 h2 h3 hq
    · cases hc
  case index t y i=>
    split at hc
    · rename_i ht
      simp only [Option.bind_eq_some_iff,Option.some.injEq] at hc
      obtain ⟨s,h1,g,h2,y',h3,i',h4,rfl⟩:=hc
      exact q_idxA hT hop ht h1 h2 h3 h4 hq
    · rename_i ht
      simp only [Option.bind_eq_some_iff,Option.some.injEq] at hc
      obtain ⟨y',h3,i',h4,rfl⟩:=hc
      exact q_idxS hT hop ht h3 h4 hq
    · cases hc
  case lookup t y i ok=>
    split at hc
    · rename_i ht
      simp only [Option.bind_eq_some_iff,Option.some.injEq] at hc
      obtain ⟨kl,h1,z,⟨ie,hie,hz⟩,y',h3,i',h4,rfl⟩:=hc
      exact q_lookup hT hS hop ht h1 (by simp only [Option.bind_eq_some_iff];exact ⟨ie,hie,hz⟩) h3 h4 hq
    · cases hc
  case mapUpdate t m k v=>
    split at hc
    · simp only [Option.bind_eq_some_iff,Option.some.injEq] at hc
      obtain ⟨kl,_,m',_,k',_,v',_,rfl⟩:=hc
      simp [quiet] at hq
    · cases hc
  case extract y k=>obtain ⟨y',h1,rfl⟩:=hc;exact q_extract hT hop h1 hq
  case call c=>
    cases hcal:c.callee<;>simp only [hcal,reduceCtorEq] at hc
    case value f=>
      cases f<;>simp only [Option.bind_eq_some_iff,Option.some.injEq] at hc
      case func f=>obtain ⟨as,_,rfl⟩:=hc;split at hq<;>simp [quiet] at hq
      all_goals
        obtain ⟨y,_,as,_,rfl⟩:=hc
        simp [quiet] at hq
    case builtin b=>
      cases b<;>simp only [reduceCtorEq,Option.bind_eq_some_iff,Option.some.injEq] at hc
      case len=>
        have typ:∀ d,c.argTypes[0]?.bind p.underlying=some d→∃ t,c.argTypes[0]? = some t∧p.underlying t=some d:=fun d h=>by simpa only [Option.bind_eq_some_iff] using h
        split at hc
        · rename_i h1 h2
          cases hc
          obtain ⟨t,h3,h4⟩:=typ _ h1
          exact q_lenA hop hcal h3 (.inl h4) h2 hq
        · rename_i h1 h2
          obtain ⟨t,h3,h4⟩:=typ _ h1
          split at hc
          · rename_i h5
            cases hc
            exact q_lenA hop hcal h3 (.inr ⟨_,h4,h5⟩) h2 hq
          · cases hc
        · rename_i h1 h2
          simp only [Option.map_eq_some_iff] at hc
          obtain ⟨y',h5,rfl⟩:=hc
          obtain ⟨t,h3,h4⟩:=typ _ h1
          exact q_lenT hT hop hcal h3 h4 h2 h5 hq
        · rename_i h1 h2
          simp only [Option.map_eq_some_iff] at hc
          obtain ⟨y',h5,rfl⟩:=hc
          obtain ⟨t,h3,h4⟩:=typ _ h1
          exact q_lenS hT hop hcal h3 h4 h2 h5 hq
        · rename_i h1 h2
          simp only [Option.map_eq_some_iff] at hc
          obtain ⟨y',h5,rfl⟩:=hc
          obtain ⟨t,h3,h4⟩:=typ _ h1
          exact q_lenM hT hS hop hcal h3 h4 h2 h5 hq
        · cases hc
      case append=>
        split at hc
        · split at hc
          · cases hc
          · simp only [Option.bind_eq_some_iff] at hc
            obtain ⟨s,_,b,_,z,_,y,_,y',_,hc⟩:=hc
            split at hc
            · cases hc;simp [quiet] at hq
            · cases hc
        · cases hc
      case min=>obtain ⟨as,h1,rfl⟩:=hc;exact q_minmax hT (mx:=false) hop hcal h1 hq
      case max=>obtain ⟨as,h1,rfl⟩:=hc;exact q_minmax hT (mx:=true) hop hcal h1 hq
end Go.AE
