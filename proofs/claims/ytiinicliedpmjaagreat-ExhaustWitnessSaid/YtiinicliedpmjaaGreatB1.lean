import Derived.Test.YtiinicliedpmjaaGreatB0
import Derived.Test.YtiinicliedpmjaaGreatP0
namespace Go.AE.S
open Go Go.AE
set_option linter.unusedSimpArgs false
set_option linter.unusedVariables false
variable {τ:Tm} {σ:Store} {rd:Option Nat}
def argT (u:Term):List AV:=[.p (.agg u.row)]
theorem fold_anyG {α:Type} (q:α→Bool):∀ (as:List α) (i:Nat),foldE (S:=Unit) (T:=Unit) (fun _ _ a=>if q a=true then .inr () else .inl ()) i () as=if as.any q=true then .inr () else .inl ()
  | [],i=>rfl
  | a :: as,i=>by
    cases h:q a<;>simp [foldE,h,fold_anyG q as]
theorem s_r04_Pattern (o:Int):R P f_r04_Pattern [.int .i64 o]=some (.bool (decide (o∈[24,25,26]))):=by
  have h:=s_r04_Is o [24,25,26] (by decide)
  simp only [List.map_cons,List.map_nil,irow] at h
  (rw [r_r04_Pattern (lbY rfl),F_r04_Pattern];simp (disch:=omega) only [eqY,↓gc_len,seval,-List.reduceReplicate,reduceCtorEq,allP,q_r04_Is,h])
end Go.AE.S
namespace Go.AE
namespace Term
end Term
namespace S
open Go Go.AE
set_option linter.unusedSimpArgs false
set_option linter.unusedVariables false
variable {τ:Tm} {σ:Store} {rd:Option Nat}
end S
end Go.AE
namespace Go.AE.S
open Go Go.AE
set_option linter.unusedSimpArgs false
set_option linter.unusedVariables false
variable {τ:Tm} {σ:Store} {rd:Option Nat}
def lkB:List (ByteArray×Term)→ByteArray→Option Term
  | [],_=>none
  | e :: r,k=>if k=e.1 then some e.2 else lkB r k
def stB (u:Term):List (ByteArray×Term)→List (ByteArray×Term)
  | []=>[(u.name,u)]
  | e :: r=>if u.name=e.1 then (u.name,u) :: r else e :: stB u r
theorem eq_str (a b:ByteArray):eqLeaf .str (.str a) (.str b)=some (decide (a=b)):=by
  simp only [eqLeaf]
  congr 1
  rw [Bool.eq_iff_iff]
  simp [bytes_ext]
def isVar (u:Term):Bool:=decide (u.op=24∨u.op=25)
def bindF (s:List (ByteArray×Term)) (u:Term):List (ByteArray×Term) ⊕ List (ByteArray×Term) :=
  if isVar u=true then
    match lkB s u.name with
    | some o=>if o.op=u.op∧o.w=u.w then .inl (stB u s) else .inr s
    | none=>.inl (stB u s)
  else .inl s
theorem v_mupd_m {a:Obj} {es es':List (PV×AV)} {r:Store} {kl:Leaf} {k:PV} {v:AV} (h:isLeaf kl k=true) (h':setKey kl k v es=some es'):mupdV (a :: .map es false :: r) kl (.map 1) (.p k) v=some (.any,a :: .map es' false :: r):=by
  simp [mupdV,h,h']
def clash (u a:Term):Bool:=isVar a && decide (a.name=u.name) && (!decide (a.w=u.w) || !decide (a.op=u.op))
end Go.AE.S
namespace Go.AE
namespace Term
end Term
namespace S
open Go Go.AE
set_option linter.unusedSimpArgs false
set_option linter.unusedVariables false
variable {τ:Tm} {σ:Store} {rd:Option Nat}
abbrev z5 (l:Nat):List AV:=[.p (.int .i64 0),.p (.int .i64 0),.p (.int .u64 0),.p (.str (bs [])),.sl l 0]
end S
end Go.AE
namespace Go.AE.S
open Go Go.AE
set_option linter.unusedSimpArgs false
set_option linter.unusedVariables false
variable {τ:Tm} {σ:Store} {rd:Option Nat}
def zT:Term:=.mk 0 0 0 (bs []) []
theorem zT_row:zT.row=[.int .i64 0,.int .i64 0,.int .u64 0,.str (bs []),.lst []]:=by simp [zT,Term.row,Term.rows]
theorem less_irrefl:∀ a:List UInt8,Op.bytesLess a a=false
  | []=>rfl
  | a :: l=>by
    unfold Op.bytesLess
    simp [less_irrefl l,UInt8.lt_irrefl]
theorem less_trans:∀ a b c:List UInt8,Op.bytesLess a b=true→Op.bytesLess b c=true→Op.bytesLess a c=true
  | _,_,[],_,h=>by cases ‹List UInt8›<;>simp [Op.bytesLess] at h
  | _,[],_ :: _,h,_=>by cases ‹List UInt8›<;>simp [Op.bytesLess] at h
  | [],_ :: _,_ :: _,_,_=>rfl
  | a :: x,b :: y,c :: z,h,h'=>by
    unfold Op.bytesLess at h h' ⊢
    simp only [Bool.or_eq_true,decide_eq_true_eq,Bool.and_eq_true,beq_iff_eq] at h h' ⊢
    rcases h with h | ⟨rfl,h⟩
    · rcases h' with h' | ⟨rfl,h'⟩
      · exact .inl (UInt8.lt_trans h h')
      · exact .inl h
    · rcases h' with h' | ⟨rfl,h'⟩
      · exact .inl h'
      · exact .inr ⟨rfl,less_trans x y z h h'⟩
theorem less_tri:∀ a b:List UInt8,Op.bytesLess a b=true∨a=b∨Op.bytesLess b a=true
  | [],[]=>.inr (.inl rfl)
  | [],_ :: _=>.inl rfl
  | _ :: _,[]=>.inr (.inr rfl)
  | a :: x,b :: y=>by
    unfold Op.bytesLess
    simp only [Bool.or_eq_true,decide_eq_true_eq,Bool.and_eq_true,beq_iff_eq,List.cons.injEq]
    rcases less_tri x y with h | h | h
    · by_cases h1:a<b
      · exact .inl (.inl h1)
      · by_cases h2:b<a
        · exact .inr (.inr (.inl h2))
        · have:a=b:=UInt8.le_antisymm (UInt8.not_lt.1 h2) (UInt8.not_lt.1 h1)
          exact .inl (.inr ⟨this,h⟩)
    · by_cases h1:a<b
      · exact .inl (.inl h1)
      · by_cases h2:b<a
        · exact .inr (.inr (.inl h2))
        · have:a=b:=UInt8.le_antisymm (UInt8.not_lt.1 h2) (UInt8.not_lt.1 h1)
          exact .inr (.inl ⟨this,h⟩)
    · by_cases h1:a<b
      · exact .inl (.inl h1)
      · by_cases h2:b<a
        · exact .inr (.inr (.inl h2))
        · have:a=b:=UInt8.le_antisymm (UInt8.not_lt.1 h2) (UInt8.not_lt.1 h1)
          exact .inr (.inr (.inr ⟨this.symm,h⟩))
theorem slt_irrefl (a:ByteArray):slt a a=false:=less_irrefl _
theorem slt_trans {a b c:ByteArray} (h:slt a b=true) (h':slt b c=true):slt a c=true:=less_trans _ _ _ h h'
theorem slt_tri (a b:ByteArray):slt a b=true∨a=b∨slt b a=true:=by
  rcases less_tri a.toList b.toList with h | h | h
  · exact .inl h
  · exact .inr (.inl (bytes_ext.1 h))
  · exact .inr (.inr h)
theorem slt_ne {a b:ByteArray} (h:slt a b=true):¬ a=b:=by rintro rfl;rw [slt_irrefl] at h;cases h
theorem slt_asym {a b:ByteArray} (h:slt a b=true):slt b a=false:=by
  rw [Bool.eq_false_iff];intro h';have:=slt_trans h h';rw [slt_irrefl] at this;cases this
theorem cmp_cases (a b:ByteArray):cmpStr a b=if a=b then 0 else if slt a b=true then -1 else 1:=by
  unfold cmpStr slt
  by_cases h:a=b
  · rw [if_pos (bytes_ext.2 h),if_pos h]
  · rw [if_neg (fun x=>h (bytes_ext.1 x)),if_neg h]
def Sorted (s:List V2):Prop:=s.Pairwise fun a b=>slt a.name b.name=true
def insV:List V2→V2→List V2
  | [],v=>[v]
  | a :: r,v=>if a.name=v.name then a :: r else if slt v.name a.name=true then v :: a :: r else a :: insV r v
theorem insV_len:∀ (s:List V2) (v:V2),(insV s v).length≤s.length+1
  | [],v=>by simp [insV]
  | a :: r,v=>by
    simp only [insV]
    have:=insV_len r v
    split
    · simp
    · split
      · simp
      · simp only [List.length_cons];omega
theorem insV_mem:∀ {s:List V2} {v x:V2},x∈insV s v→x=v∨x∈s
  | [],v,x,h=>by simp [insV] at h;exact .inl h
  | a :: r,v,x,h=>by
    simp only [insV] at h
    split at h
    · exact .inr h
    · split at h
      · rcases List.mem_cons.1 h with h | h
        · exact .inl h
        · exact .inr h
      · rcases List.mem_cons.1 h with h | h
        · exact .inr (by simp [h])
        · rcases insV_mem h with h | h
          · exact .inl h
          · exact .inr (by simp [h])
theorem insV_sorted:∀ {s:List V2} {v:V2},Sorted s→Sorted (insV s v)
  | [],v,_=>by simp [insV,Sorted]
  | a :: r,v,h=>by
    have hr:Sorted r:=(List.pairwise_cons.1 h).2
    have ha:=(List.pairwise_cons.1 h).1
    simp only [insV]
    split
    · exact h
    · rename_i h1
      split
      · rename_i h2
        refine List.pairwise_cons.2 ⟨fun x hx=>?_,h⟩
        rcases List.mem_cons.1 hx with rfl | hx
        · exact h2
        · exact slt_trans h2 (ha x hx)
      · rename_i h2
        refine List.pairwise_cons.2 ⟨fun x hx=>?_,insV_sorted hr⟩
        rcases insV_mem hx with rfl | hx
        · rcases slt_tri a.name x.name with h | h | h
          · exact h
          · exact absurd h h1
          · exact absurd h h2
        · exact ha x hx
theorem foldE_foldl {S T α:Type} (g:S→α→S):∀ (l:List α) (i:Nat) (s:S),foldE (T:=T) (fun _ s a=>.inl (g s a)) i s l=.inl (l.foldl g s)
  | [],i,s=>rfl
  | a :: l,i,s=>by simp only [foldE,List.foldl_cons];exact foldE_foldl g l (i+1) (g s a)
abbrev sV (s:List V2):Store:=[.pv (esOf 2 s) (s.map vrow) false,.av 1 [[.sl 0 s.length]] false]
def tL:Term:=.mk 8 4 0 (bs []) [.mk 24 4 0 (bs [98]) [],.mk 24 4 0 (bs [97]) []]
theorem tok_leaf {o w v:Int} {s:ByteArray} (h1 : -9223372036854775808≤o∧o≤9223372036854775807) (h2 : -9223372036854775808≤w∧w≤9223372036854775807) (h3:U64 v) (h4:s.size≤9223372036854775807):TOk (.mk o w v s []) :=
  .mk _ h1 h2 h3 h4 (by simp [Term.args]) (by simp [Term.args])
end Go.AE.S
