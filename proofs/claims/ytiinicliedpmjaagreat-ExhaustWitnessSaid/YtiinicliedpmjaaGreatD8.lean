import Derived.Test.YtiinicliedpmjaaGreatD7
import Derived.Test.YtiinicliedpmjaaGreatD5
namespace Go.AE.S
open Go Go.AE
set_option linter.unusedSimpArgs false
set_option linter.unusedVariables false
variable {τ:Tm} {σ:Store} {rd:Option Nat}
def dupQ {α:Type} (q:α→α→Bool) (p:List α):List α→Bool
  | []=>false
  | u :: r=>p.any (q u) || dupQ q (p++[u]) r
def sameN (u a:V2):Bool:=decide (u.name=a.name)
theorem vr_g0 {v:V2}:(vrow v)[0]? = some (.str v.name):=rfl
theorem vr_g1 {v:V2}:(vrow v)[1]? = some (.int .i64 v.w):=rfl
theorem vr_f0 {v:V2}:fadrV 0 (.p (.ptr (vrow v) 0))=some (.p (.ptr (vrow v) 0)):=rfl
theorem vr_f1 {v:V2}:fadrV 1 (.p (.ptr (vrow v) 0))=some (.p (.ptr (vrow v) 1)):=rfl
theorem vr_len (v:V2):(vrow v).length=2:=rfl
theorem vr_ld {v:V2}:loadV σ 2 true (.p (.ptr (vrow v) 0))=some (.p (.agg (vrow v))):=rfl
def eqV (a b:V2):Bool:=decide (a.name=b.name) && decide (a.w=b.w)
def boundV (t:Term) (l:List V2):Bool:=!dupQ sameN [] l && !(varsT t).any (fun u=>!(l.any fun a=>eqV a u))
def bitsN (n:Int):List V2→Int
  | []=>n
  | v :: r=>if n≤16 then bitsN (n+v.w) r else n
def bitsF (_:Nat) (n:Int) (v:V2):Int ⊕ Int:=if n≤16 then .inl (n+v.w) else .inr n
theorem fold_bits:∀ (l:List V2) (i:Nat) (n:Int),foldE bitsF i n l=.inl (bitsN n l)∨foldE bitsF i n l=.inr (bitsN n l)
  | [],i,n=>.inl rfl
  | v :: l,i,n=>by
    by_cases h:n≤16
    · have:=fold_bits l (i+1) (n+v.w)
      simp only [foldE,bitsF,bitsN,h,if_true]
      exact this
    · refine .inr ?_
      simp only [foldE,bitsF,bitsN,h,if_false]
def okV2 (v:V2):Prop:=1≤v.w∧v.w≤64
abbrev e_bt (l:List V2) (n i:Int):List (Nat×AV):=[(0,.p (.lst (l.map vrow))),(3,.p (.int .i64 n)),(4,.p (.int .i64 i))]
def outBt (n:Int) (r:Ex×St):Prop:=r.1=.exit 0∧r.2.τ.get 3=.p (.int .i64 n)∧r.2.σ=[]∧r.2.nt=24
def bitsV (l:List V2):Int:=min (bitsN 0 l) 17
def badW (v:V2):Bool:=decide (v.w<1) || decide (64<v.w)
theorem badW_no {l:List V2} (h:l.any badW=false):∀ v∈l,okV2 v:=by
  intro v hv
  have:=List.any_eq_false.1 h v hv
  simp only [badW,Bool.or_eq_true,decide_eq_true_eq] at this
  unfold okV2
  omega
def tabE (t:Term) (l:List V2):Int:=if ¬ checkT t=0 then checkT t else if boundV t l=false then 12 else if l.any badW=true then 3 else if 16<bitsV l then 7 else 0
def assignT:Nat→List V2→List Bd
  | _,[]=>[]
  | n,v :: r=>⟨v.name,n % 2^cw v.w⟩ :: assignT (n / 2^v.w.toNat) r
def asF (s:List Bd×Nat) (v:V2):List Bd×Nat:=(s.1++[⟨v.name,s.2 % 2^cw v.w⟩],s.2 / 2^v.w.toNat)
theorem asF_all:∀ (l:List V2) (s:List Bd) (n:Nat),(l.foldl asF (s,n)).1=s++assignT n l
  | [],s,n=>by simp [assignT]
  | v :: l,s,n=>by
    rw [List.foldl_cons]
    show (l.foldl asF (s++[⟨v.name,n % 2^cw v.w⟩],n / 2^v.w.toNat)).1=_
    rw [asF_all l]
    simp [assignT]
abbrev sAs (s:List Bd×Nat):Store:=[.pv (esOf 2 s.1) (s.1.map brow) false]
theorem bsl_b1 {n:ByteArray} {x:Int}:bsliceV σ 2 1 (fillP (List.replicate 1 [.p (.str (bs [])),.p (.int .u64 0)]).flatten [(0,2,.p (.agg [.str n,.int .u64 x]))])=some (.sl σ.length 1,σ++[.pv 2 [[.str n,.int .u64 x]] false]):=rfl
theorem src_11 {o:Obj} {a:List PV} {fr:Bool}:srcOf [o,.pv 2 [a] fr] 2 (.sl 1 1)=some (.inl [a]):=src_sl rfl rfl (.inl rfl)
theorem look_assign (n:ByteArray):∀ (l:List V2) (k:Nat),(lookB n (assignT k l)).isSome=l.any fun a=>decide (a.name=n)
  | [],k=>rfl
  | v :: l,k=>by
    simp only [assignT,lookB,List.any_cons]
    by_cases h:v.name=n
    · simp [h]
    · simp only [h,if_false,decide_false,Bool.false_or]
      exact look_assign n l _
theorem bound_assign {t:Term} {l:List V2} (h:boundV t l=true) (k:Nat):boundB (assignT k l) t=true:=by
  unfold boundV at h
  rw [Bool.and_eq_true,Bool.not_eq_true',Bool.not_eq_true',List.any_eq_false] at h
  unfold boundB
  rw [List.all_eq_true]
  intro u hu
  by_cases h1:u.op=1
  · obtain ⟨v,hv,hn⟩:=vars_of hu h1
    have hx:=h.2 v hv
    simp only [Bool.not_eq_true',Bool.not_eq_false] at hx
    obtain ⟨a,ha,he⟩:=List.any_eq_true.1 hx
    have:(lookB u.name (assignT k l)).isSome=true:=by
      rw [look_assign]
      refine List.any_eq_true.2 ⟨a,ha,?_⟩
      unfold eqV at he
      rw [Bool.and_eq_true] at he
      rw [← hn]
      exact he.1
    rw [this]
    simp
  · simp [h1]
theorem assign_W:∀ (l:List V2) (k:Nat),∀ b∈assignT k l,W b.v
  | [],k=>by simp [assignT]
  | v :: l,k=>by
    intro b hb
    rcases List.mem_cons.1 hb with rfl | hb
    · exact cut_lt (cw_in v.w).2 k
    · exact assign_W l _ b hb
theorem assign_len:∀ (l:List V2) (k:Nat),(assignT k l).length=l.length
  | [],k=>rfl
  | v :: l,k=>by simp [assignT,assign_len l]
def tabV (t:Term) (l:List V2) (b:Nat):List Nat:=(List.range (2^b)).map fun k=>t.valT (envB (assignT k l))
end Go.AE.S
