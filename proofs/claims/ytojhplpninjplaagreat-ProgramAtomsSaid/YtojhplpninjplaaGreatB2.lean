import Derived.Test.YtojhplpninjplaaGreatB1
namespace Go.AE.S
open Go Go.AE
set_option linter.unusedSimpArgs false
set_option linter.unusedVariables false
variable {τ:Tm} {σ:Store} {rd:Option Nat}
end Go.AE.S
namespace Go.AE
namespace Term
end Term
end Go.AE
namespace Go.AE.S
open Go Go.AE
set_option linter.unusedSimpArgs false
set_option linter.unusedVariables false
variable {τ:Tm} {σ:Store} {rd:Option Nat}
end Go.AE.S
namespace Go.AE
namespace Term
end Term
end Go.AE
namespace Go.AE.S
open Go Go.AE
set_option linter.unusedSimpArgs false
set_option linter.unusedVariables false
variable {τ:Tm} {σ:Store} {rd:Option Nat}
theorem mem_pre {u t:Term}:u∈t.pre↔u=t∨∃ a∈t.args,u∈a.pre:=by
  rw [Term.pre_eq,Term.pres_eq,List.mem_cons,List.mem_flatMap]
def Ev1 (t:Term):Prop:=∀ u∈t.pre,u.op=26→u.args.length=1
def Grd (t:Term):Prop:=∀ u∈t.pre,¬ u.op∈[24,25,(26:Int)]
theorem Ev1.args {t a:Term} (h:Ev1 t) (ha:a∈t.args):Ev1 a:=fun u hu=>h u (mem_pre.2 (.inr ⟨a,ha,hu⟩))
theorem Grd.args {t a:Term} (h:Grd t) (ha:a∈t.args):Grd a:=fun u hu=>h u (mem_pre.2 (.inr ⟨a,ha,hu⟩))
def RelT (wd:Int) (a b:Term):Prop:=b.op=a.op∧b.name=a.name∧(isVar a=true→b.w=if a.w=0 then wd else a.w)
def RelL (wd:Int):List Term→List Term→Prop
  | [],[]=>True
  | a :: l,b :: m=>RelT wd a b∧RelL wd l m
  | _,_=>False
theorem RelL.append {wd:Int}:∀ {l m l' m':List Term},RelL wd l m→RelL wd l' m'→RelL wd (l++l') (m++m')
  | [],[],_,_,_,h=>h
  | a :: l,b :: m,_,_,h,h'=>⟨h.1,RelL.append h.2 h'⟩
theorem RelL.len {wd:Int}:∀ {l m:List Term},RelL wd l m→m.length=l.length
  | [],[],_=>rfl
  | a :: l,b :: m,h=>by simp [RelL.len h.2]
theorem RelL.any {wd:Int} (q:Int→Bool):∀ {l m:List Term},RelL wd l m→(m.any fun u=>q u.op)=l.any fun u=>q u.op
  | [],[],_=>rfl
  | a :: l,b :: m,h=>by simp only [List.any_cons];rw [RelL.any q h.2,h.1.1]
def RelS (wd:Int):List (ByteArray×Term)→List (ByteArray×Term)→Prop
  | [],[]=>True
  | a :: l,b :: m=>a.1=b.1∧RelT wd a.2 b.2∧isVar a.2=true∧RelS wd l m
  | _,_=>False
theorem RelS.len {wd:Int}:∀ {l m:List (ByteArray×Term)},RelS wd l m→m.length=l.length
  | [],[],_=>rfl
  | a :: l,b :: m,h=>by simp [RelS.len h.2.2.2]
theorem RelS.lk {wd:Int} (k:ByteArray):∀ {l m:List (ByteArray×Term)},RelS wd l m→match lkB l k,lkB m k with
    | none,none=>True
    | some a,some b=>RelT wd a b∧isVar a=true
    | _,_=>False
  | [],[],_=>trivial
  | a :: l,b :: m,h=>by
    simp only [lkB]
    rw [← h.1]
    by_cases hk:k=a.1
    · simp only [hk,if_true];exact ⟨h.2.1,h.2.2.1⟩
    · simp only [hk,if_false];exact RelS.lk k h.2.2.2
theorem RelS.st {wd:Int} {a b:Term} (hr:RelT wd a b) (hv:isVar a=true):∀ {l m:List (ByteArray×Term)},RelS wd l m→RelS wd (stB a l) (stB b m)
  | [],[],_=>⟨hr.2.1.symm,hr,hv,trivial⟩
  | c :: l,d :: m,h=>by
    simp only [stB]
    rw [hr.2.1,← h.1]
    by_cases hk:a.name=c.1
    · simp only [hk,if_true];exact ⟨rfl,hr,hv,h.2.2.2⟩
    · simp only [hk,if_false];exact ⟨h.1,h.2.1,h.2.2.1,RelS.st hr hv h.2.2.2⟩
theorem isVar_rel {wd:Int} {a b:Term} (h:RelT wd a b):isVar b=isVar a:=by unfold isVar;rw [h.1]
theorem RelL.bind {wd:Int}:∀ {l m:List Term} (i:Nat) {s s':List (ByteArray×Term)} {r:List (ByteArray×Term)},RelL wd l m→RelS wd s s' →
    foldE (fun _ s u=>bindF s u) i s l=.inl r→∃ r',foldE (fun _ s u=>bindF s u) i s' m=.inl r'∧r'.length=r.length
  | [],[],i,s,s',r,_,hs,h=>by
    simp only [foldE,Sum.inl.injEq] at h ⊢
    subst h
    exact ⟨s',rfl,hs.len⟩
  | a :: l,b :: m,i,s,s',r,hl,hs,h=>by
    simp only [foldE] at h ⊢
    unfold bindF at h ⊢
    rw [isVar_rel hl.1,hl.1.2.1]
    cases hv:isVar a with
    | false=>
      simp only [hv,Bool.false_eq_true,if_false] at h ⊢
      exact RelL.bind (i+1) hl.2 hs h
    | true=>
      simp only [hv,if_true] at h ⊢
      have hk:=hs.lk a.name
      cases h1:lkB s a.name with
      | none=>
        cases h2:lkB s' a.name with
        | some y=>rw [h1,h2] at hk;exact hk.elim
        | none=>
          simp only [h1] at h
          simp only
          exact RelL.bind (i+1) hl.2 (RelS.st hl.1 hv hs) h
      | some x=>
        cases h2:lkB s' a.name with
        | none=>rw [h1,h2] at hk;exact hk.elim
        | some y=>
          rw [h1,h2] at hk
          simp only [h1] at h
          simp only
          by_cases hc:x.op=a.op∧x.w=a.w
          · rw [if_pos hc] at h
            rw [if_pos ⟨by rw [hk.1.1,hl.1.1,hc.1],by rw [hk.1.2.2 hk.2,hl.1.2.2 hv,hc.2]⟩]
            exact RelL.bind (i+1) hl.2 (RelS.st hl.1 hv hs) h
          · rw [if_neg hc] at h;cases h
end Go.AE.S
