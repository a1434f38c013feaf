import Derived.Test.YtiinicliedpmjaaGreatD4
import Derived.Test.YtiinicliedpmjaaGreatC0
namespace Go.AE.S
open Go Go.AE
set_option linter.unusedSimpArgs false
set_option linter.unusedVariables false
theorem clash_self (u:Term):cfl u u=false:=by
  unfold cfl;simp
theorem clash_comm (u v:Term):cfl u v=cfl v u:=by
  unfold cfl;simp only [decide_eq_decide];constructor<;>(rintro ⟨h1,h2,h3,h4⟩;exact ⟨h2,h1,h3.symm,fun e=>h4 e.symm⟩)
theorem clash_ex:∀ (r p:List Term),outG p r=true→∃ u∈r,∃ b∈p++r,cfl u b=true
  | [],p,h=>by simp [outG] at h
  | u :: r,p,h=>by
    simp only [outG,Bool.or_eq_true] at h
    rcases h with h | h
    · obtain ⟨b,hb,hc⟩:=List.any_eq_true.1 h
      exact ⟨u,by simp,b,by simp [hb],hc⟩
    · obtain ⟨v,hv,b,hb,hc⟩:=clash_ex r (p++[u]) h
      exact ⟨v,by simp [hv],b,by simpa using hb,hc⟩
theorem clash_no:∀ (r p:List Term),outG p r=false→∀ u∈r,∀ b∈p++r,cfl u b=false
  | [],p,h,u,hu=>by simp at hu
  | x :: r,p,h,u,hu=>by
    simp only [outG,Bool.or_eq_false_iff] at h
    have ih:=clash_no r (p++[x]) h.2
    have hx:∀ b∈p++x :: r,cfl x b=false:=by
      intro b hb
      rcases List.mem_append.1 hb with hb | hb
      · simpa using List.any_eq_false.1 h.1 b hb
      · rcases List.mem_cons.1 hb with rfl | hb
        · exact clash_self b
        · rw [clash_comm];exact ih b (by simp [hb]) x (by simp) |>.symm ▸ rfl
    rcases List.mem_cons.1 hu with rfl | hu
    · exact hx
    · intro b hb
      exact ih u hu b (by simpa using hb)
theorem first_all:∀ l:List Term,(∀ a∈l,nodeN a=0)→firstN l=0
  | [],_=>rfl
  | a :: l,h=>by
    simp only [firstN]
    rw [if_pos (h a (by simp))]
    exact first_all l fun b hb=>h b (by simp [hb])
theorem check_zero (t:Term):checkT t=0↔(t.deep:Int)≤64∧(t.count:Int)≤4096∧AllOk t∧∀ u∈t.post,∀ b∈t.post,cfl u b=false:=by
  constructor
  · intro h
    have ha:=check_all h
    unfold checkT at h
    split at h
    · rename_i hb
      refine ⟨hb.1,hb.2,ha,?_⟩
      rw [ckE_eq,if_neg (fun h'=>h' (first_all _ ha))] at h
      split at h
      · cases h
      · rename_i ho
        intro u hu b hb
        exact clash_no t.post [] (by simpa using ho) u hu b (by simpa using hb)
    · cases h
  · rintro ⟨h1,h2,h3,h4⟩
    unfold checkT
    rw [if_pos ⟨h1,h2⟩,ckE_eq,if_neg (fun h'=>h' (first_all _ h3)),if_neg]
    intro hx
    obtain ⟨a,ha,b,hb',hc⟩:=clash_ex t.post [] hx
    rw [h4 a ha b (by simpa using hb')] at hc
    cases hc
variable {τ:Tm} {σ:Store} {rd:Option Nat}
theorem addU_in:∀ {l:List Term} {s:List V2} {v:V2},v∈l.foldl addU s→v∈s∨∃ u∈l,u.op=1∧v=⟨u.name,u.w⟩
  | [],s,v,h=>.inl h
  | u :: l,s,v,h=>by
    rw [List.foldl_cons] at h
    rcases addU_in h with h | ⟨u',hu,q⟩
    · rcases addU_iff.1 h with h | ⟨h1,h2,_⟩
      · exact .inl h
      · exact .inr ⟨u,by simp,h1,h2⟩
    · exact .inr ⟨u',by simp [hu],q⟩
theorem vars_in {t:Term} {v:V2} (h:v∈varsT t):∃ u∈t.post,u.op=1∧v=⟨u.name,u.w⟩:=by
  rcases addU_in (isort_mem.1 h) with h | ⟨u,hu,q⟩
  · simp at h
  · exact ⟨u,(mem_post t u).2 hu,q⟩
theorem vars_of {t u:Term} (hu:u∈t.post) (h1:u.op=1):∃ v∈varsT t,v.name=u.name:=by
  obtain ⟨v,hv,hn⟩:=(names_addU t.pre [] u.name).2 (.inr ⟨u,(mem_post t u).1 hu,h1,rfl⟩)
  exact ⟨v,isort_mem.2 hv,hn⟩
theorem vars_w {t:Term} (h:checkT t=0) {u:Term} (hu:u∈t.post) (h1:u.op=1) {v:V2} (hv:v∈varsT t) (hn:v.name=u.name):v.w=u.w:=by
  obtain ⟨_,_,_,h4⟩:=(check_zero t).1 h
  obtain ⟨u',hu',h1',rfl⟩:=vars_in hv
  have:=h4 u' hu' u hu
  unfold cfl at this
  have:=of_decide_eq_false this
  refine Classical.byContradiction fun hw=>this ⟨h1',h1,hn,hw⟩
theorem vars_len (t:Term):(varsT t).length≤t.count:=by
  rw [varsT_eq]
  have:=insUs_len (l:=t.pre) (s:=[])
  rw [Term.pre_len,List.length_nil] at this
  omega
theorem val_env (E E':ByteArray→Nat) (t:Term):(∀ u∈t.post,u.op=1→E u.name % 2^cw u.w=E' u.name % 2^cw u.w)→t.valT E=t.valT E':=by
  induction t using Term.ind with
  | h t ih=>
  intro h
  rw [Term.valT_eq,Term.valT_eq E' t]
  by_cases h1:t.op=1
  · rw [if_pos h1,if_pos h1,h t ((mem_post t t).2 (mem_pre.2 (.inl rfl))) h1]
  · rw [if_neg h1,if_neg h1]
    have:Term.valsT E t.args=Term.valsT E' t.args:=by
      rw [Term.valsT_map,Term.valsT_map]
      exact List.map_congr_left fun a ha=>by rw [ih a ha fun u hu=>h u ((mem_post t u).2 (mem_pre.2 (.inr ⟨a,ha,(mem_post a u).1 hu⟩)))]
    rw [this]
end Go.AE.S
