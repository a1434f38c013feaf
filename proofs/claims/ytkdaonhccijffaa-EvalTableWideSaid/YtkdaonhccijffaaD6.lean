/- The law EvalReduces. --M-- -/
import Derived.Test.YtkdaonhccijffaaD5
namespace Go.AE.S
open Go Go.AE
set_option linter.unusedSimpArgs false
set_option linter.unusedVariables false
variable {τ : Tm} {σ : Store} {rd : Option Nat}
theorem addU_in : ∀ {l : List Term} {s : List V2} {v : V2}, v ∈ l.foldl addU s → v ∈ s ∨ ∃ u ∈ l, u.op = 1 ∧ v = ⟨u.name, u.w⟩
  | [], s, v, h => .inl h
  | u :: l, s, v, h => by
    rw [List.foldl_cons] at h
    rcases addU_in h with h | ⟨u', hu, q⟩
    · rcases addU_iff.1 h with h | ⟨h1, h2, _⟩
      · exact .inl h
      · exact .inr ⟨u, by simp, h1, h2⟩
    · exact .inr ⟨u', by simp [hu], q⟩
theorem vars_in {t : Term} {v : V2} (h : v ∈ varsT t) : ∃ u ∈ t.post, u.op = 1 ∧ v = ⟨u.name, u.w⟩ := by
  rcases addU_in (isort_mem.1 h) with h | ⟨u, hu, q⟩
  · simp at h
  · exact ⟨u, (mem_post t u).2 hu, q⟩
theorem vars_of {t u : Term} (hu : u ∈ t.post) (h1 : u.op = 1) : ∃ v ∈ varsT t, v.name = u.name := by
  obtain ⟨v, hv, hn⟩ := (names_addU t.pre [] u.name).2 (.inr ⟨u, (mem_post t u).1 hu, h1, rfl⟩)
  exact ⟨v, isort_mem.2 hv, hn⟩
theorem vars_w {t : Term} (h : checkT t = 0) {u : Term} (hu : u ∈ t.post) (h1 : u.op = 1) {v : V2} (hv : v ∈ varsT t) (hn : v.name = u.name) : v.w = u.w := by
  obtain ⟨_, _, _, h4⟩ := (check_zero t).1 h
  obtain ⟨u', hu', h1', rfl⟩ := vars_in hv
  have := h4 u' hu' u hu
  unfold cfl at this
  have := of_decide_eq_false this
  refine Classical.byContradiction fun hw => this ⟨h1', h1, hn, hw⟩
theorem vars_len (t : Term) : (varsT t).length ≤ t.count := by
  rw [varsT_eq]
  have := insUs_len (l := t.pre) (s := [])
  rw [Term.pre_len, List.length_nil] at this
  omega
theorem val_env (E E' : ByteArray → Nat) (t : Term) : (∀ u ∈ t.post, u.op = 1 → E u.name % 2 ^ cw u.w = E' u.name % 2 ^ cw u.w) → t.valT E = t.valT E' := by
  induction t using Term.ind with
  | h t ih =>
  intro h
  rw [Term.valT_eq, Term.valT_eq E' t]
  by_cases h1 : t.op = 1
  · rw [if_pos h1, if_pos h1, h t ((mem_post t t).2 (mem_pre.2 (.inl rfl))) h1]
  · rw [if_neg h1, if_neg h1]
    have : Term.valsT E t.args = Term.valsT E' t.args := by
      rw [Term.valsT_map, Term.valsT_map]
      exact List.map_congr_left fun a ha => by rw [ih a ha fun u hu => h u ((mem_post t u).2 (mem_pre.2 (.inr ⟨a, ha, (mem_post a u).1 hu⟩)))]
    rw [this]
end Go.AE.S
/- The law EvalReduces, by the program. --M-- -/
namespace Go.AE.S
open Go Go.AE
set_option linter.unusedSimpArgs false
set_option linter.unusedVariables false
variable {τ : Tm} {σ : Store} {rd : Option Nat}
end Go.AE.S
