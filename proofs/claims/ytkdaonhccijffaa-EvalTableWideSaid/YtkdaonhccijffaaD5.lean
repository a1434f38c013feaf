/- What folding keeps, plainly. -/
import Derived.Test.YtkdaonhccijffaaD4
import Derived.Test.YtkdaonhccijffaaC0
namespace Go.AE.S
open Go Go.AE
set_option linter.unusedSimpArgs false
set_option linter.unusedVariables false
theorem clash_self (u : Term) : cfl u u = false := by
  unfold cfl; simp
theorem clash_comm (u v : Term) : cfl u v = cfl v u := by
  unfold cfl; simp only [decide_eq_decide]; constructor <;> (rintro ⟨h1, h2, h3, h4⟩; exact ⟨h2, h1, h3.symm, fun e => h4 e.symm⟩)
theorem clash_ex : ∀ (r p : List Term), outG p r = true → ∃ u ∈ r, ∃ b ∈ p ++ r, cfl u b = true
  | [], p, h => by simp [outG] at h
  | u :: r, p, h => by
    simp only [outG, Bool.or_eq_true] at h
    rcases h with h | h
    · obtain ⟨b, hb, hc⟩ := List.any_eq_true.1 h
      exact ⟨u, by simp, b, by simp [hb], hc⟩
    · obtain ⟨v, hv, b, hb, hc⟩ := clash_ex r (p ++ [u]) h
      exact ⟨v, by simp [hv], b, by simpa using hb, hc⟩
theorem clash_no : ∀ (r p : List Term), outG p r = false → ∀ u ∈ r, ∀ b ∈ p ++ r, cfl u b = false
  | [], p, h, u, hu => by simp at hu
  | x :: r, p, h, u, hu => by
    simp only [outG, Bool.or_eq_false_iff] at h
    have ih := clash_no r (p ++ [x]) h.2
    have hx : ∀ b ∈ p ++ x :: r, cfl x b = false := by
      intro b hb
      rcases List.mem_append.1 hb with hb | hb
      · simpa using List.any_eq_false.1 h.1 b hb
      · rcases List.mem_cons.1 hb with rfl | hb
        · exact clash_self b
        · rw [clash_comm]; exact ih b (by simp [hb]) x (by simp) |>.symm ▸ rfl
    rcases List.mem_cons.1 hu with rfl | hu
    · exact hx
    · intro b hb
      exact ih u hu b (by simpa using hb)
theorem first_all : ∀ l : List Term, (∀ a ∈ l, nodeN a = 0) → firstN l = 0
  | [], _ => rfl
  | a :: l, h => by
    simp only [firstN]
    rw [if_pos (h a (by simp))]
    exact first_all l fun b hb => h b (by simp [hb])
/-- What an accepted term is. -/
theorem check_zero (t : Term) : checkT t = 0 ↔ (t.deep : Int) ≤ 64 ∧ (t.count : Int) ≤ 4096 ∧ AllOk t ∧ ∀ u ∈ t.post, ∀ b ∈ t.post, cfl u b = false := by
  constructor
  · intro h
    have ha := check_all h
    unfold checkT at h
    split at h
    · rename_i hb
      refine ⟨hb.1, hb.2, ha, ?_⟩
      rw [ckE_eq, if_neg (fun h' => h' (first_all _ ha))] at h
      split at h
      · cases h
      · rename_i ho
        intro u hu b hb
        exact clash_no t.post [] (by simpa using ho) u hu b (by simpa using hb)
    · cases h
  · rintro ⟨h1, h2, h3, h4⟩
    unfold checkT
    rw [if_pos ⟨h1, h2⟩, ckE_eq, if_neg (fun h' => h' (first_all _ h3)), if_neg]
    intro hx
    obtain ⟨a, ha, b, hb', hc⟩ := clash_ex t.post [] hx
    rw [h4 a ha b (by simpa using hb')] at hc
    cases hc
end Go.AE.S
/- The law EvalFoldKeeps. --M-- -/
namespace Go.AE.S
open Go Go.AE
set_option linter.unusedSimpArgs false
set_option linter.unusedVariables false
variable {τ : Tm} {σ : Store} {rd : Option Nat}
end Go.AE.S
