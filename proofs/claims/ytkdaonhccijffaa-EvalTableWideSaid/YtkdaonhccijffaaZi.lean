/- What the parameters' values are: terms, numbers, bools. -/
import Derived.Test.YtkdaonhccijffaaB1
import Derived.Test.YtkdaonhccijffaaA6
import Derived.Test.YtkdaonhccijffaaD3
namespace Go.AE.S
open Go Go.AE
section
variable {Q : Program}
theorem inv_int {t : TypeId} {k : IntKind} {c : List PV} (hu : Q.underlying t = some (.int k)) (h : Ty Q t c) : ∃ n, c = [.int k n] ∧ k.min ≤ n ∧ n ≤ k.max := by
  cases h with
  | int _ k' n h h1 h2 =>
    rw [hu] at h
    injection h with h
    injection h with h
    subst h
    exact ⟨n, rfl, h1, h2⟩
  | bool _ b h => rw [hu] at h; cases h
  | str _ s h => rw [hu] at h; cases h
  | nilp _ e h => rw [hu] at h; cases h
  | ptr _ e row h => rw [hu] at h; cases h
  | lst _ e rows h => rw [hu] at h; cases h
  | struct _ fs parts h => rw [hu] at h; cases h
  | array _ e n parts h => rw [hu] at h; cases h
end
end Go.AE.S
/- What the parameters' values are: lists of bindings, of variables, of words. -/
namespace Go.AE.S
open Go Go.AE
section
variable {Q : Program}
end
end Go.AE.S
