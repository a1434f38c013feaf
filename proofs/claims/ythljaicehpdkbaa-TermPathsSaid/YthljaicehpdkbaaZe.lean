/- Arguments that are lists of numbers. -/
import Derived.Test.YthljaicehpdkbaaZl
namespace Go.AE.S
open Go Go.AE
theorem inv_ints {Q : Program} {t e : TypeId} {c : List PV} (hu : Q.underlying t = some (.slice e)) (he : Q.underlying e = some (.int .i64)) (h : Ty Q t c) : ∃ p : List Int, c = [.lst (p.map irow)] := by
  cases h with
  | lst _ e' rows h hl hr =>
    rw [hu] at h
    injection h with h
    injection h with h
    subst h
    have key : ∀ rows : List (List PV), (∀ r ∈ rows, ∃ n : Int, r = irow n) → ∃ l : List Int, rows = l.map irow := by
      intro rows
      induction rows with
      | nil => intro _; exact ⟨[], rfl⟩
      | cons r rows ihr =>
        intro hx
        obtain ⟨n, hn⟩ := hx r (by simp)
        obtain ⟨l, hl⟩ := ihr fun x hx' => hx x (by simp [hx'])
        exact ⟨n :: l, by rw [hn, hl]; rfl⟩
    obtain ⟨l, hl⟩ := key rows fun r hr' => by
      obtain ⟨n, hn, _⟩ := inv_int he (hr r hr')
      exact ⟨n, hn⟩
    exact ⟨l, by rw [hl]⟩
  | bool _ b h => rw [hu] at h; cases h
  | int _ k' n h h1 h2 => rw [hu] at h; cases h
  | str _ s h => rw [hu] at h; cases h
  | nilp _ e h => rw [hu] at h; cases h
  | ptr _ e row h => rw [hu] at h; cases h
  | struct _ fs parts h => rw [hu] at h; cases h
  | array _ e n parts h => rw [hu] at h; cases h
end Go.AE.S
namespace Go.Proofs.Ythljaicehpdkbaa
open Go Go.AE Go.AE.S
theorem agg54 : tyAgg Try.prog 54 = some false := by kernel_rfl
theorem arg_p (l : List (List PV)) : argOf Try.prog 54 [.lst l] = .lst l := by unfold argOf; rw [agg54]; rfl
end Go.Proofs.Ythljaicehpdkbaa
