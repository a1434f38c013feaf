/- Patterns' variables are ground: the law. --M-- -/
import Derived.Test.YtncolifaemncbaaB6
namespace Go.AE.S
open Go Go.AE
set_option linter.unusedSimpArgs false
set_option linter.unusedVariables false
variable {τ : Tm} {σ : Store} {rd : Option Nat}
theorem mem_pre {u t : Term} : u ∈ t.pre ↔ u = t ∨ ∃ a ∈ t.args, u ∈ a.pre := by
  rw [Term.pre_eq, Term.pres_eq, List.mem_cons, List.mem_flatMap]
theorem mem_post (t : Term) : ∀ u, u ∈ t.post ↔ u ∈ t.pre := by
  induction t using Term.ind with
  | h t ih =>
  intro u
  rw [mem_pre, Term.post_eq, Term.posts_eq, List.mem_append, List.mem_flatMap]
  constructor
  · rintro (⟨a, ha, h⟩ | h)
    · exact .inr ⟨a, ha, (ih a ha u).1 h⟩
    · simp at h; exact .inl h
  · rintro (h | ⟨a, ha, h⟩)
    · right; simp [h]
    · exact .inl ⟨a, ha, (ih a ha u).2 h⟩
theorem first_zero (ev : Bool) : ∀ l : List Term, firstE ev l = 0 ↔ ∀ u ∈ l, nodeE u ev = 0
  | [] => by simp [firstE]
  | a :: l => by
    simp only [firstE, List.forall_mem_cons]
    by_cases h : nodeE a ev = 0
    · simp only [h, if_true, true_and]; exact first_zero ev l
    · simp [h]
theorem check_nodes {p : Term} {ev : Bool} (h : checkE p ev = 0) : ∀ u ∈ p.pre, nodeE u ev = 0 := by
  unfold checkE at h
  split at h
  · cases h
  · split at h
    · rename_i h1; exact absurd h h1
    · rename_i h1
      intro u hu
      exact (first_zero ev p.post).1 (by simpa using h1) u ((mem_post p u).2 hu)
theorem node_arity {u : Term} {ev : Bool} (h : nodeE u ev = 0) : (u.args.length : Int) = arity u.op := by
  unfold nodeE at h
  split at h
  · cases h
  · rename_i h1
    simp only [not_or] at h1
    exact Classical.not_not.1 h1.2.2.2
/-- Evals have one operand. -/
def Ev1 (t : Term) : Prop := ∀ u ∈ t.pre, u.op = 26 → u.args.length = 1
def Grd (t : Term) : Prop := ∀ u ∈ t.pre, ¬ u.op ∈ [24, 25, (26 : Int)]
theorem Ev1.args {t a : Term} (h : Ev1 t) (ha : a ∈ t.args) : Ev1 a := fun u hu => h u (mem_pre.2 (.inr ⟨a, ha, hu⟩))
theorem Grd.args {t a : Term} (h : Grd t) (ha : a ∈ t.args) : Grd a := fun u hu => h u (mem_pre.2 (.inr ⟨a, ha, hu⟩))
theorem self_pre {t : Term} : t ∈ t.pre := mem_pre.2 (.inl rfl)
theorem var_ground (t : Term) : Ev1 t → Grd t.varX := by
  induction t using Term.ind with
  | h t ih =>
  intro he
  by_cases h1 : t.op = 26 ∧ t.args.length = 1
  · obtain ⟨ho, hl⟩ := h1
    obtain ⟨a, ha⟩ := List.length_eq_one_iff.1 hl
    rw [Term.var_eval t a ho ha]
    exact ih a (by rw [ha]; simp) (he.args (by rw [ha]; simp))
  · rw [Term.var_node t h1]
    intro u hu
    rcases mem_pre.1 hu with rfl | ⟨b, hb, hu⟩
    · have h26 : ¬ t.op = 26 := fun e => h1 ⟨e, he t self_pre e⟩
      show ¬ Term.varOp t.op ∈ _
      unfold Term.varOp
      split
      · decide
      · rename_i h2
        simp only [List.mem_cons, List.not_mem_nil, or_false]
        omega
    · obtain ⟨a, ha, rfl⟩ := List.mem_map.1 hb
      exact ih a ha (he.args ha) u hu
theorem var_self (t : Term) : Grd t → t.varX = t := by
  induction t using Term.ind with
  | h t ih =>
  intro hg
  have h0 := hg t self_pre
  simp only [List.mem_cons, List.not_mem_nil, or_false, not_or] at h0
  rw [Term.var_node t (fun h => h0.2.2 h.1)]
  have hm : t.args.map Term.varX = t.args := by
    conv => rhs; rw [← List.map_id t.args]
    exact List.map_congr_left fun a ha => ih a ha (hg.args ha)
  have ho : Term.varOp t.op = t.op := by unfold Term.varOp; rw [if_neg (by omega)]
  rw [hm, ho]
  cases t; rfl
theorem grd_any {t : Term} (h : Grd t) : (t.pre.any fun u => decide (u.op ∈ [24, 25, (26 : Int)])) = false := by
  rw [List.any_eq_false]
  intro u hu
  simpa using h u hu
theorem grd_of {t : Term} (h : (t.pre.any fun u => decide (u.op ∈ [24, 25, (26 : Int)])) = false) : Grd t := by
  intro u hu
  have := (List.any_eq_false.1 h) u hu
  simpa using this
theorem grd_vars {t : Term} (h : Grd t) (op : Int) (ho : op ∈ [24, 25, (26 : Int)]) : varsOf op [t] = [] := by
  unfold varsOf addT
  simp only [List.foldl_cons, List.foldl_nil]
  have : ∀ l : List Term, (∀ u ∈ l, ¬ u.op ∈ [24, 25, (26 : Int)]) → l.foldl (addV op) [] = [] := by
    intro l
    induction l with
    | nil => intro _; rfl
    | cons a l ih =>
      intro hl
      have ha : addV op [] a = [] := by
        unfold addV
        rw [if_neg (fun e => hl a (by simp) (by rw [e]; exact ho))]
      rw [List.foldl_cons, ha]
      exact ih fun u hu => hl u (by simp [hu])
  exact this t.pre h
theorem var_count (t : Term) : t.varX.count ≤ t.count := by
  induction t using Term.ind with
  | h t ih =>
  by_cases h1 : t.op = 26 ∧ t.args.length = 1
  · obtain ⟨ho, hl⟩ := h1
    obtain ⟨a, ha⟩ := List.length_eq_one_iff.1 hl
    rw [Term.var_eval t a ho ha, Term.count_eq t, ha]
    have := ih a (by rw [ha]; simp)
    simp only [Term.counts]
    omega
  · rw [Term.var_node t h1, Term.count_eq t, Term.count_eq]
    have : ∀ l : List Term, (∀ a ∈ l, a.varX.count ≤ a.count) → Term.counts (l.map Term.varX) ≤ Term.counts l := by
      intro l
      induction l with
      | nil => intro _; exact Nat.le_refl _
      | cons a l ih2 =>
        intro hl
        have := hl a (by simp)
        have := ih2 fun b hb => hl b (by simp [hb])
        simp only [List.map_cons, Term.counts]; omega
    have := this t.args ih
    show 1 + Term.counts (t.args.map Term.varX) ≤ _
    omega
theorem cmpStr_self (s : ByteArray) : cmpStr s s = 0 := by simp [cmpStr]
theorem cmpT_self (t : Term) : t.cmpT t = 0 := by
  induction t using Term.ind with
  | h t ih =>
  rw [Term.cmpT_eq]
  have : ∀ l : List Term, (∀ a ∈ l, a.cmpT a = 0) → Term.cmpsT l l = 0 := by
    intro l
    induction l with
    | nil => intro _; rw [Term.cmpsT]
    | cons a l ih2 => intro h; rw [Term.cmpsT, if_pos (h a (by simp))]; exact ih2 fun b hb => h b (by simp [hb])
  rw [this t.args ih]
  simp only [orI, cmpI_self, cmpStr_self, if_true]
set_option maxHeartbeats 4000000 in
theorem p_PatternGround (p : Term) (hp : TOk p) : R P f_law24_PatternGround [.agg p.row] = some (.bool true) := by
  have hsp := s_r10_Small p hp 100 (by omega) (by omega)
  have hl := s_lives
  by_cases h1 : (p.count : Int) ≤ 100
  rotate_left
  · (rw [r_law24_PatternGround (Nat.le_of_ble_eq_true rfl), F_law24_PatternGround]; simp (disch := omega) only [eqs, eqL, ↓gc_len, seval, -List.reduceReplicate, reduceCtorEq, omap, depth, pcall, pureR, freezeFor, freezeAll, tupR, resV, purR, enterTm, number, gcOk, rangeEnd, mkTup, allP, eqM, q_r10_Small, hsp, h1, q_law24_lives, hl])
  have hc := s_pattern_Check p true hp (by omega)
  rcases Classical.propComplete (checkE p true = 0) with h2 | h2
  rotate_left
  · (rw [r_law24_PatternGround (Nat.le_of_ble_eq_true rfl), F_law24_PatternGround]; simp (disch := omega) only [eqs, eqL, ↓gc_len, seval, -List.reduceReplicate, reduceCtorEq, omap, depth, pcall, pureR, freezeFor, freezeAll, tupR, resV, purR, enterTm, number, gcOk, rangeEnd, mkTup, allP, eqM, q_r10_Small, hsp, h1, q_law24_lives, hl, q_pattern_Check, hc, h2])
  have hz : checkE p true = 0 := of_eq_true h2
  have he : Ev1 p := fun u hu ho => by
    have := node_arity (check_nodes hz u hu)
    rw [ho] at this
    have h26 : arity 26 = 1 := by decide
    omega
  have hg := var_ground p he
  have hcv := var_count p
  have a1 := s_pattern_Variables p hp (by omega)
  have a2 := s_pattern_Ground p.varX (by omega)
  rw [grd_any hg] at a2
  have a3 := s_pattern_Holes [p.varX] (by simp only [Term.counts]; omega)
  rw [grd_vars hg 24 (by simp)] at a3
  have a4 := s_pattern_Nums [p.varX] (by simp only [Term.counts]; omega)
  rw [grd_vars hg 25 (by simp)] at a4
  have a5 := s_pattern_Ground p (by omega)
  have a6 := s_pattern_Least p p (by omega) (by omega)
  rw [cmpT_self] at a6
  have z0 : (((0 : Nat) : Int) = 0) = True := by simp
  simp only [List.map_cons, List.map_nil] at a3 a4
  cases h3 : (p.pre.any fun u => decide (u.op ∈ [24, 25, (26 : Int)])) with
  | true =>
    rw [h3] at a5
    (rw [r_law24_PatternGround (Nat.le_of_ble_eq_true rfl), F_law24_PatternGround]; simp (disch := omega) only [eqs, eqL, ↓gc_len, seval, -List.reduceReplicate, reduceCtorEq, omap, depth, pcall, pureR, freezeFor, freezeAll, tupR, resV, purR, enterTm, number, gcOk, rangeEnd, mkTup, allP, eqM, q_r10_Small, hsp, h1, q_law24_lives, hl, q_pattern_Check, hc, h2, q_pattern_Variables, a1, q_pattern_Ground, a2, q_pattern_Holes, a3, q_pattern_Nums, a4, a5, q_pattern_Least, a6, z0, flat_lst, List.isEmpty_nil, t_bs])
  | false =>
    rw [h3] at a5
    rw [var_self p (grd_of h3)] at a1 a2 a3 a4
    have hx := s_r10_Same p hp p hp
    rw [beq_self] at hx
    (rw [r_law24_PatternGround (Nat.le_of_ble_eq_true rfl), F_law24_PatternGround]; simp (disch := omega) only [eqs, eqL, ↓gc_len, seval, -List.reduceReplicate, reduceCtorEq, omap, depth, pcall, pureR, freezeFor, freezeAll, tupR, resV, purR, enterTm, number, gcOk, rangeEnd, mkTup, allP, eqM, q_r10_Small, hsp, h1, q_law24_lives, hl, q_pattern_Check, hc, h2, q_pattern_Variables, a1, q_pattern_Ground, a2, q_pattern_Holes, a3, q_pattern_Nums, a4, a5, q_pattern_Least, a6, z0, flat_lst, List.isEmpty_nil, q_r10_Same, hx, t_bs])
end Go.AE.S
