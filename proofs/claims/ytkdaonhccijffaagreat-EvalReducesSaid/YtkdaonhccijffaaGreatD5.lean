/- What folding keeps, plainly. -/
import Derived.Test.YtkdaonhccijffaaGreatD4
import Derived.Test.YtkdaonhccijffaaGreatC0
namespace Go.AE.S
open Go Go.AE
set_option linter.unusedSimpArgs false
set_option linter.unusedVariables false
theorem clash_self (u : Term) : cfl u u = false := by
  unfold cfl; simp
theorem clash_comm (u v : Term) : cfl u v = cfl v u := by
  unfold cfl; simp only [decide_eq_decide]; constructor <;> (rintro ⟨h1, h2, h3, h4⟩; exact ⟨h2, h1, h3.symm, fun e => h4 e.symm⟩)
theorem clash_ex : ∀ (r p : List Term), outG p r = true → ∃ u ∈ r, ∃ b ∈ p ++ r, cfl u b = true
  | [], p, h => by simp [outG] at h
  | u :: r, p, h => by
    simp only [outG, Bool.or_eq_true] at h
    rcases h with h | h
    · obtain ⟨b, hb, hc⟩ := List.any_eq_true.1 h
      exact ⟨u, by simp, b, by simp [hb], hc⟩
    · obtain ⟨v, hv, b, hb, hc⟩ := clash_ex r (p ++ [u]) h
      exact ⟨v, by simp [hv], b, by simpa using hb, hc⟩
theorem clash_no : ∀ (r p : List Term), outG p r = false → ∀ u ∈ r, ∀ b ∈ p ++ r, cfl u b = false
  | [], p, h, u, hu => by simp at hu
  | x :: r, p, h, u, hu => by
    simp only [outG, Bool.or_eq_false_iff] at h
    have ih := clash_no r (p ++ [x]) h.2
    have hx : ∀ b ∈ p ++ x :: r, cfl x b = false := by
      intro b hb
      rcases List.mem_append.1 hb with hb | hb
      · simpa using List.any_eq_false.1 h.1 b hb
      · rcases List.mem_cons.1 hb with rfl | hb
        · exact clash_self b
        · rw [clash_comm]; exact ih b (by simp [hb]) x (by simp) |>.symm ▸ rfl
    rcases List.mem_cons.1 hu with rfl | hu
    · exact hx
    · intro b hb
      exact ih u hu b (by simpa using hb)
theorem first_all : ∀ l : List Term, (∀ a ∈ l, nodeN a = 0) → firstN l = 0
  | [], _ => rfl
  | a :: l, h => by
    simp only [firstN]
    rw [if_pos (h a (by simp))]
    exact first_all l fun b hb => h b (by simp [hb])
/-- What an accepted term is. -/
theorem check_zero (t : Term) : checkT t = 0 ↔ (t.deep : Int) ≤ 64 ∧ (t.count : Int) ≤ 4096 ∧ AllOk t ∧ ∀ u ∈ t.post, ∀ b ∈ t.post, cfl u b = false := by
  constructor
  · intro h
    have ha := check_all h
    unfold checkT at h
    split at h
    · rename_i hb
      refine ⟨hb.1, hb.2, ha, ?_⟩
      rw [ckE_eq, if_neg (fun h' => h' (first_all _ ha))] at h
      split at h
      · cases h
      · rename_i ho
        intro u hu b hb
        exact clash_no t.post [] (by simpa using ho) u hu b (by simpa using hb)
    · cases h
  · rintro ⟨h1, h2, h3, h4⟩
    unfold checkT
    rw [if_pos ⟨h1, h2⟩, ckE_eq, if_neg (fun h' => h' (first_all _ h3)), if_neg]
    intro hx
    obtain ⟨a, ha, b, hb', hc⟩ := clash_ex t.post [] hx
    rw [h4 a ha b (by simpa using hb')] at hc
    cases hc
theorem foldT_w (t : Term) : t.foldT.w = t.w := by
  rw [Term.foldT_eq]
  split <;> rfl
theorem closed_arg {t a : Term} (h : closedT t = true) (ha : a ∈ t.args) : closedT a = true := by
  rw [closedT_eq] at h
  simp only [Bool.and_eq_true, Bool.not_eq_true', List.any_eq_false, Bool.not_eq_true, Bool.not_eq_false'] at h
  have := h.2 a ha
  cases hc : closedT a
  · rw [hc] at this; simp at this
  · rfl
theorem closed_op {t : Term} (h : closedT t = true) : t.op ≠ 1 := by
  rw [closedT_eq, Bool.and_eq_true] at h
  exact of_decide_eq_true h.1
theorem closed_val (E E' : ByteArray → Nat) (t : Term) : closedT t = true → t.valT E = t.valT E' := by
  induction t using Term.ind with
  | h t ih =>
  intro h
  rw [Term.valT_eq, Term.valT_eq, if_neg (closed_op h), if_neg (closed_op h)]
  have : Term.valsT E t.args = Term.valsT E' t.args := by
    rw [Term.valsT_map, Term.valsT_map]
    exact List.map_congr_left fun a ha => by rw [ih a ha (closed_arg h ha)]
  rw [this]
theorem fold_val (E : ByteArray → Nat) (t : Term) : t.foldT.valT E = t.valT E := by
  induction t using Term.ind with
  | h t ih =>
  rw [Term.foldT_eq]
  split
  · rename_i h
    rw [closed_val E (fun _ => 0) t h, Term.valT_eq]
    show (if (2 : Int) = 1 then _ else compN 2 t.w ((t.valT (fun _ => 0) : Nat) : Int).toNat (Term.valsT E [])) = _
    rw [if_neg (by decide), Term.valsT]
    rfl
  · rw [Term.valT_eq, Term.valT_eq E t]
    have : Term.valsT E (t.args.map Term.foldT) = Term.valsT E t.args := by
      rw [Term.valsT_map, Term.valsT_map, List.map_map]
      exact List.map_congr_left fun a ha => by
        show Wd.mk a.foldT.w (a.foldT.valT E) = _
        rw [foldT_w, ih a ha]
    show (if t.op = 1 then _ else compN t.op t.w t.v.toNat (Term.valsT E (t.args.map Term.foldT))) = _
    rw [this]
    rfl
theorem node_const {t : Term} (h : AllOk t) (ht : TOk t) : nodeN (.mk 2 t.w (t.valT (fun _ => 0) : Nat) (bs []) []) = 0 := by
  have hv := (val_ok (fun _ => 0) t h ht).1
  have hn := allOk_self h
  have hw := width_64 hn.wd
  have hw1 := hn.w
  generalize t.valT (fun _ => 0) = x at *
  have hcw : cw t.w = t.w.toNat := by unfold cw clampW; omega
  rw [hcw] at hv
  have hlt : (x : Int) < (2 : Int) ^ t.w.toNat := by
    have : ((2 : Int) ^ t.w.toNat) = ((2 ^ t.w.toNat : Nat) : Int) := by simp
    rw [this]
    omega
  have hl : widthW 2 t.w x [] = (t.w, 0) := by
    show leafW 2 t.w x = _
    unfold leafW
    rw [if_neg]
    omega
  show (if arity 2 < 0 then (4 : Int) else if (24 : Int) ≤ 2 ∧ (2 : Int) ≤ 26 then 4 else if ¬ (([] : List Term).length : Int) = arity 2 then 4
    else if ¬ bs [] = bs [] ∧ ¬ (2 : Int) = 1 then 4 else if ¬ (x : Int) = 0 ∧ ¬ (2 : Int) = 2 ∧ ¬ (2 : Int) = 21 then 4
    else if (2 : Int) = 1 ∧ nameOk (bs []) = false then 5 else if t.w < 1 then 3
    else if ¬ (widthW 2 t.w x ([] : List Int)).2 = 0 then 3 else if ¬ (widthW 2 t.w x ([] : List Int)).1 = t.w then 3 else 0) = 0
  rw [hl]
  have ha : arity 2 = 0 := rfl
  rw [ha]
  simp
  omega
theorem node_args {o w v : Int} {s : ByteArray} {l m : List Term} (h : l.map Term.w = m.map Term.w) : nodeN (.mk o w v s l) = nodeN (.mk o w v s m) := by
  have hl : l.length = m.length := by simpa using congrArg List.length h
  unfold nodeN
  show (if arity o < 0 then (4 : Int) else if 24 ≤ o ∧ o ≤ 26 then 4 else if ¬ (l.length : Int) = arity o then 4
    else if ¬ s = bs [] ∧ ¬ o = 1 then 4 else if ¬ v = 0 ∧ ¬ o = 2 ∧ ¬ o = 21 then 4
    else if o = 1 ∧ nameOk s = false then 5 else if w < 1 then 3
    else if ¬ (widthW o w v (l.map Term.w)).2 = 0 then 3 else if ¬ (widthW o w v (l.map Term.w)).1 = w then 3 else 0) = _
  rw [h, hl]
  rfl
theorem fold_node (t : Term) (h : AllOk t) (ht : TOk t) : nodeN t.foldT = 0 := by
  rw [Term.foldT_eq]
  split
  · exact node_const h ht
  · have := h t ((mem_post t t).2 (mem_pre.2 (.inl rfl)))
    rw [← this]
    cases t with
    | mk o w v s as =>
      refine node_args ?_
      show (as.map Term.foldT).map Term.w = _
      rw [List.map_map]
      exact List.map_congr_left fun a ha => foldT_w a
/-- The nodes of a folded term: constants and folded nodes' heads. -/
theorem fold_post (t : Term) : AllOk t → TOk t → ∀ u ∈ t.foldT.pre, nodeN u = 0 ∧ (u.op = 1 → ∃ u' ∈ t.pre, u'.op = 1 ∧ u'.name = u.name ∧ u'.w = u.w) := by
  induction t using Term.ind with
  | h t ih =>
  intro h ht u hu
  have hn := fold_node t h ht
  rcases mem_pre.1 hu with rfl | ⟨a, ha, hu⟩
  · refine ⟨hn, fun h1 => ?_⟩
    rw [Term.foldT_eq] at h1 ⊢
    split at h1
    · exact absurd h1 (by show ¬ (2 : Int) = 1; decide)
    · rename_i hc
      rw [if_neg hc]
      exact ⟨t, mem_pre.2 (.inl rfl), h1, rfl, rfl⟩
  · rw [Term.foldT_eq] at ha
    split at ha
    · exact absurd ha (by show ¬ a ∈ ([] : List Term); simp)
    · have ha' : a ∈ t.args.map Term.foldT := ha
      obtain ⟨b, hb, rfl⟩ := List.mem_map.1 ha'
      obtain ⟨h1, h2⟩ := ih b hb (allOk_arg h hb) (ht.args hb) u hu
      refine ⟨h1, fun h9 => ?_⟩
      obtain ⟨u', hu', q⟩ := h2 h9
      exact ⟨u', mem_pre.2 (.inr ⟨b, hb, hu'⟩), q⟩
theorem fold_deep (t : Term) : t.foldT.deep ≤ t.deep ∧ t.foldT.count ≤ t.count := by
  induction t using Term.ind with
  | h t ih =>
  rw [Term.foldT_eq]
  have hd := Term.deep_eq t
  have hc := Term.count_eq t
  split
  · rw [Term.deep_eq, Term.count_eq]
    show Term.deeps [] + 1 ≤ _ ∧ 1 + Term.counts [] ≤ _
    simp only [Term.deeps, Term.counts]
    omega
  · rw [Term.deep_eq (.mk _ _ _ _ _), Term.count_eq (.mk _ _ _ _ _)]
    show Term.deeps (t.args.map Term.foldT) + 1 ≤ _ ∧ 1 + Term.counts (t.args.map Term.foldT) ≤ _
    have key : ∀ l : List Term, (∀ a ∈ l, a.foldT.deep ≤ a.deep ∧ a.foldT.count ≤ a.count) → Term.deeps (l.map Term.foldT) ≤ Term.deeps l ∧ Term.counts (l.map Term.foldT) ≤ Term.counts l := by
      intro l
      induction l with
      | nil => intro _; exact ⟨Nat.le_refl _, Nat.le_refl _⟩
      | cons a l ihl =>
        intro hx
        have h1 := hx a (by simp)
        have h2 := ihl fun b hb => hx b (by simp [hb])
        simp only [List.map_cons, Term.deeps, Term.counts]
        omega
    have := key t.args fun a ha => ih a ha
    omega
theorem fold_check {t : Term} (ht : TOk t) (h : checkT t = 0) : checkT t.foldT = 0 := by
  obtain ⟨h1, h2, h3, h4⟩ := (check_zero t).1 h
  have hd := fold_deep t
  refine (check_zero _).2 ⟨by omega, by omega, fun u hu => (fold_post t h3 ht u ((mem_post _ u).1 hu)).1, fun u hu b hb => ?_⟩
  obtain ⟨_, q1⟩ := fold_post t h3 ht u ((mem_post _ u).1 hu)
  obtain ⟨_, q2⟩ := fold_post t h3 ht b ((mem_post _ b).1 hb)
  unfold cfl
  refine decide_eq_false ?_
  rintro ⟨a1, a2, a3, a4⟩
  obtain ⟨u', hu', e1, e2, e3⟩ := q1 a1
  obtain ⟨b', hb', f1, f2, f3⟩ := q2 a2
  have := h4 u' ((mem_post t u').2 hu') b' ((mem_post t b').2 hb')
  unfold cfl at this
  exact of_decide_eq_false this ⟨e1, f1, by rw [e2, f2, a3], by rw [e3, f3]; exact a4⟩
theorem fold_bound (l : List Bd) (t : Term) : AllOk t → boundB l t.foldT = boundB l t := by
  induction t using Term.ind with
  | h t ih =>
  intro h
  rw [Term.foldT_eq]
  cases hc : closedT t with
  | true => rw [if_pos rfl, closed_bound hc l, closed_bound (t := .mk 2 t.w _ (bs []) []) rfl l]
  | false =>
    rw [if_neg (by simp)]
    by_cases h1 : t.op = 1
    · have ha := (allOk_self h).ar.1
      rw [h1] at ha
      have h0 : t.args = [] := List.length_eq_zero_iff.1 (by have : arity 1 = 0 := rfl; omega)
      cases t with
      | mk o w v s as =>
        have : as = [] := h0
        subst this
        rfl
    · rw [bound_args l t h1, bound_args l (.mk t.op t.w t.v t.name (t.args.map Term.foldT)) h1]
      show (t.args.map Term.foldT).all (boundB l) = _
      rw [List.all_map]
      have key : ∀ m : List Term, (∀ a ∈ m, boundB l a.foldT = boundB l a) → m.all (boundB l ∘ Term.foldT) = m.all (boundB l) := by
        intro m
        induction m with
        | nil => intro _; rfl
        | cons a m ihm => intro hx; rw [List.all_cons, List.all_cons, ihm fun b hb => hx b (by simp [hb])]; show (boundB l a.foldT && _) = _; rw [hx a (by simp)]
      exact key t.args fun a ha => ih a ha (allOk_arg h ha)
theorem fold_closed (t : Term) : closedT t.foldT = closedT t := by
  induction t using Term.ind with
  | h t ih =>
  rw [Term.foldT_eq]
  cases hc : closedT t with
  | true => rw [if_pos rfl]; rfl
  | false =>
    rw [if_neg (by simp), closedT_eq, ← hc, closedT_eq t]
    show (decide (t.op ≠ 1) && !((t.args.map Term.foldT).any fun a => !closedT a)) = _
    rw [List.any_map]
    have key : ∀ m : List Term, (∀ a ∈ m, closedT a.foldT = closedT a) → m.any ((fun a => !closedT a) ∘ Term.foldT) = m.any fun a => !closedT a := by
      intro m
      induction m with
      | nil => intro _; rfl
      | cons a m ihm => intro hx; rw [List.any_cons, List.any_cons, ihm fun b hb => hx b (by simp [hb])]; show ((!closedT a.foldT) || _) = _; rw [hx a (by simp)]
    rw [key t.args fun a ha => ih a ha]
end Go.AE.S
/- The law EvalFoldKeeps. --M-- -/
namespace Go.AE.S
open Go Go.AE
set_option linter.unusedSimpArgs false
set_option linter.unusedVariables false
variable {τ : Tm} {σ : Store} {rd : Option Nat}
theorem evalP_ok {l : List Bd} {t : Term} (h : checkT t = 0) : ∃ x e : Int, evalP l t = [.int .u64 x, .int .i64 e] := by
  unfold evalP
  rw [if_pos h]
  cases boundB l t
  · exact ⟨_, _, rfl⟩
  · exact ⟨_, _, rfl⟩
theorem bb_self (b : Bool) : (b == b) = true := by cases b <;> rfl
set_option maxHeartbeats 8000000 in
theorem p_EvalFoldKeeps (t : Term) (ht : TOk t) (l : List Bd) (hl : ∀ b ∈ l, W b.v) (hln : l.length ≤ 9223372036854775807) : R P f_law08_EvalFoldKeeps [.agg t.row, .lst (l.map brow)] = some (.bool true) := by
  have hL := s_light t ht
  have hv := s_live
  cases hb : light8 t with
  | false =>
    rw [hb] at hL
    (rw [r_law08_EvalFoldKeeps (Nat.le_of_ble_eq_true rfl), F_law08_EvalFoldKeeps]; simp (disch := omega) only [eqs, eqL, ↓gc_len, seval, -List.reduceReplicate, reduceCtorEq, omap, depth, pcall, pureR, freezeFor, freezeAll, tupR, resV, purR, enterTm, number, gcOk, rangeEnd, mkTup, allP, eqM, q_law08_light, hL, q_law08_live, hv])
  | true =>
    rw [hb] at hL
    have hc := light_c hb
    have hk := s_r06_Check t ht hc
    rcases Classical.propComplete (checkT t = 0) with c0 | c0
    rotate_left
    · (rw [r_law08_EvalFoldKeeps (Nat.le_of_ble_eq_true rfl), F_law08_EvalFoldKeeps]; simp (disch := omega) only [eqs, eqL, ↓gc_len, seval, -List.reduceReplicate, reduceCtorEq, omap, depth, pcall, pureR, freezeFor, freezeAll, tupR, resV, purR, enterTm, number, gcOk, rangeEnd, mkTup, allP, eqM, q_law08_light, hL, q_law08_live, hv, q_r06_Check, hk, c0])
    have h0 := of_eq_true c0
    rw [h0] at hk
    have hF := s_eval_Fold t ht hc
    have hX : foldX t = t.foldT := by unfold foldX; rw [if_pos h0]
    rw [hX] at hF
    obtain ⟨_, _, ha, _⟩ := (check_zero t).1 h0
    have hfd := fold_deep t
    have hfc : t.foldT.count ≤ 1000000 := by omega
    have hft := tok_fold t ha ht
    have h1 := s_eval_Eval l hl hln t ht hc
    have h2 := s_eval_Eval l hl hln t.foldT hft hfc
    have he : evalP l t.foldT = evalP l t := by
      unfold evalP
      rw [if_pos h0, if_pos (fold_check ht h0), fold_bound l t ha, fold_val]
    rw [he] at h2
    obtain ⟨x, e, hx⟩ := evalP_ok (l := l) h0
    rw [hx] at h1 h2
    have h3 := s_eval_Closed t hc
    have h4 := s_eval_Closed t.foldT hfc
    rw [fold_closed] at h4
    have h5 := s_r06_Size t hc
    have h6 := s_r06_Light t.foldT hft 66 t.count (by decide) (by omega)
    unfold lightV at h6
    have hdd := of_decide_eq_true hb
    rw [if_pos ⟨by omega, by omega⟩] at h6
    have hw := foldT_w t
    have hq := bb_self
    generalize t.foldT = u at *
    (rw [r_law08_EvalFoldKeeps (Nat.le_of_ble_eq_true rfl), F_law08_EvalFoldKeeps]; simp (disch := omega) only [eqs, eqL, ↓gc_len, seval, -List.reduceReplicate, reduceCtorEq, omap, depth, pcall, pureR, freezeFor, freezeAll, tupR, resV, purR, enterTm, number, gcOk, rangeEnd, mkTup, allP, eqM, q_law08_light, hL, q_law08_live, hv, q_r06_Check, hk, q_eval_Fold, hF, q_eval_Eval, h1, h2, q_r06_Size, h5, q_r06_Light, h6, q_eval_Closed, h3, h4, hq, hw])
end Go.AE.S
