/- The law EvalReduces. --M-- -/
import Derived.Test.YtkdaonhccijffaaGreatD5
namespace Go.AE.S
open Go Go.AE
set_option linter.unusedSimpArgs false
set_option linter.unusedVariables false
variable {τ : Tm} {σ : Store} {rd : Option Nat}
theorem addU_in : ∀ {l : List Term} {s : List V2} {v : V2}, v ∈ l.foldl addU s → v ∈ s ∨ ∃ u ∈ l, u.op = 1 ∧ v = ⟨u.name, u.w⟩
  | [], s, v, h => .inl h
  | u :: l, s, v, h => by
    rw [List.foldl_cons] at h
    rcases addU_in h with h | ⟨u', hu, q⟩
    · rcases addU_iff.1 h with h | ⟨h1, h2, _⟩
      · exact .inl h
      · exact .inr ⟨u, by simp, h1, h2⟩
    · exact .inr ⟨u', by simp [hu], q⟩
theorem vars_in {t : Term} {v : V2} (h : v ∈ varsT t) : ∃ u ∈ t.post, u.op = 1 ∧ v = ⟨u.name, u.w⟩ := by
  rcases addU_in (isort_mem.1 h) with h | ⟨u, hu, q⟩
  · simp at h
  · exact ⟨u, (mem_post t u).2 hu, q⟩
theorem vars_of {t u : Term} (hu : u ∈ t.post) (h1 : u.op = 1) : ∃ v ∈ varsT t, v.name = u.name := by
  obtain ⟨v, hv, hn⟩ := (names_addU t.pre [] u.name).2 (.inr ⟨u, (mem_post t u).1 hu, h1, rfl⟩)
  exact ⟨v, isort_mem.2 hv, hn⟩
theorem vars_w {t : Term} (h : checkT t = 0) {u : Term} (hu : u ∈ t.post) (h1 : u.op = 1) {v : V2} (hv : v ∈ varsT t) (hn : v.name = u.name) : v.w = u.w := by
  obtain ⟨_, _, _, h4⟩ := (check_zero t).1 h
  obtain ⟨u', hu', h1', rfl⟩ := vars_in hv
  have := h4 u' hu' u hu
  unfold cfl at this
  have := of_decide_eq_false this
  refine Classical.byContradiction fun hw => this ⟨h1', h1, hn, hw⟩
theorem vars_len (t : Term) : (varsT t).length ≤ t.count := by
  rw [varsT_eq]
  have := insUs_len (l := t.pre) (s := [])
  rw [Term.pre_len, List.length_nil] at this
  omega
/-- The environment with reduced values, each followed by another of its name. -/
def redF (l : List Bd) (x : Nat) (s : List Bd) (v : V2) : List Bd := match lookB v.name l with
  | some y => s ++ [⟨v.name, y % 2 ^ cw v.w⟩, ⟨v.name, x⟩]
  | none => s
theorem lookB_app (n : ByteArray) (r : List Bd) : ∀ s : List Bd, lookB n (s ++ r) = match lookB n s with | some v => some v | none => lookB n r
  | [] => rfl
  | e :: s => by
    simp only [List.cons_append, lookB]
    split
    · rfl
    · exact lookB_app n r s
theorem look_red (l : List Bd) (x : Nat) (n : ByteArray) (w : Int) : ∀ (V : List V2) (s : List Bd), (∀ v ∈ V, v.name = n → v.w = w) → lookB n (V.foldl (redF l x) s) = match lookB n s with
    | some y => some y
    | none => if V.any (fun v => decide (v.name = n)) = true then (lookB n l).map (· % 2 ^ cw w) else none
  | [], s, _ => by
    show lookB n s = _
    cases lookB n s <;> rfl
  | v :: V, s, h => by
    rw [List.foldl_cons, look_red l x n w V _ fun a ha => h a (by simp [ha])]
    unfold redF
    by_cases hn : v.name = n
    · have hw := h v (by simp) hn
      subst hn
      cases hl : lookB v.name l with
      | none =>
        cases lookB v.name s with
        | some y => rfl
        | none => simp
      | some y =>
        rw [lookB_app]
        cases lookB v.name s with
        | some y => rfl
        | none => simp [lookB, hw]
    · cases hl : lookB v.name l with
      | none =>
        cases lookB n s with
        | some y => rfl
        | none => simp [hn]
      | some y =>
        rw [lookB_app]
        cases lookB n s with
        | some y => rfl
        | none => simp [lookB, hn]
def redE (l : List Bd) (x : Nat) (t : Term) : List Bd := (varsT t).foldl (redF l x) []
theorem look_redE {t : Term} (h : checkT t = 0) (l : List Bd) (x : Nat) {u : Term} (hu : u ∈ t.post) (h1 : u.op = 1) : lookB u.name (redE l x t) = (lookB u.name l).map (· % 2 ^ cw u.w) := by
  unfold redE
  rw [look_red l x u.name u.w (varsT t) [] fun v hv hn => vars_w h hu h1 hv hn]
  have : (varsT t).any (fun v => decide (v.name = u.name)) = true := by
    obtain ⟨v, hv, hn⟩ := vars_of hu h1
    exact List.any_eq_true.2 ⟨v, hv, decide_eq_true hn⟩
  simp only [lookB, this, if_true]
theorem bound_red {t : Term} (h : checkT t = 0) (l : List Bd) (x : Nat) : boundB (redE l x t) t = boundB l t := by
  unfold boundB
  rw [Bool.eq_iff_iff, List.all_eq_true, List.all_eq_true]
  constructor
  · intro hx u hu
    have := hx u hu
    by_cases h1 : u.op = 1
    · rw [look_redE h l x hu h1] at this
      simpa using this
    · simp [h1]
  · intro hx u hu
    have := hx u hu
    by_cases h1 : u.op = 1
    · rw [look_redE h l x hu h1]
      simpa using this
    · simp [h1]
theorem val_env (E E' : ByteArray → Nat) (t : Term) : (∀ u ∈ t.post, u.op = 1 → E u.name % 2 ^ cw u.w = E' u.name % 2 ^ cw u.w) → t.valT E = t.valT E' := by
  induction t using Term.ind with
  | h t ih =>
  intro h
  rw [Term.valT_eq, Term.valT_eq E' t]
  by_cases h1 : t.op = 1
  · rw [if_pos h1, if_pos h1, h t ((mem_post t t).2 (mem_pre.2 (.inl rfl))) h1]
  · rw [if_neg h1, if_neg h1]
    have : Term.valsT E t.args = Term.valsT E' t.args := by
      rw [Term.valsT_map, Term.valsT_map]
      exact List.map_congr_left fun a ha => by rw [ih a ha fun u hu => h u ((mem_post t u).2 (mem_pre.2 (.inr ⟨a, ha, (mem_post a u).1 hu⟩)))]
    rw [this]
theorem val_red {t : Term} (h : checkT t = 0) (l : List Bd) (x : Nat) : t.valT (envB (redE l x t)) = t.valT (envB l) := by
  refine val_env _ _ t fun u hu h1 => ?_
  unfold envB
  rw [look_redE h l x hu h1]
  cases lookB u.name l with
  | none => rfl
  | some y => exact Nat.mod_mod _ _
theorem evalP_red {t : Term} (h : checkT t = 0) (l : List Bd) (x : Nat) : evalP (redE l x t) t = evalP l t := by
  unfold evalP
  rw [if_pos h, if_pos h, bound_red h, val_red h]
theorem red_W {l : List Bd} (hl : ∀ b ∈ l, W b.v) {x : Nat} (hx : W x) (V : List V2) : ∀ s : List Bd, (∀ b ∈ s, W b.v) → ∀ b ∈ V.foldl (redF l x) s, W b.v := by
  induction V with
  | nil => intro s h; exact h
  | cons v V ih =>
    intro s h
    refine ih _ ?_
    unfold redF
    cases hk : lookB v.name l with
    | none => exact h
    | some y =>
      intro b hb
      rcases List.mem_append.1 hb with hb | hb
      · exact h b hb
      · rcases List.mem_cons.1 hb with rfl | hb
        · exact cut_lt (cw_in v.w).2 y
        · rw [List.mem_singleton.1 hb]; exact hx
theorem red_len (l : List Bd) (x : Nat) : ∀ (V : List V2) (s : List Bd), (V.foldl (redF l x) s).length ≤ s.length + 2 * V.length
  | [], s => by simp
  | v :: V, s => by
    have := red_len l x V (redF l x s v)
    have h2 : (redF l x s v).length ≤ s.length + 2 := by unfold redF; split <;> simp
    simp only [List.foldl_cons, List.length_cons]
    omega
abbrev sRd (s : List Bd) : Store := [.pv (esOf 2 s) (s.map brow) false]
abbrev e_red (l : List Bd) (x : Nat) (t : Term) (V : List V2) (s : List Bd) (i : Int) : List (Nat × AV) := [(1, .p (.lst (l.map brow))), (2, .p (.int .u64 (x : Int))), (3, .p (.ptr t.row 0)), (7, .sl 0 s.length), (8, .p (.lst (V.map vrow))), (9, .p (.int .i64 i))]
theorem bsl_b2 {n m : ByteArray} {x y : Int} : bsliceV σ 2 2 (fillP (List.replicate 2 [.p (.str (bs [])), .p (.int .u64 0)]).flatten [(0, 2, .p (.agg [.str n, .int .u64 x])), (2, 2, .p (.agg [.str m, .int .u64 y]))]) = some (.sl σ.length 2, σ ++ [.pv 2 [[.str n, .int .u64 x], [.str m, .int .u64 y]] false]) := rfl
theorem src_12 {o : Obj} {a b : List PV} {fr : Bool} : srcOf [o, .pv 2 [a, b] fr] 2 (.sl 1 2) = some (.inl [a, b]) := src_sl rfl rfl (.inl rfl)
theorem esOf_two {s : List Bd} {a b : Bd} : esOf 2 (s ++ [a, b]) = 2 := by cases s <;> rfl
theorem v_f1 {v : V2} : fadrV 1 (.p (.ptr (vrow v) 0)) = some (.p (.ptr (vrow v) 1)) := rfl
theorem v_g1 {v : V2} : (vrow v)[1]? = some (.int .i64 v.w) := rfl
theorem look_W {l : List Bd} (hl : ∀ b ∈ l, W b.v) {n : ByteArray} {y : Nat} (h : lookB n l = some y) : W y := by
  induction l with
  | nil => cases h
  | cons b l ih =>
    unfold lookB at h
    split at h
    · cases h; exact hl b (by simp)
    · exact ih (fun b hb => hl b (by simp [hb])) h
set_option maxHeartbeats 8000000 in
theorem l0_Reduces (l : List Bd) (hl : ∀ b ∈ l, W b.v) (hln : l.length ≤ 9223372036854775807) (x : Nat) (hx : W x) (t : Term) (V : List V2) (hV : V.length ≤ 1000000) :
    loopAt P L0_law08_EvalReduces (e_red l x t V [] 0) (sRd []) 90 none = back P [1, 2, 3, 7, 8, 9] B0_law08_EvalReduces 1 (exec P B0_law08_EvalReduces ⟨tm (e_red l x t V (V.foldl (redF l x) []) V.length), sRd (V.foldl (redF l x) []), 90, none⟩) := by
  obtain ⟨_, h⟩ := loop_run (P := P) (nt := 90) (lv := [1, 2, 3, 7, 8, 9]) (b := B0_law08_EvalReduces) (rd := none) (as := V) (fun i (s : List Bd) => e_red l x t V s i) sRd (fun _ s v => redF l x s v) (fun i s => s.length ≤ 2 * i)
    (fun i v s hv hi hs => by
      have hlt : ((i : Int) < V.length) = True := by simpa using hi
      have hix := fun σ => v_iadr (k := .i64) (es := 2) (σ := σ) (map_get (f := vrow) hv) (by simp [vrow])
      have hlk := r_Look l v.name hln
      unfold lookP at hlk
      unfold redF
      cases hk : lookB v.name l with
      | none =>
        rw [hk] at hlk
        refine ⟨by simp only; omega, ?_⟩
        simp only [B0_law08_EvalReduces]
        simp (disch := omega) only [eqs, eqL, ↓gc_len, seval, -List.reduceReplicate, reduceCtorEq, omap, depth, pcall, pureR, freezeFor, freezeAll, tupR, resV, purR, enterTm, number, gcOk, rangeEnd, mkTup, allP, eqM, hlt, hix, List.length_map, v_f0, v_g0, q_r08_Look, hlk, e_red]
      | some y =>
        rw [hk] at hlk
        have hcut := n_rCut v.w y (look_W hl hk)
        have hap := v_append (σ := sRd s ++ [.pv 2 [[.str v.name, .int .u64 ((y % 2 ^ cw v.w : Nat) : Int)], [.str v.name, .int .u64 (x : Int)]] false]) (b := 0) (n := s.length) (e := esOf 2 s) (es := 2) (bytes := 24) (rows := s.map brow) (new := [[.str v.name, .int .u64 ((y % 2 ^ cw v.w : Nat) : Int)], [.str v.name, .int .u64 (x : Int)]]) rfl (by simp) (esOf_or _ _ _) (by simp only [List.length_cons, List.length_nil]; omega)
        simp only [sRd, List.cons_append, List.nil_append] at hap
        refine ⟨by simp only [List.length_append, List.length_cons, List.length_nil]; omega, ?_⟩
        simp only [B0_law08_EvalReduces]
        simp (disch := omega) only [eqs, eqL, ↓gc_len, seval, -List.reduceReplicate, reduceCtorEq, omap, depth, pcall, pureR, freezeFor, freezeAll, tupR, resV, purR, enterTm, number, gcOk, rangeEnd, mkTup, allP, eqM, hlt, hix, List.length_map, v_f0, v_g0, v_f1, v_g1, q_r08_Look, hlk, q_r01_Cut, hcut, bsl_b2, bu_e, src_12, hap, esOf_two, List.map_append, List.length_append, brow, e_red, sRd]) (fun i s => rfl) [] (by simp) _ (foldE_foldl (redF l x) V 0 [])
  exact h
end Go.AE.S
/- The law EvalReduces, by the program. --M-- -/
namespace Go.AE.S
open Go Go.AE
set_option linter.unusedSimpArgs false
set_option linter.unusedVariables false
variable {τ : Tm} {σ : Store} {rd : Option Nat}
set_option maxHeartbeats 8000000 in
theorem p_EvalReduces (t : Term) (ht : TOk t) (l : List Bd) (hl : ∀ b ∈ l, W b.v) (hln : l.length ≤ 9223372036854775807) (X : Int) (hX : U64 X) : R P f_law08_EvalReduces [.agg t.row, .lst (l.map brow), .int .u64 X] = some (.bool true) := by
  have hL := s_light t ht
  have hv := s_live
  obtain ⟨x, rfl⟩ : ∃ x : Nat, X = x := ⟨X.toNat, by have := hX.1; omega⟩
  have hx : W x := by have := hX.2; show x < _; omega
  cases hb : light8 t with
  | false =>
    rw [hb] at hL
    (rw [r_law08_EvalReduces (Nat.le_of_ble_eq_true rfl), F_law08_EvalReduces]; simp (disch := omega) only [eqs, eqL, ↓gc_len, seval, -List.reduceReplicate, reduceCtorEq, omap, depth, pcall, pureR, freezeFor, freezeAll, tupR, resV, purR, enterTm, number, gcOk, rangeEnd, mkTup, allP, eqM, q_law08_light, hL, q_law08_live, hv])
  | true =>
    rw [hb] at hL
    have hc := light_c hb
    have hk := s_r06_Check t ht hc
    rcases Classical.propComplete (checkT t = 0) with c0 | c0
    rotate_left
    · (rw [r_law08_EvalReduces (Nat.le_of_ble_eq_true rfl), F_law08_EvalReduces]; simp (disch := omega) only [eqs, eqL, ↓gc_len, seval, -List.reduceReplicate, reduceCtorEq, omap, depth, pcall, pureR, freezeFor, freezeAll, tupR, resV, purR, enterTm, number, gcOk, rangeEnd, mkTup, allP, eqM, q_law08_light, hL, q_law08_live, hv, q_r06_Check, hk, c0])
    have h0 := of_eq_true c0
    rw [h0] at hk
    have hvs := s_r06_Vars t hc
    have hV := vars_len t
    have h1 := s_eval_Eval l hl hln t ht hc
    have hrl := red_len l x (varsT t) []
    have h2 := s_eval_Eval (redE l x t) (red_W hl hx (varsT t) [] (by simp)) (by unfold redE; simp at hrl; omega) t ht hc
    rw [evalP_red h0] at h2
    obtain ⟨y, e, hy⟩ := evalP_ok (l := l) h0
    rw [hy] at h1 h2
    have hlo := l0_Reduces l hl hln x hx t (varsT t) (by omega)
    have hlo' : loopAt P L0_law08_EvalReduces [(1, .p (.lst (l.map brow))), (2, .p (.int .u64 (x : Int))), (3, .p (.ptr t.row 0)), (7, .sl 0 0), (8, .p (.lst ((varsT t).map vrow))), (9, .p (.int .i64 0))] [.pv 0 [] false] 90 none = _ := hlo
    have hR : (varsT t).foldl (redF l x) [] = redE l x t := rfl
    rw [hR] at hlo'
    generalize varsT t = V at *
    generalize redE l x t = r at *
    (rw [r_law08_EvalReduces (Nat.le_of_ble_eq_true rfl), F_law08_EvalReduces]; simp (disch := omega) only [eqs, eqL, ↓gc_len, seval, -List.reduceReplicate, reduceCtorEq, omap, depth, pcall, pureR, freezeFor, freezeAll, tupR, resV, purR, enterTm, number, gcOk, rangeEnd, mkTup, allP, eqM, q_law08_light, hL, q_law08_live, hv, q_r06_Check, hk, q_r06_Vars, hvs, k0_law08_EvalReduces, hlo', B0_law08_EvalReduces, Int.lt_irrefl, List.length_map, q_eval_Eval, h1, h2, e_red, sRd])
end Go.AE.S
