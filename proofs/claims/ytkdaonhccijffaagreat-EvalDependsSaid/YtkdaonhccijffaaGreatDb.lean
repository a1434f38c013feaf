/- The law EvalDepends. --M-- -/
import Derived.Test.YtkdaonhccijffaaGreatD6
namespace Go.AE.S
open Go Go.AE
set_option linter.unusedSimpArgs false
set_option linter.unusedVariables false
variable {τ : Tm} {σ : Store} {rd : Option Nat}
theorem look_more {m : Bd} {l : List Bd} {n : ByteArray} (h : ¬ n = m.name) : lookB n (m :: l) = lookB n l := by
  unfold lookB
  rw [if_neg (fun e => h e.symm)]
  cases l <;> rfl
theorem evalP_more {t : Term} (hk : checkT t = 0) {m : Bd} (h : (varsT t).any (fun v => decide (v.name = m.name)) = false) (l : List Bd) : evalP (m :: l) t = evalP l t := by
  have hn : ∀ u ∈ t.post, u.op = 1 → lookB u.name (m :: l) = lookB u.name l := by
    intro u hu h1
    obtain ⟨v, hv, hvn⟩ := vars_of hu h1
    have := List.any_eq_false.1 h v hv
    exact look_more fun e => this (decide_eq_true (by rw [hvn, e]))
  have hb : boundB (m :: l) t = boundB l t := by
    unfold boundB
    rw [Bool.eq_iff_iff, List.all_eq_true, List.all_eq_true]
    constructor
    · intro hx u hu
      by_cases h1 : u.op = 1
      · have := hx u hu; rw [hn u hu h1] at this; exact this
      · simp [h1]
    · intro hx u hu
      by_cases h1 : u.op = 1
      · have := hx u hu; rw [hn u hu h1]; exact this
      · simp [h1]
  have hv : t.valT (envB (m :: l)) = t.valT (envB l) := by
    refine val_env _ _ t fun u hu h1 => ?_
    unfold envB
    rw [hn u hu h1]
  unfold evalP
  rw [if_pos hk, if_pos hk, hb, hv]
abbrev e_dp (l : List Bd) (t : Term) (m : Bd) (V : List V2) (i : Int) : List (Nat × AV) := [(1, .p (.lst (l.map brow))), (3, .p (.ptr t.row 0)), (5, .p (.ptr (brow m) 0)), (7, .p (.lst (V.map vrow))), (8, .p (.int .i64 i))]
set_option maxHeartbeats 4000000 in
theorem l0_Depends (l : List Bd) (t : Term) (m : Bd) (V : List V2) (hV : V.length ≤ 1000000) : if V.any (fun v => decide (v.name = m.name)) = true then ∃ r, loopAt P L0_law08_EvalDepends (e_dp l t m V 0) [] 83 none = some r ∧ ret1 6 (.bool true) [] r else loopAt P L0_law08_EvalDepends (e_dp l t m V 0) [] 83 none = back P [1, 3, 5, 7, 8] B0_law08_EvalDepends 0 (exec P B0_law08_EvalDepends ⟨tm (e_dp l t m V V.length), [], 83, none⟩) := by
  have hlv := s_live
  have h := loop_to (P := P) (nt := 83) (lv := [1, 3, 5, 7, 8]) (b := B0_law08_EvalDepends) (rd := none) (as := V) (fun k (_ : Unit) => e_dp l t m V k) (fun _ => []) (fun _ _ v => if (fun v : V2 => decide (v.name = m.name)) v = true then .inr () else .inl ()) (fun (_ : Unit) => ret1 6 (.bool true) []) (fun _ _ => True)
    (fun i v s hv hi hs => by
      refine ⟨fun _ _ => trivial, ?_⟩
      have hlt : ((i : Int) < V.length) = True := by simpa using hi
      have hx := fun σ => v_iadr (k := .i64) (es := 2) (σ := σ) (map_get (f := vrow) hv) (by simp [vrow])
      rcases Classical.propComplete (v.name = m.name) with h1 | h1
      · simp only [B0_law08_EvalDepends]
        simp (disch := omega) only [eqs, eqL, ↓gc_len, seval, -List.reduceReplicate, reduceCtorEq, omap, depth, pcall, pureR, freezeFor, freezeAll, tupR, resV, purR, enterTm, number, gcOk, rangeEnd, mkTup, allP, eqM, hlt, hx, List.length_map, v_f0, v_g0, b_f0, b_g0, h1, q_law08_live, hlv, decide_true, if_true, e_dp, ret1]
      · simp only [B0_law08_EvalDepends]
        simp (disch := omega) only [eqs, eqL, ↓gc_len, seval, -List.reduceReplicate, reduceCtorEq, omap, depth, pcall, pureR, freezeFor, freezeAll, tupR, resV, purR, enterTm, number, gcOk, rangeEnd, mkTup, allP, eqM, hlt, hx, List.length_map, v_f0, v_g0, b_f0, b_g0, h1, decide_false, Bool.false_eq_true, if_false, e_dp, ret1]) (fun i s => rfl) () trivial
  rw [fold_anyG] at h
  cases hb : V.any (fun v => decide (v.name = m.name)) with
  | true => rw [hb, if_pos rfl] at h; rw [if_pos rfl]; exact h
  | false => rw [hb, if_neg (by simp)] at h; rw [if_neg (by simp)]; exact h.2
theorem bsl_m1 {m : Bd} : bsliceV σ 2 1 (fillP (List.replicate 1 [.p (.str (bs [])), .p (.int .u64 0)]).flatten [(0, 2, .p (.agg (brow m)))]) = some (.sl σ.length 1, σ ++ [.pv 2 [brow m] false]) := rfl
theorem b_ldm {m : Bd} : loadV σ 2 true (.p (.ptr (brow m) 0)) = some (.p (.agg (brow m))) := rfl
set_option maxHeartbeats 8000000 in
theorem p_EvalDepends (t : Term) (ht : TOk t) (l : List Bd) (hl : ∀ b ∈ l, W b.v) (hln : l.length * 24 ≤ 140737488351232) (m : Bd) (hm : W m.v) : R P f_law08_EvalDepends [.agg t.row, .lst (l.map brow), .agg (brow m)] = some (.bool true) := by
  have hL := s_light t ht
  have hv := s_live
  cases hb : light8 t with
  | false =>
    rw [hb] at hL
    (rw [r_law08_EvalDepends (Nat.le_of_ble_eq_true rfl), F_law08_EvalDepends]; simp (disch := omega) only [eqs, eqL, ↓gc_len, seval, -List.reduceReplicate, reduceCtorEq, omap, depth, pcall, pureR, freezeFor, freezeAll, tupR, resV, purR, enterTm, number, gcOk, rangeEnd, mkTup, allP, eqM, b_ce, b_in2, q_law08_light, hL, q_law08_live, hv])
  | true =>
    rw [hb] at hL
    have hc := light_c hb
    have hk := s_r06_Check t ht hc
    rcases Classical.propComplete (checkT t = 0) with c0 | c0
    rotate_left
    · (rw [r_law08_EvalDepends (Nat.le_of_ble_eq_true rfl), F_law08_EvalDepends]; simp (disch := omega) only [eqs, eqL, ↓gc_len, seval, -List.reduceReplicate, reduceCtorEq, omap, depth, pcall, pureR, freezeFor, freezeAll, tupR, resV, purR, enterTm, number, gcOk, rangeEnd, mkTup, allP, eqM, b_ce, b_in2, q_law08_light, hL, q_law08_live, hv, q_r06_Check, hk, c0])
    have h0 := of_eq_true c0
    rw [h0] at hk
    have hvs := s_r06_Vars t hc
    have hV := vars_len t
    have hlo := l0_Depends l t m (varsT t) (by omega)
    simp only [e_dp] at hlo
    cases hx : (varsT t).any (fun v => decide (v.name = m.name)) with
    | true =>
      rw [hx, if_pos rfl] at hlo
      generalize varsT t = V at *
      obtain ⟨⟨e', τ', σ', nt', rd'⟩, g1, g2, g3, g4⟩ := hlo
      simp only at g2 g3 g4
      subst g2; subst g4
      (rw [r_law08_EvalDepends (Nat.le_of_ble_eq_true rfl), F_law08_EvalDepends]; simp (disch := omega) only [eqs, eqL, ↓gc_len, seval, -List.reduceReplicate, reduceCtorEq, omap, depth, pcall, pureR, freezeFor, freezeAll, tupR, resV, purR, enterTm, number, gcOk, rangeEnd, mkTup, allP, eqM, b_ce, b_in2, q_law08_light, hL, q_law08_live, hv, q_r06_Check, hk, q_r06_Vars, hvs, k0_law08_EvalDepends, g1, g3])
    | false =>
      have hev := evalP_more h0 hx l
      rw [hx, if_neg (by simp)] at hlo
      have h1 := s_eval_Eval l hl (by omega) t ht hc
      have h2 := s_eval_Eval (m :: l) (fun b hb => by
        rcases List.mem_cons.1 hb with rfl | hb
        · exact hm
        · exact hl b hb) (by simp only [List.length_cons]; omega) t ht hc
      rw [hev] at h2
      have hM := r_Mask t.w
      obtain ⟨_, _, ha, _⟩ := (check_zero t).1 h0
      have hw : wide 2 (l.map brow) = true := by simp [wide, brow]
      have hap := v_append (σ := [.pv 2 [brow m] false]) (b := 0) (n := 1) (e := 2) (es := 2) (bytes := 24) (rows := [brow m]) (new := l.map brow) rfl rfl (.inl rfl) (by simp only [List.length_map]; omega)
      have hpm : ∀ k, purify [.pv 2 ([brow m] ++ l.map brow) false] (k + 1) (.sl 0 (1 + l.length)) = some (.lst ((m :: l).map brow)) := by
        intro k
        have hl1 : ([brow m] ++ l.map brow).length = 1 + l.length := by simp; omega
        simp only [purify, List.getElem?_cons_zero, hl1, if_true]
        rfl
      simp only [List.cons_append, List.nil_append, List.length_map] at hap hpm
      unfold evalP at h1 h2
      rw [if_pos h0] at h1 h2
      simp only [List.map_cons] at h2 hpm
      generalize varsT t = V at *
      cases hbd : boundB l t with
      | true =>
        rw [hbd, if_pos rfl] at h1 h2
        have hval := (val_ok (envB l) t ha ht).1
        have hle : ((t.valT (envB l) : Int) ≤ ((2 ^ cw t.w - 1 : Nat) : Int)) = True := by simp only [eq_iff_iff, iff_true]; omega
        generalize t.valT (envB l) = x at *
        (rw [r_law08_EvalDepends (Nat.le_of_ble_eq_true rfl), F_law08_EvalDepends]; simp (disch := omega) only [eqs, eqL, ↓gc_len, seval, -List.reduceReplicate, reduceCtorEq, omap, depth, pcall, pureR, freezeFor, freezeAll, tupR, resV, purR, enterTm, number, gcOk, rangeEnd, mkTup, allP, eqM, b_ce, b_in2, q_law08_light, hL, q_law08_live, hv, q_r06_Check, hk, q_r06_Vars, hvs, k0_law08_EvalDepends, hlo, B0_law08_EvalDepends, Int.lt_irrefl, List.length_map, q_eval_Eval, h1, b_ldm, bsl_m1, src_p hw, hap, hpm, h2, q_r01_Mask, hM, hle])
      | false =>
        rw [hbd, if_neg (by simp)] at h1 h2
        have hle : ((0 : Int) ≤ ((2 ^ cw t.w - 1 : Nat) : Int)) = True := by simp only [eq_iff_iff, iff_true]; omega
        (rw [r_law08_EvalDepends (Nat.le_of_ble_eq_true rfl), F_law08_EvalDepends]; simp (disch := omega) only [eqs, eqL, ↓gc_len, seval, -List.reduceReplicate, reduceCtorEq, omap, depth, pcall, pureR, freezeFor, freezeAll, tupR, resV, purR, enterTm, number, gcOk, rangeEnd, mkTup, allP, eqM, b_ce, b_in2, q_law08_light, hL, q_law08_live, hv, q_r06_Check, hk, q_r06_Vars, hvs, k0_law08_EvalDepends, hlo, B0_law08_EvalDepends, Int.lt_irrefl, List.length_map, q_eval_Eval, h1, b_ldm, bsl_m1, src_p hw, hap, hpm, h2, q_r01_Mask, hM, hle])
end Go.AE.S
