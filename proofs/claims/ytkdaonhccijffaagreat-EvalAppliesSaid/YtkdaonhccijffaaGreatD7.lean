/- Apply, by the program. --M-- -/
import Derived.Test.YtkdaonhccijffaaGreatD4
import Derived.Test.YtkdaonhccijffaaGreatC0
namespace Go.AE.S
open Go Go.AE
set_option linter.unusedSimpArgs false
set_option linter.unusedVariables false
variable {τ : Tm} {σ : Store} {rd : Option Nat}
def cutWd (x : Wd) : Wd := ⟨x.w, x.v % 2 ^ cw x.w⟩
def applyP (o w : Int) (v : Nat) (l : List Wd) : List PV :=
  if ¬ (widthW o w v (l.map (·.w))).2 = 0 then [.int .u64 0, .int .i64 (widthW o w v (l.map (·.w))).2]
  else if o = 1 ∨ (24 ≤ o ∧ o ≤ 26) then [.int .u64 0, .int .i64 4]
  else if (widthW o w v (l.map (·.w))).1 = 0 ∨ (l.map (·.w)).any (fun a => decide (a = 0)) = true then [.int .u64 0, .int .i64 3]
  else [.int .u64 ((compN o (widthW o w v (l.map (·.w))).1 v (l.map cutWd) : Nat) : Int), .int .i64 0]
theorem width_ar {o w v : Int} {as : List Int} (h : (widthW o w v as).2 = 0) : (as.length : Int) = arity o ∧ 0 ≤ arity o := by
  unfold widthW at h
  split at h
  · exact absurd h (by show ¬ (4 : Int) = 0; decide)
  · rename_i hx
    refine ⟨Classical.byContradiction fun hn => hx (.inr hn), Classical.byContradiction fun hn => hx (.inl (by omega))⟩
theorem wd_f0 {x : Wd} : fadrV 0 (.p (.ptr (wdrow x) 0)) = some (.p (.ptr (wdrow x) 0)) := rfl
theorem wd_f1 {x : Wd} : fadrV 1 (.p (.ptr (wdrow x) 0)) = some (.p (.ptr (wdrow x) 1)) := rfl
theorem wd_h0 {x : Wd} : (wdrow x)[0]? = some (.int .i64 x.w) := rfl
theorem wd_h1 {x : Wd} : (wdrow x)[1]? = some (.int .u64 (x.v : Int)) := rfl
theorem wd_ld {x : Wd} : loadV σ 2 true (.p (.ptr (wdrow x) 0)) = some (.p (.agg (wdrow x))) := rfl
theorem wd_ce {x : Wd} : cellsOf 2 true (.p (.agg (wdrow x))) = some ((wdrow x).map .p) := rfl
theorem wd_in {x : Wd} : initV σ 2 true (some ((wdrow x).map .p)) = some (.p (.ptr (wdrow x) 0), σ) := rfl
abbrev e_ap0 (o w : Int) (v : Nat) (l : List Wd) (s : List Int) (i : Int) : List (Nat × AV) := [(0, .p (.int .i64 o)), (1, .p (.int .i64 w)), (2, .p (.int .u64 (v : Int))), (3, .p (.lst (l.map wdrow))), (10, .sl 0 s.length), (21, .p (.lst (l.map wdrow))), (22, .p (.int .i64 l.length)), (23, .p (.int .i64 i))]
theorem l0_Apply (o w : Int) (v : Nat) (l : List Wd) (hl : l.length ≤ 10) : loopAt P L0_eval_Apply (e_ap0 o w v l [] 0) [.pv 1 [] false] 79 none = back P [0, 1, 2, 3, 10, 21, 22, 23] B0_eval_Apply 1 (exec P B0_eval_Apply ⟨tm (e_ap0 o w v l (l.map (·.w)) l.length), [.pv 1 ((l.map (·.w)).map irow) false], 79, none⟩) := by
  obtain ⟨_, h⟩ := loop_run (P := P) (nt := 79) (lv := [0, 1, 2, 3, 10, 21, 22, 23]) (b := B0_eval_Apply) (rd := none) (as := l) (fun i (s : List Int) => e_ap0 o w v l s i) (fun s => [.pv 1 (s.map irow) false]) (fun _ s a => s ++ [a.w]) (fun i s => s.length = i)
    (fun i a s ha hi hs => by
      have hlt : ((i : Int) < l.length) = True := by simpa using hi
      have hix := fun σ => v_iadr (k := .i64) (es := 2) (σ := σ) (map_get (f := wdrow) ha) (wd_len a)
      have hap := v_append (σ := [.pv 1 (s.map irow) false, .pv 1 [[.int .i64 a.w]] false]) (b := 0) (n := s.length) (e := 1) (es := 1) (bytes := 8) (rows := s.map irow) (new := [[.int .i64 a.w]]) rfl (by simp) (.inl rfl) (by simp only [List.length_cons, List.length_nil]; omega)
      refine ⟨by simp [hs], ?_⟩
      simp only [B0_eval_Apply]
      simp (disch := omega) only [eqs, eqL, ↓gc_len, seval, -List.reduceReplicate, reduceCtorEq, omap, depth, pcall, pureR, freezeFor, freezeAll, tupR, resV, purR, enterTm, number, gcOk, rangeEnd, mkTup, allP, eqM, hlt, hix, List.length_map, wd_ld, wd_ce, wd_in, wd_f0, wd_h0, hap, List.map_append, List.length_append, irow, e_ap0]) (fun i s => rfl) [] rfl _ (fold_snoc (fun a : Wd => a.w) l 0 [])
  exact h
abbrev e_ap1 (o r : Int) (v : Nat) (l : List Wd) (s : List Wd) (i : Int) : List (Nat × AV) := [(0, .p (.int .i64 o)), (2, .p (.int .u64 (v : Int))), (13, .p (.int .i64 r)), (15, .sl 1 s.length), (59, .p (.lst (l.map wdrow))), (60, .p (.int .i64 l.length)), (61, .p (.int .i64 i))]
abbrev sAp (l s : List Wd) : Store := [.pv 1 ((l.map (·.w)).map irow) false, .pv 2 (s.map wdrow) false]
theorem l1_Apply (o r : Int) (v : Nat) (l : List Wd) (hW : ∀ x ∈ l, W x.v) (hl : l.length ≤ 10) : loopAt P L1_eval_Apply (e_ap1 o r v l [] 0) (sAp l []) 79 none = back P [0, 2, 13, 15, 59, 60, 61] B1_eval_Apply 2 (exec P B1_eval_Apply ⟨tm (e_ap1 o r v l (l.map cutWd) l.length), sAp l (l.map cutWd), 79, none⟩) := by
  obtain ⟨_, h⟩ := loop_run (P := P) (nt := 79) (lv := [0, 2, 13, 15, 59, 60, 61]) (b := B1_eval_Apply) (rd := none) (as := l) (fun i (s : List Wd) => e_ap1 o r v l s i) (sAp l) (fun _ s a => s ++ [cutWd a]) (fun i s => s.length = i)
    (fun i a s ha hi hs => by
      have hlt : ((i : Int) < l.length) = True := by simpa using hi
      have hix := fun σ => v_iadr (k := .i64) (es := 2) (σ := σ) (map_get (f := wdrow) ha) (wd_len a)
      have hw := n_word a.w a.v (hW a (List.mem_of_getElem? ha))
      have hap := v_append (σ := [.pv 1 ((l.map (·.w)).map irow) false, .pv 2 (s.map wdrow) false, .pv 2 [[.int .i64 a.w, .int .u64 ((a.v % 2 ^ cw a.w : Nat) : Int)]] false]) (b := 1) (n := s.length) (e := 2) (es := 2) (bytes := 16) (rows := s.map wdrow) (new := [[.int .i64 a.w, .int .u64 ((a.v % 2 ^ cw a.w : Nat) : Int)]]) rfl (by simp) (.inl rfl) (by simp only [List.length_cons, List.length_nil]; omega)
      refine ⟨by simp [hs], ?_⟩
      simp only [wdrow] at hw
      simp only [B1_eval_Apply]
      simp (disch := omega) only [eqs, eqL, ↓gc_len, seval, -List.reduceReplicate, reduceCtorEq, omap, depth, pcall, pureR, freezeFor, freezeAll, tupR, resV, purR, enterTm, number, gcOk, rangeEnd, mkTup, allP, eqM, hlt, hix, List.length_map, wd_ld, wd_ce, wd_in, wd_f0, wd_h0, wd_f1, wd_h1, q_eval_word, hw, bsl_w, src_21, hap, List.map_append, List.length_append, wdrow, cutWd, e_ap1, sAp]) (fun i s => rfl) [] rfl _ (fold_snoc cutWd l 0 [])
  exact h
abbrev e_ix (l : List Int) (i : Int) : List (Nat × AV) := [(0, .p (.lst (l.map irow))), (1, .p (.int .i64 0)), (7, .p (.int .i64 l.length)), (8, .p (.int .i64 i))]
theorem s_Contains0 (l : List Int) (hl : l.length ≤ 10) : R P f_slices_Contains_int_int [.lst (l.map irow), .int .i64 0] = some (.bool (l.any fun a => decide (a = 0))) := by
  have h := loop_to (P := P) (nt := 19) (lv := [0, 1, 7, 8]) (b := B0_slices_Index_int_int) (rd := none) (as := l) (fun i (_ : Unit) => e_ix l i) (fun _ => []) (fun i _ v => if decide (v = 0) = true then .inr i else .inl ()) (fun (n : Nat) => ret1 4 (.int .i64 n) []) (fun _ _ => True)
    (fun i v s hv hi hs => by
      refine ⟨fun _ _ => trivial, ?_⟩
      have hlt : ((i : Int) < l.length) = True := by simpa using hi
      have hx := fun σ => v_iadr (k := .i64) (es := 1) (σ := σ) (map_get (f := irow) hv) (by simp [irow])
      rcases Classical.propComplete (v = 0) with h1 | h1
      · have e2 : ((0 : Int) = v) = True := by simp [of_eq_true h1]
        simp only [B0_slices_Index_int_int, h1]
        simp (disch := omega) only [eqs, eqL, ↓gc_len, seval, -List.reduceReplicate, reduceCtorEq, omap, depth, pcall, pureR, freezeFor, freezeAll, tupR, resV, purR, enterTm, number, gcOk, rangeEnd, mkTup, allP, eqM, hlt, hx, irow, e2, e_ix, ret1]
      · have e2 : ((0 : Int) = v) = False := by have := of_eq_false h1; simp; omega
        simp only [B0_slices_Index_int_int, h1]
        simp (disch := omega) only [eqs, eqL, ↓gc_len, seval, -List.reduceReplicate, reduceCtorEq, omap, depth, pcall, pureR, freezeFor, freezeAll, tupR, resV, purR, enterTm, number, gcOk, rangeEnd, mkTup, allP, eqM, hlt, hx, irow, e2, e_ix, ret1]) (fun i s => rfl) () trivial
  rcases fold_find (fun a : Int => decide (a = 0)) l 0 with ⟨n, h1, h2⟩ | ⟨h1, h2⟩
  · rw [h1] at h
    obtain ⟨⟨e', τ', σ', nt', rd'⟩, g1, g2, g3, g4⟩ := h
    simp only at g2 g3 g4
    subst g2; subst g4
    have h' : loopAt P L0_slices_Index_int_int (e_ix l 0) [] 19 none = some (.ret, ⟨τ', [], nt', rd'⟩) := g1
    simp only [e_ix] at h'
    have hi : R P f_slices_Index_int_int [.lst (l.map irow), .int .i64 0] = some (.int .i64 n) := by
      (rw [r_slices_Index_int_int (Nat.le_of_ble_eq_true rfl), F_slices_Index_int_int]; simp (disch := omega) only [eqs, eqL, ↓gc_len, seval, -List.reduceReplicate, reduceCtorEq, omap, depth, pcall, pureR, freezeFor, freezeAll, tupR, resV, purR, enterTm, number, gcOk, rangeEnd, mkTup, allP, eqM, List.length_map, k0_slices_Index_int_int, h', g3])
    have hn : ((n : Int) ≥ 0) = True := by simp
    rw [h2]
    (rw [r_slices_Contains_int_int (Nat.le_of_ble_eq_true rfl), F_slices_Contains_int_int]; simp (disch := omega) only [eqs, eqL, ↓gc_len, seval, -List.reduceReplicate, reduceCtorEq, omap, depth, pcall, pureR, freezeFor, freezeAll, tupR, resV, purR, enterTm, number, gcOk, rangeEnd, mkTup, allP, eqM, q_slices_Index_int_int, hi, hn])
  · rw [h1] at h
    obtain ⟨_, h⟩ := h
    have h' : loopAt P L0_slices_Index_int_int (e_ix l 0) [] 19 none = _ := h
    simp only [e_ix] at h'
    have hi : R P f_slices_Index_int_int [.lst (l.map irow), .int .i64 0] = some (.int .i64 (-1)) := by
      (rw [r_slices_Index_int_int (Nat.le_of_ble_eq_true rfl), F_slices_Index_int_int]; simp (disch := omega) only [eqs, eqL, ↓gc_len, seval, -List.reduceReplicate, reduceCtorEq, omap, depth, pcall, pureR, freezeFor, freezeAll, tupR, resV, purR, enterTm, number, gcOk, rangeEnd, mkTup, allP, eqM, List.length_map, k0_slices_Index_int_int, h', B0_slices_Index_int_int, Int.lt_irrefl])
    rw [h2]
    (rw [r_slices_Contains_int_int (Nat.le_of_ble_eq_true rfl), F_slices_Contains_int_int]; simp (disch := omega) only [eqs, eqL, ↓gc_len, seval, -List.reduceReplicate, reduceCtorEq, omap, depth, pcall, pureR, freezeFor, freezeAll, tupR, resV, purR, enterTm, number, gcOk, rangeEnd, mkTup, allP, eqM, q_slices_Index_int_int, hi])
theorem mk_1 {n : Nat} (h : n ≤ 10) : mksliceV σ 1 8 [.p (.int .i64 0)] (.p (.int .i64 0)) (.p (.int .i64 n)) = some (.sl σ.length 0, σ ++ [.pv 1 [] false]) := by
  have hb : n * 8 ≤ 140737488355328 := by omega
  simp [mksliceV, natOf, allP, hb]
theorem mk_2 {n : Nat} (h : n ≤ 10) : mksliceV σ 2 16 [.p (.int .i64 0), .p (.int .u64 0)] (.p (.int .i64 0)) (.p (.int .i64 n)) = some (.sl σ.length 0, σ ++ [.pv 2 [] false]) := by
  have hb : n * 16 ≤ 140737488355328 := by omega
  simp [mksliceV, natOf, allP, hb]
theorem pur_2 (k : Nat) (o : Obj) (rows : List (List PV)) (e : Nat) (fr : Bool) : purify [o, .pv e rows fr] (k + 1) (.sl 1 rows.length) = some (.lst rows) := by simp [purify]
set_option maxHeartbeats 8000000 in
theorem n_Apply (o w : Int) (v : Nat) (l : List Wd) (hv : W v) (hW : ∀ x ∈ l, W x.v) (hl : l.length ≤ 10) : R P f_eval_Apply [.int .i64 o, .int .i64 w, .int .u64 (v : Int), .lst (l.map wdrow)] = some (.tup (applyP o w v l)) := by
  have h0 := l0_Apply o w v l hl
  have hWd := s_opinfo_Width o w v (l.map (·.w)) (by rw [List.length_map]; omega) ⟨by omega, by unfold W at hv; omega⟩
  have h0' : loopAt P L0_eval_Apply [(0, .p (.int .i64 o)), (1, .p (.int .i64 w)), (2, .p (.int .u64 (v : Int))), (3, .p (.lst (l.map wdrow))), (10, .sl 0 0), (21, .p (.lst (l.map wdrow))), (22, .p (.int .i64 l.length)), (23, .p (.int .i64 0))] [.pv 1 [] false] 79 none = _ := h0
  have hlen : (l.map (·.w)).length = l.length := List.length_map ..
  have h1 := fun r => l1_Apply o r v l hW hl
  have hc := s_Contains0 (l.map (·.w)) (by rw [hlen]; exact hl)
  have hcl : (l.map cutWd).length = l.length := List.length_map ..
  have hcW : ∀ x ∈ l.map cutWd, W x.v := by
    intro x hx
    obtain ⟨y, hy, rfl⟩ := List.mem_map.1 hx
    exact cut_lt (cw_in y.w).2 y.v
  unfold applyP
  generalize hr : widthW o w v (l.map (·.w)) = r at *
  obtain ⟨r1, r2⟩ := r
  simp only [two] at hWd
  have hP := s_opinfo_Pattern o
  rcases Classical.propComplete (r2 = 0) with c1 | c1
  rotate_left
  · rw [if_pos (of_eq_false c1)]
    (rw [r_eval_Apply (Nat.le_of_ble_eq_true rfl), F_eval_Apply]; simp (disch := omega) only [eqs, eqL, ↓gc_len, seval, -List.reduceReplicate, reduceCtorEq, omap, depth, pcall, pureR, freezeFor, freezeAll, tupR, resV, purR, enterTm, number, gcOk, rangeEnd, mkTup, allP, eqM, mk_1 hl, List.length_map, k0_eval_Apply, h0', B0_eval_Apply, Int.lt_irrefl, hlen, q_opinfo_Width, hWd, c1, e_ap0])
  rw [if_neg (by simpa using of_eq_true c1)]
  rcases Classical.propComplete (o = 1) with c2 | c2
  · rw [if_pos (.inl (of_eq_true c2))]
    (rw [r_eval_Apply (Nat.le_of_ble_eq_true rfl), F_eval_Apply]; simp (disch := omega) only [eqs, eqL, ↓gc_len, seval, -List.reduceReplicate, reduceCtorEq, omap, depth, pcall, pureR, freezeFor, freezeAll, tupR, resV, purR, enterTm, number, gcOk, rangeEnd, mkTup, allP, eqM, mk_1 hl, List.length_map, k0_eval_Apply, h0', B0_eval_Apply, Int.lt_irrefl, hlen, q_opinfo_Width, hWd, c1, c2, e_ap0])
  rcases Classical.propComplete (24 ≤ o ∧ o ≤ 26) with c3 | c3
  · rw [if_pos (.inr (of_eq_true c3))]
    (rw [r_eval_Apply (Nat.le_of_ble_eq_true rfl), F_eval_Apply]; simp (disch := omega) only [eqs, eqL, ↓gc_len, seval, -List.reduceReplicate, reduceCtorEq, omap, depth, pcall, pureR, freezeFor, freezeAll, tupR, resV, purR, enterTm, number, gcOk, rangeEnd, mkTup, allP, eqM, mk_1 hl, List.length_map, k0_eval_Apply, h0', B0_eval_Apply, Int.lt_irrefl, hlen, q_opinfo_Width, hWd, c1, c2, q_opinfo_Pattern, hP, c3, e_ap0])
  rw [if_neg (by simp only [c2, c3, or_self, not_false_iff])]
  rcases Classical.propComplete (r1 = 0) with c4 | c4
  · rw [if_pos (.inl (of_eq_true c4))]
    (rw [r_eval_Apply (Nat.le_of_ble_eq_true rfl), F_eval_Apply]; simp (disch := omega) only [eqs, eqL, ↓gc_len, seval, -List.reduceReplicate, reduceCtorEq, omap, depth, pcall, pureR, freezeFor, freezeAll, tupR, resV, purR, enterTm, number, gcOk, rangeEnd, mkTup, allP, eqM, mk_1 hl, List.length_map, k0_eval_Apply, h0', B0_eval_Apply, Int.lt_irrefl, hlen, q_opinfo_Width, hWd, c1, c2, q_opinfo_Pattern, hP, c3, c4, e_ap0])
  cases c5 : (l.map (·.w)).any (fun a => decide (a = 0)) with
  | true =>
    rw [c5] at hc
    rw [if_pos (.inr rfl)]
    (rw [r_eval_Apply (Nat.le_of_ble_eq_true rfl), F_eval_Apply]; simp (disch := omega) only [eqs, eqL, ↓gc_len, seval, -List.reduceReplicate, reduceCtorEq, omap, depth, pcall, pureR, freezeFor, freezeAll, tupR, resV, purR, enterTm, number, gcOk, rangeEnd, mkTup, allP, eqM, mk_1 hl, List.length_map, k0_eval_Apply, h0', B0_eval_Apply, Int.lt_irrefl, hlen, q_opinfo_Width, hWd, c1, c2, q_opinfo_Pattern, hP, c3, c4, q_slices_Contains_int_int, hc, e_ap0])
  | false =>
    rw [c5] at hc
    rw [if_neg (by simp [of_eq_false c4])]
    have hwa := width_ar (o := o) (w := w) (v := v) (as := l.map (·.w)) (by rw [hr]; exact of_eq_true c1)
    rw [hlen] at hwa
    have hcomp := n_compute o r1 v (l.map cutWd) (by rw [hcl]; exact ar_ok ⟨hwa.1, hwa.2, of_eq_false c3⟩ (of_eq_false c2)) hv hcW
    have h1' : loopAt P L1_eval_Apply [(0, .p (.int .i64 o)), (2, .p (.int .u64 (v : Int))), (13, .p (.int .i64 r1)), (15, .sl 1 0), (59, .p (.lst (l.map wdrow))), (60, .p (.int .i64 l.length)), (61, .p (.int .i64 0))] [.pv 1 ((l.map (·.w)).map irow) false, .pv 2 [] false] 79 none = _ := h1 r1
    have hP2 := fun k o => pur_2 k o ((l.map cutWd).map wdrow) 2 false
    rw [List.length_map] at hP2
    (rw [r_eval_Apply (Nat.le_of_ble_eq_true rfl), F_eval_Apply]; simp (disch := omega) only [eqs, eqL, ↓gc_len, seval, -List.reduceReplicate, reduceCtorEq, omap, depth, pcall, pureR, freezeFor, freezeAll, tupR, resV, purR, enterTm, number, gcOk, rangeEnd, mkTup, allP, eqM, mk_1 hl, mk_2 hl, k0_eval_Apply, h0', B0_eval_Apply, Int.lt_irrefl, List.length_map, q_opinfo_Width, hWd, c1, c2, q_opinfo_Pattern, hP, c3, c4, q_slices_Contains_int_int, hc, k1_eval_Apply, h1', B1_eval_Apply, hP2, q_eval_compute, hcomp, e_ap0, e_ap1, sAp])
end Go.AE.S
/- Apply, by the reference; the law EvalApplies. --M-- -/
namespace Go.AE.S
open Go Go.AE
set_option linter.unusedSimpArgs false
set_option linter.unusedVariables false
variable {τ : Tm} {σ : Store} {rd : Option Nat}
abbrev e_ra0 (o w : Int) (v : Nat) (l : List Wd) (s : List Int) (i : Int) : List (Nat × AV) := [(0, .p (.int .i64 o)), (1, .p (.int .i64 w)), (2, .p (.int .u64 (v : Int))), (3, .p (.lst (l.map wdrow))), (10, .sl 0 s.length), (11, .p (.int .i64 i))]
theorem l0_rApply (o w : Int) (v : Nat) (l : List Wd) (hl : l.length ≤ 10) : loopAt P L0_r08_Apply (e_ra0 o w v l [] 0) (sI []) 64 none = back P [0, 1, 2, 3, 10, 11] B0_r08_Apply 1 (exec P B0_r08_Apply ⟨tm (e_ra0 o w v l (l.map (·.w)) l.length), sI (l.map (·.w)), 64, none⟩) := by
  obtain ⟨_, h⟩ := loop_run (P := P) (nt := 64) (lv := [0, 1, 2, 3, 10, 11]) (b := B0_r08_Apply) (rd := none) (as := l) (fun i (s : List Int) => e_ra0 o w v l s i) sI (fun _ s a => s ++ [a.w]) (fun i s => s.length = i)
    (fun i a s ha hi hs => by
      have hlt : ((i : Int) < l.length) = True := by simpa using hi
      have hix := fun σ => v_iadr (k := .i64) (es := 2) (σ := σ) (map_get (f := wdrow) ha) (wd_len a)
      have hap := v_append (σ := [.pv (esOf 1 s) (s.map irow) false, .pv 1 [[.int .i64 a.w]] false]) (b := 0) (n := s.length) (e := esOf 1 s) (es := 1) (bytes := 8) (rows := s.map irow) (new := [[.int .i64 a.w]]) rfl (by simp) (esOf_or _ _ _) (by simp only [List.length_cons, List.length_nil]; omega)
      refine ⟨by simp [hs], ?_⟩
      simp only [B0_r08_Apply]
      simp (disch := omega) only [eqs, eqL, ↓gc_len, seval, -List.reduceReplicate, reduceCtorEq, omap, depth, pcall, pureR, freezeFor, freezeAll, tupR, resV, purR, enterTm, number, gcOk, rangeEnd, mkTup, allP, eqM, hlt, hix, List.length_map, wd_f0, wd_h0, hap, List.map_append, List.length_append, irow, esOf_snoc, e_ra0, sI]) (fun i s => rfl) [] rfl _ (fold_snoc (fun a : Wd => a.w) l 0 [])
  exact h
abbrev e_ra1 (o r : Int) (v : Nat) (l : List Wd) (as : List Int) (i : Int) : List (Nat × AV) := [(0, .p (.int .i64 o)), (2, .p (.int .u64 (v : Int))), (3, .p (.lst (l.map wdrow))), (10, .sl 0 as.length), (12, .p (.int .i64 r)), (14, .p (.int .i64 i))]
def outRa (r : Ex × St) : Prop := r.1 = .ret ∧ r.2.τ.get 8 = .p (.int .u64 0) ∧ r.2.τ.get 9 = .p (.int .i64 3)
theorem fold_any {α : Type} (q : α → Bool) : ∀ (l : List α) (i : Nat), foldE (S := Unit) (T := Unit) (fun _ _ a => if q a = true then .inr () else .inl ()) i () l = if l.any q = true then .inr () else .inl ()
  | [], i => rfl
  | a :: l, i => by
    cases h : q a <;> simp [foldE, h, fold_any q l]
theorem ld_i {as : List Int} {i : Nat} {a : Int} (h : as[i]? = some a) : ldO as.length i 0 1 false (some (.pv (esOf 1 as) (as.map irow) false)) = some (.p (.int .i64 a)) := by
  have h2 : (as.map irow)[i]? = some (irow a) := map_get h
  simp only [ldO, List.length_map, if_true, h2]
  rfl
set_option maxHeartbeats 4000000 in
theorem l1_rApply (o r : Int) (v : Nat) (l : List Wd) (as : List Int) (hl : as.length ≤ 10) : if as.any (fun a => decide (a = 0)) = true then ∃ x, loopAt P L1_r08_Apply (e_ra1 o r v l as 0) (sI as) 64 none = some x ∧ outRa x else loopAt P L1_r08_Apply (e_ra1 o r v l as 0) (sI as) 64 none = back P [0, 2, 3, 10, 12, 14] B1_r08_Apply 1 (exec P B1_r08_Apply ⟨tm (e_ra1 o r v l as as.length), sI as, 64, none⟩) := by
  have h := loop_to (P := P) (nt := 64) (lv := [0, 2, 3, 10, 12, 14]) (b := B1_r08_Apply) (rd := none) (as := as) (fun i (_ : Unit) => e_ra1 o r v l as i) (fun _ => sI as) (fun _ _ a => if decide (a = 0) = true then .inr () else .inl ()) (fun (_ : Unit) => outRa) (fun _ _ => True)
    (fun i a s ha hi hs => by
      refine ⟨fun _ _ => trivial, ?_⟩
      have hlt : ((i : Int) < as.length) = True := by simpa using hi
      have hn : lenSV (sI as) (.sl 0 as.length) = some (.p (.int .i64 as.length)) := by simp [lenSV, lenS, slen, Obj.len, sI]
      have hia : iadrSV (sI as) 1 (.sl 0 as.length) (.p (.int .i64 i)) = some (.ptr 0 as.length i 0) := by
        have := ia_pv (σ := sI as) (b := 0) (m := as.length) (es := esOf 1 as) (j := i) (rows := as.map irow) (fr := false) rfl (by simp) (by omega)
        have he : esOf 1 as = 1 := by cases as with
          | nil => simp at hi
          | cons _ _ => rfl
        rw [he] at this
        exact this
      have hld := ld_i ha
      rcases Classical.propComplete (a = 0) with h1 | h1
      · simp only [B1_r08_Apply, h1]
        simp only [of_eq_true h1] at hld
        simp (disch := omega) only [eqs, eqL, ↓gc_len, seval, -List.reduceReplicate, reduceCtorEq, omap, depth, pcall, pureR, freezeFor, freezeAll, tupR, resV, purR, enterTm, number, gcOk, rangeEnd, mkTup, allP, eqM, hlt, hn, hia, hld, e_ra1, outRa, sI]
      · simp only [B1_r08_Apply, h1]
        simp (disch := omega) only [eqs, eqL, ↓gc_len, seval, -List.reduceReplicate, reduceCtorEq, omap, depth, pcall, pureR, freezeFor, freezeAll, tupR, resV, purR, enterTm, number, gcOk, rangeEnd, mkTup, allP, eqM, hlt, hn, hia, hld, h1, e_ra1, outRa, sI]) (fun i s => rfl) () trivial
  rw [fold_any] at h
  cases hb : as.any (fun a => decide (a = 0)) with
  | true => rw [hb, if_pos rfl] at h; rw [if_pos rfl]; exact h
  | false => rw [hb, if_neg (by simp)] at h; rw [if_neg (by simp)]; exact h.2
theorem ref_cut (o r : Int) (v : Nat) (l : List Wd) : refN o r v (l.map cutWd) = refN o r v l := by
  match l with
  | [] => rfl
  | [x] => simp only [List.map_cons, List.map_nil, refN, cutWd, Nat.mod_mod]
  | [x, y] => simp only [List.map_cons, List.map_nil, refN, cutWd, Nat.mod_mod]
  | x :: y :: z :: q => simp only [List.map_cons, refN, cutWd, Nat.mod_mod]
theorem ar_3 {o : Int} {n : Nat} (h : ArOk o n) : n ≤ 3 := by
  unfold ArOk at h
  omega
set_option maxHeartbeats 8000000 in
theorem r_Apply (o w : Int) (v : Nat) (l : List Wd) (hv : W v) (hW : ∀ x ∈ l, W x.v) (hl : l.length ≤ 10) : R P f_r08_Apply [.int .i64 o, .int .i64 w, .int .u64 (v : Int), .lst (l.map wdrow)] = some (.tup (applyP o w v l)) := by
  have h0 := l0_rApply o w v l hl
  have hWd := s_r04_Width o w v (l.map (·.w)) (by rw [List.length_map]; omega) ⟨by omega, by unfold W at hv; omega⟩
  have h0' : loopAt P L0_r08_Apply [(0, .p (.int .i64 o)), (1, .p (.int .i64 w)), (2, .p (.int .u64 (v : Int))), (3, .p (.lst (l.map wdrow))), (10, .sl 0 0), (11, .p (.int .i64 0))] [.pv 0 [] false] 64 none = _ := h0
  have hlen : (l.map (·.w)).length = l.length := List.length_map ..
  have hl1 := fun r => l1_rApply o r v l (l.map (·.w)) (by rw [hlen]; exact hl)
  have hcW : InW (l.map cutWd) := by
    intro x hx
    obtain ⟨y, hy, rfl⟩ := List.mem_map.1 hx
    exact Nat.mod_lt _ (Nat.pow_pos (by omega))
  have hPat := s_r04_Pattern o
  unfold applyP
  generalize hr : widthW o w v (l.map (·.w)) = r at *
  obtain ⟨r1, r2⟩ := r
  simp only [two] at hWd
  rcases Classical.propComplete (r2 = 0) with c1 | c1
  rotate_left
  · rw [if_pos (of_eq_false c1)]
    (rw [r_r08_Apply (Nat.le_of_ble_eq_true rfl), F_r08_Apply]; simp (disch := omega) only [eqs, eqL, ↓gc_len, seval, -List.reduceReplicate, reduceCtorEq, omap, depth, pcall, pureR, freezeFor, freezeAll, tupR, resV, purR, enterTm, number, gcOk, rangeEnd, mkTup, allP, eqM, List.length_map, k0_r08_Apply, h0', B0_r08_Apply, Int.lt_irrefl, hlen, q_r04_Width, hWd, c1, e_ra0, sI])
  rw [if_neg (by simpa using of_eq_true c1)]
  rcases Classical.propComplete (o = 1) with c2 | c2
  · rw [if_pos (.inl (of_eq_true c2))]
    (rw [r_r08_Apply (Nat.le_of_ble_eq_true rfl), F_r08_Apply]; simp (disch := omega) only [eqs, eqL, ↓gc_len, seval, -List.reduceReplicate, reduceCtorEq, omap, depth, pcall, pureR, freezeFor, freezeAll, tupR, resV, purR, enterTm, number, gcOk, rangeEnd, mkTup, allP, eqM, List.length_map, k0_r08_Apply, h0', B0_r08_Apply, Int.lt_irrefl, hlen, q_r04_Width, hWd, c1, c2, e_ra0, sI])
  rcases Classical.propComplete (24 ≤ o ∧ o ≤ 26) with c3 | c3
  · rw [if_pos (.inr (of_eq_true c3))]
    have g2 : (o ∈ [24, 25, (26 : Int)]) = True := by have := of_eq_true c3; simp; omega
    (rw [r_r08_Apply (Nat.le_of_ble_eq_true rfl), F_r08_Apply]; simp (disch := omega) only [eqs, eqL, ↓gc_len, seval, -List.reduceReplicate, reduceCtorEq, omap, depth, pcall, pureR, freezeFor, freezeAll, tupR, resV, purR, enterTm, number, gcOk, rangeEnd, mkTup, allP, eqM, List.length_map, k0_r08_Apply, h0', B0_r08_Apply, Int.lt_irrefl, hlen, q_r04_Width, hWd, c1, c2, q_r04_Pattern, hPat, g2, e_ra0, sI])
  have g2 : (o ∈ [24, 25, (26 : Int)]) = False := by have := of_eq_false c3; simp; omega
  rw [if_neg (by simp only [c2, c3, or_self, not_false_iff])]
  have h1 := hl1 r1
  simp only [e_ra1, hlen] at h1
  have hany : ((l.map (·.w)).any fun a => decide (a = 0)) = (l.map (·.w)).any (fun a => decide (a = 0)) := rfl
  cases c5 : (l.map (·.w)).any (fun a => decide (a = 0)) with
  | true =>
    rw [if_pos (.inr rfl)]
    rw [c5, if_pos rfl] at h1
    obtain ⟨⟨e, τ', σ', nt', rd'⟩, g1, g3, g4, g5⟩ := h1
    simp only at g3 g4 g5
    subst g3
    (rw [r_r08_Apply (Nat.le_of_ble_eq_true rfl), F_r08_Apply]; simp (disch := omega) only [eqs, eqL, ↓gc_len, seval, -List.reduceReplicate, reduceCtorEq, omap, depth, pcall, pureR, freezeFor, freezeAll, tupR, resV, purR, enterTm, number, gcOk, rangeEnd, mkTup, allP, eqM, List.length_map, k0_r08_Apply, h0', B0_r08_Apply, Int.lt_irrefl, hlen, q_r04_Width, hWd, c1, c2, q_r04_Pattern, hPat, g2, k1_r08_Apply, g1, g4, g5, e_ra0, sI])
  | false =>
    rw [c5, if_neg (by simp)] at h1
    have hn : lenSV (sI (l.map (·.w))) (.sl 0 l.length) = some (.p (.int .i64 l.length)) := by simp [lenSV, lenS, slen, Obj.len, sI]
    simp only [sI] at hn h1
    rcases Classical.propComplete (r1 = 0) with c4 | c4
    · rw [if_pos (.inl (of_eq_true c4))]
      (rw [r_r08_Apply (Nat.le_of_ble_eq_true rfl), F_r08_Apply]; simp (disch := omega) only [eqs, eqL, ↓gc_len, seval, -List.reduceReplicate, reduceCtorEq, omap, depth, pcall, pureR, freezeFor, freezeAll, tupR, resV, purR, enterTm, number, gcOk, rangeEnd, mkTup, allP, eqM, List.length_map, k0_r08_Apply, h0', B0_r08_Apply, Int.lt_irrefl, hlen, q_r04_Width, hWd, c1, c2, q_r04_Pattern, hPat, g2, k1_r08_Apply, h1, B1_r08_Apply, hn, c4, e_ra0, sI])
    · rw [if_neg (by simp [of_eq_false c4])]
      have hwa := width_ar (o := o) (w := w) (v := v) (as := l.map (·.w)) (by rw [hr]; exact of_eq_true c1)
      rw [hlen] at hwa
      have har := ar_ok ⟨hwa.1, hwa.2, of_eq_false c3⟩ (of_eq_false c2)
      have hval := r_value o r1 v l (ar_3 har) hv hW
      rw [← ref_cut, ref_comp hcW (fun x hx ho => by
        have hr2 : r2 = 0 := of_eq_true c1
        subst hr2
        match l, hx with
        | [y], hx =>
          simp only [List.map_cons, List.map_nil, List.cons.injEq, and_true] at hx
          subst hx
          have hr' : widthW o w v [y.w] = (r1, 0) := hr
          have : r1 = y.w := by
            have hne : ¬ (arity o < 0 ∨ ¬ (([y.w] : List Int).length : Int) = arity o) := by
              rcases ho with rfl | rfl
              · show ¬ ((1 : Int) < 0 ∨ ¬ (1 : Int) = 1)
                decide
              · show ¬ ((1 : Int) < 0 ∨ ¬ (1 : Int) = 1)
                decide
            unfold widthW at hr'
            rw [if_neg hne] at hr'
            split at hr'
            · cases hr'
            · rcases ho with rfl | rfl
              · exact (congrArg Prod.fst hr').symm
              · exact (congrArg Prod.fst hr').symm
          rw [this]
          rfl)] at hval
      (rw [r_r08_Apply (Nat.le_of_ble_eq_true rfl), F_r08_Apply]; simp (disch := omega) only [eqs, eqL, ↓gc_len, seval, -List.reduceReplicate, reduceCtorEq, omap, depth, pcall, pureR, freezeFor, freezeAll, tupR, resV, purR, enterTm, number, gcOk, rangeEnd, mkTup, allP, eqM, List.length_map, k0_r08_Apply, h0', B0_r08_Apply, Int.lt_irrefl, hlen, q_r04_Width, hWd, c1, c2, q_r04_Pattern, hPat, g2, k1_r08_Apply, h1, B1_r08_Apply, hn, c4, q_r08_value, hval, e_ra0, sI])
theorem applyP_two (o w : Int) (v : Nat) (l : List Wd) : ∃ x e : Int, applyP o w v l = [.int .u64 x, .int .i64 e] := by
  unfold applyP
  split
  · exact ⟨_, _, rfl⟩
  · split
    · exact ⟨_, _, rfl⟩
    · split
      · exact ⟨_, _, rfl⟩
      · exact ⟨_, _, rfl⟩
set_option maxHeartbeats 8000000 in
theorem p_EvalApplies (o : Int) (ho : -9223372036854775808 ≤ o ∧ o ≤ 9223372036854775807) (w : Int) (hw : -9223372036854775808 ≤ w ∧ w ≤ 9223372036854775807) (V : Int) (hV : U64 V) (l : List Wd) (hl : ∀ x ∈ l, (-9223372036854775808 ≤ x.w ∧ x.w ≤ 9223372036854775807) ∧ W x.v) (hn : l.length ≤ 9223372036854775807) : R P f_law08_EvalApplies [.int .i64 o, .int .i64 w, .int .u64 V, .lst (l.map wdrow)] = some (.bool true) := by
  have hlv := s_live
  obtain ⟨v, rfl⟩ : ∃ v : Nat, V = v := ⟨V.toNat, by have := hV.1; omega⟩
  have hv : W v := by have := hV.2; show v < _; omega
  rcases Classical.propComplete ((l.length : Int) > 10) with c | c
  · (rw [r_law08_EvalApplies (Nat.le_of_ble_eq_true rfl), F_law08_EvalApplies]; simp (disch := omega) only [eqs, eqL, ↓gc_len, seval, -List.reduceReplicate, reduceCtorEq, omap, depth, pcall, pureR, freezeFor, freezeAll, tupR, resV, purR, enterTm, number, gcOk, rangeEnd, mkTup, allP, eqM, List.length_map, c, q_law08_live, hlv])
  have hl10 : l.length ≤ 10 := by have := of_eq_false c; omega
  have hW : ∀ x ∈ l, W x.v := fun x hx => (hl x hx).2
  have h1 := n_Apply o w v l hv hW hl10
  have h2 := r_Apply o w v l hv hW hl10
  obtain ⟨x, e, hx⟩ := applyP_two o w v l
  rw [hx] at h1 h2
  (rw [r_law08_EvalApplies (Nat.le_of_ble_eq_true rfl), F_law08_EvalApplies]; simp (disch := omega) only [eqs, eqL, ↓gc_len, seval, -List.reduceReplicate, reduceCtorEq, omap, depth, pcall, pureR, freezeFor, freezeAll, tupR, resV, purR, enterTm, number, gcOk, rangeEnd, mkTup, allP, eqM, List.length_map, c, q_law08_live, hlv, q_eval_Apply, h1, q_r08_Apply, h2])
end Go.AE.S
