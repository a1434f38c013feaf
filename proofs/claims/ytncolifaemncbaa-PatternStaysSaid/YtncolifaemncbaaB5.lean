/- The reference's lists of variables. --M-- -/
import Derived.Test.YtncolifaemncbaaB4
namespace Go.AE.S
open Go Go.AE
set_option linter.unusedSimpArgs false
set_option linter.unusedVariables false
variable {τ : Tm} {σ : Store} {rd : Option Nat}

def insF (v : V2) (s : List V2 × Bool) (a : V2) : (List V2 × Bool) ⊕ Unit :=
  if a.name = v.name then .inr () else if s.2 = false ∧ slt v.name a.name = true then .inl (s.1 ++ [v, a], true) else .inl (s.1 ++ [a], s.2)
abbrev e_ins (l : List V2) (v : V2) (s : List V2 × Bool) (i : Int) : List (Nat × AV) := [(0, .p (.lst (l.map vrow))), (3, .p (.ptr [.str v.name, .int .i64 v.w] 0)), (5, .sl 0 s.1.length), (6, .p (.bool s.2)), (7, .p (.int .i64 i))]
abbrev sJ (s : List V2 × Bool) : Store := [.pv 2 (s.1.map vrow) false]
def retI (l : List V2) (r : Ex × St) : Prop := r.1 = .ret ∧ r.2.τ.get 4 = .p (.lst (l.map vrow))
set_option maxHeartbeats 4000000 in
theorem l_insert (l : List V2) (v : V2) (hl : l.length ≤ 1000000) :
    doneP (fun s => loopAt P L0_r24_insert (e_ins l v ([], false) 0) (sJ ([], false)) 54 none = some (.exit 0, ⟨upd (upd (upd (upd (tm (e_ins l v s l.length)) 9 (.p (.int .i64 l.length))) 10 (.p (.lst (l.map vrow)))) 11 (.p (.int .i64 l.length))) 12 (.p (.bool false)), sJ s, 54, none⟩))
      (fun (_ : Unit) => ∃ r, loopAt P L0_r24_insert (e_ins l v ([], false) 0) (sJ ([], false)) 54 none = some r ∧ retI l r) (foldE (fun _ s a => insF v s a) 0 ([], false) l) := by
  have h := loop_foldE (P := P) (nt := 54) (rd := none) (lv := [0, 3, 5, 6, 7]) (b := B0_r24_insert) (x := 0) (as := l) (fun i s => e_ins l v s i) sJ (fun _ s a => insF v s a)
    (fun s => ⟨upd (upd (upd (upd (tm (e_ins l v s l.length)) 9 (.p (.int .i64 l.length))) 10 (.p (.lst (l.map vrow)))) 11 (.p (.int .i64 l.length))) 12 (.p (.bool false)), sJ s, 54, none⟩) (fun (_ : Unit) => retI l) (fun i s => s.1.length + (if s.2 = true then 0 else 1) ≤ i + 1)
    (fun i a s hu hi hs => by
      obtain ⟨s, d⟩ := s
      have hs' : s.length ≤ i + 1 := by simp only at hs; split at hs <;> omega
      have hlt : ((i : Int) < l.length) = True := by simpa using hi
      have hui := fun σ => v_iadr (k := .i64) (es := 2) (σ := σ) (map_get (f := vrow) hu) rfl
      have hap1 := v_append (σ := [.pv 2 (s.map vrow) false, .pv 2 [[.str v.name, .int .i64 v.w]] false]) (b := 0) (n := s.length) (e := 2) (es := 2) (bytes := 24) (rows := s.map vrow) (new := [[.str v.name, .int .i64 v.w]]) rfl (by simp) (.inl rfl) (by simp only [List.length_cons, List.length_nil]; omega)
      have hap2 := v_append (σ := [.pv 2 (s.map vrow ++ [[.str v.name, .int .i64 v.w]]) false, .pv 2 [[.str v.name, .int .i64 v.w]] false, .pv 2 [[.str a.name, .int .i64 a.w]] false]) (b := 0) (n := s.length + 1) (e := 2) (es := 2) (bytes := 24) (rows := s.map vrow ++ [[.str v.name, .int .i64 v.w]]) (new := [[.str a.name, .int .i64 a.w]]) rfl (by simp) (.inl rfl) (by simp only [List.length_cons, List.length_nil]; omega)
      have hap3 := v_append (σ := [.pv 2 (s.map vrow) false, .pv 2 [[.str a.name, .int .i64 a.w]] false]) (b := 0) (n := s.length) (e := 2) (es := 2) (bytes := 24) (rows := s.map vrow) (new := [[.str a.name, .int .i64 a.w]]) rfl (by simp) (.inl rfl) (by simp only [List.length_cons, List.length_nil]; omega)
      simp only [vrow] at hui
      unfold insF
      rcases Classical.propComplete (a.name = v.name) with h1 | h1
      · refine ⟨fun s' he => ?_, ?_⟩
        · simp only [h1, if_true] at he; cases he
        · simp only [B0_r24_insert, h1]
          simp (disch := omega) only [eqs, eqL, ↓gc_len, seval, -List.reduceReplicate, reduceCtorEq, omap, depth, pcall, pureR, freezeFor, freezeAll, tupR, resV, purR, enterTm, number, gcOk, rangeEnd, mkTup, allP, eqM, hlt, hui, List.length_map, h1, e_ins, sJ, retI]
      · cases d with
        | true =>
          refine ⟨fun s' he => ?_, ?_⟩
          · simp only [h1, if_false, Bool.true_eq_false, false_and, Sum.inl.injEq] at he
            subst he; simp only [if_true] at hs; simp only [List.length_append, List.length_cons, List.length_nil, if_true]; omega
          · simp only [B0_r24_insert, h1]
            simp (disch := omega) only [eqs, eqL, ↓gc_len, seval, -List.reduceReplicate, reduceCtorEq, omap, depth, pcall, pureR, freezeFor, freezeAll, tupR, resV, purR, enterTm, number, gcOk, rangeEnd, mkTup, allP, eqM, hlt, hui, List.length_map, h1, e_ins, sJ, hap3, List.map_append, List.length_append, vrow]
        | false =>
          cases h2 : slt v.name a.name with
          | true =>
            refine ⟨fun s' he => ?_, ?_⟩
            · simp only [h1, if_false, true_and, if_true, Sum.inl.injEq] at he
              subst he; simp only [Bool.false_eq_true, if_false] at hs; simp only [List.length_append, List.length_cons, List.length_nil, if_true]; omega
            · simp only [B0_r24_insert, h1]
              simp (disch := omega) only [eqs, eqL, ↓gc_len, seval, -List.reduceReplicate, reduceCtorEq, omap, depth, pcall, pureR, freezeFor, freezeAll, tupR, resV, purR, enterTm, number, gcOk, rangeEnd, mkTup, allP, eqM, hlt, hui, List.length_map, h1, h2, e_ins, sJ, hap1, hap2, List.map_append, List.length_append, vrow, List.append_assoc, Nat.add_assoc]
          | false =>
            refine ⟨fun s' he => ?_, ?_⟩
            · simp only [h1, if_false, Bool.false_eq_true, and_false, Sum.inl.injEq] at he
              subst he; simp only [Bool.false_eq_true, if_false] at hs; simp only [List.length_append, List.length_cons, List.length_nil, Bool.false_eq_true, if_false]; omega
            · simp only [B0_r24_insert, h1]
              simp (disch := omega) only [eqs, eqL, ↓gc_len, seval, -List.reduceReplicate, reduceCtorEq, omap, depth, pcall, pureR, freezeFor, freezeAll, tupR, resV, purR, enterTm, number, gcOk, rangeEnd, mkTup, allP, eqM, hlt, hui, List.length_map, h1, h2, e_ins, sJ, hap3, List.map_append, List.length_append, vrow]) (fun s hs => by
      simp only [B0_r24_insert]
      simp (disch := omega) only [eqs, eqL, ↓gc_len, seval, -List.reduceReplicate, reduceCtorEq, omap, depth, pcall, pureR, freezeFor, freezeAll, tupR, resV, purR, enterTm, number, gcOk, rangeEnd, mkTup, allP, eqM, Int.lt_irrefl, List.length_map]) (fun i s => rfl) ([], false) (by simp)
  exact h
theorem ins_true (v : V2) : ∀ (l s : List V2) (i : Nat), inN l v.name = false → foldE (fun _ s a => insF v s a) i (s, true) l = .inl (s ++ l, true)
  | [], s, i, _ => by simp [foldE]
  | a :: r, s, i, h => by
    unfold inN at h
    simp only [List.any_cons, Bool.or_eq_false_iff, decide_eq_false_iff_not] at h
    have hs : insF v (s, true) a = .inl (s ++ [a], true) := by
      unfold insF
      rw [if_neg h.1, if_neg (by simp)]
    simp only [foldE, hs]
    rw [ins_true v r (s ++ [a]) (i + 1) h.2, List.append_assoc]
    rfl
theorem ins_false (v : V2) : ∀ (l s : List V2) (i : Nat), inN l v.name = false → ∃ s' d, foldE (fun _ s a => insF v s a) i (s, false) l = .inl (s', d) ∧ (if d = true then s' else s' ++ [v]) = s ++ insV l v
  | [], s, i, _ => ⟨s, false, rfl, by simp [insV]⟩
  | a :: r, s, i, h => by
    have h0 := h
    unfold inN at h
    simp only [List.any_cons, Bool.or_eq_false_iff, decide_eq_false_iff_not] at h
    cases hlt : slt v.name a.name with
    | true =>
      have hs : insF v (s, false) a = .inl (s ++ [v, a], true) := by
        unfold insF
        rw [if_neg h.1, if_pos ⟨rfl, hlt⟩]
      refine ⟨s ++ [v, a] ++ r, true, ?_, by simp [insV, h.1, hlt]⟩
      simp only [foldE, hs]
      exact ins_true v r (s ++ [v, a]) (i + 1) h.2
    | false =>
      have hs : insF v (s, false) a = .inl (s ++ [a], false) := by
        unfold insF
        rw [if_neg h.1, if_neg (by simp [hlt])]
      obtain ⟨s', d, k1, k2⟩ := ins_false v r (s ++ [a]) (i + 1) h.2
      refine ⟨s', d, ?_, ?_⟩
      · simp only [foldE, hs]; exact k1
      · rw [k2]; simp [insV, h.1, hlt]
theorem ins_has (v : V2) : ∀ (l : List V2) (s : List V2 × Bool) (i : Nat), inN l v.name = true → foldE (fun _ s a => insF v s a) i s l = .inr ()
  | [], s, i, h => by simp [inN] at h
  | a :: r, s, i, h => by
    by_cases h1 : decide (a.name = v.name) = true
    · have h1 := of_decide_eq_true h1
      have hs : insF v s a = .inr () := by unfold insF; rw [if_pos h1]
      simp only [foldE, hs]
    · have hr : inN r v.name = true := by
        unfold inN at h ⊢
        rw [List.any_cons] at h
        rcases (Bool.or_eq_true _ _).mp h with h | h
        · exact absurd h h1
        · exact h
      have h1 : ¬ a.name = v.name := by simpa using h1
      obtain ⟨s2, hs⟩ : ∃ s2, insF v s a = .inl s2 := by
        unfold insF
        rw [if_neg h1]
        split
        · exact ⟨_, rfl⟩
        · exact ⟨_, rfl⟩
      simp only [foldE, hs]
      exact ins_has v r s2 (i + 1) hr
set_option maxHeartbeats 4000000 in
theorem s_r24_insert (l : List V2) (v : V2) (hs : Sorted l) (hl : l.length ≤ 1000000) : R P f_r24_insert [.lst (l.map vrow), .agg [.str v.name, .int .i64 v.w]] = some (.lst ((insV l v).map vrow)) := by
  have hL := l_insert l v hl
  cases hin : inN l v.name with
  | true =>
    rw [ins_has v l _ 0 hin] at hL
    rw [insV_in hs hin]
    obtain ⟨⟨e, τ', σ', nt', rd'⟩, k1, k2, k3⟩ := hL
    simp only at k2 k3
    subst k2
    have hL' : loopAt P L0_r24_insert [(0, .p (.lst (l.map vrow))), (3, .p (.ptr [.str v.name, .int .i64 v.w] 0)), (5, .sl 0 0), (6, .p (.bool false)), (7, .p (.int .i64 0))] [.pv 2 [] false] 54 none = some (.ret, ⟨τ', σ', nt', rd'⟩) := k1
    (rw [r_r24_insert (Nat.le_of_ble_eq_true rfl), F_r24_insert]; simp (disch := omega) only [eqs, eqL, ↓gc_len, seval, -List.reduceReplicate, reduceCtorEq, omap, depth, pcall, pureR, freezeFor, freezeAll, tupR, resV, purR, enterTm, number, gcOk, rangeEnd, mkTup, allP, eqM, k0_r24_insert, hL', k3])
  | false =>
    obtain ⟨s', d, h1, h2⟩ := ins_false v l [] 0 hin
    rw [h1] at hL
    have hL' : loopAt P L0_r24_insert [(0, .p (.lst (l.map vrow))), (3, .p (.ptr [.str v.name, .int .i64 v.w] 0)), (5, .sl 0 0), (6, .p (.bool false)), (7, .p (.int .i64 0))] [.pv 2 [] false] 54 none = _ := hL
    rw [List.nil_append] at h2
    have hil := insV_len l v
    rw [← h2] at hil ⊢
    cases d with
    | true =>
      simp only [if_true]
      (rw [r_r24_insert (Nat.le_of_ble_eq_true rfl), F_r24_insert]; simp (disch := omega) only [eqs, eqL, ↓gc_len, seval, -List.reduceReplicate, reduceCtorEq, omap, depth, pcall, pureR, freezeFor, freezeAll, tupR, resV, purR, enterTm, number, gcOk, rangeEnd, mkTup, allP, eqM, k0_r24_insert, hL', List.length_map])
    | false =>
      simp only [Bool.false_eq_true, if_false, List.length_append, List.length_cons, List.length_nil] at hil ⊢
      have hap := v_append (σ := [.pv 2 (s'.map vrow) false, .pv 2 [[.str v.name, .int .i64 v.w]] false]) (b := 0) (n := s'.length) (e := 2) (es := 2) (bytes := 24) (rows := s'.map vrow) (new := [[.str v.name, .int .i64 v.w]]) rfl (by simp) (.inl rfl) (by simp only [List.length_cons, List.length_nil]; omega)
      (rw [r_r24_insert (Nat.le_of_ble_eq_true rfl), F_r24_insert]; simp (disch := omega) only [eqs, eqL, ↓gc_len, seval, -List.reduceReplicate, reduceCtorEq, omap, depth, pcall, pureR, freezeFor, freezeAll, tupR, resV, purR, enterTm, number, gcOk, rangeEnd, mkTup, allP, eqM, k0_r24_insert, hL', List.length_map, hap, List.map_append, List.length_append, vrow])
end Go.AE.S
/- The reference's lists of variables, whole. --M-- -/
namespace Go.AE.S
open Go Go.AE
set_option linter.unusedSimpArgs false
set_option linter.unusedVariables false
variable {τ : Tm} {σ : Store} {rd : Option Nat}

def toL : Option (List V2) → List V2
  | none => []
  | some s => s
def addO (op : Int) (s : Option (List V2)) (u : Term) : Option (List V2) := if u.op = op then some (insV (toL s) ⟨u.name, u.w⟩) else s
def avO : Option (List V2) → AV
  | none => .sl 0 0
  | some s => .p (.lst (s.map vrow))
def sO : Option (List V2) → Store
  | none => [.pv 2 [] false]
  | some _ => [.pv 2 [] true]
theorem toL_addO {op : Int} {s : Option (List V2)} {u : Term} : toL (addO op s u) = addV op (toL s) u := by
  unfold addO addV
  split <;> rfl
theorem toL_foldl {op : Int} : ∀ (l : List Term) (s : Option (List V2)), toL (l.foldl (addO op) s) = l.foldl (addV op) (toL s)
  | [], s => rfl
  | a :: l, s => by simp only [List.foldl_cons]; rw [toL_foldl l, toL_addO]
theorem flat_lst {rows : List (List PV)} : PV.flat (.lst rows) = rows.isEmpty := by simp [PV.flat]
abbrev e_v1 (op : Int) (l : List Term) (i : Int) (pre : List Term) (s : Option (List V2)) (j : Int) : List (Nat × AV) := [(0, .p (.int .i64 op)), (1, .p (.lst (l.map Term.row))), (5, avO s), (6, .p (.int .i64 i)), (7, .p (.lst (pre.map Term.row))), (8, .p (.int .i64 j))]
set_option maxHeartbeats 4000000 in
theorem l1_Vars (op : Int) (l : List Term) (i : Int) (pre : List Term) (s0 : Option (List V2)) (hs : Sorted (toL s0)) (hl : (toL s0).length + pre.length ≤ 1000000) :
    loopAt P L1_r24_Vars (e_v1 op l i pre s0 0) (sO s0) 48 none = some (.exit 2, ⟨upd (upd (upd (upd (tm (e_v1 op l i pre (pre.foldl (addO op) s0) pre.length)) 21 (.p (.int .i64 pre.length))) 22 (.p (.lst (pre.map Term.row)))) 23 (.p (.int .i64 pre.length))) 24 (.p (.bool false)), sO (pre.foldl (addO op) s0), 48, none⟩) := by
  have h := loop_fold (P := P) (nt := 48) (rd := none) (lv := [0, 1, 5, 6, 7, 8]) (b := B1_r24_Vars) (x := 2) (as := pre) (fun j s => e_v1 op l i pre s j) sO (fun _ s t => addO op s t)
    (fun s => ⟨upd (upd (upd (upd (tm (e_v1 op l i pre s pre.length)) 21 (.p (.int .i64 pre.length))) 22 (.p (.lst (pre.map Term.row)))) 23 (.p (.int .i64 pre.length))) 24 (.p (.bool false)), sO s, 48, none⟩) (fun j s => Sorted (toL s) ∧ (toL s).length ≤ (toL s0).length + j)
    (fun j u s hu hj hok => by
      obtain ⟨hso, hsl⟩ := hok
      have hlt : ((j : Int) < pre.length) = True := by simpa using hj
      have hui := fun σ => v_iadr (k := .i64) (es := 5) (σ := σ) (map_get (f := Term.row) hu) u.row_len
      have hal := addV_len (op := op) (s := toL s) (u := u)
      refine ⟨by rw [toL_addO]; exact ⟨addV_sorted hso, by omega⟩, ?_⟩
      have hin := s_r24_insert (toL s) ⟨u.name, u.w⟩ hso (by omega)
      unfold addO
      rcases Classical.propComplete (u.op = op) with h1 | h1
      · cases s with
        | none =>
          simp only [toL, insV, List.map_cons, List.map_nil, vrow] at hin
          simp only [B1_r24_Vars, h1]
          simp (disch := omega) only [eqs, eqL, ↓gc_len, seval, -List.reduceReplicate, reduceCtorEq, omap, depth, pcall, pureR, freezeFor, freezeAll, tupR, resV, purR, enterTm, number, gcOk, rangeEnd, mkTup, allP, eqM, hlt, hui, List.length_map, h1, avO, sO, q_r24_insert, hin, toL, insV, vrow, flat_lst, List.isEmpty_cons, purify_one, purify_zero]
          rfl
        | some s =>
          simp only [toL] at hin
          simp only [B1_r24_Vars, h1]
          simp (disch := omega) only [eqs, eqL, ↓gc_len, seval, -List.reduceReplicate, reduceCtorEq, omap, depth, pcall, pureR, freezeFor, freezeAll, tupR, resV, purR, enterTm, number, gcOk, rangeEnd, mkTup, allP, eqM, hlt, hui, List.length_map, h1, avO, sO, q_r24_insert, hin, toL]
          rfl
      · simp only [B1_r24_Vars, h1]
        cases s with
        | none =>
          simp (disch := omega) only [eqs, eqL, ↓gc_len, seval, -List.reduceReplicate, reduceCtorEq, omap, depth, pcall, pureR, freezeFor, freezeAll, tupR, resV, purR, enterTm, number, gcOk, rangeEnd, mkTup, allP, eqM, hlt, hui, List.length_map, h1, avO, sO]
          rfl
        | some s =>
          simp (disch := omega) only [eqs, eqL, ↓gc_len, seval, -List.reduceReplicate, reduceCtorEq, omap, depth, pcall, pureR, freezeFor, freezeAll, tupR, resV, purR, enterTm, number, gcOk, rangeEnd, mkTup, allP, eqM, hlt, hui, List.length_map, h1, avO, sO]
          rfl) (fun s hs => by
      simp only [B1_r24_Vars]
      cases s with
      | none => simp (disch := omega) only [eqs, eqL, ↓gc_len, seval, -List.reduceReplicate, reduceCtorEq, omap, depth, pcall, pureR, freezeFor, freezeAll, tupR, resV, purR, enterTm, number, gcOk, rangeEnd, mkTup, allP, eqM, Int.lt_irrefl, List.length_map, avO, sO]
      | some s => simp (disch := omega) only [eqs, eqL, ↓gc_len, seval, -List.reduceReplicate, reduceCtorEq, omap, depth, pcall, pureR, freezeFor, freezeAll, tupR, resV, purR, enterTm, number, gcOk, rangeEnd, mkTup, allP, eqM, Int.lt_irrefl, List.length_map, avO, sO]) (fun i s => rfl) s0 ⟨hs, by omega⟩ _ (foldE_foldl (addO op) pre 0 s0)
  exact h
abbrev e_v0 (op : Int) (l : List Term) (s : Option (List V2)) (i : Int) : List (Nat × AV) := [(0, .p (.int .i64 op)), (1, .p (.lst (l.map Term.row))), (5, avO s), (6, .p (.int .i64 i))]
def addP (op : Int) (s : Option (List V2)) (t : Term) : Option (List V2) := t.pre.foldl (addO op) s
theorem toL_addP {op : Int} {s : Option (List V2)} {t : Term} : toL (addP op s t) = addT op (toL s) t := toL_foldl t.pre s
theorem toL_Ps {op : Int} : ∀ (l : List Term) (s : Option (List V2)), toL (l.foldl (addP op) s) = l.foldl (addT op) (toL s)
  | [], s => rfl
  | a :: l, s => by simp only [List.foldl_cons]; rw [toL_Ps l, toL_addP]
set_option maxHeartbeats 4000000 in
theorem l0_Vars (op : Int) (l : List Term) (hc : Term.counts l ≤ 500000) :
    loopAt P L0_r24_Vars (e_v0 op l none 0) (sO none) 48 none = some (.exit 0, ⟨upd (upd (upd (upd (tm (e_v0 op l (l.foldl (addP op) none) l.length)) 10 (.p (.int .i64 l.length))) 11 (.p (.lst (l.map Term.row)))) 12 (.p (.int .i64 l.length))) 13 (.p (.bool false)), sO (l.foldl (addP op) none), 48, none⟩) := by
  have hlen := Term.counts_len l
  have h := loop_fold (P := P) (nt := 48) (rd := none) (lv := [0, 1, 5, 6]) (b := B0_r24_Vars) (x := 0) (as := l) (fun i s => e_v0 op l s i) sO (fun _ s t => addP op s t)
    (fun s => ⟨upd (upd (upd (upd (tm (e_v0 op l s l.length)) 10 (.p (.int .i64 l.length))) 11 (.p (.lst (l.map Term.row)))) 12 (.p (.int .i64 l.length))) 13 (.p (.bool false)), sO s, 48, none⟩) (fun i s => Sorted (toL s) ∧ (toL s).length ≤ Term.counts (l.take i))
    (fun i t s ha hi hok => by
      obtain ⟨hso, hsl⟩ := hok
      have hm := List.mem_of_getElem? ha
      have hac := Term.counts_mem hm
      have h1 := counts_take l i t ha
      have h2 := counts_take_le l (i + 1)
      have hlt : ((i : Int) < l.length) = True := by simpa using hi
      have hui := fun σ => v_iadr (k := .i64) (es := 5) (σ := σ) (map_get (f := Term.row) ha) t.row_len
      have hal := addAll_len (op := op) (l := t.pre) (s := toL s)
      rw [Term.pre_len] at hal
      refine ⟨by rw [toL_addP]; exact ⟨addAll_sorted hso, by unfold addT; omega⟩, ?_⟩
      have hp := s_r24_Preorder t (by omega)
      have hL := l1_Vars op l i t.pre s hso (by rw [Term.pre_len]; omega)
      unfold addP
      cases s with
      | none =>
        simp only [e_v1, avO, sO] at hL
        simp only [B0_r24_Vars]
        simp (disch := omega) only [eqs, eqL, ↓gc_len, seval, -List.reduceReplicate, reduceCtorEq, omap, depth, pcall, pureR, freezeFor, freezeAll, tupR, resV, purR, enterTm, number, gcOk, rangeEnd, mkTup, allP, eqM, hlt, hui, List.length_map, avO, sO, q_r24_Preorder, hp, k1_r24_Vars, hL]
        cases t.pre.foldl (addO op) none <;> rfl
      | some s =>
        simp only [e_v1, avO, sO] at hL
        simp only [B0_r24_Vars]
        simp (disch := omega) only [eqs, eqL, ↓gc_len, seval, -List.reduceReplicate, reduceCtorEq, omap, depth, pcall, pureR, freezeFor, freezeAll, tupR, resV, purR, enterTm, number, gcOk, rangeEnd, mkTup, allP, eqM, hlt, hui, List.length_map, avO, sO, q_r24_Preorder, hp, k1_r24_Vars, hL]
        cases t.pre.foldl (addO op) (some s) <;> rfl) (fun s hs => by
      simp only [B0_r24_Vars]
      cases s with
      | none => simp (disch := omega) only [eqs, eqL, ↓gc_len, seval, -List.reduceReplicate, reduceCtorEq, omap, depth, pcall, pureR, freezeFor, freezeAll, tupR, resV, purR, enterTm, number, gcOk, rangeEnd, mkTup, allP, eqM, Int.lt_irrefl, List.length_map, avO, sO]
      | some s => simp (disch := omega) only [eqs, eqL, ↓gc_len, seval, -List.reduceReplicate, reduceCtorEq, omap, depth, pcall, pureR, freezeFor, freezeAll, tupR, resV, purR, enterTm, number, gcOk, rangeEnd, mkTup, allP, eqM, Int.lt_irrefl, List.length_map, avO, sO]) (fun i s => rfl) none ⟨List.Pairwise.nil, by simp [toL]⟩ _ (foldE_foldl (addP op) l 0 none)
  exact h
end Go.AE.S
/- The names of patterns: the law. --M-- -/
namespace Go.AE.S
open Go Go.AE
set_option linter.unusedSimpArgs false
set_option linter.unusedVariables false
variable {τ : Tm} {σ : Store} {rd : Option Nat}

theorem s_r24_Vars (op : Int) (l : List Term) (hc : Term.counts l ≤ 500000) : R P f_r24_Vars [.int .i64 op, .lst (l.map Term.row)] = some (.lst ((varsOf op l).map vrow)) := by
  have hL := l0_Vars op l hc
  have ht := toL_Ps (op := op) l none
  simp only [e_v0, avO, sO] at hL
  unfold varsOf
  rw [← show toL none = ([] : List V2) from rfl, ← ht]
  cases hr : l.foldl (addP op) none with
  | none =>
    rw [hr] at hL
    simp only at hL
    (rw [r_r24_Vars (Nat.le_of_ble_eq_true rfl), F_r24_Vars]; simp (disch := omega) only [eqs, eqL, ↓gc_len, seval, -List.reduceReplicate, reduceCtorEq, omap, depth, pcall, pureR, freezeFor, freezeAll, tupR, resV, purR, enterTm, number, gcOk, rangeEnd, mkTup, allP, eqM, k0_r24_Vars, hL, toL, purify_one, purify_zero])
  | some s =>
    rw [hr] at hL
    simp only at hL
    (rw [r_r24_Vars (Nat.le_of_ble_eq_true rfl), F_r24_Vars]; simp (disch := omega) only [eqs, eqL, ↓gc_len, seval, -List.reduceReplicate, reduceCtorEq, omap, depth, pcall, pureR, freezeFor, freezeAll, tupR, resV, purR, enterTm, number, gcOk, rangeEnd, mkTup, allP, eqM, k0_r24_Vars, hL, toL])
theorem eq_vrow (v : V2) : eqCells [.str, .int] [.str v.name, .int .i64 v.w] [.str v.name, .int .i64 v.w] = some true := by
  simp [eqCells, eqLeaf]
theorem s_r24_SameVars (l : List V2) (hl : l.length ≤ 1000000) : R P f_r24_SameVars [.lst (l.map vrow), .lst (l.map vrow)] = some (.bool true) := by
  have h := loop_fold (P := P) (nt := 26) (rd := none) (lv := [0, 1, 5]) (b := B0_r24_SameVars) (x := 0) (as := l) (fun i (_ : Unit) => [(0, .p (.lst (l.map vrow))), (1, .p (.lst (l.map vrow))), (5, .p (.int .i64 i))]) (fun _ => []) (fun _ s _ => s)
    (fun s => ⟨upd (upd (upd (upd (tm [(0, .p (.lst (l.map vrow))), (1, .p (.lst (l.map vrow))), (5, .p (.int .i64 l.length))]) 11 (.p (.int .i64 l.length))) 12 (.p (.lst (l.map vrow)))) 13 (.p (.int .i64 l.length))) 14 (.p (.bool false)), [], 26, none⟩) (fun _ _ => True)
    (fun i a s hu hi _ => by
      refine ⟨trivial, ?_⟩
      have hlt : ((i : Int) < l.length) = True := by simpa using hi
      have hui := fun σ => v_iadr (k := .i64) (es := 2) (σ := σ) (map_get (f := vrow) hu) rfl
      simp only [vrow] at hui
      have he := eq_vrow a
      simp only [B0_r24_SameVars]
      simp (disch := omega) only [eqs, eqL, ↓gc_len, seval, -List.reduceReplicate, reduceCtorEq, omap, depth, pcall, pureR, freezeFor, freezeAll, tupR, resV, purR, enterTm, number, gcOk, rangeEnd, mkTup, allP, eqM, hlt, hui, List.length_map, op_eqA, eqAV, he]) (fun s hs => by
      simp only [B0_r24_SameVars]
      simp (disch := omega) only [eqs, eqL, ↓gc_len, seval, -List.reduceReplicate, reduceCtorEq, omap, depth, pcall, pureR, freezeFor, freezeAll, tupR, resV, purR, enterTm, number, gcOk, rangeEnd, mkTup, allP, eqM, Int.lt_irrefl, List.length_map]) (fun i s => rfl) () trivial () (by rw [foldE_foldl])
  have h' : loopAt P L0_r24_SameVars [(0, .p (.lst (l.map vrow))), (1, .p (.lst (l.map vrow))), (5, .p (.int .i64 0))] [] 26 none = _ := h
  (rw [r_r24_SameVars (Nat.le_of_ble_eq_true rfl), F_r24_SameVars]; simp (disch := omega) only [eqs, eqL, ↓gc_len, seval, -List.reduceReplicate, reduceCtorEq, omap, depth, pcall, pureR, freezeFor, freezeAll, tupR, resV, purR, enterTm, number, gcOk, rangeEnd, mkTup, allP, eqM, List.length_map, k0_r24_SameVars, h', eq_self, ne_eq])
theorem t_bs2 {t u : Term} {z0 z1 z2 z3 z4 : AV} : bsliceV σ 5 2 (fillP (List.replicate 2 [z0, z1, z2, z3, z4]).flatten [(0, 5, .p (.agg t.row)), (5, 5, .p (.agg u.row))]) = some (.sl σ.length 2, σ ++ [.pv 5 [t.row, u.row] false]) := by
  rw [Term.row_eq, Term.row_eq]; rfl
theorem refs_0z {es n j : Nat} {rows : List (List PV)} {fr : Bool} {r : Store} : refs (.pv es rows fr :: r) (j + 1) (.sl 0 n) = [0] := rfl
theorem frz_0 {es : Nat} {rows : List (List PV)} {fr : Bool} {r : Store} : freezeAt (.pv es rows fr :: r) 0 = .pv es rows true :: r := rfl
theorem frz_1 {o0 : Obj} {es : Nat} {rows : List (List PV)} {fr : Bool} {r : Store} : freezeAt (o0 :: .pv es rows fr :: r) 1 = o0 :: .pv es rows true :: r := rfl
theorem refs_1z {o0 : Obj} {es n j : Nat} {rows : List (List PV)} {fr : Bool} {r : Store} : refs (o0 :: .pv es rows fr :: r) (j + 1) (.sl 1 n) = [1] := rfl
theorem refs_2z {o0 o1 : Obj} {es n j : Nat} {rows : List (List PV)} {fr : Bool} {r : Store} : refs (o0 :: o1 :: .pv es rows fr :: r) (j + 1) (.sl 2 n) = [2] := rfl
theorem s_Holes0 : R P f_pattern_Holes [.lst []] = some (.lst []) := s_pattern_Holes [] (by decide)
set_option maxHeartbeats 4000000 in
theorem p_PatternNames (p q : Term) (hp : TOk p) (hq : TOk q) : R P f_law24_PatternNames [.agg p.row, .agg q.row] = some (.bool true) := by
  have hsp := s_r10_Small p hp 100 (by omega) (by omega)
  have hsq := s_r10_Small q hq 100 (by omega) (by omega)
  have hl := s_lives
  by_cases h1 : (p.count : Int) ≤ 100
  rotate_left
  · (rw [r_law24_PatternNames (Nat.le_of_ble_eq_true rfl), F_law24_PatternNames]; simp (disch := omega) only [eqs, eqL, ↓gc_len, seval, -List.reduceReplicate, reduceCtorEq, omap, depth, pcall, pureR, freezeFor, freezeAll, tupR, resV, purR, enterTm, number, gcOk, rangeEnd, mkTup, allP, eqM, q_r10_Small, hsp, hsq, h1, q_law24_lives, hl])
  by_cases h2 : (q.count : Int) ≤ 100
  rotate_left
  · (rw [r_law24_PatternNames (Nat.le_of_ble_eq_true rfl), F_law24_PatternNames]; simp (disch := omega) only [eqs, eqL, ↓gc_len, seval, -List.reduceReplicate, reduceCtorEq, omap, depth, pcall, pureR, freezeFor, freezeAll, tupR, resV, purR, enterTm, number, gcOk, rangeEnd, mkTup, allP, eqM, q_r10_Small, hsp, hsq, h1, h2, q_law24_lives, hl])
  have hc : Term.counts [p, q] ≤ 500000 := by simp only [Term.counts]; omega
  have a1 := s_pattern_Holes [p, q] hc
  have a2 := s_pattern_Nums [p, q] hc
  have b1 := s_r24_Vars 24 [p, q] hc
  have b2 := s_r24_Vars 25 [p, q] hc
  have n1 := s_r24_SameVars (varsOf 24 [p, q]) (by have := addTs_len (op := 24) (l := [p, q]) (s := []); unfold varsOf; simp only [List.length_nil] at this; omega)
  have n2 := s_r24_SameVars (varsOf 25 [p, q]) (by have := addTs_len (op := 25) (l := [p, q]) (s := []); unfold varsOf; simp only [List.length_nil] at this; omega)
  have g1 := s_pattern_Generic p (by omega)
  have g2 := s_r24_Generic p (by omega)
  have g3 := s_pattern_Ground p (by omega)
  have g4 := s_r24_Ground p (by omega)
  simp only [List.map_cons, List.map_nil] at a1 a2 b1 b2
  have z0 : (((0 : Nat) : Int) = 0) = True := by simp
  cases e1 : ((varsOf 24 [p, q]).map vrow).isEmpty <;> cases e2 : ((varsOf 25 [p, q]).map vrow).isEmpty <;>
  (rw [r_law24_PatternNames (Nat.le_of_ble_eq_true rfl), F_law24_PatternNames]; simp (disch := omega) only [eqs, eqL, ↓gc_len, seval, -List.reduceReplicate, reduceCtorEq, omap, depth, pcall, pureR, freezeFor, freezeAll, tupR, resV, purR, enterTm, number, gcOk, rangeEnd, mkTup, allP, eqM, q_r10_Small, hsp, hsq, h1, h2, q_law24_lives, hl, q_pattern_Holes, q_pattern_Nums, q_r24_Vars, q_r24_SameVars, a1, a2, b1, b2, n1, n2, s_Holes0, q_pattern_Generic, q_r24_Generic, q_pattern_Ground, q_r24_Ground, g1, g2, g3, g4, t_bs2, refs_0z, refs_1z, refs_2z, frz_0, frz_1, frz_2, flat_lst, e1, e2, z0, beq_self_eq_true, eq_self, pur_1, pur_2, purify_zero])
end Go.AE.S
