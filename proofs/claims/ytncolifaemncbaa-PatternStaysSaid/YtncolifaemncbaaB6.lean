/- A pattern with variables in place of holes and nums, without evals. --M-- -/
import Derived.Test.YtncolifaemncbaaB5
namespace Go.AE
namespace Term
/-- The operator of a node: a variable's for a hole or a num. -/
def varOp (o : Int) : Int := if o = 24 ∨ o = 25 then 1 else o
mutual
def varX : Term → Term
  | .mk o w v s [] => .mk (varOp o) w v s []
  | .mk o w v s [a] => if o = 26 then varX a else .mk (varOp o) w v s [varX a]
  | .mk o w v s (a :: b :: as) => .mk (varOp o) w v s (varX a :: varX b :: varsX as)
def varsX : List Term → List Term
  | [] => []
  | a :: as => varX a :: varsX as
end
theorem varsX_map : ∀ l : List Term, varsX l = l.map varX
  | [] => rfl
  | a :: l => by rw [varsX, varsX_map l]; rfl
theorem var_eval (t : Term) (a : Term) (ho : t.op = 26) (ha : t.args = [a]) : t.varX = a.varX := by
  cases t with | mk o w v s as => simp only [Term.op, Term.args] at ho ha; subst ho; subst ha; rw [varX]; rfl
theorem var_node (t : Term) (h : ¬ (t.op = 26 ∧ t.args.length = 1)) : t.varX = .mk (varOp t.op) t.w t.v t.name (t.args.map varX) := by
  cases t with
  | mk o w v s as =>
    simp only [Term.op, Term.args] at h
    match as, h with
    | [], _ => rw [varX]; rfl
    | [a], h =>
      have ho : ¬ o = 26 := fun e => h ⟨e, rfl⟩
      rw [varX, if_neg ho]; rfl
    | a :: b :: as, _ => rw [varX, varsX_map]; rfl
end Term
end Go.AE
/- Variables, by the program. --M-- -/
namespace Go.AE.S
open Go Go.AE
set_option linter.unusedSimpArgs false
set_option linter.unusedVariables false
variable {τ : Tm} {σ : Store} {rd : Option Nat}
abbrev sW (t : Term) (s : List Term) : Store := [.pv 0 [] false, .av 5 [z5 0] false, .pv (esOf 5 s) (s.map Term.row) false, .av 5 [[.p (.int .i64 (Term.varOp t.op)), .p (.int .i64 t.w), .p (.int .u64 t.v), .p (.str t.name), .sl 2 s.length]] false]
abbrev e_var (t : Term) (i : Int) : List (Nat × AV) := [(2, .ptr 1 1 0 0), (3, .ptr 3 1 0 0), (34, .p (.lst (t.args.map Term.row))), (35, .p (.int .i64 t.args.length)), (36, .p (.int .i64 i))]
theorem foldl_snoc {α β : Type} (g : α → β) : ∀ (l : List α) (s : List β), l.foldl (fun s a => s ++ [g a]) s = s ++ l.map g
  | [], s => by simp
  | a :: l, s => by rw [List.foldl_cons, foldl_snoc g l]; simp
set_option maxHeartbeats 4000000 in
theorem s_pattern_Variables (t : Term) : TOk t → t.count ≤ 1000000 → R P f_pattern_Variables [.agg t.row] = some (.agg t.varX.row) := by
  induction t using Term.ind with
  | h t ih =>
  intro ht hc
  have hlen := Term.counts_len t.args
  have hct := Term.count_eq t
  by_cases h1 : t.op = 26 ∧ t.args.length = 1
  · obtain ⟨ho, hl⟩ := h1
    obtain ⟨a, ha⟩ := List.length_eq_one_iff.1 hl
    have hm : a ∈ t.args := by rw [ha]; simp
    have hr := ih a hm (ht.args hm) (by have := Term.counts_mem hm; omega)
    rw [Term.var_eval t a ho ha]
    have hi : ∀ σ, iadrSV σ 5 (.p (.lst (t.args.map Term.row))) (.p (.int .i64 0)) = some (.p (.ptr a.row 0)) := fun σ => v_iadr (k := .i64) (es := 5) (σ := σ) (i := 0) (rows := t.args.map Term.row) (r := a.row) (by rw [ha]; rfl) a.row_len
    have hl' : ((t.args.length : Nat) : Int) = 1 := by rw [hl]; rfl
    (rw [r_pattern_Variables (Nat.le_of_ble_eq_true rfl), F_pattern_Variables]; simp (disch := omega) only [eqs, eqL, ↓gc_len, seval, -List.reduceReplicate, reduceCtorEq, omap, depth, pcall, pureR, freezeFor, freezeAll, tupR, resV, purR, enterTm, number, gcOk, rangeEnd, mkTup, allP, eqM, List.length_map, eq_true ho, eq_true hl', hi, q_pattern_Variables, hr])
  · have h := loop_fold (P := P) (nt := 49) (rd := none) (lv := [2, 3, 34, 35, 36]) (b := B0_pattern_Variables) (x := 0) (as := t.args) (fun i (_ : List Term) => e_var t i) (sW t) (fun _ s a => s ++ [a.varX])
      (fun s => ⟨upd (tm (e_var t t.args.length)) 37 (.p (.bool false)), sW t s, 49, none⟩) (fun i s => s.length = i)
      (fun i a s ha hi hs => by
        have hm := List.mem_of_getElem? ha
        have hac := Term.counts_mem hm
        have hr := ih a hm (ht.args hm) (by omega)
        have hlt : ((i : Int) < t.args.length) = True := by simpa using hi
        have hap := v_append (σ := sW t s ++ [.pv 5 [a.varX.row] false]) (b := 2) (n := s.length) (e := esOf 5 s) (es := 5) (bytes := 64) (rows := s.map Term.row) (new := [a.varX.row]) rfl (by simp) (esOf_or _ _ _) (by simp only [List.length_cons, List.length_nil]; omega)
        simp only [sW, z5, List.cons_append, List.nil_append] at hap
        refine ⟨by simp [hs], ?_⟩
        simp only [B0_pattern_Variables]
        simp (disch := omega) only [eqs, eqL, ↓gc_len, seval, -List.reduceReplicate, reduceCtorEq, omap, depth, pcall, pureR, freezeFor, freezeAll, tupR, resV, purR, enterTm, number, gcOk, rangeEnd, mkTup, allP, eqM, hlt, v_iadr (map_get (f := Term.row) ha) a.row_len, q_pattern_Variables, hr, sW, z5, hap, List.map_append, List.length_append, esOf_snoc, e_var]) (fun s hs => by
        simp only [B0_pattern_Variables]
        simp (disch := omega) only [eqs, eqL, ↓gc_len, seval, -List.reduceReplicate, reduceCtorEq, omap, depth, pcall, pureR, freezeFor, freezeAll, tupR, resV, purR, enterTm, number, gcOk, rangeEnd, mkTup, allP, eqM, Int.lt_irrefl]) (fun i s => rfl) [] (by simp) _ (foldE_foldl _ t.args 0 [])
    rw [foldl_snoc, List.nil_append] at h
    rw [Term.var_node t h1]
    have hv := s_pattern_variable t.op
    have h' : loopAt P L0_pattern_Variables (e_var t 0) [.pv 0 [] false, .av 5 [z5 0] false, .pv 0 [] false, .av 5 [[.p (.int .i64 (Term.varOp t.op)), .p (.int .i64 t.w), .p (.int .u64 t.v), .p (.str t.name), .sl 2 0]] false] 49 none = _ := h
    simp only [z5, sW, List.length_map] at h'
    rcases Classical.propComplete (t.op = 26) with h2 | h2 <;> rcases Classical.propComplete (((t.args.length : Nat) : Int) = 1) with h3 | h3 <;> by_cases h4 : t.op = 24 ∨ t.op = 25 <;> simp only [Term.varOp, h4, if_true, if_false] at h' <;>
    (rw [r_pattern_Variables (Nat.le_of_ble_eq_true rfl), F_pattern_Variables]; simp (disch := omega) only [eqs, eqL, ↓gc_len, seval, -List.reduceReplicate, reduceCtorEq, omap, depth, pcall, pureR, freezeFor, freezeAll, tupR, resV, purR, enterTm, number, gcOk, rangeEnd, mkTup, allP, eqM, List.length_map, h2, h3, h4, q_pattern_variable, hv, k0_pattern_Variables, h']) <;> first | (exfalso; exact h1 ⟨of_eq_true h2, by have := of_eq_true h3; omega⟩) | simp [Term.row, Term.rows_eq, Term.varOp, h4]
end Go.AE.S
/- Variables, by the reference. --M-- -/
namespace Go.AE.S
open Go Go.AE
set_option linter.unusedSimpArgs false
set_option linter.unusedVariables false
variable {τ : Tm} {σ : Store} {rd : Option Nat}
abbrev e_varR (t : Term) (i : Int) : List (Nat × AV) := [(1, .p (.ptr t.row 0)), (2, .ptr 1 1 0 0), (3, .ptr 2 1 0 0), (4, .p (.int .i64 i))]
set_option maxHeartbeats 4000000 in
theorem s_r24_Variables (t : Term) : TOk t → t.count ≤ 1000000 → R P f_r24_Variables [.agg t.row] = some (.agg t.varX.row) := by
  induction t using Term.ind with
  | h t ih =>
  intro ht hc
  have hlen := Term.counts_len t.args
  have hct := Term.count_eq t
  by_cases h1 : t.op = 26 ∧ t.args.length = 1
  · obtain ⟨ho, hl⟩ := h1
    obtain ⟨a, ha⟩ := List.length_eq_one_iff.1 hl
    have hm : a ∈ t.args := by rw [ha]; simp
    have hr := ih a hm (ht.args hm) (by have := Term.counts_mem hm; omega)
    rw [Term.var_eval t a ho ha]
    have hi : ∀ σ, iadrSV σ 5 (.p (.lst (t.args.map Term.row))) (.p (.int .i64 0)) = some (.p (.ptr a.row 0)) := fun σ => v_iadr (k := .i64) (es := 5) (σ := σ) (i := 0) (rows := t.args.map Term.row) (r := a.row) (by rw [ha]; rfl) a.row_len
    have hl' : ((t.args.length : Nat) : Int) = 1 := by rw [hl]; rfl
    (rw [r_r24_Variables (Nat.le_of_ble_eq_true rfl), F_r24_Variables]; simp (disch := omega) only [eqs, eqL, ↓gc_len, seval, -List.reduceReplicate, reduceCtorEq, omap, depth, pcall, pureR, freezeFor, freezeAll, tupR, resV, purR, enterTm, number, gcOk, rangeEnd, mkTup, allP, eqM, List.length_map, eq_true ho, eq_true hl', hi, q_r24_Variables, hr])
  · have h := loop_fold (P := P) (nt := 43) (rd := none) (lv := [1, 2, 3, 4]) (b := B0_r24_Variables) (x := 0) (as := t.args) (fun i (_ : List Term) => e_varR t i) (sR t) (fun _ s a => s ++ [a.varX])
      (fun s => ⟨upd (upd (upd (upd (upd (tm (e_varR t t.args.length)) 21 (.p (.int .i64 t.args.length))) 22 (.p (.ptr t.row 4))) 23 (.p (.lst (t.args.map Term.row)))) 24 (.p (.int .i64 t.args.length))) 25 (.p (.bool false)), sR t s, 43, none⟩) (fun i s => s.length = i)
      (fun i a s ha hi hs => by
        have hm := List.mem_of_getElem? ha
        have hac := Term.counts_mem hm
        have hr := ih a hm (ht.args hm) (by omega)
        have hlt : ((i : Int) < t.args.length) = True := by simpa using hi
        have hap := v_append (σ := sR t s ++ [.pv 5 [a.varX.row] false]) (b := 3) (n := s.length) (e := esOf 5 s) (es := 5) (bytes := 64) (rows := s.map Term.row) (new := [a.varX.row]) rfl (by simp) (esOf_or _ _ _) (by simp only [List.length_cons, List.length_nil]; omega)
        simp only [sR, z5, List.cons_append, List.nil_append] at hap
        refine ⟨by simp [hs], ?_⟩
        simp only [B0_r24_Variables]
        simp (disch := omega) only [eqs, eqL, ↓gc_len, seval, -List.reduceReplicate, reduceCtorEq, omap, depth, pcall, pureR, freezeFor, freezeAll, tupR, resV, purR, enterTm, number, gcOk, rangeEnd, mkTup, allP, eqM, hlt, List.length_map, v_iadr (map_get (f := Term.row) ha) a.row_len, q_r24_Variables, hr, sR, z5, hap, List.map_append, List.length_append, esOf_snoc, e_varR]) (fun s hs => by
        simp only [B0_r24_Variables]
        simp (disch := omega) only [eqs, eqL, ↓gc_len, seval, -List.reduceReplicate, reduceCtorEq, omap, depth, pcall, pureR, freezeFor, freezeAll, tupR, resV, purR, enterTm, number, gcOk, rangeEnd, mkTup, allP, eqM, Int.lt_irrefl, List.length_map]) (fun i s => rfl) [] (by simp) _ (foldE_foldl _ t.args 0 [])
    rw [foldl_snoc, List.nil_append] at h
    rw [Term.var_node t h1]
    have hv : R P f_r24_variable [.agg [.int .i64 t.op, .int .i64 t.w, .int .u64 t.v, .str t.name, .lst ((t.args.map Term.varX).map Term.row)]] = some (.bool (decide (t.op = 24 ∨ t.op = 25))) := by
      have hq := s_r24_variable (.mk t.op t.w t.v t.name (t.args.map Term.varX))
      rw [Term.row_eq] at hq
      exact hq
    have h' : loopAt P L0_r24_Variables (e_varR t 0) [.pv 0 [] false, .av 5 [z5 0] false, .av 5 [[.p (.int .i64 t.op), .p (.int .i64 t.w), .p (.int .u64 t.v), .p (.str t.name), .sl 3 0]] false, .pv 0 [] false] 43 none = _ := h
    simp only [z5, sR, List.length_map] at h'
    rcases Classical.propComplete (t.op = 26) with h2 | h2 <;> rcases Classical.propComplete (((t.args.length : Nat) : Int) = 1) with h3 | h3 <;> by_cases h4 : t.op = 24 ∨ t.op = 25 <;>
    (rw [r_r24_Variables (Nat.le_of_ble_eq_true rfl), F_r24_Variables]; simp (disch := omega) only [eqs, eqL, ↓gc_len, seval, -List.reduceReplicate, reduceCtorEq, omap, depth, pcall, pureR, freezeFor, freezeAll, tupR, resV, purR, enterTm, number, gcOk, rangeEnd, mkTup, allP, eqM, List.length_map, h2, h3, h4, q_r24_variable, hv, k0_r24_Variables, h']) <;> first | (exfalso; exact h1 ⟨of_eq_true h2, by have := of_eq_true h3; omega⟩) | simp [Term.row, Term.rows_eq, Term.varOp, h4]
end Go.AE.S
/- Orders of numbers. --M-- -/
namespace Go.AE.S
open Go Go.AE
set_option linter.unusedSimpArgs false
set_option linter.unusedVariables false
variable {τ : Tm} {σ : Store} {rd : Option Nat}
def cmpI (a b : Int) : Int := if a < b then -1 else if b < a then 1 else 0
theorem s_r24_order (a b : Int) : R P f_r24_order [.int .i64 a, .int .i64 b] = some (.int .i64 (cmpI a b)) := by
  unfold cmpI
  rcases Classical.propComplete (a < b) with h1 | h1 <;> rcases Classical.propComplete (b < a) with h2 | h2 <;> (rw [r_r24_order (Nat.le_of_ble_eq_true rfl), F_r24_order]; simp (disch := omega) only [eqs, eqL, ↓gc_len, seval, -List.reduceReplicate, reduceCtorEq, omap, depth, pcall, pureR, freezeFor, freezeAll, tupR, resV, purR, enterTm, number, gcOk, rangeEnd, mkTup, allP, eqM, h1, h2, gt_iff_lt])
theorem s_isNaN_int (a : Int) : R P f_cmp_isNaN_int [.int .i64 a] = some (.bool false) := by
  (rw [r_cmp_isNaN_int (Nat.le_of_ble_eq_true rfl), F_cmp_isNaN_int]; simp (disch := omega) only [eqs, eqL, ↓gc_len, seval, -List.reduceReplicate, reduceCtorEq, omap, depth, pcall, pureR, freezeFor, freezeAll, tupR, resV, purR, enterTm, number, gcOk, rangeEnd, mkTup, allP, eqM, eq_self, not_true])
theorem s_isNaN_op (a : Int) : R P f_cmp_isNaN_api_Op [.int .i64 a] = some (.bool false) := by
  (rw [r_cmp_isNaN_api_Op (Nat.le_of_ble_eq_true rfl), F_cmp_isNaN_api_Op]; simp (disch := omega) only [eqs, eqL, ↓gc_len, seval, -List.reduceReplicate, reduceCtorEq, omap, depth, pcall, pureR, freezeFor, freezeAll, tupR, resV, purR, enterTm, number, gcOk, rangeEnd, mkTup, allP, eqM, eq_self, not_true])
theorem s_isNaN_u (a : Int) : R P f_cmp_isNaN_uint64 [.int .u64 a] = some (.bool false) := by
  (rw [r_cmp_isNaN_uint64 (Nat.le_of_ble_eq_true rfl), F_cmp_isNaN_uint64]; simp (disch := omega) only [eqs, eqL, ↓gc_len, seval, -List.reduceReplicate, reduceCtorEq, omap, depth, pcall, pureR, freezeFor, freezeAll, tupR, resV, purR, enterTm, number, gcOk, rangeEnd, mkTup, allP, eqM, eq_self, not_true])
theorem s_cmp_int (a b : Int) : R P f_cmp_Compare_int [.int .i64 a, .int .i64 b] = some (.int .i64 (cmpI a b)) := by
  unfold cmpI
  rcases Classical.propComplete (a < b) with h1 | h1 <;> rcases Classical.propComplete (b < a) with h2 | h2 <;> (rw [r_cmp_Compare_int (Nat.le_of_ble_eq_true rfl), F_cmp_Compare_int]; simp (disch := omega) only [eqs, eqL, ↓gc_len, seval, -List.reduceReplicate, reduceCtorEq, omap, depth, pcall, pureR, freezeFor, freezeAll, tupR, resV, purR, enterTm, number, gcOk, rangeEnd, mkTup, allP, eqM, h1, h2, gt_iff_lt, q_cmp_isNaN_int, s_isNaN_int])
theorem s_cmp_op (a b : Int) : R P f_cmp_Compare_api_Op [.int .i64 a, .int .i64 b] = some (.int .i64 (cmpI a b)) := by
  unfold cmpI
  rcases Classical.propComplete (a < b) with h1 | h1 <;> rcases Classical.propComplete (b < a) with h2 | h2 <;> (rw [r_cmp_Compare_api_Op (Nat.le_of_ble_eq_true rfl), F_cmp_Compare_api_Op]; simp (disch := omega) only [eqs, eqL, ↓gc_len, seval, -List.reduceReplicate, reduceCtorEq, omap, depth, pcall, pureR, freezeFor, freezeAll, tupR, resV, purR, enterTm, number, gcOk, rangeEnd, mkTup, allP, eqM, h1, h2, gt_iff_lt, q_cmp_isNaN_api_Op, s_isNaN_op])
theorem s_cmp_u (a b : Int) : R P f_cmp_Compare_uint64 [.int .u64 a, .int .u64 b] = some (.int .i64 (cmpI a b)) := by
  unfold cmpI
  rcases Classical.propComplete (a < b) with h1 | h1 <;> rcases Classical.propComplete (b < a) with h2 | h2 <;> (rw [r_cmp_Compare_uint64 (Nat.le_of_ble_eq_true rfl), F_cmp_Compare_uint64]; simp (disch := omega) only [eqs, eqL, ↓gc_len, seval, -List.reduceReplicate, reduceCtorEq, omap, depth, pcall, pureR, freezeFor, freezeAll, tupR, resV, purR, enterTm, number, gcOk, rangeEnd, mkTup, allP, eqM, h1, h2, gt_iff_lt, q_cmp_isNaN_uint64, s_isNaN_u])
end Go.AE.S
/- The first number that is not zero. --M-- -/
namespace Go.AE.S
open Go Go.AE
set_option linter.unusedSimpArgs false
set_option linter.unusedVariables false
variable {τ : Tm} {σ : Store} {rd : Option Nat}
def orI : List Int → Int
  | [] => 0
  | a :: l => if a = 0 then orI l else a
theorem fold_or : ∀ (l : List Int) (i : Nat), match foldE (S := Unit) (T := Int) (fun _ _ a => if a = 0 then .inl () else .inr a) i () l with
    | .inl _ => orI l = 0
    | .inr e => orI l = e
  | [], i => rfl
  | a :: l, i => by
    by_cases h : a = 0
    · simp only [foldE, orI, h, if_true]
      exact fold_or l (i + 1)
    · simp only [foldE, orI, h, if_false]
abbrev e_or (l : List Int) (i : Int) : List (Nat × AV) := [(3, .p (.int .i64 0)), (6, .p (.lst (l.map irow))), (7, .p (.int .i64 l.length)), (8, .p (.int .i64 i))]
theorem s_cmp_Or (l : List Int) (hl : l.length ≤ 1000000) : R P f_cmp_Or_int [.lst (l.map irow)] = some (.int .i64 (orI l)) := by
  have h := loop_foldE (P := P) (nt := 18) (rd := none) (lv := [3, 6, 7, 8]) (b := B0_cmp_Or_int) (x := 0) (as := l) (fun i (_ : Unit) => e_or l i) (fun _ => []) (fun _ _ a => if a = 0 then .inl () else .inr a)
    (fun s => ⟨upd (tm (e_or l l.length)) 9 (.p (.bool false)), [], 18, none⟩) (fun e => ret1 2 (.int .i64 e) []) (fun _ _ => True)
    (fun i a s ha hi hs => by
      refine ⟨fun _ _ => trivial, ?_⟩
      have hlt : ((i : Int) < l.length) = True := by simpa using hi
      have hui := fun σ => v_iadr (k := .i64) (es := 1) (σ := σ) (map_get (f := irow) ha) rfl
      simp only [irow] at hui
      rcases Classical.propComplete (a = 0) with h1 | h1 <;> simp only [B0_cmp_Or_int] <;> simp (disch := omega) only [eqs, eqL, ↓gc_len, seval, -List.reduceReplicate, reduceCtorEq, omap, depth, pcall, pureR, freezeFor, freezeAll, tupR, resV, purR, enterTm, number, gcOk, rangeEnd, mkTup, allP, eqM, hlt, hui, h1, ret1]) (fun s hs => by
      simp only [B0_cmp_Or_int]
      simp (disch := omega) only [eqs, eqL, ↓gc_len, seval, -List.reduceReplicate, reduceCtorEq, omap, depth, pcall, pureR, freezeFor, freezeAll, tupR, resV, purR, enterTm, number, gcOk, rangeEnd, mkTup, allP, eqM, Int.lt_irrefl]) (fun i s => rfl) () trivial
  have hf := fold_or l 0
  cases hfe : foldE (S := Unit) (T := Int) (fun _ _ a => if a = 0 then .inl () else .inr a) 0 () l with
  | inr e =>
    rw [hfe] at h hf
    obtain ⟨⟨e', τ', σ', nt', rd'⟩, k1, k2, k3, k4⟩ := h
    simp only at k2 k3 k4 hf
    subst k2; subst k4
    have h' : loopAt P L0_cmp_Or_int (e_or l 0) [] 18 none = some (.ret, ⟨τ', [], nt', rd'⟩) := k1
    rw [hf]
    (rw [r_cmp_Or_int (Nat.le_of_ble_eq_true rfl), F_cmp_Or_int]; simp (disch := omega) only [eqs, eqL, ↓gc_len, seval, -List.reduceReplicate, reduceCtorEq, omap, depth, pcall, pureR, freezeFor, freezeAll, tupR, resV, purR, enterTm, number, gcOk, rangeEnd, mkTup, allP, eqM, List.length_map, k0_cmp_Or_int, h', k3])
  | inl s =>
    rw [hfe] at h hf
    simp only at hf
    have h' : loopAt P L0_cmp_Or_int (e_or l 0) [] 18 none = _ := h
    rw [hf]
    (rw [r_cmp_Or_int (Nat.le_of_ble_eq_true rfl), F_cmp_Or_int]; simp (disch := omega) only [eqs, eqL, ↓gc_len, seval, -List.reduceReplicate, reduceCtorEq, omap, depth, pcall, pureR, freezeFor, freezeAll, tupR, resV, purR, enterTm, number, gcOk, rangeEnd, mkTup, allP, eqM, List.length_map, k0_cmp_Or_int, h'])
end Go.AE.S
/- The order of terms. --M-- -/
namespace Go.AE
namespace Term
mutual
def cmpT : Term → Term → Int
  | .mk o w v s as, u =>
    S.orI [S.cmpI (Term.mk o w v s as).count u.count, S.cmpI o u.op, S.cmpI w u.w, S.cmpI v u.v, cmpStr s u.name, cmpsT as u.args]
def cmpsT : List Term → List Term → Int
  | [], [] => 0
  | [], _ :: _ => -1
  | _ :: _, [] => 1
  | a :: as, b :: bs => if cmpT a b = 0 then cmpsT as bs else cmpT a b
end
theorem cmpT_eq (t u : Term) : t.cmpT u = S.orI [S.cmpI t.count u.count, S.cmpI t.op u.op, S.cmpI t.w u.w, S.cmpI t.v u.v, cmpStr t.name u.name, cmpsT t.args u.args] := by
  cases t with | mk o w v s as => rw [cmpT]; rfl
end Term
end Go.AE
/- slices.CompareFunc at terms. --M-- -/
namespace Go.AE.S
open Go Go.AE
set_option linter.unusedSimpArgs false
set_option linter.unusedVariables false
variable {τ : Tm} {σ : Store} {rd : Option Nat}
def cmpF (bs : List Term) (i : Nat) (_ : Unit) (a : Term) : Unit ⊕ Int :=
  match bs[i]? with
  | none => .inr 1
  | some b => if a.cmpT b = 0 then .inl () else .inr (a.cmpT b)
theorem fold_cmps (bs : List Term) : ∀ (as : List Term) (i : Nat), match foldE (cmpF bs) i () as with
    | .inl _ => Term.cmpsT as (bs.drop i) = if as.length + i < bs.length then -1 else 0
    | .inr e => Term.cmpsT as (bs.drop i) = e
  | [], i => by
    simp only [foldE, List.length_nil, Nat.zero_add]
    by_cases h : i < bs.length
    · rw [if_pos h, List.drop_eq_getElem_cons h, Term.cmpsT]
    · rw [if_neg h, List.drop_of_length_le (by omega), Term.cmpsT]
  | a :: as, i => by
    by_cases h : i < bs.length
    · have hb : bs[i]? = some bs[i] := List.getElem?_eq_getElem h
      rw [List.drop_eq_getElem_cons h, Term.cmpsT]
      by_cases h0 : a.cmpT bs[i] = 0
      · have hs : cmpF bs i () a = .inl () := by unfold cmpF; rw [hb]; simp only; rw [if_pos h0]
        simp only [foldE, hs, if_pos h0]
        have := fold_cmps bs as (i + 1)
        rw [List.length_cons, show as.length + 1 + i = as.length + (i + 1) by omega]
        exact this
      · have hs : cmpF bs i () a = .inr (a.cmpT bs[i]) := by unfold cmpF; rw [hb]; simp only; rw [if_neg h0]
        simp only [foldE, hs, if_neg h0]
    · have hb : bs[i]? = none := List.getElem?_eq_none (by omega)
      have hs : cmpF bs i () a = .inr 1 := by unfold cmpF; rw [hb]
      simp only [foldE, hs]
      rw [List.drop_of_length_le (by omega), Term.cmpsT]
abbrev e_cf (as bs : List Term) (i : Int) : List (Nat × AV) := [(0, .p (.lst (as.map Term.row))), (1, .p (.lst (bs.map Term.row))), (2, .p (.fn f_term_Compare [])), (11, .p (.lst (as.map Term.row))), (12, .p (.int .i64 as.length)), (13, .p (.int .i64 i))]
def retC6 (e : Int) (r : Ex × St) : Prop := r.1 = .ret ∧ r.2.τ.get 6 = .p (.int .i64 e)
set_option maxHeartbeats 4000000 in
theorem l_CompareFunc (as bs : List Term) (hla : as.length ≤ 1000000) (hlb : bs.length ≤ 1000000) (ih : ∀ a ∈ as, ∀ b ∈ bs, R P f_term_Compare [.agg a.row, .agg b.row] = some (.int .i64 (a.cmpT b))) :
    doneP (fun _ => loopAt P L0_slices_CompareFunc_api_Term_api_Term_api_Term_api_Term (e_cf as bs 0) [] 39 none = some (.exit 0, ⟨upd (tm (e_cf as bs as.length)) 14 (.p (.bool false)), [], 39, none⟩))
      (fun e => ∃ r, loopAt P L0_slices_CompareFunc_api_Term_api_Term_api_Term_api_Term (e_cf as bs 0) [] 39 none = some r ∧ retC6 e r) (foldE (cmpF bs) 0 () as) := by
  have h := loop_foldE (P := P) (nt := 39) (rd := none) (lv := [0, 1, 2, 11, 12, 13]) (b := B0_slices_CompareFunc_api_Term_api_Term_api_Term_api_Term) (x := 0) (as := as) (fun i (_ : Unit) => e_cf as bs i) (fun _ => []) (cmpF bs)
    (fun s => ⟨upd (tm (e_cf as bs as.length)) 14 (.p (.bool false)), [], 39, none⟩) retC6 (fun _ _ => True)
    (fun i a s ha hi hs => by
      refine ⟨fun _ _ => trivial, ?_⟩
      have hlt : ((i : Int) < as.length) = True := by simpa using hi
      have hma := List.mem_of_getElem? ha
      have hui := fun σ => v_iadr (k := .i64) (es := 5) (σ := σ) (map_get (f := Term.row) ha) a.row_len
      unfold cmpF
      by_cases hb : i < bs.length
      · have hbe : bs[i]? = some bs[i] := List.getElem?_eq_getElem hb
        have hge : ((bs.length : Int) ≤ i) = False := by simp; omega
        have hub := fun σ => v_iadr (k := .i64) (es := 5) (σ := σ) (map_get (f := Term.row) hbe) bs[i].row_len
        have hr := ih a hma bs[i] (List.getElem_mem hb)
        rw [hbe]
        rcases Classical.propComplete (a.cmpT bs[i] = 0) with h0 | h0 <;> simp only [B0_slices_CompareFunc_api_Term_api_Term_api_Term_api_Term, h0] <;> simp (disch := omega) only [eqs, eqL, ↓gc_len, seval, -List.reduceReplicate, reduceCtorEq, omap, depth, pcall, pureR, freezeFor, freezeAll, tupR, resV, purR, enterTm, number, gcOk, rangeEnd, mkTup, allP, eqM, hlt, hui, hub, hge, List.length_map, ge_iff_le, q_term_Compare, hr, h0, retC6] <;> simp [gc, gcOk, below_p]
      · have hbe : bs[i]? = none := List.getElem?_eq_none (by omega)
        have hge : ((bs.length : Int) ≤ i) = True := by simp; omega
        rw [hbe]
        simp only [B0_slices_CompareFunc_api_Term_api_Term_api_Term_api_Term]
        simp (disch := omega) only [eqs, eqL, ↓gc_len, seval, -List.reduceReplicate, reduceCtorEq, omap, depth, pcall, pureR, freezeFor, freezeAll, tupR, resV, purR, enterTm, number, gcOk, rangeEnd, mkTup, allP, eqM, hlt, hui, hge, List.length_map, ge_iff_le, retC6]) (fun s hs => by
      simp only [B0_slices_CompareFunc_api_Term_api_Term_api_Term_api_Term]
      simp (disch := omega) only [eqs, eqL, ↓gc_len, seval, -List.reduceReplicate, reduceCtorEq, omap, depth, pcall, pureR, freezeFor, freezeAll, tupR, resV, purR, enterTm, number, gcOk, rangeEnd, mkTup, allP, eqM, Int.lt_irrefl]) (fun i s => rfl) () trivial
  exact h
set_option maxHeartbeats 4000000 in
theorem s_CompareFunc (as bs : List Term) (hla : as.length ≤ 1000000) (hlb : bs.length ≤ 1000000) (ih : ∀ a ∈ as, ∀ b ∈ bs, R P f_term_Compare [.agg a.row, .agg b.row] = some (.int .i64 (a.cmpT b))) :
    R P f_slices_CompareFunc_api_Term_api_Term_api_Term_api_Term [.lst (as.map Term.row), .lst (bs.map Term.row), .fn f_term_Compare []] = some (.int .i64 (Term.cmpsT as bs)) := by
  have h := l_CompareFunc as bs hla hlb ih
  have hf := fold_cmps bs as 0
  rw [List.drop_zero, Nat.add_zero] at hf
  cases hfe : foldE (cmpF bs) 0 () as with
  | inr e =>
    rw [hfe] at h hf
    obtain ⟨⟨e', τ', σ', nt', rd'⟩, k1, k2, k3⟩ := h
    simp only at k2 k3 hf
    subst k2
    rw [hf]
    (rw [r_slices_CompareFunc_api_Term_api_Term_api_Term_api_Term (Nat.le_of_ble_eq_true rfl), F_slices_CompareFunc_api_Term_api_Term_api_Term_api_Term]; simp (disch := omega) only [eqs, eqL, ↓gc_len, seval, -List.reduceReplicate, reduceCtorEq, omap, depth, pcall, pureR, freezeFor, freezeAll, tupR, resV, purR, enterTm, number, gcOk, rangeEnd, mkTup, allP, eqM, List.length_map, k0_slices_CompareFunc_api_Term_api_Term_api_Term_api_Term, k1, k3])
  | inl s =>
    rw [hfe] at h hf
    simp only at hf
    have h' : loopAt P L0_slices_CompareFunc_api_Term_api_Term_api_Term_api_Term (e_cf as bs 0) [] 39 none = _ := h
    rw [hf]
    rcases Classical.propComplete ((as.length : Int) < bs.length) with h0 | h0
    · have h1 : as.length < bs.length := by have := of_eq_true h0; omega
      rw [if_pos h1]
      (rw [r_slices_CompareFunc_api_Term_api_Term_api_Term_api_Term (Nat.le_of_ble_eq_true rfl), F_slices_CompareFunc_api_Term_api_Term_api_Term_api_Term]; simp (disch := omega) only [eqs, eqL, ↓gc_len, seval, -List.reduceReplicate, reduceCtorEq, omap, depth, pcall, pureR, freezeFor, freezeAll, tupR, resV, purR, enterTm, number, gcOk, rangeEnd, mkTup, allP, eqM, List.length_map, k0_slices_CompareFunc_api_Term_api_Term_api_Term_api_Term, h', h0])
    · have h1 : ¬ as.length < bs.length := by have := of_eq_false h0; omega
      rw [if_neg h1]
      (rw [r_slices_CompareFunc_api_Term_api_Term_api_Term_api_Term (Nat.le_of_ble_eq_true rfl), F_slices_CompareFunc_api_Term_api_Term_api_Term_api_Term]; simp (disch := omega) only [eqs, eqL, ↓gc_len, seval, -List.reduceReplicate, reduceCtorEq, omap, depth, pcall, pureR, freezeFor, freezeAll, tupR, resV, purR, enterTm, number, gcOk, rangeEnd, mkTup, allP, eqM, List.length_map, k0_slices_CompareFunc_api_Term_api_Term_api_Term_api_Term, h', h0])
end Go.AE.S
/- The order of terms, by the program. --M-- -/
namespace Go.AE.S
open Go Go.AE
set_option linter.unusedSimpArgs false
set_option linter.unusedVariables false
variable {τ : Tm} {σ : Store} {rd : Option Nat}
theorem s_Or4 (a b c d : Int) : R P f_cmp_Or_int [.lst [[.int .i64 a], [.int .i64 b], [.int .i64 c], [.int .i64 d]]] = some (.int .i64 (orI [a, b, c, d])) := s_cmp_Or [a, b, c, d] (by simp)
set_option maxHeartbeats 4000000 in
theorem s_term_Compare (t : Term) : ∀ u : Term, t.count ≤ 1000000 → u.count ≤ 1000000 → R P f_term_Compare [.agg t.row, .agg u.row] = some (.int .i64 (t.cmpT u)) := by
  induction t using Term.ind with
  | h t ih =>
  intro u hc hu
  have hlen := Term.counts_len t.args
  have hct := Term.count_eq t
  have hlu := Term.counts_len u.args
  have hcu := Term.count_eq u
  have hr := s_CompareFunc t.args u.args (by omega) (by omega) (fun a ha b hb => ih a ha b (by have := Term.counts_mem ha; omega) (by have := Term.counts_mem hb; omega))
  have h1 := s_term_Size t hc
  have h2 := s_term_Size u hu
  rw [Term.cmpT_eq]
  have ho : orI [cmpI t.count u.count, cmpI t.op u.op, cmpI t.w u.w, cmpI t.v u.v, cmpStr t.name u.name, Term.cmpsT t.args u.args] = if cmpI t.count u.count = 0 then (if orI [cmpI t.op u.op, cmpI t.w u.w, cmpI t.v u.v, cmpStr t.name u.name] = 0 then Term.cmpsT t.args u.args else orI [cmpI t.op u.op, cmpI t.w u.w, cmpI t.v u.v, cmpStr t.name u.name]) else cmpI t.count u.count := by
    simp only [orI]
    repeat' split
    all_goals simp_all
  rw [ho]
  rcases Classical.propComplete (cmpI t.count u.count = 0) with k1 | k1 <;> rcases Classical.propComplete (orI [cmpI t.op u.op, cmpI t.w u.w, cmpI t.v u.v, cmpStr t.name u.name] = 0) with k2 | k2 <;> simp only [k1, k2, if_true, if_false] <;>
  (rw [r_term_Compare (Nat.le_of_ble_eq_true rfl), F_term_Compare]; simp (disch := omega) only [eqs, eqL, ↓gc_len, seval, -List.reduceReplicate, reduceCtorEq, omap, depth, pcall, pureR, freezeFor, freezeAll, tupR, resV, purR, enterTm, number, gcOk, rangeEnd, mkTup, allP, eqM, q_term_Size, h1, h2, q_cmp_Compare_int, s_cmp_int, q_cmp_Compare_api_Op, s_cmp_op, q_cmp_Compare_uint64, s_cmp_u, q_strings_Compare, s_strings_Compare, q_cmp_Or_int, s_Or4, k1, k2, q_slices_CompareFunc_api_Term_api_Term_api_Term_api_Term, hr])
end Go.AE.S
/- Least, by the program. --M-- -/
namespace Go.AE.S
open Go Go.AE
set_option linter.unusedSimpArgs false
set_option linter.unusedVariables false
variable {τ : Tm} {σ : Store} {rd : Option Nat}
theorem s_pattern_Least (t u : Term) (hc : t.count ≤ 1000000) (hu : u.count ≤ 1000000) : R P f_pattern_Least [.agg t.row, .agg u.row] = some (.bool (decide (t.cmpT u < 0))) := by
  (rw [r_pattern_Least (Nat.le_of_ble_eq_true rfl), F_pattern_Least]; simp (disch := omega) only [eqs, eqL, ↓gc_len, seval, -List.reduceReplicate, reduceCtorEq, omap, depth, pcall, pureR, freezeFor, freezeAll, tupR, resV, purR, enterTm, number, gcOk, rangeEnd, mkTup, allP, eqM, q_term_Compare, s_term_Compare t u hc hu])
end Go.AE.S
/- The order of terms, by the reference. --M-- -/
namespace Go.AE.S
open Go Go.AE
set_option linter.unusedSimpArgs false
set_option linter.unusedVariables false
variable {τ : Tm} {σ : Store} {rd : Option Nat}
def cmpZ (_ : Nat) (_ : Unit) (x : Term × Term) : Unit ⊕ Int := if x.1.cmpT x.2 = 0 then .inl () else .inr (x.1.cmpT x.2)
theorem fold_cmpz : ∀ (as bs : List Term) (i : Nat), match foldE cmpZ i () (as.zip bs) with
    | .inl _ => Term.cmpsT as bs = cmpI as.length bs.length
    | .inr e => Term.cmpsT as bs = e
  | [], [], i => rfl
  | [], b :: bs, i => by
    simp only [List.zip_nil_left, foldE, Term.cmpsT, cmpI, List.length_nil, List.length_cons]
    rw [if_pos (by omega)]
  | a :: as, [], i => by
    simp only [List.zip_nil_right, foldE, Term.cmpsT, cmpI, List.length_nil, List.length_cons]
    rw [if_neg (by omega), if_pos (by omega)]
  | a :: as, b :: bs, i => by
    by_cases h0 : a.cmpT b = 0
    · have hs : cmpZ i () (a, b) = .inl () := by unfold cmpZ; rw [if_pos h0]
      simp only [List.zip_cons_cons, foldE, hs, Term.cmpsT, if_pos h0]
      have := fold_cmpz as bs (i + 1)
      have e : cmpI (a :: as).length (b :: bs).length = cmpI as.length bs.length := by
        simp only [cmpI, List.length_cons]
        repeat' split
        all_goals omega
      rw [e]
      exact this
    · have hs : cmpZ i () (a, b) = .inr (a.cmpT b) := by unfold cmpZ; rw [if_neg h0]
      simp only [List.zip_cons_cons, foldE, hs, Term.cmpsT, if_neg h0]
end Go.AE.S
/- The order of terms, by the reference: the loop. --M-- -/
namespace Go.AE.S
open Go Go.AE
set_option linter.unusedSimpArgs false
set_option linter.unusedVariables false
variable {τ : Tm} {σ : Store} {rd : Option Nat}
abbrev e_cmpR (t u : Term) (i : Int) : List (Nat × AV) := [(2, .p (.ptr t.row 0)), (3, .p (.ptr u.row 0)), (6, .p (.int .i64 i))]
def retC4 (e : Int) (r : Ex × St) : Prop := r.1 = .ret ∧ r.2.τ.get 4 = .p (.int .i64 e) ∧ r.2.σ = []
abbrev finA (t u : Term) (i : Int) : Tm := upd (upd (upd (upd (upd (upd (upd (upd (upd (upd (upd (upd (tm (e_cmpR t u i)) 49 (.p (.int .i64 i))) 50 (.p (.ptr t.row 4))) 51 (.p (.lst (t.args.map Term.row)))) 52 (.p (.int .i64 t.args.length))) 53 (.p (.bool false))) 54 (.p (.bool false))) 55 (.p (.tup []))) 56 (.p (.tup []))) 57 (.p (.tup []))) 58 (.p (.tup []))) 59 (.p (.tup []))) 60 (.p (.bool false))
abbrev finB (t u : Term) (i : Int) : Tm := upd (upd (upd (upd (upd (upd (upd (upd (upd (upd (upd (upd (tm (e_cmpR t u i)) 49 (.p (.int .i64 i))) 50 (.p (.ptr t.row 4))) 51 (.p (.lst (t.args.map Term.row)))) 52 (.p (.int .i64 t.args.length))) 53 (.p (.bool true))) 54 (.p (.bool true))) 55 (.p (.int .i64 i))) 56 (.p (.ptr u.row 4))) 57 (.p (.lst (u.args.map Term.row)))) 58 (.p (.int .i64 u.args.length))) 59 (.p (.bool false))) 60 (.p (.bool false))
noncomputable def finC (t u : Term) : Tm := if t.args.length ≤ u.args.length then finA t u t.args.length else finB t u u.args.length
theorem zip_get {as bs : List Term} {i : Nat} {a b : Term} (h : (as.zip bs)[i]? = some (a, b)) : as[i]? = some a ∧ bs[i]? = some b := by
  rw [List.getElem?_zip_eq_some] at h
  exact h
set_option maxHeartbeats 4000000 in
theorem l_r24_Compare (t u : Term) (hc : t.count ≤ 1000000) (hu : u.count ≤ 1000000) (ih : ∀ a ∈ t.args, ∀ b ∈ u.args, R P f_r24_Compare [.agg a.row, .agg b.row] = some (.int .i64 (a.cmpT b))) :
    doneP (fun _ => loopAt P L0_r24_Compare (e_cmpR t u 0) [] 84 none = some (.exit 0, ⟨finC t u, [], 84, none⟩))
      (fun e => ∃ r, loopAt P L0_r24_Compare (e_cmpR t u 0) [] 84 none = some r ∧ retC4 e r) (foldE cmpZ 0 () (t.args.zip u.args)) := by
  have hlt0 := Term.counts_len t.args
  have hct := Term.count_eq t
  have h := loop_foldE (P := P) (nt := 84) (rd := none) (lv := [2, 3, 6]) (b := B0_r24_Compare) (x := 0) (as := t.args.zip u.args) (fun i (_ : Unit) => e_cmpR t u i) (fun _ => []) cmpZ
    (fun s => ⟨finC t u, [], 84, none⟩) retC4 (fun _ _ => True)
    (fun i ab s hab hi hs => by
      obtain ⟨a, b⟩ := ab
      refine ⟨fun _ _ => trivial, ?_⟩
      obtain ⟨ha, hb⟩ := zip_get hab
      have hia := (List.getElem?_eq_some_iff.1 ha).1
      have hib := (List.getElem?_eq_some_iff.1 hb).1
      have hlta : ((i : Int) < t.args.length) = True := by simpa using hia
      have hltb : ((i : Int) < u.args.length) = True := by simpa using hib
      have hui := fun σ => v_iadr (k := .i64) (es := 5) (σ := σ) (map_get (f := Term.row) ha) a.row_len
      have hub := fun σ => v_iadr (k := .i64) (es := 5) (σ := σ) (map_get (f := Term.row) hb) b.row_len
      have hr := ih a (List.mem_of_getElem? ha) b (List.mem_of_getElem? hb)
      unfold cmpZ
      rcases Classical.propComplete (a.cmpT b = 0) with h0 | h0 <;> simp only [B0_r24_Compare, h0] <;> simp (disch := omega) only [eqs, eqL, ↓gc_len, seval, -List.reduceReplicate, reduceCtorEq, omap, depth, pcall, pureR, freezeFor, freezeAll, tupR, resV, purR, enterTm, number, gcOk, rangeEnd, mkTup, allP, eqM, hlta, hltb, hui, hub, List.length_map, q_r24_Compare, hr, h0, retC4]) (fun s hs => by
      simp only [B0_r24_Compare, finC, List.length_zip]
      by_cases hle : t.args.length ≤ u.args.length
      · rw [Nat.min_eq_left hle, if_pos hle]
        simp (disch := omega) only [eqs, eqL, ↓gc_len, seval, -List.reduceReplicate, reduceCtorEq, omap, depth, pcall, pureR, freezeFor, freezeAll, tupR, resV, purR, enterTm, number, gcOk, rangeEnd, mkTup, allP, eqM, Int.lt_irrefl, List.length_map]
      · have hm : ((u.args.length : Int) < t.args.length) = True := by simp; omega
        rw [Nat.min_eq_right (by omega), if_neg hle]
        simp (disch := omega) only [eqs, eqL, ↓gc_len, seval, -List.reduceReplicate, reduceCtorEq, omap, depth, pcall, pureR, freezeFor, freezeAll, tupR, resV, purR, enterTm, number, gcOk, rangeEnd, mkTup, allP, eqM, Int.lt_irrefl, List.length_map, hm]) (fun i s => rfl) () trivial
  exact h
end Go.AE.S
/- The order of terms, by the reference, whole. --M-- -/
namespace Go.AE.S
open Go Go.AE
set_option linter.unusedSimpArgs false
set_option linter.unusedVariables false
variable {τ : Tm} {σ : Store} {rd : Option Nat}
theorem cmpI_ne {a b : Int} (h : ¬ a = b) : cmpI a b = if a < b then -1 else 1 := by
  unfold cmpI
  by_cases h1 : a < b
  · rw [if_pos h1, if_pos h1]
  · rw [if_neg h1, if_neg h1, if_pos (by omega)]
theorem cmpI_self {a : Int} : cmpI a a = 0 := by unfold cmpI; simp
set_option maxHeartbeats 8000000 in
theorem s_r24_Compare (t : Term) : ∀ u : Term, t.count ≤ 1000000 → u.count ≤ 1000000 → R P f_r24_Compare [.agg t.row, .agg u.row] = some (.int .i64 (t.cmpT u)) := by
  induction t using Term.ind with
  | h t ih =>
  intro u hc hu
  have hct := Term.count_eq t
  have hcu := Term.count_eq u
  have hl := l_r24_Compare t u hc hu (fun a ha b hb => ih a ha b (by have := Term.counts_mem ha; omega) (by have := Term.counts_mem hb; omega))
  have hf := fold_cmpz t.args u.args 0
  have h1 := s_r10_Count t hc
  have h2 := s_r10_Count u hu
  have hs : cmpStr t.name u.name = if t.name = u.name then 0 else if slt t.name u.name = true then -1 else 1 := by
    unfold cmpStr slt
    by_cases h : t.name = u.name
    · rw [if_pos h, if_pos (by rw [h])]
    · have : ¬ t.name.toList = u.name.toList := fun e => h (bytes_ext.1 e)
      rw [if_neg h, if_neg this]
  rw [Term.cmpT_eq]
  simp only [orI, hs]
  rcases Classical.propComplete (cmpI t.count u.count = 0) with k1 | k1
  rotate_left
  · simp only [k1, if_false]
    (rw [r_r24_Compare (Nat.le_of_ble_eq_true rfl), F_r24_Compare]; simp (disch := omega) only [eqs, eqL, ↓gc_len, seval, -List.reduceReplicate, reduceCtorEq, omap, depth, pcall, pureR, freezeFor, freezeAll, tupR, resV, purR, enterTm, number, gcOk, rangeEnd, mkTup, allP, eqM, q_r10_Count, h1, h2, q_r24_order, s_r24_order, k1])
  rcases Classical.propComplete (cmpI t.op u.op = 0) with k2 | k2
  rotate_left
  · simp only [k1, k2, if_true, if_false]
    (rw [r_r24_Compare (Nat.le_of_ble_eq_true rfl), F_r24_Compare]; simp (disch := omega) only [eqs, eqL, ↓gc_len, seval, -List.reduceReplicate, reduceCtorEq, omap, depth, pcall, pureR, freezeFor, freezeAll, tupR, resV, purR, enterTm, number, gcOk, rangeEnd, mkTup, allP, eqM, q_r10_Count, h1, h2, q_r24_order, s_r24_order, k1, k2])
  rcases Classical.propComplete (cmpI t.w u.w = 0) with k3 | k3
  rotate_left
  · simp only [k1, k2, k3, if_true, if_false]
    (rw [r_r24_Compare (Nat.le_of_ble_eq_true rfl), F_r24_Compare]; simp (disch := omega) only [eqs, eqL, ↓gc_len, seval, -List.reduceReplicate, reduceCtorEq, omap, depth, pcall, pureR, freezeFor, freezeAll, tupR, resV, purR, enterTm, number, gcOk, rangeEnd, mkTup, allP, eqM, q_r10_Count, h1, h2, q_r24_order, s_r24_order, k1, k2, k3])
  rcases Classical.propComplete (t.v = u.v) with k4 | k4
  rotate_left
  · rw [cmpI_ne (of_eq_false k4)]
    rcases Classical.propComplete (t.v < u.v) with k5 | k5 <;> simp only [k1, k2, k3, k5, if_true, if_false, Int.reduceNeg, Int.reduceEq] <;>
    (rw [r_r24_Compare (Nat.le_of_ble_eq_true rfl), F_r24_Compare]; simp (disch := omega) only [eqs, eqL, ↓gc_len, seval, -List.reduceReplicate, reduceCtorEq, omap, depth, pcall, pureR, freezeFor, freezeAll, tupR, resV, purR, enterTm, number, gcOk, rangeEnd, mkTup, allP, eqM, q_r10_Count, h1, h2, q_r24_order, s_r24_order, k1, k2, k3, k4, k5])
  have k4' : cmpI t.v u.v = 0 := by rw [of_eq_true k4]; exact cmpI_self
  rcases Classical.propComplete (t.name = u.name) with k6 | k6
  rotate_left
  · cases k7 : slt t.name u.name <;> simp only [k1, k2, k3, k4', k6, if_true, if_false, Bool.false_eq_true, Int.reduceNeg, Int.reduceEq] <;>
    (rw [r_r24_Compare (Nat.le_of_ble_eq_true rfl), F_r24_Compare]; simp (disch := omega) only [eqs, eqL, ↓gc_len, seval, -List.reduceReplicate, reduceCtorEq, omap, depth, pcall, pureR, freezeFor, freezeAll, tupR, resV, purR, enterTm, number, gcOk, rangeEnd, mkTup, allP, eqM, q_r10_Count, h1, h2, q_r24_order, s_r24_order, k1, k2, k3, k4, k6, k7])
  simp only [k1, k2, k3, k4', k6, if_true]
  have hz : (if Term.cmpsT t.args u.args = 0 then 0 else Term.cmpsT t.args u.args) = Term.cmpsT t.args u.args := by split; exact Eq.symm ‹_›; rfl
  rw [hz]
  cases hfe : foldE cmpZ 0 () (t.args.zip u.args) with
  | inr e =>
    rw [hfe] at hl hf
    obtain ⟨⟨e', τ', σ', nt', rd'⟩, j1, j2, j3, j4⟩ := hl
    simp only at j2 j3 j4 hf
    subst j2; subst j4
    rw [hf]
    (rw [r_r24_Compare (Nat.le_of_ble_eq_true rfl), F_r24_Compare]; simp (disch := omega) only [eqs, eqL, ↓gc_len, seval, -List.reduceReplicate, reduceCtorEq, omap, depth, pcall, pureR, freezeFor, freezeAll, tupR, resV, purR, enterTm, number, gcOk, rangeEnd, mkTup, allP, eqM, q_r10_Count, h1, h2, q_r24_order, s_r24_order, k1, k2, k3, k4, k6, k0_r24_Compare, j1, j3])
  | inl s =>
    rw [hfe] at hl hf
    simp only at hf
    have hl' : loopAt P L0_r24_Compare (e_cmpR t u 0) [] 84 none = _ := hl
    rw [hf]
    unfold finC at hl'
    split at hl' <;>
    (rw [r_r24_Compare (Nat.le_of_ble_eq_true rfl), F_r24_Compare]; simp (disch := omega) only [eqs, eqL, ↓gc_len, seval, -List.reduceReplicate, reduceCtorEq, omap, depth, pcall, pureR, freezeFor, freezeAll, tupR, resV, purR, enterTm, number, gcOk, rangeEnd, mkTup, allP, eqM, q_r10_Count, h1, h2, q_r24_order, s_r24_order, k1, k2, k3, k4, k6, k0_r24_Compare, hl', List.length_map])
end Go.AE.S
/- Variables and Least: the law. --M-- -/
namespace Go.AE.S
open Go Go.AE
set_option linter.unusedSimpArgs false
set_option linter.unusedVariables false
variable {τ : Tm} {σ : Store} {rd : Option Nat}
theorem tok_var (t : Term) : TOk t → TOk t.varX := by
  induction t using Term.ind with
  | h t ih =>
  intro ht
  by_cases h1 : t.op = 26 ∧ t.args.length = 1
  · obtain ⟨ho, hl⟩ := h1
    obtain ⟨a, ha⟩ := List.length_eq_one_iff.1 hl
    rw [Term.var_eval t a ho ha]
    exact ih a (by rw [ha]; simp) (ht.args (by rw [ha]; simp))
  · rw [Term.var_node t h1]
    refine .mk _ ?_ ht.w ht.v ht.name (by show (t.args.map Term.varX).length ≤ _; rw [List.length_map]; exact ht.len) (fun b hb => ?_)
    · have := ht.op
      show -9223372036854775808 ≤ Term.varOp t.op ∧ Term.varOp t.op ≤ 9223372036854775807
      unfold Term.varOp
      split
      · omega
      · exact this
    · obtain ⟨a, ha, rfl⟩ := List.mem_map.1 hb
      exact ih a ha (ht.args ha)
set_option maxHeartbeats 4000000 in
theorem p_PatternVariables (p q : Term) (hp : TOk p) (hq : TOk q) : R P f_law24_PatternVariables [.agg p.row, .agg q.row] = some (.bool true) := by
  have hsp := s_r10_Small p hp 60 (by omega) (by omega)
  have hsq := s_r10_Small q hq 60 (by omega) (by omega)
  have hl := s_lives
  by_cases h1 : (p.count : Int) ≤ 60
  rotate_left
  · (rw [r_law24_PatternVariables (Nat.le_of_ble_eq_true rfl), F_law24_PatternVariables]; simp (disch := omega) only [eqs, eqL, ↓gc_len, seval, -List.reduceReplicate, reduceCtorEq, omap, depth, pcall, pureR, freezeFor, freezeAll, tupR, resV, purR, enterTm, number, gcOk, rangeEnd, mkTup, allP, eqM, q_r10_Small, hsp, hsq, h1, q_law24_lives, hl])
  by_cases h2 : (q.count : Int) ≤ 60
  rotate_left
  · (rw [r_law24_PatternVariables (Nat.le_of_ble_eq_true rfl), F_law24_PatternVariables]; simp (disch := omega) only [eqs, eqL, ↓gc_len, seval, -List.reduceReplicate, reduceCtorEq, omap, depth, pcall, pureR, freezeFor, freezeAll, tupR, resV, purR, enterTm, number, gcOk, rangeEnd, mkTup, allP, eqM, q_r10_Small, hsp, hsq, h1, h2, q_law24_lives, hl])
  have a1 := s_pattern_Variables p hp (by omega)
  have a2 := s_r24_Variables p hp (by omega)
  have hx := s_r10_Same p.varX (tok_var p hp) p.varX (tok_var p hp)
  rw [beq_self] at hx
  have b1 := s_pattern_Least p q (by omega) (by omega)
  have b2 := s_r24_Compare p q (by omega) (by omega)
  (rw [r_law24_PatternVariables (Nat.le_of_ble_eq_true rfl), F_law24_PatternVariables]; simp (disch := omega) only [eqs, eqL, ↓gc_len, seval, -List.reduceReplicate, reduceCtorEq, omap, depth, pcall, pureR, freezeFor, freezeAll, tupR, resV, purR, enterTm, number, gcOk, rangeEnd, mkTup, allP, eqM, q_r10_Small, hsp, hsq, h1, h2, q_law24_lives, hl, q_pattern_Variables, q_r24_Variables, a1, a2, q_r10_Same, hx, q_pattern_Least, b1, q_r24_Compare, b2, beq_self_eq_true])
end Go.AE.S
