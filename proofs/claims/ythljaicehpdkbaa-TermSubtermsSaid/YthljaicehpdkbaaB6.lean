/- A pattern with variables in place of holes and nums, without evals. --M-- -/
import Derived.Test.YthljaicehpdkbaaB5
namespace Go.AE
namespace Term
/-- The operator of a node: a variable's for a hole or a num. -/
def varOp (o : Int) : Int := if o = 24 ∨ o = 25 then 1 else o
mutual
def varX : Term → Term
  | .mk o w v s [] => .mk (varOp o) w v s []
  | .mk o w v s [a] => if o = 26 then varX a else .mk (varOp o) w v s [varX a]
  | .mk o w v s (a :: b :: as) => .mk (varOp o) w v s (varX a :: varX b :: varsX as)
def varsX : List Term → List Term
  | [] => []
  | a :: as => varX a :: varsX as
end
theorem varsX_map : ∀ l : List Term, varsX l = l.map varX
  | [] => rfl
  | a :: l => by rw [varsX, varsX_map l]; rfl
theorem var_eval (t : Term) (a : Term) (ho : t.op = 26) (ha : t.args = [a]) : t.varX = a.varX := by
  cases t with | mk o w v s as => simp only [Term.op, Term.args] at ho ha; subst ho; subst ha; rw [varX]; rfl
theorem var_node (t : Term) (h : ¬ (t.op = 26 ∧ t.args.length = 1)) : t.varX = .mk (varOp t.op) t.w t.v t.name (t.args.map varX) := by
  cases t with
  | mk o w v s as =>
    simp only [Term.op, Term.args] at h
    match as, h with
    | [], _ => rw [varX]; rfl
    | [a], h =>
      have ho : ¬ o = 26 := fun e => h ⟨e, rfl⟩
      rw [varX, if_neg ho]; rfl
    | a :: b :: as, _ => rw [varX, varsX_map]; rfl
end Term
end Go.AE
/- Variables, by the program. --M-- -/
namespace Go.AE.S
open Go Go.AE
set_option linter.unusedSimpArgs false
set_option linter.unusedVariables false
variable {τ : Tm} {σ : Store} {rd : Option Nat}
abbrev sW (t : Term) (s : List Term) : Store := [.pv 0 [] false, .av 5 [z5 0] false, .pv (esOf 5 s) (s.map Term.row) false, .av 5 [[.p (.int .i64 (Term.varOp t.op)), .p (.int .i64 t.w), .p (.int .u64 t.v), .p (.str t.name), .sl 2 s.length]] false]
abbrev e_var (t : Term) (i : Int) : List (Nat × AV) := [(2, .ptr 1 1 0 0), (3, .ptr 3 1 0 0), (34, .p (.lst (t.args.map Term.row))), (35, .p (.int .i64 t.args.length)), (36, .p (.int .i64 i))]
theorem foldl_snoc {α β : Type} (g : α → β) : ∀ (l : List α) (s : List β), l.foldl (fun s a => s ++ [g a]) s = s ++ l.map g
  | [], s => by simp
  | a :: l, s => by rw [List.foldl_cons, foldl_snoc g l]; simp
end Go.AE.S
/- Variables, by the reference. --M-- -/
namespace Go.AE.S
open Go Go.AE
set_option linter.unusedSimpArgs false
set_option linter.unusedVariables false
variable {τ : Tm} {σ : Store} {rd : Option Nat}
abbrev e_varR (t : Term) (i : Int) : List (Nat × AV) := [(1, .p (.ptr t.row 0)), (2, .ptr 1 1 0 0), (3, .ptr 2 1 0 0), (4, .p (.int .i64 i))]
end Go.AE.S
/- Orders of numbers. --M-- -/
namespace Go.AE.S
open Go Go.AE
set_option linter.unusedSimpArgs false
set_option linter.unusedVariables false
variable {τ : Tm} {σ : Store} {rd : Option Nat}
def cmpI (a b : Int) : Int := if a < b then -1 else if b < a then 1 else 0
theorem s_isNaN_int (a : Int) : R P f_cmp_isNaN_int [.int .i64 a] = some (.bool false) := by
  (rw [r_cmp_isNaN_int (Nat.le_of_ble_eq_true rfl), F_cmp_isNaN_int]; simp (disch := omega) only [eqs, eqL, ↓gc_len, seval, -List.reduceReplicate, reduceCtorEq, omap, depth, pcall, pureR, freezeFor, freezeAll, tupR, resV, purR, enterTm, number, gcOk, rangeEnd, mkTup, allP, eqM, eq_self, not_true])
theorem s_isNaN_op (a : Int) : R P f_cmp_isNaN_api_Op [.int .i64 a] = some (.bool false) := by
  (rw [r_cmp_isNaN_api_Op (Nat.le_of_ble_eq_true rfl), F_cmp_isNaN_api_Op]; simp (disch := omega) only [eqs, eqL, ↓gc_len, seval, -List.reduceReplicate, reduceCtorEq, omap, depth, pcall, pureR, freezeFor, freezeAll, tupR, resV, purR, enterTm, number, gcOk, rangeEnd, mkTup, allP, eqM, eq_self, not_true])
theorem s_isNaN_u (a : Int) : R P f_cmp_isNaN_uint64 [.int .u64 a] = some (.bool false) := by
  (rw [r_cmp_isNaN_uint64 (Nat.le_of_ble_eq_true rfl), F_cmp_isNaN_uint64]; simp (disch := omega) only [eqs, eqL, ↓gc_len, seval, -List.reduceReplicate, reduceCtorEq, omap, depth, pcall, pureR, freezeFor, freezeAll, tupR, resV, purR, enterTm, number, gcOk, rangeEnd, mkTup, allP, eqM, eq_self, not_true])
theorem s_cmp_int (a b : Int) : R P f_cmp_Compare_int [.int .i64 a, .int .i64 b] = some (.int .i64 (cmpI a b)) := by
  unfold cmpI
  rcases Classical.propComplete (a < b) with h1 | h1 <;> rcases Classical.propComplete (b < a) with h2 | h2 <;> (rw [r_cmp_Compare_int (Nat.le_of_ble_eq_true rfl), F_cmp_Compare_int]; simp (disch := omega) only [eqs, eqL, ↓gc_len, seval, -List.reduceReplicate, reduceCtorEq, omap, depth, pcall, pureR, freezeFor, freezeAll, tupR, resV, purR, enterTm, number, gcOk, rangeEnd, mkTup, allP, eqM, h1, h2, gt_iff_lt, q_cmp_isNaN_int, s_isNaN_int])
theorem s_cmp_op (a b : Int) : R P f_cmp_Compare_api_Op [.int .i64 a, .int .i64 b] = some (.int .i64 (cmpI a b)) := by
  unfold cmpI
  rcases Classical.propComplete (a < b) with h1 | h1 <;> rcases Classical.propComplete (b < a) with h2 | h2 <;> (rw [r_cmp_Compare_api_Op (Nat.le_of_ble_eq_true rfl), F_cmp_Compare_api_Op]; simp (disch := omega) only [eqs, eqL, ↓gc_len, seval, -List.reduceReplicate, reduceCtorEq, omap, depth, pcall, pureR, freezeFor, freezeAll, tupR, resV, purR, enterTm, number, gcOk, rangeEnd, mkTup, allP, eqM, h1, h2, gt_iff_lt, q_cmp_isNaN_api_Op, s_isNaN_op])
theorem s_cmp_u (a b : Int) : R P f_cmp_Compare_uint64 [.int .u64 a, .int .u64 b] = some (.int .i64 (cmpI a b)) := by
  unfold cmpI
  rcases Classical.propComplete (a < b) with h1 | h1 <;> rcases Classical.propComplete (b < a) with h2 | h2 <;> (rw [r_cmp_Compare_uint64 (Nat.le_of_ble_eq_true rfl), F_cmp_Compare_uint64]; simp (disch := omega) only [eqs, eqL, ↓gc_len, seval, -List.reduceReplicate, reduceCtorEq, omap, depth, pcall, pureR, freezeFor, freezeAll, tupR, resV, purR, enterTm, number, gcOk, rangeEnd, mkTup, allP, eqM, h1, h2, gt_iff_lt, q_cmp_isNaN_uint64, s_isNaN_u])
end Go.AE.S
/- The first number that is not zero. --M-- -/
namespace Go.AE.S
open Go Go.AE
set_option linter.unusedSimpArgs false
set_option linter.unusedVariables false
variable {τ : Tm} {σ : Store} {rd : Option Nat}
def orI : List Int → Int
  | [] => 0
  | a :: l => if a = 0 then orI l else a
theorem fold_or : ∀ (l : List Int) (i : Nat), match foldE (S := Unit) (T := Int) (fun _ _ a => if a = 0 then .inl () else .inr a) i () l with
    | .inl _ => orI l = 0
    | .inr e => orI l = e
  | [], i => rfl
  | a :: l, i => by
    by_cases h : a = 0
    · simp only [foldE, orI, h, if_true]
      exact fold_or l (i + 1)
    · simp only [foldE, orI, h, if_false]
abbrev e_or (l : List Int) (i : Int) : List (Nat × AV) := [(3, .p (.int .i64 0)), (6, .p (.lst (l.map irow))), (7, .p (.int .i64 l.length)), (8, .p (.int .i64 i))]
theorem s_cmp_Or (l : List Int) (hl : l.length ≤ 1000000) : R P f_cmp_Or_int [.lst (l.map irow)] = some (.int .i64 (orI l)) := by
  have h := loop_foldE (P := P) (nt := 18) (rd := none) (lv := [3, 6, 7, 8]) (b := B0_cmp_Or_int) (x := 0) (as := l) (fun i (_ : Unit) => e_or l i) (fun _ => []) (fun _ _ a => if a = 0 then .inl () else .inr a)
    (fun s => ⟨upd (tm (e_or l l.length)) 9 (.p (.bool false)), [], 18, none⟩) (fun e => ret1 2 (.int .i64 e) []) (fun _ _ => True)
    (fun i a s ha hi hs => by
      refine ⟨fun _ _ => trivial, ?_⟩
      have hlt : ((i : Int) < l.length) = True := by simpa using hi
      have hui := fun σ => v_iadr (k := .i64) (es := 1) (σ := σ) (map_get (f := irow) ha) rfl
      simp only [irow] at hui
      rcases Classical.propComplete (a = 0) with h1 | h1 <;> simp only [B0_cmp_Or_int] <;> simp (disch := omega) only [eqs, eqL, ↓gc_len, seval, -List.reduceReplicate, reduceCtorEq, omap, depth, pcall, pureR, freezeFor, freezeAll, tupR, resV, purR, enterTm, number, gcOk, rangeEnd, mkTup, allP, eqM, hlt, hui, h1, ret1]) (fun s hs => by
      simp only [B0_cmp_Or_int]
      simp (disch := omega) only [eqs, eqL, ↓gc_len, seval, -List.reduceReplicate, reduceCtorEq, omap, depth, pcall, pureR, freezeFor, freezeAll, tupR, resV, purR, enterTm, number, gcOk, rangeEnd, mkTup, allP, eqM, Int.lt_irrefl]) (fun i s => rfl) () trivial
  have hf := fold_or l 0
  cases hfe : foldE (S := Unit) (T := Int) (fun _ _ a => if a = 0 then .inl () else .inr a) 0 () l with
  | inr e =>
    rw [hfe] at h hf
    obtain ⟨⟨e', τ', σ', nt', rd'⟩, k1, k2, k3, k4⟩ := h
    simp only at k2 k3 k4 hf
    subst k2; subst k4
    have h' : loopAt P L0_cmp_Or_int (e_or l 0) [] 18 none = some (.ret, ⟨τ', [], nt', rd'⟩) := k1
    rw [hf]
    (rw [r_cmp_Or_int (Nat.le_of_ble_eq_true rfl), F_cmp_Or_int]; simp (disch := omega) only [eqs, eqL, ↓gc_len, seval, -List.reduceReplicate, reduceCtorEq, omap, depth, pcall, pureR, freezeFor, freezeAll, tupR, resV, purR, enterTm, number, gcOk, rangeEnd, mkTup, allP, eqM, List.length_map, k0_cmp_Or_int, h', k3])
  | inl s =>
    rw [hfe] at h hf
    simp only at hf
    have h' : loopAt P L0_cmp_Or_int (e_or l 0) [] 18 none = _ := h
    rw [hf]
    (rw [r_cmp_Or_int (Nat.le_of_ble_eq_true rfl), F_cmp_Or_int]; simp (disch := omega) only [eqs, eqL, ↓gc_len, seval, -List.reduceReplicate, reduceCtorEq, omap, depth, pcall, pureR, freezeFor, freezeAll, tupR, resV, purR, enterTm, number, gcOk, rangeEnd, mkTup, allP, eqM, List.length_map, k0_cmp_Or_int, h'])
end Go.AE.S
/- The order of terms. --M-- -/
namespace Go.AE
namespace Term
mutual
def cmpT : Term → Term → Int
  | .mk o w v s as, u =>
    S.orI [S.cmpI (Term.mk o w v s as).count u.count, S.cmpI o u.op, S.cmpI w u.w, S.cmpI v u.v, cmpStr s u.name, cmpsT as u.args]
def cmpsT : List Term → List Term → Int
  | [], [] => 0
  | [], _ :: _ => -1
  | _ :: _, [] => 1
  | a :: as, b :: bs => if cmpT a b = 0 then cmpsT as bs else cmpT a b
end
theorem cmpT_eq (t u : Term) : t.cmpT u = S.orI [S.cmpI t.count u.count, S.cmpI t.op u.op, S.cmpI t.w u.w, S.cmpI t.v u.v, cmpStr t.name u.name, cmpsT t.args u.args] := by
  cases t with | mk o w v s as => rw [cmpT]; rfl
end Term
end Go.AE
/- slices.CompareFunc at terms. --M-- -/
namespace Go.AE.S
open Go Go.AE
set_option linter.unusedSimpArgs false
set_option linter.unusedVariables false
variable {τ : Tm} {σ : Store} {rd : Option Nat}
def cmpF (bs : List Term) (i : Nat) (_ : Unit) (a : Term) : Unit ⊕ Int :=
  match bs[i]? with
  | none => .inr 1
  | some b => if a.cmpT b = 0 then .inl () else .inr (a.cmpT b)
theorem fold_cmps (bs : List Term) : ∀ (as : List Term) (i : Nat), match foldE (cmpF bs) i () as with
    | .inl _ => Term.cmpsT as (bs.drop i) = if as.length + i < bs.length then -1 else 0
    | .inr e => Term.cmpsT as (bs.drop i) = e
  | [], i => by
    simp only [foldE, List.length_nil, Nat.zero_add]
    by_cases h : i < bs.length
    · rw [if_pos h, List.drop_eq_getElem_cons h, Term.cmpsT]
    · rw [if_neg h, List.drop_of_length_le (by omega), Term.cmpsT]
  | a :: as, i => by
    by_cases h : i < bs.length
    · have hb : bs[i]? = some bs[i] := List.getElem?_eq_getElem h
      rw [List.drop_eq_getElem_cons h, Term.cmpsT]
      by_cases h0 : a.cmpT bs[i] = 0
      · have hs : cmpF bs i () a = .inl () := by unfold cmpF; rw [hb]; simp only; rw [if_pos h0]
        simp only [foldE, hs, if_pos h0]
        have := fold_cmps bs as (i + 1)
        rw [List.length_cons, show as.length + 1 + i = as.length + (i + 1) by omega]
        exact this
      · have hs : cmpF bs i () a = .inr (a.cmpT bs[i]) := by unfold cmpF; rw [hb]; simp only; rw [if_neg h0]
        simp only [foldE, hs, if_neg h0]
    · have hb : bs[i]? = none := List.getElem?_eq_none (by omega)
      have hs : cmpF bs i () a = .inr 1 := by unfold cmpF; rw [hb]
      simp only [foldE, hs]
      rw [List.drop_of_length_le (by omega), Term.cmpsT]
abbrev e_cf (as bs : List Term) (i : Int) : List (Nat × AV) := [(0, .p (.lst (as.map Term.row))), (1, .p (.lst (bs.map Term.row))), (2, .p (.fn f_term_Compare [])), (11, .p (.lst (as.map Term.row))), (12, .p (.int .i64 as.length)), (13, .p (.int .i64 i))]
def retC6 (e : Int) (r : Ex × St) : Prop := r.1 = .ret ∧ r.2.τ.get 6 = .p (.int .i64 e)
set_option maxHeartbeats 4000000 in
theorem l_CompareFunc (as bs : List Term) (hla : as.length ≤ 1000000) (hlb : bs.length ≤ 1000000) (ih : ∀ a ∈ as, ∀ b ∈ bs, R P f_term_Compare [.agg a.row, .agg b.row] = some (.int .i64 (a.cmpT b))) :
    doneP (fun _ => loopAt P L0_slices_CompareFunc_api_Term_api_Term_api_Term_api_Term (e_cf as bs 0) [] 39 none = some (.exit 0, ⟨upd (tm (e_cf as bs as.length)) 14 (.p (.bool false)), [], 39, none⟩))
      (fun e => ∃ r, loopAt P L0_slices_CompareFunc_api_Term_api_Term_api_Term_api_Term (e_cf as bs 0) [] 39 none = some r ∧ retC6 e r) (foldE (cmpF bs) 0 () as) := by
  have h := loop_foldE (P := P) (nt := 39) (rd := none) (lv := [0, 1, 2, 11, 12, 13]) (b := B0_slices_CompareFunc_api_Term_api_Term_api_Term_api_Term) (x := 0) (as := as) (fun i (_ : Unit) => e_cf as bs i) (fun _ => []) (cmpF bs)
    (fun s => ⟨upd (tm (e_cf as bs as.length)) 14 (.p (.bool false)), [], 39, none⟩) retC6 (fun _ _ => True)
    (fun i a s ha hi hs => by
      refine ⟨fun _ _ => trivial, ?_⟩
      have hlt : ((i : Int) < as.length) = True := by simpa using hi
      have hma := List.mem_of_getElem? ha
      have hui := fun σ => v_iadr (k := .i64) (es := 5) (σ := σ) (map_get (f := Term.row) ha) a.row_len
      unfold cmpF
      by_cases hb : i < bs.length
      · have hbe : bs[i]? = some bs[i] := List.getElem?_eq_getElem hb
        have hge : ((bs.length : Int) ≤ i) = False := by simp; omega
        have hub := fun σ => v_iadr (k := .i64) (es := 5) (σ := σ) (map_get (f := Term.row) hbe) bs[i].row_len
        have hr := ih a hma bs[i] (List.getElem_mem hb)
        rw [hbe]
        rcases Classical.propComplete (a.cmpT bs[i] = 0) with h0 | h0 <;> simp only [B0_slices_CompareFunc_api_Term_api_Term_api_Term_api_Term, h0] <;> simp (disch := omega) only [eqs, eqL, ↓gc_len, seval, -List.reduceReplicate, reduceCtorEq, omap, depth, pcall, pureR, freezeFor, freezeAll, tupR, resV, purR, enterTm, number, gcOk, rangeEnd, mkTup, allP, eqM, hlt, hui, hub, hge, List.length_map, ge_iff_le, q_term_Compare, hr, h0, retC6] <;> simp [gc, gcOk, below_p]
      · have hbe : bs[i]? = none := List.getElem?_eq_none (by omega)
        have hge : ((bs.length : Int) ≤ i) = True := by simp; omega
        rw [hbe]
        simp only [B0_slices_CompareFunc_api_Term_api_Term_api_Term_api_Term]
        simp (disch := omega) only [eqs, eqL, ↓gc_len, seval, -List.reduceReplicate, reduceCtorEq, omap, depth, pcall, pureR, freezeFor, freezeAll, tupR, resV, purR, enterTm, number, gcOk, rangeEnd, mkTup, allP, eqM, hlt, hui, hge, List.length_map, ge_iff_le, retC6]) (fun s hs => by
      simp only [B0_slices_CompareFunc_api_Term_api_Term_api_Term_api_Term]
      simp (disch := omega) only [eqs, eqL, ↓gc_len, seval, -List.reduceReplicate, reduceCtorEq, omap, depth, pcall, pureR, freezeFor, freezeAll, tupR, resV, purR, enterTm, number, gcOk, rangeEnd, mkTup, allP, eqM, Int.lt_irrefl]) (fun i s => rfl) () trivial
  exact h
set_option maxHeartbeats 4000000 in
theorem s_CompareFunc (as bs : List Term) (hla : as.length ≤ 1000000) (hlb : bs.length ≤ 1000000) (ih : ∀ a ∈ as, ∀ b ∈ bs, R P f_term_Compare [.agg a.row, .agg b.row] = some (.int .i64 (a.cmpT b))) :
    R P f_slices_CompareFunc_api_Term_api_Term_api_Term_api_Term [.lst (as.map Term.row), .lst (bs.map Term.row), .fn f_term_Compare []] = some (.int .i64 (Term.cmpsT as bs)) := by
  have h := l_CompareFunc as bs hla hlb ih
  have hf := fold_cmps bs as 0
  rw [List.drop_zero, Nat.add_zero] at hf
  cases hfe : foldE (cmpF bs) 0 () as with
  | inr e =>
    rw [hfe] at h hf
    obtain ⟨⟨e', τ', σ', nt', rd'⟩, k1, k2, k3⟩ := h
    simp only at k2 k3 hf
    subst k2
    rw [hf]
    (rw [r_slices_CompareFunc_api_Term_api_Term_api_Term_api_Term (Nat.le_of_ble_eq_true rfl), F_slices_CompareFunc_api_Term_api_Term_api_Term_api_Term]; simp (disch := omega) only [eqs, eqL, ↓gc_len, seval, -List.reduceReplicate, reduceCtorEq, omap, depth, pcall, pureR, freezeFor, freezeAll, tupR, resV, purR, enterTm, number, gcOk, rangeEnd, mkTup, allP, eqM, List.length_map, k0_slices_CompareFunc_api_Term_api_Term_api_Term_api_Term, k1, k3])
  | inl s =>
    rw [hfe] at h hf
    simp only at hf
    have h' : loopAt P L0_slices_CompareFunc_api_Term_api_Term_api_Term_api_Term (e_cf as bs 0) [] 39 none = _ := h
    rw [hf]
    rcases Classical.propComplete ((as.length : Int) < bs.length) with h0 | h0
    · have h1 : as.length < bs.length := by have := of_eq_true h0; omega
      rw [if_pos h1]
      (rw [r_slices_CompareFunc_api_Term_api_Term_api_Term_api_Term (Nat.le_of_ble_eq_true rfl), F_slices_CompareFunc_api_Term_api_Term_api_Term_api_Term]; simp (disch := omega) only [eqs, eqL, ↓gc_len, seval, -List.reduceReplicate, reduceCtorEq, omap, depth, pcall, pureR, freezeFor, freezeAll, tupR, resV, purR, enterTm, number, gcOk, rangeEnd, mkTup, allP, eqM, List.length_map, k0_slices_CompareFunc_api_Term_api_Term_api_Term_api_Term, h', h0])
    · have h1 : ¬ as.length < bs.length := by have := of_eq_false h0; omega
      rw [if_neg h1]
      (rw [r_slices_CompareFunc_api_Term_api_Term_api_Term_api_Term (Nat.le_of_ble_eq_true rfl), F_slices_CompareFunc_api_Term_api_Term_api_Term_api_Term]; simp (disch := omega) only [eqs, eqL, ↓gc_len, seval, -List.reduceReplicate, reduceCtorEq, omap, depth, pcall, pureR, freezeFor, freezeAll, tupR, resV, purR, enterTm, number, gcOk, rangeEnd, mkTup, allP, eqM, List.length_map, k0_slices_CompareFunc_api_Term_api_Term_api_Term_api_Term, h', h0])
end Go.AE.S
/- The order of terms, by the program. --M-- -/
namespace Go.AE.S
open Go Go.AE
set_option linter.unusedSimpArgs false
set_option linter.unusedVariables false
variable {τ : Tm} {σ : Store} {rd : Option Nat}
theorem s_Or4 (a b c d : Int) : R P f_cmp_Or_int [.lst [[.int .i64 a], [.int .i64 b], [.int .i64 c], [.int .i64 d]]] = some (.int .i64 (orI [a, b, c, d])) := s_cmp_Or [a, b, c, d] (by simp)
set_option maxHeartbeats 4000000 in
theorem s_term_Compare (t : Term) : ∀ u : Term, t.count ≤ 1000000 → u.count ≤ 1000000 → R P f_term_Compare [.agg t.row, .agg u.row] = some (.int .i64 (t.cmpT u)) := by
  induction t using Term.ind with
  | h t ih =>
  intro u hc hu
  have hlen := Term.counts_len t.args
  have hct := Term.count_eq t
  have hlu := Term.counts_len u.args
  have hcu := Term.count_eq u
  have hr := s_CompareFunc t.args u.args (by omega) (by omega) (fun a ha b hb => ih a ha b (by have := Term.counts_mem ha; omega) (by have := Term.counts_mem hb; omega))
  have h1 := s_term_Size t hc
  have h2 := s_term_Size u hu
  rw [Term.cmpT_eq]
  have ho : orI [cmpI t.count u.count, cmpI t.op u.op, cmpI t.w u.w, cmpI t.v u.v, cmpStr t.name u.name, Term.cmpsT t.args u.args] = if cmpI t.count u.count = 0 then (if orI [cmpI t.op u.op, cmpI t.w u.w, cmpI t.v u.v, cmpStr t.name u.name] = 0 then Term.cmpsT t.args u.args else orI [cmpI t.op u.op, cmpI t.w u.w, cmpI t.v u.v, cmpStr t.name u.name]) else cmpI t.count u.count := by
    simp only [orI]
    repeat' split
    all_goals simp_all
  rw [ho]
  rcases Classical.propComplete (cmpI t.count u.count = 0) with k1 | k1 <;> rcases Classical.propComplete (orI [cmpI t.op u.op, cmpI t.w u.w, cmpI t.v u.v, cmpStr t.name u.name] = 0) with k2 | k2 <;> simp only [k1, k2, if_true, if_false] <;>
  (rw [r_term_Compare (Nat.le_of_ble_eq_true rfl), F_term_Compare]; simp (disch := omega) only [eqs, eqL, ↓gc_len, seval, -List.reduceReplicate, reduceCtorEq, omap, depth, pcall, pureR, freezeFor, freezeAll, tupR, resV, purR, enterTm, number, gcOk, rangeEnd, mkTup, allP, eqM, q_term_Size, h1, h2, q_cmp_Compare_int, s_cmp_int, q_cmp_Compare_api_Op, s_cmp_op, q_cmp_Compare_uint64, s_cmp_u, q_strings_Compare, s_strings_Compare, q_cmp_Or_int, s_Or4, k1, k2, q_slices_CompareFunc_api_Term_api_Term_api_Term_api_Term, hr])
end Go.AE.S
/- The order of terms, by the reference. --M-- -/
namespace Go.AE.S
open Go Go.AE
set_option linter.unusedSimpArgs false
set_option linter.unusedVariables false
variable {τ : Tm} {σ : Store} {rd : Option Nat}
def cmpZ (_ : Nat) (_ : Unit) (x : Term × Term) : Unit ⊕ Int := if x.1.cmpT x.2 = 0 then .inl () else .inr (x.1.cmpT x.2)
theorem fold_cmpz : ∀ (as bs : List Term) (i : Nat), match foldE cmpZ i () (as.zip bs) with
    | .inl _ => Term.cmpsT as bs = cmpI as.length bs.length
    | .inr e => Term.cmpsT as bs = e
  | [], [], i => rfl
  | [], b :: bs, i => by
    simp only [List.zip_nil_left, foldE, Term.cmpsT, cmpI, List.length_nil, List.length_cons]
    rw [if_pos (by omega)]
  | a :: as, [], i => by
    simp only [List.zip_nil_right, foldE, Term.cmpsT, cmpI, List.length_nil, List.length_cons]
    rw [if_neg (by omega), if_pos (by omega)]
  | a :: as, b :: bs, i => by
    by_cases h0 : a.cmpT b = 0
    · have hs : cmpZ i () (a, b) = .inl () := by unfold cmpZ; rw [if_pos h0]
      simp only [List.zip_cons_cons, foldE, hs, Term.cmpsT, if_pos h0]
      have := fold_cmpz as bs (i + 1)
      have e : cmpI (a :: as).length (b :: bs).length = cmpI as.length bs.length := by
        simp only [cmpI, List.length_cons]
        repeat' split
        all_goals omega
      rw [e]
      exact this
    · have hs : cmpZ i () (a, b) = .inr (a.cmpT b) := by unfold cmpZ; rw [if_neg h0]
      simp only [List.zip_cons_cons, foldE, hs, Term.cmpsT, if_neg h0]
end Go.AE.S
/- The order of terms, by the reference: the loop. --M-- -/
namespace Go.AE.S
open Go Go.AE
set_option linter.unusedSimpArgs false
set_option linter.unusedVariables false
variable {τ : Tm} {σ : Store} {rd : Option Nat}
abbrev e_cmpR (t u : Term) (i : Int) : List (Nat × AV) := [(2, .p (.ptr t.row 0)), (3, .p (.ptr u.row 0)), (6, .p (.int .i64 i))]
def retC4 (e : Int) (r : Ex × St) : Prop := r.1 = .ret ∧ r.2.τ.get 4 = .p (.int .i64 e) ∧ r.2.σ = []
abbrev finA (t u : Term) (i : Int) : Tm := upd (upd (upd (upd (upd (upd (upd (upd (upd (upd (upd (upd (tm (e_cmpR t u i)) 49 (.p (.int .i64 i))) 50 (.p (.ptr t.row 4))) 51 (.p (.lst (t.args.map Term.row)))) 52 (.p (.int .i64 t.args.length))) 53 (.p (.bool false))) 54 (.p (.bool false))) 55 (.p (.tup []))) 56 (.p (.tup []))) 57 (.p (.tup []))) 58 (.p (.tup []))) 59 (.p (.tup []))) 60 (.p (.bool false))
abbrev finB (t u : Term) (i : Int) : Tm := upd (upd (upd (upd (upd (upd (upd (upd (upd (upd (upd (upd (tm (e_cmpR t u i)) 49 (.p (.int .i64 i))) 50 (.p (.ptr t.row 4))) 51 (.p (.lst (t.args.map Term.row)))) 52 (.p (.int .i64 t.args.length))) 53 (.p (.bool true))) 54 (.p (.bool true))) 55 (.p (.int .i64 i))) 56 (.p (.ptr u.row 4))) 57 (.p (.lst (u.args.map Term.row)))) 58 (.p (.int .i64 u.args.length))) 59 (.p (.bool false))) 60 (.p (.bool false))
noncomputable def finC (t u : Term) : Tm := if t.args.length ≤ u.args.length then finA t u t.args.length else finB t u u.args.length
theorem zip_get {as bs : List Term} {i : Nat} {a b : Term} (h : (as.zip bs)[i]? = some (a, b)) : as[i]? = some a ∧ bs[i]? = some b := by
  rw [List.getElem?_zip_eq_some] at h
  exact h
end Go.AE.S
/- The order of terms, by the reference, whole. --M-- -/
namespace Go.AE.S
open Go Go.AE
set_option linter.unusedSimpArgs false
set_option linter.unusedVariables false
variable {τ : Tm} {σ : Store} {rd : Option Nat}
theorem cmpI_ne {a b : Int} (h : ¬ a = b) : cmpI a b = if a < b then -1 else 1 := by
  unfold cmpI
  by_cases h1 : a < b
  · rw [if_pos h1, if_pos h1]
  · rw [if_neg h1, if_neg h1, if_pos (by omega)]
theorem cmpI_self {a : Int} : cmpI a a = 0 := by unfold cmpI; simp
end Go.AE.S
/- Variables and Least: the law. --M-- -/
namespace Go.AE.S
open Go Go.AE
set_option linter.unusedSimpArgs false
set_option linter.unusedVariables false
variable {τ : Tm} {σ : Store} {rd : Option Nat}
theorem tok_var (t : Term) : TOk t → TOk t.varX := by
  induction t using Term.ind with
  | h t ih =>
  intro ht
  by_cases h1 : t.op = 26 ∧ t.args.length = 1
  · obtain ⟨ho, hl⟩ := h1
    obtain ⟨a, ha⟩ := List.length_eq_one_iff.1 hl
    rw [Term.var_eval t a ho ha]
    exact ih a (by rw [ha]; simp) (ht.args (by rw [ha]; simp))
  · rw [Term.var_node t h1]
    refine .mk _ ?_ ht.w ht.v ht.name (by show (t.args.map Term.varX).length ≤ _; rw [List.length_map]; exact ht.len) (fun b hb => ?_)
    · have := ht.op
      show -9223372036854775808 ≤ Term.varOp t.op ∧ Term.varOp t.op ≤ 9223372036854775807
      unfold Term.varOp
      split
      · omega
      · exact this
    · obtain ⟨a, ha, rfl⟩ := List.mem_map.1 hb
      exact ih a ha (ht.args ha)
end Go.AE.S
/- Patterns' variables are ground: the law. --M-- -/
namespace Go.AE.S
open Go Go.AE
set_option linter.unusedSimpArgs false
set_option linter.unusedVariables false
variable {τ : Tm} {σ : Store} {rd : Option Nat}
theorem mem_pre {u t : Term} : u ∈ t.pre ↔ u = t ∨ ∃ a ∈ t.args, u ∈ a.pre := by
  rw [Term.pre_eq, Term.pres_eq, List.mem_cons, List.mem_flatMap]
theorem mem_post (t : Term) : ∀ u, u ∈ t.post ↔ u ∈ t.pre := by
  induction t using Term.ind with
  | h t ih =>
  intro u
  rw [mem_pre, Term.post_eq, Term.posts_eq, List.mem_append, List.mem_flatMap]
  constructor
  · rintro (⟨a, ha, h⟩ | h)
    · exact .inr ⟨a, ha, (ih a ha u).1 h⟩
    · simp at h; exact .inl h
  · rintro (h | ⟨a, ha, h⟩)
    · right; simp [h]
    · exact .inl ⟨a, ha, (ih a ha u).2 h⟩
theorem first_zero (ev : Bool) : ∀ l : List Term, firstE ev l = 0 ↔ ∀ u ∈ l, nodeE u ev = 0
  | [] => by simp [firstE]
  | a :: l => by
    simp only [firstE, List.forall_mem_cons]
    by_cases h : nodeE a ev = 0
    · simp only [h, if_true, true_and]; exact first_zero ev l
    · simp [h]
theorem check_nodes {p : Term} {ev : Bool} (h : checkE p ev = 0) : ∀ u ∈ p.pre, nodeE u ev = 0 := by
  unfold checkE at h
  split at h
  · cases h
  · split at h
    · rename_i h1; exact absurd h h1
    · rename_i h1
      intro u hu
      exact (first_zero ev p.post).1 (by simpa using h1) u ((mem_post p u).2 hu)
theorem node_arity {u : Term} {ev : Bool} (h : nodeE u ev = 0) : (u.args.length : Int) = arity u.op := by
  unfold nodeE at h
  split at h
  · cases h
  · rename_i h1
    simp only [not_or] at h1
    exact Classical.not_not.1 h1.2.2.2
/-- Evals have one operand. -/
def Ev1 (t : Term) : Prop := ∀ u ∈ t.pre, u.op = 26 → u.args.length = 1
def Grd (t : Term) : Prop := ∀ u ∈ t.pre, ¬ u.op ∈ [24, 25, (26 : Int)]
theorem Ev1.args {t a : Term} (h : Ev1 t) (ha : a ∈ t.args) : Ev1 a := fun u hu => h u (mem_pre.2 (.inr ⟨a, ha, hu⟩))
theorem Grd.args {t a : Term} (h : Grd t) (ha : a ∈ t.args) : Grd a := fun u hu => h u (mem_pre.2 (.inr ⟨a, ha, hu⟩))
theorem self_pre {t : Term} : t ∈ t.pre := mem_pre.2 (.inl rfl)
theorem var_ground (t : Term) : Ev1 t → Grd t.varX := by
  induction t using Term.ind with
  | h t ih =>
  intro he
  by_cases h1 : t.op = 26 ∧ t.args.length = 1
  · obtain ⟨ho, hl⟩ := h1
    obtain ⟨a, ha⟩ := List.length_eq_one_iff.1 hl
    rw [Term.var_eval t a ho ha]
    exact ih a (by rw [ha]; simp) (he.args (by rw [ha]; simp))
  · rw [Term.var_node t h1]
    intro u hu
    rcases mem_pre.1 hu with rfl | ⟨b, hb, hu⟩
    · have h26 : ¬ t.op = 26 := fun e => h1 ⟨e, he t self_pre e⟩
      show ¬ Term.varOp t.op ∈ _
      unfold Term.varOp
      split
      · decide
      · rename_i h2
        simp only [List.mem_cons, List.not_mem_nil, or_false]
        omega
    · obtain ⟨a, ha, rfl⟩ := List.mem_map.1 hb
      exact ih a ha (he.args ha) u hu
theorem var_self (t : Term) : Grd t → t.varX = t := by
  induction t using Term.ind with
  | h t ih =>
  intro hg
  have h0 := hg t self_pre
  simp only [List.mem_cons, List.not_mem_nil, or_false, not_or] at h0
  rw [Term.var_node t (fun h => h0.2.2 h.1)]
  have hm : t.args.map Term.varX = t.args := by
    conv => rhs; rw [← List.map_id t.args]
    exact List.map_congr_left fun a ha => ih a ha (hg.args ha)
  have ho : Term.varOp t.op = t.op := by unfold Term.varOp; rw [if_neg (by omega)]
  rw [hm, ho]
  cases t; rfl
theorem grd_any {t : Term} (h : Grd t) : (t.pre.any fun u => decide (u.op ∈ [24, 25, (26 : Int)])) = false := by
  rw [List.any_eq_false]
  intro u hu
  simpa using h u hu
theorem grd_of {t : Term} (h : (t.pre.any fun u => decide (u.op ∈ [24, 25, (26 : Int)])) = false) : Grd t := by
  intro u hu
  have := (List.any_eq_false.1 h) u hu
  simpa using this
theorem grd_vars {t : Term} (h : Grd t) (op : Int) (ho : op ∈ [24, 25, (26 : Int)]) : varsOf op [t] = [] := by
  unfold varsOf addT
  simp only [List.foldl_cons, List.foldl_nil]
  have : ∀ l : List Term, (∀ u ∈ l, ¬ u.op ∈ [24, 25, (26 : Int)]) → l.foldl (addV op) [] = [] := by
    intro l
    induction l with
    | nil => intro _; rfl
    | cons a l ih =>
      intro hl
      have ha : addV op [] a = [] := by
        unfold addV
        rw [if_neg (fun e => hl a (by simp) (by rw [e]; exact ho))]
      rw [List.foldl_cons, ha]
      exact ih fun u hu => hl u (by simp [hu])
  exact this t.pre h
theorem var_count (t : Term) : t.varX.count ≤ t.count := by
  induction t using Term.ind with
  | h t ih =>
  by_cases h1 : t.op = 26 ∧ t.args.length = 1
  · obtain ⟨ho, hl⟩ := h1
    obtain ⟨a, ha⟩ := List.length_eq_one_iff.1 hl
    rw [Term.var_eval t a ho ha, Term.count_eq t, ha]
    have := ih a (by rw [ha]; simp)
    simp only [Term.counts]
    omega
  · rw [Term.var_node t h1, Term.count_eq t, Term.count_eq]
    have : ∀ l : List Term, (∀ a ∈ l, a.varX.count ≤ a.count) → Term.counts (l.map Term.varX) ≤ Term.counts l := by
      intro l
      induction l with
      | nil => intro _; exact Nat.le_refl _
      | cons a l ih2 =>
        intro hl
        have := hl a (by simp)
        have := ih2 fun b hb => hl b (by simp [hb])
        simp only [List.map_cons, Term.counts]; omega
    have := this t.args ih
    show 1 + Term.counts (t.args.map Term.varX) ≤ _
    omega
theorem cmpStr_self (s : ByteArray) : cmpStr s s = 0 := by simp [cmpStr]
theorem cmpT_self (t : Term) : t.cmpT t = 0 := by
  induction t using Term.ind with
  | h t ih =>
  rw [Term.cmpT_eq]
  have : ∀ l : List Term, (∀ a ∈ l, a.cmpT a = 0) → Term.cmpsT l l = 0 := by
    intro l
    induction l with
    | nil => intro _; rw [Term.cmpsT]
    | cons a l ih2 => intro h; rw [Term.cmpsT, if_pos (h a (by simp))]; exact ih2 fun b hb => h b (by simp [hb])
  rw [this t.args ih]
  simp only [orI, cmpI_self, cmpStr_self, if_true]
end Go.AE.S
/- A pattern at a width is valid, and not generic. --M-- -/
namespace Go.AE.S
open Go Go.AE
set_option linter.unusedSimpArgs false
set_option linter.unusedVariables false
variable {τ : Tm} {σ : Store} {rd : Option Nat}
theorem node_ok {u : Term} {ev : Bool} (h : nodeE u ev = 0) : (¬ (arity u.op < 0 ∨ u.op = 1 ∨ (u.op = 26 ∧ ev = false) ∨ ¬ (u.args.length : Int) = arity u.op)) ∧
    ¬ ((¬ u.name = bs [] ∧ ¬ (u.op = 24 ∨ u.op = 25)) ∨ (¬ u.v = 0 ∧ ¬ u.op = 2 ∧ ¬ u.op = 21)) ∧ ¬ ((u.op = 24 ∨ u.op = 25) ∧ nameOk u.name = false) ∧
    widthW u.op u.w u.v (u.args.map Term.w) = (u.w, 0) ∧ ¬ (u.op = 26 ∧ inner u = true) := by
  unfold nodeE at h
  split at h
  · cases h
  rename_i h1
  split at h
  · cases h
  rename_i h2
  split at h
  · cases h
  rename_i h3
  split at h
  · cases h
  rename_i h4
  split at h
  · cases h
  rename_i h5
  simp only [not_or, Classical.not_not] at h4
  exact ⟨h1, h2, h3, Prod.ext h4.2 h4.1, h5⟩
theorem ok_node {u : Term} {ev : Bool} (h1 : ¬ (arity u.op < 0 ∨ u.op = 1 ∨ (u.op = 26 ∧ ev = false) ∨ ¬ (u.args.length : Int) = arity u.op))
    (h2 : ¬ ((¬ u.name = bs [] ∧ ¬ (u.op = 24 ∨ u.op = 25)) ∨ (¬ u.v = 0 ∧ ¬ u.op = 2 ∧ ¬ u.op = 21))) (h3 : ¬ ((u.op = 24 ∨ u.op = 25) ∧ nameOk u.name = false))
    (h4 : widthW u.op u.w u.v (u.args.map Term.w) = (u.w, 0)) (h5 : ¬ (u.op = 26 ∧ inner u = true)) : nodeE u ev = 0 := by
  unfold nodeE
  rw [if_neg h1, if_neg h2, if_neg h3, if_neg (by rw [h4]; simp), if_neg h5]
theorem ats_none {wd : Int} : ∀ {l : List Term}, Term.atsX wd l = none → ∃ a ∈ l, (a.atX wd).2 = false
  | [], h => by simp [Term.atsX] at h
  | a :: l, h => by
    simp only [Term.atsX] at h
    split at h
    · have := ats_none (Option.map_eq_none_iff.1 h)
      obtain ⟨b, hb, h⟩ := this
      exact ⟨b, by simp [hb], h⟩
    · rename_i h1
      exact ⟨a, by simp, by simpa using h1⟩
/-- A pattern without generic nodes stays. -/
theorem at_same (wd : Int) (ev : Bool) (t : Term) : (∀ u ∈ t.pre, nodeE u ev = 0) → (∀ u ∈ t.pre, ¬ u.w = 0) → t.atX wd = (t, true) := by
  induction t using Term.ind with
  | h t ih =>
  intro hn hw
  have h0 := hw t self_pre
  by_cases hz : t.args = []
  · rw [at_leaf wd t hz, if_neg h0, if_neg (fun h => h0 h.1)]
    cases t; simp only [Term.args] at hz; subst hz; rfl
  · have ha : ∀ a ∈ t.args, a.atX wd = (a, true) := fun a ha => ih a ha (fun u hu => hn u (mem_pre.2 (.inr ⟨a, ha, hu⟩))) (fun u hu => hw u (mem_pre.2 (.inr ⟨a, ha, hu⟩)))
    have hs : ∀ l : List Term, (∀ a ∈ l, a.atX wd = (a, true)) → Term.atsX wd l = some l := by
      intro l
      induction l with
      | nil => intro _; rfl
      | cons a l ih2 =>
        intro h
        simp only [Term.atsX]
        rw [h a (by simp), ih2 fun b hb => h b (by simp [hb])]
        rfl
    rw [at_node wd t hz, hs t.args ha]
    simp only [(node_ok (hn t self_pre)).2.2.2.1]
    cases t; rfl
theorem widthW_again {o w v n : Int} {as : List Int} (h0 : ¬ as = []) (h : widthW o w v as = (n, 0)) (ha : ∀ a ∈ as, 1 ≤ a) : widthW o n v as = (n, 0) ∧ 1 ≤ n := by
  have hget : ∀ k : Nat, k < as.length → 1 ≤ as.getD k 0 := by
    intro k hk
    rw [List.getD_eq_getElem?_getD, List.getElem?_eq_getElem hk]
    exact ha _ (List.getElem_mem hk)
  have hl0 : as.length ≠ 0 := by cases as with | nil => exact absurd rfl h0 | cons => simp
  unfold widthW at h ⊢
  split at h
  · cases h
  rename_i h1
  rw [if_neg h1]
  split at h
  · cases h
  rename_i h2
  rw [if_neg h2]
  split at h
  · omega
  rename_i h3
  rw [if_neg h3]
  simp only [not_or, Classical.not_not] at h1
  split at h
  · rename_i h4
    rw [if_pos h4]
    unfold sizeW at h ⊢
    split at h
    · cases h
    · rename_i h5
      cases h
      rw [if_neg h5]
      exact ⟨rfl, by omega⟩
  rename_i h4
  rw [if_neg h4]
  split at h
  · rename_i h5
    rw [if_pos h5]
    cases h
    exact ⟨rfl, hget 0 (by omega)⟩
  rename_i h5
  rw [if_neg h5]
  have a2 : ∀ {o : Int}, ¬ arity o < 0 → ¬ arity o = 0 → ¬ arity o = 1 → 2 ≤ arity o := by intro o; omega
  have hl2 := a2 h1.1 h3 h5
  split at h
  · rename_i h6
    rw [if_pos h6]
    split at h
    · rename_i h7
      rw [if_pos h7]
      cases h
      exact ⟨rfl, by omega⟩
    · cases h
  rename_i h6
  rw [if_neg h6]
  split at h
  · rename_i h7
    rw [if_pos h7]
    split at h
    · rename_i h8
      rw [if_pos h8]
      cases h
      exact ⟨rfl, hget 1 (by omega)⟩
    · cases h
  rename_i h7
  rw [if_neg h7]
  split at h
  · rename_i h8
    rw [if_pos h8]
    split at h
    · rename_i h9
      rw [if_pos h9]
      cases h
      exact ⟨rfl, by omega⟩
    · rename_i h9
      rw [if_neg h9]
      cases h
      exact ⟨rfl, hget 0 (by omega)⟩
  · cases h
/-- Nodes of a pattern and of the pattern at a width. -/
def RelT (wd : Int) (a b : Term) : Prop := b.op = a.op ∧ b.name = a.name ∧ (isVar a = true → b.w = if a.w = 0 then wd else a.w)
def RelL (wd : Int) : List Term → List Term → Prop
  | [], [] => True
  | a :: l, b :: m => RelT wd a b ∧ RelL wd l m
  | _, _ => False
theorem RelL.append {wd : Int} : ∀ {l m l' m' : List Term}, RelL wd l m → RelL wd l' m' → RelL wd (l ++ l') (m ++ m')
  | [], [], _, _, _, h => h
  | a :: l, b :: m, _, _, h, h' => ⟨h.1, RelL.append h.2 h'⟩
theorem RelL.len {wd : Int} : ∀ {l m : List Term}, RelL wd l m → m.length = l.length
  | [], [], _ => rfl
  | a :: l, b :: m, h => by simp [RelL.len h.2]
theorem RelL.any {wd : Int} (q : Int → Bool) : ∀ {l m : List Term}, RelL wd l m → (m.any fun u => q u.op) = l.any fun u => q u.op
  | [], [], _ => rfl
  | a :: l, b :: m, h => by simp only [List.any_cons]; rw [RelL.any q h.2, h.1.1]
/-- What is to be shown of the pattern at a width. -/
structure AtOk (wd : Int) (ev : Bool) (t q : Term) : Prop where
  nodes : ∀ u ∈ q.pre, nodeE u ev = 0 ∧ 1 ≤ u.w
  rel : RelL wd t.pre q.pre
  deep : q.deep = t.deep
theorem ats_ok {wd : Int} {ev : Bool} : ∀ {l m : List Term}, Term.atsX wd l = some m → (∀ a ∈ l, (a.atX wd).2 = true → AtOk wd ev a (a.atX wd).1) →
    (∀ b ∈ m, ∀ u ∈ b.pre, nodeE u ev = 0 ∧ 1 ≤ u.w) ∧ RelL wd (l.flatMap Term.pre) (m.flatMap Term.pre) ∧ Term.deeps m = Term.deeps l ∧ m.length = l.length ∧
    (∀ a, l.head? = some a → ∃ b, m.head? = some b ∧ RelL wd a.pre b.pre)
  | [], m, h, _ => by simp only [Term.atsX, Option.some.injEq] at h; subst h; simp [RelL]
  | a :: l, m, h, hall => by
    simp only [Term.atsX] at h
    split at h
    · rename_i hk
      obtain ⟨m', hm, rfl⟩ := Option.map_eq_some_iff.1 h
      obtain ⟨i1, i2, i3, i4, i5⟩ := ats_ok hm fun b hb => hall b (by simp [hb])
      have ha := hall a (by simp) hk
      refine ⟨?_, ?_, ?_, by simp [i4], ?_⟩
      · intro b hb
        rcases List.mem_cons.1 hb with rfl | hb
        · exact ha.nodes
        · exact i1 b hb
      · simp only [List.flatMap_cons]; exact ha.rel.append i2
      · simp only [Term.deeps]; rw [ha.deep, i3]
      · intro c hc
        simp only [List.head?_cons, Option.some.injEq] at hc
        subst hc
        exact ⟨_, rfl, ha.rel⟩
    · cases h
theorem leaf_cut {wd v : Int} (h1 : 1 ≤ wd) (h2 : wd ≤ 64) : cutW wd v < 2 ^ wd.toNat := by
  unfold cutW
  have hc : clampW wd = wd := by unfold clampW; omega
  rw [hc]
  have : v.toNat % 2 ^ wd.toNat < 2 ^ wd.toNat := Nat.mod_lt _ (Nat.pow_pos (by omega))
  exact_mod_cast this
theorem at_ok (wd : Int) (hwd : 1 ≤ wd ∧ wd ≤ 64) (ev : Bool) (t : Term) : (∀ u ∈ t.pre, nodeE u ev = 0) → (t.atX wd).2 = true → AtOk wd ev t (t.atX wd).1 := by
  induction t using Term.ind with
  | h t ih =>
  intro hn hk
  obtain ⟨g1, g2, g3, g4, g5⟩ := node_ok (hn t self_pre)
  by_cases hz : t.args = []
  · rw [at_leaf wd t hz]
    have har : arity t.op = 0 := by
      simp only [not_or, Classical.not_not] at g1
      rw [← g1.2.2.2, hz]; rfl
    have hl : leafW t.op t.w t.v = (t.w, 0) := by
      rw [← g4, hz]
      unfold widthW
      rw [if_neg (by rw [har]; simp), if_neg (by simp), if_pos har]
    have hlw : 0 ≤ t.w ∧ t.w ≤ 64 ∧ (t.op = 2 → 0 < t.w → t.v < 2 ^ t.w.toNat) := by
      unfold leafW at hl
      split at hl
      · exact absurd (show (3 : Int) = 0 from congrArg Prod.snd hl) (by decide)
      · rename_i h
        refine ⟨by omega, by omega, fun h1 h2 => ?_⟩
        exact Int.not_le.1 fun h3 => h (.inr ⟨h1, h2, h3⟩)
    have hpre : Term.pre (.mk t.op (if t.w = 0 then wd else t.w) (if t.w = 0 ∧ t.op = 2 then cutW wd t.v else t.v) t.name []) = [.mk t.op (if t.w = 0 then wd else t.w) (if t.w = 0 ∧ t.op = 2 then cutW wd t.v else t.v) t.name []] := by
      rw [Term.pre_eq]; rfl
    refine ⟨?_, ?_, ?_⟩
    · rw [hpre]
      intro u hu
      rw [List.mem_singleton] at hu
      subst hu
      refine ⟨ok_node ?_ ?_ g3 ?_ ?_, ?_⟩
      · show ¬ (arity t.op < 0 ∨ t.op = 1 ∨ (t.op = 26 ∧ ev = false) ∨ ¬ (([] : List Term).length : Int) = arity t.op)
        rw [← hz]; exact g1
      · show ¬ ((¬ t.name = bs [] ∧ ¬ (t.op = 24 ∨ t.op = 25)) ∨ (¬ (if t.w = 0 ∧ t.op = 2 then cutW wd t.v else t.v) = 0 ∧ ¬ t.op = 2 ∧ ¬ t.op = 21))
        by_cases h2 : t.op = 2
        · simp only [not_or] at g2 ⊢
          exact ⟨g2.1, fun h => h.2.1 h2⟩
        · rw [if_neg (fun h => h2 h.2)]; exact g2
      · show widthW t.op (if t.w = 0 then wd else t.w) (if t.w = 0 ∧ t.op = 2 then cutW wd t.v else t.v) [] = _
        unfold widthW
        rw [if_neg (by rw [har]; simp), if_neg (by simp), if_pos har]
        unfold leafW
        rw [if_neg]
        · rfl
        by_cases h0 : t.w = 0
        · rw [if_pos h0]
          rintro (h | ⟨h1, h2, h3⟩)
          · omega
          · rw [if_pos ⟨h0, h1⟩] at h3
            have := leaf_cut (v := t.v) hwd.1 hwd.2
            omega
        · rw [if_neg h0, if_neg (fun h => h0 h.1)]
          rintro (h | ⟨h1, h2, h3⟩)
          · omega
          · have := hlw.2.2 h1 h2
            omega
      · rintro ⟨_, h⟩
        exact absurd h (by simp [inner, Term.args])
      · show 1 ≤ (if t.w = 0 then wd else t.w)
        split <;> omega
    · rw [hpre, Term.pre_eq t, hz]
      exact ⟨⟨rfl, rfl, fun _ => rfl⟩, trivial⟩
    · rw [Term.deep_eq t, hz, Term.deep_eq]; rfl
  · rw [at_node wd t hz] at hk ⊢
    cases hm : Term.atsX wd t.args with
    | none => rw [hm] at hk; cases hk
    | some m =>
      rw [hm] at hk
      simp only [decide_eq_true_eq] at hk
      obtain ⟨i1, i2, i3, i4, i5⟩ := ats_ok (ev := ev) hm fun a ha hk => ih a ha (fun u hu => hn u (mem_pre.2 (.inr ⟨a, ha, hu⟩))) hk
      have hne : ¬ m.map Term.w = [] := by
        intro h
        have := congrArg List.length h
        rw [List.length_map, i4] at this
        exact hz (List.length_eq_zero_iff.1 this)
      have hpos : ∀ a ∈ m.map Term.w, 1 ≤ a := by
        intro x hx
        obtain ⟨b, hb, rfl⟩ := List.mem_map.1 hx
        exact (i1 b hb b self_pre).2
      obtain ⟨w1, w2⟩ := widthW_again hne (Prod.ext rfl hk : widthW t.op t.w t.v (m.map Term.w) = ((widthW t.op t.w t.v (m.map Term.w)).1, 0)) hpos
      refine ⟨?_, ?_, ?_⟩
      · intro u hu
        rcases mem_pre.1 hu with rfl | ⟨b, hb, hu⟩
        · refine ⟨ok_node ?_ g2 g3 w1 ?_, w2⟩
          · show ¬ (arity t.op < 0 ∨ t.op = 1 ∨ (t.op = 26 ∧ ev = false) ∨ ¬ (m.length : Int) = arity t.op)
            rw [i4]; exact g1
          · rintro ⟨h1, h2⟩
            refine g5 ⟨h1, ?_⟩
            unfold inner at h2 ⊢
            cases ha : t.args with
            | nil => exact absurd ha hz
            | cons a as =>
              rw [ha] at i5
              obtain ⟨b, hb, hr⟩ := i5 a rfl
              cases m with
              | nil => cases hb
              | cons c m =>
                simp only [List.head?_cons, Option.some.injEq] at hb
                subst hb
                have e := hr.any fun o => decide (o ∈ [24, (26 : Int)])
                show (a.pre.any fun u => decide (u.op ∈ [24, (26 : Int)])) = true
                rw [← e]
                exact h2
        · exact i1 b hb u hu
      · rw [Term.pre_eq t, Term.pre_eq]
        refine ⟨⟨rfl, rfl, fun h => ?_⟩, ?_⟩
        · exfalso
          unfold isVar at h
          have h := of_decide_eq_true h
          have har : arity t.op = 0 := by rcases h with h | h <;> rw [h] <;> decide
          simp only [not_or, Classical.not_not] at g1
          have := g1.2.2.2
          rw [har] at this
          exact hz (List.length_eq_zero_iff.1 (by omega))
        · rw [Term.pres_eq, Term.pres_eq]; exact i2
      · rw [Term.deep_eq t, Term.deep_eq, ← i3]; rfl
/-- The names bound, by both. -/
def RelS (wd : Int) : List (ByteArray × Term) → List (ByteArray × Term) → Prop
  | [], [] => True
  | a :: l, b :: m => a.1 = b.1 ∧ RelT wd a.2 b.2 ∧ isVar a.2 = true ∧ RelS wd l m
  | _, _ => False
theorem RelS.len {wd : Int} : ∀ {l m : List (ByteArray × Term)}, RelS wd l m → m.length = l.length
  | [], [], _ => rfl
  | a :: l, b :: m, h => by simp [RelS.len h.2.2.2]
theorem RelS.lk {wd : Int} (k : ByteArray) : ∀ {l m : List (ByteArray × Term)}, RelS wd l m → match lkB l k, lkB m k with
    | none, none => True
    | some a, some b => RelT wd a b ∧ isVar a = true
    | _, _ => False
  | [], [], _ => trivial
  | a :: l, b :: m, h => by
    simp only [lkB]
    rw [← h.1]
    by_cases hk : k = a.1
    · simp only [hk, if_true]; exact ⟨h.2.1, h.2.2.1⟩
    · simp only [hk, if_false]; exact RelS.lk k h.2.2.2
theorem RelS.st {wd : Int} {a b : Term} (hr : RelT wd a b) (hv : isVar a = true) : ∀ {l m : List (ByteArray × Term)}, RelS wd l m → RelS wd (stB a l) (stB b m)
  | [], [], _ => ⟨hr.2.1.symm, hr, hv, trivial⟩
  | c :: l, d :: m, h => by
    simp only [stB]
    rw [hr.2.1, ← h.1]
    by_cases hk : a.name = c.1
    · simp only [hk, if_true]; exact ⟨rfl, hr, hv, h.2.2.2⟩
    · simp only [hk, if_false]; exact ⟨h.1, h.2.1, h.2.2.1, RelS.st hr hv h.2.2.2⟩
theorem isVar_rel {wd : Int} {a b : Term} (h : RelT wd a b) : isVar b = isVar a := by unfold isVar; rw [h.1]
theorem RelL.bind {wd : Int} : ∀ {l m : List Term} (i : Nat) {s s' : List (ByteArray × Term)} {r : List (ByteArray × Term)}, RelL wd l m → RelS wd s s' →
    foldE (fun _ s u => bindF s u) i s l = .inl r → ∃ r', foldE (fun _ s u => bindF s u) i s' m = .inl r' ∧ r'.length = r.length
  | [], [], i, s, s', r, _, hs, h => by
    simp only [foldE, Sum.inl.injEq] at h ⊢
    subst h
    exact ⟨s', rfl, hs.len⟩
  | a :: l, b :: m, i, s, s', r, hl, hs, h => by
    simp only [foldE] at h ⊢
    unfold bindF at h ⊢
    rw [isVar_rel hl.1, hl.1.2.1]
    cases hv : isVar a with
    | false =>
      simp only [hv, Bool.false_eq_true, if_false] at h ⊢
      exact RelL.bind (i + 1) hl.2 hs h
    | true =>
      simp only [hv, if_true] at h ⊢
      have hk := hs.lk a.name
      cases h1 : lkB s a.name with
      | none =>
        cases h2 : lkB s' a.name with
        | some y => rw [h1, h2] at hk; exact hk.elim
        | none =>
          simp only [h1] at h
          simp only
          exact RelL.bind (i + 1) hl.2 (RelS.st hl.1 hv hs) h
      | some x =>
        cases h2 : lkB s' a.name with
        | none => rw [h1, h2] at hk; exact hk.elim
        | some y =>
          rw [h1, h2] at hk
          simp only [h1] at h
          simp only
          by_cases hc : x.op = a.op ∧ x.w = a.w
          · rw [if_pos hc] at h
            rw [if_pos ⟨by rw [hk.1.1, hl.1.1, hc.1], by rw [hk.1.2.2 hk.2, hl.1.2.2 hv, hc.2]⟩]
            exact RelL.bind (i + 1) hl.2 (RelS.st hl.1 hv hs) h
          · rw [if_neg hc] at h; cases h
theorem at_check {wd : Int} (hwd : 1 ≤ wd ∧ wd ≤ 64) {ev : Bool} {t : Term} (h : checkE t ev = 0) (hk : (t.atX wd).2 = true) : checkE (t.atX wd).1 ev = 0 ∧ ∀ u ∈ (t.atX wd).1.pre, ¬ u.w = 0 := by
  have ha := at_ok wd hwd ev t (check_nodes h) hk
  refine ⟨?_, fun u hu => by have := (ha.nodes u hu).2; omega⟩
  have hc : (t.atX wd).1.count = t.count := by rw [← Term.pre_len, ← Term.pre_len]; exact ha.rel.len
  unfold checkE at h ⊢
  rw [hc, ha.deep]
  split at h
  · cases h
  rename_i h1
  rw [if_neg h1]
  have hf : firstE ev (t.atX wd).1.post = 0 := (first_zero ev _).2 fun u hu => (ha.nodes u ((mem_post _ u).1 hu)).1
  rw [if_neg (by rw [hf]; simp)]
  split at h
  · rename_i h2; exact absurd h h2
  cases hb : foldE (fun _ s u => bindF s u) 0 [] t.pre with
  | inr r => rw [hb] at h; cases h
  | inl r =>
    rw [hb] at h
    obtain ⟨r', k1, k2⟩ := ha.rel.bind (s := []) (s' := []) 0 trivial hb
    rw [k1]
    simp only at h ⊢
    rw [k2]; exact h
theorem check_gen {p : Term} (h : (p.pre.any fun u => decide (u.w = 0)) = false) : ∀ u ∈ p.pre, ¬ u.w = 0 := by
  intro u hu
  have := (List.any_eq_false.1 h) u hu
  simpa using this
end Go.AE.S
