/- Terms by the reference of layer 6: sizes, names, orders. --M-- -/
import Derived.Test.YtkdaonhccijffaaB2
namespace Go.AE.S
open Go Go.AE
set_option linter.unusedSimpArgs false
set_option linter.unusedVariables false
variable {τ : Tm} {σ : Store} {rd : Option Nat}
theorem s_opinfo_Pattern (o : Int) : R P f_opinfo_Pattern [.int .i64 o] = some (.bool (decide (24 ≤ o ∧ o ≤ 26))) := by
  (rw [r_opinfo_Pattern (Nat.le_of_ble_eq_true rfl), F_opinfo_Pattern]; simp (disch := omega) only [eqs, eqL, ↓gc_len, seval, -List.reduceReplicate, reduceCtorEq, omap, depth, pcall, pureR, freezeFor, freezeAll, tupR, resV, purR, enterTm, number, gcOk, rangeEnd, mkTup, allP, eqM])
  by_cases h1 : 24 ≤ o <;> by_cases h2 : o ≤ 26 <;> simp (disch := omega) only [eqs, eqL, ↓gc_len, seval, -List.reduceReplicate, reduceCtorEq, omap, depth, pcall, pureR, freezeFor, freezeAll, tupR, resV, purR, enterTm, number, gcOk, rangeEnd, mkTup, allP, eqM, h1, h2] <;> rfl
theorem s_term_clamp (w : Int) : R P f_term_clamp [.int .i64 w] = some (.int .i64 (clampW w)) := by
  (rw [r_term_clamp (Nat.le_of_ble_eq_true rfl), F_term_clamp]; simp (disch := omega) only [eqs, eqL, ↓gc_len, seval, -List.reduceReplicate, reduceCtorEq, omap, depth, pcall, pureR, freezeFor, freezeAll, tupR, resV, purR, enterTm, number, gcOk, rangeEnd, mkTup, allP, eqM])
  simp only [Option.some.injEq, PV.int.injEq, true_and]
  unfold clampW; omega
end Go.AE.S
/- Terms by the reference of layer 6: nodes in order, widths, copies. --M-- -/
namespace Go.AE.S
open Go Go.AE
set_option linter.unusedSimpArgs false
set_option linter.unusedVariables false
variable {τ : Tm} {σ : Store} {rd : Option Nat}
theorem foldl_id {α : Type} : ∀ (l s : List α), l.foldl (fun s a => s ++ [a]) s = s ++ l
  | [], s => by simp
  | a :: l, s => by rw [List.foldl_cons, foldl_id l]; simp
theorem gc_67 {vs : List AV} {a b c d e f g : Obj} : gc 6 vs [a, b, c, d, e, f, g] = if gcOk 6 vs [a, b, c, d, e, f, g] = true then [a, b, c, d, e, f] else [a, b, c, d, e, f, g] := by unfold gc; rw [if_neg (by simp)]; rfl
abbrev sC0 (t : Term) (s : List Term) : Store := [.pv 0 [] false, .av 5 [z5 0] false, .av 5 [[.p (.int .i64 t.op), .p (.int .i64 t.w), .p (.int .u64 t.v), .p (.str t.name), .sl 3 s.length]] false, .pv (esOf 5 s) (s.map Term.row) false]
abbrev e_cp0 (t : Term) (i : Int) : List (Nat × AV) := [(2, .ptr 1 1 0 0), (3, .ptr 2 1 0 0), (9, .p (.lst (t.args.map Term.row))), (10, .p (.int .i64 t.args.length)), (11, .p (.int .i64 i))]
set_option maxHeartbeats 4000000 in
theorem s_term_Copy (t : Term) : t.count ≤ 1000000 → R P f_term_Copy [.agg t.row] = some (.agg t.row) := by
  induction t using Term.ind with
  | h t ih =>
  intro hc
  have hlen := Term.counts_len t.args
  have hct := Term.count_eq t
  obtain ⟨hk, h⟩ := loop_run (P := P) (nt := 24) (lv := [2, 3, 9, 10, 11]) (b := B0_term_Copy) (rd := none) (as := t.args) (fun i (_ : List Term) => e_cp0 t i) (sC0 t) (fun _ s a => s ++ [a]) (fun i s => s.length = i)
    (fun i a s ha hi hs => by
      have hm := List.mem_of_getElem? ha
      have hac := Term.counts_mem hm
      have hr := ih a hm (by omega)
      have hlt : ((i : Int) < t.args.length) = True := by simpa using hi
      have hap := v_append (σ := sC0 t s ++ [.pv 5 [a.row] false]) (b := 3) (n := s.length) (e := esOf 5 s) (es := 5) (bytes := 64) (rows := s.map Term.row) (new := [a.row]) rfl (by simp) (esOf_or _ _ _) (by simp only [List.length_cons, List.length_nil]; omega)
      simp only [sC0, z5, List.cons_append, List.nil_append] at hap
      refine ⟨by simp [hs], ?_⟩
      simp only [B0_term_Copy]
      simp (disch := omega) only [eqs, eqL, ↓gc_len, seval, -List.reduceReplicate, reduceCtorEq, omap, depth, pcall, pureR, freezeFor, freezeAll, tupR, resV, purR, enterTm, number, gcOk, rangeEnd, mkTup, allP, eqM, hlt, v_iadr (map_get (f := Term.row) ha) a.row_len, q_term_Copy, hr, sC0, z5, hap, List.map_append, List.length_append, esOf_snoc, e_cp0, gc_67]) (fun i s => rfl) [] (by simp) _ (foldE_foldl _ t.args 0 [])
  rw [foldl_id, List.nil_append] at h
  have h' : loopAt P L0_term_Copy (e_cp0 t 0) [.pv 0 [] false, .av 5 [z5 0] false, .av 5 [[.p (.int .i64 t.op), .p (.int .i64 t.w), .p (.int .u64 t.v), .p (.str t.name), .sl 3 0]] false, .pv 0 [] false] 24 none = _ := h
  simp only [z5, sC0] at h'
  (rw [r_term_Copy (Nat.le_of_ble_eq_true rfl), F_term_Copy]; simp (disch := omega) only [eqs, eqL, ↓gc_len, seval, -List.reduceReplicate, reduceCtorEq, omap, depth, pcall, pureR, freezeFor, freezeAll, tupR, resV, purR, enterTm, number, gcOk, rangeEnd, mkTup, allP, eqM, List.length_map, k0_term_Copy, h', B0_term_Copy, Int.lt_irrefl, e_cp0])
  rw [Term.row_eq]
end Go.AE.S
/- Terms by paths. --M-- -/
namespace Go.AE
namespace Term
end Term
namespace S
open Go Go.AE
set_option linter.unusedSimpArgs false
set_option linter.unusedVariables false
variable {τ : Tm} {σ : Store} {rd : Option Nat}
end S
end Go.AE
/- Put. --M-- -/
namespace Go.AE.S
open Go Go.AE
set_option linter.unusedSimpArgs false
set_option linter.unusedVariables false
variable {τ : Tm} {σ : Store} {rd : Option Nat}
end Go.AE.S
/- Terms: how much is left of budgets. --M-- -/
namespace Go.AE.S
open Go Go.AE
set_option linter.unusedSimpArgs false
set_option linter.unusedVariables false
variable {τ : Tm} {σ : Store} {rd : Option Nat}
def measV (t : Term) (n d : Int) : List PV := if (t.deep : Int) ≤ d ∧ (t.count : Int) ≤ n then [.int .i64 (n - t.count), .bool true] else [.int .i64 0, .bool false]
def mF (d : Int) (_ : Nat) (s : Int) (a : Term) : Int ⊕ Unit := if (a.deep : Int) ≤ d ∧ (a.count : Int) ≤ s then .inl (s - a.count) else .inr ()
theorem fold_m (d : Int) : ∀ (l : List Term) (i : Nat) (s : Int), foldE (mF d) i s l = if (((Term.deeps l : Nat) : Int) ≤ d ∧ ((Term.counts l : Nat) : Int) ≤ s) ∨ l = [] then .inl (s - Term.counts l) else .inr ()
  | [], i, s => by
    have e2 : Term.counts [] = 0 := rfl
    rw [if_pos (.inr rfl), e2]
    simp [foldE]
  | a :: l, i, s => by
    have e1 : Term.deeps (a :: l) = max a.deep (Term.deeps l) := rfl
    have e2 : Term.counts (a :: l) = a.count + Term.counts l := rfl
    have hne : ¬ a :: l = [] := by simp
    simp only [foldE, mF]
    by_cases h : (a.deep : Int) ≤ d ∧ (a.count : Int) ≤ s
    · simp only [h, and_self, if_true]
      rw [fold_m d l (i + 1)]
      by_cases h2 : l = []
      · subst h2
        have e3 : Term.deeps [] = 0 := rfl
        have e4 : Term.counts [] = 0 := rfl
        rw [if_pos (.inr rfl), if_pos (.inl (by omega))]
        congr 1; omega
      · by_cases h3 : ((Term.deeps l : Nat) : Int) ≤ d ∧ ((Term.counts l : Nat) : Int) ≤ s - a.count
        · rw [if_pos (.inl h3), if_pos (.inl (by omega))]
          congr 1; omega
        · rw [if_neg (fun h => h.elim h3 h2), if_neg (fun h => h.elim (fun h => h3 (by omega)) hne)]
    · rw [if_neg h, if_neg (fun h' => h'.elim (fun h' => h (by omega)) hne)]
abbrev e_ms (t : Term) (d s i : Int) : List (Nat × AV) := [(1, .p (.int .i64 s)), (2, .p (.int .i64 d)), (21, .p (.lst (t.args.map Term.row))), (22, .p (.int .i64 t.args.length)), (23, .p (.int .i64 i))]
def outMs (r : Ex × St) : Prop := r.1 = .ret ∧ r.2.τ.get 6 = .p (.int .i64 0) ∧ r.2.τ.get 7 = .p (.bool false) ∧ r.2.σ = []
theorem s_term_measure (t : Term) : TOk t → ∀ n d : Int, d ≤ 1000000 → n ≤ 1000000 → R P f_term_measure [.agg t.row, .int .i64 n, .int .i64 d] = some (.tup (measV t n d)) := by
  induction t using Term.ind with
  | h t ih =>
  intro ht n d hd hn
  have hde := Term.deep_eq t
  have hco := Term.count_eq t
  by_cases h1 : n < 1
  · have e : measV t n d = [.int .i64 0, .bool false] := by unfold measV; rw [if_neg (by omega)]
    rw [e]
    (rw [r_term_measure (Nat.le_of_ble_eq_true rfl), F_term_measure]; simp (disch := omega) only [eqs, eqL, ↓gc_len, seval, -List.reduceReplicate, reduceCtorEq, omap, depth, pcall, pureR, freezeFor, freezeAll, tupR, resV, purR, enterTm, number, gcOk, rangeEnd, mkTup, allP, eqM, h1])
  by_cases h2 : d < 1
  · have e : measV t n d = [.int .i64 0, .bool false] := by unfold measV; rw [if_neg (by omega)]
    rw [e]
    (rw [r_term_measure (Nat.le_of_ble_eq_true rfl), F_term_measure]; simp (disch := omega) only [eqs, eqL, ↓gc_len, seval, -List.reduceReplicate, reduceCtorEq, omap, depth, pcall, pureR, freezeFor, freezeAll, tupR, resV, purR, enterTm, number, gcOk, rangeEnd, mkTup, allP, eqM, h1, h2])
  have hlen := ht.len
  have h := loop_to (P := P) (nt := 40) (lv := [1, 2, 21, 22, 23]) (b := B0_term_measure) (rd := none) (as := t.args) (fun i (s : Int) => e_ms t d s i) (fun _ => []) (mF (d - 1)) (fun _ => outMs) (fun i s => 0 ≤ s ∧ s ≤ 1000000)
    (fun i a s ha hi hs => by
      have hm := List.mem_of_getElem? ha
      have hlt : ((i : Int) < t.args.length) = True := by simpa using hi
      have hw : IntKind.i64.wrap (d - 1) = d - 1 := IntWalk.i64_in _ (by omega)
      have hr := ih a hm (ht.args hm) s (d - 1) (by omega) (by omega)
      unfold mF
      unfold measV at hr
      by_cases h0 : (a.deep : Int) ≤ d - 1 ∧ (a.count : Int) ≤ s
      · rw [if_pos h0] at hr
        rw [if_pos h0]
        refine ⟨fun s' he => (by simp only [Sum.inl.injEq] at he; subst he; omega), ?_⟩
        simp only [B0_term_measure]
        simp (disch := omega) only [eqs, eqL, ↓gc_len, seval, -List.reduceReplicate, reduceCtorEq, omap, depth, pcall, pureR, freezeFor, freezeAll, tupR, resV, purR, enterTm, number, gcOk, rangeEnd, mkTup, allP, eqM, hlt, hw, v_iadr (map_get (f := Term.row) ha) a.row_len, q_term_measure, hr, e_ms]
      · rw [if_neg h0] at hr
        rw [if_neg h0]
        refine ⟨fun s' he => (by simp at he), ?_⟩
        simp only [B0_term_measure]
        simp (disch := omega) only [eqs, eqL, ↓gc_len, seval, -List.reduceReplicate, reduceCtorEq, omap, depth, pcall, pureR, freezeFor, freezeAll, tupR, resV, purR, enterTm, number, gcOk, rangeEnd, mkTup, allP, eqM, hlt, hw, v_iadr (map_get (f := Term.row) ha) a.row_len, q_term_measure, hr, e_ms, outMs]) (fun i s => rfl) (n - 1) (by omega)
  have hw1 : IntKind.i64.wrap (n - 1) = n - 1 := IntWalk.i64_in _ (by omega)
  rw [fold_m] at h
  by_cases hc : ((Term.deeps t.args : Nat) : Int) ≤ d - 1 ∧ ((Term.counts t.args : Nat) : Int) ≤ n - 1 ∨ t.args = []
  · rw [if_pos hc] at h
    obtain ⟨hk, g1⟩ := h
    have h' : loopAt P L0_term_measure (e_ms t d (n - 1) 0) [] 40 none = _ := g1
    simp only [e_ms] at h'
    have e : measV t n d = [.int .i64 (n - 1 - Term.counts t.args), .bool true] := by
      unfold measV
      have hd0 : t.args = [] → Term.deeps t.args = 0 ∧ Term.counts t.args = 0 := fun h => by rw [h]; exact ⟨rfl, rfl⟩
      rw [if_pos (by rcases hc with hc | hc; omega; have := hd0 hc; omega)]
      congr 2; omega
    rw [e]
    (rw [r_term_measure (Nat.le_of_ble_eq_true rfl), F_term_measure]; simp (disch := omega) only [eqs, eqL, ↓gc_len, seval, -List.reduceReplicate, reduceCtorEq, omap, depth, pcall, pureR, freezeFor, freezeAll, tupR, resV, purR, enterTm, number, gcOk, rangeEnd, mkTup, allP, eqM, h1, h2, hw1, List.length_map, k0_term_measure, h', B0_term_measure, Int.lt_irrefl])
  · rw [if_neg hc] at h
    obtain ⟨⟨e, τ', σ', nt', rd'⟩, g1, g2, g3, g4, g5⟩ := h
    simp only at g2 g3 g4 g5
    subst g2; subst g5
    have h' : loopAt P L0_term_measure (e_ms t d (n - 1) 0) [] 40 none = _ := g1
    simp only [e_ms] at h'
    have e : measV t n d = [.int .i64 0, .bool false] := by
      unfold measV
      rw [if_neg (by simp only [not_or] at hc; omega)]
    rw [e]
    (rw [r_term_measure (Nat.le_of_ble_eq_true rfl), F_term_measure]; simp (disch := omega) only [eqs, eqL, ↓gc_len, seval, -List.reduceReplicate, reduceCtorEq, omap, depth, pcall, pureR, freezeFor, freezeAll, tupR, resV, purR, enterTm, number, gcOk, rangeEnd, mkTup, allP, eqM, h1, h2, hw1, List.length_map, k0_term_measure, h', g3, g4])
end Go.AE.S
/- Terms: sameness. --M-- -/
namespace Go.AE.S
open Go Go.AE
set_option linter.unusedSimpArgs false
set_option linter.unusedVariables false
variable {τ : Tm} {σ : Store} {rd : Option Nat}
abbrev e_sa (l m : List Term) (i : Int) : List (Nat × AV) := [(0, .p (.lst (l.map Term.row))), (1, .p (.lst (m.map Term.row))), (5, .p (.int .i64 i))]
theorem s_SameAll_of (l m : List Term) (hl : l.length ≤ 9223372036854775807) (ih : ∀ a ∈ l, ∀ b ∈ m, R P f_r06_Same [.agg a.row, .agg b.row] = some (.bool (a.beq b))) :
    R P f_r06_SameAll [.lst (l.map Term.row), .lst (m.map Term.row)] = some (.bool (Term.beqs l m)) := by
  rcases Classical.propComplete (((l.length : Nat) : Int) = ((m.length : Nat) : Int)) with h1 | h1
  rotate_left
  · rw [Term.beqs_len (fun h => of_eq_false h1 (by rw [h]))]
    (rw [r_r06_SameAll (Nat.le_of_ble_eq_true rfl), F_r06_SameAll]; simp (disch := omega) only [eqs, eqL, ↓gc_len, seval, -List.reduceReplicate, reduceCtorEq, omap, depth, pcall, pureR, freezeFor, freezeAll, tupR, resV, purR, enterTm, number, gcOk, rangeEnd, mkTup, allP, eqM, List.length_map, h1])
  have hlm : l.length = m.length := by have := of_eq_true h1; omega
  have hz : (l.zip m).length = l.length := by rw [List.length_zip]; omega
  have h := loop_to (P := P) (nt := 27) (lv := [0, 1, 5]) (b := B0_r06_SameAll) (rd := none) (as := l.zip m) (fun i (_ : Unit) => e_sa l m i) (fun _ => []) (fun _ _ x => if x.1.beq x.2 = true then .inl () else .inr ()) (fun (_ : Unit) => ret1 4 (.bool false) []) (fun _ _ => True)
    (fun i x s ha hi hs => by
      obtain ⟨g1, g2⟩ := zip_get ha
      have hr := ih x.1 (List.mem_of_getElem? g1) x.2 (List.mem_of_getElem? g2)
      have hlt : ((i : Int) < l.length) = True := by rw [hz] at hi; simpa using hi
      have hx1 := fun σ => v_iadr (k := .i64) (es := 5) (σ := σ) (map_get (f := Term.row) g1) x.1.row_len
      have hx2 := fun σ => v_iadr (k := .i64) (es := 5) (σ := σ) (map_get (f := Term.row) g2) x.2.row_len
      refine ⟨fun _ _ => trivial, ?_⟩
      cases hb : x.1.beq x.2 with
      | true =>
        rw [hb] at hr
        simp only [B0_r06_SameAll, if_true]
        simp (disch := omega) only [eqs, eqL, ↓gc_len, seval, -List.reduceReplicate, reduceCtorEq, omap, depth, pcall, pureR, freezeFor, freezeAll, tupR, resV, purR, enterTm, number, gcOk, rangeEnd, mkTup, allP, eqM, hlt, List.length_map, hx1, hx2, q_r06_Same, hr, e_sa]
      | false =>
        rw [hb] at hr
        simp only [B0_r06_SameAll, Bool.false_eq_true, if_false]
        simp (disch := omega) only [eqs, eqL, ↓gc_len, seval, -List.reduceReplicate, reduceCtorEq, omap, depth, pcall, pureR, freezeFor, freezeAll, tupR, resV, purR, enterTm, number, gcOk, rangeEnd, mkTup, allP, eqM, hlt, List.length_map, hx1, hx2, q_r06_Same, hr, e_sa, ret1]) (fun i s => rfl) () trivial
  rw [fold_allG (fun x : Term × Term => x.1.beq x.2), Term.beqs_zip hlm, hz] at h
  cases hb : Term.beqs l m with
  | true =>
    rw [hb] at h
    obtain ⟨_, g1⟩ := h
    have h' : loopAt P L0_r06_SameAll (e_sa l m 0) [] 27 none = _ := g1
    simp only [e_sa] at h'
    (rw [r_r06_SameAll (Nat.le_of_ble_eq_true rfl), F_r06_SameAll]; simp (disch := omega) only [eqs, eqL, ↓gc_len, seval, -List.reduceReplicate, reduceCtorEq, omap, depth, pcall, pureR, freezeFor, freezeAll, tupR, resV, purR, enterTm, number, gcOk, rangeEnd, mkTup, allP, eqM, List.length_map, h1, k0_r06_SameAll, h', B0_r06_SameAll, Int.lt_irrefl])
  | false =>
    rw [hb] at h
    obtain ⟨⟨e, τ', σ', nt', rd'⟩, g1, g2, g3, g4⟩ := h
    simp only at g2 g3 g4
    subst g2; subst g4
    have h' : loopAt P L0_r06_SameAll (e_sa l m 0) [] 27 none = _ := g1
    simp only [e_sa] at h'
    (rw [r_r06_SameAll (Nat.le_of_ble_eq_true rfl), F_r06_SameAll]; simp (disch := omega) only [eqs, eqL, ↓gc_len, seval, -List.reduceReplicate, reduceCtorEq, omap, depth, pcall, pureR, freezeFor, freezeAll, tupR, resV, purR, enterTm, number, gcOk, rangeEnd, mkTup, allP, eqM, List.length_map, h1, k0_r06_SameAll, h', g3])
theorem s_r06_Same (t : Term) : TOk t → ∀ u : Term, R P f_r06_Same [.agg t.row, .agg u.row] = some (.bool (t.beq u)) := by
  induction t using Term.ind with
  | h t ih =>
  intro ht u
  rw [Term.beq_eq]
  have hA := s_SameAll_of t.args u.args ht.len (fun a ha b _ => ih a ha (ht.args ha) b)
  rcases Classical.propComplete (t.op = u.op) with h1 | h1
  rotate_left
  · (rw [r_r06_Same (Nat.le_of_ble_eq_true rfl), F_r06_Same]; simp (disch := omega) only [eqs, eqL, ↓gc_len, seval, -List.reduceReplicate, reduceCtorEq, omap, depth, pcall, pureR, freezeFor, freezeAll, tupR, resV, purR, enterTm, number, gcOk, rangeEnd, mkTup, allP, eqM, h1, Bool.false_and])
  rcases Classical.propComplete (t.w = u.w) with h2 | h2
  rotate_left
  · (rw [r_r06_Same (Nat.le_of_ble_eq_true rfl), F_r06_Same]; simp (disch := omega) only [eqs, eqL, ↓gc_len, seval, -List.reduceReplicate, reduceCtorEq, omap, depth, pcall, pureR, freezeFor, freezeAll, tupR, resV, purR, enterTm, number, gcOk, rangeEnd, mkTup, allP, eqM, h1, h2, Bool.false_and])
  rcases Classical.propComplete (t.v = u.v) with h3 | h3
  rotate_left
  · (rw [r_r06_Same (Nat.le_of_ble_eq_true rfl), F_r06_Same]; simp (disch := omega) only [eqs, eqL, ↓gc_len, seval, -List.reduceReplicate, reduceCtorEq, omap, depth, pcall, pureR, freezeFor, freezeAll, tupR, resV, purR, enterTm, number, gcOk, rangeEnd, mkTup, allP, eqM, h1, h2, h3, Bool.false_and])
  rcases Classical.propComplete (t.name = u.name) with h4 | h4
  rotate_left
  · (rw [r_r06_Same (Nat.le_of_ble_eq_true rfl), F_r06_Same]; simp (disch := omega) only [eqs, eqL, ↓gc_len, seval, -List.reduceReplicate, reduceCtorEq, omap, depth, pcall, pureR, freezeFor, freezeAll, tupR, resV, purR, enterTm, number, gcOk, rangeEnd, mkTup, allP, eqM, h1, h2, h3, h4, Bool.false_and])
  (rw [r_r06_Same (Nat.le_of_ble_eq_true rfl), F_r06_Same]; simp (disch := omega) only [eqs, eqL, ↓gc_len, seval, -List.reduceReplicate, reduceCtorEq, omap, depth, pcall, pureR, freezeFor, freezeAll, tupR, resV, purR, enterTm, number, gcOk, rangeEnd, mkTup, allP, eqM, h1, h2, h3, h4, q_r06_SameAll, hA, Bool.false_and])
end Go.AE.S
/- Terms made. --M-- -/
namespace Go.AE.S
open Go Go.AE
set_option linter.unusedSimpArgs false
set_option linter.unusedVariables false
variable {τ : Tm} {σ : Store} {rd : Option Nat}
theorem fold_set {α β : Type} (g : α → β) : ∀ (l : List α) (k : Nat) (s : List β), k + l.length = s.length → foldE (T := Empty) (fun i s a => .inl (s.set i (g a))) k s l = .inl (s.take k ++ l.map g)
  | [], k, s, h => by simp only [foldE, List.map_nil, List.append_nil]; rw [List.take_of_length_le (by simp at h; omega)]
  | a :: l, k, s, h => by
    simp only [foldE]
    rw [fold_set g l (k + 1) (s.set k (g a)) (by simp at h ⊢; omega)]
    congr 1
    simp only [List.length_cons] at h
    rw [List.take_set, List.map_cons]
    have hk : k < s.length := by omega
    have : (s.take (k + 1)).set k (g a) = s.take k ++ [g a] := by
      rw [List.take_succ_eq_append_getElem hk, List.set_append_right _ _ (by rw [List.length_take]; omega), List.length_take, Nat.min_eq_left (by omega), Nat.sub_self]
      rfl
    rw [this]; simp
theorem fold_set0 {α β : Type} (g : α → β) (l : List α) (s : List β) (h : l.length = s.length) : foldE (T := Empty) (fun i s a => .inl (s.set i (g a))) 0 s l = .inl (l.map g) := by
  rw [fold_set g l 0 s (by omega)]; rfl
theorem ia_pv {b m es j : Nat} {rows : List (List PV)} {fr : Bool} {σ : Store} (h : σ[b]? = some (.pv es rows fr)) (hl : rows.length = m) (hj : j < m) : iadrSV σ es (.sl b m) (.p (.int .i64 j)) = some (.ptr b m j 0) := by
  unfold iadrSV
  simp [natOf, svec, h, Obj.dims, hl, hj]
theorem st_pv1 {σ : Store} {b m e j : Nat} {rows : List (List PV)} {v : PV} (hl : rows.length = m) (hw : ∀ x ∈ rows, x.length = 1) (hj : j < m) : stO σ b m j 0 [.p v] (some (.pv e rows false)) = some (σ.set b (.pv e (rows.set j [v]) false)) := by
  have hg : rows[j]? = some rows[j] := List.getElem?_eq_getElem (by omega)
  have h5 : (rows[j]'(by omega)).length = 1 := hw _ (List.getElem_mem _)
  have hp : putPart 0 [v] (rows[j]'(by omega)) = some [v] := by
    unfold putPart
    rw [h5, if_pos (by simp)]
    simp [List.drop_of_length_le, h5]
  simp only [stO, hl, if_true, hg, Option.bind_some, allP, Option.map_some, hp]
theorem ldT_1 {t : Term} {fr : Bool} : ldO 1 0 1 1 false (some (.pv 5 [t.row] fr)) = some (.p (.int .i64 t.w)) := by rw [Term.row_eq]; rfl
abbrev e_tw (l : List Term) (i : Int) : List (Nat × AV) := [(3, .sl 0 l.length), (9, .p (.lst (l.map Term.row))), (10, .p (.int .i64 l.length)), (11, .p (.int .i64 i))]
theorem s_term_widths (l : List Term) (hl : l.length ≤ 1000000) : R P f_term_widths [.lst (l.map Term.row)] = some (.lst ((l.map Term.w).map irow)) := by
  obtain ⟨hk, h⟩ := loop_run (P := P) (nt := 23) (lv := [3, 9, 10, 11]) (b := B0_term_widths) (rd := none) (as := l) (fun i (_ : List (List PV)) => e_tw l i) (fun s => [.pv 1 s false]) (fun i s a => s.set i (irow a.w)) (fun i s => s.length = l.length ∧ ∀ x ∈ s, x.length = 1)
    (fun i a s ha hi hs => by
      obtain ⟨hs1, hs2⟩ := hs
      have hlt : ((i : Int) < l.length) = True := by simpa using hi
      have hia := fun (o1 o2 : Obj) => ia_pv (σ := [.pv 1 s false, o1, o2]) (b := 0) (m := l.length) (j := i) rfl hs1 hi
      have hst := fun (σ : Store) => st_pv1 (σ := σ) (b := 0) (m := l.length) (e := 1) (j := i) (v := .int .i64 a.w) hs1 hs2 hi
      refine ⟨⟨by simp [hs1], fun x hx => ?_⟩, ?_⟩
      · rcases List.mem_or_eq_of_mem_set hx with hx | rfl
        · exact hs2 x hx
        · rfl
      · simp only [B0_term_widths]
        simp (disch := omega) only [eqs, eqL, ↓gc_len, seval, -List.reduceReplicate, reduceCtorEq, omap, depth, pcall, pureR, freezeFor, freezeAll, tupR, resV, purR, enterTm, number, gcOk, rangeEnd, mkTup, allP, eqM, hlt, List.length_map, v_iadr (map_get (f := Term.row) ha) a.row_len, e_tw, hia, hst, irow, ldT_1]) (fun i s => rfl) (List.replicate l.length [.int .i64 0]) ⟨by simp, fun x hx => by rw [(List.mem_replicate.1 hx).2]; rfl⟩ _ (fold_set0 (fun a : Term => irow a.w) l _ (by simp))
  have h' : loopAt P L0_term_widths (e_tw l 0) [.pv 1 (List.replicate l.length [.int .i64 0]) false] 23 none = _ := h
  simp only [e_tw] at h'
  have hm := fun (σ : Store) => mk_pv (σ := σ) (k := .i64) (es := 1) (bytes := 8) (n := l.length) (zero := [.p (.int .i64 0)]) (z := [.int .i64 0]) rfl (by omega)
  (rw [r_term_widths (Nat.le_of_ble_eq_true rfl), F_term_widths]; simp (disch := omega) only [eqs, eqL, ↓gc_len, seval, -List.reduceReplicate, reduceCtorEq, omap, depth, pcall, pureR, freezeFor, freezeAll, tupR, resV, purR, enterTm, number, gcOk, rangeEnd, mkTup, allP, eqM, List.length_map, hm, k0_term_widths, h', B0_term_widths, Int.lt_irrefl])
  simp [Function.comp_def]
theorem allP_map : ∀ ps : List PV, allP (ps.map AV.p) = some ps
  | [] => rfl
  | a :: r => by simp only [List.map_cons, allP, allP_map r, Option.map_some]
end Go.AE.S
/- Terms made: variables, constants, nodes. --M-- -/
namespace Go.AE.S
open Go Go.AE
set_option linter.unusedSimpArgs false
set_option linter.unusedVariables false
variable {τ : Tm} {σ : Store} {rd : Option Nat}
def mkConst (w x : Int) : Term := .mk 2 (clampW w) (cutW w x) (bs []) []
theorem bl_012 {k0 k1 k2 : IntKind} {a b c : Int} {z0 z1 z2 : AV} {s : ByteArray} : buildV [z0, z1, z2, .p (.str s), .nils] [(0, 1, .p (.int k0 a)), (1, 1, .p (.int k1 b)), (2, 1, .p (.int k2 c))] = some (.agg [.p (.int k0 a), .p (.int k1 b), .p (.int k2 c), .p (.str s), .nils]) := rfl
theorem bl_01s {k0 k1 : IntKind} {a b : Int} {z0 z1 z4 : AV} {v : PV} {s : ByteArray} {bb n : Nat} : buildV [z0, z1, .p v, .p (.str s), z4] [(0, 1, .p (.int k0 a)), (1, 1, .p (.int k1 b)), (4, 1, .sl bb n)] = some (.agg [.p (.int k0 a), .p (.int k1 b), .p v, .p (.str s), .sl bb n]) := rfl
theorem cut_64 {w x : Int} (hx : U64 x) (h : ¬ clampW w < 64) : cutW w x = x := by
  have hc := clamp_in w
  unfold cutW
  rw [show clampW w = 64 by omega, show (64 : Int).toNat = 64 from rfl, Nat.mod_eq_of_lt (u64_lt hx)]
  have := hx.1
  omega
theorem s_term_Const (w x : Int) (hx : U64 x) : R P f_term_Const [.int .i64 w, .int .u64 x] = some (.agg (mkConst w x).row) := by
  have h := s_term_clamp w
  have hc := clamp_in w
  by_cases h1 : clampW w < 64
  · have hs := shl_one (w := clampW w) (by omega) h1
    have hsh : arithV .shl (.p (.int .u64 1)) (.p (.int .i64 (clampW w))) = some (.p (.int .u64 (2 ^ (clampW w).toNat))) := by
      rw [v_shl (by omega), hs]
    have hpn : ((2 : Int) ^ (clampW w).toNat) = ((2 ^ (clampW w).toNat : Nat) : Int) := by simp
    have hlt : 2 ^ (clampW w).toNat < 2 ^ 64 := Nat.pow_lt_pow_right (by omega) (by omega)
    have hpos : 0 < 2 ^ (clampW w).toNat := Nat.pow_pos (by omega)
    have hsub : IntKind.u64.wrap ((2 : Int) ^ (clampW w).toNat - 1) = ((2 ^ (clampW w).toNat - 1 : Nat) : Int) := by
      rw [hpn, IntWalk.u64_in _ (by omega)]
      omega
    have hm : U64 (((2 ^ (clampW w).toNat - 1 : Nat) : Int)) := u64_nat (by omega)
    have hand := u64_and hx hm
    rw [Int.toNat_natCast, Nat.and_two_pow_sub_one_eq_mod] at hand
    (rw [r_term_Const (Nat.le_of_ble_eq_true rfl), F_term_Const]; simp (disch := omega) only [eqs, eqL, ↓gc_len, seval, -List.reduceReplicate, reduceCtorEq, omap, depth, pcall, pureR, freezeFor, freezeAll, tupR, resV, purR, enterTm, number, gcOk, rangeEnd, mkTup, allP, eqM, q_term_clamp, h, h1, hsh, hsub, v_and, hand, z5, bl_012])
    simp [mkConst, cutW, Term.row, Term.rows]
  · (rw [r_term_Const (Nat.le_of_ble_eq_true rfl), F_term_Const]; simp (disch := omega) only [eqs, eqL, ↓gc_len, seval, -List.reduceReplicate, reduceCtorEq, omap, depth, pcall, pureR, freezeFor, freezeAll, tupR, resV, purR, enterTm, number, gcOk, rangeEnd, mkTup, allP, eqM, q_term_clamp, h, h1, z5, bl_012])
    simp [mkConst, cut_64 hx h1, Term.row, Term.rows]
end Go.AE.S
