/- Terms: how much is left of budgets. --M-- -/
import Derived.Test.YthljaicehpdkbaaC0
namespace Go.AE.S
open Go Go.AE
set_option linter.unusedSimpArgs false
set_option linter.unusedVariables false
variable {τ : Tm} {σ : Store} {rd : Option Nat}
def cntV (t : Term) (d n : Int) : Int := if (t.deep : Int) ≤ d ∧ (t.count : Int) ≤ n then n - t.count else -1
def cnts (l : List Term) (d n : Int) : Int := if (Term.deeps l : Int) ≤ d ∧ (Term.counts l : Int) ≤ n then n - Term.counts l else -1
def cntF (d : Int) (_ : Nat) (s : Int) (a : Term) : Int ⊕ Unit := if 0 ≤ s then .inl (cntV a d s) else .inr ()
theorem fold_cnt (d : Int) (hd : 0 ≤ d) : ∀ (l : List Term) (i : Nat) (s : Int), 0 ≤ s → match foldE (cntF d) i s l with | .inl s' => s' = cnts l d s | .inr _ => cnts l d s = -1
  | [], i, s, hs => by
    have e1 : Term.deeps [] = 0 := rfl
    have e2 : Term.counts [] = 0 := rfl
    simp only [foldE]
    unfold cnts
    rw [if_pos (by omega)]; omega
  | a :: l, i, s, hs => by
    simp only [foldE, cntF, hs, if_true]
    by_cases h : (a.deep : Int) ≤ d ∧ (a.count : Int) ≤ s
    · have e : cntV a d s = s - a.count := by unfold cntV; rw [if_pos h]
      rw [e]
      have ih := fold_cnt d hd l (i + 1) (s - a.count) (by omega)
      have e2 : cnts (a :: l) d s = cnts l d (s - a.count) := by
        have e1 : Term.deeps (a :: l) = max a.deep (Term.deeps l) := rfl
        have e2 : Term.counts (a :: l) = a.count + Term.counts l := rfl
        unfold cnts
        by_cases h2 : (Term.deeps l : Int) ≤ d ∧ (Term.counts l : Int) ≤ s - a.count
        · rw [if_pos h2, if_pos (by omega)]; omega
        · rw [if_neg h2, if_neg (by omega)]
      rw [e2]
      exact ih
    · have e : cntV a d s = -1 := by unfold cntV; rw [if_neg h]
      have e2 : cnts (a :: l) d s = -1 := by
        have e1 : Term.deeps (a :: l) = max a.deep (Term.deeps l) := rfl
        have e2 : Term.counts (a :: l) = a.count + Term.counts l := rfl
        unfold cnts
        rw [if_neg (by omega)]
      rw [e, e2]
      cases l with
      | nil => rfl
      | cons b l => simp only [foldE, cntF, if_neg (show ¬ (0 : Int) ≤ -1 by omega)]
theorem cntV_eq (t : Term) (d n : Int) (hd : 1 ≤ d) (hn : 1 ≤ n) : cntV t d n = cnts t.args (d - 1) (n - 1) := by
  unfold cntV cnts
  rw [Term.deep_eq, Term.count_eq]
  by_cases h : ((Term.deeps t.args : Nat) : Int) ≤ d - 1 ∧ ((Term.counts t.args : Nat) : Int) ≤ n - 1
  · rw [if_pos h, if_pos (by omega)]; omega
  · rw [if_neg h, if_neg (by omega)]
theorem cntV_low (t : Term) (d n : Int) (h : d < 1 ∨ n < 1) : cntV t d n = -1 := by
  unfold cntV
  rw [Term.deep_eq, Term.count_eq, if_neg (by omega)]
theorem cntV_in (t : Term) (d n : Int) : (0 ≤ cntV t d n ∧ cntV t d n ≤ n) ∨ cntV t d n = -1 := by
  unfold cntV
  split
  · left; omega
  · right; rfl
abbrev e_ct (t : Term) (d s i : Int) : List (Nat × AV) := [(1, .p (.int .i64 d)), (2, .p (.int .i64 s)), (3, .p (.ptr t.row 0)), (7, .p (.int .i64 i))]
def outCt (r : Ex × St) : Prop := r.1 = .exit 0 ∧ r.2.τ.get 2 = .p (.int .i64 (-1)) ∧ r.2.σ = [] ∧ r.2.nt = 37
theorem s_r06_count (t : Term) : TOk t → ∀ d n : Int, d ≤ 1000000 → n ≤ 1000000 → R P f_r06_count [.agg t.row, .int .i64 d, .int .i64 n] = some (.int .i64 (cntV t d n)) := by
  induction t using Term.ind with
  | h t ih =>
  intro ht d n hd hn
  by_cases h1 : d < 1
  · rw [cntV_low t d n (.inl h1)]
    (rw [r_r06_count (Nat.le_of_ble_eq_true rfl), F_r06_count]; simp (disch := omega) only [eqs, eqL, ↓gc_len, seval, -List.reduceReplicate, reduceCtorEq, omap, depth, pcall, pureR, freezeFor, freezeAll, tupR, resV, purR, enterTm, number, gcOk, rangeEnd, mkTup, allP, eqM, h1])
  by_cases h2 : n < 1
  · rw [cntV_low t d n (.inr h2)]
    (rw [r_r06_count (Nat.le_of_ble_eq_true rfl), F_r06_count]; simp (disch := omega) only [eqs, eqL, ↓gc_len, seval, -List.reduceReplicate, reduceCtorEq, omap, depth, pcall, pureR, freezeFor, freezeAll, tupR, resV, purR, enterTm, number, gcOk, rangeEnd, mkTup, allP, eqM, h1, h2])
  rw [cntV_eq t d n (by omega) (by omega)]
  have hlen := ht.len
  have h := loop_to (P := P) (nt := 37) (lv := [1, 2, 3, 7]) (b := B0_r06_count) (rd := none) (as := t.args) (fun i (s : Int) => e_ct t d s i) (fun _ => []) (cntF (d - 1)) (fun _ => outCt) (fun i s => (0 ≤ s ∧ s ≤ 1000000) ∨ s = -1)
    (fun i a s ha hi hs => by
      have hm := List.mem_of_getElem? ha
      have hlt : ((i : Int) < t.args.length) = True := by simpa using hi
      have hw : IntKind.i64.wrap (d - 1) = d - 1 := IntWalk.i64_in _ (by omega)
      unfold cntF
      by_cases h0 : 0 ≤ s
      · have hr := ih a hm (ht.args hm) (d - 1) s (by omega) (by omega)
        have hin := cntV_in a (d - 1) s
        simp only [h0, if_true]
        refine ⟨fun s' he => (by simp only [Sum.inl.injEq] at he; subst he; omega), ?_⟩
        simp only [B0_r06_count]
        simp (disch := omega) only [eqs, eqL, ↓gc_len, seval, -List.reduceReplicate, reduceCtorEq, omap, depth, pcall, pureR, freezeFor, freezeAll, tupR, resV, purR, enterTm, number, gcOk, rangeEnd, mkTup, allP, eqM, hlt, h0, hw, List.length_map, v_iadr (map_get (f := Term.row) ha) a.row_len, q_r06_count, hr, e_ct]
      · have hs1 : s = -1 := by omega
        subst hs1
        refine ⟨fun s' he => (by simp at he), ?_⟩
        simp only [B0_r06_count]
        simp (disch := omega) only [eqs, eqL, ↓gc_len, seval, -List.reduceReplicate, reduceCtorEq, omap, depth, pcall, pureR, freezeFor, freezeAll, tupR, resV, purR, enterTm, number, gcOk, rangeEnd, mkTup, allP, eqM, hlt, h0, List.length_map, e_ct, outCt]) (fun i s => rfl) (n - 1) (by omega)
  have hw1 : IntKind.i64.wrap (n - 1) = n - 1 := IntWalk.i64_in _ (by omega)
  have hf := fold_cnt (d - 1) (by omega) t.args 0 (n - 1) (by omega)
  cases hfe : foldE (cntF (d - 1)) 0 (n - 1) t.args with
  | inr _ =>
    rw [hfe] at h hf
    obtain ⟨⟨e, τ', σ', nt', rd'⟩, g1, g2, g3, g4, g5⟩ := h
    simp only at g2 g3 g4 g5 hf
    subst g2; subst g4; subst g5
    have h' : loopAt P L0_r06_count (e_ct t d (n - 1) 0) [] 37 none = _ := g1
    simp only [e_ct] at h'
    rw [hf]
    (rw [r_r06_count (Nat.le_of_ble_eq_true rfl), F_r06_count]; simp (disch := omega) only [eqs, eqL, ↓gc_len, seval, -List.reduceReplicate, reduceCtorEq, omap, depth, pcall, pureR, freezeFor, freezeAll, tupR, resV, purR, enterTm, number, gcOk, rangeEnd, mkTup, allP, eqM, h1, h2, hw1, k0_r06_count, h', g3])
  | inl s' =>
    rw [hfe] at h hf
    simp only at hf
    obtain ⟨hk, g1⟩ := h
    have h' : loopAt P L0_r06_count (e_ct t d (n - 1) 0) [] 37 none = _ := g1
    simp only [e_ct] at h'
    rw [← hf]
    (rw [r_r06_count (Nat.le_of_ble_eq_true rfl), F_r06_count]; simp (disch := omega) only [eqs, eqL, ↓gc_len, seval, -List.reduceReplicate, reduceCtorEq, omap, depth, pcall, pureR, freezeFor, freezeAll, tupR, resV, purR, enterTm, number, gcOk, rangeEnd, mkTup, allP, eqM, h1, h2, hw1, k0_r06_count, h', B0_r06_count, Int.lt_irrefl, List.length_map])
def measV (t : Term) (n d : Int) : List PV := if (t.deep : Int) ≤ d ∧ (t.count : Int) ≤ n then [.int .i64 (n - t.count), .bool true] else [.int .i64 0, .bool false]
def mF (d : Int) (_ : Nat) (s : Int) (a : Term) : Int ⊕ Unit := if (a.deep : Int) ≤ d ∧ (a.count : Int) ≤ s then .inl (s - a.count) else .inr ()
theorem fold_m (d : Int) : ∀ (l : List Term) (i : Nat) (s : Int), foldE (mF d) i s l = if (((Term.deeps l : Nat) : Int) ≤ d ∧ ((Term.counts l : Nat) : Int) ≤ s) ∨ l = [] then .inl (s - Term.counts l) else .inr ()
  | [], i, s => by
    have e2 : Term.counts [] = 0 := rfl
    rw [if_pos (.inr rfl), e2]
    simp [foldE]
  | a :: l, i, s => by
    have e1 : Term.deeps (a :: l) = max a.deep (Term.deeps l) := rfl
    have e2 : Term.counts (a :: l) = a.count + Term.counts l := rfl
    have hne : ¬ a :: l = [] := by simp
    simp only [foldE, mF]
    by_cases h : (a.deep : Int) ≤ d ∧ (a.count : Int) ≤ s
    · simp only [h, and_self, if_true]
      rw [fold_m d l (i + 1)]
      by_cases h2 : l = []
      · subst h2
        have e3 : Term.deeps [] = 0 := rfl
        have e4 : Term.counts [] = 0 := rfl
        rw [if_pos (.inr rfl), if_pos (.inl (by omega))]
        congr 1; omega
      · by_cases h3 : ((Term.deeps l : Nat) : Int) ≤ d ∧ ((Term.counts l : Nat) : Int) ≤ s - a.count
        · rw [if_pos (.inl h3), if_pos (.inl (by omega))]
          congr 1; omega
        · rw [if_neg (fun h => h.elim h3 h2), if_neg (fun h => h.elim (fun h => h3 (by omega)) hne)]
    · rw [if_neg h, if_neg (fun h' => h'.elim (fun h' => h (by omega)) hne)]
abbrev e_ms (t : Term) (d s i : Int) : List (Nat × AV) := [(1, .p (.int .i64 s)), (2, .p (.int .i64 d)), (21, .p (.lst (t.args.map Term.row))), (22, .p (.int .i64 t.args.length)), (23, .p (.int .i64 i))]
def outMs (r : Ex × St) : Prop := r.1 = .ret ∧ r.2.τ.get 6 = .p (.int .i64 0) ∧ r.2.τ.get 7 = .p (.bool false) ∧ r.2.σ = []
theorem s_term_measure (t : Term) : TOk t → ∀ n d : Int, d ≤ 1000000 → n ≤ 1000000 → R P f_term_measure [.agg t.row, .int .i64 n, .int .i64 d] = some (.tup (measV t n d)) := by
  induction t using Term.ind with
  | h t ih =>
  intro ht n d hd hn
  have hde := Term.deep_eq t
  have hco := Term.count_eq t
  by_cases h1 : n < 1
  · have e : measV t n d = [.int .i64 0, .bool false] := by unfold measV; rw [if_neg (by omega)]
    rw [e]
    (rw [r_term_measure (Nat.le_of_ble_eq_true rfl), F_term_measure]; simp (disch := omega) only [eqs, eqL, ↓gc_len, seval, -List.reduceReplicate, reduceCtorEq, omap, depth, pcall, pureR, freezeFor, freezeAll, tupR, resV, purR, enterTm, number, gcOk, rangeEnd, mkTup, allP, eqM, h1])
  by_cases h2 : d < 1
  · have e : measV t n d = [.int .i64 0, .bool false] := by unfold measV; rw [if_neg (by omega)]
    rw [e]
    (rw [r_term_measure (Nat.le_of_ble_eq_true rfl), F_term_measure]; simp (disch := omega) only [eqs, eqL, ↓gc_len, seval, -List.reduceReplicate, reduceCtorEq, omap, depth, pcall, pureR, freezeFor, freezeAll, tupR, resV, purR, enterTm, number, gcOk, rangeEnd, mkTup, allP, eqM, h1, h2])
  have hlen := ht.len
  have h := loop_to (P := P) (nt := 40) (lv := [1, 2, 21, 22, 23]) (b := B0_term_measure) (rd := none) (as := t.args) (fun i (s : Int) => e_ms t d s i) (fun _ => []) (mF (d - 1)) (fun _ => outMs) (fun i s => 0 ≤ s ∧ s ≤ 1000000)
    (fun i a s ha hi hs => by
      have hm := List.mem_of_getElem? ha
      have hlt : ((i : Int) < t.args.length) = True := by simpa using hi
      have hw : IntKind.i64.wrap (d - 1) = d - 1 := IntWalk.i64_in _ (by omega)
      have hr := ih a hm (ht.args hm) s (d - 1) (by omega) (by omega)
      unfold mF
      unfold measV at hr
      by_cases h0 : (a.deep : Int) ≤ d - 1 ∧ (a.count : Int) ≤ s
      · rw [if_pos h0] at hr
        rw [if_pos h0]
        refine ⟨fun s' he => (by simp only [Sum.inl.injEq] at he; subst he; omega), ?_⟩
        simp only [B0_term_measure]
        simp (disch := omega) only [eqs, eqL, ↓gc_len, seval, -List.reduceReplicate, reduceCtorEq, omap, depth, pcall, pureR, freezeFor, freezeAll, tupR, resV, purR, enterTm, number, gcOk, rangeEnd, mkTup, allP, eqM, hlt, hw, v_iadr (map_get (f := Term.row) ha) a.row_len, q_term_measure, hr, e_ms]
      · rw [if_neg h0] at hr
        rw [if_neg h0]
        refine ⟨fun s' he => (by simp at he), ?_⟩
        simp only [B0_term_measure]
        simp (disch := omega) only [eqs, eqL, ↓gc_len, seval, -List.reduceReplicate, reduceCtorEq, omap, depth, pcall, pureR, freezeFor, freezeAll, tupR, resV, purR, enterTm, number, gcOk, rangeEnd, mkTup, allP, eqM, hlt, hw, v_iadr (map_get (f := Term.row) ha) a.row_len, q_term_measure, hr, e_ms, outMs]) (fun i s => rfl) (n - 1) (by omega)
  have hw1 : IntKind.i64.wrap (n - 1) = n - 1 := IntWalk.i64_in _ (by omega)
  rw [fold_m] at h
  by_cases hc : ((Term.deeps t.args : Nat) : Int) ≤ d - 1 ∧ ((Term.counts t.args : Nat) : Int) ≤ n - 1 ∨ t.args = []
  · rw [if_pos hc] at h
    obtain ⟨hk, g1⟩ := h
    have h' : loopAt P L0_term_measure (e_ms t d (n - 1) 0) [] 40 none = _ := g1
    simp only [e_ms] at h'
    have e : measV t n d = [.int .i64 (n - 1 - Term.counts t.args), .bool true] := by
      unfold measV
      have hd0 : t.args = [] → Term.deeps t.args = 0 ∧ Term.counts t.args = 0 := fun h => by rw [h]; exact ⟨rfl, rfl⟩
      rw [if_pos (by rcases hc with hc | hc; omega; have := hd0 hc; omega)]
      congr 2; omega
    rw [e]
    (rw [r_term_measure (Nat.le_of_ble_eq_true rfl), F_term_measure]; simp (disch := omega) only [eqs, eqL, ↓gc_len, seval, -List.reduceReplicate, reduceCtorEq, omap, depth, pcall, pureR, freezeFor, freezeAll, tupR, resV, purR, enterTm, number, gcOk, rangeEnd, mkTup, allP, eqM, h1, h2, hw1, List.length_map, k0_term_measure, h', B0_term_measure, Int.lt_irrefl])
  · rw [if_neg hc] at h
    obtain ⟨⟨e, τ', σ', nt', rd'⟩, g1, g2, g3, g4, g5⟩ := h
    simp only at g2 g3 g4 g5
    subst g2; subst g5
    have h' : loopAt P L0_term_measure (e_ms t d (n - 1) 0) [] 40 none = _ := g1
    simp only [e_ms] at h'
    have e : measV t n d = [.int .i64 0, .bool false] := by
      unfold measV
      rw [if_neg (by simp only [not_or] at hc; omega)]
    rw [e]
    (rw [r_term_measure (Nat.le_of_ble_eq_true rfl), F_term_measure]; simp (disch := omega) only [eqs, eqL, ↓gc_len, seval, -List.reduceReplicate, reduceCtorEq, omap, depth, pcall, pureR, freezeFor, freezeAll, tupR, resV, purR, enterTm, number, gcOk, rangeEnd, mkTup, allP, eqM, h1, h2, hw1, List.length_map, k0_term_measure, h', g3, g4])
def lightV (t : Term) (d n : Int) : List PV := if (t.deep : Int) ≤ d ∧ (t.count : Int) ≤ n then [.agg t.row, .bool true] else [.agg zT.row, .bool false]
theorem s_r06_Light (t : Term) (ht : TOk t) (d n : Int) (hd : d ≤ 1000000) (hn : n ≤ 1000000) : R P f_r06_Light [.agg t.row, .int .i64 d, .int .i64 n] = some (.tup (lightV t d n)) := by
  have h := s_r06_count t ht d n hd hn
  unfold lightV
  by_cases hc : (t.deep : Int) ≤ d ∧ (t.count : Int) ≤ n
  · have h0 : (cntV t d n < 0) = False := by unfold cntV; rw [if_pos hc]; simp; omega
    rw [if_pos hc]
    (rw [r_r06_Light (Nat.le_of_ble_eq_true rfl), F_r06_Light]; simp (disch := omega) only [eqs, eqL, ↓gc_len, seval, -List.reduceReplicate, reduceCtorEq, omap, depth, pcall, pureR, freezeFor, freezeAll, tupR, resV, purR, enterTm, number, gcOk, rangeEnd, mkTup, allP, eqM, q_r06_count, h, h0, z5])
  · have h0 : (cntV t d n < 0) = True := by unfold cntV; rw [if_neg hc]; simp
    rw [if_neg hc]
    (rw [r_r06_Light (Nat.le_of_ble_eq_true rfl), F_r06_Light]; simp (disch := omega) only [eqs, eqL, ↓gc_len, seval, -List.reduceReplicate, reduceCtorEq, omap, depth, pcall, pureR, freezeFor, freezeAll, tupR, resV, purR, enterTm, number, gcOk, rangeEnd, mkTup, allP, eqM, q_r06_count, h, h0, z5])
    simp [zT_row]
end Go.AE.S
/- Terms: sameness. --M-- -/
namespace Go.AE.S
open Go Go.AE
set_option linter.unusedSimpArgs false
set_option linter.unusedVariables false
variable {τ : Tm} {σ : Store} {rd : Option Nat}
abbrev e_sa (l m : List Term) (i : Int) : List (Nat × AV) := [(0, .p (.lst (l.map Term.row))), (1, .p (.lst (m.map Term.row))), (5, .p (.int .i64 i))]
theorem gc_02 {vs : List AV} {a b : Obj} : gc 0 vs [a, b] = if gcOk 0 vs [a, b] = true then [] else [a, b] := by unfold gc; rw [if_neg (by simp)]; rfl
theorem s_SameAll_of (l m : List Term) (hl : l.length ≤ 9223372036854775807) (ih : ∀ a ∈ l, ∀ b ∈ m, R P f_r06_Same [.agg a.row, .agg b.row] = some (.bool (a.beq b))) :
    R P f_r06_SameAll [.lst (l.map Term.row), .lst (m.map Term.row)] = some (.bool (Term.beqs l m)) := by
  rcases Classical.propComplete (((l.length : Nat) : Int) = ((m.length : Nat) : Int)) with h1 | h1
  rotate_left
  · rw [Term.beqs_len (fun h => of_eq_false h1 (by rw [h]))]
    (rw [r_r06_SameAll (Nat.le_of_ble_eq_true rfl), F_r06_SameAll]; simp (disch := omega) only [eqs, eqL, ↓gc_len, seval, -List.reduceReplicate, reduceCtorEq, omap, depth, pcall, pureR, freezeFor, freezeAll, tupR, resV, purR, enterTm, number, gcOk, rangeEnd, mkTup, allP, eqM, List.length_map, h1])
  have hlm : l.length = m.length := by have := of_eq_true h1; omega
  have hz : (l.zip m).length = l.length := by rw [List.length_zip]; omega
  have h := loop_to (P := P) (nt := 27) (lv := [0, 1, 5]) (b := B0_r06_SameAll) (rd := none) (as := l.zip m) (fun i (_ : Unit) => e_sa l m i) (fun _ => []) (fun _ _ x => if x.1.beq x.2 = true then .inl () else .inr ()) (fun (_ : Unit) => ret1 4 (.bool false) []) (fun _ _ => True)
    (fun i x s ha hi hs => by
      obtain ⟨g1, g2⟩ := zip_get ha
      have hr := ih x.1 (List.mem_of_getElem? g1) x.2 (List.mem_of_getElem? g2)
      have hlt : ((i : Int) < l.length) = True := by rw [hz] at hi; simpa using hi
      have hx1 := fun σ => v_iadr (k := .i64) (es := 5) (σ := σ) (map_get (f := Term.row) g1) x.1.row_len
      have hx2 := fun σ => v_iadr (k := .i64) (es := 5) (σ := σ) (map_get (f := Term.row) g2) x.2.row_len
      refine ⟨fun _ _ => trivial, ?_⟩
      cases hb : x.1.beq x.2 with
      | true =>
        rw [hb] at hr
        simp only [B0_r06_SameAll, if_true]
        simp (disch := omega) only [eqs, eqL, ↓gc_len, seval, -List.reduceReplicate, reduceCtorEq, omap, depth, pcall, pureR, freezeFor, freezeAll, tupR, resV, purR, enterTm, number, gcOk, rangeEnd, mkTup, allP, eqM, hlt, List.length_map, hx1, hx2, q_r06_Same, hr, e_sa]
      | false =>
        rw [hb] at hr
        simp only [B0_r06_SameAll, Bool.false_eq_true, if_false]
        simp (disch := omega) only [eqs, eqL, ↓gc_len, seval, -List.reduceReplicate, reduceCtorEq, omap, depth, pcall, pureR, freezeFor, freezeAll, tupR, resV, purR, enterTm, number, gcOk, rangeEnd, mkTup, allP, eqM, hlt, List.length_map, hx1, hx2, q_r06_Same, hr, e_sa, ret1]) (fun i s => rfl) () trivial
  rw [fold_allG (fun x : Term × Term => x.1.beq x.2), Term.beqs_zip hlm, hz] at h
  cases hb : Term.beqs l m with
  | true =>
    rw [hb] at h
    obtain ⟨_, g1⟩ := h
    have h' : loopAt P L0_r06_SameAll (e_sa l m 0) [] 27 none = _ := g1
    simp only [e_sa] at h'
    (rw [r_r06_SameAll (Nat.le_of_ble_eq_true rfl), F_r06_SameAll]; simp (disch := omega) only [eqs, eqL, ↓gc_len, seval, -List.reduceReplicate, reduceCtorEq, omap, depth, pcall, pureR, freezeFor, freezeAll, tupR, resV, purR, enterTm, number, gcOk, rangeEnd, mkTup, allP, eqM, List.length_map, h1, k0_r06_SameAll, h', B0_r06_SameAll, Int.lt_irrefl])
  | false =>
    rw [hb] at h
    obtain ⟨⟨e, τ', σ', nt', rd'⟩, g1, g2, g3, g4⟩ := h
    simp only at g2 g3 g4
    subst g2; subst g4
    have h' : loopAt P L0_r06_SameAll (e_sa l m 0) [] 27 none = _ := g1
    simp only [e_sa] at h'
    (rw [r_r06_SameAll (Nat.le_of_ble_eq_true rfl), F_r06_SameAll]; simp (disch := omega) only [eqs, eqL, ↓gc_len, seval, -List.reduceReplicate, reduceCtorEq, omap, depth, pcall, pureR, freezeFor, freezeAll, tupR, resV, purR, enterTm, number, gcOk, rangeEnd, mkTup, allP, eqM, List.length_map, h1, k0_r06_SameAll, h', g3])
theorem s_r06_Same (t : Term) : TOk t → ∀ u : Term, R P f_r06_Same [.agg t.row, .agg u.row] = some (.bool (t.beq u)) := by
  induction t using Term.ind with
  | h t ih =>
  intro ht u
  rw [Term.beq_eq]
  have hA := s_SameAll_of t.args u.args ht.len (fun a ha b _ => ih a ha (ht.args ha) b)
  rcases Classical.propComplete (t.op = u.op) with h1 | h1
  rotate_left
  · (rw [r_r06_Same (Nat.le_of_ble_eq_true rfl), F_r06_Same]; simp (disch := omega) only [eqs, eqL, ↓gc_len, seval, -List.reduceReplicate, reduceCtorEq, omap, depth, pcall, pureR, freezeFor, freezeAll, tupR, resV, purR, enterTm, number, gcOk, rangeEnd, mkTup, allP, eqM, h1, Bool.false_and])
  rcases Classical.propComplete (t.w = u.w) with h2 | h2
  rotate_left
  · (rw [r_r06_Same (Nat.le_of_ble_eq_true rfl), F_r06_Same]; simp (disch := omega) only [eqs, eqL, ↓gc_len, seval, -List.reduceReplicate, reduceCtorEq, omap, depth, pcall, pureR, freezeFor, freezeAll, tupR, resV, purR, enterTm, number, gcOk, rangeEnd, mkTup, allP, eqM, h1, h2, Bool.false_and])
  rcases Classical.propComplete (t.v = u.v) with h3 | h3
  rotate_left
  · (rw [r_r06_Same (Nat.le_of_ble_eq_true rfl), F_r06_Same]; simp (disch := omega) only [eqs, eqL, ↓gc_len, seval, -List.reduceReplicate, reduceCtorEq, omap, depth, pcall, pureR, freezeFor, freezeAll, tupR, resV, purR, enterTm, number, gcOk, rangeEnd, mkTup, allP, eqM, h1, h2, h3, Bool.false_and])
  rcases Classical.propComplete (t.name = u.name) with h4 | h4
  rotate_left
  · (rw [r_r06_Same (Nat.le_of_ble_eq_true rfl), F_r06_Same]; simp (disch := omega) only [eqs, eqL, ↓gc_len, seval, -List.reduceReplicate, reduceCtorEq, omap, depth, pcall, pureR, freezeFor, freezeAll, tupR, resV, purR, enterTm, number, gcOk, rangeEnd, mkTup, allP, eqM, h1, h2, h3, h4, Bool.false_and])
  (rw [r_r06_Same (Nat.le_of_ble_eq_true rfl), F_r06_Same]; simp (disch := omega) only [eqs, eqL, ↓gc_len, seval, -List.reduceReplicate, reduceCtorEq, omap, depth, pcall, pureR, freezeFor, freezeAll, tupR, resV, purR, enterTm, number, gcOk, rangeEnd, mkTup, allP, eqM, h1, h2, h3, h4, q_r06_SameAll, hA, Bool.false_and])
theorem s_r06_SameAll (l m : List Term) (hl : l.length ≤ 9223372036854775807) (ht : ∀ a ∈ l, TOk a) : R P f_r06_SameAll [.lst (l.map Term.row), .lst (m.map Term.row)] = some (.bool (Term.beqs l m)) :=
  s_SameAll_of l m hl fun a ha b _ => s_r06_Same a (ht a ha) b
abbrev e_eqf (l m : List Term) (i : Int) : List (Nat × AV) := [(1, .p (.lst (m.map Term.row))), (2, .p (.fn f_term_Same [])), (15, .p (.lst (l.map Term.row))), (16, .p (.int .i64 l.length)), (17, .p (.int .i64 i))]
theorem s_EqualFunc_of (l m : List Term) (hl : l.length ≤ 9223372036854775807) (ih : ∀ a ∈ l, ∀ b ∈ m, R P f_term_Same [.agg a.row, .agg b.row] = some (.bool (a.beq b))) :
    R P f_slices_EqualFunc_api_Term_api_Term_api_Term_api_Term [.lst (l.map Term.row), .lst (m.map Term.row), .fn f_term_Same []] = some (.bool (Term.beqs l m)) := by
  rcases Classical.propComplete (((l.length : Nat) : Int) = ((m.length : Nat) : Int)) with h1 | h1
  rotate_left
  · rw [Term.beqs_len (fun h => of_eq_false h1 (by rw [h]))]
    (rw [r_slices_EqualFunc_api_Term_api_Term_api_Term_api_Term (Nat.le_of_ble_eq_true rfl), F_slices_EqualFunc_api_Term_api_Term_api_Term_api_Term]; simp (disch := omega) only [eqs, eqL, ↓gc_len, seval, -List.reduceReplicate, reduceCtorEq, omap, depth, pcall, pureR, freezeFor, freezeAll, tupR, resV, purR, enterTm, number, gcOk, rangeEnd, mkTup, allP, eqM, List.length_map, h1])
  have hlm : l.length = m.length := by have := of_eq_true h1; omega
  have hz : (l.zip m).length = l.length := by rw [List.length_zip]; omega
  have h := loop_to (P := P) (nt := 32) (lv := [1, 2, 15, 16, 17]) (b := B0_slices_EqualFunc_api_Term_api_Term_api_Term_api_Term) (rd := none) (as := l.zip m) (fun i (_ : Unit) => e_eqf l m i) (fun _ => []) (fun _ _ x => if x.1.beq x.2 = true then .inl () else .inr ()) (fun (_ : Unit) r => r.1 = .ret ∧ r.2.τ.get 6 = .p (.bool false)) (fun _ _ => True)
    (fun i x s ha hi hs => by
      obtain ⟨g1, g2⟩ := zip_get ha
      have hr := ih x.1 (List.mem_of_getElem? g1) x.2 (List.mem_of_getElem? g2)
      have hlt : ((i : Int) < l.length) = True := by rw [hz] at hi; simpa using hi
      have hx1 := fun σ => v_iadr (k := .i64) (es := 5) (σ := σ) (map_get (f := Term.row) g1) x.1.row_len
      have hx2 := fun σ => v_iadr (k := .i64) (es := 5) (σ := σ) (map_get (f := Term.row) g2) x.2.row_len
      refine ⟨fun _ _ => trivial, ?_⟩
      cases hb : x.1.beq x.2 with
      | true =>
        rw [hb] at hr
        simp only [B0_slices_EqualFunc_api_Term_api_Term_api_Term_api_Term, if_true]
        simp (disch := omega) only [eqs, eqL, ↓gc_len, seval, -List.reduceReplicate, reduceCtorEq, omap, depth, pcall, pureR, freezeFor, freezeAll, tupR, resV, purR, enterTm, number, gcOk, rangeEnd, mkTup, allP, eqM, hlt, List.length_map, hx1, hx2, q_term_Same, hr, e_eqf, gc_02]
      | false =>
        rw [hb] at hr
        simp only [B0_slices_EqualFunc_api_Term_api_Term_api_Term_api_Term, Bool.false_eq_true, if_false]
        simp (disch := omega) only [eqs, eqL, ↓gc_len, seval, -List.reduceReplicate, reduceCtorEq, omap, depth, pcall, pureR, freezeFor, freezeAll, tupR, resV, purR, enterTm, number, gcOk, rangeEnd, mkTup, allP, eqM, hlt, List.length_map, hx1, hx2, q_term_Same, hr, e_eqf, gc_02]) (fun i s => rfl) () trivial
  rw [fold_allG (fun x : Term × Term => x.1.beq x.2), Term.beqs_zip hlm, hz] at h
  cases hb : Term.beqs l m with
  | true =>
    rw [hb] at h
    obtain ⟨_, g1⟩ := h
    have h' : loopAt P L0_slices_EqualFunc_api_Term_api_Term_api_Term_api_Term (e_eqf l m 0) [] 32 none = _ := g1
    simp only [e_eqf] at h'
    (rw [r_slices_EqualFunc_api_Term_api_Term_api_Term_api_Term (Nat.le_of_ble_eq_true rfl), F_slices_EqualFunc_api_Term_api_Term_api_Term_api_Term]; simp (disch := omega) only [eqs, eqL, ↓gc_len, seval, -List.reduceReplicate, reduceCtorEq, omap, depth, pcall, pureR, freezeFor, freezeAll, tupR, resV, purR, enterTm, number, gcOk, rangeEnd, mkTup, allP, eqM, List.length_map, h1, k0_slices_EqualFunc_api_Term_api_Term_api_Term_api_Term, h', B0_slices_EqualFunc_api_Term_api_Term_api_Term_api_Term, Int.lt_irrefl])
  | false =>
    rw [hb] at h
    obtain ⟨⟨e, τ', σ', nt', rd'⟩, g1, g2, g3⟩ := h
    simp only at g2 g3
    subst g2
    have h' : loopAt P L0_slices_EqualFunc_api_Term_api_Term_api_Term_api_Term (e_eqf l m 0) [] 32 none = _ := g1
    simp only [e_eqf] at h'
    (rw [r_slices_EqualFunc_api_Term_api_Term_api_Term_api_Term (Nat.le_of_ble_eq_true rfl), F_slices_EqualFunc_api_Term_api_Term_api_Term_api_Term]; simp (disch := omega) only [eqs, eqL, ↓gc_len, seval, -List.reduceReplicate, reduceCtorEq, omap, depth, pcall, pureR, freezeFor, freezeAll, tupR, resV, purR, enterTm, number, gcOk, rangeEnd, mkTup, allP, eqM, List.length_map, h1, k0_slices_EqualFunc_api_Term_api_Term_api_Term_api_Term, h', g3])
theorem s_term_Same (t : Term) : TOk t → ∀ u : Term, R P f_term_Same [.agg t.row, .agg u.row] = some (.bool (t.beq u)) := by
  induction t using Term.ind with
  | h t ih =>
  intro ht u
  rw [Term.beq_eq]
  have hA := s_EqualFunc_of t.args u.args ht.len (fun a ha b _ => ih a ha (ht.args ha) b)
  rcases Classical.propComplete (t.op = u.op) with h1 | h1
  rotate_left
  · (rw [r_term_Same (Nat.le_of_ble_eq_true rfl), F_term_Same]; simp (disch := omega) only [eqs, eqL, ↓gc_len, seval, -List.reduceReplicate, reduceCtorEq, omap, depth, pcall, pureR, freezeFor, freezeAll, tupR, resV, purR, enterTm, number, gcOk, rangeEnd, mkTup, allP, eqM, h1, Bool.false_and])
  rcases Classical.propComplete (t.w = u.w) with h2 | h2
  rotate_left
  · (rw [r_term_Same (Nat.le_of_ble_eq_true rfl), F_term_Same]; simp (disch := omega) only [eqs, eqL, ↓gc_len, seval, -List.reduceReplicate, reduceCtorEq, omap, depth, pcall, pureR, freezeFor, freezeAll, tupR, resV, purR, enterTm, number, gcOk, rangeEnd, mkTup, allP, eqM, h1, h2, Bool.false_and])
  rcases Classical.propComplete (t.v = u.v) with h3 | h3
  rotate_left
  · (rw [r_term_Same (Nat.le_of_ble_eq_true rfl), F_term_Same]; simp (disch := omega) only [eqs, eqL, ↓gc_len, seval, -List.reduceReplicate, reduceCtorEq, omap, depth, pcall, pureR, freezeFor, freezeAll, tupR, resV, purR, enterTm, number, gcOk, rangeEnd, mkTup, allP, eqM, h1, h2, h3, Bool.false_and])
  rcases Classical.propComplete (t.name = u.name) with h4 | h4
  rotate_left
  · (rw [r_term_Same (Nat.le_of_ble_eq_true rfl), F_term_Same]; simp (disch := omega) only [eqs, eqL, ↓gc_len, seval, -List.reduceReplicate, reduceCtorEq, omap, depth, pcall, pureR, freezeFor, freezeAll, tupR, resV, purR, enterTm, number, gcOk, rangeEnd, mkTup, allP, eqM, h1, h2, h3, h4, Bool.false_and])
  (rw [r_term_Same (Nat.le_of_ble_eq_true rfl), F_term_Same]; simp (disch := omega) only [eqs, eqL, ↓gc_len, seval, -List.reduceReplicate, reduceCtorEq, omap, depth, pcall, pureR, freezeFor, freezeAll, tupR, resV, purR, enterTm, number, gcOk, rangeEnd, mkTup, allP, eqM, h1, h2, h3, h4, q_slices_EqualFunc_api_Term_api_Term_api_Term_api_Term, hA, Bool.false_and])
end Go.AE.S
/- Terms made. --M-- -/
namespace Go.AE.S
open Go Go.AE
set_option linter.unusedSimpArgs false
set_option linter.unusedVariables false
variable {τ : Tm} {σ : Store} {rd : Option Nat}
theorem fold_set {α β : Type} (g : α → β) : ∀ (l : List α) (k : Nat) (s : List β), k + l.length = s.length → foldE (T := Empty) (fun i s a => .inl (s.set i (g a))) k s l = .inl (s.take k ++ l.map g)
  | [], k, s, h => by simp only [foldE, List.map_nil, List.append_nil]; rw [List.take_of_length_le (by simp at h; omega)]
  | a :: l, k, s, h => by
    simp only [foldE]
    rw [fold_set g l (k + 1) (s.set k (g a)) (by simp at h ⊢; omega)]
    congr 1
    simp only [List.length_cons] at h
    rw [List.take_set, List.map_cons]
    have hk : k < s.length := by omega
    have : (s.take (k + 1)).set k (g a) = s.take k ++ [g a] := by
      rw [List.take_succ_eq_append_getElem hk, List.set_append_right _ _ (by rw [List.length_take]; omega), List.length_take, Nat.min_eq_left (by omega), Nat.sub_self]
      rfl
    rw [this]; simp
theorem fold_set0 {α β : Type} (g : α → β) (l : List α) (s : List β) (h : l.length = s.length) : foldE (T := Empty) (fun i s a => .inl (s.set i (g a))) 0 s l = .inl (l.map g) := by
  rw [fold_set g l 0 s (by omega)]; rfl
theorem ia_pv {b m es j : Nat} {rows : List (List PV)} {fr : Bool} {σ : Store} (h : σ[b]? = some (.pv es rows fr)) (hl : rows.length = m) (hj : j < m) : iadrSV σ es (.sl b m) (.p (.int .i64 j)) = some (.ptr b m j 0) := by
  unfold iadrSV
  simp [natOf, svec, h, Obj.dims, hl, hj]
theorem st_pv1 {σ : Store} {b m e j : Nat} {rows : List (List PV)} {v : PV} (hl : rows.length = m) (hw : ∀ x ∈ rows, x.length = 1) (hj : j < m) : stO σ b m j 0 [.p v] (some (.pv e rows false)) = some (σ.set b (.pv e (rows.set j [v]) false)) := by
  have hg : rows[j]? = some rows[j] := List.getElem?_eq_getElem (by omega)
  have h5 : (rows[j]'(by omega)).length = 1 := hw _ (List.getElem_mem _)
  have hp : putPart 0 [v] (rows[j]'(by omega)) = some [v] := by
    unfold putPart
    rw [h5, if_pos (by simp)]
    simp [List.drop_of_length_le, h5]
  simp only [stO, hl, if_true, hg, Option.bind_some, allP, Option.map_some, hp]
theorem ldT_1 {t : Term} {fr : Bool} : ldO 1 0 1 1 false (some (.pv 5 [t.row] fr)) = some (.p (.int .i64 t.w)) := by rw [Term.row_eq]; rfl
abbrev e_tw (l : List Term) (i : Int) : List (Nat × AV) := [(3, .sl 0 l.length), (9, .p (.lst (l.map Term.row))), (10, .p (.int .i64 l.length)), (11, .p (.int .i64 i))]
theorem s_term_widths (l : List Term) (hl : l.length ≤ 1000000) : R P f_term_widths [.lst (l.map Term.row)] = some (.lst ((l.map Term.w).map irow)) := by
  obtain ⟨hk, h⟩ := loop_run (P := P) (nt := 23) (lv := [3, 9, 10, 11]) (b := B0_term_widths) (rd := none) (as := l) (fun i (_ : List (List PV)) => e_tw l i) (fun s => [.pv 1 s false]) (fun i s a => s.set i (irow a.w)) (fun i s => s.length = l.length ∧ ∀ x ∈ s, x.length = 1)
    (fun i a s ha hi hs => by
      obtain ⟨hs1, hs2⟩ := hs
      have hlt : ((i : Int) < l.length) = True := by simpa using hi
      have hia := fun (o1 o2 : Obj) => ia_pv (σ := [.pv 1 s false, o1, o2]) (b := 0) (m := l.length) (j := i) rfl hs1 hi
      have hst := fun (σ : Store) => st_pv1 (σ := σ) (b := 0) (m := l.length) (e := 1) (j := i) (v := .int .i64 a.w) hs1 hs2 hi
      refine ⟨⟨by simp [hs1], fun x hx => ?_⟩, ?_⟩
      · rcases List.mem_or_eq_of_mem_set hx with hx | rfl
        · exact hs2 x hx
        · rfl
      · simp only [B0_term_widths]
        simp (disch := omega) only [eqs, eqL, ↓gc_len, seval, -List.reduceReplicate, reduceCtorEq, omap, depth, pcall, pureR, freezeFor, freezeAll, tupR, resV, purR, enterTm, number, gcOk, rangeEnd, mkTup, allP, eqM, hlt, List.length_map, v_iadr (map_get (f := Term.row) ha) a.row_len, e_tw, hia, hst, irow, ldT_1]) (fun i s => rfl) (List.replicate l.length [.int .i64 0]) ⟨by simp, fun x hx => by rw [(List.mem_replicate.1 hx).2]; rfl⟩ _ (fold_set0 (fun a : Term => irow a.w) l _ (by simp))
  have h' : loopAt P L0_term_widths (e_tw l 0) [.pv 1 (List.replicate l.length [.int .i64 0]) false] 23 none = _ := h
  simp only [e_tw] at h'
  have hm := fun (σ : Store) => mk_pv (σ := σ) (k := .i64) (es := 1) (bytes := 8) (n := l.length) (zero := [.p (.int .i64 0)]) (z := [.int .i64 0]) rfl (by omega)
  (rw [r_term_widths (Nat.le_of_ble_eq_true rfl), F_term_widths]; simp (disch := omega) only [eqs, eqL, ↓gc_len, seval, -List.reduceReplicate, reduceCtorEq, omap, depth, pcall, pureR, freezeFor, freezeAll, tupR, resV, purR, enterTm, number, gcOk, rangeEnd, mkTup, allP, eqM, List.length_map, hm, k0_term_widths, h', B0_term_widths, Int.lt_irrefl])
  simp [Function.comp_def]
/-- The object that holds rows. -/
def objM (rows : List (List AV)) : Obj := match rows with
  | [r] => match allP r with
    | some ps => .pv 5 [ps] false
    | none => .av 5 [r] false
  | rows => .av 5 rows false
theorem objM_dims (rows : List (List AV)) : (objM rows).dims = some (5, rows.length) := by
  unfold objM
  split
  · split <;> rfl
  · rfl
theorem ia_M {b m j : Nat} {rows : List (List AV)} {σ : Store} (h : σ[b]? = some (objM rows)) (hl : rows.length = m) (hj : j < m) : iadrSV σ 5 (.sl b m) (.p (.int .i64 j)) = some (.ptr b m j 0) := by
  unfold iadrSV
  simp [natOf, svec, h, objM_dims, hl, hj]
theorem allP_inv : ∀ {cs : List AV} {ps : List PV}, allP cs = some ps → cs = ps.map AV.p
  | [], ps, h => by simp only [allP, Option.some.injEq] at h; subst h; rfl
  | c :: cs, ps, h => by
    cases c <;> simp only [allP, reduceCtorEq] at h
    obtain ⟨qs, hq, rfl⟩ := Option.map_eq_some_iff.1 h
    rw [allP_inv hq]; rfl
theorem allP_map : ∀ ps : List PV, allP (ps.map AV.p) = some ps
  | [] => rfl
  | a :: r => by simp only [List.map_cons, allP, allP_map r, Option.map_some]
theorem putAll {α : Type} {new row : List α} (h : new.length = row.length) : putPart 0 new row = some new := by
  unfold putPart
  rw [if_pos (by omega)]
  simp [List.drop_of_length_le, h]
theorem st_M {b m j : Nat} {rows : List (List AV)} {σ : Store} {ps : List PV} (hl : rows.length = m) (hj : j < m) (hw : ∀ x ∈ rows, x.length = 5) (hp : ps.length = 5) : stO σ b m j 0 (ps.map AV.p) (some (objM rows)) = some (σ.set b (objM (rows.set j (ps.map AV.p)))) := by
  have hg : rows[j]? = some rows[j] := List.getElem?_eq_getElem (by omega)
  have h5 : (rows[j]'(by omega)).length = 5 := hw _ (List.getElem_mem _)
  have hput : putPart 0 (ps.map AV.p) (rows[j]'(by omega)) = some (ps.map AV.p) := putAll (by rw [List.length_map, hp, h5])
  have av : ∀ rows : List (List AV), rows.length = m → rows[j]? = some (rows.getD j []) → putPart 0 (ps.map AV.p) (rows.getD j []) = some (ps.map AV.p) → stO σ b m j 0 (ps.map AV.p) (some (.av 5 rows false)) = some (σ.set b (objM (rows.set j (ps.map AV.p)))) := by
    intro rows hl hg hput
    simp only [stO, hl, if_true, hg, Option.bind_some, hput, Option.map_some]
    congr 2
  have hgd : rows.getD j [] = rows[j]'(by omega) := by rw [List.getD_eq_getElem?_getD, hg]; rfl
  unfold objM
  split
  · rename_i r
    simp only [List.length_cons, List.length_nil] at hl
    have hj0 : j = 0 := by omega
    subst hj0
    subst hl
    split
    · rename_i qs hqs
      have hr : r = qs.map AV.p := allP_inv hqs
      have hlen : qs.length = 5 := by have := hw r (by simp); rw [hr, List.length_map] at this; exact this
      have e : putPart 0 ps qs = some ps := putAll (by rw [hp, hlen])
      simp only [stO, List.length_cons, List.length_nil, if_true, List.getElem?_cons_zero, Option.bind_some, allP_map, e, Option.map_some, List.set_cons_zero, Nat.zero_add]
    · exact av [r] rfl (by simp) (by simpa using hput)
  · exact av rows hl (by rw [hgd]; exact hg) (by rw [hgd]; exact hput)
def zA : List AV := [.p (.int .i64 0), .p (.int .i64 0), .p (.int .u64 0), .p (.str (bs [])), .nils]
def cOk (c : AV) : Prop := (∃ q, c = .p q) ∨ c = .nils
theorem below_M {n : Nat} {rows : List (List AV)} (h : ∀ r ∈ rows, ∀ c ∈ r, cOk c) : Obj.below n (objM rows) = true := by
  have hb : ∀ rows : List (List AV), (∀ r ∈ rows, ∀ c ∈ r, cOk c) → (rows.all fun r => r.all (AE.below n)) = true := by
    intro rows h
    rw [List.all_eq_true]
    intro r hr
    rw [List.all_eq_true]
    intro c hc
    rcases h r hr c hc with ⟨q, rfl⟩ | rfl
    · exact below_p
    · exact below_nils
  unfold objM
  split
  · split
    · rfl
    · exact hb _ h
  · exact hb _ h
theorem gc_35 {vs : List AV} {a b c d e : Obj} : gc 3 vs [a, b, c, d, e] = if gcOk 3 vs [a, b, c, d, e] = true then [a, b, c] else [a, b, c, d, e] := by unfold gc; rw [if_neg (by simp)]; rfl
theorem pur_M (k : Nat) (ts : List Term) (o0 o1 : Obj) : purify [o0, o1, objM (ts.map fun a => a.row.map AV.p)] (k + 2) (.sl 2 ts.length) = some (.lst (ts.map Term.row)) := by
  have hrow : ∀ (σ : Store) (ps : List PV), omap (purify σ (k + 1)) (ps.map AV.p) = some ps := by
    intro σ ps
    induction ps with
    | nil => rfl
    | cons a r ih => simp only [List.map_cons, omap, purify_p, ih]
  have hrows : ∀ (σ : Store) (l : List Term), omap (omap (purify σ (k + 1))) (l.map fun a => a.row.map AV.p) = some (l.map Term.row) := by
    intro σ l
    induction l with
    | nil => rfl
    | cons a r ih => simp only [List.map_cons, omap, hrow, ih]
  have av : ∀ rows : List (List AV), rows = (ts.map fun a => a.row.map AV.p) → purify [o0, o1, .av 5 rows false] (k + 2) (.sl 2 ts.length) = some (.lst (ts.map Term.row)) := by
    intro rows hr
    rw [show purify [o0, o1, .av 5 rows false] (k + 2) (.sl 2 ts.length) = (if rows.length = ts.length then (omap (omap (purify [o0, o1, .av 5 rows false] (k + 1))) rows).map .lst else none) from rfl]
    rw [if_pos (by rw [hr, List.length_map]), hr, hrows]
    rfl
  unfold objM
  split
  · rename_i r hr
    cases ts with
    | nil => simp at hr
    | cons t ts =>
      cases ts with
      | cons t2 ts => simp at hr
      | nil =>
        simp only [List.map_cons, List.map_nil, List.cons.injEq, and_true] at hr
        subst hr
        simp only [allP_map]
        rfl
  · exact av _ rfl
end Go.AE.S
/- Terms made: variables, constants, nodes. --M-- -/
namespace Go.AE.S
open Go Go.AE
set_option linter.unusedSimpArgs false
set_option linter.unusedVariables false
variable {τ : Tm} {σ : Store} {rd : Option Nat}
def mkVar (n : ByteArray) (w : Int) : Term := .mk 1 (clampW w) 0 n []
def mkConst (w x : Int) : Term := .mk 2 (clampW w) (cutW w x) (bs []) []
def mkT (o : Int) (l : List Term) : Term := .mk o (widthW o 0 0 (l.map Term.w)).1 0 (bs []) l
theorem bl_012 {k0 k1 k2 : IntKind} {a b c : Int} {z0 z1 z2 : AV} {s : ByteArray} : buildV [z0, z1, z2, .p (.str s), .nils] [(0, 1, .p (.int k0 a)), (1, 1, .p (.int k1 b)), (2, 1, .p (.int k2 c))] = some (.agg [.p (.int k0 a), .p (.int k1 b), .p (.int k2 c), .p (.str s), .nils]) := rfl
theorem bl_014 {a b : Int} {z0 z1 z4 : AV} {l : List Term} : buildV [z0, z1, .p (.int .u64 0), .p (.str (bs [])), z4] [(0, 1, .p (.int .i64 a)), (1, 1, .p (.int .i64 b)), (4, 1, .p (.lst (l.map Term.row)))] = some (.p (.agg (Term.mk a b 0 (bs []) l).row)) := by rw [Term.row_eq]; rfl
theorem bl_01s {k0 k1 : IntKind} {a b : Int} {z0 z1 z4 : AV} {v : PV} {s : ByteArray} {bb n : Nat} : buildV [z0, z1, .p v, .p (.str s), z4] [(0, 1, .p (.int k0 a)), (1, 1, .p (.int k1 b)), (4, 1, .sl bb n)] = some (.agg [.p (.int k0 a), .p (.int k1 b), .p v, .p (.str s), .sl bb n]) := rfl
theorem s_term_Var (n : ByteArray) (w : Int) : R P f_term_Var [.str n, .int .i64 w] = some (.agg (mkVar n w).row) := by
  have h := s_term_clamp w
  (rw [r_term_Var (Nat.le_of_ble_eq_true rfl), F_term_Var]; simp (disch := omega) only [eqs, eqL, ↓gc_len, seval, -List.reduceReplicate, reduceCtorEq, omap, depth, pcall, pureR, freezeFor, freezeAll, tupR, resV, purR, enterTm, number, gcOk, rangeEnd, mkTup, allP, eqM, q_term_clamp, h, z5])
  simp [mkVar, Term.row, Term.rows]
theorem s_r06_Var (n : ByteArray) (w : Int) : R P f_r06_Var [.str n, .int .i64 w] = some (.agg (mkVar n w).row) := by
  have h := s_r06_clamp w
  (rw [r_r06_Var (Nat.le_of_ble_eq_true rfl), F_r06_Var]; simp (disch := omega) only [eqs, eqL, ↓gc_len, seval, -List.reduceReplicate, reduceCtorEq, omap, depth, pcall, pureR, freezeFor, freezeAll, tupR, resV, purR, enterTm, number, gcOk, rangeEnd, mkTup, allP, eqM, q_r06_clamp, h, z5])
  simp [mkVar, Term.row, Term.rows]
theorem clamp_clamp (w : Int) : clampW (clampW w) = clampW w := by unfold clampW; omega
theorem cut_clamp (w x : Int) : cutW (clampW w) x = cutW w x := by unfold cutW; rw [clamp_clamp]
theorem cut_64 {w x : Int} (hx : U64 x) (h : ¬ clampW w < 64) : cutW w x = x := by
  have hc := clamp_in w
  unfold cutW
  rw [show clampW w = 64 by omega, show (64 : Int).toNat = 64 from rfl, Nat.mod_eq_of_lt (u64_lt hx)]
  have := hx.1
  omega
theorem s_r06_Cut (w x : Int) (hw : 1 ≤ w ∧ w ≤ 64) (hx : U64 x) : R P f_r06_Cut [.int .i64 w, .int .u64 x] = some (.int .u64 (cutW w x)) := by
  have hc : clampW w = w := by unfold clampW; omega
  by_cases h1 : (64 : Int) ≤ w
  · rw [cut_64 hx (by omega)]
    (rw [r_r06_Cut (Nat.le_of_ble_eq_true rfl), F_r06_Cut]; simp (disch := omega) only [eqs, eqL, ↓gc_len, seval, -List.reduceReplicate, reduceCtorEq, omap, depth, pcall, pureR, freezeFor, freezeAll, tupR, resV, purR, enterTm, number, gcOk, rangeEnd, mkTup, allP, eqM, h1])
  · have hs := shl_one (w := w) (by omega) (by omega)
    have hu := u64_id (w := w) (by omega) (by omega)
    have hp : ((2 : Int) ^ w.toNat) ≠ 0 := by have := Int.pow_pos (n := 2) (m := w.toNat) (by omega); omega
    have hr : arithV .rem (.p (.int .u64 x)) (.p (.int .u64 (2 ^ w.toNat))) = some (.p (.int .u64 (cutW w x))) := by
      rw [v_rem hp]
      congr 3
      unfold cutW
      rw [hc]
      have hx0 := hx.1
      rw [Int.tmod_eq_emod_of_nonneg hx0]
      obtain ⟨k, rfl⟩ := Int.eq_ofNat_of_zero_le hx0
      rw [show ((2 : Int) ^ w.toNat) = ((2 ^ w.toNat : Nat) : Int) by simp]
      rw [Int.toNat_natCast]
      omega
    have hsh : arithV .shl (.p (.int .u64 1)) (.p (.int .u64 w)) = some (.p (.int .u64 (2 ^ w.toNat))) := by
      rw [v_shl (by omega), hs]
    (rw [r_r06_Cut (Nat.le_of_ble_eq_true rfl), F_r06_Cut]; simp (disch := omega) only [eqs, eqL, ↓gc_len, seval, -List.reduceReplicate, reduceCtorEq, omap, depth, pcall, pureR, freezeFor, freezeAll, tupR, resV, purR, enterTm, number, gcOk, rangeEnd, mkTup, allP, eqM, h1, hu, hsh, hr])
theorem s_term_Const (w x : Int) (hx : U64 x) : R P f_term_Const [.int .i64 w, .int .u64 x] = some (.agg (mkConst w x).row) := by
  have h := s_term_clamp w
  have hc := clamp_in w
  by_cases h1 : clampW w < 64
  · have hs := shl_one (w := clampW w) (by omega) h1
    have hsh : arithV .shl (.p (.int .u64 1)) (.p (.int .i64 (clampW w))) = some (.p (.int .u64 (2 ^ (clampW w).toNat))) := by
      rw [v_shl (by omega), hs]
    have hpn : ((2 : Int) ^ (clampW w).toNat) = ((2 ^ (clampW w).toNat : Nat) : Int) := by simp
    have hlt : 2 ^ (clampW w).toNat < 2 ^ 64 := Nat.pow_lt_pow_right (by omega) (by omega)
    have hpos : 0 < 2 ^ (clampW w).toNat := Nat.pow_pos (by omega)
    have hsub : IntKind.u64.wrap ((2 : Int) ^ (clampW w).toNat - 1) = ((2 ^ (clampW w).toNat - 1 : Nat) : Int) := by
      rw [hpn, IntWalk.u64_in _ (by omega)]
      omega
    have hm : U64 (((2 ^ (clampW w).toNat - 1 : Nat) : Int)) := u64_nat (by omega)
    have hand := u64_and hx hm
    rw [Int.toNat_natCast, Nat.and_two_pow_sub_one_eq_mod] at hand
    (rw [r_term_Const (Nat.le_of_ble_eq_true rfl), F_term_Const]; simp (disch := omega) only [eqs, eqL, ↓gc_len, seval, -List.reduceReplicate, reduceCtorEq, omap, depth, pcall, pureR, freezeFor, freezeAll, tupR, resV, purR, enterTm, number, gcOk, rangeEnd, mkTup, allP, eqM, q_term_clamp, h, h1, hsh, hsub, v_and, hand, z5, bl_012])
    simp [mkConst, cutW, Term.row, Term.rows]
  · (rw [r_term_Const (Nat.le_of_ble_eq_true rfl), F_term_Const]; simp (disch := omega) only [eqs, eqL, ↓gc_len, seval, -List.reduceReplicate, reduceCtorEq, omap, depth, pcall, pureR, freezeFor, freezeAll, tupR, resV, purR, enterTm, number, gcOk, rangeEnd, mkTup, allP, eqM, q_term_clamp, h, h1, z5, bl_012])
    simp [mkConst, cut_64 hx h1, Term.row, Term.rows]
theorem s_r06_Const (w x : Int) (hx : U64 x) : R P f_r06_Const [.int .i64 w, .int .u64 x] = some (.agg (mkConst w x).row) := by
  have h := s_r06_clamp w
  have hc := s_r06_Cut (clampW w) x (clamp_in w) hx
  rw [cut_clamp] at hc
  (rw [r_r06_Const (Nat.le_of_ble_eq_true rfl), F_r06_Const]; simp (disch := omega) only [eqs, eqL, ↓gc_len, seval, -List.reduceReplicate, reduceCtorEq, omap, depth, pcall, pureR, freezeFor, freezeAll, tupR, resV, purR, enterTm, number, gcOk, rangeEnd, mkTup, allP, eqM, q_r06_clamp, h, q_r06_Cut, hc, z5, bl_012])
  simp [mkConst, Term.row, Term.rows]
theorem width_errO (o w v : Int) (as : List Int) : (widthW o w v as).2 = 0 ∨ (widthW o w v as).1 = 0 := by
  unfold widthW
  repeat' split
  all_goals first
    | exact .inl rfl
    | exact .inr rfl
    | (unfold leafW; split
       · exact .inr rfl
       · exact .inl rfl)
    | (unfold sizeW; split
       · exact .inr rfl
       · exact .inl rfl)
theorem width_err (o w v : Int) (as : List Int) (h : ¬ (widthW o w v as).2 = 0) : (widthW o w v as).1 = 0 := (width_errO o w v as).resolve_left h
theorem s_r06_Make (o : Int) (l : List Term) (hl : l.length ≤ 1000000) : R P f_r06_Make [.int .i64 o, .lst (l.map Term.row)] = some (.agg (mkT o l).row) := by
  have h1 := s_r06_Widths l hl
  have h2 := s_r04_Width o 0 0 (l.map Term.w) (by simpa using hl) (by omega)
  have he := width_err o 0 0 (l.map Term.w)
  generalize hx : widthW o 0 0 (l.map Term.w) = x at h2 he
  obtain ⟨n, e⟩ := x
  simp only [two] at h2 he
  rcases Classical.propComplete (e = 0) with h3 | h3
  · (rw [r_r06_Make (Nat.le_of_ble_eq_true rfl), F_r06_Make]; simp (disch := omega) only [eqs, eqL, ↓gc_len, seval, -List.reduceReplicate, reduceCtorEq, omap, depth, pcall, pureR, freezeFor, freezeAll, tupR, resV, purR, enterTm, number, gcOk, rangeEnd, mkTup, allP, eqM, q_r06_Widths, h1, q_r04_Width, h2, h3, z5, bl_014])
    simp [mkT, hx]
  · have := he (of_eq_false h3)
    subst this
    (rw [r_r06_Make (Nat.le_of_ble_eq_true rfl), F_r06_Make]; simp (disch := omega) only [eqs, eqL, ↓gc_len, seval, -List.reduceReplicate, reduceCtorEq, omap, depth, pcall, pureR, freezeFor, freezeAll, tupR, resV, purR, enterTm, number, gcOk, rangeEnd, mkTup, allP, eqM, q_r06_Widths, h1, q_r04_Width, h2, h3, z5, bl_014])
    simp [mkT, hx]
abbrev e_mk (o w : Int) (l : List Term) (i : Int) : List (Nat × AV) := [(0, .p (.int .i64 o)), (4, .ptr 1 1 0 0), (5, .p (.int .i64 w)), (7, .sl 2 l.length), (22, .p (.lst (l.map Term.row))), (23, .p (.int .i64 l.length)), (24, .p (.int .i64 i))]
set_option maxHeartbeats 4000000 in
theorem l_term_Make (o w : Int) (l : List Term) (hl : Term.counts l ≤ 1000000) : loopAt P L0_term_Make (e_mk o w l 0) [.pv 0 [] false, .av 5 [z5 0] false, objM (List.replicate l.length zA)] 39 none =
    back P [0, 4, 5, 7, 22, 23, 24] B0_term_Make 3 (exec P B0_term_Make ⟨tm (e_mk o w l l.length), [.pv 0 [] false, .av 5 [z5 0] false, objM (l.map fun a => a.row.map AV.p)], 39, none⟩) := by
  have hlen := Term.counts_len l
  obtain ⟨hk, h⟩ := loop_run (P := P) (nt := 39) (lv := [0, 4, 5, 7, 22, 23, 24]) (b := B0_term_Make) (rd := none) (as := l) (fun i (_ : List (List AV)) => e_mk o w l i) (fun s => [.pv 0 [] false, .av 5 [z5 0] false, objM s]) (fun i s a => s.set i (a.row.map AV.p)) (fun i s => s.length = l.length ∧ (∀ x ∈ s, x.length = 5) ∧ ∀ x ∈ s, ∀ c ∈ x, cOk c)
    (fun i a s ha hi hs => by
      obtain ⟨hs1, hs2, hs3⟩ := hs
      have hac := Term.counts_mem (List.mem_of_getElem? ha)
      have hcp := s_term_Copy a (by omega)
      have hlt : ((i : Int) < l.length) = True := by simpa using hi
      have hia := fun (o0 o1 o3 o4 : Obj) => ia_M (σ := [o0, o1, objM s, o3, o4]) (b := 2) (m := l.length) (j := i) rfl hs1 hi
      have hst := fun (σ : Store) => st_M (σ := σ) (b := 2) (m := l.length) (j := i) (ps := a.row) hs1 hi hs2 a.row_len
      have hn3 : ∀ x ∈ s.set i (a.row.map AV.p), ∀ c ∈ x, cOk c := fun x hx => by
        rcases List.mem_or_eq_of_mem_set hx with hx | rfl
        · exact hs3 x hx
        · intro c hc
          obtain ⟨q, _, rfl⟩ := List.mem_map.1 hc
          exact .inl ⟨q, rfl⟩
      have hbl := below_M (n := 3) hn3
      refine ⟨⟨by simp [hs1], fun x hx => ?_, hn3⟩, ?_⟩
      · rcases List.mem_or_eq_of_mem_set hx with hx | rfl
        · exact hs2 x hx
        · rw [List.length_map]; exact a.row_len
      · simp only [B0_term_Make]
        simp (disch := omega) only [eqs, eqL, ↓gc_len, seval, -List.reduceReplicate, reduceCtorEq, omap, depth, pcall, pureR, freezeFor, freezeAll, tupR, resV, purR, enterTm, number, gcOk, rangeEnd, mkTup, allP, eqM, hlt, List.length_map, v_iadr (map_get (f := Term.row) ha) a.row_len, e_mk, hia, hst, q_term_Copy, hcp, gc_35, hbl, z5]) (fun i s => rfl) (List.replicate l.length zA) ⟨by simp, fun x hx => by rw [(List.mem_replicate.1 hx).2]; rfl, fun x hx => by
          rw [(List.mem_replicate.1 hx).2]
          intro c hc
          simp only [zA, List.mem_cons, List.not_mem_nil, or_false] at hc
          rcases hc with rfl | rfl | rfl | rfl | rfl
          · exact .inl ⟨_, rfl⟩
          · exact .inl ⟨_, rfl⟩
          · exact .inl ⟨_, rfl⟩
          · exact .inl ⟨_, rfl⟩
          · exact .inr rfl⟩ _ (fold_set0 (fun a : Term => a.row.map AV.p) l _ (by simp))
  exact h
theorem objM_rep (n : Nat) : objM (List.replicate n zA) = .av 5 (List.replicate n zA) false := by
  unfold objM
  split
  · rename_i r hr
    cases n with
    | zero => simp at hr
    | succ n =>
      rw [List.replicate_succ] at hr
      simp only [List.cons.injEq] at hr
      rw [← hr.1]
      split
      · rename_i ps hps; simp [zA, allP] at hps
      · rw [List.replicate_succ, hr.2]
  · rfl
set_option maxHeartbeats 4000000 in
theorem s_term_Make (o : Int) (l : List Term) (hl : Term.counts l ≤ 1000000) : R P f_term_Make [.int .i64 o, .lst (l.map Term.row)] = some (.agg (mkT o l).row) := by
  have hlen := Term.counts_len l
  have h1 := s_term_widths l (by omega)
  have h2 := s_opinfo_Width o 0 0 (l.map Term.w) (by simp; omega) (by omega)
  have he := width_err o 0 0 (l.map Term.w)
  generalize hx : widthW o 0 0 (l.map Term.w) = x at h2 he
  obtain ⟨n, e⟩ := x
  simp only [two] at h2 he
  have hm := fun (σ : Store) => mk_av (σ := σ) (k := .i64) (es := 5) (bytes := 64) (n := l.length) (zero := [.p (.int .i64 0), .p (.int .i64 0), .p (.int .u64 0), .p (.str (bs [])), .nils]) rfl (by omega)
  have hp := fun (k : Nat) (o0 o1 : Obj) => pur_M k l o0 o1
  have hz : zA = [.p (.int .i64 0), .p (.int .i64 0), .p (.int .u64 0), .p (.str (bs [])), .nils] := rfl
  rcases Classical.propComplete (e = 0) with h3 | h3
  · have hL := l_term_Make o n l hl
    rw [objM_rep] at hL
    simp only [e_mk, z5, hz] at hL
    (rw [r_term_Make (Nat.le_of_ble_eq_true rfl), F_term_Make]; simp (disch := omega) only [eqs, eqL, ↓gc_len, seval, -List.reduceReplicate, reduceCtorEq, omap, depth, pcall, pureR, freezeFor, freezeAll, tupR, resV, purR, enterTm, number, gcOk, rangeEnd, mkTup, allP, eqM, q_term_widths, h1, q_opinfo_Width, h2, h3, z5, hm, k0_term_Make, hL, B0_term_Make, Int.lt_irrefl, List.length_map, hp, bl_01s])
    simp [mkT, hx, Term.row, Term.rows_eq]
  · have := he (of_eq_false h3)
    subst this
    have hL := l_term_Make o 0 l hl
    rw [objM_rep] at hL
    simp only [e_mk, z5, hz] at hL
    (rw [r_term_Make (Nat.le_of_ble_eq_true rfl), F_term_Make]; simp (disch := omega) only [eqs, eqL, ↓gc_len, seval, -List.reduceReplicate, reduceCtorEq, omap, depth, pcall, pureR, freezeFor, freezeAll, tupR, resV, purR, enterTm, number, gcOk, rangeEnd, mkTup, allP, eqM, q_term_widths, h1, q_opinfo_Width, h2, h3, z5, hm, k0_term_Make, hL, B0_term_Make, Int.lt_irrefl, List.length_map, hp, bl_01s])
    simp [mkT, hx, Term.row, Term.rows_eq]
end Go.AE.S
