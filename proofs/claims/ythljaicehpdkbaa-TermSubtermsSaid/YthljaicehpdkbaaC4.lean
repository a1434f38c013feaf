/- The order of terms, by the reference. --M-- -/
import Derived.Test.YthljaicehpdkbaaC3
import Derived.Test.YthljaicehpdkbaaB6
namespace Go.AE.S
open Go Go.AE
set_option linter.unusedSimpArgs false
set_option linter.unusedVariables false
variable {τ : Tm} {σ : Store} {rd : Option Nat}
abbrev e_c6 (t u : Term) (i : Int) : List (Nat × AV) := [(2, .p (.ptr t.row 0)), (3, .p (.ptr u.row 0)), (5, .p (.int .i64 i))]
set_option maxHeartbeats 4000000 in
theorem l_r06_Compare (t u : Term) (hc : t.count ≤ 1000000) (hu : u.count ≤ 1000000) (ih : ∀ a ∈ t.args, ∀ b ∈ u.args, R P f_r06_Compare [.agg a.row, .agg b.row] = some (.int .i64 (a.cmpT b))) :
    doneP (fun (_ : Unit) => True ∧ loopAt P L0_r06_Compare (e_c6 t u 0) [] 99 none = back P [2, 3, 5] B0_r06_Compare 0 (exec P B0_r06_Compare ⟨tm (e_c6 t u (t.args.zip u.args).length), [], 99, none⟩))
      (fun e => ∃ r, loopAt P L0_r06_Compare (e_c6 t u 0) [] 99 none = some r ∧ ret1 4 (.int .i64 e) [] r) (foldE cmpZ 0 () (t.args.zip u.args)) := by
  have hlt0 := Term.counts_len t.args
  have hct := Term.count_eq t
  exact loop_to (P := P) (nt := 99) (lv := [2, 3, 5]) (b := B0_r06_Compare) (rd := none) (as := t.args.zip u.args) (fun i (_ : Unit) => e_c6 t u i) (fun _ => []) cmpZ (fun e => ret1 4 (.int .i64 e) []) (fun _ _ => True)
    (fun i ab s hab hi hs => by
      obtain ⟨a, b⟩ := ab
      refine ⟨fun _ _ => trivial, ?_⟩
      obtain ⟨ha, hb⟩ := zip_get hab
      have hia := (List.getElem?_eq_some_iff.1 ha).1
      have hib := (List.getElem?_eq_some_iff.1 hb).1
      have hlta : ((i : Int) < t.args.length) = True := by simpa using hia
      have hltb : ((i : Int) < u.args.length) = True := by simpa using hib
      have hui := fun σ => v_iadr (k := .i64) (es := 5) (σ := σ) (map_get (f := Term.row) ha) a.row_len
      have hub := fun σ => v_iadr (k := .i64) (es := 5) (σ := σ) (map_get (f := Term.row) hb) b.row_len
      have hr := ih a (List.mem_of_getElem? ha) b (List.mem_of_getElem? hb)
      unfold cmpZ
      rcases Classical.propComplete (a.cmpT b = 0) with h0 | h0 <;> simp only [B0_r06_Compare, h0] <;> simp (disch := omega) only [eqs, eqL, ↓gc_len, seval, -List.reduceReplicate, reduceCtorEq, omap, depth, pcall, pureR, freezeFor, freezeAll, tupR, resV, purR, enterTm, number, gcOk, rangeEnd, mkTup, allP, eqM, hlta, hltb, hui, hub, List.length_map, q_r06_Compare, hr, h0, ret1]) (fun i s => rfl) () trivial
theorem cmpI_nz {a b : Int} (h : ¬ a = b) : ¬ cmpI a b = 0 := by
  unfold cmpI; split; decide; split; decide; omega
theorem gtr_str {a b : ByteArray} : arithV .gtr (.p (.str a)) (.p (.str b)) = some (.p (.bool (slt b a))) := by
  have h : arithV .gtr (.p (.str a)) (.p (.str b)) = some (.p (.bool (!(slt a b || a.toList == b.toList)))) := rfl
  have e : (!(slt a b || a.toList == b.toList)) = slt b a := by
    rcases slt_tri a b with h | h | h
    · simp [h, slt_asym h]
    · subst h; simp [slt_irrefl]
    · have h2 := slt_asym h
      have h3 : ¬ a.toList = b.toList := fun e => slt_ne h (bytes_ext.1 e).symm
      simp [h, h2, h3]
  rw [h, e]
set_option maxHeartbeats 8000000 in
theorem s_r06_Compare (t : Term) : ∀ u : Term, t.count ≤ 1000000 → u.count ≤ 1000000 → R P f_r06_Compare [.agg t.row, .agg u.row] = some (.int .i64 (t.cmpT u)) := by
  induction t using Term.ind with
  | h t ih =>
  intro u hc hu
  have hct := Term.count_eq t
  have hcu := Term.count_eq u
  have hl := l_r06_Compare t u hc hu (fun a ha b hb => ih a ha b (by have := Term.counts_mem ha; omega) (by have := Term.counts_mem hb; omega))
  have hf := fold_cmpz t.args u.args 0
  have h1 := s_r06_Size t hc
  have h2 := s_r06_Size u hu
  have hs : cmpStr t.name u.name = if t.name = u.name then 0 else if slt t.name u.name = true then -1 else 1 := by
    unfold cmpStr slt
    by_cases h : t.name = u.name
    · rw [if_pos h, if_pos (by rw [h])]
    · have : ¬ t.name.toList = u.name.toList := fun e => h (bytes_ext.1 e)
      rw [if_neg h, if_neg this]
  rw [Term.cmpT_eq]
  simp only [orI, hs]
  rcases Classical.propComplete ((t.count : Int) = u.count) with k1 | k1
  rotate_left
  · have n1 := eq_false (cmpI_nz (of_eq_false k1))
    simp only [n1, if_false]
    (rw [r_r06_Compare (Nat.le_of_ble_eq_true rfl), F_r06_Compare]; simp (disch := omega) only [eqs, eqL, ↓gc_len, seval, -List.reduceReplicate, reduceCtorEq, omap, depth, pcall, pureR, freezeFor, freezeAll, tupR, resV, purR, enterTm, number, gcOk, rangeEnd, mkTup, allP, eqM, q_r06_Size, h1, h2, q_r06_order, s_r06_order, k1])
  have n1 : cmpI (t.count : Int) u.count = 0 := by rw [of_eq_true k1]; exact cmpI_self
  rcases Classical.propComplete (t.op = u.op) with k2 | k2
  rotate_left
  · have n2 := eq_false (cmpI_nz (of_eq_false k2))
    simp only [n1, n2, if_true, if_false]
    (rw [r_r06_Compare (Nat.le_of_ble_eq_true rfl), F_r06_Compare]; simp (disch := omega) only [eqs, eqL, ↓gc_len, seval, -List.reduceReplicate, reduceCtorEq, omap, depth, pcall, pureR, freezeFor, freezeAll, tupR, resV, purR, enterTm, number, gcOk, rangeEnd, mkTup, allP, eqM, q_r06_Size, h1, h2, q_r06_order, s_r06_order, k1, k2])
  have n2 : cmpI t.op u.op = 0 := by rw [of_eq_true k2]; exact cmpI_self
  rcases Classical.propComplete (t.w = u.w) with k3 | k3
  rotate_left
  · have n3 := eq_false (cmpI_nz (of_eq_false k3))
    simp only [n1, n2, n3, if_true, if_false]
    (rw [r_r06_Compare (Nat.le_of_ble_eq_true rfl), F_r06_Compare]; simp (disch := omega) only [eqs, eqL, ↓gc_len, seval, -List.reduceReplicate, reduceCtorEq, omap, depth, pcall, pureR, freezeFor, freezeAll, tupR, resV, purR, enterTm, number, gcOk, rangeEnd, mkTup, allP, eqM, q_r06_Size, h1, h2, q_r06_order, s_r06_order, k1, k2, k3])
  have n3 : cmpI t.w u.w = 0 := by rw [of_eq_true k3]; exact cmpI_self
  rcases Classical.propComplete (t.v < u.v) with k5 | k5
  · have k4 : ¬ t.v = u.v := by have := of_eq_true k5; omega
    rw [cmpI_ne k4]
    simp only [n1, n2, n3, k5, if_true, if_false, Int.reduceNeg, Int.reduceEq]
    (rw [r_r06_Compare (Nat.le_of_ble_eq_true rfl), F_r06_Compare]; simp (disch := omega) only [eqs, eqL, ↓gc_len, seval, -List.reduceReplicate, reduceCtorEq, omap, depth, pcall, pureR, freezeFor, freezeAll, tupR, resV, purR, enterTm, number, gcOk, rangeEnd, mkTup, allP, eqM, q_r06_Size, h1, h2, q_r06_order, s_r06_order, k1, k2, k3, k5])
  rcases Classical.propComplete (t.v > u.v) with k6 | k6
  · have k4 : ¬ t.v = u.v := by have := of_eq_true k6; omega
    rw [cmpI_ne k4]
    simp only [n1, n2, n3, k5, if_true, if_false, Int.reduceNeg, Int.reduceEq]
    (rw [r_r06_Compare (Nat.le_of_ble_eq_true rfl), F_r06_Compare]; simp (disch := omega) only [eqs, eqL, ↓gc_len, seval, -List.reduceReplicate, reduceCtorEq, omap, depth, pcall, pureR, freezeFor, freezeAll, tupR, resV, purR, enterTm, number, gcOk, rangeEnd, mkTup, allP, eqM, q_r06_Size, h1, h2, q_r06_order, s_r06_order, k1, k2, k3, k5, k6])
  have k4 : t.v = u.v := by have := of_eq_false k5; have := of_eq_false k6; omega
  have n4 : cmpI t.v u.v = 0 := by rw [k4]; exact cmpI_self
  cases k7 : slt t.name u.name with
  | true =>
    have k8 : ¬ t.name = u.name := slt_ne k7
    simp only [n1, n2, n3, n4, k8, k7, if_true, if_false, Int.reduceNeg, Int.reduceEq]
    (rw [r_r06_Compare (Nat.le_of_ble_eq_true rfl), F_r06_Compare]; simp (disch := omega) only [eqs, eqL, ↓gc_len, seval, -List.reduceReplicate, reduceCtorEq, omap, depth, pcall, pureR, freezeFor, freezeAll, tupR, resV, purR, enterTm, number, gcOk, rangeEnd, mkTup, allP, eqM, q_r06_Size, h1, h2, q_r06_order, s_r06_order, k1, k2, k3, k5, k6, k7])
  | false =>
  cases k9 : slt u.name t.name with
  | true =>
    have k8 : ¬ t.name = u.name := fun e => slt_ne k9 e.symm
    simp only [n1, n2, n3, n4, k8, k7, if_true, if_false, Bool.false_eq_true, Int.reduceNeg, Int.reduceEq]
    (rw [r_r06_Compare (Nat.le_of_ble_eq_true rfl), F_r06_Compare]; simp (disch := omega) only [eqs, eqL, ↓gc_len, seval, -List.reduceReplicate, reduceCtorEq, omap, depth, pcall, pureR, freezeFor, freezeAll, tupR, resV, purR, enterTm, number, gcOk, rangeEnd, mkTup, allP, eqM, q_r06_Size, h1, h2, q_r06_order, s_r06_order, k1, k2, k3, k5, k6, k7, gtr_str, k9])
  | false =>
  have k8 : t.name = u.name := by
    rcases slt_tri t.name u.name with h | h | h
    · rw [k7] at h; cases h
    · exact h
    · rw [k9] at h; cases h
  simp only [n1, n2, n3, n4, k8, if_true]
  have hz : (if Term.cmpsT t.args u.args = 0 then 0 else Term.cmpsT t.args u.args) = Term.cmpsT t.args u.args := by split; exact Eq.symm ‹_›; rfl
  rw [hz]
  cases hfe : foldE cmpZ 0 () (t.args.zip u.args) with
  | inr e =>
    rw [hfe] at hl hf
    obtain ⟨⟨e', τ', σ', nt', rd'⟩, j1, j2, j3, j4⟩ := hl
    simp only at j2 j3 j4 hf
    subst j2; subst j4
    have j1' : loopAt P L0_r06_Compare (e_c6 t u 0) [] 99 none = some (.ret, ⟨τ', [], nt', rd'⟩) := j1
    simp only [e_c6] at j1'
    rw [hf]
    (rw [r_r06_Compare (Nat.le_of_ble_eq_true rfl), F_r06_Compare]; simp (disch := omega) only [eqs, eqL, ↓gc_len, seval, -List.reduceReplicate, reduceCtorEq, omap, depth, pcall, pureR, freezeFor, freezeAll, tupR, resV, purR, enterTm, number, gcOk, rangeEnd, mkTup, allP, eqM, q_r06_Size, h1, h2, q_r06_order, s_r06_order, k1, k2, k3, k5, k6, k7, gtr_str, k9, k0_r06_Compare, j1', j3])
  | inl s =>
    rw [hfe] at hl hf
    simp only at hf
    obtain ⟨_, hl'⟩ := hl
    simp only [e_c6] at hl'
    rw [hf]
    by_cases hle : t.args.length ≤ u.args.length
    · have hm : (t.args.zip u.args).length = t.args.length := by rw [List.length_zip, Nat.min_eq_left hle]
      rw [hm] at hl'
      (rw [r_r06_Compare (Nat.le_of_ble_eq_true rfl), F_r06_Compare]; simp (disch := omega) only [eqs, eqL, ↓gc_len, seval, -List.reduceReplicate, reduceCtorEq, omap, depth, pcall, pureR, freezeFor, freezeAll, tupR, resV, purR, enterTm, number, gcOk, rangeEnd, mkTup, allP, eqM, q_r06_Size, h1, h2, q_r06_order, s_r06_order, k1, k2, k3, k5, k6, k7, gtr_str, k9, k0_r06_Compare, hl', B0_r06_Compare, Int.lt_irrefl, List.length_map])
    · have hm : (t.args.zip u.args).length = u.args.length := by rw [List.length_zip, Nat.min_eq_right (by omega)]
      have hm2 : ((u.args.length : Int) < t.args.length) = True := by simp; omega
      rw [hm] at hl'
      (rw [r_r06_Compare (Nat.le_of_ble_eq_true rfl), F_r06_Compare]; simp (disch := omega) only [eqs, eqL, ↓gc_len, seval, -List.reduceReplicate, reduceCtorEq, omap, depth, pcall, pureR, freezeFor, freezeAll, tupR, resV, purR, enterTm, number, gcOk, rangeEnd, mkTup, allP, eqM, q_r06_Size, h1, h2, q_r06_order, s_r06_order, k1, k2, k3, k5, k6, k7, gtr_str, k9, k0_r06_Compare, hl', B0_r06_Compare, hm2, Int.lt_irrefl, List.length_map])
end Go.AE.S
/- Subterms, by the program. --M-- -/
namespace Go.AE.S
open Go Go.AE
set_option linter.unusedSimpArgs false
set_option linter.unusedVariables false
variable {τ : Tm} {σ : Store} {rd : Option Nat}
theorem s_Subterms1 (v u : Term) (hu : TOk u) : R P f_term_Subterms_1 [.agg v.row, .ptr u.row 0] = some (.bool (u.beq v)) := by
  have h := s_term_Same u hu v
  (rw [r_term_Subterms_1 (Nat.le_of_ble_eq_true rfl), F_term_Subterms_1]; simp (disch := omega) only [eqs, eqL, ↓gc_len, seval, -List.reduceReplicate, reduceCtorEq, omap, depth, pcall, pureR, freezeFor, freezeAll, tupR, resV, purR, enterTm, number, gcOk, rangeEnd, mkTup, allP, eqM, q_term_Same, h])
abbrev e_ixt (l : List Term) (u : Term) (i : Int) : List (Nat × AV) := [(0, .p (.lst (l.map Term.row))), (1, .p (.fn f_term_Subterms_1 [.ptr u.row 0])), (7, .p (.int .i64 l.length)), (8, .p (.int .i64 i))]
theorem s_ContainsT (l : List Term) (u : Term) (hu : TOk u) (hl : l.length ≤ 1000000) : R P f_slices_ContainsFunc_api_Term_api_Term [.lst (l.map Term.row), .fn f_term_Subterms_1 [.ptr u.row 0]] = some (.bool (l.any u.beq)) := by
  have h := loop_to (P := P) (nt := 19) (lv := [0, 1, 7, 8]) (b := B0_slices_IndexFunc_api_Term_api_Term) (rd := none) (as := l) (fun i (_ : Unit) => e_ixt l u i) (fun _ => []) (fun i _ v => if u.beq v = true then .inr i else .inl ()) (fun (n : Nat) => ret1 4 (.int .i64 n) []) (fun _ _ => True)
    (fun i v s hv hi hs => by
      refine ⟨fun _ _ => trivial, ?_⟩
      have hlt : ((i : Int) < l.length) = True := by simpa using hi
      have hr := s_Subterms1 v u hu
      have hx := fun σ => v_iadr (k := .i64) (es := 5) (σ := σ) (map_get (f := Term.row) hv) v.row_len
      cases hb : u.beq v with
      | true =>
        rw [hb] at hr
        simp only [B0_slices_IndexFunc_api_Term_api_Term, if_true]
        simp (disch := omega) only [eqs, eqL, ↓gc_len, seval, -List.reduceReplicate, reduceCtorEq, omap, depth, pcall, pureR, freezeFor, freezeAll, tupR, resV, purR, enterTm, number, gcOk, rangeEnd, mkTup, allP, eqM, hlt, hx, q_term_Subterms_1, hr, e_ixt, ret1]
      | false =>
        rw [hb] at hr
        simp only [B0_slices_IndexFunc_api_Term_api_Term, Bool.false_eq_true, if_false]
        simp (disch := omega) only [eqs, eqL, ↓gc_len, seval, -List.reduceReplicate, reduceCtorEq, omap, depth, pcall, pureR, freezeFor, freezeAll, tupR, resV, purR, enterTm, number, gcOk, rangeEnd, mkTup, allP, eqM, hlt, hx, q_term_Subterms_1, hr, e_ixt, ret1]) (fun i s => rfl) () trivial
  rcases fold_find u.beq l 0 with ⟨n, h1, h2⟩ | ⟨h1, h2⟩
  · rw [h1] at h
    obtain ⟨⟨e', τ', σ', nt', rd'⟩, g1, g2, g3, g4⟩ := h
    simp only at g2 g3 g4
    subst g2; subst g4
    have h' : loopAt P L0_slices_IndexFunc_api_Term_api_Term (e_ixt l u 0) [] 19 none = some (.ret, ⟨τ', [], nt', rd'⟩) := g1
    simp only [e_ixt] at h'
    have hi : R P f_slices_IndexFunc_api_Term_api_Term [.lst (l.map Term.row), .fn f_term_Subterms_1 [.ptr u.row 0]] = some (.int .i64 n) := by
      (rw [r_slices_IndexFunc_api_Term_api_Term (Nat.le_of_ble_eq_true rfl), F_slices_IndexFunc_api_Term_api_Term]; simp (disch := omega) only [eqs, eqL, ↓gc_len, seval, -List.reduceReplicate, reduceCtorEq, omap, depth, pcall, pureR, freezeFor, freezeAll, tupR, resV, purR, enterTm, number, gcOk, rangeEnd, mkTup, allP, eqM, List.length_map, k0_slices_IndexFunc_api_Term_api_Term, h', g3])
    have hn : ((n : Int) ≥ 0) = True := by simp
    rw [h2]
    (rw [r_slices_ContainsFunc_api_Term_api_Term (Nat.le_of_ble_eq_true rfl), F_slices_ContainsFunc_api_Term_api_Term]; simp (disch := omega) only [eqs, eqL, ↓gc_len, seval, -List.reduceReplicate, reduceCtorEq, omap, depth, pcall, pureR, freezeFor, freezeAll, tupR, resV, purR, enterTm, number, gcOk, rangeEnd, mkTup, allP, eqM, q_slices_IndexFunc_api_Term_api_Term, hi, hn])
  · rw [h1] at h
    obtain ⟨_, h⟩ := h
    have h' : loopAt P L0_slices_IndexFunc_api_Term_api_Term (e_ixt l u 0) [] 19 none = _ := h
    simp only [e_ixt] at h'
    have hi : R P f_slices_IndexFunc_api_Term_api_Term [.lst (l.map Term.row), .fn f_term_Subterms_1 [.ptr u.row 0]] = some (.int .i64 (-1)) := by
      (rw [r_slices_IndexFunc_api_Term_api_Term (Nat.le_of_ble_eq_true rfl), F_slices_IndexFunc_api_Term_api_Term]; simp (disch := omega) only [eqs, eqL, ↓gc_len, seval, -List.reduceReplicate, reduceCtorEq, omap, depth, pcall, pureR, freezeFor, freezeAll, tupR, resV, purR, enterTm, number, gcOk, rangeEnd, mkTup, allP, eqM, List.length_map, k0_slices_IndexFunc_api_Term_api_Term, h', B0_slices_IndexFunc_api_Term_api_Term, Int.lt_irrefl])
    rw [h2]
    (rw [r_slices_ContainsFunc_api_Term_api_Term (Nat.le_of_ble_eq_true rfl), F_slices_ContainsFunc_api_Term_api_Term]; simp (disch := omega) only [eqs, eqL, ↓gc_len, seval, -List.reduceReplicate, reduceCtorEq, omap, depth, pcall, pureR, freezeFor, freezeAll, tupR, resV, purR, enterTm, number, gcOk, rangeEnd, mkTup, allP, eqM, q_slices_IndexFunc_api_Term_api_Term, hi])
def addS (s : List Term) (u : Term) : List Term := if s.any u.beq = true then s else s ++ [u]
theorem addS_len {s : List Term} {u : Term} : (addS s u).length ≤ s.length + 1 := by
  unfold addS
  split <;> simp
abbrev avT (s : List Term) : List (List AV) := s.map fun a => a.row.map AV.p
def obT (s : List Term) : Obj := if s.length ≤ 1 then .pv (esOf 5 s) (s.map Term.row) false else .av 5 (avT s) false
theorem obT_len (s : List Term) : (obT s).len = some s.length := by
  unfold obT; split <;> simp [Obj.len]
theorem obT_M (s : List Term) (u : Term) : obT (s ++ [u]) = objM (avT (s ++ [u])) := by
  unfold obT
  match s with
  | [] => simp [objM, allP_map, esOf, avT]
  | [a] => simp [objM, avT]
  | a :: b :: r => simp [objM, avT]
theorem obT_join (s : List Term) : joinObj 5 (obT s) (.inr [zA]) = some (.av 5 (avT s ++ [zA]) false) := by
  unfold obT
  split
  · have h : esOf 5 s = 5 ∨ (esOf 5 s = 0 ∧ (s.map Term.row).isEmpty = true) := by cases s <;> simp [esOf]
    simp only [joinObj, if_pos h, List.map_map]
    rfl
  · simp only [joinObj, if_true]
theorem obT_below (n : Nat) (s : List Term) : Obj.below n (obT s) = true := by
  unfold obT
  split
  · rfl
  · simp only [Obj.below, List.all_map, List.all_eq_true]
    intro a _
    simp only [Function.comp, List.all_map, List.all_eq_true]
    intro c _
    exact below_p
theorem obT_pur (k : Nat) (s : List Term) (r : Store) : purify (obT s :: r) (k + 2) (.sl 0 s.length) = some (.lst (s.map Term.row)) := by
  have hrow : ∀ (σ : Store) (ps : List PV), omap (purify σ (k + 1)) (ps.map AV.p) = some ps := by
    intro σ ps
    induction ps with
    | nil => rfl
    | cons a r ih => simp only [List.map_cons, omap, purify_p, ih]
  have hrows : ∀ (σ : Store) (l : List Term), omap (omap (purify σ (k + 1))) (avT l) = some (l.map Term.row) := by
    intro σ l
    induction l with
    | nil => rfl
    | cons a r ih =>
      have ih' : omap (omap (purify σ (k + 1))) (r.map fun a => a.row.map AV.p) = some (r.map Term.row) := ih
      simp only [avT, List.map_cons, omap, hrow, ih']
  unfold obT
  split
  · rw [show purify (.pv (esOf 5 s) (s.map Term.row) false :: r) (k + 2) (.sl 0 s.length) = (if (s.map Term.row).length = s.length then some (.lst (s.map Term.row)) else none) from rfl]
    rw [if_pos (by simp)]
  · rw [show purify (.av 5 (avT s) false :: r) (k + 2) (.sl 0 s.length) = (if (avT s).length = s.length then (omap (omap (purify (.av 5 (avT s) false :: r) (k + 1))) (avT s)).map .lst else none) from rfl]
    rw [if_pos (by simp), hrows]
    rfl
theorem obT_app (s : List Term) (r : Store) (h : s.length ≤ 1000000) : appendV (obT s :: r) 5 64 (.sl 0 s.length) (some (.inr [zA])) = some (.sl 0 (s.length + 1), .av 5 (avT s ++ [zA]) false :: r) := by
  have hb : (s.length + Src.count (Sum.inr [zA])) * 64 ≤ 140737488355328 := by simp only [Src.count, List.length_cons, List.length_nil]; omega
  simp only [appendV, appendRows, List.getElem?_cons_zero, obT_len, hb, and_self, if_true, obT_join, Option.map_some, List.set_cons_zero]
  rfl
theorem objM_z (l : List (List AV)) : objM (l ++ [zA]) = .av 5 (l ++ [zA]) false := by
  unfold objM
  split
  · rename_i q hq
    cases l with
    | nil =>
      simp only [List.nil_append, List.cons.injEq, and_true] at hq
      rw [← hq]
      split
      · rename_i ps hps; simp [zA, allP] at hps
      · rfl
    | cons a l => simp at hq
  · rfl
theorem obT_ia (s : List Term) (r : Store) : iadrSV (.av 5 (avT s ++ [zA]) false :: r) 5 (.sl 0 (s.length + 1)) (.p (.int .i64 s.length)) = some (.ptr 0 (s.length + 1) s.length 0) := by
  rw [← objM_z]
  exact ia_M rfl (by simp) (by omega)
theorem obT_st (s : List Term) (u : Term) (r : Store) : stO (.av 5 (avT s ++ [zA]) false :: r) 0 (s.length + 1) s.length 0 (u.row.map AV.p) (some (.av 5 (avT s ++ [zA]) false)) = some (obT (s ++ [u]) :: r) := by
  have h := st_M (σ := .av 5 (avT s ++ [zA]) false :: r) (b := 0) (m := s.length + 1) (j := s.length) (rows := avT s ++ [zA]) (ps := u.row) (by simp) (by omega) (fun x hx => by
    rcases List.mem_append.1 hx with hx | hx
    · obtain ⟨a, _, rfl⟩ := List.mem_map.1 hx
      rw [List.length_map]; exact a.row_len
    · rw [List.mem_singleton] at hx
      subst hx
      rfl) u.row_len
  rw [objM_z] at h
  rw [h, obT_M]
  have e : (avT s ++ [zA]).set s.length (u.row.map AV.p) = avT (s ++ [u]) := by
    have : s.length = (avT s).length := by simp
    rw [this, List.set_append_right _ _ (Nat.le_refl _)]
    simp [avT]
  rw [e]
  rfl
abbrev sB (s : List Term) : Store := [obT s, .av 1 [[.sl 0 s.length]] false]
theorem gc_44 {vs : List AV} {a b c d : Obj} : gc 4 vs [a, b, c, d] = [a, b, c, d] := gc_same' (by simp)
theorem gc_45 {vs : List AV} {a b c d e : Obj} : gc 4 vs [a, b, c, d, e] = if gcOk 4 vs [a, b, c, d, e] = true then [a, b, c, d] else [a, b, c, d, e] := by unfold gc; rw [if_neg (by simp)]; rfl
theorem bs_z {σ : Store} : bsliceV σ 5 1 (fillP (List.replicate 1 [.p (.int .i64 0), .p (.int .i64 0), .p (.int .u64 0), .p (.str (bs [])), .nils]).flatten [(0, 5, .agg [.p (.int .i64 0), .p (.int .i64 0), .p (.int .u64 0), .p (.str (bs [])), .nils])]) = some (.sl σ.length 1, σ ++ [.av 5 [zA] false]) := rfl
theorem src_4 {o0 o1 o2 o3 : Obj} : srcOf [o0, o1, o2, o3, .av 5 [zA] false] 5 (.sl 4 1) = some (.inr [zA]) := rfl
set_option maxHeartbeats 8000000 in
theorem rg_term_Subterms (t : Term) (ht : TOk t) (hc : t.count ≤ 1000000) : rangeR P [7] A0_term_Subterms B0_term_Subterms (.p (.fn f_term_All_1 [.ptr t.row 0])) [(3, .ptr 1 1 0 0)] (sB []) 20 none =
    some (rangeEnd sB (fun x : Empty => nomatch x) (foldE (fun i s u => .inl (addS s u)) 0 [] t.post)) := by
  refine range_post (rd := none) (kept := [(3, .ptr 1 1 0 0)]) (ps := [7]) (asg := A0_term_Subterms) (b := B0_term_Subterms) (nt := 20) t hc ⟨rfl, rfl⟩ sB (fun i s u => .inl (addS s u)) (fun x : Empty => nomatch x)
    (fun i s => s.length ≤ i) [] rfl (fun _ => rfl) (fun x => nomatch x) (fun s m hm => ?_) (fun x => nomatch x) (by simp [below]) (fun x => nomatch x) (fun i u s ha hs => ?_) (Nat.le_refl _)
  · have : (0 : Nat) < m := by have : (2 : Nat) ≤ m := hm; omega
    simp only [sB, List.all_cons, List.all_nil, obT_below, obj_belowA, below, this, decide_true]; rfl
  · have hum := List.mem_of_getElem? ha
    have hut := post_TOk ht u hum
    have huc := post_count u hum
    have hil := (List.getElem?_eq_some_iff.1 ha).1
    rw [Term.post_len] at hil
    have hcp := s_term_Copy u (by omega)
    have hr := s_ContainsT s u hut (by omega)
    refine ⟨fun s' he => by cases he; have := addS_len (s := s) (u := u); omega, ?_⟩
    simp only [sB, List.cons_append, List.nil_append]
    rw [round_go rfl ⟨rfl, rfl, rfl⟩]
    have hL : ∀ r : Store, lenSV (obT s :: r) (.sl 0 s.length) = some (.p (.int .i64 s.length)) := by
      intro r
      have h : slen (obT s :: r) 0 = some s.length := obT_len s
      simp [lenSV, lenS, h]
    have hP := fun (k : Nat) (r : Store) => obT_pur k s r
    have hA := fun (r : Store) => obT_app s r (by omega)
    have hS := fun (r : Store) => obT_st s u r
    have hI := fun (r : Store) => obT_ia s r
    have hB := fun (n : Nat) (s : List Term) => obT_below n s
    unfold addS
    cases hb : s.any u.beq with
    | true =>
      rw [hb] at hr
      simp only [A0_term_Subterms, B0_term_Subterms, if_true]
      simp (disch := omega) only [eqs, eqL, ↓gc_len, seval, -List.reduceReplicate, reduceCtorEq, omap, depth, pcall, pureR, freezeFor, freezeAll, tupR, resV, purR, enterTm, number, gcOk, rangeEnd, mkTup, allP, eqM, List.length_map, mkFn, hP, q_slices_ContainsFunc_api_Term_api_Term, hr, gc_44]
    | false =>
      rw [hb] at hr
      simp only [A0_term_Subterms, B0_term_Subterms, Bool.false_eq_true, if_false]
      simp (disch := omega) only [eqs, eqL, ↓gc_len, seval, -List.reduceReplicate, reduceCtorEq, omap, depth, pcall, pureR, freezeFor, freezeAll, tupR, resV, purR, enterTm, number, gcOk, rangeEnd, mkTup, allP, eqM, List.length_map, List.length_append, mkFn, hP, q_slices_ContainsFunc_api_Term_api_Term, hr, gc_44, gc_45, q_term_Copy, hcp, regD_go, regD_some, regOk, apartOk, pureRead, blkOf, noNils, Bool.false_or, Bool.or_self, Bool.or_true, Bool.or_false, hL, bs_z, src_4, hA, hI, hS, hB]
theorem s_term_Subterms (t : Term) (ht : TOk t) (hc : t.count ≤ 1000000) : R P f_term_Subterms [.agg t.row] = some (.lst ((t.post.foldl addS []).map Term.row)) := by
  have hr := rg_term_Subterms t ht hc
  have hA := s_term_All t
  rw [foldE_foldl addS t.post 0 []] at hr
  have hP := obT_pur 10 (t.post.foldl addS []) [.av 1 [[.sl 0 (t.post.foldl addS []).length]] false]
  have hr' : rangeR P [7] A0_term_Subterms B0_term_Subterms (.p (.fn f_term_All_1 [.ptr t.row 0])) [(3, .ptr 1 1 0 0)] [.pv 0 [] false, .av 1 [[.sl 0 0]] false] 20 none = _ := hr
  (rw [r_term_Subterms (Nat.le_of_ble_eq_true rfl), F_term_Subterms]; simp (disch := omega) only [eqs, eqL, ↓gc_len, seval, -List.reduceReplicate, reduceCtorEq, omap, depth, pcall, pureR, freezeFor, freezeAll, tupR, resV, purR, enterTm, number, gcOk, rangeEnd, mkTup, allP, eqM, q_term_All, hA, kR0_term_Subterms, hr', hP])
end Go.AE.S
/- The examples of the chapter. --M-- -/
namespace Go.AE.S
open Go Go.AE
set_option linter.unusedSimpArgs false
set_option linter.unusedVariables false
variable {τ : Tm} {σ : Store} {rd : Option Nat}
def xX : Term := .mk 1 8 0 (bs [120]) []
def xC : Term := .mk 2 8 1 (bs []) []
def xK : Term := .mk 2 4 1 (bs []) []
def xS : Term := .mk 8 8 0 (bs []) [xX, xC]
def xB : Term := .mk 8 0 0 (bs []) [xX, xK]
def xP : Term := .mk 8 8 0 (bs []) [xC, xC]
theorem x_Var : R P f_term_Var [.str (bs [120]), .int .i64 8] = some (.agg xX.row) := s_term_Var (bs [120]) 8
theorem x_C : R P f_term_Const [.int .i64 8, .int .u64 257] = some (.agg xC.row) := s_term_Const 8 257 ⟨by decide, by decide⟩
theorem x_K : R P f_term_Const [.int .i64 4, .int .u64 1] = some (.agg xK.row) := s_term_Const 4 1 ⟨by decide, by decide⟩
theorem x_S : R P f_term_Make [.int .i64 8, .lst [xX.row, xC.row]] = some (.agg xS.row) := s_term_Make 8 [xX, xC] (by decide)
theorem x_B : R P f_term_Make [.int .i64 8, .lst [xX.row, xK.row]] = some (.agg xB.row) := s_term_Make 8 [xX, xK] (by decide)
theorem x_At1 : R P f_term_At [.agg xS.row, .lst [[.int .i64 1]]] = some (.tup [.agg xC.row, .bool true]) := s_term_At xS [1] (by decide) (by decide)
theorem x_At2 : R P f_term_At [.agg xS.row, .lst [[.int .i64 2]]] = some (.tup [.agg zT.row, .bool false]) := s_term_At xS [2] (by decide) (by decide)
theorem x_Put : R P f_term_Put [.agg xS.row, .lst [[.int .i64 0]], .agg xC.row] = some (.tup [.agg xP.row, .bool true]) := s_term_Put xC (by decide) [0] xS (by decide) (by decide)
theorem x_Size : R P f_term_Size [.agg xS.row] = some (.int .i64 3) := s_term_Size xS (by decide)
theorem x_Depth : R P f_term_Depth [.agg xS.row] = some (.int .i64 2) := s_term_Depth xS (by decide)
theorem tok_xX : TOk xX := tok_leaf (by decide) (by decide) ⟨by decide, by decide⟩ (by decide)
theorem tok_xC : TOk xC := tok_leaf (by decide) (by decide) ⟨by decide, by decide⟩ (by decide)
theorem tok_xK : TOk xK := tok_leaf (by decide) (by decide) ⟨by decide, by decide⟩ (by decide)
theorem tok_xS : TOk xS := .mk _ (by decide) (by decide) ⟨by decide, by decide⟩ (by decide) (by decide) (by
  intro b hb
  rcases List.mem_cons.1 hb with rfl | hb
  · exact tok_xX
  · rcases List.mem_cons.1 hb with rfl | hb
    · exact tok_xC
    · simp at hb)
theorem tok_xB : TOk xB := .mk _ (by decide) (by decide) ⟨by decide, by decide⟩ (by decide) (by decide) (by
  intro b hb
  rcases List.mem_cons.1 hb with rfl | hb
  · exact tok_xX
  · rcases List.mem_cons.1 hb with rfl | hb
    · exact tok_xK
    · simp at hb)
theorem x_chS : checkT xS = 0 := by decide +kernel
theorem x_chB : checkT xB = 3 := by decide +kernel
theorem x_chZ : checkT zT = 4 := by decide +kernel
theorem x_Check : R P f_term_Check [.agg xS.row] = some (.int .i64 0) := by rw [s_term_Check xS tok_xS (by decide), x_chS]
theorem x_CheckB : R P f_term_Check [.agg xB.row] = some (.int .i64 3) := by rw [s_term_Check xB tok_xB (by decide), x_chB]
theorem x_CheckZ : R P f_term_Check [.agg zT.row] = some (.int .i64 4) := by rw [s_term_Check zT tok_zT (by decide), x_chZ]
theorem x_cmp : xX.cmpT xS = -1 := by decide +kernel
theorem x_cmp0 : xS.cmpT xS = 0 := by decide +kernel
theorem x_Cmp : R P f_term_Compare [.agg xX.row, .agg xS.row] = some (.int .i64 (-1)) := by rw [s_term_Compare xX xS (by decide) (by decide), x_cmp]
theorem x_Cmp0 : R P f_term_Compare [.agg xS.row, .agg xS.row] = some (.int .i64 0) := by rw [s_term_Compare xS xS (by decide) (by decide), x_cmp0]
theorem x_subs : xS.post.foldl addS [] = [xX, xC, xS] := by rfl
theorem x_Subs : R P f_term_Subterms [.agg xS.row] = some (.lst [xX.row, xC.row, xS.row]) := by
  rw [s_term_Subterms xS tok_xS (by decide), x_subs]; rfl
theorem x_vars : xS.pre.foldl addU [] = [⟨bs [120], 8⟩] := by rfl
theorem x_Vars : R P f_term_Vars [.agg xS.row] = some (.lst [[.str (bs [120]), .int .i64 8]]) := by
  rw [s_term_Vars xS (by decide), varsT, x_vars]; rfl
theorem x_n1 : nameOk (bs [97, 95, 49]) = true := by decide +kernel
theorem x_n2 : nameOk (bs [49, 97]) = false := by decide +kernel
theorem x_N1 : R P f_term_Name [.str (bs [97, 95, 49])] = some (.bool true) := by rw [s_term_Name, x_n1]
theorem x_N2 : R P f_term_Name [.str (bs [49, 97])] = some (.bool false) := by rw [s_term_Name, x_n2]
end Go.AE.S
/- The examples of the chapter, run. --M-- -/
namespace Go.AE.S
open Go Go.AE
set_option linter.unusedSimpArgs false
set_option linter.unusedVariables false
variable {τ : Tm} {σ : Store} {rd : Option Nat}
theorem bl_2 {a b : Term} : blistV σ 5 2 (fillP (List.replicate 2 [.p (.int .i64 0), .p (.int .i64 0), .p (.int .u64 0), .p (.str (bs [])), .nils]).flatten [(0, 5, .p (.agg a.row)), (5, 5, .p (.agg b.row))]) = some (.p (.lst [a.row, b.row]), σ) := by rw [Term.row_eq, Term.row_eq]; rfl
theorem eqv_self {q : ByteArray} {n : Int} : eqCells [.str, .int] [.str q, .int .i64 n] [.str q, .int .i64 n] = some true := by simp [eqCells, eqLeaf]
theorem flat_tC : PV.flat (.tup [.agg xC.row, .bool true]) = true := by simp [PV.flat, xC, Term.row, Term.rows]
theorem flat_tZ : PV.flat (.tup [.agg zT.row, .bool false]) = true := by simp [PV.flat, zT, Term.row, Term.rows]
theorem flat_tP : PV.flat (.tup [.agg xP.row, .bool true]) = false := by simp [PV.flat, xP, Term.row, Term.rows]
theorem flat_l2 {a : List PV} {l : List (List PV)} : PV.flat (.lst (a :: l)) = false := by simp [PV.flat]
set_option maxHeartbeats 8000000 in
theorem s_l06 : R P f_law06_lives [] = some (.bool true) := by
  have e1 : xS.w = 8 := rfl
  have e2 : xB.w = 0 := rfl
  have e3 : xC.v = 1 := rfl
  have e4 : xC.op = 2 := rfl
  have e5 : xP.args = [xC, xC] := rfl
  have r1 := x_Var; have r2 := x_C; have r3 := x_K; have r4 := x_S; have r5 := x_B
  have r6 := x_At1; have r7 := x_At2; have r8 := x_Put; have r9 := x_Size; have r10 := x_Depth
  have r11 := x_Check; have r12 := x_CheckB; have r13 := x_CheckZ; have r14 := x_Cmp; have r15 := x_Cmp0
  have r16 := x_Subs; have r17 := x_Vars; have r18 := x_N1; have r19 := x_N2
  simp only [zT_row] at r13
  have hq : eqAV false [.str, .int] (.p (.agg [.str (bs [120]), .int .i64 8])) (.p (.agg [.str (bs [120]), .int .i64 8])) = some (.p (.bool true)) := by
    have h : eqCells [.str, .int] [.str (bs [120]), .int .i64 8] [.str (bs [120]), .int .i64 8] = some true := eqv_self
    simp only [eqAV, h, Option.map_some]; rfl
  have hi1 : ∀ σ, iadrSV σ 5 (.p (.lst [xC.row, xC.row])) (.p (.int .i64 0)) = some (.p (.ptr xC.row 0)) := fun σ => v_iadr (k := .i64) (es := 5) (σ := σ) (i := 0) (rows := [xC.row, xC.row]) rfl xC.row_len
  have hi2 : ∀ σ, iadrSV σ 2 (.p (.lst [[.str (bs [120]), .int .i64 8]])) (.p (.int .i64 0)) = some (.p (.ptr [.str (bs [120]), .int .i64 8] 0)) := fun σ => v_iadr (k := .i64) (es := 2) (σ := σ) (i := 0) (rows := [[.str (bs [120]), .int .i64 8]]) rfl rfl
  (rw [r_law06_lives (Nat.le_of_ble_eq_true rfl), F_law06_lives]; simp (disch := omega) only [eqs, eqL, ↓gc_len, seval, -List.reduceReplicate, reduceCtorEq, omap, depth, pcall, pureR, freezeFor, freezeAll, tupR, resV, purR, enterTm, number, gcOk, rangeEnd, mkTup, allP, eqM, q_term_Var, r1, q_term_Const, r2, r3, q_term_Make, r4, r5, q_term_At, r6, r7, q_term_Put, r8, q_term_Size, r9, q_term_Depth, r10, q_term_Check, r11, r12, r13, q_term_Compare, r14, r15, q_term_Subterms, r16, q_term_Vars, r17, q_term_Name, r18, r19, e1, e2, e3, e4, e5, bl_2, hi1, hi2, hq, flat_tC, flat_tZ, flat_tP, ldT_1, ldT_4, flat_l2, refs_go, rfO_pv, rfO_av, rfO_nil, refs_map, refs_nils, frz_go, frzO_pv, frzO_av, pur_go, purO_pv, purO_av, omap_p])
end Go.AE.S
/- The order of terms is an order. -/
namespace Go.AE.S
open Go Go.AE
/-- Three signs that agree: of x to y, of y to z, of x to z. -/
def T3 (x y z : Int) : Prop := (x ≤ 0 ∧ y ≤ 0 → z ≤ 0 ∧ (z = 0 → x = 0 ∧ y = 0)) ∧ (x = 0 → z = y) ∧ (y = 0 → z = x)
def or2 (x y : Int) : Int := if x = 0 then y else x
theorem T3.or {x y z x' y' z' : Int} (h : T3 x y z) (h' : T3 x' y' z') : T3 (or2 x x') (or2 y y') (or2 z z') := by
  unfold T3 or2 at *
  obtain ⟨h1, h2, h3⟩ := h
  obtain ⟨k1, k2, k3⟩ := h'
  split <;> split <;> split <;> omega
theorem T3_I (a b c : Int) : T3 (cmpI a b) (cmpI b c) (cmpI a c) := by
  unfold T3 cmpI
  split <;> split <;> split <;> (try split) <;> (try split) <;> (try split) <;> omega
theorem T3_0 : T3 0 0 0 := by unfold T3; omega
theorem str_lt {a b : ByteArray} (h : slt a b = true) : cmpStr a b = -1 := by rw [cmp_cases, if_neg (slt_ne h), if_pos h]
theorem str_eq (a : ByteArray) : cmpStr a a = 0 := by rw [cmp_cases, if_pos rfl]
theorem str_gt {a b : ByteArray} (h : slt b a = true) : cmpStr a b = 1 := by rw [cmp_cases, if_neg (fun e => slt_ne h e.symm), if_neg (by rw [slt_asym h]; simp)]
theorem T3_S (a b c : ByteArray) : T3 (cmpStr a b) (cmpStr b c) (cmpStr a c) := by
  rcases slt_tri a b with h1 | h1 | h1
  · rcases slt_tri b c with h2 | h2 | h2
    · rw [str_lt h1, str_lt h2, str_lt (slt_trans h1 h2)]; unfold T3; omega
    · subst h2; rw [str_lt h1, str_eq]; unfold T3; omega
    · rw [str_lt h1, str_gt h2]; unfold T3; omega
  · subst h1; rw [str_eq]; unfold T3; omega
  · rcases slt_tri b c with h2 | h2 | h2
    · rw [str_gt h1, str_lt h2]; unfold T3; omega
    · subst h2; rw [str_gt h1, str_eq]; unfold T3; omega
    · rw [str_gt h1, str_gt h2]; unfold T3; omega
theorem orI_cons (a : Int) (l : List Int) : orI (a :: l) = or2 a (orI l) := rfl
theorem cmpsT_cons (a b : Term) (as bs : List Term) : Term.cmpsT (a :: as) (b :: bs) = or2 (a.cmpT b) (Term.cmpsT as bs) := by rw [Term.cmpsT]; rfl
theorem cmpsT_nn : Term.cmpsT [] [] = 0 := by rw [Term.cmpsT]
theorem cmpsT_nc (b : Term) (bs : List Term) : Term.cmpsT [] (b :: bs) = -1 := by rw [Term.cmpsT]
theorem cmpsT_cn (b : Term) (bs : List Term) : Term.cmpsT (b :: bs) [] = 1 := by rw [Term.cmpsT]
theorem T3_L : ∀ as bs cs : List Term, (∀ a ∈ as, ∀ b c : Term, T3 (a.cmpT b) (b.cmpT c) (a.cmpT c)) → T3 (Term.cmpsT as bs) (Term.cmpsT bs cs) (Term.cmpsT as cs)
  | [], [], [], _ => by rw [cmpsT_nn]; exact T3_0
  | [], [], c :: cs, _ => by rw [cmpsT_nn, cmpsT_nc]; unfold T3; omega
  | [], b :: bs, [], _ => by rw [cmpsT_nc, cmpsT_cn]; unfold T3; omega
  | [], b :: bs, c :: cs, _ => by rw [cmpsT_nc, cmpsT_nc]; unfold T3; omega
  | a :: as, [], [], _ => by rw [cmpsT_nn, cmpsT_cn]; unfold T3; omega
  | a :: as, [], c :: cs, _ => by rw [cmpsT_cn, cmpsT_nc]; unfold T3; omega
  | a :: as, b :: bs, [], _ => by rw [cmpsT_cn, cmpsT_cn]; unfold T3; omega
  | a :: as, b :: bs, c :: cs, h => by
    rw [cmpsT_cons, cmpsT_cons, cmpsT_cons]
    exact (h a (by simp) b c).or (T3_L as bs cs fun x hx => h x (by simp [hx]))
theorem T3_T (t : Term) : ∀ u v : Term, T3 (t.cmpT u) (u.cmpT v) (t.cmpT v) := by
  induction t using Term.ind with
  | h t ih =>
  intro u v
  rw [Term.cmpT_eq t u, Term.cmpT_eq u v, Term.cmpT_eq t v]
  simp only [orI_cons]
  exact (T3_I _ _ _).or <| (T3_I _ _ _).or <| (T3_I _ _ _).or <| (T3_I _ _ _).or <| (T3_S _ _ _).or <| (T3_L _ _ _ ih).or T3_0
theorem neg_or {x y x' y' : Int} (h : x = -y) (h' : x' = -y') : or2 x x' = -(or2 y y') := by
  unfold or2; split <;> split <;> omega
theorem neg_I (a b : Int) : cmpI a b = -(cmpI b a) := by
  unfold cmpI
  split <;> split <;> (try split) <;> omega
theorem neg_S (a b : ByteArray) : cmpStr a b = -(cmpStr b a) := by
  rcases slt_tri a b with h1 | h1 | h1
  · rw [str_lt h1, str_gt h1]
  · subst h1; rw [str_eq]; rfl
  · rw [str_gt h1, str_lt h1]; rfl
theorem neg_L : ∀ as bs : List Term, (∀ a ∈ as, ∀ b : Term, a.cmpT b = -(b.cmpT a)) → Term.cmpsT as bs = -(Term.cmpsT bs as)
  | [], [], _ => by rw [cmpsT_nn]; rfl
  | [], b :: bs, _ => by rw [cmpsT_nc, cmpsT_cn]
  | a :: as, [], _ => by rw [cmpsT_nc, cmpsT_cn]; rfl
  | a :: as, b :: bs, h => by
    rw [cmpsT_cons, cmpsT_cons]
    exact neg_or (h a (by simp) b) (neg_L as bs fun x hx => h x (by simp [hx]))
theorem neg_T (t : Term) : ∀ u : Term, t.cmpT u = -(u.cmpT t) := by
  induction t using Term.ind with
  | h t ih =>
  intro u
  rw [Term.cmpT_eq t u, Term.cmpT_eq u t]
  simp only [orI_cons]
  exact neg_or (neg_I _ _) <| neg_or (neg_I _ _) <| neg_or (neg_I _ _) <| neg_or (neg_I _ _) <| neg_or (neg_S _ _) <| neg_or (neg_L _ _ ih) rfl
def R3 (x : Int) : Prop := x = -1 ∨ x = 0 ∨ x = 1
theorem R3.or {x y : Int} (h : R3 x) (h' : R3 y) : R3 (or2 x y) := by unfold or2; split <;> assumption
theorem R3_I (a b : Int) : R3 (cmpI a b) := by unfold R3 cmpI; split <;> (try split) <;> omega
theorem R3_S (a b : ByteArray) : R3 (cmpStr a b) := by unfold R3 cmpStr; split <;> (try split) <;> omega
theorem R3_L : ∀ as bs : List Term, (∀ a ∈ as, ∀ b : Term, R3 (a.cmpT b)) → R3 (Term.cmpsT as bs)
  | [], [], _ => by rw [cmpsT_nn]; unfold R3; omega
  | [], b :: bs, _ => by rw [cmpsT_nc]; unfold R3; omega
  | a :: as, [], _ => by rw [cmpsT_cn]; unfold R3; omega
  | a :: as, b :: bs, h => by
    rw [cmpsT_cons]
    exact (h a (by simp) b).or (R3_L as bs fun x hx => h x (by simp [hx]))
theorem R3_T (t : Term) : ∀ u : Term, R3 (t.cmpT u) := by
  induction t using Term.ind with
  | h t ih =>
  intro u
  rw [Term.cmpT_eq t u]
  simp only [orI_cons]
  exact (R3_I _ _).or <| (R3_I _ _).or <| (R3_I _ _).or <| (R3_I _ _).or <| (R3_S _ _).or <| (R3_L _ _ ih).or (.inr (.inl rfl))
theorem or2_z {x y : Int} (h : or2 x y = 0) : x = 0 ∧ y = 0 := by unfold or2 at h; split at h <;> omega
theorem z_I {a b : Int} (h : cmpI a b = 0) : a = b := by unfold cmpI at h; split at h; omega; split at h <;> omega
theorem z_S {a b : ByteArray} (h : cmpStr a b = 0) : a = b := by
  rw [cmp_cases] at h
  by_cases e : a = b
  · exact e
  · rw [if_neg e] at h; split at h <;> omega
theorem z_L : ∀ as bs : List Term, (∀ a ∈ as, ∀ b : Term, a.cmpT b = 0 → a = b) → Term.cmpsT as bs = 0 → as = bs
  | [], [], _, _ => rfl
  | [], b :: bs, _, h => by rw [cmpsT_nc] at h; omega
  | a :: as, [], _, h => by rw [cmpsT_cn] at h; omega
  | a :: as, b :: bs, ih, h => by
    rw [cmpsT_cons] at h
    obtain ⟨h1, h2⟩ := or2_z h
    rw [ih a (by simp) b h1, z_L as bs (fun x hx => ih x (by simp [hx])) h2]
theorem z_T (t : Term) : ∀ u : Term, t.cmpT u = 0 → t = u := by
  induction t using Term.ind with
  | h t ih =>
  intro u h
  rw [Term.cmpT_eq t u] at h
  simp only [orI_cons] at h
  obtain ⟨_, h⟩ := or2_z h
  obtain ⟨h1, h⟩ := or2_z h
  obtain ⟨h2, h⟩ := or2_z h
  obtain ⟨h3, h⟩ := or2_z h
  obtain ⟨h4, h⟩ := or2_z h
  obtain ⟨h5, _⟩ := or2_z h
  have e1 := z_I h1
  have e2 := z_I h2
  have e3 := z_I h3
  have e4 := z_S h4
  have e5 := z_L _ _ ih h5
  cases t; cases u
  simp only [Term.op, Term.w, Term.v, Term.name, Term.args] at e1 e2 e3 e4 e5
  rw [e1, e2, e3, e4, e5]
theorem cmp_same (t u : Term) : t.beq u = decide (t.cmpT u = 0) := by
  by_cases h : t.cmpT u = 0
  · rw [decide_eq_true h, (Term.beq_iff t u).2 (z_T t u h)]
  · rw [decide_eq_false h]
    cases hb : t.beq u with
    | false => rfl
    | true =>
      have e := (Term.beq_iff t u).1 hb
      subst e
      have := neg_T t t
      omega
end Go.AE.S
/- The law of the order. --M-- -/
namespace Go.AE.S
open Go Go.AE
set_option linter.unusedSimpArgs false
set_option linter.unusedVariables false
variable {τ : Tm} {σ : Store} {rd : Option Nat}
def lightB (t : Term) : Bool := decide ((t.deep : Int) ≤ 40 ∧ (t.count : Int) ≤ 200)
abbrev e_lg (l : List Term) (i : Int) : List (Nat × AV) := [(0, .p (.lst (l.map Term.row))), (3, .p (.int .i64 i))]
theorem s_light (l : List Term) (hl : l.length ≤ 1000000) (ht : ∀ a ∈ l, TOk a) : R P f_law06_light [.lst (l.map Term.row)] = some (.bool (l.all lightB)) := by
  have h := loop_to (P := P) (nt := 22) (lv := [0, 3]) (b := B0_law06_light) (rd := none) (as := l) (fun i (_ : Unit) => e_lg l i) (fun _ => []) (fun _ _ a => if lightB a = true then .inl () else .inr ()) (fun (_ : Unit) => ret1 2 (.bool false) []) (fun _ _ => True)
    (fun i a s ha hi hs => by
      refine ⟨fun _ _ => trivial, ?_⟩
      have hlt : ((i : Int) < l.length) = True := by simpa using hi
      have hr := s_r06_Light a (ht a (List.mem_of_getElem? ha)) 40 200 (by omega) (by omega)
      have hx := fun σ => v_iadr (k := .i64) (es := 5) (σ := σ) (map_get (f := Term.row) ha) a.row_len
      unfold lightB
      unfold lightV at hr
      by_cases hc : (a.deep : Int) ≤ 40 ∧ (a.count : Int) ≤ 200
      · rw [if_pos hc] at hr
        rw [decide_eq_true hc]
        simp only [B0_law06_light, if_true]
        simp (disch := omega) only [eqs, eqL, ↓gc_len, seval, -List.reduceReplicate, reduceCtorEq, omap, depth, pcall, pureR, freezeFor, freezeAll, tupR, resV, purR, enterTm, number, gcOk, rangeEnd, mkTup, allP, eqM, hlt, List.length_map, hx, q_r06_Light, hr, e_lg, ret1]
      · rw [if_neg hc] at hr
        rw [decide_eq_false hc]
        simp only [B0_law06_light, Bool.false_eq_true, if_false]
        simp (disch := omega) only [eqs, eqL, ↓gc_len, seval, -List.reduceReplicate, reduceCtorEq, omap, depth, pcall, pureR, freezeFor, freezeAll, tupR, resV, purR, enterTm, number, gcOk, rangeEnd, mkTup, allP, eqM, hlt, List.length_map, hx, q_r06_Light, hr, e_lg, ret1]) (fun i s => rfl) () trivial
  rw [fold_allG lightB] at h
  cases hb : l.all lightB with
  | true =>
    rw [hb] at h
    obtain ⟨_, h⟩ := h
    have h' : loopAt P L0_law06_light (e_lg l 0) [] 22 none = _ := h
    simp only [e_lg] at h'
    (rw [r_law06_light (Nat.le_of_ble_eq_true rfl), F_law06_light]; simp (disch := omega) only [eqs, eqL, ↓gc_len, seval, -List.reduceReplicate, reduceCtorEq, omap, depth, pcall, pureR, freezeFor, freezeAll, tupR, resV, purR, enterTm, number, gcOk, rangeEnd, mkTup, allP, eqM, k0_law06_light, h', B0_law06_light, Int.lt_irrefl, List.length_map])
  | false =>
    rw [hb] at h
    obtain ⟨⟨e', τ', σ', nt', rd'⟩, g1, g2, g3, g4⟩ := h
    simp only at g2 g3 g4
    subst g2; subst g4
    have h' : loopAt P L0_law06_light (e_lg l 0) [] 22 none = some (.ret, ⟨τ', [], nt', rd'⟩) := g1
    simp only [e_lg] at h'
    (rw [r_law06_light (Nat.le_of_ble_eq_true rfl), F_law06_light]; simp (disch := omega) only [eqs, eqL, ↓gc_len, seval, -List.reduceReplicate, reduceCtorEq, omap, depth, pcall, pureR, freezeFor, freezeAll, tupR, resV, purR, enterTm, number, gcOk, rangeEnd, mkTup, allP, eqM, k0_law06_light, h', g3])
theorem wn_1 : IntKind.i64.wrap (-1) = -1 := by decide
theorem wn_p : IntKind.i64.wrap 1 = 1 := by decide
theorem wn_0 : IntKind.i64.wrap 0 = 0 := by decide
theorem bq_ff : (false == false) = true := rfl
theorem bq_tt : (true == true) = true := rfl
theorem bq_tf : (true == false) = false := rfl
theorem bq_ft : (false == true) = false := rfl
theorem bsl_3 {a b c : Term} : bsliceV σ 5 3 (fillP (List.replicate 3 [.p (.int .i64 0), .p (.int .i64 0), .p (.int .u64 0), .p (.str (bs [])), .nils]).flatten [(0, 5, .p (.agg a.row)), (5, 5, .p (.agg b.row)), (10, 5, .p (.agg c.row))]) = some (.sl σ.length 3, σ ++ [.pv 5 [a.row, b.row, c.row] false]) := by rw [Term.row_eq a, Term.row_eq b, Term.row_eq c]; rfl
theorem blist_3 {a b c : Term} : blistV σ 5 3 (fillP (List.replicate 3 [.p (.int .i64 0), .p (.int .i64 0), .p (.int .u64 0), .p (.str (bs [])), .nils]).flatten [(0, 5, .p (.agg a.row)), (5, 5, .p (.agg b.row)), (10, 5, .p (.agg c.row))]) = some (.p (.lst [a.row, b.row, c.row]), σ) := by rw [Term.row_eq a, Term.row_eq b, Term.row_eq c]; rfl
set_option maxHeartbeats 8000000 in
theorem p_TermCompares (a b c : Term) (ha : TOk a) (hb : TOk b) (hc : TOk c) : R P f_law06_TermCompares [.agg a.row, .agg b.row, .agg c.row] = some (.bool true) := by
  have hl := s_light [a, b, c] (by simp) (fun x hx => by
    simp only [List.mem_cons, List.not_mem_nil, or_false] at hx
    rcases hx with rfl | rfl | rfl <;> assumption)
  simp only [List.map_cons, List.map_nil] at hl
  have hv := s_l06
  cases hq : [a, b, c].all lightB with
  | false =>
    rw [hq] at hl
    (rw [r_law06_TermCompares (Nat.le_of_ble_eq_true rfl), F_law06_TermCompares]; simp (disch := omega) only [eqs, eqL, ↓gc_len, seval, -List.reduceReplicate, reduceCtorEq, omap, depth, pcall, pureR, freezeFor, freezeAll, tupR, resV, purR, enterTm, number, gcOk, rangeEnd, mkTup, allP, eqM, bsl_3, blist_3, q_law06_light, hl, q_law06_lives, hv])
  | true =>
    rw [hq] at hl
    have hcnt : ∀ x ∈ [a, b, c], x.count ≤ 1000000 := fun x hx => by
      have := of_decide_eq_true (List.all_eq_true.1 hq x hx)
      omega
    have na := hcnt a (by simp)
    have nb := hcnt b (by simp)
    have nc := hcnt c (by simp)
    have k1 := s_term_Compare a b na nb
    have k2 := s_r06_Compare a b na nb
    have k3 := s_term_Same a ha b
    have k4 := s_r06_Same a ha b
    have k5 := s_term_Compare b a nb na
    have k6 := s_term_Compare b c nb nc
    have k7 := s_term_Compare a c na nc
    have t3 := T3_T a b c
    rw [neg_T b a] at k5
    rw [cmp_same] at k3 k4
    have rx := R3_T a b
    have ry := R3_T b c
    have rz := R3_T a c
    generalize a.cmpT b = x at *
    generalize b.cmpT c = y at *
    generalize a.cmpT c = z at *
    unfold R3 at rx ry rz
    unfold T3 at t3
    rcases rx with rfl | rfl | rfl
    · have e : decide ((-1 : Int) = 0) = false := rfl
      have e2 : -(-1 : Int) = 1 := rfl
      rw [e] at k3 k4
      rw [e2] at k5
      rcases ry with rfl | rfl | rfl
      · have : z = -1 := by omega
        subst this
        (rw [r_law06_TermCompares (Nat.le_of_ble_eq_true rfl), F_law06_TermCompares]; simp (disch := omega) only [eqs, eqL, ↓gc_len, seval, -List.reduceReplicate, reduceCtorEq, omap, depth, pcall, pureR, freezeFor, freezeAll, tupR, resV, purR, enterTm, number, gcOk, rangeEnd, mkTup, allP, eqM, bsl_3, blist_3, q_law06_light, hl, q_law06_lives, hv, q_term_Compare, k1, q_r06_Compare, k2, q_term_Same, k3, q_r06_Same, k4, k5, k6, k7, bq_ff, bq_tt, bq_tf, bq_ft, wn_1, wn_p, wn_0])
      · have : z = -1 := by omega
        subst this
        (rw [r_law06_TermCompares (Nat.le_of_ble_eq_true rfl), F_law06_TermCompares]; simp (disch := omega) only [eqs, eqL, ↓gc_len, seval, -List.reduceReplicate, reduceCtorEq, omap, depth, pcall, pureR, freezeFor, freezeAll, tupR, resV, purR, enterTm, number, gcOk, rangeEnd, mkTup, allP, eqM, bsl_3, blist_3, q_law06_light, hl, q_law06_lives, hv, q_term_Compare, k1, q_r06_Compare, k2, q_term_Same, k3, q_r06_Same, k4, k5, k6, k7, bq_ff, bq_tt, bq_tf, bq_ft, wn_1, wn_p, wn_0])
      · (rw [r_law06_TermCompares (Nat.le_of_ble_eq_true rfl), F_law06_TermCompares]; simp (disch := omega) only [eqs, eqL, ↓gc_len, seval, -List.reduceReplicate, reduceCtorEq, omap, depth, pcall, pureR, freezeFor, freezeAll, tupR, resV, purR, enterTm, number, gcOk, rangeEnd, mkTup, allP, eqM, bsl_3, blist_3, q_law06_light, hl, q_law06_lives, hv, q_term_Compare, k1, q_r06_Compare, k2, q_term_Same, k3, q_r06_Same, k4, k5, k6, k7, bq_ff, bq_tt, bq_tf, bq_ft, wn_1, wn_p, wn_0])
    · have e : decide ((0 : Int) = 0) = true := rfl
      have e2 : -(0 : Int) = 0 := rfl
      rw [e] at k3 k4
      rw [e2] at k5
      rcases ry with rfl | rfl | rfl
      · have : z = -1 := by omega
        subst this
        (rw [r_law06_TermCompares (Nat.le_of_ble_eq_true rfl), F_law06_TermCompares]; simp (disch := omega) only [eqs, eqL, ↓gc_len, seval, -List.reduceReplicate, reduceCtorEq, omap, depth, pcall, pureR, freezeFor, freezeAll, tupR, resV, purR, enterTm, number, gcOk, rangeEnd, mkTup, allP, eqM, bsl_3, blist_3, q_law06_light, hl, q_law06_lives, hv, q_term_Compare, k1, q_r06_Compare, k2, q_term_Same, k3, q_r06_Same, k4, k5, k6, k7, bq_ff, bq_tt, bq_tf, bq_ft, wn_1, wn_p, wn_0])
      · have : z = 0 := by omega
        subst this
        (rw [r_law06_TermCompares (Nat.le_of_ble_eq_true rfl), F_law06_TermCompares]; simp (disch := omega) only [eqs, eqL, ↓gc_len, seval, -List.reduceReplicate, reduceCtorEq, omap, depth, pcall, pureR, freezeFor, freezeAll, tupR, resV, purR, enterTm, number, gcOk, rangeEnd, mkTup, allP, eqM, bsl_3, blist_3, q_law06_light, hl, q_law06_lives, hv, q_term_Compare, k1, q_r06_Compare, k2, q_term_Same, k3, q_r06_Same, k4, k5, k6, k7, bq_ff, bq_tt, bq_tf, bq_ft, wn_1, wn_p, wn_0])
      · (rw [r_law06_TermCompares (Nat.le_of_ble_eq_true rfl), F_law06_TermCompares]; simp (disch := omega) only [eqs, eqL, ↓gc_len, seval, -List.reduceReplicate, reduceCtorEq, omap, depth, pcall, pureR, freezeFor, freezeAll, tupR, resV, purR, enterTm, number, gcOk, rangeEnd, mkTup, allP, eqM, bsl_3, blist_3, q_law06_light, hl, q_law06_lives, hv, q_term_Compare, k1, q_r06_Compare, k2, q_term_Same, k3, q_r06_Same, k4, k5, k6, k7, bq_ff, bq_tt, bq_tf, bq_ft, wn_1, wn_p, wn_0])
    · have e : decide ((1 : Int) = 0) = false := rfl
      rw [e] at k3 k4
      (rw [r_law06_TermCompares (Nat.le_of_ble_eq_true rfl), F_law06_TermCompares]; simp (disch := omega) only [eqs, eqL, ↓gc_len, seval, -List.reduceReplicate, reduceCtorEq, omap, depth, pcall, pureR, freezeFor, freezeAll, tupR, resV, purR, enterTm, number, gcOk, rangeEnd, mkTup, allP, eqM, bsl_3, blist_3, q_law06_light, hl, q_law06_lives, hv, q_term_Compare, k1, q_r06_Compare, k2, q_term_Same, k3, q_r06_Same, k4, k5, k6, k7, bq_ff, bq_tt, bq_tf, bq_ft, wn_1, wn_p, wn_0])
end Go.AE.S
