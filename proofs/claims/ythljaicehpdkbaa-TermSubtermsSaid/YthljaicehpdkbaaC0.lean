/- Terms by the reference of layer 6: sizes, names, orders. --M-- -/
import Derived.Test.YthljaicehpdkbaaB6
namespace Go.AE.S
open Go Go.AE
set_option linter.unusedSimpArgs false
set_option linter.unusedVariables false
variable {τ : Tm} {σ : Store} {rd : Option Nat}
theorem s_opinfo_Pattern (o : Int) : R P f_opinfo_Pattern [.int .i64 o] = some (.bool (decide (24 ≤ o ∧ o ≤ 26))) := by
  (rw [r_opinfo_Pattern (Nat.le_of_ble_eq_true rfl), F_opinfo_Pattern]; simp (disch := omega) only [eqs, eqL, ↓gc_len, seval, -List.reduceReplicate, reduceCtorEq, omap, depth, pcall, pureR, freezeFor, freezeAll, tupR, resV, purR, enterTm, number, gcOk, rangeEnd, mkTup, allP, eqM])
  by_cases h1 : 24 ≤ o <;> by_cases h2 : o ≤ 26 <;> simp (disch := omega) only [eqs, eqL, ↓gc_len, seval, -List.reduceReplicate, reduceCtorEq, omap, depth, pcall, pureR, freezeFor, freezeAll, tupR, resV, purR, enterTm, number, gcOk, rangeEnd, mkTup, allP, eqM, h1, h2] <;> rfl
theorem s_r06_order (a b : Int) : R P f_r06_order [.int .i64 a, .int .i64 b] = some (.int .i64 (cmpI a b)) := by
  unfold cmpI
  by_cases h1 : a < b
  · (rw [r_r06_order (Nat.le_of_ble_eq_true rfl), F_r06_order]; simp (disch := omega) only [eqs, eqL, ↓gc_len, seval, -List.reduceReplicate, reduceCtorEq, omap, depth, pcall, pureR, freezeFor, freezeAll, tupR, resV, purR, enterTm, number, gcOk, rangeEnd, mkTup, allP, eqM, h1])
  · by_cases h2 : b < a
    · (rw [r_r06_order (Nat.le_of_ble_eq_true rfl), F_r06_order]; simp (disch := omega) only [eqs, eqL, ↓gc_len, seval, -List.reduceReplicate, reduceCtorEq, omap, depth, pcall, pureR, freezeFor, freezeAll, tupR, resV, purR, enterTm, number, gcOk, rangeEnd, mkTup, allP, eqM, h1, h2])
    · (rw [r_r06_order (Nat.le_of_ble_eq_true rfl), F_r06_order]; simp (disch := omega) only [eqs, eqL, ↓gc_len, seval, -List.reduceReplicate, reduceCtorEq, omap, depth, pcall, pureR, freezeFor, freezeAll, tupR, resV, purR, enterTm, number, gcOk, rangeEnd, mkTup, allP, eqM, h1, h2])
theorem s_r06_clamp (w : Int) : R P f_r06_clamp [.int .i64 w] = some (.int .i64 (clampW w)) := by
  (rw [r_r06_clamp (Nat.le_of_ble_eq_true rfl), F_r06_clamp]; simp (disch := omega) only [eqs, eqL, ↓gc_len, seval, -List.reduceReplicate, reduceCtorEq, omap, depth, pcall, pureR, freezeFor, freezeAll, tupR, resV, purR, enterTm, number, gcOk, rangeEnd, mkTup, allP, eqM])
  simp only [Option.some.injEq, PV.int.injEq, true_and]
  unfold clampW; omega
theorem s_term_clamp (w : Int) : R P f_term_clamp [.int .i64 w] = some (.int .i64 (clampW w)) := by
  (rw [r_term_clamp (Nat.le_of_ble_eq_true rfl), F_term_clamp]; simp (disch := omega) only [eqs, eqL, ↓gc_len, seval, -List.reduceReplicate, reduceCtorEq, omap, depth, pcall, pureR, freezeFor, freezeAll, tupR, resV, purR, enterTm, number, gcOk, rangeEnd, mkTup, allP, eqM])
  simp only [Option.some.injEq, PV.int.injEq, true_and]
  unfold clampW; omega
abbrev e_sz6 (t : Term) (s i : Int) : List (Nat × AV) := [(1, .p (.ptr t.row 0)), (3, .p (.int .i64 s)), (4, .p (.int .i64 i))]
theorem s_r06_Size (t : Term) : t.count ≤ 1000000 → R P f_r06_Size [.agg t.row] = some (.int .i64 t.count) := by
  induction t using Term.ind with
  | h t ih =>
  intro hc
  have hct := Term.count_eq t
  have hlen := Term.counts_len t.args
  have h := (loop_run (P := P) (nt := 21) (lv := [1, 3, 4]) (b := B0_r06_Size) (rd := none) (as := t.args) (fun i (s : Int) => e_sz6 t s i) (fun _ => []) (fun i s a => s + (a.count : Int)) (fun i s => s = 1 + (Term.counts (t.args.take i) : Nat))
    (fun i a s ha hi hs => by
      have hm := List.mem_of_getElem? ha
      have hac := Term.counts_mem hm
      have hr := ih a hm (by omega)
      have hlt : ((i : Int) < t.args.length) = True := by simpa using hi
      have e1 := counts_take t.args i a ha
      have e2 := counts_take_le t.args (i + 1)
      have hw : IntKind.i64.wrap (s + (a.count : Int)) = s + a.count := IntWalk.i64_in _ (by rw [hs]; omega)
      refine ⟨by rw [hs, e1]; omega, ?_⟩
      simp only [B0_r06_Size]
      simp (disch := omega) only [eqs, eqL, ↓gc_len, seval, -List.reduceReplicate, reduceCtorEq, omap, depth, pcall, pureR, freezeFor, freezeAll, tupR, resV, purR, enterTm, number, gcOk, rangeEnd, mkTup, allP, eqM, hlt, hw, List.length_map, v_iadr (map_get (f := Term.row) ha) a.row_len, q_r06_Size, hr, e_sz6]) (fun i s => rfl) 1 (by simp [Term.counts]) _ (foldE_count t.args 0 1)).2
  have h' : loopAt P L0_r06_Size [(1, .p (.ptr t.row 0)), (3, .p (.int .i64 1)), (4, .p (.int .i64 0))] [] 21 none = _ := h
  (rw [r_r06_Size (Nat.le_of_ble_eq_true rfl), F_r06_Size]; simp (disch := omega) only [eqs, eqL, ↓gc_len, seval, -List.reduceReplicate, reduceCtorEq, omap, depth, pcall, pureR, freezeFor, freezeAll, tupR, resV, purR, enterTm, number, gcOk, rangeEnd, mkTup, allP, eqM, k0_r06_Size, h', B0_r06_Size, List.length_map, Int.lt_irrefl])
  rw [hct]; simp
theorem s_r06_Depth (t : Term) : t.count ≤ 1000000 → R P f_r06_Depth [.agg t.row] = some (.int .i64 t.deep) := by
  induction t using Term.ind with
  | h t ih =>
  intro hc
  have hct := Term.count_eq t
  have hdc := deep_count t
  rw [Term.deep_eq] at hdc ⊢
  have hlen := Term.counts_len t.args
  have h := (loop_run (P := P) (nt := 22) (lv := [1, 3, 4]) (b := B0_r06_Depth) (rd := none) (as := t.args) (fun i (s : Int) => e_sz6 t s i) (fun _ => []) (fun i s a => max s (a.deep : Int)) (fun i s => True)
    (fun i a s ha hi hs => by
      have hm := List.mem_of_getElem? ha
      have hac := Term.counts_mem hm
      have hr := ih a hm (by omega)
      have hlt : ((i : Int) < t.args.length) = True := by simpa using hi
      refine ⟨trivial, ?_⟩
      simp only [B0_r06_Depth]
      simp (disch := omega) only [eqs, eqL, ↓gc_len, seval, -List.reduceReplicate, reduceCtorEq, omap, depth, pcall, pureR, freezeFor, freezeAll, tupR, resV, purR, enterTm, number, gcOk, rangeEnd, mkTup, allP, eqM, hlt, List.length_map, v_iadr (map_get (f := Term.row) ha) a.row_len, q_r06_Depth, hr, e_sz6]) (fun i s => rfl) 0 trivial _ (foldE_deep t.args 0 0 (by omega))).2
  have e : max (0 : Int) (Term.deeps t.args : Int) = Term.deeps t.args := by omega
  rw [e] at h
  have h' : loopAt P L0_r06_Depth [(1, .p (.ptr t.row 0)), (3, .p (.int .i64 0)), (4, .p (.int .i64 0))] [] 22 none = _ := h
  (rw [r_r06_Depth (Nat.le_of_ble_eq_true rfl), F_r06_Depth]; simp (disch := omega) only [eqs, eqL, ↓gc_len, seval, -List.reduceReplicate, reduceCtorEq, omap, depth, pcall, pureR, freezeFor, freezeAll, tupR, resV, purR, enterTm, number, gcOk, rangeEnd, mkTup, allP, eqM, k0_r06_Depth, h', B0_r06_Depth, List.length_map, Int.lt_irrefl])
theorem l_r06_Name (s : ByteArray) (hl : s.size ≤ 16) : if s.data.toList.all nameC = true then True ∧
      loopAt P L0_r06_Name (e_NameR s 0) σ 56 rd = back P [0, 3] B0_r06_Name σ.length (exec P B0_r06_Name ⟨tm (e_NameR s s.size), σ, 56, rd⟩)
    else ∃ r, loopAt P L0_r06_Name (e_NameR s 0) σ 56 rd = some r ∧ ret1 2 (.bool false) σ r := by
  have h := loop_to (P := P) (nt := 56) (lv := [0, 3]) (b := B0_r06_Name) (rd := rd) (as := s.data.toList) (fun i (_ : Unit) => e_NameR s i) (fun _ => σ) (fun i _ a => if nameC a = true then .inl () else .inr ())
    (fun _ => ret1 2 (.bool false) σ) (fun _ _ => True)
    (fun i a _ ha hi hs => by
      refine ⟨fun _ _ => trivial, ?_⟩
      rw [size_list] at hi
      have hlt : ((i : Int) < s.size) = True := by simpa using hi
      have hix := v_idx (k := .i64) ha
      by_cases h1 : (97 : Int) ≤ a.toNat <;> by_cases h2 : (a.toNat : Int) ≤ 122 <;> by_cases h3 : (48 : Int) ≤ a.toNat <;> by_cases h4 : (a.toNat : Int) ≤ 57 <;> by_cases h5 : (a.toNat : Int) = 95
      all_goals first
        | (exfalso; omega)
        | (have hn : nameC a = true := by unfold nameC; rw [decide_eq_true_eq]; omega
           have g1 : ((a.toNat : Int) < 97) = (¬ (97 : Int) ≤ a.toNat) := by simp
           have g2 : ((122 : Int) < a.toNat) = (¬ (a.toNat : Int) ≤ 122) := by simp
           have g3 : ((a.toNat : Int) < 48) = (¬ (48 : Int) ≤ a.toNat) := by simp
           have g4 : ((57 : Int) < a.toNat) = (¬ (a.toNat : Int) ≤ 57) := by simp
           simp only [B0_r06_Name]
           simp (disch := omega) only [eqs, eqL, ↓gc_len, seval, -List.reduceReplicate, reduceCtorEq, omap, depth, pcall, pureR, freezeFor, freezeAll, tupR, resV, purR, enterTm, number, gcOk, rangeEnd, mkTup, allP, eqM, hlt, hix, g1, g2, g3, g4, h1, h2, h3, h4, eq_true h5, hn, ret1]
           done)
        | (have hn : nameC a = false := by unfold nameC; rw [decide_eq_false_iff_not]; omega
           have g1 : ((a.toNat : Int) < 97) = (¬ (97 : Int) ≤ a.toNat) := by simp
           have g2 : ((122 : Int) < a.toNat) = (¬ (a.toNat : Int) ≤ 122) := by simp
           have g3 : ((a.toNat : Int) < 48) = (¬ (48 : Int) ≤ a.toNat) := by simp
           have g4 : ((57 : Int) < a.toNat) = (¬ (a.toNat : Int) ≤ 57) := by simp
           simp only [B0_r06_Name]
           simp (disch := omega) only [eqs, eqL, ↓gc_len, seval, -List.reduceReplicate, reduceCtorEq, omap, depth, pcall, pureR, freezeFor, freezeAll, tupR, resV, purR, enterTm, number, gcOk, rangeEnd, mkTup, allP, eqM, hlt, hix, g1, g2, g3, g4, h1, h2, h3, h4, h5, hn, ret1]
           done)) (fun i s => rfl) () trivial
  rw [size_list, fold_allG] at h
  exact (done_if h :)
theorem s_r06_Name (s : ByteArray) : R P f_r06_Name [.str s] = some (.bool (nameOk s)) := by
  unfold nameOk
  by_cases h1 : (s.size : Int) < 1
  · (rw [r_r06_Name (Nat.le_of_ble_eq_true rfl), F_r06_Name]; simp (disch := omega) only [eqs, eqL, ↓gc_len, seval, -List.reduceReplicate, reduceCtorEq, omap, depth, pcall, pureR, freezeFor, freezeAll, tupR, resV, purR, enterTm, number, gcOk, rangeEnd, mkTup, allP, eqM, h1])
    simp [show ¬ 1 ≤ s.size by omega]
  by_cases h2 : (16 : Int) < s.size
  · (rw [r_r06_Name (Nat.le_of_ble_eq_true rfl), F_r06_Name]; simp (disch := omega) only [eqs, eqL, ↓gc_len, seval, -List.reduceReplicate, reduceCtorEq, omap, depth, pcall, pureR, freezeFor, freezeAll, tupR, resV, purR, enterTm, number, gcOk, rangeEnd, mkTup, allP, eqM, h1, h2])
    simp [show ¬ s.size ≤ 16 by omega]
  have hlen := size_list s
  obtain ⟨b, hb⟩ : ∃ b, s.data.toList[0]? = some b := ⟨_, List.getElem?_eq_getElem (by omega)⟩
  have hix := v_idx0 (k := .i64) hb
  by_cases h3 : (b.toNat : Int) < 97
  · (rw [r_r06_Name (Nat.le_of_ble_eq_true rfl), F_r06_Name]; simp (disch := omega) only [eqs, eqL, ↓gc_len, seval, -List.reduceReplicate, reduceCtorEq, omap, depth, pcall, pureR, freezeFor, freezeAll, tupR, resV, purR, enterTm, number, gcOk, rangeEnd, mkTup, allP, eqM, h1, h2, hix, h3])
    simp [List.getD, hb, show ¬ 97 ≤ b.toNat by omega]
  by_cases h4 : (122 : Int) < b.toNat
  · (rw [r_r06_Name (Nat.le_of_ble_eq_true rfl), F_r06_Name]; simp (disch := omega) only [eqs, eqL, ↓gc_len, seval, -List.reduceReplicate, reduceCtorEq, omap, depth, pcall, pureR, freezeFor, freezeAll, tupR, resV, purR, enterTm, number, gcOk, rangeEnd, mkTup, allP, eqM, h1, h2, hix, h3, h4])
    simp [List.getD, hb, show ¬ b.toNat ≤ 122 by omega]
  have hL := l_r06_Name (σ := []) (rd := none) s (by omega)
  by_cases ha : s.data.toList.all nameC = true
  · rw [if_pos ha] at hL
    (rw [r_r06_Name (Nat.le_of_ble_eq_true rfl), F_r06_Name]; simp (disch := omega) only [eqs, eqL, ↓gc_len, seval, -List.reduceReplicate, reduceCtorEq, omap, depth, pcall, pureR, freezeFor, freezeAll, tupR, resV, purR, enterTm, number, gcOk, rangeEnd, mkTup, allP, eqM, h1, h2, hix, h3, h4, k0_r06_Name, hL.2, B0_r06_Name, Int.lt_irrefl])
    rw [ha]
    simp [List.getD, hb, show 97 ≤ b.toNat by omega, show b.toNat ≤ 122 by omega, show 1 ≤ s.size by omega, show s.size ≤ 16 by omega]
  · rw [if_neg ha] at hL
    obtain ⟨⟨e, τ', σ', nt', rd'⟩, h1', h2', h3', h4'⟩ := hL
    simp only at h2' h3' h4'
    subst h2'; subst h4'
    (rw [r_r06_Name (Nat.le_of_ble_eq_true rfl), F_r06_Name]; simp (disch := omega) only [eqs, eqL, ↓gc_len, seval, -List.reduceReplicate, reduceCtorEq, omap, depth, pcall, pureR, freezeFor, freezeAll, tupR, resV, purR, enterTm, number, gcOk, rangeEnd, mkTup, allP, eqM, h1, h2, hix, h3, h4, k0_r06_Name, h1', h3'])
    simp only [Bool.not_eq_true] at ha
    simp [ha]
end Go.AE.S
/- Terms by the reference of layer 6: nodes in order, widths, copies. --M-- -/
namespace Go.AE.S
open Go Go.AE
set_option linter.unusedSimpArgs false
set_option linter.unusedVariables false
variable {τ : Tm} {σ : Store} {rd : Option Nat}
abbrev sT0 (s : List Term) : Store := [.pv (esOf 5 s) (s.map Term.row) false]
theorem s_r06_Post (t : Term) : t.count ≤ 1000000 → R P f_r06_Post [.agg t.row] = some (.lst (t.post.map Term.row)) := by
  induction t using Term.ind with
  | h t ih =>
  intro hc
  have hlen := Term.counts_len t.args
  have hct := Term.count_eq t
  obtain ⟨hk, h⟩ := loop_run (P := P) (nt := 24) (lv := [1, 3, 4]) (b := B0_r06_Post) (rd := none) (as := t.args) (fun i (s : List Term) => e_Pre t s i) sT0 (fun i s a => s ++ a.post) (fun i s => s = (t.args.take i).flatMap Term.post)
    (fun i a s ha hi hs => by
      have hm := List.mem_of_getElem? ha
      have hac := Term.counts_mem hm
      have h2 := flatMap_take_le Term.post_len t.args (i + 1)
      rw [take_flatMap ha] at h2
      have hsl : (s ++ a.post).length ≤ 1000001 := by rw [hs]; omega
      rw [List.length_append] at hsl
      have hr := ih a hm (by omega)
      have hlt : ((i : Int) < t.args.length) = True := by simpa using hi
      have hne : esOf 5 (s ++ a.post) = 5 := by
        have h1 := Term.post_len a
        have h2 := Term.count_pos a
        cases hp : a.post with
        | nil => rw [hp] at h1; simp at h1; omega
        | cons x r => simp [esOf]
      have hap := v_append (σ := sT0 s) (b := 0) (n := s.length) (e := esOf 5 s) (es := 5) (bytes := 64) (rows := s.map Term.row) (new := a.post.map Term.row) rfl (by simp) (esOf_or _ _ _) (by simp only [List.length_map]; omega)
      refine ⟨by rw [hs, take_flatMap ha], ?_⟩
      simp only [B0_r06_Post]
      simp (disch := omega) only [eqs, eqL, ↓gc_len, seval, -List.reduceReplicate, reduceCtorEq, omap, depth, pcall, pureR, freezeFor, freezeAll, tupR, resV, purR, enterTm, number, gcOk, rangeEnd, mkTup, allP, eqM, hlt, List.length_map, v_iadr (map_get (f := Term.row) ha) a.row_len, q_r06_Post, hr, src_p (wide_rows _), hap, List.length_append, List.map_append, e_Pre, sT0, hne]) (fun i s => rfl) [] (by simp) _ (fold_app Term.post t.args 0 [])
  have h' : loopAt P L0_r06_Post [(1, .p (.ptr t.row 0)), (3, .sl 0 0), (4, .p (.int .i64 0))] [.pv 0 [] false] 24 none = _ := h
  have e : [] ++ t.args.flatMap Term.post = Term.posts t.args := by rw [Term.posts_eq]; rfl
  rw [e] at h'
  have hpl := Term.post_len t
  rw [Term.post_eq, List.length_append] at hpl
  have hap := v_append (σ := [.pv (esOf 5 (Term.posts t.args)) ((Term.posts t.args).map Term.row) false, .pv 5 [t.row] false]) (b := 0) (n := (Term.posts t.args).length) (e := esOf 5 (Term.posts t.args)) (es := 5) (bytes := 64) (rows := (Term.posts t.args).map Term.row) (new := [t.row]) rfl (by simp) (esOf_or _ _ _) (by simp only [List.length_cons, List.length_nil]; omega)
  (rw [r_r06_Post (Nat.le_of_ble_eq_true rfl), F_r06_Post]; simp (disch := omega) only [eqs, eqL, ↓gc_len, seval, -List.reduceReplicate, reduceCtorEq, omap, depth, pcall, pureR, freezeFor, freezeAll, tupR, resV, purR, enterTm, number, gcOk, rangeEnd, mkTup, allP, eqM, k0_r06_Post, h', B0_r06_Post, Int.lt_irrefl, List.length_map, hap, List.length_append, e_Pre])
  rw [Term.post_eq, List.map_append]
  rfl
theorem s_r06_Pre (t : Term) : t.count ≤ 1000000 → R P f_r06_Pre [.agg t.row] = some (.lst (t.pre.map Term.row)) := by
  induction t using Term.ind with
  | h t ih =>
  intro hc
  have hlen := Term.counts_len t.args
  have hct := Term.count_eq t
  obtain ⟨hk, h⟩ := loop_run (P := P) (nt := 23) (lv := [1, 3, 4]) (b := B0_r06_Pre) (rd := none) (as := t.args) (fun i (s : List Term) => e_Pre t s i) sT (fun i s a => s ++ a.pre) (fun i s => s = t :: (t.args.take i).flatMap Term.pre)
    (fun i a s ha hi hs => by
      have hm := List.mem_of_getElem? ha
      have hac := Term.counts_mem hm
      have h2 := flatMap_take_le Term.pre_len t.args (i + 1)
      rw [take_flatMap ha] at h2
      have hsl : (s ++ a.pre).length ≤ 1000001 := by rw [hs, List.cons_append, List.length_cons]; omega
      rw [List.length_append] at hsl
      have hr := ih a hm (by omega)
      have hlt : ((i : Int) < t.args.length) = True := by simpa using hi
      have hap := v_append (σ := sT s) (b := 0) (n := s.length) (e := 5) (es := 5) (bytes := 64) (rows := s.map Term.row) (new := a.pre.map Term.row) rfl (by simp) (.inl rfl) (by simp only [List.length_map]; omega)
      refine ⟨by rw [hs, take_flatMap ha]; rfl, ?_⟩
      simp only [B0_r06_Pre]
      simp (disch := omega) only [eqs, eqL, ↓gc_len, seval, -List.reduceReplicate, reduceCtorEq, omap, depth, pcall, pureR, freezeFor, freezeAll, tupR, resV, purR, enterTm, number, gcOk, rangeEnd, mkTup, allP, eqM, hlt, List.length_map, v_iadr (map_get (f := Term.row) ha) a.row_len, q_r06_Pre, hr, src_p (wide_rows _), hap, List.length_append, List.map_append, e_Pre, sT]) (fun i s => rfl) [t] (by simp) _ (fold_app Term.pre t.args 0 [t])
  have h' : loopAt P L0_r06_Pre [(1, .p (.ptr t.row 0)), (3, .sl 0 1), (4, .p (.int .i64 0))] [.pv 5 [t.row] false] 23 none = _ := h
  have e : [t] ++ t.args.flatMap Term.pre = t.pre := by rw [Term.pre_eq, Term.pres_eq]; rfl
  rw [e] at h'
  (rw [r_r06_Pre (Nat.le_of_ble_eq_true rfl), F_r06_Pre]; simp (disch := omega) only [eqs, eqL, ↓gc_len, seval, -List.reduceReplicate, reduceCtorEq, omap, depth, pcall, pureR, freezeFor, freezeAll, tupR, resV, purR, enterTm, number, gcOk, rangeEnd, mkTup, allP, eqM, k0_r06_Pre, h', B0_r06_Pre, Int.lt_irrefl, List.length_map, e_Pre])
abbrev e_wid6 (l : List Term) (s : List Int) (i : Int) : List (Nat × AV) := [(0, .p (.lst (l.map Term.row))), (3, .sl 0 s.length), (4, .p (.int .i64 i))]
theorem s_r06_Widths (l : List Term) (hl : l.length ≤ 1000000) : R P f_r06_Widths [.lst (l.map Term.row)] = some (.lst ((l.map Term.w).map irow)) := by
  obtain ⟨hk, h⟩ := loop_run (P := P) (nt := 20) (lv := [0, 3, 4]) (b := B0_r06_Widths) (rd := none) (as := l) (fun i (s : List Int) => e_wid6 l s i) sI (fun i s a => s ++ [a.w]) (fun i s => s.length = i)
    (fun i a s ha hi hs => by
      have hlt : ((i : Int) < l.length) = True := by simpa using hi
      have hap := v_append (σ := [.pv (esOf 1 s) (s.map irow) false, .pv 1 [[.int .i64 a.w]] false]) (b := 0) (n := s.length) (e := esOf 1 s) (es := 1) (bytes := 8) (rows := s.map irow) (new := [[.int .i64 a.w]]) rfl (by simp) (esOf_or _ _ _) (by simp only [List.length_cons, List.length_nil]; omega)
      refine ⟨by simp [hs], ?_⟩
      simp only [B0_r06_Widths]
      simp (disch := omega) only [eqs, eqL, ↓gc_len, seval, -List.reduceReplicate, reduceCtorEq, omap, depth, pcall, pureR, freezeFor, freezeAll, tupR, resV, purR, enterTm, number, gcOk, rangeEnd, mkTup, allP, eqM, hlt, List.length_map, v_iadr (map_get (f := Term.row) ha) a.row_len, hap, List.length_append, List.map_append, e_wid6, sI, esOf_snoc, irow]) (fun i s => rfl) [] (by simp) _ (fold_snoc Term.w l 0 [])
  have h' : loopAt P L0_r06_Widths [(0, .p (.lst (l.map Term.row))), (3, .sl 0 0), (4, .p (.int .i64 0))] [.pv 0 [] false] 20 none = _ := h
  (rw [r_r06_Widths (Nat.le_of_ble_eq_true rfl), F_r06_Widths]; simp (disch := omega) only [eqs, eqL, ↓gc_len, seval, -List.reduceReplicate, reduceCtorEq, omap, depth, pcall, pureR, freezeFor, freezeAll, tupR, resV, purR, enterTm, number, gcOk, rangeEnd, mkTup, allP, eqM, k0_r06_Widths, h', B0_r06_Widths, Int.lt_irrefl, List.length_map, e_wid6, sI])
theorem foldl_id {α : Type} : ∀ (l s : List α), l.foldl (fun s a => s ++ [a]) s = s ++ l
  | [], s => by simp
  | a :: l, s => by rw [List.foldl_cons, foldl_id l]; simp
theorem gc_67 {vs : List AV} {a b c d e f g : Obj} : gc 6 vs [a, b, c, d, e, f, g] = if gcOk 6 vs [a, b, c, d, e, f, g] = true then [a, b, c, d, e, f] else [a, b, c, d, e, f, g] := by unfold gc; rw [if_neg (by simp)]; rfl
abbrev sC0 (t : Term) (s : List Term) : Store := [.pv 0 [] false, .av 5 [z5 0] false, .av 5 [[.p (.int .i64 t.op), .p (.int .i64 t.w), .p (.int .u64 t.v), .p (.str t.name), .sl 3 s.length]] false, .pv (esOf 5 s) (s.map Term.row) false]
abbrev e_cp0 (t : Term) (i : Int) : List (Nat × AV) := [(2, .ptr 1 1 0 0), (3, .ptr 2 1 0 0), (9, .p (.lst (t.args.map Term.row))), (10, .p (.int .i64 t.args.length)), (11, .p (.int .i64 i))]
abbrev sC2 (t : Term) (s : List Term) : Store := [.pv 0 [] false, .av 5 [z5 0] false, .pv 0 [] false, .av 5 [z5 2] false, .av 5 [[.p (.int .i64 t.op), .p (.int .i64 t.w), .p (.int .u64 t.v), .p (.str t.name), .sl 5 s.length]] false, .pv (esOf 5 s) (s.map Term.row) false]
abbrev e_cp2 (t : Term) (i : Int) : List (Nat × AV) := [(2, .ptr 3 1 0 0), (3, .ptr 4 1 0 0), (9, .p (.lst (t.args.map Term.row))), (10, .p (.int .i64 t.args.length)), (11, .p (.int .i64 i))]
set_option maxHeartbeats 4000000 in
theorem s_term_Copy (t : Term) : t.count ≤ 1000000 → R P f_term_Copy [.agg t.row] = some (.agg t.row) := by
  induction t using Term.ind with
  | h t ih =>
  intro hc
  have hlen := Term.counts_len t.args
  have hct := Term.count_eq t
  obtain ⟨hk, h⟩ := loop_run (P := P) (nt := 24) (lv := [2, 3, 9, 10, 11]) (b := B0_term_Copy) (rd := none) (as := t.args) (fun i (_ : List Term) => e_cp0 t i) (sC0 t) (fun _ s a => s ++ [a]) (fun i s => s.length = i)
    (fun i a s ha hi hs => by
      have hm := List.mem_of_getElem? ha
      have hac := Term.counts_mem hm
      have hr := ih a hm (by omega)
      have hlt : ((i : Int) < t.args.length) = True := by simpa using hi
      have hap := v_append (σ := sC0 t s ++ [.pv 5 [a.row] false]) (b := 3) (n := s.length) (e := esOf 5 s) (es := 5) (bytes := 64) (rows := s.map Term.row) (new := [a.row]) rfl (by simp) (esOf_or _ _ _) (by simp only [List.length_cons, List.length_nil]; omega)
      simp only [sC0, z5, List.cons_append, List.nil_append] at hap
      refine ⟨by simp [hs], ?_⟩
      simp only [B0_term_Copy]
      simp (disch := omega) only [eqs, eqL, ↓gc_len, seval, -List.reduceReplicate, reduceCtorEq, omap, depth, pcall, pureR, freezeFor, freezeAll, tupR, resV, purR, enterTm, number, gcOk, rangeEnd, mkTup, allP, eqM, hlt, v_iadr (map_get (f := Term.row) ha) a.row_len, q_term_Copy, hr, sC0, z5, hap, List.map_append, List.length_append, esOf_snoc, e_cp0, gc_67]) (fun i s => rfl) [] (by simp) _ (foldE_foldl _ t.args 0 [])
  rw [foldl_id, List.nil_append] at h
  have h' : loopAt P L0_term_Copy (e_cp0 t 0) [.pv 0 [] false, .av 5 [z5 0] false, .av 5 [[.p (.int .i64 t.op), .p (.int .i64 t.w), .p (.int .u64 t.v), .p (.str t.name), .sl 3 0]] false, .pv 0 [] false] 24 none = _ := h
  simp only [z5, sC0] at h'
  (rw [r_term_Copy (Nat.le_of_ble_eq_true rfl), F_term_Copy]; simp (disch := omega) only [eqs, eqL, ↓gc_len, seval, -List.reduceReplicate, reduceCtorEq, omap, depth, pcall, pureR, freezeFor, freezeAll, tupR, resV, purR, enterTm, number, gcOk, rangeEnd, mkTup, allP, eqM, List.length_map, k0_term_Copy, h', B0_term_Copy, Int.lt_irrefl, e_cp0])
  rw [Term.row_eq]
theorem src_top6 {o0 o1 o2 o3 o4 o5 : Obj} {es : Nat} {fr : Bool} {q : List PV} : srcOf [o0, o1, o2, o3, o4, o5, .pv es [q] fr] es (.sl 6 1) = some (.inl [q]) := src_sl rfl rfl (.inl rfl)
theorem gc_2n {pa pb pc pd : PV} {m : Nat} {σ : Store} (h : 2 < σ.length) : gc 2 [.agg [.p pa, .p pb, .p pc, .p pd, .sl 5 m]] σ = σ := by
  unfold gc
  rw [if_neg (by omega), if_neg]
  simp [gcOk, below]
set_option maxHeartbeats 4000000 in
theorem s_Copy2 (t : Term) (hc : t.count ≤ 1000000) : call P F_term_Copy [.p (.agg t.row)] [.pv 0 [] false, .av 5 [z5 0] false] =
    some (.agg [.p (.int .i64 t.op), .p (.int .i64 t.w), .p (.int .u64 t.v), .p (.str t.name), .sl 5 t.args.length], [.pv 0 [] false, .av 5 [z5 0] false, .pv 0 [] false, .av 5 [[.p (.int .i64 t.op), .p (.int .i64 t.w), .p (.int .u64 t.v), .p (.str t.name), .sl 5 t.args.length]] false, .av 5 [[.p (.int .i64 t.op), .p (.int .i64 t.w), .p (.int .u64 t.v), .p (.str t.name), .sl 5 t.args.length]] false, .pv (esOf 5 t.args) (t.args.map Term.row) false]) := by
  have ih : ∀ a ∈ t.args, a.count ≤ 1000000 → R P f_term_Copy [.agg a.row] = some (.agg a.row) := fun a _ h => s_term_Copy a h
  have hlen := Term.counts_len t.args
  have hct := Term.count_eq t
  obtain ⟨hk, h⟩ := loop_run (P := P) (nt := 24) (lv := [2, 3, 9, 10, 11]) (b := B0_term_Copy) (rd := none) (as := t.args) (fun i (_ : List Term) => e_cp2 t i) (sC2 t) (fun _ s a => s ++ [a]) (fun i s => s.length = i)
    (fun i a s ha hi hs => by
      have hm := List.mem_of_getElem? ha
      have hac := Term.counts_mem hm
      have hr := ih a hm (by omega)
      have hlt : ((i : Int) < t.args.length) = True := by simpa using hi
      have hap := v_append (σ := sC2 t s ++ [.pv 5 [a.row] false]) (b := 5) (n := s.length) (e := esOf 5 s) (es := 5) (bytes := 64) (rows := s.map Term.row) (new := [a.row]) rfl (by simp) (esOf_or _ _ _) (by simp only [List.length_cons, List.length_nil]; omega)
      simp only [sC2, z5, List.cons_append, List.nil_append] at hap
      refine ⟨by simp [hs], ?_⟩
      simp only [B0_term_Copy]
      simp (disch := omega) only [eqs, eqL, ↓gc_len, seval, -List.reduceReplicate, reduceCtorEq, omap, depth, pcall, pureR, freezeFor, freezeAll, tupR, resV, purR, enterTm, number, gcOk, rangeEnd, mkTup, allP, eqM, hlt, v_iadr (map_get (f := Term.row) ha) a.row_len, q_term_Copy, hr, sC2, z5, hap, List.map_append, List.length_append, esOf_snoc, e_cp2, gc_67, src_top6]) (fun i s => rfl) [] (by simp) _ (foldE_foldl _ t.args 0 [])
  rw [foldl_id, List.nil_append] at h
  have h' : loopAt P L0_term_Copy (e_cp2 t 0) [.pv 0 [] false, .av 5 [z5 0] false, .pv 0 [] false, .av 5 [z5 2] false, .av 5 [[.p (.int .i64 t.op), .p (.int .i64 t.w), .p (.int .u64 t.v), .p (.str t.name), .sl 5 0]] false, .pv 0 [] false] 24 none = _ := h
  simp only [z5, sC2] at h'
  have hg := fun (pa pb pc pd : PV) (m : Nat) (a b c d e f : Obj) => gc_2n (pa := pa) (pb := pb) (pc := pc) (pd := pd) (m := m) (σ := [a, b, c, d, e, f]) (by simp)
  (rw [call_go (Nat.le_of_ble_eq_true rfl), F_term_Copy]; simp (disch := omega) only [eqs, eqL, ↓gc_len, seval, -List.reduceReplicate, reduceCtorEq, omap, depth, pcall, pureR, freezeFor, freezeAll, tupR, resV, purR, enterTm, number, gcOk, rangeEnd, mkTup, allP, eqM, List.length_map, k0_term_Copy, h', B0_term_Copy, Int.lt_irrefl, e_cp2, hg])
end Go.AE.S
/- Terms by paths. --M-- -/
namespace Go.AE
namespace Term
def atP : Term → List Int → Option Term
  | t, [] => some t
  | t, i :: r => if 0 ≤ i then match t.args[i.toNat]? with
    | some a => atP a r
    | none => none
    else none
def putP : Term → Term → List Int → Option Term
  | _, u, [] => some u
  | t, u, i :: r => if 0 ≤ i then match t.args[i.toNat]? with
    | some a => match putP a u r with
      | some v => some (.mk t.op t.w t.v t.name (t.args.set i.toNat v))
      | none => none
    | none => none
    else none
end Term
namespace S
open Go Go.AE
set_option linter.unusedSimpArgs false
set_option linter.unusedVariables false
variable {τ : Tm} {σ : Store} {rd : Option Nat}
def stepA (_ : Nat) (t : Term) (i : Int) : Term ⊕ Unit := if 0 ≤ i then match t.args[i.toNat]? with
    | some a => .inl a
    | none => .inr ()
    else .inr ()
theorem fold_atP : ∀ (p : List Int) (t : Term) (k : Nat), foldE stepA k t p = match t.atP p with | some x => .inl x | none => .inr ()
  | [], t, k => rfl
  | i :: r, t, k => by
    simp only [foldE, stepA, Term.atP]
    by_cases h : 0 ≤ i
    · simp only [h, if_true]
      cases t.args[i.toNat]? with
      | none => rfl
      | some a => exact fold_atP r a (k + 1)
    · simp only [h, if_false]
theorem atP_count : ∀ {p : List Int} {t x : Term}, t.atP p = some x → x.count ≤ t.count
  | [], t, x, h => by simp only [Term.atP, Option.some.injEq] at h; subst h; exact Nat.le_refl _
  | i :: r, t, x, h => by
    simp only [Term.atP] at h
    split at h
    · split at h
      · rename_i a ha
        have h1 := atP_count h
        have h2 := Term.counts_mem (List.mem_of_getElem? ha)
        have h3 := Term.count_eq t
        omega
      · cases h
    · cases h
def tupA (x : Option Term) : List PV := match x with | some x => [.agg x.row, .bool true] | none => [.agg zT.row, .bool false]
abbrev e_at6 (p : List Int) (i : Int) : List (Nat × AV) := [(2, .ptr 0 1 0 0), (4, .ptr 2 1 0 0), (8, .p (.lst (p.map irow))), (9, .p (.int .i64 p.length)), (10, .p (.int .i64 i))]
abbrev sAt (t : Term) : Store := [.pv 5 [t.row] false, .pv 0 [] false, .av 5 [z5 1] false]
def outAt (r : Ex × St) : Prop := r.1 = .ret ∧ r.2.τ.get 4 = .ptr 2 1 0 0 ∧ r.2.τ.get 5 = .p (.bool false) ∧ ∃ o0 o1 b, r.2.σ = [o0, o1, .av 5 [z5 b] false, .pv 0 [] false] ∧ b = 3
theorem ldT_4 {t : Term} {fr : Bool} : ldO 1 0 4 1 false (some (.pv 5 [t.row] fr)) = some (.p (.lst (t.args.map Term.row))) := by rw [Term.row_eq]; rfl
theorem stT_T {t a : Term} {σ : Store} {b : Nat} : stO σ b 1 0 0 (a.row.map AV.p) (some (.pv 5 [t.row] false)) = some (σ.set b (.pv 5 [a.row] false)) := by rw [Term.row_eq, Term.row_eq]; rfl
set_option maxHeartbeats 4000000 in
theorem s_term_At (t : Term) (p : List Int) (hc : t.count ≤ 1000000) (hpl : p.length ≤ 1000000) : R P f_term_At [.agg t.row, .lst (p.map irow)] = some (.tup (tupA (t.atP p))) := by
  have h := loop_to (P := P) (nt := 32) (lv := [2, 4, 8, 9, 10]) (b := B0_term_At) (rd := none) (as := p) (fun i (_ : Term) => e_at6 p i) sAt stepA (fun _ => outAt) (fun _ s => s.count ≤ 1000000)
    (fun k i s hi hk hs => by
      have hlt : ((k : Int) < p.length) = True := by simpa using hk
      have hpi := fun σ => v_iadr (k := .i64) (es := 1) (σ := σ) (map_get (f := irow) hi) rfl
      simp only [irow] at hpi
      unfold stepA
      by_cases h1 : 0 ≤ i
      · obtain ⟨j, rfl⟩ := Int.eq_ofNat_of_zero_le h1
        have h1' : ((j : Int) < 0) = False := by simp
        simp only [h1, if_true, Int.toNat_natCast]
        cases ha : s.args[j]? with
        | none =>
          have hl : ((s.args.length : Int) ≤ j) = True := by
            have := List.getElem?_eq_none_iff.1 ha
            simp; omega
          refine ⟨fun s' he => (by cases he), ?_⟩
          simp only [B0_term_At]
          simp (disch := omega) only [eqs, eqL, ↓gc_len, seval, -List.reduceReplicate, reduceCtorEq, omap, depth, pcall, pureR, freezeFor, freezeAll, tupR, resV, purR, enterTm, number, gcOk, rangeEnd, mkTup, allP, eqM, hlt, hpi, h1', hl, ldT_4, stT_T, List.length_map, e_at6, sAt, z5, outAt]
          exact ⟨_, _, _, rfl, rfl⟩
        | some a =>
          have hl : ((s.args.length : Int) ≤ j) = False := by
            have := (List.getElem?_eq_some_iff.1 ha).1
            simp; omega
          have hsi := fun σ => v_iadr (k := .i64) (es := 5) (σ := σ) (map_get (f := Term.row) ha) a.row_len
          refine ⟨fun s' he => by
            simp only [Sum.inl.injEq] at he; subst he
            have := Term.counts_mem (List.mem_of_getElem? ha)
            have := Term.count_eq s
            omega, ?_⟩
          simp only [B0_term_At]
          simp (disch := omega) only [eqs, eqL, ↓gc_len, seval, -List.reduceReplicate, reduceCtorEq, omap, depth, pcall, pureR, freezeFor, freezeAll, tupR, resV, purR, enterTm, number, gcOk, rangeEnd, mkTup, allP, eqM, hlt, hpi, h1', hl, ldT_4, stT_T, hsi, List.length_map, e_at6, sAt, z5]
      · have h1' : (i < 0) = True := by simp; omega
        simp only [h1, if_false]
        refine ⟨fun s' he => (by cases he), ?_⟩
        simp only [B0_term_At]
        simp (disch := omega) only [eqs, eqL, ↓gc_len, seval, -List.reduceReplicate, reduceCtorEq, omap, depth, pcall, pureR, freezeFor, freezeAll, tupR, resV, purR, enterTm, number, gcOk, rangeEnd, mkTup, allP, eqM, hlt, hpi, h1', List.length_map, e_at6, sAt, z5, outAt]
        exact ⟨_, _, _, rfl, rfl⟩) (fun i s => rfl) t hc
  rw [fold_atP] at h
  cases hp : t.atP p with
  | none =>
    rw [hp] at h
    obtain ⟨⟨e, τ', σ', nt', rd'⟩, h1, h2, h3, h4, o0, o1, b, h5, rfl⟩ := h
    simp only at h2 h3 h4 h5
    subst h2; subst h5
    have h' : loopAt P L0_term_At (e_at6 p 0) [.pv 5 [t.row] false, .pv 0 [] false, .av 5 [z5 1] false] 32 none = _ := h1
    simp only [z5] at h'
    (rw [r_term_At (Nat.le_of_ble_eq_true rfl), F_term_At]; simp (disch := omega) only [eqs, eqL, ↓gc_len, seval, -List.reduceReplicate, reduceCtorEq, omap, depth, pcall, pureR, freezeFor, freezeAll, tupR, resV, purR, enterTm, number, gcOk, rangeEnd, mkTup, allP, eqM, List.length_map, k0_term_At, h', h3, h4, z5])
    simp [tupA, zT_row]
  | some x =>
    rw [hp] at h
    obtain ⟨hk, h1⟩ := h
    have h' : loopAt P L0_term_At (e_at6 p 0) [.pv 5 [t.row] false, .pv 0 [] false, .av 5 [z5 1] false] 32 none = _ := h1
    simp only [z5] at h'
    have hcp := s_term_Copy x hk
    (rw [r_term_At (Nat.le_of_ble_eq_true rfl), F_term_At]; simp (disch := omega) only [eqs, eqL, ↓gc_len, seval, -List.reduceReplicate, reduceCtorEq, omap, depth, pcall, pureR, freezeFor, freezeAll, tupR, resV, purR, enterTm, number, gcOk, rangeEnd, mkTup, allP, eqM, List.length_map, k0_term_At, h', B0_term_At, Int.lt_irrefl, e_at6, sAt, z5, q_term_Copy, hcp])
    simp [tupA]
end S
end Go.AE
/- Put. --M-- -/
namespace Go.AE.S
open Go Go.AE
set_option linter.unusedSimpArgs false
set_option linter.unusedVariables false
variable {τ : Tm} {σ : Store} {rd : Option Nat}
theorem put_at (u : Term) : ∀ (p : List Int) (t : Term), (t.putP u p).isSome = (t.atP p).isSome
  | [], t => rfl
  | i :: r, t => by
    simp only [Term.putP, Term.atP]
    by_cases h : 0 ≤ i
    · simp only [h, if_true]
      cases t.args[i.toNat]? with
      | none => rfl
      | some a =>
        have := put_at u r a
        simp only
        rw [← this]
        cases a.putP u r <;> rfl
    · simp only [h, if_false]
theorem slc_one {i : Int} {r : List Int} : slcSV 1 (.p (.lst (irow i :: r.map irow))) (some (.p (.int .i64 1))) none none = some (.p (.lst (r.map irow))) := by
  have hw : wide 1 (irow i :: r.map irow) = true := by
    simp [wide, irow]
  unfold slcSV
  simp only [hw, if_true]
  simp [bounds, boundAt, natOf]
  exact List.take_of_length_le (by simp)
theorem ia_sl {b m e j : Nat} {rows : List (List PV)} {fr : Bool} {σ : Store} (h : σ[b]? = some (.pv e rows fr)) (hl : rows.length = m) (hj : j < m) (he : e = 5) : iadrSV σ 5 (.sl b m) (.p (.int .i64 j)) = some (.ptr b m j 0) := by
  subst he
  unfold iadrSV
  simp [natOf, svec, h, Obj.dims, hl, hj]
theorem stR_T {v : Term} {σ : Store} {b m e j : Nat} {rows : List (List PV)} (hl : rows.length = m) (hw : ∀ x ∈ rows, x.length = 5) (hj : j < m) : stO σ b m j 0 (v.row.map AV.p) (some (.pv e rows false)) = some (σ.set b (.pv e (rows.set j v.row) false)) := by
  have hg : rows[j]? = some rows[j] := List.getElem?_eq_getElem (by omega)
  have ha : allP (v.row.map AV.p) = some v.row := by rw [Term.row_eq]; rfl
  have h5 : (rows[j]'(by omega)).length = 5 := hw _ (List.getElem_mem _)
  have hp : putPart 0 v.row (rows[j]'(by omega)) = some v.row := by
    unfold putPart
    rw [v.row_len, h5, if_pos (by omega)]
    simp [List.drop_of_length_le, h5, v.row_len]
  simp only [stO, hl, if_true, hg, Option.bind_some, ha, hp, Option.map_some]
theorem init_roN {σ : Store} {pa pb pc pd : PV} {bb m : Nat} : initV σ 5 true (some [.p pa, .p pb, .p pc, .p pd, .sl bb m]) = some (.ptr σ.length 1 0 0, σ ++ [.av 5 [[.p pa, .p pb, .p pc, .p pd, .sl bb m]] false]) := rfl
set_option maxHeartbeats 4000000 in
theorem s_term_Put (u : Term) (hu : u.count ≤ 1000000) : ∀ (p : List Int) (t : Term), t.count ≤ 1000000 → p.length ≤ 1000000 → R P f_term_Put [.agg t.row, .lst (p.map irow), .agg u.row] = some (.tup (tupA (t.putP u p)))
  | p, t, hc, hpl => by
    have hA := s_term_At t p hc hpl
    have hpa := put_at u p t
    cases hx : t.atP p with
    | none =>
      rw [hx] at hpa hA
      have hn : t.putP u p = none := by simpa using hpa
      rw [hn]
      simp only [tupA] at hA
      (rw [r_term_Put (Nat.le_of_ble_eq_true rfl), F_term_Put]; simp (disch := omega) only [eqs, eqL, ↓gc_len, seval, -List.reduceReplicate, reduceCtorEq, omap, depth, pcall, pureR, freezeFor, freezeAll, tupR, resV, purR, enterTm, number, gcOk, rangeEnd, mkTup, allP, eqM, q_term_At, hA, z5])
      simp [tupA, zT_row]
    | some x =>
      rw [hx] at hA
      simp only [tupA] at hA
      match p with
      | [] =>
        have hcu := s_term_Copy u hu
        simp only [List.map_nil] at hA
        (rw [r_term_Put (Nat.le_of_ble_eq_true rfl), F_term_Put]; simp (disch := omega) only [eqs, eqL, ↓gc_len, seval, -List.reduceReplicate, reduceCtorEq, omap, depth, pcall, pureR, freezeFor, freezeAll, tupR, resV, purR, enterTm, number, gcOk, rangeEnd, mkTup, allP, eqM, q_term_At, hA, q_term_Copy, hcu, z5])
        simp [tupA, Term.putP]
      | i :: r =>
        simp only [Term.atP] at hx
        split at hx
        · rename_i h0
          split at hx
          · rename_i a ha
            obtain ⟨j, rfl⟩ := Int.eq_ofNat_of_zero_le h0
            simp only [Int.toNat_natCast] at ha
            have hac := Term.counts_mem (List.mem_of_getElem? ha)
            have hct := Term.count_eq t
            have hlen := Term.counts_len t.args
            have hj := (List.getElem?_eq_some_iff.1 ha).1
            have hr := s_term_Put u hu r a (by omega) (by simp at hpl; omega)
            obtain ⟨v, hv⟩ : ∃ v, a.putP u r = some v := by
              have := put_at u r a
              rw [hx] at this
              exact Option.isSome_iff_exists.1 (by simpa using this)
            rw [hv] at hr
            simp only [tupA] at hr
            have hcp := s_Copy2 t hc
            simp only [z5] at hcp
            have hsi := fun σ => v_iadr (k := .i64) (es := 5) (σ := σ) (map_get (f := Term.row) ha) a.row_len
            have hpi : ∀ σ, iadrSV σ 1 (.p (.lst (irow (j : Int) :: r.map irow))) (.p (.int .i64 0)) = some (.p (.ptr (irow (j : Int)) 0)) := fun σ => v_iadr (k := .i64) (es := 1) (σ := σ) (i := 0) (rows := irow (j : Int) :: r.map irow) (r := irow (j : Int)) rfl rfl
            have hso := slc_one (i := (j : Int)) (r := r)
            simp only [irow] at hso
            have he : esOf 5 t.args = 5 := by cases hta : t.args with | nil => rw [hta] at hj; simp at hj | cons => simp [esOf]
            have hz : (((r.length + 1 : Nat) : Int) = 0) = False := by simp; omega
            rw [he] at hcp
            simp only [List.map_cons, irow] at hA
            have hia := fun (o0 o1 o2 o3 o4 o6 : Obj) => ia_sl (σ := [o0, o1, o2, o3, o4, .pv 5 (t.args.map Term.row) false, o6]) (b := 5) (m := t.args.length) (j := j) rfl (by simp) hj rfl
            have hst := fun (σ : Store) => stR_T (v := v) (σ := σ) (b := 5) (m := t.args.length) (e := 5) (j := j) (rows := t.args.map Term.row) (by simp) (fun x hx => by obtain ⟨y, _, rfl⟩ := List.mem_map.1 hx; exact y.row_len) hj
            simp only [irow] at hpi
            (rw [r_term_Put (Nat.le_of_ble_eq_true rfl), F_term_Put]; simp (disch := omega) only [eqs, eqL, ↓gc_len, seval, -List.reduceReplicate, reduceCtorEq, omap, depth, pcall, pureR, freezeFor, freezeAll, tupR, resV, purR, enterTm, number, gcOk, rangeEnd, mkTup, allP, eqM, q_term_At, hA, irow, List.map_cons, List.length_cons, List.length_map, hz, p_term_Copy, hcp, hsi, hpi, hso, q_term_Put, hr, z5, init_roN, hia, hst])
            have hpu : ∀ (k : Nat) (o0 o1 o2 o3 o4 o6 : Obj), purify [o0, o1, o2, o3, o4, .pv 5 ((t.args.map Term.row).set j v.row) false, o6] (k + 1) (.sl 5 t.args.length) = some (.lst ((t.args.map Term.row).set j v.row)) := by
              intro k o0 o1 o2 o3 o4 o6
              simp [purify]
            simp only [hpu, Option.map_some]
            have he2 : t.putP u ((j : Int) :: r) = some (.mk t.op t.w t.v t.name (t.args.set j v)) := by
              simp only [Term.putP, Int.toNat_natCast, ha, hv]
              rw [if_pos h0]
            rw [he2]
            simp only [tupA]
            rw [Term.row_eq (Term.mk t.op t.w t.v t.name (t.args.set j v)), ← List.map_set]
            rfl
          · cases hx
        · cases hx
end Go.AE.S
