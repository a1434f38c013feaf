/- The law of what Var, Const and Make return. --M-- -/
import Derived.Test.YthljaicehpdkbaaC4
namespace Go.AE.S
open Go Go.AE
set_option linter.unusedSimpArgs false
set_option linter.unusedVariables false
variable {τ : Tm} {σ : Store} {rd : Option Nat}
theorem width_leaf (o w v : Int) (h : arity o = 0) : widthW o w v [] = leafW o w v := by
  unfold widthW
  rw [if_neg (by rw [h]; simp), if_neg (by simp), if_pos h]
theorem leaf_const (w x : Int) : leafW 2 (clampW w) (cutW w x) = (clampW w, 0) := by
  unfold leafW
  have hc := clamp_in w
  have hx : cutW w x < 2 ^ (clampW w).toNat := by
    unfold cutW
    have := Nat.mod_lt x.toNat (Nat.two_pow_pos (clampW w).toNat)
    exact_mod_cast this
  rw [if_neg]
  rintro (h | ⟨_, _, h⟩)
  · omega
  · omega
theorem leaf_var (w v : Int) : leafW 1 (clampW w) v = (clampW w, 0) := by
  unfold leafW
  have hc := clamp_in w
  rw [if_neg]
  rintro (h | ⟨h, _⟩) <;> omega
theorem node_const (w x : Int) : nodeN (mkConst w x) = 0 := by
  have hw := width_leaf 2 (clampW w) (cutW w x) rfl
  rw [leaf_const] at hw
  have hc := clamp_in w
  unfold nodeN mkConst
  simp only [Term.op, Term.w, Term.v, Term.name, Term.args, List.map_nil, hw]
  rw [if_neg (by decide), if_neg (by decide), if_neg (by decide), if_neg (by simp), if_neg (by simp), if_neg (by simp), if_neg (by omega), if_neg (by simp), if_neg (by simp)]
theorem node_var (n : ByteArray) (w : Int) : nodeN (mkVar n w) = if nameOk n = false then 5 else 0 := by
  have hw := width_leaf 1 (clampW w) 0 rfl
  rw [leaf_var] at hw
  have hc := clamp_in w
  unfold nodeN mkVar
  simp only [Term.op, Term.w, Term.v, Term.name, Term.args, List.map_nil, hw]
  rw [if_neg (by decide), if_neg (by decide), if_neg (by decide), if_neg (by simp), if_neg (by simp)]
  by_cases h : nameOk n = false
  · rw [if_pos ⟨trivial, h⟩, if_pos h]
  · rw [if_neg (fun h' => h h'.2), if_neg h, if_neg (by omega), if_neg (by simp), if_neg (by simp)]
theorem check_leaf (t : Term) (h : t.args = []) : checkT t = nodeN t := by
  have hp : t.post = [t] := by rw [Term.post_eq, h]; rfl
  have hc : t.count = 1 := by rw [Term.count_eq, h]; rfl
  have hd : t.deep = 1 := by cases t with | mk o w v s as => simp only [Term.args] at h; subst h; rfl
  unfold checkT
  rw [if_pos (by rw [hc, hd]; decide), ckE_eq, hp]
  have e : firstN [t] = nodeN t := by simp only [firstN]; split <;> simp_all
  have e2 : outG [] [t] = false := rfl
  rw [e, e2]
  by_cases h0 : nodeN t = 0
  · rw [if_neg (fun h => h h0), h0]; rfl
  · rw [if_pos h0]
theorem tok_mkV (n : ByteArray) (w : Int) (hn : n.size ≤ 9223372036854775807) : TOk (mkVar n w) := by
  have hc := clamp_in w
  exact tok_leaf (by decide) (by omega) ⟨by decide, by decide⟩ hn
theorem tok_const (w x : Int) (hx : U64 x) : TOk (mkConst w x) := by
  have hc := clamp_in w
  exact tok_leaf (by decide) (by omega) (cut_u64 w hx) (by decide)
theorem tok_mk (o : Int) (l : List Term) (ho : -9223372036854775808 ≤ o ∧ o ≤ 9223372036854775807) (hl : l.length ≤ 9223372036854775807) (ht : ∀ a ∈ l, TOk a) : TOk (mkT o l) :=
  .mk _ ho (width_in o 0 0 _ (by decide)) (show U64 0 from ⟨by decide, by decide⟩) (show (bs []).size ≤ 9223372036854775807 by decide) hl ht
theorem counts_light : ∀ (l : List Term), l.all lightB = true → (Term.counts l : Int) ≤ 200 * l.length
  | [], _ => by simp [Term.counts]
  | a :: l, h => by
    simp only [List.all_cons, Bool.and_eq_true] at h
    have h1 := (of_decide_eq_true h.1).2
    have h2 := counts_light l h.2
    simp only [Term.counts, List.length_cons]
    omega
set_option maxHeartbeats 8000000 in
theorem p_TermMakes (n : ByteArray) (hn : n.size ≤ 9223372036854775807) (w x o : Int) (hx : U64 x) (ho : -9223372036854775808 ≤ o ∧ o ≤ 9223372036854775807) (l : List Term) (hl : l.length ≤ 9223372036854775807) (ht : ∀ a ∈ l, TOk a) :
    R P f_law06_TermMakes [.str n, .int .i64 w, .int .u64 x, .int .i64 o, .lst (l.map Term.row)] = some (.bool true) := by
  have hv := s_l06
  rcases Classical.propComplete ((n.size : Int) > 100) with c1 | c1
  · (rw [r_law06_TermMakes (Nat.le_of_ble_eq_true rfl), F_law06_TermMakes]; simp (disch := omega) only [eqs, eqL, ↓gc_len, seval, -List.reduceReplicate, reduceCtorEq, omap, depth, pcall, pureR, freezeFor, freezeAll, tupR, resV, purR, enterTm, number, gcOk, rangeEnd, mkTup, allP, eqM, c1, q_law06_lives, hv])
  rcases Classical.propComplete ((l.length : Int) > 3) with c2 | c2
  · (rw [r_law06_TermMakes (Nat.le_of_ble_eq_true rfl), F_law06_TermMakes]; simp (disch := omega) only [eqs, eqL, ↓gc_len, seval, -List.reduceReplicate, reduceCtorEq, omap, depth, pcall, pureR, freezeFor, freezeAll, tupR, resV, purR, enterTm, number, gcOk, rangeEnd, mkTup, allP, eqM, c1, List.length_map, c2, q_law06_lives, hv])
  have h3 : l.length ≤ 3 := by have := of_eq_false c2; omega
  have hg := s_light l (by omega) ht
  cases hq : l.all lightB with
  | false =>
    rw [hq] at hg
    (rw [r_law06_TermMakes (Nat.le_of_ble_eq_true rfl), F_law06_TermMakes]; simp (disch := omega) only [eqs, eqL, ↓gc_len, seval, -List.reduceReplicate, reduceCtorEq, omap, depth, pcall, pureR, freezeFor, freezeAll, tupR, resV, purR, enterTm, number, gcOk, rangeEnd, mkTup, allP, eqM, c1, List.length_map, c2, q_law06_light, hg, q_law06_lives, hv])
  | true =>
    rw [hq] at hg
    have hc := counts_light l hq
    have m1 := s_term_Make o l (by omega)
    have m2 := s_r06_Make o l (by omega)
    have v1 := s_term_Var n w
    have v2 := s_r06_Var n w
    have k1 := s_term_Const w x hx
    have k2 := s_r06_Const w x hx
    have e1 := s_r06_Same (mkVar n w) (tok_mkV n w hn) (mkVar n w)
    have e2 := s_r06_Same (mkConst w x) (tok_const w x hx) (mkConst w x)
    have e3 := s_r06_Same (mkT o l) (tok_mk o l ho hl ht) (mkT o l)
    rw [beq_self] at e1 e2 e3
    have g1 := s_r06_Check (mkConst w x) (tok_const w x hx) (show (1 : Nat) + 0 ≤ 1000000 by decide)
    have g2 := s_r06_Check (mkVar n w) (tok_mkV n w hn) (show (1 : Nat) + 0 ≤ 1000000 by decide)
    rw [check_leaf _ rfl, node_const] at g1
    rw [check_leaf _ rfl, node_var] at g2
    have g3 := s_r06_Name n
    cases hk : nameOk n with
    | true =>
      rw [hk] at g2 g3
      have g2' : R P f_r06_Check [.agg (mkVar n w).row] = some (.int .i64 0) := g2
      (rw [r_law06_TermMakes (Nat.le_of_ble_eq_true rfl), F_law06_TermMakes]; simp (disch := omega) only [eqs, eqL, ↓gc_len, seval, -List.reduceReplicate, reduceCtorEq, omap, depth, pcall, pureR, freezeFor, freezeAll, tupR, resV, purR, enterTm, number, gcOk, rangeEnd, mkTup, allP, eqM, c1, List.length_map, c2, q_law06_light, hg, q_law06_lives, hv, q_term_Make, m1, q_r06_Make, m2, q_term_Var, v1, q_r06_Var, v2, q_term_Const, k1, q_r06_Const, k2, q_r06_Same, e1, e2, e3, q_r06_Check, g1, g2', q_r06_Name, g3, bq_tt])
    | false =>
      rw [hk] at g2 g3
      have g2' : R P f_r06_Check [.agg (mkVar n w).row] = some (.int .i64 5) := g2
      (rw [r_law06_TermMakes (Nat.le_of_ble_eq_true rfl), F_law06_TermMakes]; simp (disch := omega) only [eqs, eqL, ↓gc_len, seval, -List.reduceReplicate, reduceCtorEq, omap, depth, pcall, pureR, freezeFor, freezeAll, tupR, resV, purR, enterTm, number, gcOk, rangeEnd, mkTup, allP, eqM, c1, List.length_map, c2, q_law06_light, hg, q_law06_lives, hv, q_term_Make, m1, q_r06_Make, m2, q_term_Var, v1, q_r06_Var, v2, q_term_Const, k1, q_r06_Const, k2, q_r06_Same, e1, e2, e3, q_r06_Check, g1, g2', q_r06_Name, g3, bq_ff])
end Go.AE.S
/- Long terms: chains and sums. --M-- -/
namespace Go.AE.S
open Go Go.AE
set_option linter.unusedSimpArgs false
set_option linter.unusedVariables false
variable {τ : Tm} {σ : Store} {rd : Option Nat}
def notT (t : Term) : Term := .mk 3 8 0 (bs []) [t]
def addT2 (t : Term) : Term := .mk 8 8 0 (bs []) [t, t]
def nots : Nat → Term → Term
  | 0, t => t
  | n + 1, t => notT (nots n t)
def adds : Nat → Term
  | 0 => xX
  | n + 1 => addT2 (adds n)
structure Good (t : Term) : Prop where
  w : t.w = 8
  tok : TOk t
  node : ∀ u ∈ t.post, nodeN u = 0 ∧ (u.op = 1 → u.name = bs [120] ∧ u.w = 8)
theorem good_x : Good xX := ⟨rfl, tok_xX, fun u hu => by
  have : xX.post = [xX] := rfl
  rw [this, List.mem_singleton] at hu
  subst hu
  exact ⟨by decide +kernel, fun _ => ⟨rfl, rfl⟩⟩⟩
theorem mk_not {t : Term} (h : t.w = 8) : mkT 3 [t] = notT t := by
  unfold mkT notT
  simp only [List.map_cons, List.map_nil, h]
  rfl
theorem mk_add {t : Term} (h : t.w = 8) : mkT 8 [t, t] = addT2 t := by
  unfold mkT addT2
  simp only [List.map_cons, List.map_nil, h]
  rfl
def nodeN1 (o : Int) (n : Nat) : Int :=
  if arity o < 0 then 4 else if 24 ≤ o ∧ o ≤ 26 then 4 else if ¬ (n : Int) = arity o then 4
  else if ¬ (bs []) = bs [] ∧ ¬ o = 1 then 4 else if ¬ (0 : Int) = 0 ∧ ¬ o = 2 ∧ ¬ o = 21 then 4
  else if o = 1 ∧ nameOk (bs []) = false then 5 else if (8 : Int) < 1 then 3
  else if ¬ (widthW o 8 0 (List.replicate n 8)).2 = 0 then 3 else if ¬ (widthW o 8 0 (List.replicate n 8)).1 = 8 then 3 else 0
theorem node_not {t : Term} (h : t.w = 8) : nodeN (notT t) = 0 := by
  unfold nodeN
  have e : (notT t).args.map Term.w = [8] := by show [t.w] = [8]; rw [h]
  rw [e]
  show nodeN1 3 1 = 0
  decide +kernel
theorem node_add {t : Term} (h : t.w = 8) : nodeN (addT2 t) = 0 := by
  unfold nodeN
  have e : (addT2 t).args.map Term.w = [8, 8] := by show [t.w, t.w] = [8, 8]; rw [h]
  rw [e]
  show nodeN1 8 2 = 0
  decide +kernel
theorem post_not (t : Term) : (notT t).post = t.post ++ [notT t] := by
  rw [Term.post_eq]; simp [notT, Term.args, Term.posts]
theorem post_add (t : Term) : (addT2 t).post = t.post ++ t.post ++ [addT2 t] := by
  rw [Term.post_eq]; simp [addT2, Term.args, Term.posts]
theorem good_not {t : Term} (h : Good t) : Good (notT t) := ⟨rfl, .mk _ (by show (-9223372036854775808 : Int) ≤ 3 ∧ (3 : Int) ≤ 9223372036854775807; decide) (by show (-9223372036854775808 : Int) ≤ 8 ∧ (8 : Int) ≤ 9223372036854775807; decide) (show U64 0 from ⟨by decide, by decide⟩) (show (bs []).size ≤ 9223372036854775807 by decide) (by show 1 ≤ 9223372036854775807; decide) (fun a ha => by
    have : a ∈ [t] := ha
    rw [List.mem_singleton] at this
    rw [this]; exact h.tok), fun u hu => by
  rw [post_not] at hu
  rcases List.mem_append.1 hu with hu | hu
  · exact h.node u hu
  · rw [List.mem_singleton] at hu
    subst hu
    exact ⟨node_not h.w, fun e => by simp [notT, Term.op] at e⟩⟩
theorem good_add {t : Term} (h : Good t) : Good (addT2 t) := ⟨rfl, .mk _ (by show (-9223372036854775808 : Int) ≤ 8 ∧ (8 : Int) ≤ 9223372036854775807; decide) (by show (-9223372036854775808 : Int) ≤ 8 ∧ (8 : Int) ≤ 9223372036854775807; decide) (show U64 0 from ⟨by decide, by decide⟩) (show (bs []).size ≤ 9223372036854775807 by decide) (by show 2 ≤ 9223372036854775807; decide) (fun a ha => by
    have : a ∈ [t, t] := ha
    have : a = t := by simpa using this
    rw [this]; exact h.tok), fun u hu => by
  rw [post_add] at hu
  rcases List.mem_append.1 hu with hu | hu
  · rcases List.mem_append.1 hu with hu | hu
    · exact h.node u hu
    · exact h.node u hu
  · rw [List.mem_singleton] at hu
    subst hu
    exact ⟨node_add h.w, fun e => by simp [addT2, Term.op] at e⟩⟩
theorem good_nots {t : Term} (h : Good t) : ∀ n, Good (nots n t)
  | 0 => h
  | n + 1 => good_not (good_nots h n)
theorem good_adds : ∀ n, Good (adds n)
  | 0 => good_x
  | n + 1 => good_add (good_adds n)
theorem firstN_good : ∀ {l : List Term}, (∀ u ∈ l, nodeN u = 0) → firstN l = 0
  | [], _ => rfl
  | a :: l, h => by
    simp only [firstN, h a (by simp), if_true]
    exact firstN_good fun u hu => h u (by simp [hu])
theorem outG_good : ∀ (r p : List Term), (∀ u ∈ r, ∀ b ∈ p ++ r, cfl u b = false) → outG p r = false
  | [], p, _ => rfl
  | u :: r, p, h => by
    have h1 : p.any (cfl u) = false := by
      rw [List.any_eq_false]
      intro b hb
      rw [h u (by simp) b (by simp [hb])]; simp
    simp only [outG, h1, Bool.false_or]
    exact outG_good r (p ++ [u]) fun v hv b hb => h v (by simp [hv]) b (by simpa using hb)
theorem ck_good {t : Term} (h : Good t) : ckE t = 0 := by
  have h1 := firstN_good fun u hu => (h.node u hu).1
  have h2 : outG [] t.post = false := outG_good t.post [] fun u hu b hb => by
    have hb' : b ∈ t.post := by simpa using hb
    unfold cfl
    apply decide_eq_false
    rintro ⟨e1, e2, _, e4⟩
    exact e4 (by rw [((h.node u hu).2 e1).2, ((h.node b hb').2 e2).2])
  rw [ckE_eq, h1, h2]
  rfl
theorem check_good {t : Term} (h : Good t) : checkT t = if (t.deep : Int) ≤ 64 ∧ (t.count : Int) ≤ 4096 then 0 else 7 := by
  unfold checkT
  rw [ck_good h]
theorem deep_not (t : Term) : (notT t).deep = t.deep + 1 := by rw [Term.deep_eq]; simp [notT, Term.args, Term.deeps]
theorem deep_add (t : Term) : (addT2 t).deep = t.deep + 1 := by rw [Term.deep_eq]; simp [addT2, Term.args, Term.deeps]
theorem count_not (t : Term) : (notT t).count = t.count + 1 := by rw [Term.count_eq]; simp [notT, Term.args, Term.counts]; omega
theorem count_add (t : Term) : (addT2 t).count = 2 * t.count + 1 := by rw [Term.count_eq]; simp [addT2, Term.args, Term.counts]; omega
theorem deep_nots (t : Term) : ∀ n, (nots n t).deep = t.deep + n
  | 0 => rfl
  | n + 1 => by rw [nots, deep_not, deep_nots t n]; omega
theorem count_nots (t : Term) : ∀ n, (nots n t).count = t.count + n
  | 0 => rfl
  | n + 1 => by rw [nots, count_not, count_nots t n]; omega
theorem deep_adds : ∀ n, (adds n).deep = n + 1
  | 0 => rfl
  | n + 1 => by rw [adds, deep_add, deep_adds n]
theorem count_adds : ∀ n, (adds n).count + 1 = 2 ^ (n + 1)
  | 0 => rfl
  | n + 1 => by rw [adds, count_add, Nat.pow_succ, ← count_adds n]; omega
theorem count_le {n : Nat} (h : n ≤ 12) : (adds n).count ≤ 8191 := by
  have h1 := count_adds n
  have h2 : 2 ^ (n + 1) ≤ 2 ^ 13 := Nat.pow_le_pow_right (by decide) (by omega)
  have h3 : 2 ^ 13 = 8192 := rfl
  omega
end Go.AE.S
/- The law of long terms. --M-- -/
namespace Go.AE.S
open Go Go.AE
set_option linter.unusedSimpArgs false
set_option linter.unusedVariables false
variable {τ : Tm} {σ : Store} {rd : Option Nat}
theorem gc_12 {vs : List AV} {a b : Obj} : gc 1 vs [a, b] = if gcOk 1 vs [a, b] = true then [a] else [a, b] := by unfold gc; rw [if_neg (by simp)]; rfl
theorem gc_23 {vs : List AV} {a b c : Obj} : gc 2 vs [a, b, c] = if gcOk 2 vs [a, b, c] = true then [a, b] else [a, b, c] := by unfold gc; rw [if_neg (by simp)]; rfl
theorem bsl_1 {a : Term} : bsliceV σ 5 1 (fillP (List.replicate 1 [.p (.int .i64 0), .p (.int .i64 0), .p (.int .u64 0), .p (.str (bs [])), .nils]).flatten [(0, 5, .p (.agg a.row))]) = some (.sl σ.length 1, σ ++ [.pv 5 [a.row] false]) := by rw [Term.row_eq a]; rfl
theorem bsl_2 {a b : Term} : bsliceV σ 5 2 (fillP (List.replicate 2 [.p (.int .i64 0), .p (.int .i64 0), .p (.int .u64 0), .p (.str (bs [])), .nils]).flatten [(0, 5, .p (.agg a.row)), (5, 5, .p (.agg b.row))]) = some (.sl σ.length 2, σ ++ [.pv 5 [a.row, b.row] false]) := by rw [Term.row_eq a, Term.row_eq b]; rfl
theorem flat_not {t : Term} : PV.flat (.agg (notT t).row) = false := by rw [Term.row_eq]; simp [PV.flat, notT, Term.args]
theorem flat_add {t : Term} : PV.flat (.agg (addT2 t).row) = false := by rw [Term.row_eq]; simp [PV.flat, addT2, Term.args]
theorem m_not {t : Term} (h : Good t) (hc : t.count ≤ 999999) : R P f_term_Make [.int .i64 3, .lst [t.row]] = some (.agg (notT t).row) := by
  have := s_term_Make 3 [t] (by simp [Term.counts]; omega)
  rw [mk_not h.w] at this
  exact this
theorem m_add {t : Term} (h : Good t) (hc : t.count ≤ 100000) : R P f_term_Make [.int .i64 8, .lst [t.row, t.row]] = some (.agg (addT2 t).row) := by
  have := s_term_Make 8 [t, t] (by simp [Term.counts]; omega)
  rw [mk_add h.w] at this
  exact this
abbrev e_L0 (k d : Int) (i : Nat) : List (Nat × AV) := [(1, .p (.int .u8 k)), (5, .ptr 0 1 0 0), (6, .p (.int .i64 d)), (7, .p (.int .i64 (i + 1 : Nat)))]
set_option maxHeartbeats 4000000 in
theorem l0_Long (k : Int) (m : Nat) (hm : m ≤ 99) : loopAt P L0_law06_TermLong (e_L0 k (m + 1) 0) [.pv 5 [xX.row] false] 92 none = back P [1, 5, 6, 7] B0_law06_TermLong 1 (exec P B0_law06_TermLong ⟨tm (e_L0 k (m + 1) m), [.pv 5 [(nots m xX).row] false], 92, none⟩) := by
  have hf : ∀ (l : List Unit) (i : Nat) (s : Nat), foldE (T := Empty) (fun (i : Nat) (s : Nat) (a : Unit) => .inl (s + 1)) i s l = .inl (s + l.length) := by
    intro l
    induction l with
    | nil => intro i s; rfl
    | cons a l ih => intro i s; simp only [foldE, ih, List.length_cons]; congr 1; omega
  obtain ⟨hk, h⟩ := loop_run (P := P) (nt := 92) (lv := [1, 5, 6, 7]) (b := B0_law06_TermLong) (rd := none) (as := List.replicate m ()) (fun i (_ : Nat) => e_L0 k (m + 1) i) (fun s => [.pv 5 [(nots s xX).row] false]) (fun i s a => s + 1) (fun i s => s = i)
    (fun i a s ha hi hs => by
      subst hs
      rw [List.length_replicate] at hi
      refine ⟨rfl, ?_⟩
      have hg := good_nots good_x s
      have hcnt : (nots s xX).count ≤ 999999 := by rw [count_nots]; have : xX.count = 1 := rfl; omega
      have hmk := m_not hg hcnt
      have hlt : (((s + 1 : Nat) : Int) < m + 1) = True := by simp; omega
      have hlt2 : ((s : Int) + 1 < m + 1) = True := by simp; omega
      simp only [B0_law06_TermLong]
      simp (disch := omega) only [eqs, eqL, ↓gc_len, seval, -List.reduceReplicate, reduceCtorEq, omap, depth, pcall, pureR, freezeFor, freezeAll, tupR, resV, purR, enterTm, number, gcOk, rangeEnd, mkTup, allP, eqM, hlt, hlt2, bsl_1, q_term_Make, hmk, flat_not, refs_go, rfO_pv, frz_go, frzO_pv, stT_T, gc_12, e_L0, nots]) (fun i s => rfl) 0 rfl _ (hf _ 0 0)
  rw [List.length_replicate, Nat.zero_add] at h
  exact h
end Go.AE.S
/- The law of long terms, the sums. --M-- -/
namespace Go.AE.S
open Go Go.AE
set_option linter.unusedSimpArgs false
set_option linter.unusedVariables false
variable {τ : Tm} {σ : Store} {rd : Option Nat}
theorem fold_rep : ∀ (l : List Unit) (i : Nat) (s : Nat), foldE (T := Empty) (fun (i : Nat) (s : Nat) (a : Unit) => .inl (s + 1)) i s l = .inl (s + l.length)
  | [], i, s => rfl
  | a :: l, i, s => by simp only [foldE, fold_rep l (i + 1) (s + 1), List.length_cons]; congr 1; omega
abbrev e_L1 (k : Int) (i s : Nat) : List (Nat × AV) := [(1, .p (.int .u8 k)), (8, .ptr 1 1 0 0), (9, .p (.int .i64 (adds s).count)), (10, .p (.int .i64 i))]
theorem cnt_add (t : Term) : ((addT2 t).count : Int) = 2 * t.count + 1 := by rw [count_add]; simp
theorem cnt_not (t : Term) : ((notT t).count : Int) = t.count + 1 := by rw [count_not]; simp
set_option maxHeartbeats 4000000 in
theorem l1_Long (T : Term) (k : Int) (hk : 0 ≤ k ∧ k ≤ 255) (j : Nat) (hj : k.tmod 13 = j) (hjm : j ≤ 12) : loopAt P L1_law06_TermLong (e_L1 k 0 0) [.pv 5 [T.row] false, .pv 5 [xX.row] false] 92 none = back P [1, 8, 9, 10] B1_law06_TermLong 2 (exec P B1_law06_TermLong ⟨tm (e_L1 k j j), [.pv 5 [T.row] false, .pv 5 [(adds j).row] false], 92, none⟩) := by
  obtain ⟨hq, h⟩ := loop_run (P := P) (nt := 92) (lv := [1, 8, 9, 10]) (b := B1_law06_TermLong) (rd := none) (as := List.replicate j ()) (fun i (s : Nat) => e_L1 k i s) (fun s => [.pv 5 [T.row] false, .pv 5 [(adds s).row] false]) (fun i s a => s + 1) (fun i s => s = i)
    (fun i a s ha hi hs => by
      subst hs
      rw [List.length_replicate] at hi
      refine ⟨rfl, ?_⟩
      have hg := good_adds s
      have hcnt := count_le (n := s) (by omega)
      have hmk := m_add hg (by omega)
      have hw : IntKind.i64.wrap k = k := IntWalk.i64_in _ (by omega)
      have hrem : arithV .rem (.p (.int .i64 k)) (.p (.int .i64 13)) = some (.p (.int .i64 j)) := by rw [v_rem (by decide), hj]
      have hlt : ((s : Int) < j) = True := by simp; omega
      have hca : ((2 * (adds s).count + 1 : Nat) : Int) = 2 * (adds s).count + 1 := by simp
      have hw2 : IntKind.i64.wrap (2 * ((adds s).count : Int)) = 2 * ((adds s).count : Int) := IntWalk.i64_in _ (by omega)
      have hw3 : IntKind.i64.wrap (2 * ((adds s).count : Int) + 1) = 2 * ((adds s).count : Int) + 1 := IntWalk.i64_in _ (by omega)
      simp only [B1_law06_TermLong]
      simp (disch := omega) only [eqs, eqL, ↓gc_len, seval, -List.reduceReplicate, reduceCtorEq, omap, depth, pcall, pureR, freezeFor, freezeAll, tupR, resV, purR, enterTm, number, gcOk, rangeEnd, mkTup, allP, eqM, hw, hrem, hlt, bsl_2, q_term_Make, hmk, flat_add, refs_go, rfO_pv, frz_go, frzO_pv, stT_T, gc_23, e_L1, adds, count_add, hca, hw2, hw3]) (fun i s => rfl) 0 rfl _ (fold_rep _ 0 0)
  rw [List.length_replicate, Nat.zero_add] at h
  exact h
abbrev e_L2 (A : Term) (i r : Nat) : List (Nat × AV) := [(8, .ptr 1 1 0 0), (9, .p (.int .i64 (nots r A).count)), (11, .p (.int .i64 i))]
set_option maxHeartbeats 4000000 in
theorem l2_Long (T A : Term) (hA : Good A) (hd : A.deep ≤ 20) (hc : A.count ≤ 10000) : loopAt P L2_law06_TermLong (e_L2 A 0 0) [.pv 5 [T.row] false, .pv 5 [A.row] false] 92 none = back P [8, 9, 11] B2_law06_TermLong 2 (exec P B2_law06_TermLong ⟨tm (e_L2 A 3 3), [.pv 5 [T.row] false, .pv 5 [(nots 3 A).row] false], 92, none⟩) := by
  obtain ⟨hq, h⟩ := loop_run (P := P) (nt := 92) (lv := [8, 9, 11]) (b := B2_law06_TermLong) (rd := none) (as := List.replicate 3 ()) (fun i (s : Nat) => e_L2 A i s) (fun s => [.pv 5 [T.row] false, .pv 5 [(nots s A).row] false]) (fun i s a => s + 1) (fun i s => s = i)
    (fun i a s ha hi hs => by
      subst hs
      rw [List.length_replicate] at hi
      refine ⟨rfl, ?_⟩
      have hg := good_nots hA s
      have hcn := count_nots A s
      have hdn := deep_nots A s
      have hmk := m_not hg (by omega)
      have hck := s_term_Check _ hg.tok (by omega)
      have hsz := s_term_Size (nots s A) (by omega)
      rw [check_good hg] at hck
      have hlt : ((s : Int) < 3) = True := by simp; omega
      have hca : (((nots s A).count + 1 : Nat) : Int) = (nots s A).count + 1 := by simp
      simp only [B2_law06_TermLong]
      rcases Classical.propComplete (((nots s A).count : Int) ≤ 4096) with c1 | c1
      · have c2 : (((nots s A).count : Int) > 4096) = False := by have := of_eq_true c1; simp; omega
        rw [if_pos ⟨by omega, of_eq_true c1⟩] at hck
        simp (disch := omega) only [eqs, eqL, ↓gc_len, seval, -List.reduceReplicate, reduceCtorEq, omap, depth, pcall, pureR, freezeFor, freezeAll, tupR, resV, purR, enterTm, number, gcOk, rangeEnd, mkTup, allP, eqM, hlt, c1, c2, bsl_1, q_term_Check, hck, q_term_Size, hsz, q_term_Make, hmk, flat_not, refs_go, rfO_pv, frz_go, frzO_pv, stT_T, gc_23, e_L2, nots, count_not, hca, bq_tt, bq_ff, bq_tf, bq_ft]
      · have c2 : (((nots s A).count : Int) > 4096) = True := by have := of_eq_false c1; simp; omega
        rw [if_neg (fun h => of_eq_false c1 h.2)] at hck
        simp (disch := omega) only [eqs, eqL, ↓gc_len, seval, -List.reduceReplicate, reduceCtorEq, omap, depth, pcall, pureR, freezeFor, freezeAll, tupR, resV, purR, enterTm, number, gcOk, rangeEnd, mkTup, allP, eqM, hlt, c1, c2, bsl_1, q_term_Check, hck, q_term_Size, hsz, q_term_Make, hmk, flat_not, refs_go, rfO_pv, frz_go, frzO_pv, stT_T, gc_23, e_L2, nots, count_not, hca, bq_tt, bq_ff, bq_tf, bq_ft]) (fun i s => rfl) 0 rfl _ (fold_rep _ 0 0)
  exact h
set_option maxHeartbeats 8000000 in
theorem p_TermLong (n k : Int) (hn : 0 ≤ n ∧ n ≤ 255) (hk : 0 ≤ k ∧ k ≤ 255) : R P f_law06_TermLong [.int .u8 n, .int .u8 k] = some (.bool true) := by
  have hv := s_l06
  obtain ⟨m, hm, hm9⟩ : ∃ m : Nat, n.tmod 100 = m ∧ m ≤ 99 := ⟨(n % 100).toNat, by rw [Int.tmod_eq_emod_of_nonneg hn.1]; omega, by omega⟩
  obtain ⟨j, hj, hj12⟩ : ∃ j : Nat, k.tmod 13 = j ∧ j ≤ 12 := ⟨(k % 13).toNat, by rw [Int.tmod_eq_emod_of_nonneg hk.1]; omega, by omega⟩
  have hwn : IntKind.i64.wrap n = n := IntWalk.i64_in _ (by omega)
  have hwk : IntKind.i64.wrap k = k := IntWalk.i64_in _ (by omega)
  have hrn : arithV .rem (.p (.int .i64 n)) (.p (.int .i64 100)) = some (.p (.int .i64 m)) := by rw [v_rem (by decide), hm]
  have hrk : arithV .rem (.p (.int .i64 k)) (.p (.int .i64 13)) = some (.p (.int .i64 j)) := by rw [v_rem (by decide), hj]
  have hw1 : (1 + (m : Int)) = ((m + 1 : Nat) : Int) := by omega
  have hwm : IntKind.i64.wrap (((m + 1 : Nat)) : Int) = ((m + 1 : Nat) : Int) := IntWalk.i64_in _ (by omega)
  have hT := good_nots good_x m
  have hcT : (nots m xX).count = m + 1 := by rw [count_nots]; show 1 + m = m + 1; omega
  have hdT : (nots m xX).deep = m + 1 := by rw [deep_nots]; show 1 + m = m + 1; omega
  have hck := s_term_Check _ hT.tok (by omega)
  rw [check_good hT, hdT, hcT] at hck
  have hD := s_term_Depth (nots m xX) (by omega)
  rw [hdT] at hD
  have hD' : R P f_term_Depth [.agg (nots m xX).row] = some (.int .i64 ((m + 1 : Nat) : Int)) := hD
  have g0 : loopAt P L0_law06_TermLong [(1, .p (.int .u8 k)), (5, .ptr 0 1 0 0), (6, .p (.int .i64 ((m + 1 : Nat) : Int))), (7, .p (.int .i64 1))] [.pv 5 [xX.row] false] 92 none = _ := l0_Long k m hm9
  have g1 : loopAt P L1_law06_TermLong [(1, .p (.int .u8 k)), (8, .ptr 1 1 0 0), (9, .p (.int .i64 1)), (10, .p (.int .i64 0))] [.pv 5 [(nots m xX).row] false, .pv 5 [xX.row] false] 92 none = _ := l1_Long (nots m xX) k hk j hj hj12
  have g2 : loopAt P L2_law06_TermLong [(8, .ptr 1 1 0 0), (9, .p (.int .i64 (adds j).count)), (11, .p (.int .i64 0))] [.pv 5 [(nots m xX).row] false, .pv 5 [(adds j).row] false] 92 none = _ := l2_Long (nots m xX) (adds j) (good_adds j) (by rw [deep_adds]; omega) (by have := count_le hj12; omega)
  have e1 : (m : Int) + 1 = ((m + 1 : Nat) : Int) := rfl
  simp only [e_L0, e_L1, e_L2, e1] at g0 g1 g2
  have i1 : (((m + 1 : Nat) : Int) < ((m + 1 : Nat) : Int)) = False := by simp
  have i2 : ((3 : Nat) : Int) = 3 := rfl
  rcases Classical.propComplete (((m + 1 : Nat) : Int) ≤ 64) with c1 | c1
  · have c2 : (((m + 1 : Nat) : Int) > 64) = False := by have := of_eq_true c1; simp; omega
    have hck' : R P f_term_Check [.agg (nots m xX).row] = some (.int .i64 0) := by
      rw [hck, if_pos ⟨of_eq_true c1, by have := of_eq_true c1; omega⟩]
    (rw [r_law06_TermLong (Nat.le_of_ble_eq_true rfl), F_law06_TermLong]; simp (disch := omega) only [eqs, eqL, ↓gc_len, seval, -List.reduceReplicate, reduceCtorEq, omap, depth, pcall, pureR, freezeFor, freezeAll, tupR, resV, purR, enterTm, number, gcOk, rangeEnd, mkTup, allP, eqM, q_term_Var, x_Var, hwn, hrn, hw1, hwm, k0_law06_TermLong, g0, B0_law06_TermLong, i1, Int.lt_irrefl, q_term_Check, hck', c1, c2, q_term_Depth, hD', bq_tt, bq_ff, bq_tf, bq_ft, k1_law06_TermLong, g1, B1_law06_TermLong, hwk, hrk, k2_law06_TermLong, g2, B2_law06_TermLong, i2, q_law06_lives, hv])
  · have c2 : (((m + 1 : Nat) : Int) > 64) = True := by have := of_eq_false c1; simp; omega
    have hck' : R P f_term_Check [.agg (nots m xX).row] = some (.int .i64 7) := by
      rw [hck, if_neg (fun h => of_eq_false c1 h.1)]
    (rw [r_law06_TermLong (Nat.le_of_ble_eq_true rfl), F_law06_TermLong]; simp (disch := omega) only [eqs, eqL, ↓gc_len, seval, -List.reduceReplicate, reduceCtorEq, omap, depth, pcall, pureR, freezeFor, freezeAll, tupR, resV, purR, enterTm, number, gcOk, rangeEnd, mkTup, allP, eqM, q_term_Var, x_Var, hwn, hrn, hw1, hwm, k0_law06_TermLong, g0, B0_law06_TermLong, i1, Int.lt_irrefl, q_term_Check, hck', c1, c2, q_term_Depth, hD', bq_tt, bq_ff, bq_tf, bq_ft, k1_law06_TermLong, g1, B1_law06_TermLong, hwk, hrk, k2_law06_TermLong, g2, B2_law06_TermLong, i2, q_law06_lives, hv])
end Go.AE.S
